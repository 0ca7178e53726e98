/- Walks and laws, printed by program and by hand: what each function comes to, for all arguments, part 7. -/
import Derived.Test.YtghikkinnchndaaGreatA6
import Derived.BigQuiet
import Derived.Test.YtghikkinnchndaaGreatRows
import Derived.ProofKit
import Derived.OpenShut
import Derived.Carry
import Derived.Lib.SmallJoins
namespace Go.Proofs.YtghikkinnchndaaGreat
open Go.Proofs.Tryz
set_option linter.unusedVariables false
set_option linter.unusedSimpArgs false
set_option maxRecDepth 100000
set_option maxHeartbeats 4000000
open Go.RowKit
open Go.Proofs.Tryz
open Go.Proofs.YtghikkinnchndaaGreat.Tot (tot)
open Go.Proofs.YtghikkinnchndaaGreat.Mark (dN mrk mkd mkd_mark cnt_mark)
variable{Pk qa Qe jY je xY zX:yLN}{Ns:List yLN}{P:Program}{W0 w:World}{BI jz qU vC xC zK zg:yOA}{fx i j sz:Nat}{e t:TypeId}{hi k lo n:Int}{l:yLI}{ps:List Prv}{v z:Value}{x y:Operand}{Γ:List Fact}
section
theorem newMill_ok(s:qO)(own:yLI)(ap:yOA)(cp:Nat)(Fp:yLN)(ar:yOA)(cr:Nat)(Fr:yLN)(ao:yOA)(co:Nat)(Fo:yLN)(t:xn)(tA:yOA)(cA:Nat)(FA:yLN)(tB:yOA)(cB:Nat)(FB:yLN)(tU:yOA)(cU:Nat)(FU:yLN)(n:Nat)(H:St W0 w (ps) ((sF false Fp ap cp s.qA)::(sF false Fr ar cr s.qB)::(sF false Fo ao co own)::(sF false FA tA cA t.xF)::(sF false FB tB cB t.qG)::(sF false FU tU cU t.qF)::Γ))(N:Fresh W0.heap.size (Ns))(K0:Kept Ns Γ)(p0:Giv s own n)(p1:Xw own n)(p2:vU s t):Calls Tryz.prog 70 #[.agg #[yI s.qN,Sv ap s.qA.length cp,Sv ar s.qB.length cr],Sv ao own.length co,.agg #[Sv tA t.xF.length cA,Sv tB t.qG.length cB,Sv tU t.qF.length cU]] w (fun e w'=>∃v,e=.returned v/\∃(bk:Nat) (eB:yOA) (ee:Nat) (cz:Nat) (bV:List Value) (aC:yLN) (cF:yOA) (j9:Nat) (bH:Nat) (bL:List Value) (az:yLN),v=pp bk 0/\Fresh W0.heap.size (aC::az::Ns)/\St W0 w' ((.box bk [Sv eB ee cz,Sv cF j9 bH,yI s.qN,Sv ap s.qA.length cp,Sv ar s.qB.length cr,Sv ao own.length co] 74)::(rr eB ee cz 49 16 bV)::(rr cF j9 bH 77 4 bL)::ps) ((sF false Fp ap cp s.qA)::(sF false Fr ar cr s.qB)::(sF false Fo ao co own)::(sF false FA tA cA t.xF)::(sF false FB tB cB t.qG)::(sF false FU tU cU t.qF)::(qQ true aC bV ((xg s own t n).qE))::(qQ true az bL ((xg s own t n).x9))::Γ)):=by
 refine en func70 ntmps70 ?_
 have Ir:=qM (H.get 2 rfl).1
 have e1:=max_own p1
 have e2:=p1.one
 have e4:=p1.bds.1
 have p6:own.length=s.qA.length:=p0.len
 have p7:=p0.sys.1.2.1
 have p8:zM s=s.qA.length:=rfl
 have p9:=p0.sys.1.1
 have p10:=zeros_len s<|s.qA.length+1
 have p11:=p2.2.1
 have p5:=p0.sys.1
 have b3:=(vP p2.2.2.2.1).1
 refine zcr<|sw<|jq H (yS s ap cp ar cr) fun b1 w2 H=>sw<|jq H (yT t tA cA tB cB tU cU) fun b3 w4 H=>sq 1<|zjc<|sw<|xW (yS s ap cp ar cr) isAgg27 sizeOf27 rfl (qH (H.cells 1 rfl) 0 3)<|sq 1<|sw<|jE [yN,yN,yI s.qN,Sv ap s.qA.length cp,Sv ar s.qB.length cr,Sv ao own.length co] [(1,.agg #[yI s.qN,Sv ap s.qA.length cp,Sv ar s.qB.length cr]),(2,Sv ao own.length co)]<|sw<|jq H [yN,yN,yI s.qN,Sv ap s.qA.length cp,Sv ar s.qB.length cr,Sv ao own.length co] fun b5 w6 H=>sq 1<|zjcc<|sq 1<|sw<|oq (maxI_ok _ own (H.get 2 rfl).1 qg) H fun w8 H=>(sw<|zS (maxL own) 1 rfl rfl qf<|sp (yI 0)<|zjn<|xe ?_)
 replace H:=H.nilRow 49 16
 replace H:=H.yD (α:=zu)
 refine zT ((fun Z0 Z1 Z2 Z3 Z4 Z5 Z6 Z7=>fun m' ρ sI=>∃(xP:Env) (i:Nat) (zq:yOA) (zi:Nat) (zo:Nat) (dp:List zu) (xR:List Value) (qX:yLN),ρ=upd (upd (upd (upd (upd (upd xP 1<|Sv ao own.length co) 3<|pp b1 0) 5<|pp b3 0) 7<|pp b5 0) 18<|yI ((maxL own)+1)) 19 (yI i)/\dp=QN s own t i/\((i:Int)<=((maxL own)+1))/\m'=(((maxL own)+1)-(i:Int)).toNat/\Fresh W0.heap.size (qX::Ns)/\St W0 sI ((rr zq zi zo 49 16 xR)::(.box b5 [Sv zq zi zo,yN,yI s.qN,Sv ap s.qA.length cp,Sv ar s.qB.length cr,Sv ao own.length co] 74)::Z0::Z1::ps) ((qQ true qX xR dp)::Z2::Z3::Z4::Z5::Z6::Z7::Γ)) _ _ _ _ _ _ _ _) ((((maxL own)+1)-(0:Int)).toNat) ⟨_,0,none,0,0,([]:List zu),[],[],uE6,(by rfl),qf,rfl,N.emp,H⟩ ?_
 clear H N
 rintro m' ρ BF ⟨xP,i,zq,zi,zo,dp,xR,qX,rfl,rfl,i0,rfl,N,H⟩
 have nW:=H.xk (α:=zu) 0 rfl 0 rfl qj
 have kl:=beginTo_len s own t i
 refine zcr<|sq 1<|zjn<|xM<|cD rfl (fun lw=>?_)<|fun lw=>?_
 ·refine qW (t_n<|xM<|xe<|zcr<|sp (yI i)<|sp (yI i)<|zjn<|xM<|c_lateC 1 (fun ρ Kk=>∃(xP:Env) (xj:Nat) (gE:Nat) (DV:Nat) (VT:Nat) (S4:List Value) (F18:yLN),ρ=upd (upd (upd (upd (upd (upd (upd (upd (upd xP 1<|Sv ao own.length co) 3<|pp b1 0) 5<|pp b3 0) 7<|pp b5 0) 8<|yI i) 9<|pp VT 0) 18<|yI ((maxL own)+1)) 19<|yI i) 30 (.agg #[yI 0,Sv (aa xj 0) s.qA.length gE,Sv (aa DV 0) s.qN.toNat s.qN.toNat,Bv false,yN,yN,yN,yN])/\Fresh W0.heap.size (F18::qX::Ns)/\St W0 Kk ((.box VT [yI 0,yN,yN,Bv false,yN,yN,yN,yN] 47)::(rr (aa DV 0) s.qN.toNat s.qN.toNat 2 1 ((List.replicate s.qN.toNat (0:Int)).map<|Value.int .i64))::(rr (aa xj 0) s.qA.length gE 24 1 S4)::(rr zq zi zo 49 16 xR)::(.box b5 [Sv zq zi zo,yN,yI s.qN,Sv ap s.qA.length cp,Sv ar s.qB.length cr,Sv ao own.length co] 74)::(.box b3 (yT t tA cA tB cB tU cU) 31)::(.box b1 (yS s ap cp ar cr) 27)::ps) ((qQ true F18 S4 ((jG s<|s.qA.length+1).take s.qA.length))::(qQ true qX xR<|QN s own t i)::(sF false Fp ap cp s.qA)::(sF false Fr ar cr s.qB)::(sF false Fo ao co own)::(sF false FA tA cA t.xF)::(sF false FB tB cB t.qG)::(sF false FU tU cU t.qF)::Γ)) rfl H [0,1,2,3] [0,1,2,3,4,5,6] (fun H=>?_) ?_)
  ·dsimp only[yg,yL]
   refine QX (fun ρ I8=>∃(xP:Env) (wK:Nat) (eR:Nat) (sK:Nat) (Sg:Nat) (P3:List Value) (F26:yLN),ρ=upd (upd (upd (upd (upd (upd (upd (upd (upd (upd xP 1<|Sv ao own.length co) 3<|pp b1 0) 5<|pp b3 0) 7<|pp b5 0) 8<|yI i) 9<|pp Sg 0) 18<|yI ((maxL own)+1)) 19<|yI i) 26<|Sv (aa wK 0) s.qA.length eR) 29 (Sv (aa sK 0) s.qN.toNat s.qN.toNat)/\Fresh W0.heap.size (F26::qX::Ns)/\St W0 I8 ((.box Sg [yI 0,yN,yN,Bv false,yN,yN,yN,yN] 47)::(rr (aa sK 0) s.qN.toNat s.qN.toNat 2 1 ((List.replicate s.qN.toNat (0:Int)).map<|Value.int .i64))::(rr (aa wK 0) s.qA.length eR 24 1 P3)::(rr zq zi zo 49 16 xR)::(.box b5 [Sv zq zi zo,yN,yI s.qN,Sv ap s.qA.length cp,Sv ar s.qB.length cr,Sv ao own.length co] 74)::(.box b3 (yT t tA cA tB cB tU cU) 31)::(.box b1 (yS s ap cp ar cr) 27)::ps) ((qQ true F26 P3 ((jG s<|s.qA.length+1).take s.qA.length))::(qQ true qX xR<|QN s own t i)::(sF false Fp ap cp s.qA)::(sF false Fr ar cr s.qB)::(sF false Fo ao co own)::(sF false FA tA cA t.xF)::(sF false FB tB cB t.qG)::(sF false FU tU cU t.qF)::Γ)) 1 #[true,true,true,true,true,true,true,true,false,true] ?_ fun L27=>?_
   ·rintro ρ JJ ⟨xP,wK,eR,sK,Sg,P3,F26,rfl,N,H⟩
    refine ro 8 rfl<|jE [yI 0,Sv (aa wK 0) s.qA.length eR,Sv (aa sK 0) s.qN.toNat s.qN.toNat,Bv false,yN,yN,yN,yN] [(1,Sv (aa wK 0) s.qA.length eR),(2,Sv (aa sK 0) s.qN.toNat s.qN.toNat)]<|⟨H.pick (zR 3 4)<|zR 1 7,(xy qh ((meet ⟨_,wK,eR,sK,Sg,P3,F26,uE9,N,H⟩)))⟩
   refine QX (fun ρ FY=>∃(xP:Env) (FSz:Nat) (Fh:Nat) (Pm:Nat) (MD:List Value) (F34:yLN),ρ=upd (upd (upd (upd (upd (upd (upd (upd (upd xP 1<|Sv ao own.length co) 3<|pp b1 0) 5<|pp b3 0) 7<|pp b5 0) 8<|yI i) 18<|yI ((maxL own)+1)) 19<|yI i) 26<|Sv (aa FSz 0) s.qA.length Fh) 29 (Sv (aa Pm 0) s.qN.toNat s.qN.toNat)/\Fresh W0.heap.size (F34::qX::Ns)/\St W0 FY ((rr (aa Pm 0) s.qN.toNat s.qN.toNat 2 1 ((List.replicate s.qN.toNat (0:Int)).map<|Value.int .i64))::(rr (aa FSz 0) s.qA.length Fh 24 1 MD)::(rr zq zi zo 49 16 xR)::(.box b5 [Sv zq zi zo,yN,yI s.qN,Sv ap s.qA.length cp,Sv ar s.qB.length cr,Sv ao own.length co] 74)::(.box b3 (yT t tA cA tB cB tU cU) 31)::(.box b1 (yS s ap cp ar cr) 27)::ps) ((qQ true F34 MD ((jG s<|s.qA.length+1).take s.qA.length))::(qQ true qX xR<|QN s own t i)::(sF false Fp ap cp s.qA)::(sF false Fr ar cr s.qB)::(sF false Fo ao co own)::(sF false FA tA cA t.xF)::(sF false FB tB cB t.qG)::(sF false FU tU cU t.qF)::Γ)) 2 #[true,true,true,true,true,true,true,true,false,false] ?_ fun L35=>?_
   ·rintro ρ w37 ⟨xP,FSz,Fh,Pm,MD,F34,rfl,N,H⟩
    refine jC [8,9] qh qm<|yV rfl ?_<|yV rfl ?_ jD
    ·refine jE [yI 0,Sv (aa FSz 0) s.qA.length Fh,Sv (aa Pm 0) s.qN.toNat s.qN.toNat,Bv false,yN,yN,yN,yN] [(1,Sv (aa FSz 0) s.qA.length Fh),(2,Sv (aa Pm 0) s.qN.toNat s.qN.toNat)]<|⟨H.pick (zR 2 4)<|zR 1 7,(ro 9 rfl<|zn H ti47 [yI 0,yN,yN,Bv false,yN,yN,yN,yN] fun b38 Rr H=>⟨H.pick (zR 3 4)<|zR 1 7,(xy qh ((meet ⟨_,FSz,Fh,Pm,b38,MD,F34,uE9,N,H⟩)))⟩)⟩
    refine zn H ti47 [yI 0,yN,yN,Bv false,yN,yN,yN,yN] fun VX w41 H=>⟨H.pick (zR 3 4)<|zR 1 7,(yP L27 ⟨_,FSz,Fh,Pm,VX,MD,F34,uE10,N,H⟩)⟩
   refine QX (fun ρ w48=>∃(xP:Env) (RH:Nat) (RA:Nat) (b44:Nat) (RT:List Value) (F46:yLN),ρ=upd (upd (upd (upd (upd (upd (upd (upd (upd (upd xP 1<|Sv ao own.length co) 3<|pp b1 0) 5<|pp b3 0) 7<|pp b5 0) 8<|yI i) 9<|pp b44 0) 18<|yI ((maxL own)+1)) 19<|yI i) 26<|Sv (aa RH 0) s.qA.length RA) 28 (yI s.qN)/\Fresh W0.heap.size (F46::qX::Ns)/\St W0 w48 ((.box b44 [yI 0,yN,yN,Bv false,yN,yN,yN,yN] 47)::(rr (aa RH 0) s.qA.length RA 24 1 RT)::(rr zq zi zo 49 16 xR)::(.box b5 [Sv zq zi zo,yN,yI s.qN,Sv ap s.qA.length cp,Sv ar s.qB.length cr,Sv ao own.length co] 74)::(.box b3 (yT t tA cA tB cB tU cU) 31)::(.box b1 (yS s ap cp ar cr) 27)::ps) ((qQ true F46 RT ((jG s<|s.qA.length+1).take s.qA.length))::(qQ true qX xR<|QN s own t i)::(sF false Fp ap cp s.qA)::(sF false Fr ar cr s.qB)::(sF false Fo ao co own)::(sF false FA tA cA t.xF)::(sF false FB tB cB t.qG)::(sF false FU tU cU t.qF)::Γ)) 2 #[true,true,true,true,true,true,true,false,false,true] ?_ fun L47=>?_
   ·rintro ρ w49 ⟨xP,RH,RA,b44,RT,F46,rfl,N,H⟩
    refine ro 7 rfl<|jP H underlying24 ti2 s.qN.toNat rfl rfl qf qf qf fun b50 w51 H=>⟨H.pick (zR 3 4)<|zR 1 7,(yP L27 ⟨_,RH,RA,b50,b44,RT,F46,uE10,N,H.xm 7 8 (1::0::zR 2 5) (zR 0 8) (by simp only[List.length_cons,List.length_append];omega)<|by simp only[List.length_cons,List.length_append];omega⟩)⟩
   refine QX (fun ρ w59=>∃(xP:Env) (Zv:yOA) (RO:Nat) (Uq:Nat) (PI:Nat) (K9:List Value) (acL:yLN),ρ=upd (upd (upd (upd (upd (upd (upd (upd (upd (upd (upd xP 1<|Sv ao own.length co) 3<|pp b1 0) 5<|pp b3 0) 7<|pp b5 0) 8<|yI i) 9<|pp PI 0) 18<|yI ((maxL own)+1)) 19<|yI i) 23<|Sv Zv ((jG s<|s.qA.length+1).length) RO) 25<|yI s.qA.length) 29 (Sv (aa Uq 0) s.qN.toNat s.qN.toNat)/\Fresh W0.heap.size (acL::qX::Ns)/\St W0 w59 ((.box PI [yI 0,yN,yN,Bv false,yN,yN,yN,yN] 47)::(rr (aa Uq 0) s.qN.toNat s.qN.toNat 2 1 ((List.replicate s.qN.toNat (0:Int)).map<|Value.int .i64))::(rr Zv ((jG s<|s.qA.length+1).length) RO 24 1 K9)::(rr zq zi zo 49 16 xR)::(.box b5 [Sv zq zi zo,yN,yI s.qN,Sv ap s.qA.length cp,Sv ar s.qB.length cr,Sv ao own.length co] 74)::(.box b3 (yT t tA cA tB cB tU cU) 31)::(.box b1 (yS s ap cp ar cr) 27)::ps) ((qQ true acL K9<|jG s<|s.qA.length+1)::(qQ true qX xR<|QN s own t i)::(sF false Fp ap cp s.qA)::(sF false Fr ar cr s.qB)::(sF false Fo ao co own)::(sF false FA tA cA t.xF)::(sF false FB tB cB t.qG)::(sF false FU tU cU t.qF)::Γ)) 2 #[true,true,true,true,false,true,true,true,false,true] ?_ fun L58=>?_
   ·rintro ρ w60 ⟨xP,Zv,RO,Uq,PI,K9,acL,rfl,N,H⟩
    refine ro 4 rfl ?_
    obtain⟨b61,rfl⟩:=H.jB 2 rfl qf
    have aGL:=H.rowCap 2 rfl
    refine o_up s.qA.length underlying29 ti24 rfl rfl qf ?_
    obtain⟨awN,F64,ama,H⟩:=H.rowHead 2 rfl 0 rfl s.qA.length qf qf
    dsimp only[List.set] at H
    replace N:Fresh W0.heap.size (F64::qX::Ns):=Fresh.less N ama.1 ama.2
    refine⟨H.pick (zR 3 4)<|zR 2 7,(yP L27 ⟨_,b61,RO,Uq,PI,awN,F64,uE10,N,H.xm 7 9 (zR 0 7) (0::zR 2 7) (by simp only[List.length_cons,List.length_append];omega)<|by simp only[List.length_cons,List.length_append];omega⟩)⟩
   refine QX (fun ρ Kc=>∃(xP:Env) (PU:yOA) (Lx:Nat) (b68:Nat) (S6:List Value) (PT:yLN),ρ=upd (upd (upd (upd (upd (upd (upd (upd (upd (upd xP 1<|Sv ao own.length co) 3<|pp b1 0) 5<|pp b3 0) 7<|pp b5 0) 8<|yI i) 18<|yI ((maxL own)+1)) 19<|yI i) 23<|Sv PU ((jG s<|s.qA.length+1).length) Lx) 25<|yI s.qA.length) 29 (Sv (aa b68 0) s.qN.toNat s.qN.toNat)/\Fresh W0.heap.size (PT::qX::Ns)/\St W0 Kc ((rr (aa b68 0) s.qN.toNat s.qN.toNat 2 1 ((List.replicate s.qN.toNat (0:Int)).map<|Value.int .i64))::(rr PU ((jG s<|s.qA.length+1).length) Lx 24 1 S6)::(rr zq zi zo 49 16 xR)::(.box b5 [Sv zq zi zo,yN,yI s.qN,Sv ap s.qA.length cp,Sv ar s.qB.length cr,Sv ao own.length co] 74)::(.box b3 (yT t tA cA tB cB tU cU) 31)::(.box b1 (yS s ap cp ar cr) 27)::ps) ((qQ true PT S6<|jG s<|s.qA.length+1)::(qQ true qX xR<|QN s own t i)::(sF false Fp ap cp s.qA)::(sF false Fr ar cr s.qB)::(sF false Fo ao co own)::(sF false FA tA cA t.xF)::(sF false FB tB cB t.qG)::(sF false FU tU cU t.qF)::Γ)) 3 #[true,true,true,true,false,true,true,true,false,false] ?_ fun L71=>?_
   ·rintro ρ w73 ⟨xP,PU,Lx,b68,S6,PT,rfl,N,H⟩
    refine jC [4,9] qh qm<|yV rfl ?_<|yV rfl ?_ jD
    ·obtain⟨b74,rfl⟩:=H.jB 1 rfl qf
     have aDj:=H.rowCap 1 rfl
     refine o_up s.qA.length underlying29 ti24 rfl rfl qf ?_
     obtain⟨amu,F77,abI,H⟩:=H.rowHead 1 rfl 0 rfl s.qA.length qf qf
     dsimp only[List.set] at H
     replace N:Fresh W0.heap.size (F77::qX::Ns):=Fresh.less N abI.1 abI.2
     refine⟨H.pick (zR 2 4)<|zR 2 7,(yP L35 ⟨_,b74,Lx,b68,amu,F77,uE9,N,H.xm 6 9 (zR 0 6) (0::zR 2 7) (by simp only[List.length_cons,List.length_append];omega)<|by simp only[List.length_cons,List.length_append];omega⟩)⟩
    refine zn H ti47 [yI 0,yN,yN,Bv false,yN,yN,yN,yN] fun Ia Te H=>⟨H.pick (zR 3 4)<|zR 1 7,(yP L58 ⟨_,PU,Lx,b68,Ia,S6,PT,uE11,N,H⟩)⟩
   refine QX (fun ρ w87=>∃(xP:Env) (R4:yOA) (Jy:Nat) (b83:Nat) (SD:List Value) (Dy:yLN),ρ=upd (upd (upd (upd (upd (upd (upd (upd (upd (upd (upd xP 1<|Sv ao own.length co) 3<|pp b1 0) 5<|pp b3 0) 7<|pp b5 0) 8<|yI i) 9<|pp b83 0) 18<|yI ((maxL own)+1)) 19<|yI i) 23<|Sv R4 ((jG s<|s.qA.length+1).length) Jy) 25<|yI s.qA.length) 28 (yI s.qN)/\Fresh W0.heap.size (Dy::qX::Ns)/\St W0 w87 ((.box b83 [yI 0,yN,yN,Bv false,yN,yN,yN,yN] 47)::(rr R4 ((jG s<|s.qA.length+1).length) Jy 24 1 SD)::(rr zq zi zo 49 16 xR)::(.box b5 [Sv zq zi zo,yN,yI s.qN,Sv ap s.qA.length cp,Sv ar s.qB.length cr,Sv ao own.length co] 74)::(.box b3 (yT t tA cA tB cB tU cU) 31)::(.box b1 (yS s ap cp ar cr) 27)::ps) ((qQ true Dy SD<|jG s<|s.qA.length+1)::(qQ true qX xR<|QN s own t i)::(sF false Fp ap cp s.qA)::(sF false Fr ar cr s.qB)::(sF false Fo ao co own)::(sF false FA tA cA t.xF)::(sF false FB tB cB t.qG)::(sF false FU tU cU t.qF)::Γ)) 3 #[true,true,true,true,false,true,true,false,false,true] ?_ fun L86=>?_
   ·rintro ρ w88 ⟨xP,R4,Jy,b83,SD,Dy,rfl,N,H⟩
    refine jC [4,7] qh qm<|yV rfl ?_<|yV rfl ?_ jD
    ·obtain⟨ye,rfl⟩:=H.jB 1 rfl qf
     have aGz:=H.rowCap 1 rfl
     refine o_up s.qA.length underlying29 ti24 rfl rfl qf ?_
     obtain⟨at4,F92,ap5,H⟩:=H.rowHead 1 rfl 0 rfl s.qA.length qf qf
     dsimp only[List.set] at H
     replace N:Fresh W0.heap.size (F92::qX::Ns):=Fresh.less N ap5.1 ap5.2
     refine⟨H.pick (zR 2 4)<|zR 2 7,(yP L47 ⟨_,ye,Jy,b83,at4,F92,uE10,N,H.xm 6 9 (zR 0 6) (0::zR 2 7) (by simp only[List.length_cons,List.length_append];omega)<|by simp only[List.length_cons,List.length_append];omega⟩)⟩
    refine jP H underlying24 ti2 s.qN.toNat rfl rfl qf qf qf fun b94 w95 H=>⟨H.pick (zR 3 4)<|zR 1 7,(yP L58 ⟨_,R4,Jy,b94,b83,SD,Dy,uE11,N,H.xm 7 8 (1::0::zR 2 5) (zR 0 8) (by simp only[List.length_cons,List.length_append];omega)<|by simp only[List.length_cons,List.length_append];omega⟩)⟩
   refine QX (fun ρ Jb=>∃(xP:Env) (Se:yOA) (Ju:Nat) (ur:Nat) (b99:Nat) (FQ:List Value) (Gb:yLN),ρ=upd (upd (upd (upd (upd (upd (upd (upd (upd (upd (upd xP 1<|Sv ao own.length co) 3<|pp b1 0) 5<|pp b3 0) 7<|pp b5 0) 8<|yI i) 9<|pp b99 0) 18<|yI ((maxL own)+1)) 19<|yI i) 23<|Sv Se ((jG s<|s.qA.length+1).length) Ju) 24<|.agg #[yI s.qN,Sv ap s.qA.length cp,Sv ar s.qB.length cr]) 29 (Sv (aa ur 0) s.qN.toNat s.qN.toNat)/\Fresh W0.heap.size (Gb::qX::Ns)/\St W0 Jb ((.box b99 [yI 0,yN,yN,Bv false,yN,yN,yN,yN] 47)::(rr (aa ur 0) s.qN.toNat s.qN.toNat 2 1 ((List.replicate s.qN.toNat (0:Int)).map<|Value.int .i64))::(rr Se ((jG s<|s.qA.length+1).length) Ju 24 1 FQ)::(rr zq zi zo 49 16 xR)::(.box b5 [Sv zq zi zo,yN,yI s.qN,Sv ap s.qA.length cp,Sv ar s.qB.length cr,Sv ao own.length co] 74)::(.box b3 (yT t tA cA tB cB tU cU) 31)::(.box b1 (yS s ap cp ar cr) 27)::ps) ((qQ true Gb FQ<|jG s<|s.qA.length+1)::(qQ true qX xR<|QN s own t i)::(sF false Fp ap cp s.qA)::(sF false Fr ar cr s.qB)::(sF false Fo ao co own)::(sF false FA tA cA t.xF)::(sF false FB tB cB t.qG)::(sF false FU tU cU t.qF)::Γ)) 3 #[true,true,true,false,false,true,true,true,false,true] ?_ fun Y7=>?_
   ·rintro ρ MU ⟨xP,Se,Ju,ur,b99,FQ,Gb,rfl,N,H⟩
    refine ro 3 rfl<|oq (around_ok _ s (H.get 2 rfl).1 (H.get 3 rfl).1) H fun abR H=>⟨H.pick (zR 3 4)<|zR 1 7,(yP L58 ⟨_,Se,Ju,ur,b99,FQ,Gb,uE11,N,H⟩)⟩
   refine QX (fun ρ OT=>∃(xP:Env) (C8:yOA) (tx:Nat) (NE:Nat) (Dl:List Value) (B8:yLN),ρ=upd (upd (upd (upd (upd (upd (upd (upd (upd (upd xP 1<|Sv ao own.length co) 3<|pp b1 0) 5<|pp b3 0) 7<|pp b5 0) 8<|yI i) 18<|yI ((maxL own)+1)) 19<|yI i) 23<|Sv C8 ((jG s<|s.qA.length+1).length) tx) 24<|.agg #[yI s.qN,Sv ap s.qA.length cp,Sv ar s.qB.length cr]) 29 (Sv (aa NE 0) s.qN.toNat s.qN.toNat)/\Fresh W0.heap.size (B8::qX::Ns)/\St W0 OT ((rr (aa NE 0) s.qN.toNat s.qN.toNat 2 1 ((List.replicate s.qN.toNat (0:Int)).map<|Value.int .i64))::(rr C8 ((jG s<|s.qA.length+1).length) tx 24 1 Dl)::(rr zq zi zo 49 16 xR)::(.box b5 [Sv zq zi zo,yN,yI s.qN,Sv ap s.qA.length cp,Sv ar s.qB.length cr,Sv ao own.length co] 74)::(.box b3 (yT t tA cA tB cB tU cU) 31)::(.box b1 (yS s ap cp ar cr) 27)::ps) ((qQ true B8 Dl<|jG s<|s.qA.length+1)::(qQ true qX xR<|QN s own t i)::(sF false Fp ap cp s.qA)::(sF false Fr ar cr s.qB)::(sF false Fo ao co own)::(sF false FA tA cA t.xF)::(sF false FB tB cB t.qG)::(sF false FU tU cU t.qF)::Γ)) 4 #[true,true,true,false,false,true,true,true,false,false] ?_ fun ahH=>?_
   ·rintro ρ ajU ⟨xP,C8,tx,NE,Dl,B8,rfl,N,H⟩
    refine jC [3,9] qh qm<|yV rfl ?_<|yV rfl ?_ jD
    ·refine oq (around_ok _ s (H.get 2 rfl).1 (H.get 3 rfl).1) H fun Rv H=>⟨H.pick (zR 2 4)<|zR 1 7,(yP L71 ⟨_,C8,tx,NE,Dl,B8,uE10,N,H⟩)⟩
    refine zn H ti47 [yI 0,yN,yN,Bv false,yN,yN,yN,yN] fun awr NF H=>⟨H.pick (zR 3 4)<|zR 1 7,(yP Y7 ⟨_,C8,tx,NE,awr,Dl,B8,uE11,N,H⟩)⟩
   refine QX (fun ρ aoQ=>∃(xP:Env) (Cw:yOA) (B1:Nat) (EA:Nat) (B9:List Value) (C7:yLN),ρ=upd (upd (upd (upd (upd (upd (upd (upd (upd (upd (upd xP 1<|Sv ao own.length co) 3<|pp b1 0) 5<|pp b3 0) 7<|pp b5 0) 8<|yI i) 9<|pp EA 0) 18<|yI ((maxL own)+1)) 19<|yI i) 23<|Sv Cw ((jG s<|s.qA.length+1).length) B1) 24<|.agg #[yI s.qN,Sv ap s.qA.length cp,Sv ar s.qB.length cr]) 28 (yI s.qN)/\Fresh W0.heap.size (C7::qX::Ns)/\St W0 aoQ ((.box EA [yI 0,yN,yN,Bv false,yN,yN,yN,yN] 47)::(rr Cw ((jG s<|s.qA.length+1).length) B1 24 1 B9)::(rr zq zi zo 49 16 xR)::(.box b5 [Sv zq zi zo,yN,yI s.qN,Sv ap s.qA.length cp,Sv ar s.qB.length cr,Sv ao own.length co] 74)::(.box b3 (yT t tA cA tB cB tU cU) 31)::(.box b1 (yS s ap cp ar cr) 27)::ps) ((qQ true C7 B9<|jG s<|s.qA.length+1)::(qQ true qX xR<|QN s own t i)::(sF false Fp ap cp s.qA)::(sF false Fr ar cr s.qB)::(sF false Fo ao co own)::(sF false FA tA cA t.xF)::(sF false FB tB cB t.qG)::(sF false FU tU cU t.qF)::Γ)) 4 #[true,true,true,false,false,true,true,false,false,true] ?_ fun aeC=>?_
   ·rintro ρ Rt ⟨xP,Cw,B1,EA,B9,C7,rfl,N,H⟩
    refine jC [3,7] qh qm<|yV rfl ?_<|yV rfl ?_ jD
    ·refine oq (around_ok _ s (H.get 2 rfl).1 (H.get 3 rfl).1) H fun RC H=>⟨H.pick (zR 2 4)<|zR 1 7,(yP L86 ⟨_,Cw,B1,EA,B9,C7,uE11,N,H⟩)⟩
    refine jP H underlying24 ti2 s.qN.toNat rfl rfl qf qf qf fun YU aix H=>⟨H.pick (zR 3 4)<|zR 1 7,(yP Y7 ⟨_,Cw,B1,YU,EA,B9,C7,uE11,N,H.xm 7 8 (1::0::zR 2 5) (zR 0 8) (by simp only[List.length_cons,List.length_append];omega)<|by simp only[List.length_cons,List.length_append];omega⟩)⟩
   refine QX (fun ρ NM=>∃(xP:Env) (Nl:Nat) (PP:Nat),ρ=upd (upd (upd (upd (upd (upd (upd (upd (upd (upd (upd xP 1<|Sv ao own.length co) 3<|pp b1 0) 5<|pp b3 0) 7<|pp b5 0) 8<|yI i) 9<|pp PP 0) 18<|yI ((maxL own)+1)) 19<|yI i) 22<|.agg #[yI s.qN,Sv ap s.qA.length cp,Sv ar s.qB.length cr]) 24<|.agg #[yI s.qN,Sv ap s.qA.length cp,Sv ar s.qB.length cr]) 29 (Sv (aa Nl 0) s.qN.toNat s.qN.toNat)/\Fresh W0.heap.size (qX::Ns)/\St W0 NM ((.box PP [yI 0,yN,yN,Bv false,yN,yN,yN,yN] 47)::(rr (aa Nl 0) s.qN.toNat s.qN.toNat 2 1 ((List.replicate s.qN.toNat (0:Int)).map<|Value.int .i64))::(rr zq zi zo 49 16 xR)::(.box b5 [Sv zq zi zo,yN,yI s.qN,Sv ap s.qA.length cp,Sv ar s.qB.length cr,Sv ao own.length co] 74)::(.box b3 (yT t tA cA tB cB tU cU) 31)::(.box b1 (yS s ap cp ar cr) 27)::ps) ((qQ true qX xR<|QN s own t i)::(sF false Fp ap cp s.qA)::(sF false Fr ar cr s.qB)::(sF false Fo ao co own)::(sF false FA tA cA t.xF)::(sF false FB tB cB t.qG)::(sF false FU tU cU t.qF)::Γ)) 4 #[true,false,true,false,false,true,true,true,false,true] ?_ fun ajQ=>?_
   ·rintro ρ afH ⟨xP,Nl,PP,rfl,N,H⟩
    refine ro 1 rfl ?_
    have Lb:=H.base.size
    have MV:=jL (H.ltN (L:=[qX]) [0])<|H.ltK<|K0.behind 7 rfl
    refine oc (noBags_ok _ s (H.get 1 rfl).1 (H.get 2 rfl).1 qg) ?_
    rintro _ anO ⟨M4,UF,MS,OV,No,rfl,M,K⟩ _
    replace N:=N.merge Lb MV M
    replace H:=H.merge K M
    dsimp only[List.cons_append,List.nil_append] at H
    obtain rfl:=H.xk (α:=yLI) 0 rfl 0 rfl qj
    refine⟨H.pick (zR 3 4)<|zR 1 7,(yP Y7 ⟨_,M4,MS,Nl,PP,OV,No,uE11,N,H.xm 7 8 [1,2,0,3,4,5,6] (zR 0 8) (by simp only[List.length_cons,List.length_append];omega)<|by simp only[List.length_cons,List.length_append];omega⟩)⟩
   have S:=H.zW (zR 0 4)<|zR 0 7
   refine rt 0 _ (Qg (cs:=(yS s ap cp ar cr)) isAgg27 sizeOf27 rfl<|fun _ h=>qH (h.cells 3 rfl) 0 3) S ?_
   refine rt 2 _ (Qg (cs:=(yS s ap cp ar cr)) isAgg27 sizeOf27 rfl<|fun _ h=>qH (h.cells 3 rfl) 0 3) S ?_
   refine tF 5 rfl rfl S ?_
   refine tL 6 rfl rfl (fun _ h=>h.cell 3 rfl rfl) S ?_
   refine jC [1,7,9] qh qm<|yV rfl ?_<|yV rfl ?_<|yV rfl ?_ jD
   ·have LV:=H.base.size
    have MN:=jL (H.ltN (L:=[qX]) [0])<|H.ltK<|K0.behind 7 rfl
    refine oc (noBags_ok _ s (H.get 1 rfl).1 (H.get 2 rfl).1 qg) ?_
    rintro _ Mn ⟨Ht,apS,yW,G5,Hy,rfl,M,K⟩ _
    replace N:=N.merge LV MN M
    replace H:=H.merge K M
    dsimp only[List.cons_append,List.nil_append] at H
    obtain rfl:=H.xk (α:=yLI) 0 rfl 0 rfl qj
    refine⟨H.pick (zR 1 4)<|zR 1 7,(jC [3,7,9] qh qm<|yV rfl ?_<|yV rfl ?_<|yV rfl ?_ jD)⟩
    ·refine oq (around_ok _ s (H.get 2 rfl).1 (H.get 3 rfl).1) H fun aCC H=>⟨H.pick (zR 1 4)<|zR 1 7,(jC [4,7,9] qh qm<|yV rfl ?_<|yV rfl ?_<|yV rfl ?_ jD)⟩
     ·obtain⟨amN,rfl⟩:=H.jB 0 rfl qf
      have aAN:=H.rowCap 0 rfl
      refine o_up s.qA.length underlying29 ti24 rfl rfl qf ?_
      obtain⟨TE,abm,Yc,H⟩:=H.rowHead 0 rfl 0 rfl s.qA.length qf qf
      dsimp only[List.set] at H
      replace N:Fresh W0.heap.size (abm::qX::Ns):=Fresh.less N Yc.1 Yc.2
      refine⟨H.pick (zR 1 4)<|zR 2 7,(jC [7,9] qh qm<|yV rfl ?_<|yV rfl ?_ jD)⟩
      ·refine jP H underlying24 ti2 s.qN.toNat rfl rfl qf qf qf fun Iw abS H=>⟨H.pick (zR 2 4)<|zR 2 7,(yP L35 ⟨_,amN,yW,Iw,TE,abm,uE9,N,H.xm 6 9 (zR 0 6) (0::zR 2 7) (by simp only[List.length_cons,List.length_append];omega)<|by simp only[List.length_cons,List.length_append];omega⟩)⟩
      refine zn H ti47 [yI 0,yN,yN,Bv false,yN,yN,yN,yN] fun akv akm H=>⟨H.pick (zR 2 4)<|zR 2 7,(yP L47 ⟨_,amN,yW,akv,TE,abm,uE10,N,H.xm 6 9 (zR 0 6) (0::zR 2 7) (by simp only[List.length_cons,List.length_append];omega)<|by simp only[List.length_cons,List.length_append];omega⟩)⟩
     ·refine jP H underlying24 ti2 s.qN.toNat rfl rfl qf qf qf fun aw7 atE H=>⟨H.pick (zR 2 4)<|zR 1 7,(yP L71 ⟨_,Ht,yW,aw7,G5,Hy,uE10,N,H⟩)⟩
     refine zn H ti47 [yI 0,yN,yN,Bv false,yN,yN,yN,yN] fun Zm aaO H=>⟨H.pick (zR 2 4)<|zR 1 7,(yP L86 ⟨_,Ht,yW,Zm,G5,Hy,uE11,N,H⟩)⟩
    ·refine jP H underlying24 ti2 s.qN.toNat rfl rfl qf qf qf fun acD awX H=>⟨H.pick (zR 2 4)<|zR 1 7,(yP ahH ⟨_,Ht,yW,acD,G5,Hy,uE10,N,H⟩)⟩
    refine zn H ti47 [yI 0,yN,yN,Bv false,yN,yN,yN,yN] fun akR aiP H=>⟨H.pick (zR 2 4)<|zR 1 7,(yP aeC ⟨_,Ht,yW,akR,G5,Hy,uE11,N,H⟩)⟩
   ·refine jP H underlying24 ti2 s.qN.toNat rfl rfl qf qf qf fun agT abr H=>⟨H.pick (zR 1 4)<|zR 0 7,(jC [1,9] qh qm<|yV rfl ?_<|yV rfl ?_ jD)⟩
    ·have aoC:=H.base.size
     have akp:=jL (H.ltN (L:=[qX]) [0])<|H.ltK<|K0.behind 7 rfl
     refine oc (noBags_ok _ s (H.get 1 rfl).1 (H.get 2 rfl).1 qg) ?_
     rintro _ awM ⟨ah7,aAg,x2,al3,als,rfl,M,K⟩ _
     replace N:=N.merge aoC akp M
     replace H:=H.merge K M
     dsimp only[List.cons_append,List.nil_append] at H
     obtain rfl:=H.xk (α:=yLI) 0 rfl 0 rfl qj
     refine⟨H.pick (zR 2 4)<|zR 1 7,(yP ahH ⟨_,ah7,x2,agT,al3,als,uE10,N,H.xm 6 8 [1,0,2,3,4,5] (zR 0 8) (by simp only[List.length_cons,List.length_append];omega)<|by simp only[List.length_cons,List.length_append];omega⟩)⟩
    refine zn H ti47 [yI 0,yN,yN,Bv false,yN,yN,yN,yN] fun ayk asS H=>⟨H.pick (zR 2 4)<|zR 0 7,(yP ajQ ⟨_,agT,ayk,uE11,N,H⟩)⟩
   refine zn H ti47 [yI 0,yN,yN,Bv false,yN,yN,yN,yN] fun afd ahU H=>⟨H.pick (zR 1 4)<|zR 0 7,(jC [1,7] qh qm<|yV rfl ?_<|yV rfl ?_ jD)⟩
   ·have aoP:=H.base.size
    have aer:=jL (H.ltN (L:=[qX]) [0])<|H.ltK<|K0.behind 7 rfl
    refine oc (noBags_ok _ s (H.get 1 rfl).1 (H.get 2 rfl).1 qg) ?_
    rintro _ abi ⟨aia,aBe,anh,MF,anE,rfl,M,K⟩ _
    replace N:=N.merge aoP aer M
    replace H:=H.merge K M
    dsimp only[List.cons_append,List.nil_append] at H
    obtain rfl:=H.xk (α:=yLI) 0 rfl 0 rfl qj
    refine⟨H.pick (zR 2 4)<|zR 1 7,(yP aeC ⟨_,aia,anh,afd,MF,anE,uE11,N,H.xm 6 8 [1,0,2,3,4,5] (zR 0 8) (by simp only[List.length_cons,List.length_append];omega)<|by simp only[List.length_cons,List.length_append];omega⟩)⟩
   refine jP H underlying24 ti2 s.qN.toNat rfl rfl qf qf qf fun ky abg H=>⟨H.pick (zR 2 4)<|zR 0 7,(yP ajQ ⟨_,ky,afd,uE11,N,H.xm 6 7 [1,0,2,3,4,5] (zR 0 7) (by simp only[List.length_cons,List.length_append];omega)<|by simp only[List.length_cons,List.length_append];omega⟩)⟩
  clear H N
  rintro ρ asC ⟨xP,xj,gE,DV,VT,S4,F18,rfl,N,H⟩
  refine sw<|zF H 0 [yI 0,Sv (aa xj 0) s.qA.length gE,Sv (aa DV 0) s.qN.toNat s.qN.toNat,Bv false,yN,yN,yN,yN] sizeOf47 fun aEh H=>?_
  dsimp only[List.set] at H
  refine zjcc<|oF rfl<|oL rfl (H.cell 5 rfl rfl)<|oN rfl<|sp (yI 0)<|zjn<|xe<|zT ((fun Z0 Z1 Z2 Z3 Z4 Z5 Z6 Z7 Z8 Z9 fi fK gW=>fun m' ρ av3=>∃(xP:Env) (c:Nat) (aR:yLL) (Xb:List Value) (jf:yLN),ρ=upd (upd (upd (upd (upd (upd (upd (upd (upd (upd (upd xP 1<|Sv ao own.length co) 3<|pp b1 0) 5<|pp b3 0) 7<|pp b5 0) 8<|yI i) 9<|pp VT 0) 18<|yI ((maxL own)+1)) 19<|yI i) 32<|Sv tB t.qG.length cB) 33<|yI t.qG.length) 34 (yI c)/\((c:Int)<=t.qG.length)/\(aR=begB s own t i c)/\m'=(t.qG.length-(c:Int)).toNat/\Fresh W0.heap.size (qX::jf::Ns)/\St W0 av3 (Z0::Z1::(rr (aa xj 0) s.qA.length gE 24 1 Xb)::Z2::Z3::Z4::Z5::ps) ((qQ true jf Xb aR)::Z6::Z7::Z8::Z9::fi::fK::gW::Γ)) _ _ _ _ _ _ _ _ _ _ _ _ _) ((t.qG.length-(0:Int)).toNat) ⟨_,0,((jG s<|s.qA.length+1).take s.qA.length),S4,F18,uE11,qf,(by exact beg_zero),rfl,(N.xm 2 [1,0]<|by simp only[List.length_cons,List.length_append];omega),H⟩ ?_
  clear H N
  rintro m' ρ asP ⟨xP,c,aR,Xb,jf,rfl,i0,i2,rfl,N,H⟩
  have sa:=H.xk (α:=yLI) 2 rfl 0 rfl qj
  have bl:aR.length=s.qA.length:=by rw[i2];exact Vz
  refine zcr<|sq 1<|zjn<|xM<|cD rfl (fun awU=>?_)<|fun awU=>?_
  ·refine qW (t_n<|xM<|xe<|zcr<|sp (yI c) ?_)
   obtain⟨aHh,aH4,rfl⟩:=H.addr 6 rfl qf
   obtain⟨aBh,aB5,aAu,H⟩:=H.yB 6 rfl c c qf qf qf
   refine oI rfl rfl<|oL rfl (H.zG 1 rfl 0 rfl)<|sp (yI c)<|sq 1<|zjc<|sq 1<|sp (yI c) ?_
   obtain⟨aC1,aHe,rfl⟩:=H.addr 6 rfl qf
   refine oI rfl rfl<|oL rfl (H.vG 6 rfl c qf)<|sp (yI i)<|sq 1<|zjn<|cE rfl (fun atB=>?_)<|fun atB=>?_
   ·refine vK 2 rfl H [0,1,2,3,4,5,6] [0,1,2,3,4,5,6,7,8,9] fun H=>?_
    dsimp only[yg,yL]
    have S:=H.zW (zR 0 7)<|zR 0 10
    refine tF 0 rfl rfl S ?_
    refine tL 1 rfl rfl (fun _ h=>h.cell 0 rfl rfl) S ?_
    refine rtp 2 (yI c) S ?_
    refine rtl 3 S ?_
    refine ro 4 rfl ?_
    (have b2:=(vP (p2.2.2.2.2 c qf).1).1)
    refine oc (cloneI_ok _ (t.qG[c]!) (H.get 0 rfl).1 qg) ?_
    rintro aHl RZ avb axv
    replace H:=H.zV axv avb
    obtain⟨atn,auH,rfl,aA0,aA4⟩:=H.yf 0 rfl
    refine⟨H.pick (zR 1 7)<|zR 0 10,(xy qh<|xZ<|oI rfl rfl ?_)⟩
    obtain⟨aHI,N,azJ,H⟩:=H.vJ 0 rfl N<|fun F hF b hb=>(List.mem_append.1<|show F∈[qX,jf]++Ns from hF).elim (fun h=>(H.vV (L:=[qX,jf]) [3,2]) F h b hb) fun h=>H.jT (K0.behind 10 rfl) F h b hb
    dsimp only[List.set] at H
    refine sw<|Qd true H 3 rfl 3 rfl (Sv atn ((t.qG[c]!).length) auH) 0 rfl rfl sizeOf24 rfl rfl (i:=c) qf qf qm fun ap0 azS asO apO H=>?_
    replace N:Fresh W0.heap.size (asO::qX::Ns):=(N.xm 3 [2,0,1]<|by simp only[List.length_cons,List.length_append];omega).repl apO
    dsimp only[List.set] at H
    refine xU<|b_n<|t_n<|xX<|sw<|zS c 1 rfl rfl qf<|sq 1<|xU<|xu (m':=(t.qG.length-((c+1):Int)).toNat) qf ⟨_,c+1,_,_,_,uE11,?_,?_,rfl,(N.xm 2 [1,0]<|by simp only[List.length_cons,List.length_append];omega),H.xm 8 12 (zR 1 7) (0::zR 5 7) (by simp only[List.length_cons,List.length_append];omega)<|by simp only[List.length_cons,List.length_append];omega⟩
    ·omega
    ·(subst i2;exact beg_yes ql qf)
   refine qW<|b_n<|t_n<|xX<|sw<|zS c 1 rfl rfl qf<|sq 1<|xU<|xu (m':=(t.qG.length-((c+1):Int)).toNat) qf ⟨_,c+1,_,_,_,uE11,?_,?_,rfl,N,H.xm 7 10 (zR 0 7) (zR 2 8) (by simp only[List.length_cons,List.length_append];omega)<|by simp only[List.length_cons,List.length_append];omega⟩
   ·omega
   ·exact i2.trans<|beg_no ql
  refine zx4<|zcc<|sq 1 ?_
  obtain⟨agn,alI,rfl⟩:=H.addr 4 rfl qf
  refine oI rfl rfl<|oL rfl (H.vG 4 rfl 0 qf)<|sp (yI i)<|sq 1<|zjn<|cE rfl (fun auW=>?_)<|fun auW=>?_
  ·refine xX (oF rfl<|oL rfl (H.cell 5 rfl rfl)<|sw<|oc (cloneI_ok _ t.qF (H.get 7 rfl).1 qg) ?_)
   rintro aFU aEn asR ayx
   replace H:=H.zV ayx asR
   obtain⟨Js,Im,rfl,aAh,azi⟩:=H.yf 0 rfl
   refine oF rfl<|sw<|zh H 1 [yI 0,Sv (aa xj 0) s.qA.length gE,Sv Js t.qF.length Im,Bv false,yN,yN,yN,yN] sizeOf24 fun ayw H=>?_
   dsimp only[List.set] at H
   refine zjn<|vK 4 rfl H [1,2,5,6,7] [0,1,2,3,4,5,6,7] fun H=>?_
   dsimp only[yg,yL]
   have S:=H.zW [1,2,5,6,7]<|zR 0 8
   refine rtl 0 S ?_
   refine rtl 1 S ?_
   refine rtl 2 S ?_
   refine tF 3 rfl rfl S ?_
   refine tF 4 rfl rfl S ?_
   refine tL 5 rfl rfl (fun _ h=>h.cell 2 rfl rfl) S ?_
   refine rt 6 _ (Qg (cs:=[yI 0,Sv (aa xj 0) s.qA.length gE,Sv Js t.qF.length Im,Bv false,yN,yN,yN,yN]) isAgg47 sizeOf47 rfl<|fun _ h=>qH (h.cells 0 rfl) 0 8) S ?_
   refine rt 7 _ (Qg (cs:=[yI 0,Sv (aa xj 0) s.qA.length gE,Sv Js t.qF.length Im,Bv false,yN,yN,yN,yN]) isAgg47 sizeOf47 rfl<|fun _ h=>qH (h.cells 0 rfl) 0 8) S ?_
   refine ro 8 rfl ?_
   obtain⟨aiG,KU,axZ⟩:=H.Vg (α:=yLI) 3 rfl 0 rfl qj
   obtain⟨xd,aoZ,avo⟩:=H.rowIsI 0 rfl
   replace H:=H.addNil (α:=Bool)
   replace H:=H.addNil (α:=yLI)
   replace H:=H.addNil (α:=yLL)
   have aog:=H.base.size
   have aks:=jL (H.ltN (L:=[qX,jf]) [4,3])<|H.ltK<|K0.behind 11 rfl
   refine oc (args_eq (by rw[←KU])<|Vf _ (⟨0,aR,t.qF,false,([]:List Bool),([]:yLL),([]:List yLL),([]:List yLL)⟩:zA) (KU▸axZ) avo (H.get 2 rfl).1 (H.get 1 rfl).1 (H.get 0 rfl).1 (H.get 0 rfl).1<|by exact beg_sm p0.sys p2 i2<|by omega) ?_
   rintro _ aDP ⟨rC,rL,iI,ni,mR,fC,uI,vq,kT,nI,mv,fJ,tX,uR,kK,rv,rG,iF,rfl,M,K⟩ _
   replace N:=N.merge aog aks M
   replace H:=H.merge K M
   dsimp only[List.cons_append,List.nil_append] at H
   refine⟨H.pick [1,2,5,6,7]<|zR 9 8,(ro 9 rfl ?_)⟩
   refine jE [yI 0,Sv (aa xj 0) s.qA.length gE,Sv Js t.qF.length Im,Bv false,yN,yN,yN,yN,yI ((⟨0,aR,t.qF,false,([]:List Bool),([]:yLL),([]:List yLL),([]:List yLL)⟩:zA).qP),Sv rC (((⟨0,aR,t.qF,false,([]:List Bool),([]:yLL),([]:List yLL),([]:List yLL)⟩:zA).qG).length) rL,Sv ni (((⟨0,aR,t.qF,false,([]:List Bool),([]:yLL),([]:List yLL),([]:List yLL)⟩:zA).qF).length) mR,Bv ((⟨0,aR,t.qF,false,([]:List Bool),([]:yLL),([]:List yLL),([]:List yLL)⟩:zA).qV),Sv uI (((⟨0,aR,t.qF,false,([]:List Bool),([]:yLL),([]:List yLL),([]:List yLL)⟩:zA).vM).length) vq,Sv nI (((⟨0,aR,t.qF,false,([]:List Bool),([]:yLL),([]:List yLL),([]:List yLL)⟩:zA).qL).length) mv,Sv tX (((⟨0,aR,t.qF,false,([]:List Bool),([]:yLL),([]:List yLL),([]:List yLL)⟩:zA).vX).length) uR,Sv rv (((⟨0,aR,t.qF,false,([]:List Bool),([]:yLL),([]:List yLL),([]:List yLL)⟩:zA).x8).length) rG] [(0,.agg #[yI 0,Sv (aa xj 0) s.qA.length gE,Sv Js t.qF.length Im,Bv false,yN,yN,yN,yN]),(1,.agg #[yI ((⟨0,aR,t.qF,false,([]:List Bool),([]:yLL),([]:List yLL),([]:List yLL)⟩:zA).qP),Sv rC (((⟨0,aR,t.qF,false,([]:List Bool),([]:yLL),([]:List yLL),([]:List yLL)⟩:zA).qG).length) rL,Sv ni (((⟨0,aR,t.qF,false,([]:List Bool),([]:yLL),([]:List yLL),([]:List yLL)⟩:zA).qF).length) mR,Bv ((⟨0,aR,t.qF,false,([]:List Bool),([]:yLL),([]:List yLL),([]:List yLL)⟩:zA).qV),Sv uI (((⟨0,aR,t.qF,false,([]:List Bool),([]:yLL),([]:List yLL),([]:List yLL)⟩:zA).vM).length) vq,Sv nI (((⟨0,aR,t.qF,false,([]:List Bool),([]:yLL),([]:List yLL),([]:List yLL)⟩:zA).qL).length) mv,Sv tX (((⟨0,aR,t.qF,false,([]:List Bool),([]:yLL),([]:List yLL),([]:List yLL)⟩:zA).vX).length) uR,Sv rv (((⟨0,aR,t.qF,false,([]:List Bool),([]:yLL),([]:List yLL),([]:List yLL)⟩:zA).x8).length) rG])]<|⟨H.pick [1,2,5,6,7]<|zR 9 8,(ro 10 rfl ?_)⟩
   refine zy H underlying36 ti49 [yI 0,Sv (aa xj 0) s.qA.length gE,Sv Js t.qF.length Im,Bv false,yN,yN,yN,yN,yI ((⟨0,aR,t.qF,false,([]:List Bool),([]:yLL),([]:List yLL),([]:List yLL)⟩:zA).qP),Sv rC (((⟨0,aR,t.qF,false,([]:List Bool),([]:yLL),([]:List yLL),([]:List yLL)⟩:zA).qG).length) rL,Sv ni (((⟨0,aR,t.qF,false,([]:List Bool),([]:yLL),([]:List yLL),([]:List yLL)⟩:zA).qF).length) mR,Bv ((⟨0,aR,t.qF,false,([]:List Bool),([]:yLL),([]:List yLL),([]:List yLL)⟩:zA).qV),Sv uI (((⟨0,aR,t.qF,false,([]:List Bool),([]:yLL),([]:List yLL),([]:List yLL)⟩:zA).vM).length) vq,Sv nI (((⟨0,aR,t.qF,false,([]:List Bool),([]:yLL),([]:List yLL),([]:List yLL)⟩:zA).qL).length) mv,Sv tX (((⟨0,aR,t.qF,false,([]:List Bool),([]:yLL),([]:List yLL),([]:List yLL)⟩:zA).vX).length) uR,Sv rv (((⟨0,aR,t.qF,false,([]:List Bool),([]:yLL),([]:List yLL),([]:List yLL)⟩:zA).x8).length) rG] fun aCw aw5 H=>(⟨H.pick [2,3,6,7,8]<|zR 9 8,(ro 11 rfl ?_)⟩)
   have H0:=H
   obtain⟨SQ,YO,aAF,H⟩:=H.jA (α:=yLI) 4 rfl 9 rfl qj
   replace N:Fresh W0.heap.size (SQ::iI::fC::kT::fJ::kK::iF::qX::Ns):=Fresh.ice (N.xm 8 (7::zR 0 7)<|by simp only[List.length_cons,List.length_append];omega) H0 4 YO.1 YO.2<|fun F hF b hb=>(List.mem_append.1<|show F∈[iI,fC,kT,fJ,kK,iF,qX]++Ns from hF).elim (fun h=>(H0.vV (L:=[iI,fC,kT,fJ,kK,iF,qX]) [0,1,2,3,4,5,10]) F h b hb) fun h=>H0.jT (K0.behind 17 rfl) F h b hb
   clear H0
   dsimp only[List.set] at H
   obtain⟨LK,N,ajG,H⟩:=H.vJ 1 rfl N<|fun F hF b hb=>(List.mem_append.1<|show F∈[SQ,iI,fC,kT,fJ,kK,iF,qX]++Ns from hF).elim (fun h=>(H.vV (L:=[SQ,iI,fC,kT,fJ,kK,iF,qX]) [0,1,2,3,4,5,6,11]) F h b hb) fun h=>H.jT (K0.behind 18 rfl) F h b hb
   dsimp only[List.set] at H
   refine zH H 5 rfl 0 rfl underlying36 ti49 rfl qj rfl rfl rfl qw qp qf fun auQ awS axB H=>?_
   dsimp only[List.set] at H
   replace H:=H.snoc_ServerD 12 rfl 0 1 rfl 0 rfl false 10 rfl 9 rfl 8 rfl 8 rfl ((⟨0,aR,t.qF,false,([]:List Bool),([]:yLL),([]:List yLL),([]:List yLL)⟩:zA).qP) 2 rfl 3 rfl ((⟨0,aR,t.qF,false,([]:List Bool),([]:yLL),([]:List yLL),([]:List yLL)⟩:zA).qV) 4 rfl 5 rfl 6 rfl 7 rfl
   replace N:Fresh W0.heap.size ((qX++(SQ++LK++[]++[]++[]++[]++iI++fC++kT++fJ++kK++iF))::Ns):=(N.emp.emp.emp.emp.xm 13 (5::4::0::1::2::3::zR 6 7)<|by simp only[List.length_cons,List.length_append];omega).join.join.join.join.join.join.join.join.join.join.join.swap.join
   refine⟨H.pick [2,3,6,7,8]<|zR 12 8,(xy qh<|xZ<|sq 1<|oF rfl<|oF rfl<|sw<|zh H 6 [Sv auQ (zi+1) awS,yN,yI s.qN,Sv ap s.qA.length cp,Sv ar s.qB.length cr,Sv (aa agn alI) own.length co] sizeOf36 fun aIb H=>?_)⟩
   dsimp only[List.set] at H
   refine xU<|b_n<|t_n<|xX<|sw<|zS i 1 rfl rfl qf<|sq 1<|xU<|xu (m':=(((maxL own)+1)-((i+1):Int)).toNat) qf ⟨_,i+1,_,_,_,_,_,_,uE6,?_,?_,rfl,N,H.xm 9 20 (zR 5 4) (0::zR 14 6) (by simp only[List.length_cons,List.length_append];omega)<|by simp only[List.length_cons,List.length_append];omega⟩
   ·exact begin_snoc i2 qf<|by exact(if_pos ql).symm
   ·omega
  refine qW<|t_n<|vK 4 rfl H [0,4,5,6] [0,1,2,3,4,5,6,7] fun H=>?_
  dsimp only[yg,yL]
  have S:=H.zW [0,4,5,6]<|zR 0 8
  refine rtl 0 S ?_
  refine rtl 1 S ?_
  refine rtl 2 S ?_
  refine tF 3 rfl rfl S ?_
  refine tF 4 rfl rfl S ?_
  refine tL 5 rfl rfl (fun _ h=>h.cell 1 rfl rfl) S ?_
  refine rt 6 _ (Qg (cs:=[yI 0,Sv (aa xj 0) s.qA.length gE,Sv (aa DV 0) s.qN.toNat s.qN.toNat,Bv false,yN,yN,yN,yN]) isAgg47 sizeOf47 rfl<|fun _ h=>qH (h.cells 0 rfl) 0 8) S ?_
  refine rt 7 _ (Qg (cs:=[yI 0,Sv (aa xj 0) s.qA.length gE,Sv (aa DV 0) s.qN.toNat s.qN.toNat,Bv false,yN,yN,yN,yN]) isAgg47 sizeOf47 rfl<|fun _ h=>qH (h.cells 0 rfl) 0 8) S ?_
  refine ro 8 rfl ?_
  obtain⟨aC2,Tp,awG⟩:=H.Vg (α:=yLI) 2 rfl 0 rfl qj
  obtain⟨aDx,UJ,aup⟩:=H.rowIsI 1 rfl
  replace H:=H.addNil (α:=Bool)
  replace H:=H.addNil (α:=yLI)
  replace H:=H.addNil (α:=yLL)
  have aoy:=H.base.size
  have afJ:=jL (H.ltN (L:=[qX,jf]) [4,3])<|H.ltK<|K0.behind 11 rfl
  refine oc (args_eq (by rw[←Tp,←UJ])<|Vf _ (⟨0,aR,(List.replicate s.qN.toNat (0:Int)),false,([]:List Bool),([]:yLL),([]:List yLL),([]:List yLL)⟩:zA) (Tp▸awG) (rep_at UJ aup) (H.get 2 rfl).1 (H.get 1 rfl).1 (H.get 0 rfl).1 (H.get 0 rfl).1<|by exact beg_sm p0.sys p2 i2<|by omega) ?_
  rintro _ aDg ⟨rM,rP,iE,mW,mI,fG,vt,vj,kV,mD,nH,fI,uD,wz,kR,rq,r4,iL,rfl,M,K⟩ _
  replace N:=N.merge aoy afJ M
  replace H:=H.merge K M
  dsimp only[List.cons_append,List.nil_append] at H
  refine⟨H.pick [0,4,5,6]<|zR 9 8,(ro 9 rfl ?_)⟩
  refine jE [yI 0,Sv (aa xj 0) s.qA.length gE,Sv (aa DV 0) s.qN.toNat s.qN.toNat,Bv false,yN,yN,yN,yN,yI ((⟨0,aR,(List.replicate s.qN.toNat (0:Int)),false,([]:List Bool),([]:yLL),([]:List yLL),([]:List yLL)⟩:zA).qP),Sv rM (((⟨0,aR,(List.replicate s.qN.toNat (0:Int)),false,([]:List Bool),([]:yLL),([]:List yLL),([]:List yLL)⟩:zA).qG).length) rP,Sv mW (((⟨0,aR,(List.replicate s.qN.toNat (0:Int)),false,([]:List Bool),([]:yLL),([]:List yLL),([]:List yLL)⟩:zA).qF).length) mI,Bv ((⟨0,aR,(List.replicate s.qN.toNat (0:Int)),false,([]:List Bool),([]:yLL),([]:List yLL),([]:List yLL)⟩:zA).qV),Sv vt (((⟨0,aR,(List.replicate s.qN.toNat (0:Int)),false,([]:List Bool),([]:yLL),([]:List yLL),([]:List yLL)⟩:zA).vM).length) vj,Sv mD (((⟨0,aR,(List.replicate s.qN.toNat (0:Int)),false,([]:List Bool),([]:yLL),([]:List yLL),([]:List yLL)⟩:zA).qL).length) nH,Sv uD (((⟨0,aR,(List.replicate s.qN.toNat (0:Int)),false,([]:List Bool),([]:yLL),([]:List yLL),([]:List yLL)⟩:zA).vX).length) wz,Sv rq (((⟨0,aR,(List.replicate s.qN.toNat (0:Int)),false,([]:List Bool),([]:yLL),([]:List yLL),([]:List yLL)⟩:zA).x8).length) r4] [(0,.agg #[yI 0,Sv (aa xj 0) s.qA.length gE,Sv (aa DV 0) s.qN.toNat s.qN.toNat,Bv false,yN,yN,yN,yN]),(1,.agg #[yI ((⟨0,aR,(List.replicate s.qN.toNat (0:Int)),false,([]:List Bool),([]:yLL),([]:List yLL),([]:List yLL)⟩:zA).qP),Sv rM (((⟨0,aR,(List.replicate s.qN.toNat (0:Int)),false,([]:List Bool),([]:yLL),([]:List yLL),([]:List yLL)⟩:zA).qG).length) rP,Sv mW (((⟨0,aR,(List.replicate s.qN.toNat (0:Int)),false,([]:List Bool),([]:yLL),([]:List yLL),([]:List yLL)⟩:zA).qF).length) mI,Bv ((⟨0,aR,(List.replicate s.qN.toNat (0:Int)),false,([]:List Bool),([]:yLL),([]:List yLL),([]:List yLL)⟩:zA).qV),Sv vt (((⟨0,aR,(List.replicate s.qN.toNat (0:Int)),false,([]:List Bool),([]:yLL),([]:List yLL),([]:List yLL)⟩:zA).vM).length) vj,Sv mD (((⟨0,aR,(List.replicate s.qN.toNat (0:Int)),false,([]:List Bool),([]:yLL),([]:List yLL),([]:List yLL)⟩:zA).qL).length) nH,Sv uD (((⟨0,aR,(List.replicate s.qN.toNat (0:Int)),false,([]:List Bool),([]:yLL),([]:List yLL),([]:List yLL)⟩:zA).vX).length) wz,Sv rq (((⟨0,aR,(List.replicate s.qN.toNat (0:Int)),false,([]:List Bool),([]:yLL),([]:List yLL),([]:List yLL)⟩:zA).x8).length) r4])]<|⟨H.pick [0,4,5,6]<|zR 9 8,(ro 10 rfl ?_)⟩
  refine zy H underlying36 ti49 [yI 0,Sv (aa xj 0) s.qA.length gE,Sv (aa DV 0) s.qN.toNat s.qN.toNat,Bv false,yN,yN,yN,yN,yI ((⟨0,aR,(List.replicate s.qN.toNat (0:Int)),false,([]:List Bool),([]:yLL),([]:List yLL),([]:List yLL)⟩:zA).qP),Sv rM (((⟨0,aR,(List.replicate s.qN.toNat (0:Int)),false,([]:List Bool),([]:yLL),([]:List yLL),([]:List yLL)⟩:zA).qG).length) rP,Sv mW (((⟨0,aR,(List.replicate s.qN.toNat (0:Int)),false,([]:List Bool),([]:yLL),([]:List yLL),([]:List yLL)⟩:zA).qF).length) mI,Bv ((⟨0,aR,(List.replicate s.qN.toNat (0:Int)),false,([]:List Bool),([]:yLL),([]:List yLL),([]:List yLL)⟩:zA).qV),Sv vt (((⟨0,aR,(List.replicate s.qN.toNat (0:Int)),false,([]:List Bool),([]:yLL),([]:List yLL),([]:List yLL)⟩:zA).vM).length) vj,Sv mD (((⟨0,aR,(List.replicate s.qN.toNat (0:Int)),false,([]:List Bool),([]:yLL),([]:List yLL),([]:List yLL)⟩:zA).qL).length) nH,Sv uD (((⟨0,aR,(List.replicate s.qN.toNat (0:Int)),false,([]:List Bool),([]:yLL),([]:List yLL),([]:List yLL)⟩:zA).vX).length) wz,Sv rq (((⟨0,aR,(List.replicate s.qN.toNat (0:Int)),false,([]:List Bool),([]:yLL),([]:List yLL),([]:List yLL)⟩:zA).x8).length) r4] fun aGZ aGK H=>(⟨H.pick [1,5,6,7]<|zR 9 8,(ro 11 rfl ?_)⟩)
  have H0:=H
  obtain⟨P5,T3,ayY,H⟩:=H.jA (α:=yLI) 3 rfl 9 rfl qj
  replace N:Fresh W0.heap.size (P5::iE::fG::kV::fI::kR::iL::qX::Ns):=Fresh.ice (N.xm 8 (7::zR 0 7)<|by simp only[List.length_cons,List.length_append];omega) H0 3 T3.1 T3.2<|fun F hF b hb=>(List.mem_append.1<|show F∈[iE,fG,kV,fI,kR,iL,qX]++Ns from hF).elim (fun h=>(H0.vV (L:=[iE,fG,kV,fI,kR,iL,qX]) [0,1,2,3,4,5,10]) F h b hb) fun h=>H0.jT (K0.behind 17 rfl) F h b hb
  clear H0
  dsimp only[List.set] at H
  obtain⟨axc,N,aBQ,H⟩:=H.vJ 2 rfl N<|fun F hF b hb=>(List.mem_append.1<|show F∈[P5,iE,fG,kV,fI,kR,iL,qX]++Ns from hF).elim (fun h=>(H.vV (L:=[P5,iE,fG,kV,fI,kR,iL,qX]) [0,1,2,3,4,5,6,11]) F h b hb) fun h=>H.jT (K0.behind 18 rfl) F h b hb
  dsimp only[List.set] at H
  refine zH H 4 rfl 0 rfl underlying36 ti49 rfl qj rfl rfl rfl qw qp qf fun atc ayl aGa H=>?_
  dsimp only[List.set] at H
  replace H:=H.snoc_ServerD 12 rfl 0 1 rfl 0 rfl false 10 rfl 9 rfl 8 rfl 8 rfl ((⟨0,aR,(List.replicate s.qN.toNat (0:Int)),false,([]:List Bool),([]:yLL),([]:List yLL),([]:List yLL)⟩:zA).qP) 2 rfl 3 rfl ((⟨0,aR,(List.replicate s.qN.toNat (0:Int)),false,([]:List Bool),([]:yLL),([]:List yLL),([]:List yLL)⟩:zA).qV) 4 rfl 5 rfl 6 rfl 7 rfl
  replace N:Fresh W0.heap.size ((qX++(P5++axc++[]++[]++[]++[]++iE++fG++kV++fI++kR++iL))::Ns):=(N.emp.emp.emp.emp.xm 13 (5::4::0::1::2::3::zR 6 7)<|by simp only[List.length_cons,List.length_append];omega).join.join.join.join.join.join.join.join.join.join.join.swap.join
  refine⟨H.pick [1,5,6,7]<|zR 12 8,(xy qh<|xZ<|sq 1<|oF rfl<|oF rfl<|sw<|zh H 5 [Sv atc (zi+1) ayl,yN,yI s.qN,Sv ap s.qA.length cp,Sv ar s.qB.length cr,Sv (aa agn alI) own.length co] sizeOf36 fun aGW H=>?_)⟩
  dsimp only[List.set] at H
  refine xU<|b_n<|t_n<|xX<|sw<|zS i 1 rfl rfl qf<|sq 1<|xU<|xu (m':=(((maxL own)+1)-((i+1):Int)).toNat) qf ⟨_,i+1,_,_,_,_,_,_,uE6,?_,?_,rfl,N,H.xm 8 20 (zR 4 4) (0::zR 14 6) (by simp only[List.length_cons,List.length_append];omega)<|by simp only[List.length_cons,List.length_append];omega⟩
  ·exact begin_snoc i2 qf<|by exact(if_neg ql).symm
  ·omega
 refine zx4<|zcr<|sq 2<|zjr ?_
 replace H:=H.nilRow 77 4
 replace H:=H.yD (α:=zk)
 refine ret1 (pp b5 0) rfl rfl ⟨_,rfl,?_⟩
 obtain rfl:i=n:=by omega
 exact⟨b5,zq,zi,zo,xR,qX,none,0,0,[],[],rfl,(N.emp.xm 2 [1,0]<|by simp only[List.length_cons,List.length_append];omega),H.xm 5 8 [2,1,0] [2,3,4,5,6,7,1,0] (by simp only[List.length_cons,List.length_append];omega)<|by simp only[List.length_cons,List.length_append];omega⟩
theorem after_ok(s:qO)(own:yLI)(ap:yOA)(cp:Nat)(Fp:yLN)(ar:yOA)(cr:Nat)(Fr:yLN)(ao:yOA)(co:Nat)(Fo:yLN)(t:xn)(tA:yOA)(cA:Nat)(FA:yLN)(tB:yOA)(cB:Nat)(FB:yLN)(tU:yOA)(cU:Nat)(FU:yLN)(n:Nat)(ds:List xH)(ad:yOA)(cd:Nat)(Fd:yLN)(H:St W0 w (ps) ((sF false Fp ap cp s.qA)::(sF false Fr ar cr s.qB)::(sF false Fo ao co own)::(sF false FA tA cA t.xF)::(sF false FB tB cB t.qG)::(sF false FU tU cU t.qF)::(sF false Fd ad cd ds)::Γ))(N:Fresh W0.heap.size (Ns))(K0:Kept Ns Γ)(p0:Giv s own n)(p1:Xw own n)(p2:vU s t)(p3:ds.length<=400)(p4:∀k,k<ds.length->VL (ds[k]!))(OL:∀f∈(sF false Fp ap cp s.qA::sF false Fr ar cr s.qB::sF false Fo ao co own::sF false FA tA cA t.xF::sF false FB tB cB t.qG::sF false FU tU cU t.qF::sF false Fd ad cd ds::Γ),∀b∈f.F,b<W0.heap.size):Calls Tryz.prog 27 #[.agg #[yI s.qN,Sv ap s.qA.length cp,Sv ar s.qB.length cr],Sv ao own.length co,.agg #[Sv tA t.xF.length cA,Sv tB t.qG.length cB,Sv tU t.qF.length cU],Sv ad ds.length cd] w (fun e w'=>∃v,e=.returned v/\∃(bk:Nat) (eB:yOA) (ee:Nat) (cz:Nat) (bV:List Value) (aC:yLN) (cF:yOA) (j9:Nat) (bH:Nat) (bL:List Value) (az:yLN),v=.tuple #[pp bk 0,yI ((xN s own (xg s own t n) ds ds.length).2)]/\Fresh W0.heap.size (aC::az::Ns)/\St W0 w' ((.box bk [Sv eB ee cz,Sv cF j9 bH,yI s.qN,Sv ap s.qA.length cp,Sv ar s.qB.length cr,Sv ao own.length co] 74)::(rr eB ee cz 49 16 bV)::(rr cF j9 bH 77 4 bL)::ps) ((sF false Fp ap cp s.qA)::(sF false Fr ar cr s.qB)::(sF false Fo ao co own)::(sF false FA tA cA t.xF)::(sF false FB tB cB t.qG)::(sF false FU tU cU t.qF)::(sF false Fd ad cd ds)::(qQ true aC bV ((xN s own (xg s own t n) ds ds.length).1.qE))::(qQ true az bL ((xN s own (xg s own t n) ds ds.length).1.x9))::Γ)):=by
 refine en func27 ntmps27 ?_
 have tb:=begin_ok p0 p2
 refine zcr<|sw<|jq H (yS s ap cp ar cr) fun b1 w2 H=>sw<|jq H (yT t tA cA tB cB tU cU) fun b3 w4 H=>sq 1<|sp (yI 0)<|zjc<|sw<|xW (yS s ap cp ar cr) isAgg27 sizeOf27 rfl (qH (H.cells 1 rfl) 0 3)<|sq 1<|sw<|xW (yT t tA cA tB cB tU cU) isAgg31 sizeOf31 rfl (qH (H.cells 0 rfl) 0 3) ?_
 have H1:=H.yt 2 7 [0,1] [0,1,2,3,4,5,6] (by simp only[List.length_cons,List.length_append];omega)<|by simp only[List.length_cons,List.length_append];omega
 have N1:Fresh _ (Ns):=N
 have K1:Kept (Ns) ((sF false Fd ad cd ds)::Γ):=K0.behind 1 rfl
 refine sw<|zD #[.agg #[yI s.qN,Sv ap s.qA.length cp,Sv ar s.qB.length cr],Sv ao own.length co,.agg #[Sv tA t.xF.length cA,Sv tB t.qG.length cB,Sv tU t.qF.length cU]] rfl rfl call70 (newMill_ok s own ap cp Fp ar cr Fr ao co Fo t tA cA FA tB cB FB tU cU FU n H1 N1 K1 qg qg qg) ?_
 clear H H1 N1 K1
 rintro _ w5 ⟨bk7,mr,rn9,kB,avX,avj,oP,ab5,E8,Aa,rI,rfl,N,H⟩
 obtain rfl:=H.xk (α:=zu) 1 rfl 6 rfl qj
 obtain rfl:=H.xk (α:=zk) 2 rfl 7 rfl qj
 refine sq 1<|sp (yI 0)<|zjcc<|sq 1<|oN rfl<|sp (yI 0)<|zjn<|xe<|zT ((fun Z0 Z1 Z2 Z3 Z4 Z5 Z6 Z7 Z8=>fun m' ρ ZR=>∃(xP:Env) (done:Int) (ce:Nat) (X7:yOA) (XY:Nat) (X3:Nat) (ks:List zk) (XU:List Value) (Xx:yLN) (dp:List zu) (xR:List Value) (qX:yLN),ρ=upd (upd (upd (upd (upd xP 10<|pp bk7 0) 11<|yI done) 18<|Sv ad ds.length cd) 19<|yI ds.length) 20 (yI ce)/\ks=(xN s own (xg s own t n) ds ce).1.x9/\dp=(xN s own (xg s own t n) ds ce).1.qE/\((ce:Int)<=ds.length)/\(done=(xN s own (xg s own t n) ds ce).2)/\m'=(ds.length-(ce:Int)).toNat/\Fresh W0.heap.size (Xx::qX::Ns)/\St W0 ZR ((.box bk7 [Sv mr (((xg s own t n).qE).length) kB,Sv X7 XY X3,yI s.qN,Sv ap s.qA.length cp,Sv ar s.qB.length cr,Sv ao own.length co] 74)::(rr mr (((xg s own t n).qE).length) kB 49 16 xR)::(rr X7 XY X3 77 4 XU)::Z0::Z1::ps) (Z2::Z3::Z4::Z5::Z6::Z7::(qQ true qX xR dp)::(qQ true Xx XU ks)::Z8::Γ)) _ _ _ _ _ _ _ _ _) ((ds.length-(0:Int)).toNat) ⟨_,0,0,oP,((xg s own t n).x9).length,E8,(xg s own t n).x9,Aa,rI,(xg s own t n).qE,avX,avj,uE5,(by rfl),(by rfl),qf,(by rfl),rfl,(N.xm 2 [1,0]<|by simp only[List.length_cons,List.length_append];omega),H⟩ ?_
 clear H N
 rintro m' ρ Kk ⟨xP,done,ce,X7,XY,X3,ks,XU,Xx,dp,xR,qX,rfl,rfl,rfl,i0,i2,rfl,N,H⟩
 have IR:=H.xk (α:=zk) 2 rfl 7 rfl qj
 have nW:=H.xk (α:=zu) 1 rfl 6 rfl qj
 have tk:Vh s own n (⟨(xN s own (xg s own t n) ds ce).1.qE,(xN s own (xg s own t n) ds ce).1.x9⟩:zN):=run_ok p0 tb p4 ce qf
 have rc:=run_cnt s own (xg s own t n) ds ce
 refine zcr<|sq 1<|zjn<|xM<|cD rfl (fun zv=>?_)<|fun zv=>?_
 ·have dk:=p4 ce qf
  refine qW<|t_n<|xM<|xe<|zcr ?_
  obtain⟨wK,o22,rfl⟩:=H.addr 8 rfl qf
  obtain⟨_,H⟩:=H.elem_DeedD 8 rfl ce ce qf qf qf
  refine oI rfl rfl<|sw<|xW [yI ((ds[ce]!).xJ),yI ((ds[ce]!).fA),yI ((ds[ce]!).fB)] isAgg44 sizeOf44 rfl (qH (H.get 0 rfl) 0 3)<|sw<|zn H ti44 [yI 0,yI 0,yI 0] fun YS Fq H=>sw<|zF H 0 [yI ((ds[ce]!).xJ),yI ((ds[ce]!).fA),yI ((ds[ce]!).fB)] sizeOf44 fun Pp H=>?_
  dsimp only[List.set] at H
  refine zjc<|sq 1<|sw<|xW [yI ((ds[ce]!).xJ),yI ((ds[ce]!).fA),yI ((ds[ce]!).fB)] isAgg44 sizeOf44 rfl (qH (H.cells 0 rfl) 0 3) ?_
  have H1:=H.yt 6 10 [1,2,3,0,4,5] [1,2,3,7,8,4,5,6,9] (by simp only[List.length_cons,List.length_append];omega)<|by simp only[List.length_cons,List.length_append];omega
  have N1:Fresh _ (qX::Xx::Ns):=(N.xm 2 [1,0]<|by simp only[List.length_cons,List.length_append];omega)
  have K1:Kept (Ns) ((sF false FA tA cA t.xF)::(sF false FB tB cB t.qG)::(sF false FU tU cU t.qF)::(sF false Fd (aa wK o22) cd ds)::Γ):=K0.behind 4 rfl
  refine sw<|zD #[pp bk7 0,.agg #[yI ((ds[ce]!).xJ),yI ((ds[ce]!).fA),yI ((ds[ce]!).fB)]] rfl rfl call52 (do_ok s own ap cp Fp ar cr Fr ao co Fo ((xN s own (xg s own t n) ds ce).1.qE) ((xN s own (xg s own t n) ds ce).1.x9) bk7 _ mr (((xg s own t n).qE).length) kB xR qX X7 XY X3 XU Xx (ds[ce]!) H1 N1 K1 qg qg qg<|xQ (zQ OL 0 rfl)<|xQ (zQ OL 1 rfl)<|xQ (zQ OL 2 rfl)<|xQ (zQ OL 3 rfl)<|xQ (zQ OL 4 rfl)<|xQ (zQ OL 5 rfl)<|xQ (zQ OL 6 rfl)<|XX OL 7 rfl) ?_
  clear H H1 N1 K1
  rintro _ I8 ⟨aaK,ZD,ZC,avY,rp,aHd,aDW,rfl,N,H⟩
  obtain rfl:=H.xk (α:=zk) 2 rfl 4 rfl qj
  refine sp (Bv (((doM s own (⟨((xN s own (xg s own t n) ds ce).1.qE),((xN s own (xg s own t n) ds ce).1.x9)⟩:zN)<|ds[ce]!).2:Int) == 0))<|zjn<|cE rfl (fun Az=>?_)<|fun Az=>?_
  ·refine xX (sq 1<|sw<|zS done 1 rfl rfl qf (sq 1<|xU<|b_n<|t_n<|xX<|sw<|zS ce 1 rfl rfl qf<|sq 1<|xU<|xu (m':=(ds.length-((ce+1):Int)).toNat) qf ⟨_,_,ce+1,_,_,_,_,_,_,_,_,_,uE5,?_,?_,?_,?_,rfl,(N.xm 2 [1,0]<|by simp only[List.length_cons,List.length_append];omega),H.xm 6 9 [0,1,2,4,5] [0,1,2,5,6,7,3,4,8] (by simp only[List.length_cons,List.length_append];omega)<|by simp only[List.length_cons,List.length_append];omega⟩))
   ·rfl
   ·rfl
   ·omega
   ·(rw[i2];exact run_yes ql)
  refine qW<|b_n<|t_n<|xX<|sw<|zS ce 1 rfl rfl qf<|sq 1<|xU<|xu (m':=(ds.length-((ce+1):Int)).toNat) qf ⟨_,_,ce+1,_,_,_,_,_,_,_,_,_,uE5,?_,?_,?_,?_,rfl,(N.xm 2 [1,0]<|by simp only[List.length_cons,List.length_append];omega),H.xm 6 9 [0,1,2,4,5] [0,1,2,5,6,7,3,4,8] (by simp only[List.length_cons,List.length_append];omega)<|by simp only[List.length_cons,List.length_append];omega⟩
  ·rfl
  ·rfl
  ·omega
  ·exact i2.trans<|run_no ql
 refine zx4<|zcr<|sq 4<|zjr<|ret2 (pp bk7 0) (yI done) rfl rfl rfl ⟨_,rfl,?_⟩
 obtain rfl:ce=ds.length:=by omega
 subst i2
 exact⟨bk7,mr,((xg s own t n).qE).length,kB,xR,qX,X7,XY,X3,XU,Xx,rfl,(N.xm 2 [1,0]<|by simp only[List.length_cons,List.length_append];omega),H.xm 5 9 [0,1,2] [0,1,2,3,4,5,8,6,7] (by simp only[List.length_cons,List.length_append];omega)<|by simp only[List.length_cons,List.length_append];omega⟩
end
section
namespace VDeed
theorem ret_bool{a b:Bool}(h:a=b):Ending.returned (Bv a)=.returned (Bv b):=by rw[h]
theorem own:ownKnob Tryz.prog.godebug=none:=by kernel_rfl
def inR(n lo hi:Int):Bool:=decide (lo<=n) && decide (n<=hi)
theorem inR_yes(h:lo<=n):inR n lo hi=decide (n<=hi):=by simp[inR,h]
theorem inR_no(h:n<lo):inR n lo hi=false:=by simp[inR];omega
theorem inRange_any(n lo hi:Int)(w:World):Calls Tryz.prog 37 #[.int .i64 n,.int .i64 lo,.int .i64 hi] w fun e w'=>e=.returned (Bv<|inR n lo hi)/\w=w':=by
 go_enter Tryz.func37,Tryz.ntmps37
 go_wp2
 ·go_ret
  exact⟨by rw[inR_yes ‹_›];rfl,rfl⟩
 ·go_ret
  exact⟨by rw[inR_no ‹_›];rfl,rfl⟩
def word(k:Int):List UInt8:=
 if k=1 then [119,111,114,107] else if k=2 then [115,97,118,101] else if k=3 then [112,111,115,116] else if k=4 then [98,97,99,107]
 else if k=5 then [97,100,118,97,110,99,101] else if k=6 then [100,101,108,105,118,101,114] else if k=7 then [99,111,112,121]
 else if k=8 then [100,114,111,112] else if k=9 then [99,114,97,115,104] else []
def many(k:Int):Int:=if k=3\/k=4 then 2 else if 1<=k/\k<=9 then 1 else 0
theorem deedWord_any(k:Int)(w:World):Calls Tryz.prog 113 #[.int .i64 k] w fun e w'=>e=.returned (.tuple #[.string ⟨(word k).toArray⟩,.int .i64<|many k])/\w=w':=by
 by_cases hk:1<=k/\k<=9
 ·obtain⟨h1,h9⟩:=hk
  have hc:k=1\/k=2\/k=3\/k=4\/k=5\/k=6\/k=7\/k=8\/k=9:=by omega
  rcases hc with rfl|rfl|rfl|rfl|rfl|rfl|rfl|rfl|rfl
  all_goals
   go_enter Tryz.func113,Tryz.ntmps113
   go_wp2
   go_ret2
   exact⟨rfl,rfl⟩
 ·have e:word k=[]/\many k=0:=by unfold word many;constructor <;> (repeat' split) <;> first|rfl|omega
  obtain⟨e1,e2⟩:=e
  have n1:(k == 1)=false:=by simp;omega
  have n2:(k == 2)=false:=by simp;omega
  have n3:(k == 3)=false:=by simp;omega
  have n4:(k == 4)=false:=by simp;omega
  have n5:(k == 5)=false:=by simp;omega
  have n6:(k == 6)=false:=by simp;omega
  have n7:(k == 7)=false:=by simp;omega
  have n8:(k == 8)=false:=by simp;omega
  have n9:(k == 9)=false:=by simp;omega
  rw[e1,e2]
  clear e1 e2 hk
  go_enter Tryz.func113,Tryz.ntmps113
  go_wp2
  go_ret2
  exact⟨rfl,rfl⟩
def kindB(k:Int):Bool:=decide (1<=k) && decide (k<=9)
theorem word_nil(h:word k=[]):kindB k=false:=by
 unfold kindB;unfold word at h
 by_cases h1:1<=k <;> by_cases h9:k<=9 <;> simp[h1,h9]
 have hc:k=1\/k=2\/k=3\/k=4\/k=5\/k=6\/k=7\/k=8\/k=9:=by omega
 rcases hc with rfl|rfl|rfl|rfl|rfl|rfl|rfl|rfl|rfl <;> simp at h
theorem word_some(h:¬word k=[]):kindB k=true:=by
 unfold kindB
 by_cases h1:1<=k <;> by_cases h9:k<=9 <;> simp[h1,h9] <;> exact h<|by unfold word;(repeat' split) <;> first|rfl|omega
def validB(k a b:Int):Bool:=kindB k && inR a 0 999 && inR b 0 999 && (decide (1<many k) || decide (b=0))
theorem impl_any(k a b:Int)(w:World):Calls Tryz.prog 69 #[.agg #[.int .i64 k,.int .i64 a,.int .i64 b]] w fun e w'=>e=.returned (Bv<|validB k a b)/\Below w.heap.size w w':=by
 obtain⟨B,hB⟩:∃B,B=validB k a b:=⟨_,rfl⟩
 rw[←hB]
 have HB:=hid hB
 clear hB
 go_enter Tryz.func69,Tryz.ntmps69
 go_wp2_with (first|(go_at_call 113;refine(deedWord_any _ _).mono ?_;rintro e w' ⟨rfl,rfl⟩)|(go_at_call 37;refine(inRange_any _ _ _ _).mono ?_;rintro e w' ⟨rfl,rfl⟩))
 all_goals go_ret
 all_goals refine⟨?_,(Below.refl _ _).alloc (Nat.le_refl _) _⟩
 all_goals rw[HB.out]
 all_goals refine ret_bool ?_
 all_goals first
  |(have k1:=word_nil ‹_›;simp[validB,k1];done)
  |(have k1:=word_some ‹_›;have k2:(!(word k).isEmpty)=true:=(by simp[*]);rw[validB,k1];simp_all;done)
  |(have k1:=word_some ‹_›;have k2:(!(word k).isEmpty)=true:=(by simp[*]);have k3:decide (1<many k)=false:=(by simp[*]);rw[validB,k1];simp[*];rfl)
end VDeed
theorem validDeed_ok(w:World)(d:xH)(p0:VL d):Calls Tryz.prog 69 #[.agg #[.int .i64 d.xJ,.int .i64 d.fA,.int .i64 d.fB]] w (Ret (fun v _=>v=Bv true) w):=by
 refine(VDeed.impl_any d.xJ d.fA d.fB w).mono ?_
 rintro e w' ⟨rfl,hb⟩
 refine⟨_,rfl,?_,hb⟩
 obtain⟨h1,h2,h3,h4⟩:=p0
 have e1:VDeed.kindB d.xJ=true:=by simp[VDeed.kindB];omega
 have e2:VDeed.inR d.fA 0 999=true:=by simp[VDeed.inR];omega
 have e3:VDeed.inR d.fB 0 999=true:=by simp[VDeed.inR];omega
 rw[VDeed.validB,e1,e2,e3]
 congr 1
 by_cases hk:d.xJ=3\/d.xJ=4
 ·have:VDeed.many d.xJ=2:=by rw[VDeed.many,if_pos hk]
  simp[this]
 ·have:d.fB=0:=by omega
  simp[this]
end
section
variable{qR xx iA zI vk zf Bm : Nat}
theorem deedsCode_ok(w:World)(s:qO)(own:yLI)(t:xn)(ds:List xH)(xh:zP w xY qU qR s.qA)(xI:zP w zX xC xx s.qB)(ff:zP w qa jz iA own)(ve:zP w jY zK zI t.xF)(jd:zP w Qe vC vk t.qG)(zB:zP w je zg zf t.qF)(NK:zP w Pk BI Bm ds)(p0:Qr s)(p1:Still s)(p2:own.length=s.qA.length)(p3:∃n,Xw own n)(p4:vU s t)(p5:Whole t)(p6:∀k,k<ds.length->VL (ds[k]!))(p7:ds.length<=400):Calls Tryz.prog 26 #[.agg #[yI s.qN,Sv qU s.qA.length qR,Sv xC s.qB.length xx],Sv jz own.length iA,.agg #[Sv zK t.xF.length zI,Sv vC t.qG.length vk,Sv zg t.qF.length zf],Sv BI ds.length Bm] w (Ret (fun v w'=>v=yI 0) w):=by
 refine en func26 ntmps26 ?_
 have H:=(((((((St.start w).arg NK).arg zB).arg jd).arg ve).arg ff).arg xI).arg xh
 clear xh xI ff ve jd zB NK
 have N:=Fresh.nil w.heap.size
 refine zcr<|sw<|jq H (yS s qU qR xC xx) fun b1 w2 H=>sw<|jq H (yT t zK zI vC vk zg zf) fun b3 w4 H=>sp (yI 0)<|zjn<|xM<|xe<|zcr<|sw<|xW (yS s qU qR xC xx) isAgg27 sizeOf27 rfl (qH (H.cells 1 rfl) 0 3)<|sq 1<|sw<|xW (yT t zK zI vC vk zg zf) isAgg31 sizeOf31 rfl (qH (H.cells 0 rfl) 0 3)<|sw<|oq (tissueCode_ok _ s own t (H.get 0 rfl).1 (H.get 1 rfl).1 (H.get 2 rfl).1 (H.get 3 rfl).1 (H.get 4 rfl).1 (H.get 5 rfl).1 qg qg qg qg qg qg) H fun w6 H=>sp (Bv false)<|sp (Bv false)<|qJ 15 rfl rfl<|sq 1<|qJ 15 rfl rfl<|sw<|vz #[Sv BI ds.length Bm,.func (.func 68) #[] #[]] rfl rfl call67<|en func67 ntmps67 ?_
 refine zcr<|sp (Bv false)<|zjc<|sq 1<|sp (.func (.func 68) #[] #[])<|sw<|vz #[Sv BI ds.length Bm,.func (.func 68) #[] #[]] rfl rfl call112<|en func112 ntmps112 ?_
 refine zcr<|sp (yI 0)<|zjcc<|sq 1<|oN rfl<|sp (yI 0)<|zjn<|xe<|zT ((fun Z0 Z1 Z2 Z3 Z4 Z5 Z6 Z7 Z8=>fun m' ρ w8=>∃(xP:Env) (i:Nat),ρ=upd (upd (upd (upd xP 0<|Sv BI ds.length Bm) 1<|.func (.func 68) #[] #[]) 7<|yI ds.length) 8 (yI i)/\((i:Int)<=ds.length)/\m'=(ds.length-(i:Int)).toNat/\Fresh w.heap.size []/\St w w8 [Z0,Z1] [Z2,Z3,Z4,Z5,Z6,Z7,Z8]) _ _ _ _ _ _ _ _ _) ((ds.length-(0:Int)).toNat) ⟨_,0,uE4,qf,rfl,N,H⟩ ?_
 clear H N
 rintro m' ρ w9 ⟨xP,i,rfl,i0,rfl,N,H⟩
 refine zcr<|sq 1<|zjn<|xM<|cD rfl (fun dD=>?_)<|fun dD=>?_
 ·refine qW (t_n<|xM<|xe<|zcr<|sp (yI i)<|sp (yI i)<|zjc<|sp (.func (.func 68) #[] #[])<|sq 1<|sp (yI i) ?_)
  obtain⟨sT,Za,rfl⟩:=H.addr 6 rfl qf
  obtain⟨_,H⟩:=H.elem_DeedD 6 rfl i i qf qf qf
  refine oI rfl rfl<|sw<|xW [yI ((ds[i]!).xJ),yI ((ds[i]!).fA),yI ((ds[i]!).fB)] isAgg44 sizeOf44 rfl (qH (H.get 0 rfl) 0 3)<|sw<|vz #[.agg #[yI ((ds[i]!).xJ),yI ((ds[i]!).fA),yI ((ds[i]!).fB)]] rfl rfl call68<|en func68 ntmps68 ?_
  refine zcr<|sw<|jq H [yI ((ds[i]!).xJ),yI ((ds[i]!).fA),yI ((ds[i]!).fB)] fun DV If H=>sp (Bv false)<|zjc<|sw<|xW [yI ((ds[i]!).xJ),yI ((ds[i]!).fA),yI ((ds[i]!).fB)] isAgg44 sizeOf44 rfl (qH (H.cells 0 rfl) 0 3) ?_
  have dk:=p6 i qf
  refine sw<|oq (validDeed_ok If (ds[i]!) qg) H fun ZR H=>sp (Bv !true)<|sp (Bv !true)<|zjr<|ret1 (Bv !true) rfl rfl ⟨_,rfl,?_⟩
  replace H:=H.erases [0]
  dsimp only[zL,List.eraseIdx,List.set] at H
  refine zjn<|vg _ rfl (fun zv=>?_)<|fun zv=>?_
  ·replace zv:=xq zv
   refine zcr<|sp (yI i)<|sp (yI i)<|zjr<|zr5<|ret1 (yI i) rfl rfl ⟨_,rfl,(sw<|o_pure (Bv true) (by show some (Value.bool<|decide ((i:Int)>=0))=some (Value.bool true);rw[decide_eq_true qf])<|sp (Bv true)<|zjr<|ret1 (Bv true) rfl rfl ⟨_,rfl,(sp (Bv true)<|sp (Bv true)<|zjn<|cTr rfl<|zcr<|sp (yI 1)<|zjr<|b_r<|t_r<|rH1 (yI 1) H ?_)⟩)⟩
   exfalso;contradiction
  replace zv:=xf zv
  refine qW<|b_n<|t_n<|xX<|sw<|zS i 1 rfl rfl qf<|sq 1<|xU<|xu (m':=(ds.length-((i+1):Int)).toNat) qf ⟨_,i+1,uE4,?_,rfl,N,H.pick [0,1]<|zR 1 7⟩
  ·omega
 refine zx4<|zcr<|sq 1<|zjr<|ret1 (yI (-1)) rfl rfl ⟨_,rfl,(sp (Bv false)<|sp (Bv false)<|zjr<|ret1 (Bv false) rfl rfl ⟨_,rfl,(sp (Bv false)<|sp (Bv false)<|zjn<|cFr rfl<|zcr<|sq 1<|oN rfl<|sp (Bv<|decide ((ds.length:Int)>400))<|sp (Bv<|decide ((ds.length:Int)>400))<|zjn<|cD rfl (fun wO=>?_)<|fun wO=>?_)⟩)⟩
 ·refine zcr (sp (yI 2)<|zjr<|b_r<|t_r<|rH1 (yI 2) H ?_)
  exfalso;omega
 refine qW<|b_n<|t_n<|zcr<|sp (yI 0)<|zjr<|rH1 (yI 0) H ?_
 rfl
theorem tissueAfter_ok(w:World)(s:qO)(own:yLI)(t:xn)(ds:List xH)(xh:zP w xY qU qR s.qA)(xI:zP w zX xC xx s.qB)(ff:zP w qa jz iA own)(ve:zP w jY zK zI t.xF)(jd:zP w Qe vC vk t.qG)(zB:zP w je zg zf t.qF)(NK:zP w Pk BI Bm ds)(p0:Giv s own (Vu own))(p1:Xw own (Vu own))(p2:vU s t)(p3:ds.length<=400)(p4:∀k,k<ds.length->VL (ds[k]!))(p5:Still s)(p6:Whole t):Calls Tryz.prog 10 #[.agg #[yI s.qN,Sv qU s.qA.length qR,Sv xC s.qB.length xx],Sv jz own.length iA,.agg #[Sv zK t.xF.length zI,Sv vC t.qG.length vk,Sv zg t.qF.length zf],Sv BI ds.length Bm] w (Ret (fun v w'=>∃(iO:yOA) (iW:Nat) (iX:Nat) (i7:List Value) (iV:yLN) (qD:yOA) (pM:Nat) (re:Nat) (pQ:List Value) (rd:yLN),v=.tuple #[.agg #[Sv iO iW iX,Sv qD pM re],yI ((xN s own (xg s own t<|Vu own) ds ds.length).2),yI 0]/\Fresh w.heap.size [iV,rd]/\St w w' [rr iO iW iX 49 16 i7,rr qD pM re 77 4 pQ] [qQ true iV i7 (((xN s own (xg s own t<|Vu own) ds ds.length).1).qE),qQ true rd pQ (((xN s own (xg s own t<|Vu own) ds ds.length).1).x9)]) w):=by
 refine en func10 ntmps10 ?_
 have H:=(((((((St.start w).arg NK).arg zB).arg jd).arg ve).arg ff).arg xI).arg xh
 clear xh xI ff ve jd zB NK
 have N:=Fresh.nil w.heap.size
 have A:=H.ltN (L:=[xY,zX,qa,jY,Qe,je,Pk])<|zR 0 7
 obtain⟨n,hn⟩:∃z,Vu own=z:=⟨_,rfl⟩
 rw[hn] at p0 p1 ⊢
 have q1:=p0.sys
 have q2:own.length=s.qA.length:=p0.len
 have q3:∃n,Xw own n:=⟨n,p1⟩
 have tk:Vh s own n (xN s own (xg s own t n) ds ds.length).1:=run_ok p0 (begin_ok p0 p2) p4 ds.length<|Nat.le_refl _
 have tl:=tk.len
 have tf:=tk.few
 have q4:=p0.few
 refine zcr<|sw<|jq H (yS s qU qR xC xx) fun b1 w2 H=>sw<|jq H (yT t zK zI vC vk zg zf) fun b3 w4 H=>sw<|zn H ti39 [yN,yN] fun b5 w6 H=>sp (yI 0)<|sp (yI 0)<|zjcc<|sw<|xW (yS s qU qR xC xx) isAgg27 sizeOf27 rfl (qH (H.cells 2 rfl) 0 3)<|sq 1<|sw<|xW (yT t zK zI vC vk zg zf) isAgg31 sizeOf31 rfl (qH (H.cells 1 rfl) 0 3)<|sq 1<|sw<|oq (deedsCode_ok _ s own t ds (H.get 0 rfl).1 (H.get 1 rfl).1 (H.get 2 rfl).1 (H.get 3 rfl).1 (H.get 4 rfl).1 (H.get 5 rfl).1 (H.get 6 rfl).1 qg qg qg qg qg qg qg qg) H fun w8 H=>sp (yI 0)<|zjc<|sp (yI 0)<|sp (Bv false)<|zjn<|cFr rfl<|qW<|t_n<|zcr<|sw<|xW (yS s qU qR xC xx) isAgg27 sizeOf27 rfl (qH (H.cells 2 rfl) 0 3)<|sq 1<|sw<|xW (yT t zK zI vC vk zg zf) isAgg31 sizeOf31 rfl (qH (H.cells 1 rfl) 0 3)<|sq 1 ?_
 have H1:St w w8 [.box b5 [yN,yN] 39,.box b3 (yT t zK zI vC vk zg zf) 31,.box b1 (yS s qU qR xC xx) 27] [sF false xY qU qR s.qA,sF false zX xC xx s.qB,sF false qa jz iA own,sF false jY zK zI t.xF,sF false Qe vC vk t.qG,sF false je zg zf t.qF,sF false Pk BI Bm ds]:=H.pick [0,1,2]<|zR 0 7
 have N1:Fresh _ []:=N
 have K1:Kept [] []:=Kept.nil _
 refine sw<|zD #[.agg #[yI s.qN,Sv qU s.qA.length qR,Sv xC s.qB.length xx],Sv jz own.length iA,.agg #[Sv zK t.xF.length zI,Sv vC t.qG.length vk,Sv zg t.qF.length zf],Sv BI ds.length Bm] rfl rfl call27 (after_ok s own qU qR xY xC xx zX jz iA qa t zK zI jY vC vk Qe zg zf je n ds BI Bm Pk H1 N1 K1 qg qg qg qg qg<|xQ (A _<|List.mem_of_getElem? (i:=0) rfl)<|xQ (A _<|List.mem_of_getElem? (i:=1) rfl)<|xQ (A _<|List.mem_of_getElem? (i:=2) rfl)<|xQ (A _<|List.mem_of_getElem? (i:=3) rfl)<|xQ (A _<|List.mem_of_getElem? (i:=4) rfl)<|xQ (A _<|List.mem_of_getElem? (i:=5) rfl)<|xQ (A _<|List.mem_of_getElem? (i:=6) rfl) olds_none) ?_
 clear H H1 N1 K1
 rintro _ sI ⟨Y8,oP,ab5,E8,Aa,rI,MQ,auL,lV,apW,nZ,rfl,N,H⟩
 obtain rfl:=H.xk (α:=zu) 1 rfl 7 rfl qj
 obtain rfl:=H.xk (α:=zk) 2 rfl 8 rfl qj
 refine sq 5<|zjc<|sw<|jE [yN,yN] []<|sw<|zn H ti39 [yN,yN] fun sK D1 H=>sw<|zF H 0 [yN,yN] sizeOf39 fun D0 H=>zjcc<|sq 2<|oF rfl<|oF rfl<|oL rfl (H.cell 1 rfl rfl)<|oN rfl<|sp (yI 0)<|zjn<|xe ?_
 replace H:=H.nilRow 49 16
 replace H:=H.yD (α:=zu)
 refine zT ((fun Z0 Z1 Z2 Z3 Z4 Z5 Z6 Z7 Z8 Z9 fi fK gW ka=>fun m' ρ Fq=>∃(xP:Env) (ce:Nat) (Xg:yOA) (QS:Nat) (Xe:Nat) (mN:List zu) (gt:List Value) (Qu:yLN),ρ=upd (upd (upd (upd (upd (upd (upd xP 8<|pp b5 0) 12<|pp Y8 0) 13<|yI ((xN s own (xg s own t n) ds ds.length).2)) 14<|pp sK 0) 41<|Sv oP (((xN s own (xg s own t n) ds ds.length).1.qE).length) E8) 42<|yI (((xN s own (xg s own t n) ds ds.length).1.qE).length)) 43 (yI ce)/\mN=(xN s own (xg s own t n) ds ds.length).1.qE.take ce/\((ce:Int)<=(((xN s own (xg s own t n) ds ds.length).1.qE).length))/\m'=((((xN s own (xg s own t n) ds ds.length).1.qE).length)-(ce:Int)).toNat/\Fresh w.heap.size [rI,nZ,Qu]/\St w Fq [rr Xg QS Xe 49 16 gt,.box sK [Sv Xg QS Xe,yN] 39,Z0,Z1,Z2,Z3,Z4,Z5] [qQ true Qu gt mN,Z6,Z7,Z8,Z9,fi,fK,gW,ka]) _ _ _ _ _ _ _ _ _ _ _ _ _ _) (((((xN s own (xg s own t n) ds ds.length).1.qE).length)-(0:Int)).toNat) ⟨_,0,none,0,0,([]:List zu),[],[],uE7,(by rfl),qf,rfl,(N.emp.pick [1,2,0]),H.pick (zR 0 8) [0,1,2,3,4,5,6,8,9]⟩ ?_
 clear H N
 rintro m' ρ Pp ⟨xP,ce,Xg,QS,Xe,mN,gt,Qu,rfl,rfl,i0,rfl,N,H⟩
 have Mf:=H.xk (α:=zu) 0 rfl 0 rfl qj
 have hl:((xN s own (xg s own t n) ds ds.length).1.qE.take ce).length=ce:=List.length_take_of_le qf
 refine zcr<|sq 1<|zjn<|xM<|cD rfl (fun oi=>?_)<|fun oi=>?_
 ·have y1:=tk.srv ce qf
  have y2:=y1.1.small p0
  have y3:=y1.2.small p0
  refine qW<|t_n<|xM<|xe<|zcr ?_
  obtain⟨DX,rfl⟩:=H.jB 3 rfl qf
  refine oI rfl rfl ?_
  obtain⟨lX,lA,Rx,j6,iU,M0,mx,mF,U2,jn,iQ,Oj,mG,mz,Yy,lT,ly,P9,kp,kx,PC,g6,gR,J5,lP,l0,R8,g5,gT,Kj,lI,lL,RD,kt,kC,Pw,Sn,H⟩:=H.part_ServerD Qs.refl 3 rfl 7 rfl rfl ce qf
  refine sw<|xW [yI (((((xN s own (xg s own t n) ds ds.length).1.qE)[ce]!).qC).qP),Sv lX ((((((xN s own (xg s own t n) ds ds.length).1.qE)[ce]!).qC).qG).length) lA,Sv j6 ((((((xN s own (xg s own t n) ds ds.length).1.qE)[ce]!).qC).qF).length) iU,Bv (((((xN s own (xg s own t n) ds ds.length).1.qE)[ce]!).qC).qV),Sv mx ((((((xN s own (xg s own t n) ds ds.length).1.qE)[ce]!).qC).vM).length) mF,Sv jn ((((((xN s own (xg s own t n) ds ds.length).1.qE)[ce]!).qC).qL).length) iQ,Sv mG ((((((xN s own (xg s own t n) ds ds.length).1.qE)[ce]!).qC).vX).length) mz,Sv lT ((((((xN s own (xg s own t n) ds ds.length).1.qE)[ce]!).qC).x8).length) ly,yI (((((xN s own (xg s own t n) ds ds.length).1.qE)[ce]!).qI).qP),Sv kp ((((((xN s own (xg s own t n) ds ds.length).1.qE)[ce]!).qI).qG).length) kx,Sv g6 ((((((xN s own (xg s own t n) ds ds.length).1.qE)[ce]!).qI).qF).length) gR,Bv (((((xN s own (xg s own t n) ds ds.length).1.qE)[ce]!).qI).qV),Sv lP ((((((xN s own (xg s own t n) ds ds.length).1.qE)[ce]!).qI).vM).length) l0,Sv g5 ((((((xN s own (xg s own t n) ds ds.length).1.qE)[ce]!).qI).qL).length) gT,Sv lI ((((((xN s own (xg s own t n) ds ds.length).1.qE)[ce]!).qI).vX).length) lL,Sv kt ((((((xN s own (xg s own t n) ds ds.length).1.qE)[ce]!).qI).x8).length) kC] isAgg49 sizeOf49 rfl (fun r v hv=>H.zt 3 rfl (Sn r v hv) qf)<|sw<|zn H ti49 [yI 0,yN,yN,Bv false,yN,yN,yN,yN,yI 0,yN,yN,Bv false,yN,yN,yN,yN] fun Pm w33 H=>?_
  refine sw<|zF H 0 [yI (((((xN s own (xg s own t n) ds ds.length).1.qE)[ce]!).qC).qP),Sv lX ((((((xN s own (xg s own t n) ds ds.length).1.qE)[ce]!).qC).qG).length) lA,Sv j6 ((((((xN s own (xg s own t n) ds ds.length).1.qE)[ce]!).qC).qF).length) iU,Bv (((((xN s own (xg s own t n) ds ds.length).1.qE)[ce]!).qC).qV),Sv mx ((((((xN s own (xg s own t n) ds ds.length).1.qE)[ce]!).qC).vM).length) mF,Sv jn ((((((xN s own (xg s own t n) ds ds.length).1.qE)[ce]!).qC).qL).length) iQ,Sv mG ((((((xN s own (xg s own t n) ds ds.length).1.qE)[ce]!).qC).vX).length) mz,Sv lT ((((((xN s own (xg s own t n) ds ds.length).1.qE)[ce]!).qC).x8).length) ly,yI (((((xN s own (xg s own t n) ds ds.length).1.qE)[ce]!).qI).qP),Sv kp ((((((xN s own (xg s own t n) ds ds.length).1.qE)[ce]!).qI).qG).length) kx,Sv g6 ((((((xN s own (xg s own t n) ds ds.length).1.qE)[ce]!).qI).qF).length) gR,Bv (((((xN s own (xg s own t n) ds ds.length).1.qE)[ce]!).qI).qV),Sv lP ((((((xN s own (xg s own t n) ds ds.length).1.qE)[ce]!).qI).vM).length) l0,Sv g5 ((((((xN s own (xg s own t n) ds ds.length).1.qE)[ce]!).qI).qL).length) gT,Sv lI ((((((xN s own (xg s own t n) ds ds.length).1.qE)[ce]!).qI).vX).length) lL,Sv kt ((((((xN s own (xg s own t n) ds ds.length).1.qE)[ce]!).qI).x8).length) kC] sizeOf49 fun w34 H=>(zjn<|vK 3 rfl H [0,1,2,3,4,5,6,7,8] [0,1,2,3,4,5,6,7,8,9,10,11,12,13,14,15,16,17,18,19,20] fun H=>?_)
  dsimp only[yg,yL]
  refine tF 0 rfl rfl H ?_
  refine tL 1 rfl rfl (fun _ h=>h.cell 2 rfl rfl) H ?_
  refine tF 2 rfl rfl H ?_
  refine rt 3 _ (Qg (cs:=[yI (((((xN s own (xg s own t n) ds ds.length).1.qE)[ce]!).qC).qP),Sv lX ((((((xN s own (xg s own t n) ds ds.length).1.qE)[ce]!).qC).qG).length) lA,Sv j6 ((((((xN s own (xg s own t n) ds ds.length).1.qE)[ce]!).qC).qF).length) iU,Bv (((((xN s own (xg s own t n) ds ds.length).1.qE)[ce]!).qC).qV),Sv mx ((((((xN s own (xg s own t n) ds ds.length).1.qE)[ce]!).qC).vM).length) mF,Sv jn ((((((xN s own (xg s own t n) ds ds.length).1.qE)[ce]!).qC).qL).length) iQ,Sv mG ((((((xN s own (xg s own t n) ds ds.length).1.qE)[ce]!).qC).vX).length) mz,Sv lT ((((((xN s own (xg s own t n) ds ds.length).1.qE)[ce]!).qC).x8).length) ly]) isAgg47 sizeOf47 rfl<|fun _ h=>qH (h.cells 0 rfl) 0 8) H ?_
  refine tF 5 rfl rfl H ?_
  refine rt 6 _ (Qg (cs:=[yI (((((xN s own (xg s own t n) ds ds.length).1.qE)[ce]!).qI).qP),Sv kp ((((((xN s own (xg s own t n) ds ds.length).1.qE)[ce]!).qI).qG).length) kx,Sv g6 ((((((xN s own (xg s own t n) ds ds.length).1.qE)[ce]!).qI).qF).length) gR,Bv (((((xN s own (xg s own t n) ds ds.length).1.qE)[ce]!).qI).qV),Sv lP ((((((xN s own (xg s own t n) ds ds.length).1.qE)[ce]!).qI).vM).length) l0,Sv g5 ((((((xN s own (xg s own t n) ds ds.length).1.qE)[ce]!).qI).qL).length) gT,Sv lI ((((((xN s own (xg s own t n) ds ds.length).1.qE)[ce]!).qI).vX).length) lL,Sv kt ((((((xN s own (xg s own t n) ds ds.length).1.qE)[ce]!).qI).x8).length) kC]) isAgg47 sizeOf47 rfl<|fun _ h=>qH (h.cells 0 rfl) 8 8) H ?_
  refine ro 4 rfl ?_
  have atm:=H.base.size
  have awO:=H.ltN (L:=[rI,nZ,Qu]) [19,20,12]
  refine oc (Vf _ ((((xN s own (xg s own t n) ds ds.length).1.qE)[ce]!).qC) (H.get 0 rfl).1 (H.get 1 rfl).1 (H.get 2 rfl).1 (H.get 3 rfl).1 (H.get 4 rfl).1 (H.get 5 rfl).1 qg) ?_
  rintro _ w37 ⟨t9,wu,BN,oC,oK,tP,AZ,BD,FR,pa,oY,vx,Bj,A2,GR,ub,ux,Dt,rfl,M,K⟩ _
  replace N:=N.merge atm awO M
  replace H:=H.merge K M
  refine⟨H.pick (zR 0 9)<|zR 6 21,(ro 7 rfl ?_)⟩
  have awz:=H.base.size
  have auy:=H.ltN (L:=[BN,tP,FR,vx,GR,Dt,rI,nZ,Qu]) [0,1,2,3,4,5,25,26,18]
  refine oc (Vf _ ((((xN s own (xg s own t n) ds ds.length).1.qE)[ce]!).qI) (H.get 12 rfl).1 (H.get 13 rfl).1 (H.get 14 rfl).1 (H.get 15 rfl).1 (H.get 16 rfl).1 (H.get 17 rfl).1 qg) ?_
  rintro _ Sh ⟨vb,tK,Ol,pj,oE,Eo,Bd,Bu,SV,o0,oM,Er,Bs,As,RI,vu,tY,LW,rfl,M,K⟩ _
  replace N:=N.merge awz auy M
  replace H:=H.merge K M
  refine⟨H.pick (zR 0 9)<|zR 12 21,(ro 8 rfl ?_)⟩
  refine jE [yI (((((xN s own (xg s own t n) ds ds.length).1.qE)[ce]!).qC).qP),Sv t9 ((((((xN s own (xg s own t n) ds ds.length).1.qE)[ce]!).qC).qG).length) wu,Sv oC ((((((xN s own (xg s own t n) ds ds.length).1.qE)[ce]!).qC).qF).length) oK,Bv (((((xN s own (xg s own t n) ds ds.length).1.qE)[ce]!).qC).qV),Sv AZ ((((((xN s own (xg s own t n) ds ds.length).1.qE)[ce]!).qC).vM).length) BD,Sv pa ((((((xN s own (xg s own t n) ds ds.length).1.qE)[ce]!).qC).qL).length) oY,Sv Bj ((((((xN s own (xg s own t n) ds ds.length).1.qE)[ce]!).qC).vX).length) A2,Sv ub ((((((xN s own (xg s own t n) ds ds.length).1.qE)[ce]!).qC).x8).length) ux,yI (((((xN s own (xg s own t n) ds ds.length).1.qE)[ce]!).qI).qP),Sv vb ((((((xN s own (xg s own t n) ds ds.length).1.qE)[ce]!).qI).qG).length) tK,Sv pj ((((((xN s own (xg s own t n) ds ds.length).1.qE)[ce]!).qI).qF).length) oE,Bv (((((xN s own (xg s own t n) ds ds.length).1.qE)[ce]!).qI).qV),Sv Bd ((((((xN s own (xg s own t n) ds ds.length).1.qE)[ce]!).qI).vM).length) Bu,Sv o0 ((((((xN s own (xg s own t n) ds ds.length).1.qE)[ce]!).qI).qL).length) oM,Sv Bs ((((((xN s own (xg s own t n) ds ds.length).1.qE)[ce]!).qI).vX).length) As,Sv vu ((((((xN s own (xg s own t n) ds ds.length).1.qE)[ce]!).qI).x8).length) tY] [(0,.agg #[yI (((((xN s own (xg s own t n) ds ds.length).1.qE)[ce]!).qC).qP),Sv t9 ((((((xN s own (xg s own t n) ds ds.length).1.qE)[ce]!).qC).qG).length) wu,Sv oC ((((((xN s own (xg s own t n) ds ds.length).1.qE)[ce]!).qC).qF).length) oK,Bv (((((xN s own (xg s own t n) ds ds.length).1.qE)[ce]!).qC).qV),Sv AZ ((((((xN s own (xg s own t n) ds ds.length).1.qE)[ce]!).qC).vM).length) BD,Sv pa ((((((xN s own (xg s own t n) ds ds.length).1.qE)[ce]!).qC).qL).length) oY,Sv Bj ((((((xN s own (xg s own t n) ds ds.length).1.qE)[ce]!).qC).vX).length) A2,Sv ub ((((((xN s own (xg s own t n) ds ds.length).1.qE)[ce]!).qC).x8).length) ux]),(1,.agg #[yI (((((xN s own (xg s own t n) ds ds.length).1.qE)[ce]!).qI).qP),Sv vb ((((((xN s own (xg s own t n) ds ds.length).1.qE)[ce]!).qI).qG).length) tK,Sv pj ((((((xN s own (xg s own t n) ds ds.length).1.qE)[ce]!).qI).qF).length) oE,Bv (((((xN s own (xg s own t n) ds ds.length).1.qE)[ce]!).qI).qV),Sv Bd ((((((xN s own (xg s own t n) ds ds.length).1.qE)[ce]!).qI).vM).length) Bu,Sv o0 ((((((xN s own (xg s own t n) ds ds.length).1.qE)[ce]!).qI).qL).length) oM,Sv Bs ((((((xN s own (xg s own t n) ds ds.length).1.qE)[ce]!).qI).vX).length) As,Sv vu ((((((xN s own (xg s own t n) ds ds.length).1.qE)[ce]!).qI).x8).length) tY])] ?_
  refine⟨H.pick (zR 0 9)<|zR 12 21,(ro 9 rfl ?_)⟩
  refine zy H underlying36 ti49 [yI (((((xN s own (xg s own t n) ds ds.length).1.qE)[ce]!).qC).qP),Sv t9 ((((((xN s own (xg s own t n) ds ds.length).1.qE)[ce]!).qC).qG).length) wu,Sv oC ((((((xN s own (xg s own t n) ds ds.length).1.qE)[ce]!).qC).qF).length) oK,Bv (((((xN s own (xg s own t n) ds ds.length).1.qE)[ce]!).qC).qV),Sv AZ ((((((xN s own (xg s own t n) ds ds.length).1.qE)[ce]!).qC).vM).length) BD,Sv pa ((((((xN s own (xg s own t n) ds ds.length).1.qE)[ce]!).qC).qL).length) oY,Sv Bj ((((((xN s own (xg s own t n) ds ds.length).1.qE)[ce]!).qC).vX).length) A2,Sv ub ((((((xN s own (xg s own t n) ds ds.length).1.qE)[ce]!).qC).x8).length) ux,yI (((((xN s own (xg s own t n) ds ds.length).1.qE)[ce]!).qI).qP),Sv vb ((((((xN s own (xg s own t n) ds ds.length).1.qE)[ce]!).qI).qG).length) tK,Sv pj ((((((xN s own (xg s own t n) ds ds.length).1.qE)[ce]!).qI).qF).length) oE,Bv (((((xN s own (xg s own t n) ds ds.length).1.qE)[ce]!).qI).qV),Sv Bd ((((((xN s own (xg s own t n) ds ds.length).1.qE)[ce]!).qI).vM).length) Bu,Sv o0 ((((((xN s own (xg s own t n) ds ds.length).1.qE)[ce]!).qI).qL).length) oM,Sv Bs ((((((xN s own (xg s own t n) ds ds.length).1.qE)[ce]!).qI).vX).length) As,Sv vu ((((((xN s own (xg s own t n) ds ds.length).1.qE)[ce]!).qI).x8).length) tY] fun b46 w47 H=>(⟨H.pick (zR 1 9)<|zR 12 21,(xy qh<|xZ<|sw<|zH H 2 rfl 0 rfl underlying36 ti49 rfl qj rfl rfl rfl qw qp qf fun a48 c49 w50 H=>?_)⟩)
  replace H:=H.snoc_ServerD 24 rfl (((((xN s own (xg s own t n) ds ds.length).1.qE)[ce]!).qC).qP) 6 rfl 7 rfl (((((xN s own (xg s own t n) ds ds.length).1.qE)[ce]!).qC).qV) 8 rfl 9 rfl 10 rfl 11 rfl (((((xN s own (xg s own t n) ds ds.length).1.qE)[ce]!).qI).qP) 0 rfl 1 rfl (((((xN s own (xg s own t n) ds ds.length).1.qE)[ce]!).qI).qV) 2 rfl 3 rfl 4 rfl 5 rfl
  replace N:Fresh w.heap.size [(Qu++(BN++tP++FR++vx++GR++Dt++Ol++Eo++SV++Er++RI++LW)),rI,nZ]:=(N.pick [6,7,8,9,10,11,0,1,2,3,4,5,14,12,13]).join.join.join.join.join.join.join.join.join.join.join.swap.join
  refine oF rfl<|sw<|zh H 3 [Sv a48 (QS+1) c49,yN] sizeOf36 fun w51 H=>xU<|b_n<|t_n<|xX<|sw<|zS ce 1 rfl rfl qf<|sq 1<|xU<|xu (m':=((((xN s own (xg s own t n) ds ds.length).1.qE).length)-((ce+1):Int)).toNat) qf ⟨_,ce+1,_,_,_,_,_,_,uE7,?_,?_,rfl,(N.pick [1,2,0]),H.pick (zR 2 8) (0::zR 26 8)⟩
  ·exact take_snoc qf
  ·omega
 refine zx4<|zcc<|sq 2<|oF rfl<|oF rfl<|oL rfl (H.cell 2 rfl rfl)<|oN rfl<|sp (yI 0)<|zjn<|xe ?_
 replace H:=H.nilRow 77 4
 replace H:=H.yD (α:=zk)
 refine zT ((fun Z0 Z1 Z2 Z3 Z4 Z5 Z6 Z7 Z8 Z9 fi fK gW ka lc lN=>fun m' ρ T2=>∃(xP:Env) (eH:Nat) (gi:yOA) (fz:Nat) (f8:Nat) (uN:List zk) (lM:List Value) (fy:yLN),ρ=upd (upd (upd (upd (upd (upd xP 8<|pp b5 0) 13<|yI ((xN s own (xg s own t n) ds ds.length).2)) 14<|pp sK 0) 64<|Sv MQ (((xN s own (xg s own t n) ds ds.length).1.x9).length) lV) 65<|yI (((xN s own (xg s own t n) ds ds.length).1.x9).length)) 66 (yI eH)/\uN=(xN s own (xg s own t n) ds ds.length).1.x9.take eH/\((eH:Int)<=(((xN s own (xg s own t n) ds ds.length).1.x9).length))/\m'=((((xN s own (xg s own t n) ds ds.length).1.x9).length)-(eH:Int)).toNat/\Fresh w.heap.size [rI,nZ,Qu,fy]/\St w T2 [rr gi fz f8 77 4 lM,Z0,.box sK [Sv Xg QS Xe,Sv gi fz f8] 39,Z1,Z2,Z3,Z4,Z5,Z6] [qQ true fy lM uN,Z7,Z8,Z9,fi,fK,gW,ka,lc,lN]) _ _ _ _ _ _ _ _ _ _ _ _ _ _ _ _) (((((xN s own (xg s own t n) ds ds.length).1.x9).length)-(0:Int)).toNat) ⟨_,0,none,0,0,([]:List zk),[],[],uE6,(by rfl),qf,rfl,(N.emp.pick [1,2,3,0]),H⟩ ?_
 clear H N
 rintro m' ρ w53 ⟨xP,eH,gi,fz,f8,uN,lM,fy,rfl,rfl,i0,rfl,N,H⟩
 have Yu:=H.xk (α:=zk) 0 rfl 0 rfl qj
 have hl:((xN s own (xg s own t n) ds ds.length).1.x9.take eH).length=eH:=List.length_take_of_le qf
 refine zcr<|sq 1<|zjn<|xM<|cD rfl (fun h54=>?_)<|fun h54=>?_
 ·have y4:=((tk.wire eH qf).2.2.1).small p0.sys
  refine qW<|t_n<|xM<|xe<|zcr ?_
  obtain⟨PI,rfl⟩:=H.jB 5 rfl qf
  refine oI rfl rfl ?_
  obtain⟨nm,nj,MZ,agh,H⟩:=H.part_ParcelD Qs.refl 5 rfl 9 rfl rfl eH qf
  refine sw<|xW [yI ((((xN s own (xg s own t n) ds ds.length).1.x9)[eH]!).qP),yI ((((xN s own (xg s own t n) ds ds.length).1.x9)[eH]!).QO),yI ((((xN s own (xg s own t n) ds ds.length).1.x9)[eH]!).fTo),Sv nm (((((xN s own (xg s own t n) ds ds.length).1.x9)[eH]!).qG).length) nj] isAgg77 sizeOf77 rfl (fun r v hv=>H.zt 5 rfl (agh r v hv) qf)<|sw<|zn H ti77 [yI 0,yI 0,yI 0,yN] fun b58 w59 H=>(sw<|zF H 0 [yI ((((xN s own (xg s own t n) ds ds.length).1.x9)[eH]!).qP),yI ((((xN s own (xg s own t n) ds ds.length).1.x9)[eH]!).QO),yI ((((xN s own (xg s own t n) ds ds.length).1.x9)[eH]!).fTo),Sv nm (((((xN s own (xg s own t n) ds ds.length).1.x9)[eH]!).qG).length) nj] sizeOf77 fun w60 H=>zjc<|oF rfl<|oL rfl (H.cell 0 rfl rfl) ?_)
  have Zi:=H.base.size
  have acA:=H.ltN (L:=[rI,nZ,Qu,fy]) [9,10,2,1]
  refine sw<|oc (Xh _ ((((xN s own (xg s own t n) ds ds.length).1.x9)[eH]!).qG) (H.get 0 rfl).1 qg) ?_
  rintro _ w62 ⟨K8,aw0,MT,ant,ani,rfl,M,K⟩ _
  replace N:=N.merge Zi acA M
  replace H:=H.merge K M
  obtain rfl:=H.xk (α:=yLI) 0 rfl 0 rfl qj
  refine oF rfl<|sw<|zh H 1 [yI ((((xN s own (xg s own t n) ds ds.length).1.x9)[eH]!).qP),yI ((((xN s own (xg s own t n) ds ds.length).1.x9)[eH]!).QO),yI ((((xN s own (xg s own t n) ds ds.length).1.x9)[eH]!).fTo),Sv K8 (((((xN s own (xg s own t n) ds ds.length).1.x9)[eH]!).qG).length) MT] sizeOf29 fun w67 H=>zjn<|xX<|oF rfl<|oL rfl (H.cell 4 rfl rfl)<|sw<|xW [yI ((((xN s own (xg s own t n) ds ds.length).1.x9)[eH]!).qP),yI ((((xN s own (xg s own t n) ds ds.length).1.x9)[eH]!).QO),yI ((((xN s own (xg s own t n) ds ds.length).1.x9)[eH]!).fTo),Sv K8 (((((xN s own (xg s own t n) ds ds.length).1.x9)[eH]!).qG).length) MT] isAgg77 sizeOf77 rfl (qH (H.cells 1 rfl) 0 4)<|sw<|zy H underlying37 ti77 [yI ((((xN s own (xg s own t n) ds ds.length).1.x9)[eH]!).qP),yI ((((xN s own (xg s own t n) ds ds.length).1.x9)[eH]!).QO),yI ((((xN s own (xg s own t n) ds ds.length).1.x9)[eH]!).fTo),Sv K8 (((((xN s own (xg s own t n) ds ds.length).1.x9)[eH]!).qG).length) MT] fun b68 w69 H=>?_
  have H0:=H
  obtain⟨G73,an0,aCK,H⟩:=H.jA (α:=yLI) 1 rfl 0 rfl qj
  replace N:Fresh w.heap.size [G73,rI,nZ,Qu,fy]:=Fresh.ice N H0 1 an0.1 an0.2<|H0.vV [10,11,3,2]
  clear H0
  refine sw<|zH H 3 rfl 0 rfl underlying37 ti77 rfl qj rfl rfl rfl qw qp qf fun a70 c71 Kc H=>?_
  replace H:=H.snoc_ParcelD 3 rfl ((((xN s own (xg s own t n) ds ds.length).1.x9)[eH]!).qP) ((((xN s own (xg s own t n) ds ds.length).1.x9)[eH]!).QO) ((((xN s own (xg s own t n) ds ds.length).1.x9)[eH]!).fTo) 0 rfl
  replace N:Fresh w.heap.size [(fy++G73),rI,nZ,Qu]:=(N.pick [4,0,1,2,3]).join
  refine oF rfl<|sw<|zh H 5 [Sv Xg QS Xe,Sv a70 (fz+1) c71] sizeOf37 fun w76 H=>xU<|b_n<|t_n<|xX<|sw<|zS eH 1 rfl rfl qf<|sq 1<|xU<|xu (m':=((((xN s own (xg s own t n) ds ds.length).1.x9).length)-((eH+1):Int)).toNat) qf ⟨_,eH+1,_,_,_,_,_,_,uE6,?_,?_,rfl,(N.pick [1,2,3,0]),H.pick (zR 3 9) (0::zR 5 9)⟩
  ·exact take_snoc qf
  ·omega
 refine zx4<|zcr<|sw<|xW [Sv Xg QS Xe,Sv gi fz f8] isAgg39 sizeOf39 rfl (qH (H.cells 2 rfl) 0 2)<|sq 1<|sw<|zF H 6 [Sv Xg QS Xe,Sv gi fz f8] sizeOf39 fun w77 H=>sq 1<|sp (yI 0)<|zjr<|retC3 H 6 rfl (yI ((xN s own (xg s own t n) ds ds.length).2)) (yI 0) rfl isAgg39 sizeOf39 rfl rfl rfl ⟨_,rfl,?_,H.base⟩
 obtain rfl:ce=(xN s own (xg s own t n) ds ds.length).1.qE.length:=by omega
 obtain rfl:eH=(xN s own (xg s own t n) ds ds.length).1.x9.length:=by omega
 rw[List.take_length,List.take_length] at H
 exact⟨Xg,QS,Xe,gt,Qu,gi,fz,f8,lM,fy,rfl,(N.pick [2,3]),H.pick [1,0] [1,0]⟩
end
section
section
variable{s : qO}{own : yLI}{v : zN}{l m : List xH}
theorem get_left{α:Type}[Inhabited α]{a b:List α}(h:j<a.length):(a++b)[j]! =a[j]! :=by
 rw[getElem!_pos (a++b) j<|by rw[List.length_append];omega,getElem!_pos a j h,List.getElem_append_left h]
theorem runTo_app:∀k,k<=l.length->xN s own v (l++m) k=xN s own v l k
 |0,_=>rfl
 |k+1,hk=>by
  rw[xN,xN,runTo_app k qf,get_left qf]
structure CrashAt(V W:zN×Int)(k:Int):Prop where
 dN:W.2=V.2+1
 len:W.1.qE.length=V.1.qE.length
 wire:W.1.x9=V.1.x9
 saved:∀i,i<V.1.qE.length->(W.1.qE[i]!).qI=(V.1.qE[i]!).qI
 desk:∀i:Nat,i<V.1.qE.length->(W.1.qE[i]!).qC=if (i:Int)=k then (V.1.qE[i]!).qI else (V.1.qE[i]!).qC
theorem Deeds.crash(h:Deeds l)(h0:0<=k/\k<=999):Deeds (l++[⟨9,k,0⟩]):=h.snoc ⟨⟨by show (1:Int)<=9;decide,by show (9:Int)<=9;decide⟩,h0,⟨Int.le_refl _,by show (0:Int)<=999;decide⟩,.inr<|.inr rfl⟩
theorem own_all{n:Nat}(h:OwnDr n own):∃m,Xw own m/\m<=4:=by
 obtain⟨h1,m,h2,h3,h4,h5,h6⟩:=h
 refine⟨m,⟨⟨h2,by omega⟩,⟨by omega,h5⟩,fun i hi0 hi1=>?_⟩,by omega⟩
 obtain⟨j,hj,e⟩:=h6 i.toNat qf
 have:own[j]! =i:=by omega
 rw[getElem!_pos own j hj] at this
 exact this▸List.getElem_mem hj
theorem giv_of{m:Nat}(hs:Qr s)(h:OwnDr s.qA.length own)(hm:Xw own m):Giv s own m:=⟨hs,h.1,hm.bds,hm.one.2⟩
theorem still_of(h:MildTo s.qB s.qB.length):Still s:=fun i hi=>h i hi
theorem whole_of{t:xn}(h:AllTo t.xF):Whole t:=fun i hi=>h i hi
end
def putL(n:Int):yLI->yLI
 | []=>[n]
 |x::l=>if x<n then x::putL n l else if x=n then x::l else n::x::l
theorem mem_putL{n x:Int}:∀ {l:yLI},x∈putL n l<->x=n\/x∈l
 | []=>by simp[putL]
 |y::l=>by
  rw[putL]
  split
  ·rw[List.mem_cons,mem_putL,List.mem_cons]
   constructor
   ·rintro(h|h|h)
    ·exact .inr<|.inl h
    ·exact .inl h
    ·exact .inr<|.inr h
   ·rintro(h|h|h)
    ·exact .inr<|.inl h
    ·exact .inl h
    ·exact .inr<|.inr h
  ·split
   ·rename_i e
    subst e
    rw[List.mem_cons]
    constructor
    ·exact .inr
    ·rintro(h|h)
     ·exact .inl h
     ·exact h
   ·rw[List.mem_cons]
theorem putL_len(n:Int):∀l:yLI,(putL n l).length<=l.length+1
 | []=>by simp[putL]
 |x::l=>by
  rw[putL]
  have:=putL_len n l
  split
  ·simp only[List.length_cons];omega
  ·split <;> simp
theorem putL_asc{n:Int}:∀ {l:yLI},l.Pairwise (· < ·)->(putL n l).Pairwise (· < ·)
 | [],_=>by simp[putL]
 |x::l,h=>by
  have h1:=List.pairwise_cons.1 h
  rw[putL]
  split
  ·rename_i hx
   refine List.pairwise_cons.2 ⟨fun y hy=>?_,putL_asc h1.2⟩
   rcases mem_putL.1 hy with rfl|hy
   ·exact hx
   ·exact h1.1 y hy
  ·split
   ·exact h
   ·refine List.pairwise_cons.2 ⟨fun y hy=>?_,h⟩
    rcases List.mem_cons.1 hy with rfl|hy
    ·omega
    ·have:=h1.1 y hy;omega
def putAll(row:yLI):yLI:=row.foldl (fun wJ x=>putL x wJ) []
theorem putAll_snoc(row:yLI)(x:Int):putAll (row++[x])=putL x (putAll row):=by simp[putAll]
theorem putAll_len(row:yLI):(putAll row).length<=row.length:=by
 have key:∀(row wJ:yLI),(row.foldl (fun wJ x=>putL x wJ) wJ).length<=wJ.length+row.length:=by
  intro row
  induction row with
  |nil=>intro wJ;simp
  |cons x row ih=>intro wJ;have h1:=ih (putL x wJ);have h2:=putL_len x wJ;simp only[List.foldl_cons,List.length_cons];omega
 have:=key row []
 simpa [putAll] using this
theorem putAll_all(row:yLI):(putAll row).Pairwise (· < ·)/\∀x,x∈putAll row<->x∈row:=by
 have key:∀(row wJ:yLI),wJ.Pairwise (· < ·)->(row.foldl (fun wJ x=>putL x wJ) wJ).Pairwise (· < ·)/\∀x,x∈row.foldl (fun wJ x=>putL x wJ) wJ<->x∈row\/x∈wJ:=by
  intro row
  induction row with
  |nil=>intro wJ h;exact⟨h,by simp⟩
  |cons x row ih=>
   intro wJ h
   obtain⟨h1,h2⟩:=ih (putL x wJ)<|putL_asc h
   refine⟨h1,fun y=>?_⟩
   rw[List.foldl_cons,h2 y,mem_putL,List.mem_cons]
   constructor
   ·rintro(h|h|h)
    ·exact .inl<|.inr h
    ·exact .inl<|.inl h
    ·exact .inr h
   ·rintro((h|h)|h)
    ·exact .inr<|.inl h
    ·exact .inl h
    ·exact .inr<|.inr h
 obtain⟨h1,h2⟩:=key row [] List.Pairwise.nil
 exact⟨h1,fun x=>(h2 x).trans qm⟩
def PutTo(n:Int)(l out:yLI)(done:Bool)(i:Nat):Prop:=out.length<=i+(if done=true then 1 else 0)/\(if done=true then out++l.drop i else out++putL n (l.drop i))=putL n l
theorem drop_at(h:i<l.length):l.drop i=l[i]! :: l.drop (i+1):=by
 rw[getElem!_pos l i h];exact List.drop_eq_getElem_cons h
theorem PutTo.zero(n:Int)(l:yLI):PutTo n l [] false 0:=⟨by simp,by simp⟩
theorem PutTo.on{out:yLI}{done:Bool}(h:PutTo n l out done i)(hd:done=true)(hi:i<l.length):PutTo n l (out++[l[i]!]) done (i+1):=by
 subst hd
 have h1:=h.1
 have h2:=h.2
 rw[if_pos rfl] at h1 h2
 refine⟨by rw[if_pos rfl];simp;omega,?_⟩
 rw[if_pos rfl,←h2,drop_at hi,List.append_assoc];rfl
theorem PutTo.less{out:yLI}{done:Bool}(h:PutTo n l out done i)(hd:done=false)(hi:i<l.length)(h3:¬l[i]! >=n):PutTo n l (out++[l[i]!]) done (i+1):=by
 subst hd
 have h1:=h.1
 have h2:=h.2
 rw[if_neg qj] at h1 h2
 refine⟨by rw[if_neg qj];simp;omega,?_⟩
 rw[if_neg qj,←h2,drop_at hi,putL,if_pos qf,List.append_assoc];rfl
theorem PutTo.same{out:yLI}{done:Bool}(h:PutTo n l out done i)(hd:done=false)(hi:i<l.length)(h3:l[i]! >=n)(h4:¬l[i]!>n):PutTo n l (out++[l[i]!]) true (i+1):=by
 subst hd
 have h1:=h.1
 have h2:=h.2
 rw[if_neg qj] at h1 h2
 refine⟨by rw[if_pos rfl];simp;omega,?_⟩
 rw[if_pos rfl,←h2,drop_at hi,putL,if_neg qf,if_pos qf,List.append_assoc];rfl
theorem PutTo.more{out:yLI}{done:Bool}(h:PutTo n l out done i)(hd:done=false)(hi:i<l.length)(h4:l[i]!>n):PutTo n l (out++[n]++[l[i]!]) true (i+1):=by
 subst hd
 have h1:=h.1
 have h2:=h.2
 rw[if_neg qj] at h1 h2
 refine⟨by rw[if_pos rfl];simp;omega,?_⟩
 rw[if_pos rfl,←h2,drop_at hi,putL,if_neg qf,if_neg qf,List.append_assoc,List.append_assoc];rfl
theorem PutTo.bd{out:yLI}{done:Bool}(h:PutTo n l out done i):out.length<=i+1:=by
 have:=h.1
 split at this <;> omega
theorem PutTo.yes{out:yLI}{done:Bool}(h:PutTo n l out done i)(hd:done=true)(hi:i=l.length):out=putL n l:=by
 subst hd
 have h2:=h.2
 rw[if_pos rfl,hi,List.drop_length,List.append_nil] at h2
 exact h2
theorem PutTo.no{out:yLI}{done:Bool}(h:PutTo n l out done i)(hd:done=false)(hi:i=l.length):out++[n]=putL n l:=by
 subst hd
 have h2:=h.2
 rw[if_neg qj,hi,List.drop_length,putL] at h2
 exact h2
theorem asc_len:∀(l:yLI) (a:Int) (n:Nat),l.Pairwise (· < ·)->(∀x,x∈l<->a<=x/\x<a+n)->l.length=n
 | [],a,n,_,h=>by
  cases n with
  |zero=>rfl
  |succ n=>exact absurd ((h a).2 ⟨Int.le_refl _,by omega⟩) qm
 |x::l,a,n,hs,h=>by
  have h1:=List.pairwise_cons.1 hs
  have hx:=(h x).1<|List.mem_cons_self ..
  have e:x=a:=by
   have ha:a∈x::l:=(h a).2 ⟨Int.le_refl _,by omega⟩
   rcases List.mem_cons.1 ha with h2|h2
   ·exact h2.symm
   ·have:=h1.1 a h2;omega
  subst e
  cases n with
  |zero=>omega
  |succ m=>
   have:=asc_len l (x+1) m h1.2 fun y=>by
    constructor
    ·intro hy
     have:=(h y).1<|List.mem_cons_of_mem _ hy
     have:=h1.1 y hy
     omega
    ·intro hy
     rcases List.mem_cons.1 ((h y).2 ⟨by omega,by omega⟩) with h2|h2
     ·omega
     ·exact h2
   simp[this]
theorem seen_len{own:yLI}{n:Nat}(h:Xw own n):(putAll own).length=n:=by
 obtain⟨h1,h2⟩:=putAll_all own
 refine asc_len _ 0 n h1 fun x=>(h2 x).trans ⟨fun hx=>?_,fun hx=>h.all x hx.1 qf⟩
 obtain⟨j,hj,e⟩:=List.getElem_of_mem hx
 have:=h.bds.2 j hj
 rw[getElem!_pos own j hj,e] at this
 omega
theorem putAll_take{own:yLI}(hi:i<own.length):putL (own[i]!) (putAll<|own.take i)=putAll (own.take<|i+1):=by
 rw[←putAll_snoc,List.take_succ_eq_append_getElem hi,getElem!_pos own i hi]
section
variable{s : qO}{own : yLI}{v : zN}{l : List xH}{k : Nat}
noncomputable def XD(s:qO)(own:yLI)(v:zN)(l:List xH)(k:Nat):yLI:=(List.range k).map fun j=>(doM s own (xN s own v l j).1<|l[j]!).2
theorem codes_len:(XD s own v l k).length=k:=by simp[XD]
theorem codes_snoc:XD s own v l k++[(doM s own (xN s own v l k).1<|l[k]!).2]=XD s own v l (k+1):=by simp[XD,List.range_succ]
theorem codes_get(hj:j<k):(XD s own v l k)[j]! =(doM s own (xN s own v l j).1<|l[j]!).2:=by
 rw[getElem!_pos (XD s own v l k) j<|by rw[codes_len];exact hj];simp[XD]
theorem cnt10{d:xH}(h:VL d)(hn:([0,1,1,2,2,1,1,1,1,1]:yLI)[d.xJ.toNat]! ≠2):d.fB=0:=by
 rcases h.2.2.2 with e|e|e
 ·rw[e] at hn;exact absurd rfl hn
 ·rw[e] at hn;exact absurd rfl hn
 ·exact e
end
theorem srv_eta{a b:zu}(h1:a.qC=b.qC)(h2:a.qI=b.qI):a=b:=by
 cases a;cases b;simp_all
theorem par_eta{a b:zk}(h1:a.qP=b.qP)(h2:a.QO=b.QO)(h3:a.fTo=b.fTo)(h4:a.qG=b.qG):a=b:=by
 cases a;cases b;simp_all
theorem tis_eta{a b:zN}(h1:a.qE=b.qE)(h2:a.x9=b.x9):a=b:=by
 cases a;cases b;simp_all
end
section
variable{bs os qR xx iA zI vk zf Bm : Nat}
theorem l00Put_ok(w:World)(l:yLI)(n:Int){al:yOA}{cl:Nat}{Fl:yLN}(hl:zP w Fl al cl l)(p0:l.length<=1000000):Calls Tryz.prog 117 #[Sv al l.length cl,.int .i64 n] w (Ret (fun v w'=>∃(ra:yOA) (rn:Nat) (rc:Nat),v=Sv ra rn rc/\Fresh w.heap.size []/\St w w' [rr ra rn rc 2 1 ((putL n l).map<|Value.int .i64)] []) w):=by
 refine en Tryz.func117 Tryz.ntmps117 ?_
 have H:=(St.start w).arg hl
 clear hl
 have N:=Fresh.nil w.heap.size
 refine zcr<|sq 1<|zjc<|sw<|jH H underlying24 ti2 fun b1 w2 H=>sq 1<|zjc<|sp (Bv false)<|zjcc<|sp (.int .i64 0)<|zjn<|xe ?_
 replace H:=H.boxRowI 0 [] 0
 refine zT ((fun Z0=>fun m' ρ w3=>∃(xP:Env) (yO:yOA) (yH:Nat) (yM:Nat) (out:yLI) (done:Bool) (i:Nat),ρ=upd (upd (upd (upd (upd xP 0<|Sv al l.length cl) 1<|.int .i64 n) 5<|Sv yO yH yM) 6<|Bv done) 7 (.int .i64 i)/\((i:Int)<=l.length)/\(PutTo n l out done i)/\m'=(l.length-(i:Int)).toNat/\Fresh w.heap.size []/\St w w3 [rr yO yH yM 2 1<|out.map<|Value.int .i64] [Z0]) _) ((l.length-(0:Int)).toNat) ⟨_,(some ⟨b1,0,none⟩),0,0,([]:yLI),false,0,uE5,qf,(by exact PutTo.zero n l),rfl,N,H⟩ ?_
 clear H N
 rintro m' ρ w4 ⟨xP,yO,yH,yM,out,done,i,rfl,i0,i1,rfl,N,H⟩
 have Vm:=H.Qc 0 rfl
 have ob:=i1.bd
 refine zcc<|sp (.int .i64 i)<|sq 1<|oN rfl<|sq 1<|zjn<|cD rfl (fun h5=>?_)<|fun h5=>?_
 ·refine qW (t_n<|xM<|xe<|zcc<|sp (Bv done)<|sp (Bv !done)<|sp (Bv !done) ?_)
  cases h6:(!done)
  ·replace h6:=xf h6
   refine xO (zR 18 6)<|sp (Bv false)<|zjn<|cFr rfl<|qW<|t_n<|xX<|sq 2<|sp (.int .i64 i) ?_
   obtain⟨b7,o8,rfl⟩:=H.addr 0 rfl qf
   refine oI rfl rfl<|oL rfl (H.vG 0 rfl i qf)<|sw<|zy H underlying24 ti2 [.int .i64<|l[i]!] fun wS BF H=>sw<|zH H 1 rfl 0 rfl underlying24 ti2 rfl qj rfl rfl rfl qw qp qf fun VR Wm Um H=>?_
   rw[snocI] at H
   refine sq 1<|xU<|b_n<|t_n<|xX<|sp (.int .i64 i)<|sw<|zS i 1 rfl rfl qf<|sq 1<|xU<|xu (m':=(l.length-((i+1):Int)).toNat) qf ⟨_,_,_,_,_,_,i+1,uE5,?_,?_,rfl,N,H.pick [1] [0]⟩
   ·omega
   ·exact i1.on ql qf
  ·replace h6:=xq h6
   refine qJ 17 rfl rfl<|sq 1<|qJ 17 rfl rfl<|sp (.int .i64 i)<|qJ 17 rfl rfl ?_
   obtain⟨DV,o16,rfl⟩:=H.addr 0 rfl qf
   refine oI rfl rfl<|qJ 17 rfl rfl<|oL rfl (H.vG 0 rfl i qf)<|qJ 17 rfl rfl<|sp (.int .i64 n)<|qJ 17 rfl rfl<|sq 2<|zjn<|cD rfl (fun lF=>?_)<|fun lF=>?_
   ·refine zcr (sp (Bv true)<|zjc<|sq 1<|sp (.int .i64 i)<|oI rfl rfl<|oL rfl (H.vG 0 rfl i qf)<|sp (.int .i64 n)<|sq 1<|zjn<|cD rfl (fun rB=>?_)<|fun rB=>?_)
    ·refine xX (sq 1<|sp (.int .i64 n)<|sw<|zy H underlying24 ti2 [.int .i64 n] fun I9 Pz H=>sw<|zH H 1 rfl 0 rfl underlying24 ti2 rfl qj rfl rfl rfl qw qp qf fun a22 c23 D1 H=>?_)
     rw[snocI] at H
     refine sq 1<|zjn<|xX<|sq 2<|sp (.int .i64 i)<|oI rfl rfl<|oL rfl (H.vG 0 rfl i qf)<|sw<|zy H underlying24 ti2 [.int .i64<|l[i]!] fun YS Fq H=>sw<|zH H 2 rfl 0 rfl underlying24 ti2 rfl qj rfl rfl rfl qw qp qf fun a27 c28 JJ H=>?_
     rw[snocI] at H
     refine sq 1<|xU<|b_n<|t_n<|xX<|sp (.int .i64 i)<|sw<|zS i 1 rfl rfl qf<|sq 1<|xU<|xu (m':=(l.length-((i+1):Int)).toNat) qf ⟨_,_,_,_,_,_,i+1,uE5,?_,?_,rfl,N,H.pick [2] [0]⟩
     ·omega
     ·exact i1.more ql qf ql
    ·refine qW (t_n<|xX<|sq 2<|sp (.int .i64 i)<|oI rfl rfl<|oL rfl (H.vG 0 rfl i qf)<|sw<|zy H underlying24 ti2 [.int .i64<|l[i]!] fun FSz w31 H=>sw<|zH H 1 rfl 0 rfl underlying24 ti2 rfl qj rfl rfl rfl qw qp qf fun a32 c33 w34 H=>?_)
     rw[snocI] at H
     refine sq 1<|xU<|b_n<|t_n<|xX<|sp (.int .i64 i)<|sw<|zS i 1 rfl rfl qf<|sq 1<|xU<|xu (m':=(l.length-((i+1):Int)).toNat) qf ⟨_,_,_,_,_,_,i+1,uE5,?_,?_,rfl,N,H.pick [1] [0]⟩
     ·omega
     ·exact i1.same ql qf ql ql
   ·refine qW (t_n<|xX<|sq 2<|sp (.int .i64 i)<|oI rfl rfl<|oL rfl (H.vG 0 rfl i qf)<|sw<|zy H underlying24 ti2 [.int .i64<|l[i]!] fun b35 FY H=>sw<|zH H 1 rfl 0 rfl underlying24 ti2 rfl qj rfl rfl rfl qw qp qf fun a37 c38 Rr H=>?_)
    rw[snocI] at H
    refine sq 1<|xU<|b_n<|t_n<|xX<|sp (.int .i64 i)<|sw<|zS i 1 rfl rfl qf<|sq 1<|xU<|xu (m':=(l.length-((i+1):Int)).toNat) qf ⟨_,_,_,_,_,_,i+1,uE5,?_,?_,rfl,N,H.pick [1] [0]⟩
    ·omega
    ·exact i1.less ql qf ql
 ·refine zx4 (zcc<|sp (Bv done)<|sp (Bv !done)<|zjn<|vg _ rfl (fun sG=>?_)<|fun sG=>?_)
  ·replace sG:=xq sG
   refine xX<|sq 1<|sp (.int .i64 n)<|sw<|zy H underlying24 ti2 [.int .i64 n] fun GO Sh H=>sw<|zH H 1 rfl 0 rfl underlying24 ti2 rfl qj rfl rfl rfl qw qp qf fun a43 c44 w45 H=>?_
   rw[snocI] at H
   refine sq 1<|zjc<|sq 2<|zjr<|rH1 (Sv a43 (yH+1) c44) H ?_
   rw[←i1.no ql qf]
   exact⟨a43,yH+1,c44,rfl,N,H.pick [1] []⟩
  ·replace sG:=xf sG
   refine qW<|t_n<|zcr<|sq 2<|zjr<|rH1 (Sv yO yH yM) H ?_
   rw[←i1.yes ql qf]
   exact⟨yO,yH,yM,rfl,N,H.pick [0] []⟩
theorem l08Owners_ok(w:World)(s:qO)(own:yLI)(hs:jI w bs os [.int .i64 s.qN,Sv qU s.qA.length qR,Sv xC s.qB.length xx])(xh:zP w xY qU qR s.qA)(xI:zP w zX xC xx s.qB)(ff:zP w qa jz iA own)(p0:Qr s)(p1:Still s)(p2:∃n,Xw own n)(p3:own.length=s.qA.length):Calls Tryz.prog 73 #[.pointer<|some ⟨bs,os,none⟩,Sv jz own.length iA] w (Ret (fun v w'=>v=Bv true) w):=by
 refine en Tryz.func73 Tryz.ntmps73 ?_
 have H:=((((St.start w).arg ff).arg xI).arg xh).argAt hs
 have vS:=qM xh
 clear hs xh xI ff
 have N:=Fresh.nil w.heap.size
 obtain⟨n,p4⟩:=p2
 have p5:=p4.one
 have e1:=srvTo_all p4
 have e2:∃n,Xw own n:=⟨n,p4⟩
 have p6:=p0.1.2.1
 refine zcr<|sp (Bv false)<|zjcc<|sq 1<|sw<|oq (l02Ok_ok _ s (qH (H.get 0 rfl) 0 3) (H.get 1 rfl).1 (H.get 2 rfl).1) H fun w1 H=>sp (Bv (!(dec<|Qr s)))<|sp (Bv (!(dec<|Qr s))) ?_
 cases h3:(!(dec (Qr s)))
 ·replace h3:=xf h3
  replace h3:=Qz h3
  refine qJ 10 rfl rfl<|sq 1<|qJ 10 rfl rfl<|sw<|oq (l08Still_ok _ s (qH (H.get 0 rfl) 0 3) (H.get 1 rfl).1 (H.get 2 rfl).1) H fun w5 H=>qJ 10 rfl rfl<|sp (Bv (!(dec<|Still s)))<|sp (Bv (!(dec<|Still s)))<|sp (Bv (!(dec<|Still s))) ?_
  cases h7:(!(dec (Still s)))
  ·replace h7:=xf h7
   replace h7:=Qz h7
   refine qJ 15 rfl rfl<|sq 1<|qJ 15 rfl rfl<|oN rfl<|qJ 15 rfl rfl<|sq 1<|qJ 15 rfl rfl<|sq 1<|qJ 15 rfl rfl<|oF rfl<|qJ 15 rfl rfl<|oL rfl (H.zG 0 rfl 1 rfl)<|qJ 15 rfl rfl<|oN rfl<|qJ 15 rfl rfl<|sq 2<|zjn<|vg _ rfl (fun h8=>?_)<|fun h8=>?_
   ·replace h8:=bne_iff_ne.1 h8
    refine zcr<|sp (Bv false)<|zjr<|t_r<|rH1 (Bv false) H ?_
    exfalso;omega
   ·replace h8:=xK h8
    refine qW<|t_n<|zcr<|sw<|jH H underlying24 ti2 fun b9 sI H=>sq 1<|zjcc<|sp (.int .i64 0)<|zjn<|xe ?_
    replace H:=H.boxRowI 0 [] 0
    refine zT ((fun Z0=>fun m' ρ BF=>∃(xP:Env) (D5:yOA) (AF:Nat) (E1:Nat) (acb:yLI) (i:Nat),ρ=upd (upd (upd xP 1<|Sv jz own.length iA) 5<|Sv D5 AF E1) 6 (.int .i64 i)/\acb=putAll (own.take i)/\((i:Int)<=own.length)/\m'=(own.length-(i:Int)).toNat/\Fresh w.heap.size []/\St w BF [rr D5 AF E1 2 1<|acb.map<|Value.int .i64] [Z0]) _) ((own.length-(0:Int)).toNat) ⟨_,(some ⟨b9,0,none⟩),0,0,([]:yLI),0,uE3,(by rfl),qf,rfl,N,H.pick [0] [3]⟩ ?_
    clear H N
    rintro m' ρ G7 ⟨xP,D5,AF,E1,acb,i,rfl,rfl,i0,rfl,N,H⟩
    have RX:=H.Qc 0 rfl
    have sl:=putAll_len<|own.take i
    have tl:(own.take i).length=i:=List.length_take_of_le qf
    refine zcc<|sp (.int .i64 i)<|sq 1<|oN rfl<|sq 1<|zjn<|cD rfl (fun Ed=>?_)<|fun Ed=>?_
    ·have p8:=p4.bds.2 i qf
     refine qW<|t_n<|xM<|xe<|zcc<|sq 1<|sp (.int .i64 i) ?_
     obtain⟨Kn,o15,rfl⟩:=H.addr 0 rfl qf
     refine oI rfl rfl<|oL rfl (H.vG 0 rfl i qf)<|sw<|oq (Vd G7 (own[i]!) 0 3) H fun J8 H=>sq 1<|zjn<|vg _ rfl (fun rB=>?_)<|fun rB=>?_
     ·replace rB:=xq rB
      replace rB:=QZ rB
      refine zcr<|sp (Bv false)<|zjr<|t_r<|zr5<|rH1 (Bv false) H ?_
      exfalso;omega
     ·replace rB:=xf rB
      replace rB:=QM.1 rB
      refine qW<|t_n<|xX<|sq 2<|sp (.int .i64 i)<|oI rfl rfl<|oL rfl (H.vG 0 rfl i qf) ?_
      obtain⟨G20,ali,oZ⟩:=H.rowIsI 0 rfl
      refine sw<|oc (args_eq (by rw[←ali])<|l00Put_ok _ (putAll<|own.take i) (own[i]!) (ali▸oZ) qg) ?_
      rintro _ D1 ⟨aeA,aFp,gH,rfl,M,K⟩ _
      replace H:=H.merge K M
      obtain rfl:=H.Qc 0 rfl
      refine sq 1<|xU<|b_n<|t_n<|xX<|sp (.int .i64 i)<|sw<|zS i 1 rfl rfl qf<|sq 1<|xU<|xu (m':=(own.length-((i+1):Int)).toNat) qf ⟨_,_,_,_,_,i+1,uE3,?_,?_,rfl,N,H.pick [0] [0]⟩
      ·exact putAll_take qf
      ·omega
    ·refine zx4 (zcr<|sq 1<|oN rfl<|sq 1<|sw<|oq (l08Servers_ok _ own (H.get 0 rfl).1 qg) H fun ZP H=>sq 2<|zjr<|rH1 (Bv ((AF:Int) == (srvTo own own.length))) H ?_)
     rw[RX,show i=own.length by omega,List.take_length,e1,seen_len p4];simp
  ·exact absurd p1<|vF<|xq h7
 ·exact absurd p0<|vF<|xq h3
theorem l08Deed_ok(w:World)(d:xH)(p0:VL d):Calls Tryz.prog 75 #[.agg #[.int .i64 d.xJ,.int .i64 d.fA,.int .i64 d.fB]] w (Ret (fun v w'=>v=Bv true) w):=by
 refine en Tryz.func75 Tryz.ntmps75 ?_
 have H:=St.start w
 have d1:=p0.1
 have d2:=p0.2.1
 have d3:=p0.2.2.1
 refine zcr<|sw<|jq H [.int .i64 d.xJ,.int .i64 d.fA,.int .i64 d.fB] fun b1 w2 H=>sp (Bv false)<|zjcc<|oF rfl<|oL rfl (H.cell 0 rfl rfl)<|sw<|oq (Vd w2 d.xJ 1 9) H fun w3 H=>sp (Bv (!(inR d.xJ 1 9)))<|sp (Bv (!(inR d.xJ 1 9))) ?_
 cases h5:(!(inR d.xJ 1 9))
 ·replace h5:=xf h5
  replace h5:=QM.1 h5
  refine qJ 9 rfl rfl<|oF rfl<|qJ 9 rfl rfl<|oL rfl (H.cell 0 rfl rfl)<|qJ 9 rfl rfl<|sw<|oq (Vd w3 d.fA 0 999) H fun w6 H=>qJ 9 rfl rfl<|sp (Bv (!(inR d.fA 0 999)))<|sp (Bv (!(inR d.fA 0 999)))<|sp (Bv (!(inR d.fA 0 999))) ?_
  cases h8:(!(inR d.fA 0 999))
  ·replace h8:=xf h8
   replace h8:=QM.1 h8
   refine qJ 15 rfl rfl<|oF rfl<|qJ 15 rfl rfl<|oL rfl (H.cell 0 rfl rfl)<|qJ 15 rfl rfl<|sw<|oq (Vd w6 d.fB 0 999) H fun w9 H=>qJ 15 rfl rfl<|sq 2<|zjn<|vg _ rfl (fun cZ=>?_)<|fun cZ=>?_
   ·replace cZ:=xq cZ
    replace cZ:=QZ cZ
    refine zcr<|sp (Bv false)<|zjr<|t_r<|rH1 (Bv false) H ?_
    exfalso;omega
   ·replace cZ:=xf cZ
    replace cZ:=QM.1 cZ
    refine qW<|t_n<|zcr<|sw<|vz #[] rfl rfl call118<|en Tryz.func118 Tryz.ntmps118 ?_
    refine zcr<|sq 2<|zjc<|sw<|o_buildF H underlying151 ti9 [.string<|⟨#[]⟩,.string<|⟨#[119,111,114,107]⟩,.string<|⟨#[115,97,118,101]⟩,.string<|⟨#[112,111,115,116]⟩,.string<|⟨#[98,97,99,107]⟩,.string<|⟨#[97,100,118,97,110,99,101]⟩,.string<|⟨#[100,101,108,105,118,101,114]⟩,.string<|⟨#[99,111,112,121]⟩,.string<|⟨#[100,114,111,112]⟩,.string<|⟨#[99,114,97,115,104]⟩] rfl (by simp[Value.cells]) rfl qj qj fun rK Dv H=>(sw<|o_buildF H underlying152 ti3 [.int .i64 0,.int .i64 1,.int .i64 1,.int .i64 2,.int .i64 2,.int .i64 1,.int .i64 1,.int .i64 1,.int .i64 1,.int .i64 1] rfl (by simp[Value.cells]) rfl qj qj fun Kn H7 H=>sq 2<|zjr<|ret2 (Sv (some ⟨rK,0,none⟩) 10 10) (Sv (some ⟨Kn,0,none⟩) 10 10) rfl rfl rfl ⟨_,rfl,(sq 5 ?_)⟩)
    refine zjc<|sq 1<|oF rfl<|oL rfl (H.cell 2 rfl rfl) ?_
    replace H:=H.boxRowI 0 [0,1,1,2,2,1,1,1,1,1] 10
    refine oI rfl rfl<|oL rfl (H.rowInt 0 rfl (iv:=d.xJ) (i:=d.xJ.toNat) qf qf)<|sp (Bv (([0,1,1,2,2,1,1,1,1,1][d.xJ.toNat]! :Int) == 2))<|sp (Bv (([0,1,1,2,2,1,1,1,1,1][d.xJ.toNat]! :Int) == 2)) ?_
    cases Ij:(([0,1,1,2,2,1,1,1,1,1][d.xJ.toNat]! :Int) == 2)
    ·replace Ij:=ne_of_beq_false Ij
     refine qJ 31 rfl rfl<|oF rfl<|qJ 31 rfl rfl<|oL rfl (H.cell 2 rfl rfl)<|qJ 31 rfl rfl<|sp (Bv ((d.fB:Int) == 0))<|sp (Bv ((d.fB:Int) == 0))<|sp (Bv ((d.fB:Int) == 0))<|zjr<|rH1 (Bv ((d.fB:Int) == 0)) H ?_
     rw[cnt10 p0 ql];rfl
    ·replace Ij:=eq_of_beq Ij
     refine xO [32,33,34]<|sp (Bv true)<|sp (Bv true)<|zjr<|rH1 (Bv true) H ?_
     rfl
  ·replace h8:=xq h8
   replace h8:=QZ h8
   refine xO (zR 16 4)<|sp (Bv true)<|zjn<|cTr rfl<|zcr<|sp (Bv false)<|zjr<|t_r<|rH1 (Bv false) H ?_
   exfalso;omega
 ·replace h5:=xq h5
  replace h5:=QZ h5
  refine xO (zR 10 4)<|sp (Bv true)<|sp (Bv true)<|xO (zR 16 4)<|sp (Bv true)<|zjn<|cTr rfl<|zcr<|sp (Bv false)<|zjr<|t_r<|rH1 (Bv false) H ?_
  exfalso;omega
theorem l08Asked_ok(w:World)(s:qO)(own:yLI)(t:xn)(ds:List xH){bt ot:Nat}(hs:jI w bs os [.int .i64 s.qN,Sv qU s.qA.length qR,Sv xC s.qB.length xx])(xh:zP w xY qU qR s.qA)(xI:zP w zX xC xx s.qB)(ff:zP w qa jz iA own)(ht:jI w bt ot [Sv zK t.xF.length zI,Sv vC t.qG.length vk,Sv zg t.qF.length zf])(ve:zP w jY zK zI t.xF)(jd:zP w Qe vC vk t.qG)(zB:zP w je zg zf t.qF)(NK:zP w Pk BI Bm ds)(p0:Qr s/\Still s)(p1:vU s t/\Whole t)(p2:∃n,Xw own n)(p3:own.length=s.qA.length)(p4:ds.length<=400)(p5:∀k,k<ds.length->VL (ds[k]!)):Calls Tryz.prog 33 #[.pointer<|some ⟨bs,os,none⟩,Sv jz own.length iA,.pointer<|some ⟨bt,ot,none⟩,Sv BI ds.length Bm] w (Ret (fun v w'=>v=.int .i64 0) w):=by
 refine en Tryz.func33 Tryz.ntmps33 ?_
 have H:=(((((((((St.start w).arg NK).arg zB).arg jd).arg ve).argAt ht).arg ff).arg xI).arg xh).argAt hs
 clear hs xh xI ff ht ve jd zB NK
 have N:=Fresh.nil w.heap.size
 have q0:=p0.1
 have q1:=p0.2
 have q2:=p0.1.1
 refine zcr<|sp (.int .i64 0)<|zjcc<|sq 2<|sw<|oq (l08Owners_ok _ s own (qH (H.get 0 rfl) 0 3) (H.get 1 rfl).1 (H.get 2 rfl).1 (H.get 3 rfl).1 qg qg qg qg) H fun w2 H=>sp (Bv !true)<|sp (Bv !true) ?_
 cases h4:(!true)
 ·replace h4:=xf h4
  refine qJ 14 rfl rfl<|sq 1<|qJ 14 rfl rfl<|sq 1<|qJ 14 rfl rfl<|sw<|oq (l08Whole_ok _ s t (qH (H.get 0 rfl) 0 3) (H.get 1 rfl).1 (H.get 2 rfl).1 (qH (H.get 4 rfl) 0 3) (H.get 5 rfl).1 (H.get 6 rfl).1 (H.get 7 rfl).1 qg) H fun w6 H=>qJ 14 rfl rfl<|sq 2<|zjn<|vg _ rfl (fun h=>absurd p1<|vF<|xq h)<|fun h8=>?_
  replace h8:=xf h8
  replace h8:=Qz h8
  refine qW<|t_n<|zcc<|sp (.int .i64 0)<|zjn<|xe<|zT ((fun Z0=>fun m' ρ w9=>∃(xP:Env) (i:Nat),ρ=upd (upd xP 3<|Sv BI ds.length Bm) 9 (.int .i64 i)/\((i:Int)<=ds.length)/\m'=(ds.length-(i:Int)).toNat/\Fresh w.heap.size []/\St w w9 [] [Z0]) _) ((ds.length-(0:Int)).toNat) ⟨_,0,uE2,qf,rfl,N,H.pick [] [8]⟩ ?_
  clear H N
  rintro m' ρ sI ⟨xP,i,rfl,i0,rfl,N,H⟩
  refine zcc<|sp (.int .i64 i)<|sq 1<|oN rfl<|sq 1<|zjn<|cD rfl (fun cZ=>?_)<|fun cZ=>?_
  ·have d1:=p5 i qf
   refine qW<|t_n<|xM<|xe<|zcr<|sq 1<|sp (.int .i64 i) ?_
   obtain⟨rK,o13,rfl⟩:=H.addr 0 rfl qf
   obtain⟨_,H⟩:=H.elem_DeedD 0 rfl i i qf qf qf
   refine oI rfl rfl<|sw<|xW [.int .i64 ((ds[i]!).xJ),.int .i64 ((ds[i]!).fA),.int .i64 ((ds[i]!).fB)] isAgg44 sizeOf44 rfl (qH (H.get 0 rfl) 0 3)<|sw<|oq (l08Deed_ok sI (ds[i]!) qg) H fun J8 H=>sp (Bv !true)<|zjn<|vg _ rfl (fun rB=>?_)<|fun rB=>?_
   ·replace rB:=xq rB
    refine zcr<|sp (.int .i64 1)<|zjr<|zr5<|rH1 (.int .i64 1) H ?_
    exfalso;contradiction
   ·replace rB:=xf rB
    refine qW<|b_n<|t_n<|xX<|sp (.int .i64 i)<|sw<|zS i 1 rfl rfl qf<|sq 1<|xU<|xu (m':=(ds.length-((i+1):Int)).toNat) qf ⟨_,i+1,uE2,?_,rfl,N,H.pick [] [1]⟩
    ·omega
  ·refine zx4 (zcc<|sq 1<|oN rfl<|sp (Bv<|decide ((ds.length:Int)>400))<|zjn<|cD rfl (fun zv=>?_)<|fun zv=>?_)
   ·refine zcr (sp (.int .i64 2)<|zjr<|t_r<|rH1 (.int .i64 2) H ?_)
    exfalso;omega
   ·refine qW (t_n<|zcr<|sp (.int .i64 0)<|zjr<|rH1 (.int .i64 0) H ?_)
    rfl
 ·replace h4:=xq h4
  refine xO (zR 15 4)<|sp (Bv true)<|zjn<|cTr rfl<|zcr<|sp (.int .i64 1)<|zjr<|t_r<|rH1 (.int .i64 1) H ?_
  exfalso;contradiction
theorem play_spec(s:qO)(own:yLI)(ap:yOA)(cp:Nat)(Fp:yLN)(ar:yOA)(cr:Nat)(Fr:yLN)(ao:yOA)(co:Nat)(Fo:yLN)(t:xn)(tA:yOA)(cA:Nat)(FA:yLN)(tB:yOA)(cB:Nat)(FB:yLN)(tU:yOA)(cU:Nat)(FU:yLN)(ds:List xH)(ad:yOA)(cd:Nat)(Fd:yLN)(sb:Nat)(tb:Nat)(n:Nat)(H:St W0 w ((.box sb [.int .i64 s.qN,Sv ap s.qA.length cp,Sv ar s.qB.length cr] 27)::(.box tb [Sv tA t.xF.length cA,Sv tB t.qG.length cB,Sv tU t.qF.length cU] 31)::ps) ((sF false Fp ap cp s.qA)::(sF false Fr ar cr s.qB)::(sF false Fo ao co own)::(sF false FA tA cA t.xF)::(sF false FB tB cB t.qG)::(sF false FU tU cU t.qF)::(sF false Fd ad cd ds)::Γ))(N:Fresh W0.heap.size (Ns))(K0:Kept Ns Γ)(p0:Giv s own n)(p1:Xw own n)(p2:vU s t)(p3:ds.length<=400)(p4:∀k,k<ds.length->VL (ds[k]!))(OL:∀f∈(sF false Fp ap cp s.qA::sF false Fr ar cr s.qB::sF false Fo ao co own::sF false FA tA cA t.xF::sF false FB tB cB t.qG::sF false FU tU cU t.qF::sF false Fd ad cd ds::Γ),∀b∈f.F,b<W0.heap.size):Calls Tryz.prog 34 #[.pointer<|some ⟨sb,0,none⟩,Sv ao own.length co,.pointer<|some ⟨tb,0,none⟩,Sv ad ds.length cd] w (fun e w'=>∃v,e=.returned v/\∃(bk:Nat) (eB:yOA) (ee:Nat) (cz:Nat) (bV:List Value) (aC:yLN) (cF:yOA) (j9:Nat) (bH:Nat) (bL:List Value) (az:yLN) (rac:yOA) (rnc:Nat) (rcc:Nat),v=.tuple #[.pointer<|some ⟨bk,0,none⟩,Sv rac rnc rcc]/\Fresh W0.heap.size (aC::az::Ns)/\St W0 w' ((.box sb [.int .i64 s.qN,Sv ap s.qA.length cp,Sv ar s.qB.length cr] 27)::(.box tb [Sv tA t.xF.length cA,Sv tB t.qG.length cB,Sv tU t.qF.length cU] 31)::(.box bk [.pointer<|some ⟨sb,0,none⟩,Sv ao own.length co,Sv eB ee cz,Sv cF j9 bH] 86)::(rr eB ee cz 49 16 bV)::(rr cF j9 bH 77 4 bL)::(rr rac rnc rcc 2 1 ((XD s own (xg s own t n) ds ds.length).map<|Value.int .i64))::ps) ((sF false Fp ap cp s.qA)::(sF false Fr ar cr s.qB)::(sF false Fo ao co own)::(sF false FA tA cA t.xF)::(sF false FB tB cB t.qG)::(sF false FU tU cU t.qF)::(sF false Fd ad cd ds)::(qQ true aC bV ((xN s own (xg s own t n) ds ds.length).1.qE))::(qQ true az bL ((xN s own (xg s own t n) ds ds.length).1.x9))::Γ)):=by
 refine en Tryz.func34 Tryz.ntmps34 ?_
 have tb0:=begin_ok p0 p2
 refine zcr<|sq 2<|zjc<|sq 3 ?_
 have H1:=H.yt 2 7 [0,1] [0,1,2,3,4,5,6] (by simp only[List.length_cons,List.length_append];omega)<|by simp only[List.length_cons,List.length_append];omega
 have N1:Fresh _ (Ns):=N
 have K1:Kept (Ns) ((sF false Fd ad cd ds)::Γ):=K0.behind 1 rfl
 refine sw<|zD #[.pointer<|some ⟨sb,0,none⟩,Sv ao own.length co,.pointer<|some ⟨tb,0,none⟩] rfl rfl call62 (begin_spec s own ap cp Fp ar cr Fr ao co Fo t tA cA FA tB cB FB tU cU FU sb tb n H1 N1 K1 qg qg qg<|xQ (zQ OL 0 rfl)<|xQ (zQ OL 1 rfl)<|xQ (zQ OL 2 rfl)<|xQ (zQ OL 3 rfl)<|xQ (zQ OL 4 rfl)<|xQ (zQ OL 5 rfl)<|xQ (zQ OL 6 rfl)<|XX OL 7 rfl) ?_
 clear H H1 N1 K1
 rintro _ w1 ⟨bk3,ra4,rn5,FW,rx7,rF8,Gf,ao4,Cy,ayj,auD,rfl,N,H⟩
 obtain rfl:=H.xk (α:=zu) 3 rfl 6 rfl qj
 obtain rfl:=H.xk (α:=zk) 4 rfl 7 rfl qj
 refine sq 1<|zjc<|sw<|jH H underlying24 ti2 fun Kn H7 H=>sq 1<|zjcc<|sp (.int .i64 0)<|zjn<|xe ?_
 replace H:=H.boxRowI 0 [] 0
 dsimp only[List.set] at H
 refine zT ((fun Z0 Z1 Z2 Z3 Z4 Z5 Z6 Z7 Z8=>fun m' ρ If=>∃(xP:Env) (qv:yOA) (qe:Nat) (pL:Nat) (M1:yLI) (i:Nat) (Qb:yOA) (yY:Nat) (Qa:Nat) (dS:List zk) (Qv:List Value) (jg:yLN) (bC:List zu) (jm:List Value) (qY:yLN),ρ=upd (upd (upd (upd xP 3<|Sv ad ds.length cd) 10<|.pointer<|some ⟨bk3,0,none⟩) 11<|Sv qv qe pL) 12 (.int .i64 i)/\M1=XD s own (xg s own t n) ds i/\dS=(xN s own (xg s own t n) ds i).1.x9/\bC=(xN s own (xg s own t n) ds i).1.qE/\((i:Int)<=ds.length)/\m'=(ds.length-(i:Int)).toNat/\Fresh W0.heap.size (jg::qY::Ns)/\St W0 If ((rr qv qe pL 2 1<|M1.map<|Value.int .i64)::Z0::Z1::(.box bk3 [.pointer<|some ⟨sb,0,none⟩,Sv ao own.length co,Sv ra4 (((xg s own t n).qE).length) FW,Sv Qb yY Qa] 86)::(rr ra4 (((xg s own t n).qE).length) FW 49 16 jm)::(rr Qb yY Qa 77 4 Qv)::ps) (Z2::Z3::Z4::Z5::Z6::Z7::(qQ true qY jm bC)::(qQ true jg Qv dS)::Z8::Γ)) _ _ _ _ _ _ _ _ _) ((ds.length-(0:Int)).toNat) ⟨_,(some ⟨Kn,0,none⟩),0,0,([]:yLI),0,Gf,((xg s own t n).x9).length,Cy,(xg s own t n).x9,ayj,auD,(xg s own t n).qE,rx7,rF8,uE4,(by rfl),(by rfl),(by rfl),qf,rfl,(N.xm 2 [1,0]<|by simp only[List.length_cons,List.length_append];omega),H⟩ ?_
 clear H N
 rintro m' ρ J8 ⟨xP,qv,qe,pL,M1,i,Qb,yY,Qa,dS,Qv,jg,bC,jm,qY,rfl,rfl,rfl,rfl,i0,rfl,N,H⟩
 have agu:=H.Qc 0 rfl
 have Dj:=H.xk (α:=zk) 5 rfl 7 rfl qj
 have np:=H.xk (α:=zu) 4 rfl 6 rfl qj
 have tk:Vh s own n (⟨(xN s own (xg s own t n) ds i).1.qE,(xN s own (xg s own t n) ds i).1.x9⟩:zN):=run_ok p0 tb0 p4 i qf
 have cl:(XD s own (xg s own t n) ds i).length=i:=codes_len
 refine zcc<|sp (.int .i64 i)<|sq 1<|oN rfl<|sq 1<|zjn<|cD rfl (fun lF=>?_)<|fun lF=>?_
 ·have dk:=p4 i qf
  refine qW<|t_n<|xM<|xe<|xX<|sq 3<|sp (.int .i64 i) ?_
  obtain⟨Ki,o20,rfl⟩:=H.addr 8 rfl qf
  obtain⟨_,H⟩:=H.elem_DeedD 8 rfl i i qf qf qf
  refine oI rfl rfl<|sw<|xW [.int .i64 ((ds[i]!).xJ),.int .i64 ((ds[i]!).fA),.int .i64 ((ds[i]!).fB)] isAgg44 sizeOf44 rfl (qH (H.get 0 rfl) 0 3) ?_
  have H1:=H.yt 6 10 [3,1,4,5,0,2] [1,2,3,7,8,4,5,6,9] (by simp only[List.length_cons,List.length_append];omega)<|by simp only[List.length_cons,List.length_append];omega
  have N1:Fresh _ (qY::jg::Ns):=(N.xm 2 [1,0]<|by simp only[List.length_cons,List.length_append];omega)
  have K1:Kept (Ns) ((sF false FA tA cA t.xF)::(sF false FB tB cB t.qG)::(sF false FU tU cU t.qF)::(sF false Fd (some ⟨Ki,o20,none⟩) cd ds)::Γ):=K0.behind 4 rfl
  refine sw<|zD #[.pointer<|some ⟨bk3,0,none⟩,.agg #[.int .i64 ((ds[i]!).xJ),.int .i64 ((ds[i]!).fA),.int .i64 ((ds[i]!).fB)]] rfl rfl call65 (sdo_ok s own ap cp Fp ar cr Fr ao co Fo sb ((xN s own (xg s own t n) ds i).1.qE) ((xN s own (xg s own t n) ds i).1.x9) bk3 _ ra4 (((xg s own t n).qE).length) FW jm qY Qb yY Qa Qv jg (ds[i]!) H1 N1 K1 qg qg qg<|xQ (zQ OL 0 rfl)<|xQ (zQ OL 1 rfl)<|xQ (zQ OL 2 rfl)<|xQ (zQ OL 3 rfl)<|xQ (zQ OL 4 rfl)<|xQ (zQ OL 5 rfl)<|xQ (zQ OL 6 rfl)<|XX OL 7 rfl) ?_
  clear H H1 N1 K1
  rintro _ Kf ⟨aaf,aIP,acM,acx,KF,aaK,ZD,rfl,N,H⟩
  obtain rfl:=H.xk (α:=zk) 3 rfl 4 rfl qj
  refine sw<|zy H underlying24 ti2 [.int .i64 ((doM s own (⟨((xN s own (xg s own t n) ds i).1.qE),((xN s own (xg s own t n) ds i).1.x9)⟩:zN)<|ds[i]!).2)] fun Pm w33 H=>sw<|zH H 5 rfl 0 rfl underlying24 ti2 rfl qj rfl rfl rfl qw qp qf fun a34 c35 FY H=>?_
  rw[snocI] at H
  dsimp only[List.set] at H
  refine sq 1<|xU<|b_n<|t_n<|xX<|sp (.int .i64 i)<|sw<|zS i 1 rfl rfl qf<|sq 1<|xU<|xu (m':=(ds.length-((i+1):Int)).toNat) qf ⟨_,_,_,_,_,i+1,_,_,_,_,_,_,_,_,_,uE4,?_,?_,?_,?_,rfl,(N.xm 2 [1,0]<|by simp only[List.length_cons,List.length_append];omega),H.xm 7 9 [5,2,6,1,3,4] [0,1,2,5,6,7,3,4,8] (by simp only[List.length_cons,List.length_append];omega)<|by simp only[List.length_cons,List.length_append];omega⟩
  ·exact codes_snoc
  ·rfl
  ·rfl
  ·omega
 ·refine zx4 (zcr<|sq 4<|zjr<|ret2 (.pointer<|some ⟨bk3,0,none⟩) (Sv qv qe pL) rfl rfl rfl ⟨_,rfl,?_⟩)
  obtain rfl:i=ds.length:=by omega
  exact⟨bk3,ra4,((xg s own t n).qE).length,FW,jm,qY,Qb,yY,Qa,Qv,jg,qv,qe,pL,rfl,(N.xm 2 [1,0]<|by simp only[List.length_cons,List.length_append];omega),H.xm 6 9 [1,2,3,4,5,0] [0,1,2,3,4,5,8,6,7] (by simp only[List.length_cons,List.length_append];omega)<|by simp only[List.length_cons,List.length_append];omega⟩
theorem sTissueAfter_ok(w:World)(s:qO)(own:yLI)(t:xn)(ds:List xH)(xh:zP w xY qU qR s.qA)(xI:zP w zX xC xx s.qB)(ff:zP w qa jz iA own)(ve:zP w jY zK zI t.xF)(jd:zP w Qe vC vk t.qG)(zB:zP w je zg zf t.qF)(NK:zP w Pk BI Bm ds)(p0:Giv s own (Vu own))(p1:Xw own (Vu own))(p2:vU s t)(p3:ds.length<=400)(p4:∀k,k<ds.length->VL (ds[k]!))(p5:Still s)(p6:Whole t):Calls Tryz.prog 13 #[.agg #[.int .i64 s.qN,Sv qU s.qA.length qR,Sv xC s.qB.length xx],Sv jz own.length iA,.agg #[Sv zK t.xF.length zI,Sv vC t.qG.length vk,Sv zg t.qF.length zf],Sv BI ds.length Bm] w (Ret (fun v w'=>∃(iO:yOA) (iW:Nat) (iX:Nat) (i7:List Value) (iV:yLN) (qD:yOA) (pM:Nat) (re:Nat) (pQ:List Value) (rd:yLN),v=.tuple #[.agg #[Sv iO iW iX,Sv qD pM re],.int .i64 ((xN s own (xg s own t<|Vu own) ds ds.length).2),.int .i64 0]/\Fresh w.heap.size [iV,rd]/\St w w' [rr iO iW iX 49 16 i7,rr qD pM re 77 4 pQ] [qQ true iV i7 (((xN s own (xg s own t<|Vu own) ds ds.length).1).qE),qQ true rd pQ (((xN s own (xg s own t<|Vu own) ds ds.length).1).x9)]) w):=by
 refine en Tryz.func13 Tryz.ntmps13 ?_
 have H:=(((((((St.start w).arg NK).arg zB).arg jd).arg ve).arg ff).arg xI).arg xh
 clear xh xI ff ve jd zB NK
 have N:=Fresh.nil w.heap.size
 have A:=H.ltN (L:=[xY,zX,qa,jY,Qe,je,Pk])<|zR 0 7
 obtain⟨n,hn⟩:∃z,Vu own=z:=⟨_,rfl⟩
 rw[hn] at p0 p1 ⊢
 have q1:=And.intro p0.sys p5
 have q2:=And.intro p2 p6
 have q3:∃n,Xw own n:=⟨n,p1⟩
 have q4:own.length=s.qA.length:=p0.len
 refine zcr<|sw<|jq H [.int .i64 s.qN,Sv qU s.qA.length qR,Sv xC s.qB.length xx] fun b1 w2 H=>sw<|jq H [Sv zK t.xF.length zI,Sv vC t.qG.length vk,Sv zg t.qF.length zf] fun b3 w4 H=>sw<|zn H ti39 [Sv none 0 0,Sv none 0 0] fun b5 w6 H=>sp (.int .i64 0)<|sp (.int .i64 0)<|zjcc<|sq 2<|sw<|oq (l08Asked_ok _ s own t ds (qH (H.cells 2 rfl) 0 3) (H.get 0 rfl).1 (H.get 1 rfl).1 (H.get 2 rfl).1 (qH (H.cells 1 rfl) 0 3) (H.get 3 rfl).1 (H.get 4 rfl).1 (H.get 5 rfl).1 (H.get 6 rfl).1 qg qg qg qg qg qg) H fun w8 H=>sp (.int .i64 0)<|zjc<|sp (.int .i64 0)<|sp (Bv false)<|zjn<|cFr rfl<|qW<|t_n<|zcr<|sq 2 ?_
 have H1:St w w8 [.box b1 [.int .i64 s.qN,Sv qU s.qA.length qR,Sv xC s.qB.length xx] 27,.box b3 [Sv zK t.xF.length zI,Sv vC t.qG.length vk,Sv zg t.qF.length zf] 31,.box b5 [Sv none 0 0,Sv none 0 0] 39] [sF false xY qU qR s.qA,sF false zX xC xx s.qB,sF false qa jz iA own,sF false jY zK zI t.xF,sF false Qe vC vk t.qG,sF false je zg zf t.qF,sF false Pk BI Bm ds]:=H.pick [2,1,0]<|zR 0 7
 have N1:Fresh _ []:=N
 have K1:Kept [] []:=Kept.nil _
 refine sw<|zD #[.pointer<|some ⟨b1,0,none⟩,Sv jz own.length iA,.pointer<|some ⟨b3,0,none⟩,Sv BI ds.length Bm] rfl rfl call34 (play_spec s own qU qR xY xC xx zX jz iA qa t zK zI jY vC vk Qe zg zf je ds BI Bm Pk b1 b3 n H1 N1 K1 qg qg qg qg qg<|xQ (A _<|List.mem_of_getElem? (i:=0) rfl)<|xQ (A _<|List.mem_of_getElem? (i:=1) rfl)<|xQ (A _<|List.mem_of_getElem? (i:=2) rfl)<|xQ (A _<|List.mem_of_getElem? (i:=3) rfl)<|xQ (A _<|List.mem_of_getElem? (i:=4) rfl)<|xQ (A _<|List.mem_of_getElem? (i:=5) rfl)<|xQ (A _<|List.mem_of_getElem? (i:=6) rfl) olds_none) ?_
 clear H H1 N1 K1
 rintro _ sI ⟨Y8,oP,ab5,E8,Aa,rI,MQ,auL,lV,apW,nZ,aeA,aGD,Sy,rfl,N,H⟩
 obtain rfl:=H.xk (α:=zu) 3 rfl 7 rfl qj
 obtain rfl:=H.xk (α:=zk) 4 rfl 8 rfl qj
 obtain rfl:=H.Qc 5 rfl
 refine sq 5<|zjc<|sp (.int .i64 0)<|zjcc<|sp (.int .i64 0)<|zjn<|xe<|zT ((fun Z0 Z1 Z2 Z3 Z4 Z5 Z6 Z7 Z8 Z9 fi fK gW ka lc=>fun m' ρ Fq=>∃(xP:Env) (done:Int) (i:Nat),ρ=upd (upd (upd (upd (upd xP 8<|.pointer<|some ⟨b5,0,none⟩) 12<|.pointer<|some ⟨Y8,0,none⟩) 13<|Sv aeA ((XD s own (xg s own t n) ds ds.length).length) Sy) 14<|.int .i64 done) 15 (.int .i64 i)/\((i:Int)<=((XD s own (xg s own t n) ds ds.length).length))/\(done=(xN s own (xg s own t n) ds i).2)/\m'=(((XD s own (xg s own t n) ds ds.length).length)-(i:Int)).toNat/\Fresh w.heap.size [rI,nZ]/\St w Fq [Z0,Z1,Z2,Z3,Z4,Z5,Z6] [Z7,Z8,Z9,fi,fK,gW,ka,lc]) _ _ _ _ _ _ _ _ _ _ _ _ _ _ _) ((((XD s own (xg s own t n) ds ds.length).length)-(0:Int)).toNat) ⟨_,0,0,uE5,qf,(by rfl),rfl,N,H.pick (zR 0 7) [0,1,2,3,4,5,7,8]⟩ ?_
 clear H N
 rintro m' ρ Pp ⟨xP,done,i,rfl,i0,i2,rfl,N,H⟩
 have rc:=run_cnt s own (xg s own t n) ds i
 have cl:(XD s own (xg s own t n) ds ds.length).length=ds.length:=codes_len
 refine zcc<|sp (.int .i64 i)<|sq 1<|oN rfl<|sq 1<|zjn<|cD rfl (fun oi=>?_)<|fun oi=>?_
 ·refine qW (t_n<|xM<|xe<|zcr<|sq 1<|sp (.int .i64 i) ?_)
  obtain⟨DX,rfl⟩:=H.jB 5 rfl qf
  refine oI rfl rfl<|oL rfl (H.rowInt 5 rfl (iv:=i) (i:=i) qf qf)<|sp (Bv (((XD s own (xg s own t n) ds ds.length)[i]! :Int) == 0))<|zjn<|cE rfl (fun pn=>?_)<|fun pn=>?_
  ·refine xX (sq 1<|sw<|zS done 1 rfl rfl qf (sq 1<|xU<|b_n<|t_n<|xX<|sp (.int .i64 i)<|sw<|zS i 1 rfl rfl qf<|sq 1<|xU<|xu (m':=(((XD s own (xg s own t n) ds ds.length).length)-((i+1):Int)).toNat) qf ⟨_,_,i+1,uE5,?_,?_,rfl,N,H⟩))
   ·omega
   ·(rw[i2];exact run_yes<|by rw[←codes_get (k:=ds.length) qf];assumption)
  ·refine qW (b_n<|t_n<|xX<|sp (.int .i64 i)<|sw<|zS i 1 rfl rfl qf<|sq 1<|xU<|xu (m':=(((XD s own (xg s own t n) ds ds.length).length)-((i+1):Int)).toNat) qf ⟨_,_,i+1,uE5,?_,?_,rfl,N,H⟩)
   ·omega
   ·exact i2.trans<|run_no<|by rw[←codes_get (k:=ds.length) qf];assumption
 ·refine zx4 (zcr<|sq 2<|oF rfl<|sw<|xW [Sv oP (((xN s own (xg s own t n) ds ds.length).1.qE).length) E8,Sv MQ (((xN s own (xg s own t n) ds ds.length).1.x9).length) lV] isAgg39 sizeOf39 rfl (qH (H.cells 2 rfl) 2 2)<|sq 1<|sw<|zF H 6 [Sv oP (((xN s own (xg s own t n) ds ds.length).1.qE).length) E8,Sv MQ (((xN s own (xg s own t n) ds ds.length).1.x9).length) lV] sizeOf39 fun w31 H=>sq 1<|sp (.int .i64 0)<|zjr<|retC3 H 6 rfl (.int .i64 done) (.int .i64 0) rfl isAgg39 sizeOf39 rfl rfl rfl ⟨_,rfl,?_,H.base⟩)
  obtain rfl:i=ds.length:=by omega
  subst i2
  exact⟨oP,((xN s own (xg s own t n) ds ds.length).1.qE).length,E8,Aa,rI,MQ,((xN s own (xg s own t n) ds ds.length).1.x9).length,lV,apW,nZ,rfl,N,H.pick [3,4] [6,7]⟩
theorem sameTissue_ok(w:World)(a:zN)(b:zN){ri:yOA}{ru:Nat}{JO:yLN}{E2:yOA}{Ec:Nat}{aav:yLN}{rT:yOA}{rN:Nat}{Ja:yLN}{EK:yOA}{Eh:Nat}{acd:yLN}(sc:zP w JO ri ru a.qE)(O8:zP w aav E2 Ec a.x9)(se:zP w Ja rT rN b.qE)(E3:zP w acd EK Eh b.x9):Calls Tryz.prog 14 #[.agg #[Sv ri a.qE.length ru,Sv E2 a.x9.length Ec],.agg #[Sv rT b.qE.length rN,Sv EK b.x9.length Eh]] w (Ret (fun v w'=>v=Bv (decide<|a=b)) w):=by
 refine en Tryz.func14 Tryz.ntmps14 ?_
 have H:=((((St.start w).arg E3).arg se).arg O8).arg sc
 have acN:=qM sc
 have abd:=qM se
 have aqV:=qM E3
 clear sc O8 se E3
 have N:=Fresh.nil w.heap.size
 refine zcr<|sw<|jq H [Sv ri a.qE.length ru,Sv E2 a.x9.length Ec] fun b1 w2 H=>sw<|jq H [Sv rT b.qE.length rN,Sv EK b.x9.length Eh] fun b3 w4 H=>sp (Bv false)<|zjcc<|oF rfl<|oL rfl (H.cell 1 rfl rfl)<|oN rfl<|oF rfl<|oL rfl (H.cell 0 rfl rfl)<|oN rfl<|sp (Bv ((a.qE.length:Int) != b.qE.length))<|sp (Bv ((a.qE.length:Int) != b.qE.length)) ?_
 cases h5:((a.qE.length:Int) != b.qE.length)
 ·replace h5:=xK h5
  refine qJ 16 rfl rfl<|oF rfl<|qJ 16 rfl rfl<|oL rfl (H.cell 1 rfl rfl)<|qJ 16 rfl rfl<|oN rfl<|qJ 16 rfl rfl<|oF rfl<|qJ 16 rfl rfl<|oL rfl (H.cell 0 rfl rfl)<|qJ 16 rfl rfl<|oN rfl<|qJ 16 rfl rfl<|sq 2<|zjn<|vg _ rfl (fun h6=>?_)<|fun h6=>?_
  ·replace h6:=bne_iff_ne.1 h6
   refine zcr<|sp (Bv false)<|zjr<|t_r<|rH1 (Bv false) H ?_
   rw[decide_eq_false (fun e=>by subst e;omega)]
  ·replace h6:=xK h6
   refine qW<|t_n<|zcc<|sp (.int .i64 0)<|zjn<|xe<|zT ((fun Z0 Z1 Z2 Z3 Z4 Z5=>fun m' ρ w7=>∃(xP:Env) (i:Nat),ρ=upd (upd (upd xP 2<|.pointer<|some ⟨b1,0,none⟩) 3<|.pointer<|some ⟨b3,0,none⟩) 5 (.int .i64 i)/\((i:Int)<=a.qE.length)/\(a.qE.take i=b.qE.take i)/\m'=(a.qE.length-(i:Int)).toNat/\Fresh w.heap.size []/\St w w7 [Z0,Z1] [Z2,Z3,Z4,Z5]) _ _ _ _ _ _) ((a.qE.length-(0:Int)).toNat) ⟨_,0,uE3,qf,(by rfl),rfl,N,H⟩ ?_
   clear H N
   rintro m' ρ w8 ⟨xP,i,rfl,i0,i1,rfl,N,H⟩
   refine zcc<|sp (.int .i64 i)<|oF rfl<|oL rfl (H.cell 1 rfl rfl)<|oN rfl<|sq 1<|zjn<|cD rfl (fun h9=>?_)<|fun h9=>?_
   ·refine qW (t_n<|xM<|xe<|xM<|QE rfl H fun H=>tF 0 rfl rfl H ?_)
    refine tL 1 rfl rfl (fun _ h=>h.cell 1 rfl rfl) H ?_
    refine rtp 2 (.int .i64 i) H ?_
    obtain⟨sT,Za,rfl⟩:=H.addr 0 rfl qf
    obtain⟨rb,qz,P6,nB,nA,Mh,sn,sg,V7,mS,nE,NG,sx,sD,U3,pW,pN,S1,gq,gz,PN,fo,fm,J9,iu,ie,Rj,fv,fq,J6,ix,iz,PQ,gx,gw,PK,H⟩:=H.elem_ServerD 0 rfl i i qf qf qf
    have S:=H.zW [0,1]<|zR 13 4
    refine tI 3 rfl rfl rfl S ?_
    refine tF 4 rfl rfl S ?_
    refine tF 6 rfl rfl S ?_
    refine tL 7 rfl rfl (fun _ h=>h.cell 0 rfl rfl) S ?_
    refine rtp 8 (.int .i64 i) S ?_
    obtain⟨DV,o16,rfl⟩:=H.addr 15 rfl qf
    obtain⟨cn,cw,ir,bM,bJ,fO,cM,cW,kf,bO,bI,fQ,cS,cX,ki,cu,ch,ii,bD,bG,gr,bi,bn,fk,bT,bR,ik,bm,bj,fu,bQ,bS,il,bE,bF,gA,H⟩:=H.elem_ServerD 15 rfl i i qf qf qf
    have S:=H.zW [0,1]<|zR 26 4
    refine tI 9 rfl rfl rfl S ?_
    refine tF 10 rfl rfl S ?_
    refine jC [5,11] qh qm<|yV rfl ?_<|yV rfl ?_ jD
    ·refine xW [.int .i64 (((a.qE[i]!).qC).qP),Sv rb ((((a.qE[i]!).qC).qG).length) qz,Sv nB ((((a.qE[i]!).qC).qF).length) nA,Bv (((a.qE[i]!).qC).qV),Sv sn ((((a.qE[i]!).qC).vM).length) sg,Sv mS ((((a.qE[i]!).qC).qL).length) nE,Sv sx ((((a.qE[i]!).qC).vX).length) sD,Sv pW ((((a.qE[i]!).qC).x8).length) pN] isAgg47 sizeOf47 rfl (qH (H.get 25 rfl) 0 8) (⟨H.pick [0,1]<|zR 26 4,(ro 11 rfl ?_)⟩)
     refine xW [.int .i64 (((b.qE[i]!).qC).qP),Sv cn ((((b.qE[i]!).qC).qG).length) cw,Sv bM ((((b.qE[i]!).qC).qF).length) bJ,Bv (((b.qE[i]!).qC).qV),Sv cM ((((b.qE[i]!).qC).vM).length) cW,Sv bO ((((b.qE[i]!).qC).qL).length) bI,Sv cS ((((b.qE[i]!).qC).vX).length) cX,Sv cu ((((b.qE[i]!).qC).x8).length) ch] isAgg47 sizeOf47 rfl (qH (H.get 12 rfl) 0 8)<|⟨H.pick [0,1]<|zR 26 4,(ro 12 rfl ?_)⟩
     refine oq (VD _ ((a.qE[i]!).qC) ((b.qE[i]!).qC) (H.get 13 rfl).1 (H.get 14 rfl).1 (H.get 15 rfl).1 (H.get 16 rfl).1 (H.get 17 rfl).1 (H.get 18 rfl).1 (H.get 0 rfl).1 (H.get 1 rfl).1 (H.get 2 rfl).1 (H.get 3 rfl).1 (H.get 4 rfl).1 (H.get 5 rfl).1) H fun KA H=>⟨H.pick [0,1]<|zR 26 4,?_⟩
     have S:=H.zW [0,1]<|zR 26 4
     refine rtp 13 (Bv (!(decide (((a.qE[i]!).qC)=((b.qE[i]!).qC))))) S ?_
     refine rtp 14 (Bv (!(decide (((a.qE[i]!).qC)=((b.qE[i]!).qC))))) S ?_
     cases oZ:(!(decide (((a.qE[i]!).qC)=((b.qE[i]!).qC))))
     ·replace oZ:=xf oZ
      replace oZ:=of_decide_eq_true oZ
      have S:=H.zW [0,1]<|zR 26 4
      refine gF 15 rfl rfl S ?_
      refine gL 16 rfl rfl (fun _ h=>h.cell 1 rfl rfl) S ?_
      refine rgp 17 (.int .i64 i) 46 S ?_
      refine gI 18 rfl rfl rfl S ?_
      refine gF 19 rfl rfl S ?_
      refine gF 21 rfl rfl S ?_
      refine gL 22 rfl rfl (fun _ h=>h.cell 0 rfl rfl) S ?_
      refine rgp 23 (.int .i64 i) 46 S ?_
      refine gI 24 rfl rfl rfl S ?_
      refine gF 25 rfl rfl S ?_
      refine jC [20,26] qh qm<|Xj rfl (e:=46) rfl rfl ?_<|Xj rfl (e:=46) rfl rfl ?_ jD
      ·refine xW [.int .i64 (((a.qE[i]!).qI).qP),Sv gq ((((a.qE[i]!).qI).qG).length) gz,Sv fo ((((a.qE[i]!).qI).qF).length) fm,Bv (((a.qE[i]!).qI).qV),Sv iu ((((a.qE[i]!).qI).vM).length) ie,Sv fv ((((a.qE[i]!).qI).qL).length) fq,Sv ix ((((a.qE[i]!).qI).vX).length) iz,Sv gx ((((a.qE[i]!).qI).x8).length) gw] isAgg47 sizeOf47 rfl (qH (H.get 25 rfl) 8 8) (⟨H.pick [0,1]<|zR 26 4,?_⟩)
       refine jC [26] qh qm<|Xj rfl (e:=46) rfl rfl ?_ jD
       refine xW [.int .i64 (((b.qE[i]!).qI).qP),Sv bD ((((b.qE[i]!).qI).qG).length) bG,Sv bi ((((b.qE[i]!).qI).qF).length) bn,Bv (((b.qE[i]!).qI).qV),Sv bT ((((b.qE[i]!).qI).vM).length) bR,Sv bm ((((b.qE[i]!).qI).qL).length) bj,Sv bQ ((((b.qE[i]!).qI).vX).length) bS,Sv bE ((((b.qE[i]!).qI).x8).length) bF] isAgg47 sizeOf47 rfl (qH (H.get 12 rfl) 8 8)<|⟨H.pick [0,1]<|zR 26 4,?_⟩
       refine jC [27] qh qm<|Xj rfl (e:=46) rfl rfl (oq (VD _ ((a.qE[i]!).qI) ((b.qE[i]!).qI) (H.get 19 rfl).1 (H.get 20 rfl).1 (H.get 21 rfl).1 (H.get 22 rfl).1 (H.get 23 rfl).1 (H.get 24 rfl).1 (H.get 6 rfl).1 (H.get 7 rfl).1 (H.get 8 rfl).1 (H.get 9 rfl).1 (H.get 10 rfl).1 (H.get 11 rfl).1) H fun D1 H=>⟨H.pick [0,1]<|zR 26 4,?_⟩) jD
       have S:=H.zW [0,1]<|zR 26 4
       refine rgl 28 46 S ?_
       refine rtl 29 S ?_
       refine xy qh<|t_n<|vg _ rfl (fun ze=>?_)<|fun ze=>?_
       ·replace ze:=xq ze
        replace ze:=of_decide_eq_false ze
        refine zcr<|sp (Bv false)<|zjr<|zr5<|rH1 (Bv false) H ?_
        rw[decide_eq_false (fun e=>by subst e;contradiction)]
       ·replace ze:=xf ze
        replace ze:=of_decide_eq_true ze
        refine qW<|b_n<|t_n<|xX<|sp (.int .i64 i)<|sw<|zS i 1 rfl rfl qf<|sq 1<|xU<|xu (m':=(a.qE.length-((i+1):Int)).toNat) qf ⟨_,i+1,uE3,?_,?_,rfl,N,H.pick [0,1]<|zR 26 4⟩
        ·omega
        ·exact eqTo_succ qf qf i1<|srv_eta ql ql
      ·refine xW [.int .i64 (((b.qE[i]!).qI).qP),Sv bD ((((b.qE[i]!).qI).qG).length) bG,Sv bi ((((b.qE[i]!).qI).qF).length) bn,Bv (((b.qE[i]!).qI).qV),Sv bT ((((b.qE[i]!).qI).vM).length) bR,Sv bm ((((b.qE[i]!).qI).qL).length) bj,Sv bQ ((((b.qE[i]!).qI).vX).length) bS,Sv bE ((((b.qE[i]!).qI).x8).length) bF] isAgg47 sizeOf47 rfl (qH (H.get 12 rfl) 8 8) (⟨H.pick [0,1]<|zR 26 4,?_⟩)
       refine jC [20] qh qm<|Xj rfl (e:=46) rfl rfl ?_ jD
       refine xW [.int .i64 (((a.qE[i]!).qI).qP),Sv gq ((((a.qE[i]!).qI).qG).length) gz,Sv fo ((((a.qE[i]!).qI).qF).length) fm,Bv (((a.qE[i]!).qI).qV),Sv iu ((((a.qE[i]!).qI).vM).length) ie,Sv fv ((((a.qE[i]!).qI).qL).length) fq,Sv ix ((((a.qE[i]!).qI).vX).length) iz,Sv gx ((((a.qE[i]!).qI).x8).length) gw] isAgg47 sizeOf47 rfl (qH (H.get 25 rfl) 8 8)<|⟨H.pick [0,1]<|zR 26 4,?_⟩
       refine jC [27] qh qm<|Xj rfl (e:=46) rfl rfl (oq (VD _ ((a.qE[i]!).qI) ((b.qE[i]!).qI) (H.get 19 rfl).1 (H.get 20 rfl).1 (H.get 21 rfl).1 (H.get 22 rfl).1 (H.get 23 rfl).1 (H.get 24 rfl).1 (H.get 6 rfl).1 (H.get 7 rfl).1 (H.get 8 rfl).1 (H.get 9 rfl).1 (H.get 10 rfl).1 (H.get 11 rfl).1) H fun I8 H=>⟨H.pick [0,1]<|zR 26 4,?_⟩) jD
       have S:=H.zW [0,1]<|zR 26 4
       refine rgl 28 46 S ?_
       refine rtl 29 S ?_
       refine xy qh<|t_n<|vg _ rfl (fun pn=>?_)<|fun pn=>?_
       ·replace pn:=xq pn
        replace pn:=of_decide_eq_false pn
        refine zcr<|sp (Bv false)<|zjr<|zr5<|rH1 (Bv false) H ?_
        rw[decide_eq_false (fun e=>by subst e;contradiction)]
       ·replace pn:=xf pn
        replace pn:=of_decide_eq_true pn
        refine qW<|b_n<|t_n<|xX<|sp (.int .i64 i)<|sw<|zS i 1 rfl rfl qf<|sq 1<|xU<|xu (m':=(a.qE.length-((i+1):Int)).toNat) qf ⟨_,i+1,uE3,?_,?_,rfl,N,H.pick [0,1]<|zR 26 4⟩
        ·omega
        ·exact eqTo_succ qf qf i1<|srv_eta ql ql
     ·replace oZ:=xq oZ
      replace oZ:=of_decide_eq_false oZ
      refine zZ (zR 15 14) 14 (H.pick [0,1]<|zR 26 4)<|rtp 29 (Bv true) (H.pick [0,1]<|zR 26 4)<|xy qh<|t_n<|cTr rfl<|zcr<|sp (Bv false)<|zjr<|zr5<|rH1 (Bv false) H ?_
      rw[decide_eq_false (fun e=>by subst e;contradiction)]
    ·refine xW [.int .i64 (((b.qE[i]!).qC).qP),Sv cn ((((b.qE[i]!).qC).qG).length) cw,Sv bM ((((b.qE[i]!).qC).qF).length) bJ,Bv (((b.qE[i]!).qC).qV),Sv cM ((((b.qE[i]!).qC).vM).length) cW,Sv bO ((((b.qE[i]!).qC).qL).length) bI,Sv cS ((((b.qE[i]!).qC).vX).length) cX,Sv cu ((((b.qE[i]!).qC).x8).length) ch] isAgg47 sizeOf47 rfl (qH (H.get 12 rfl) 0 8) (⟨H.pick [0,1]<|zR 26 4,(ro 5 rfl ?_)⟩)
     refine xW [.int .i64 (((a.qE[i]!).qC).qP),Sv rb ((((a.qE[i]!).qC).qG).length) qz,Sv nB ((((a.qE[i]!).qC).qF).length) nA,Bv (((a.qE[i]!).qC).qV),Sv sn ((((a.qE[i]!).qC).vM).length) sg,Sv mS ((((a.qE[i]!).qC).qL).length) nE,Sv sx ((((a.qE[i]!).qC).vX).length) sD,Sv pW ((((a.qE[i]!).qC).x8).length) pN] isAgg47 sizeOf47 rfl (qH (H.get 25 rfl) 0 8)<|⟨H.pick [0,1]<|zR 26 4,(ro 12 rfl ?_)⟩
     refine oq (VD _ ((a.qE[i]!).qC) ((b.qE[i]!).qC) (H.get 13 rfl).1 (H.get 14 rfl).1 (H.get 15 rfl).1 (H.get 16 rfl).1 (H.get 17 rfl).1 (H.get 18 rfl).1 (H.get 0 rfl).1 (H.get 1 rfl).1 (H.get 2 rfl).1 (H.get 3 rfl).1 (H.get 4 rfl).1 (H.get 5 rfl).1) H fun Pn H=>⟨H.pick [0,1]<|zR 26 4,?_⟩
     have S:=H.zW [0,1]<|zR 26 4
     refine rtp 13 (Bv (!(decide (((a.qE[i]!).qC)=((b.qE[i]!).qC))))) S ?_
     refine rtp 14 (Bv (!(decide (((a.qE[i]!).qC)=((b.qE[i]!).qC))))) S ?_
     cases sE:(!(decide (((a.qE[i]!).qC)=((b.qE[i]!).qC))))
     ·replace sE:=xf sE
      replace sE:=of_decide_eq_true sE
      have S:=H.zW [0,1]<|zR 26 4
      refine gF 15 rfl rfl S ?_
      refine gL 16 rfl rfl (fun _ h=>h.cell 1 rfl rfl) S ?_
      refine rgp 17 (.int .i64 i) 46 S ?_
      refine gI 18 rfl rfl rfl S ?_
      refine gF 19 rfl rfl S ?_
      refine gF 21 rfl rfl S ?_
      refine gL 22 rfl rfl (fun _ h=>h.cell 0 rfl rfl) S ?_
      refine rgp 23 (.int .i64 i) 46 S ?_
      refine gI 24 rfl rfl rfl S ?_
      refine gF 25 rfl rfl S ?_
      refine jC [20,26] qh qm<|Xj rfl (e:=46) rfl rfl ?_<|Xj rfl (e:=46) rfl rfl ?_ jD
      ·refine xW [.int .i64 (((a.qE[i]!).qI).qP),Sv gq ((((a.qE[i]!).qI).qG).length) gz,Sv fo ((((a.qE[i]!).qI).qF).length) fm,Bv (((a.qE[i]!).qI).qV),Sv iu ((((a.qE[i]!).qI).vM).length) ie,Sv fv ((((a.qE[i]!).qI).qL).length) fq,Sv ix ((((a.qE[i]!).qI).vX).length) iz,Sv gx ((((a.qE[i]!).qI).x8).length) gw] isAgg47 sizeOf47 rfl (qH (H.get 25 rfl) 8 8) (⟨H.pick [0,1]<|zR 26 4,?_⟩)
       refine jC [26] qh qm<|Xj rfl (e:=46) rfl rfl ?_ jD
       refine xW [.int .i64 (((b.qE[i]!).qI).qP),Sv bD ((((b.qE[i]!).qI).qG).length) bG,Sv bi ((((b.qE[i]!).qI).qF).length) bn,Bv (((b.qE[i]!).qI).qV),Sv bT ((((b.qE[i]!).qI).vM).length) bR,Sv bm ((((b.qE[i]!).qI).qL).length) bj,Sv bQ ((((b.qE[i]!).qI).vX).length) bS,Sv bE ((((b.qE[i]!).qI).x8).length) bF] isAgg47 sizeOf47 rfl (qH (H.get 12 rfl) 8 8)<|⟨H.pick [0,1]<|zR 26 4,?_⟩
       refine jC [27] qh qm<|Xj rfl (e:=46) rfl rfl (oq (VD _ ((a.qE[i]!).qI) ((b.qE[i]!).qI) (H.get 19 rfl).1 (H.get 20 rfl).1 (H.get 21 rfl).1 (H.get 22 rfl).1 (H.get 23 rfl).1 (H.get 24 rfl).1 (H.get 6 rfl).1 (H.get 7 rfl).1 (H.get 8 rfl).1 (H.get 9 rfl).1 (H.get 10 rfl).1 (H.get 11 rfl).1) H fun FY H=>⟨H.pick [0,1]<|zR 26 4,?_⟩) jD
       have S:=H.zW [0,1]<|zR 26 4
       refine rgl 28 46 S ?_
       refine rtl 29 S ?_
       refine xy qh<|t_n<|vg _ rfl (fun EB=>?_)<|fun EB=>?_
       ·replace EB:=xq EB
        replace EB:=of_decide_eq_false EB
        refine zcr<|sp (Bv false)<|zjr<|zr5<|rH1 (Bv false) H ?_
        rw[decide_eq_false (fun e=>by subst e;contradiction)]
       ·replace EB:=xf EB
        replace EB:=of_decide_eq_true EB
        refine qW<|b_n<|t_n<|xX<|sp (.int .i64 i)<|sw<|zS i 1 rfl rfl qf<|sq 1<|xU<|xu (m':=(a.qE.length-((i+1):Int)).toNat) qf ⟨_,i+1,uE3,?_,?_,rfl,N,H.pick [0,1]<|zR 26 4⟩
        ·omega
        ·exact eqTo_succ qf qf i1<|srv_eta ql ql
      ·refine xW [.int .i64 (((b.qE[i]!).qI).qP),Sv bD ((((b.qE[i]!).qI).qG).length) bG,Sv bi ((((b.qE[i]!).qI).qF).length) bn,Bv (((b.qE[i]!).qI).qV),Sv bT ((((b.qE[i]!).qI).vM).length) bR,Sv bm ((((b.qE[i]!).qI).qL).length) bj,Sv bQ ((((b.qE[i]!).qI).vX).length) bS,Sv bE ((((b.qE[i]!).qI).x8).length) bF] isAgg47 sizeOf47 rfl (qH (H.get 12 rfl) 8 8) (⟨H.pick [0,1]<|zR 26 4,?_⟩)
       refine jC [20] qh qm<|Xj rfl (e:=46) rfl rfl ?_ jD
       refine xW [.int .i64 (((a.qE[i]!).qI).qP),Sv gq ((((a.qE[i]!).qI).qG).length) gz,Sv fo ((((a.qE[i]!).qI).qF).length) fm,Bv (((a.qE[i]!).qI).qV),Sv iu ((((a.qE[i]!).qI).vM).length) ie,Sv fv ((((a.qE[i]!).qI).qL).length) fq,Sv ix ((((a.qE[i]!).qI).vX).length) iz,Sv gx ((((a.qE[i]!).qI).x8).length) gw] isAgg47 sizeOf47 rfl (qH (H.get 25 rfl) 8 8)<|⟨H.pick [0,1]<|zR 26 4,?_⟩
       refine jC [27] qh qm<|Xj rfl (e:=46) rfl rfl (oq (VD _ ((a.qE[i]!).qI) ((b.qE[i]!).qI) (H.get 19 rfl).1 (H.get 20 rfl).1 (H.get 21 rfl).1 (H.get 22 rfl).1 (H.get 23 rfl).1 (H.get 24 rfl).1 (H.get 6 rfl).1 (H.get 7 rfl).1 (H.get 8 rfl).1 (H.get 9 rfl).1 (H.get 10 rfl).1 (H.get 11 rfl).1) H fun w40 H=>⟨H.pick [0,1]<|zR 26 4,?_⟩) jD
       have S:=H.zW [0,1]<|zR 26 4
       refine rgl 28 46 S ?_
       refine rtl 29 S ?_
       refine xy qh<|t_n<|vg _ rfl (fun HR=>?_)<|fun HR=>?_
       ·replace HR:=xq HR
        replace HR:=of_decide_eq_false HR
        refine zcr<|sp (Bv false)<|zjr<|zr5<|rH1 (Bv false) H ?_
        rw[decide_eq_false (fun e=>by subst e;contradiction)]
       ·replace HR:=xf HR
        replace HR:=of_decide_eq_true HR
        refine qW<|b_n<|t_n<|xX<|sp (.int .i64 i)<|sw<|zS i 1 rfl rfl qf<|sq 1<|xU<|xu (m':=(a.qE.length-((i+1):Int)).toNat) qf ⟨_,i+1,uE3,?_,?_,rfl,N,H.pick [0,1]<|zR 26 4⟩
        ·omega
        ·exact eqTo_succ qf qf i1<|srv_eta ql ql
     ·replace sE:=xq sE
      replace sE:=of_decide_eq_false sE
      refine zZ (zR 15 14) 14 (H.pick [0,1]<|zR 26 4)<|rtp 29 (Bv true) (H.pick [0,1]<|zR 26 4)<|xy qh<|t_n<|cTr rfl<|zcr<|sp (Bv false)<|zjr<|zr5<|rH1 (Bv false) H ?_
      rw[decide_eq_false (fun e=>by subst e;contradiction)]
   ·refine zx4 (zcc<|sp (.int .i64 0)<|zjn<|xe<|zT ((fun Z0 Z1 Z2 Z3 Z4 Z5=>fun m' ρ UM=>∃(xP:Env) (dM:Nat),ρ=upd (upd (upd xP 2<|.pointer<|some ⟨b1,0,none⟩) 3<|.pointer<|some ⟨b3,0,none⟩) 6 (.int .i64 dM)/\((dM:Int)<=a.x9.length)/\(a.x9.take dM=b.x9.take dM)/\m'=(a.x9.length-(dM:Int)).toNat/\Fresh w.heap.size []/\St w UM [Z0,Z1] [Z2,Z3,Z4,Z5]) _ _ _ _ _ _) ((a.x9.length-(0:Int)).toNat) ⟨_,0,uE3,qf,(by rfl),rfl,N,H⟩ ?_)
    clear H N
    rintro m' ρ Pr ⟨xP,dM,rfl,i0,i2,rfl,N,H⟩
    refine zcc<|sq 1<|oF rfl<|oL rfl (H.cell 1 rfl rfl)<|oN rfl<|sq 1<|zjn<|cD rfl (fun Bt=>?_)<|fun Bt=>?_
    ·refine qW (t_n<|xM<|xe<|zcr<|oF rfl<|oL rfl (H.cell 1 rfl rfl)<|sq 1 ?_)
     obtain⟨b46,o47,rfl⟩:=H.addr 1 rfl qf
     obtain⟨CT,BR,af3,H⟩:=H.elem_ParcelD 1 rfl dM dM qf qf qf
     refine oI rfl rfl<|sw<|xW [.int .i64 ((a.x9[dM]!).qP),.int .i64 ((a.x9[dM]!).QO),.int .i64 ((a.x9[dM]!).fTo),Sv CT (((a.x9[dM]!).qG).length) BR] isAgg77 sizeOf77 rfl (qH (H.get 1 rfl) 0 4)<|sw<|zn H ti77 [.int .i64 0,.int .i64 0,.int .i64 0,Sv none 0 0] fun b50 w51 H=>sw<|zF H 0 [.int .i64 ((a.x9[dM]!).qP),.int .i64 ((a.x9[dM]!).QO),.int .i64 ((a.x9[dM]!).fTo),Sv CT (((a.x9[dM]!).qG).length) BR] sizeOf77 fun T2 H=>zjc<|oF rfl<|oL rfl (H.cell 1 rfl rfl)<|sq 1 ?_
     obtain⟨b53,o54,rfl⟩:=H.addr 5 rfl qf
     obtain⟨nm,nj,MZ,H⟩:=H.elem_ParcelD 5 rfl dM dM qf qf qf
     refine oI rfl rfl<|sw<|xW [.int .i64 ((b.x9[dM]!).qP),.int .i64 ((b.x9[dM]!).QO),.int .i64 ((b.x9[dM]!).fTo),Sv nm (((b.x9[dM]!).qG).length) nj] isAgg77 sizeOf77 rfl (qH (H.get 1 rfl) 0 4)<|sw<|zn H ti77 [.int .i64 0,.int .i64 0,.int .i64 0,Sv none 0 0] fun b57 w58 H=>sw<|zF H 0 [.int .i64 ((b.x9[dM]!).qP),.int .i64 ((b.x9[dM]!).QO),.int .i64 ((b.x9[dM]!).fTo),Sv nm (((b.x9[dM]!).qG).length) nj] sizeOf77 fun w59 H=>zjc<|oF rfl<|oL rfl (H.cell 1 rfl rfl)<|oF rfl<|oL rfl (H.cell 0 rfl rfl)<|sp (Bv (((a.x9[dM]!).qP:Int) != ((b.x9[dM]!).qP)))<|sp (Bv (((a.x9[dM]!).qP:Int) != ((b.x9[dM]!).qP))) ?_
     cases h60:(((a.x9[dM]!).qP:Int) != ((b.x9[dM]!).qP))
     ·replace h60:=xK h60
      refine qJ 84 rfl rfl<|oF rfl<|qJ 84 rfl rfl<|oL rfl (H.cell 1 rfl rfl)<|qJ 84 rfl rfl<|oF rfl<|qJ 84 rfl rfl<|oL rfl (H.cell 0 rfl rfl)<|qJ 84 rfl rfl<|sp (Bv (((a.x9[dM]!).QO:Int) != ((b.x9[dM]!).QO)))<|sp (Bv (((a.x9[dM]!).QO:Int) != ((b.x9[dM]!).QO)))<|sp (Bv (((a.x9[dM]!).QO:Int) != ((b.x9[dM]!).QO))) ?_
      cases xp:(((a.x9[dM]!).QO:Int) != ((b.x9[dM]!).QO))
      ·replace xp:=xK xp
       refine qJ 91 rfl rfl<|oF rfl<|qJ 91 rfl rfl<|oL rfl (H.cell 1 rfl rfl)<|qJ 91 rfl rfl<|oF rfl<|qJ 91 rfl rfl<|oL rfl (H.cell 0 rfl rfl)<|qJ 91 rfl rfl<|sp (Bv (((a.x9[dM]!).fTo:Int) != ((b.x9[dM]!).fTo)))<|sp (Bv (((a.x9[dM]!).fTo:Int) != ((b.x9[dM]!).fTo)))<|sp (Bv (((a.x9[dM]!).fTo:Int) != ((b.x9[dM]!).fTo))) ?_
       cases PF:(((a.x9[dM]!).fTo:Int) != ((b.x9[dM]!).fTo))
       ·replace PF:=xK PF
        refine qJ 98 rfl rfl<|oF rfl<|qJ 98 rfl rfl<|oL rfl (H.cell 1 rfl rfl)<|qJ 98 rfl rfl<|oF rfl<|qJ 98 rfl rfl<|oL rfl (H.cell 0 rfl rfl)<|qJ 98 rfl rfl<|sw<|oq (l21Bags_ok _ ((a.x9[dM]!).qG) ((b.x9[dM]!).qG) (H.get 2 rfl).1 (H.get 0 rfl).1) H fun w64 H=>qJ 98 rfl rfl<|sq 2<|zjn<|vg _ rfl (fun ND=>?_)<|fun ND=>?_
        ·replace ND:=xq ND
         replace ND:=of_decide_eq_false ND
         refine zcr<|sp (Bv false)<|zjr<|zr5<|rH1 (Bv false) H ?_
         rw[decide_eq_false (fun e=>by subst e;contradiction)]
        ·replace ND:=xf ND
         replace ND:=of_decide_eq_true ND
         refine qW<|b_n<|t_n<|xX<|sq 1<|sw<|zS dM 1 rfl rfl qf<|sq 1<|xU<|xu (m':=(a.x9.length-((dM+1):Int)).toNat) qf ⟨_,dM+1,uE3,?_,?_,rfl,N,H.pick [2,3]<|zR 4 4⟩
         ·omega
         ·exact eqTo_succ qf qf i2<|par_eta ql ql ql ql
       ·replace PF:=bne_iff_ne.1 PF
        refine xO (zR 99 6)<|sp (Bv true)<|zjn<|cTr rfl<|zcr<|sp (Bv false)<|zjr<|zr5<|rH1 (Bv false) H ?_
        rw[decide_eq_false (fun e=>by subst e;omega)]
      ·replace xp:=bne_iff_ne.1 xp
       refine xO (zR 92 5)<|sp (Bv true)<|sp (Bv true)<|xO (zR 99 6)<|sp (Bv true)<|zjn<|cTr rfl<|zcr<|sp (Bv false)<|zjr<|zr5<|rH1 (Bv false) H ?_
       rw[decide_eq_false (fun e=>by subst e;omega)]
     ·replace h60:=bne_iff_ne.1 h60
      refine xO (zR 85 5)<|sp (Bv true)<|sp (Bv true)<|xO (zR 92 5)<|sp (Bv true)<|sp (Bv true)<|xO (zR 99 6)<|sp (Bv true)<|zjn<|cTr rfl<|zcr<|sp (Bv false)<|zjr<|zr5<|rH1 (Bv false) H ?_
      rw[decide_eq_false (fun e=>by subst e;omega)]
    ·refine zx4 (zcr<|sp (Bv true)<|zjr<|rH1 (Bv true) H ?_)
     rw[decide_eq_true<|tis_eta (XK (k:=i) qf qf i1)<|XK (k:=dM) qf qf i2]
 ·replace h5:=bne_iff_ne.1 h5
  refine xO (zR 17 7)<|sp (Bv true)<|zjn<|cTr rfl<|zcr<|sp (Bv false)<|zjr<|t_r<|rH1 (Bv false) H ?_
  rw[decide_eq_false (fun e=>by subst e;omega)]
end
section
section
variable{s : qO}{own : yLI}{v : zN}{l : List xH}{n : Nat}
theorem run_snoc(d:xH):(xN s own v (l++[d]) (l++[d]).length).1=(doM s own (xN s own v l l.length).1 d).1:=by
 have e:(l++[d]).length=l.length+1:=by simp
 have g:(l++[d])[l.length]! =d:=by
  rw[getElem!_pos (l++[d]) l.length qm];simp
 rw[e,xN,runTo_app l.length<|Nat.le_refl _,g]
theorem run_snoc2(d e:xH):(xN s own v (l++[d,e]) (l++[d,e]).length).1=(doM s own (doM s own (xN s own v l l.length).1 d).1 e).1:=by
 have h:l++[d,e]=(l++[d])++[e]:=by simp
 rw[h,run_snoc,run_snoc]
theorem twice_same{V:zN}(hg:Giv s own n)(h:Vh s own n V)(h0:0<=k)(h1:k<=(V.x9.length:Int)-1):
 (doM s own (doM s own V ⟨7,k,0⟩).1 ⟨6,k,0⟩).1=(doM s own V ⟨6,k,0⟩).1:=by
 obtain⟨sv,wi⟩:=V
 have hk:k<wi.length:=by have:k<=(wi.length:Int)-1:=h1;omega
 have hp:ParcelOk s own n (wi[k.toNat]!):=h.wire k.toNat<|by show k.toNat<wi.length;omega
 have hl:sv.length=n:=h.len
 by_cases hs:Stale sv (wi[k.toNat]!)
 ·rw[VI (d:=(⟨7,k,0⟩:xH)) rfl hk hs]
 ·by_cases ha:yF (sumC sv<|wi[k.toNat]!) (sumC sv<|wi[k.toNat]!).length
  ·obtain⟨L,hL⟩:∃L,Xy ⟨sv,wi⟩ (wi[k.toNat]!).fTo.toNat (gotD (sv[(wi[k.toNat]!).fTo.toNat]!).qC (wi[k.toNat]!))=⟨L,wi⟩:=⟨_,rfl⟩
   rw[doR_come7 (d:=(⟨7,k,0⟩:xH)) rfl hk hs ha hL,doR_come6 (d:=(⟨6,k,0⟩:xH)) rfl hk hs ha hL]
   have hto:(wi[k.toNat]!).fTo.toNat<sv.length:=by have:=hp.2.1;omega
   have eL:L=sv.set (wi[k.toNat]!).fTo.toNat { sv[(wi[k.toNat]!).fTo.toNat]! with qC:=gotD (sv[(wi[k.toNat]!).fTo.toNat]!).qC (wi[k.toNat]!)}:=(congrArg zN.qE hL).symm
   have hw:(sv[(wi[k.toNat]!).fTo.toNat]!).qC.qV=true:=fresh_of hs
   have hd:jy s own n (wi[k.toNat]!).fTo.toNat (sv[(wi[k.toNat]!).fTo.toNat]!).qC:=(h.srv _ qf).1
   have hst:Stale L (wi[k.toNat]!):=by
    refine .inr<|.inr ?_
    rw[srv_set hto eL]
    show ((sv[(wi[k.toNat]!).fTo.toNat]!).qC.vM.set (wi[k.toNat]!).QO.toNat true)[(wi[k.toNat]!).QO.toNat]! =true
    rw[getset (by have:=(hd.got hw).2.1;have:=hp.1;omega),if_pos rfl]
   rw[doR_stale6 (d:=(⟨6,k,0⟩:xH)) rfl hk hst]
  ·rw[doR_come3 (d:=(⟨7,k,0⟩:xH)) (.inr rfl) hk hs ha]
structure ParcelAt(V A B C:zN):Prop where
 same:A=B
 wire:C.x9.length+1=V.x9.length
 srv:C.qE=V.qE
theorem parcel_run{l1 l2 l3:List xH}(hg:Giv s own n)(ht:Vh s own n (xN s own v l l.length).1)(h0:0<=k)(h1:k<=((xN s own v l l.length).1.x9.length:Int)-1)
 (e1:l1=l++[⟨6,k,0⟩]) (e2:l2=l++[⟨7,k,0⟩,⟨6,k,0⟩]) (e3:l3=l++[⟨8,k,0⟩]):
 ParcelAt (xN s own v l l.length).1 (xN s own v l1 l1.length).1 (xN s own v l2 l2.length).1 (xN s own v l3 l3.length).1:=by
 subst e1 e2 e3
 rw[run_snoc,run_snoc,run_snoc2]
 obtain⟨V,hV⟩:∃z,(xN s own v l l.length).1=z:=⟨_,rfl⟩
 rw[hV] at h1 ht ⊢
 refine⟨(twice_same hg ht h0 h1).symm,?_,?_⟩
 ·obtain⟨sv,wi⟩:=V
  have hk:k<wi.length:=by have:k<=(wi.length:Int)-1:=h1;omega
  rw[doR_drop (d:=(⟨8,k,0⟩:xH)) rfl hk]
  show (wi.eraseIdx k.toNat).length+1=wi.length
  rw[List.length_eraseIdx_of_lt qf];omega
 ·obtain⟨sv,wi⟩:=V
  have hk:k<wi.length:=by have:k<=(wi.length:Int)-1:=h1;omega
  rw[doR_drop (d:=(⟨8,k,0⟩:xH)) rfl hk]
theorem Deeds.one{K:Int}(h:Deeds l)(h0:0<=k/\k<=999)(hK:1<=K/\K<=9):Deeds (l++[⟨K,k,0⟩]):=h.snoc ⟨hK,h0,⟨Int.le_refl _,by show (0:Int)<=999;decide⟩,.inr<|.inr rfl⟩
theorem Deeds.two(h:Deeds l)(h0:0<=k/\k<=999):Deeds (l++[⟨7,k,0⟩,⟨6,k,0⟩]):=by
 have:=(h.one h0 (K:=7) qj).one h0 (K:=6) qj
 rwa [List.append_assoc] at this
end
end
section
section
variable{P : Program}{Q : Exit -> Act -> World -> Prop}{n : Nat}{ρ : Env}{W0 w : World}{ps : List Prv}{Γ : List Fact}
 {d:Nat} {ty:TypeId} {pos:String} {af:Array Edge} {K:Env->World->Prop}
theorem o_build2[Dfr](H:St W0 w ps Γ)(hu:P.underlying t=some (.slice e))(he:TI P e z sz fx)(h0:0<sz)(hs:sz<=8388608)(v u:Value)
 (hx:ev n ρ x=v) (hy:ev n ρ y=u) (hv:v.cells.size=sz) (hw:u.cells.size=sz) (k:∀b w',St W0 w' (.box b (v.cells.toList++u.cells.toList) e::ps) Γ->K (upd ρ d<|Sv (some ⟨b,0,none⟩) 2 2) w'):
 OW P Q ⟨some d,.buildSlice t 2 #[(0,x),(1,y)],ty,pos,af,none⟩ n ρ w K:=by
 obtain⟨i,hi,h1,h2,h3⟩:=info_parts he
 have hr:=run_buildSlice (P:=P) w t e 2 #[(0,v),(1,u)] (v.cells++u.cells) i z hu hi h1 (by rw[h2];omega) (by rw[h2];omega) (by
  have:=Great.fill_whole h0 [v,u] (madeCells z.cells<|2*sz) (by simpa using ⟨hv,hw⟩) (by simp[madeCells])
  have e:(v.cells.toList++u.cells.toList).toArray=v.cells++u.cells:=by apply Array.ext';simp
  rw[h2,←e]
  simpa [madeCells] using this)
 have ha:=H.alloc (v.cells++u.cells) e
 rw[Array.toList_append] at ha
 exact Q8 (w':=w.alloc<|.cells (v.cells++u.cells) e) _ (by simp[execOp,hx,hy,hr])<|k _ _ ha
theorem o_build2C[Dfr]{u:Value}(H:St W0 w ps Γ)(hu:P.underlying t=some (.slice e))(he:TI P e z sz fx)(cs:List Value)
 (k:∀b w',St W0 w' (.box b cs e::ps) Γ->K (upd ρ d<|Sv (some ⟨b,0,none⟩) 2 2) w') (hx:ev n ρ x=v:=by exact rfl) (hy:ev n ρ y=u:=by exact rfl) (h0:0<sz:=by decide) (hs:sz<=8388608:=by decide) (hv:v.cells.size=sz:=by exact rfl) (hw:u.cells.size=sz:=by exact rfl) (hc:v.cells.toList++u.cells.toList=cs:=by exact rfl):
 OW P Q ⟨some d,.buildSlice t 2 #[(0,x),(1,y)],ty,pos,af,none⟩ n ρ w K:=by
 subst hc
 exact o_build2 H hu he h0 hs v u hx hy hv hw k
end
end
section
theorem law_FnParcels(w:World)(ag:List UInt8)(more:List UInt8)(j5:yOA)(iZ:Nat)(m8:yLN)(ic:yOA)(hZ:Nat)(mw:yLN)(xL:zP w m8 j5 iZ ag)(mJ:zP w mw ic hZ more):Calls Tryz.prog 4 #[Sv j5 ag.length iZ,Sv ic more.length hZ] w (Ret (fun v w'=>v=Bv true) w):=by
 refine en func4 ntmps4 ?_
 have H:=((St.start w).arg mJ).arg xL
 clear xL mJ
 have N:=Fresh.nil w.heap.size
 refine zcr<|sp (Bv false)<|zjcc<|sq 2<|sw<|vz #[Sv j5 ag.length iZ,Sv ic more.length hZ] rfl rfl call7<|en func7 ntmps7 ?_
 refine zcr<|sp (Bv false)<|zjc<|sq 1<|oN rfl<|sp (Bv<|decide ((ag.length:Int)>3000))<|sp (Bv<|decide ((ag.length:Int)>3000)) ?_
 cases h1:(decide ((ag.length:Int)>3000))
 ·replace h1:=of_decide_eq_false h1
  refine qJ 8 rfl rfl<|sq 1<|qJ 8 rfl rfl<|oN rfl<|qJ 8 rfl rfl<|sp (Bv<|decide ((more.length:Int)>3000))<|sp (Bv<|decide ((more.length:Int)>3000))<|sp (Bv<|decide ((more.length:Int)>3000))<|zjr<|ret1 (Bv<|decide ((more.length:Int)>3000)) rfl rfl ⟨_,rfl,(zjn<|cD rfl (fun h2=>?_)<|fun h2=>?_)⟩
  ·refine zcr (sp (Bv true)<|zjr<|t_r<|rH1 (Bv true) H ?_)
   rfl
  refine qW<|t_n<|zcr<|sq 1 ?_
  have H1:St w w [] [sF false m8 j5 iZ ag,sF false mw ic hZ more]:=H.pick [] [0,1]
  have N1:Fresh _ []:=N
  have K1:Kept [] [sF false mw ic hZ more]:=Kept.nil _
  refine sw<|zD #[Sv j5 ag.length iZ] rfl rfl call8 (a2Tissue_ok ag j5 iZ m8 H1 N1 K1 ) ?_
  clear H H1 N1 K1
  rintro _ w3 ⟨OJ,Zo,Zw,abU,ab3,acE,aA,eP,asD,eM,ke,aIR,eR,aHB,aFD,fU,aDl,gZ,eh,avy,gX,aDw,aC7,hU,awd,f9,sJ,aD4,sW,hx5,hx6,hx7,hx8,hx9,rfl,N,H⟩
  obtain rfl:=H.Qc 0 rfl
  obtain rfl:=H.xk (α:=yu) 1 rfl 1 rfl qj
  obtain rfl:=H.rowNB 2 rfl
  obtain rfl:=H.xk (α:=yLI) 3 rfl 2 rfl qj
  obtain rfl:=H.Qc 4 rfl
  obtain rfl:=H.Qc 5 rfl
  refine sq 4<|sw<|zn H ti27 [yI 0,yN,yN] fun TB w40 H=>sw<|zn H ti31 [yN,yN,yN] fun GO Sh H=>(sw<|zF H 1 [yI OJ,Sv eP Zo.length eM,Sv ke Zw.length eR] sizeOf27 fun UM H=>sq 1<|sw<|zF H 0 [Sv fU abU.length gZ,Sv eh ab3.length gX,Sv hU acE.length f9] sizeOf31 fun Pr H=>zjn<|xM ?_)
  obtain⟨s,e1,e2,e3⟩:∃z:qO,OJ=z.qN/\Zo=z.qA/\Zw=z.qB:=⟨⟨OJ,Zo,Zw⟩,rfl,rfl,rfl⟩
  subst e1 e2 e3
  obtain⟨t,e1,e2,e3⟩:∃z:xn,abU=z.xF/\ab3=z.qG/\acE=z.qF:=⟨⟨abU,ab3,acE⟩,rfl,rfl,rfl⟩
  subst e1 e2 e3
  have sd:=(‹SysDr _ _ _›)
  have td:=(‹StDr _ _ _ _ _ _›)
  obtain⟨n,p1,n4⟩:=own_all (‹OwnDr _ _›)
  have p2:vU s t:=td.ok sd qf
  have p0:Giv s aA n:=giv_of sd.ok (‹OwnDr _ _›) p1
  have p5:Still s:=still_of (‹MildTo _ _›)
  have p6:Whole t:=whole_of (‹AllTo _›)
  have q1:=p1.one
  have e0:=nSrv_all p1
  have r0:Giv s aA (Vu aA):=by rw[e0];exact p0
  have r1:Xw aA (Vu aA):=by rw[e0];exact p1
  obtain⟨J7,N,aFV,H⟩:=H.freezeB 4 rfl N<|H.vV [2]
  have H0:=H
  obtain⟨IQ,afk,aDH,H⟩:=H.jA (α:=yLI) 5 rfl 3 rfl qj
  replace N:Fresh w.heap.size [IQ,J7]:=Fresh.ice (N.pick [1,0]) H0 5 afk.1 afk.2<|H0.vV [0]
  clear H0
  obtain⟨Kl,N,aHJ,H⟩:=H.vJ 6 rfl N<|H.vV [0,1]
  obtain⟨IB,N,auu,H⟩:=H.vJ 2 rfl N<|H.vV [0,1,2]
  obtain⟨Kd,abn,atg,H⟩:=H.jA (α:=yu) 3 rfl 5 rfl qj
  obtain⟨BK,N,alk,H⟩:=H.vJ 7 rfl N<|H.vV<|zR 1 4
  have B0:=H.base
  have H:=H.rebase [atF GO 0<|yT t fU gZ eh gX hU f9,atF TB 0<|yS s eP eM ke eR,sF true BK sJ sW aA,sF false Kd ke eR s.qB,sF true IB eP eM s.qA,sF true Kl hU f9 t.qF,sF true IQ eh gX t.qG,sF true J7 fU gZ t.xF,sF false m8 j5 iZ ag,sF false mw ic hZ more]<|Vj (old_box H 0 rfl)<|Vj (old_box H 1 rfl)<|Vj (old_fact H 0 rfl)<|Vj (old_fact H 1 rfl)<|Vj (old_fact H 2 rfl)<|Vj (old_fact H 3 rfl)<|Vj (old_fact H 4 rfl)<|Vj (old_fact H 5 rfl)<|Vj (old_fact H 6 rfl)<|Vj (old_fact H 9 rfl) olds_nil
  have N:=Fresh.nil Pr.heap.size
  have HB:=H
  refine xX<|sq 1<|sw<|xW (yS s eP eM ke eR) isAgg27 sizeOf27 rfl (qH (H.get 1 rfl) 0 3)<|sq 1<|sw<|xW (yT t fU gZ eh gX hU f9) isAgg31 sizeOf31 rfl (qH (H.get 0 rfl) 0 3) ?_
  replace H:=H.unfreeI 4 rfl
  replace H:=H.unfreeI 3 rfl
  replace H:=H.unfreeI 9 rfl
  replace H:=H.unfreeI 9 rfl
  replace H:=H.unfreeI 9 rfl
  have H1:St Pr Pr [] [sF false mw ic hZ more,sF false IB eP eM s.qA,sF false Kd ke eR s.qB,sF false BK sJ sW aA,sF false J7 fU gZ t.xF,sF false IQ eh gX t.qG,sF false Kl hU f9 t.qF,atF GO 0<|yT t fU gZ eh gX hU f9,atF TB 0<|yS s eP eM ke eR,sF true BK sJ sW aA,sF true IB eP eM s.qA,sF true Kl hU f9 t.qF,sF true IQ eh gX t.qG,sF true J7 fU gZ t.xF,sF false m8 j5 iZ ag]:=H.pick [] [14,4,8,3,2,1,0,5,6,7,9,10,11,12,13]
  have N1:Fresh _ []:=N
  have K1:Kept [] [atF GO 0<|yT t fU gZ eh gX hU f9,atF TB 0<|yS s eP eM ke eR,sF true BK sJ sW aA,sF true IB eP eM s.qA,sF true Kl hU f9 t.qF,sF true IQ eh gX t.qG,sF true J7 fU gZ t.xF,sF false m8 j5 iZ ag]:=Kept.nil _
  refine sw<|zD #[Sv ic more.length hZ,.agg #[yI s.qN,Sv eP s.qA.length eM,Sv ke s.qB.length eR],Sv sJ aA.length sW,.agg #[Sv fU t.xF.length gZ,Sv eh t.qG.length gX,Sv hU t.qF.length f9]] rfl rfl call9 (a2Deeds_ok more ic hZ mw s aA eP eM IB ke eR Kd sJ sW BK t fU gZ J7 eh gX IQ hU f9 Kl n H1 N1 K1 qg qg qg<|xQ (HB.ltF 9 rfl)<|xQ (fun b hb=>HB.ltF 4 rfl b hb)<|xQ (HB.ltF 3 rfl)<|xQ (fun b hb=>HB.ltF 2 rfl b hb)<|xQ (fun b hb=>HB.ltF 7 rfl b hb)<|xQ (fun b hb=>HB.ltF 6 rfl b hb)<|xQ (fun b hb=>HB.ltF 5 rfl b hb)<|xQ (HB.ltF 0 rfl)<|xQ (HB.ltF 1 rfl)<|xQ (HB.ltF 2 rfl)<|xQ (HB.ltF 4 rfl)<|xQ (HB.ltF 5 rfl)<|xQ (HB.ltF 6 rfl)<|xQ (HB.ltF 7 rfl)<|xQ (HB.ltF 8 rfl) olds_none) ?_
  clear H H1 N1 K1
  rintro _ w59 ⟨aX,sR,aIV,aaA,SK,Nr,ZZ,rfl,N,H⟩
  obtain rfl:=H.xk (α:=xH) 0 rfl 7 rfl qj
  refine sq 1<|zjc<|sw<|xW (yS s eP eM ke eR) isAgg27 sizeOf27 rfl (qH (H.get 9 rfl) 0 3)<|sq 1<|sw<|xW (yT t fU gZ eh gX hU f9) isAgg31 sizeOf31 rfl (qH (H.get 8 rfl) 0 3)<|sq 1 ?_
  obtain⟨G68,aHp,h70⟩:=H.Vg (α:=xH) 0 rfl 7 rfl qj
  have dd:=(‹Deeds _/\_›)
  have d4:∀k,k<aX.length->VL (aX[k]!):=dd.1
  have tk:Vh s aA (Vu aA) (xN s aA (xg s aA t<|Vu aA) aX aX.length).1:=run_ok r0 (begin_ok r0 p2) d4 _<|Nat.le_refl _
  have ayH:=H.base.size
  have axK:=H.ltN (L:=[Nr]) [7]
  refine sw<|oc (tissueAfter_ok _ s aA t aX (H.get 1 rfl).1 (H.get 2 rfl).1 (H.get 3 rfl).1 (H.get 4 rfl).1 (H.get 5 rfl).1 (H.get 6 rfl).1 h70 qg qg qg qg qg qg qg) ?_
  rintro _ Kc ⟨eA,Q1,es,eW,dG,fX,adG,gg,iD,e9,rfl,M,K⟩ _
  replace N:=N.merge ayH axK M
  replace H:=H.merge K M
  obtain rfl:=H.xk (α:=zu) 0 rfl 0 rfl qj
  obtain rfl:=H.xk (α:=zk) 1 rfl 1 rfl qj
  refine sq 3<|sp (yI 0)<|sw<|zn H ti39 [yN,yN] fun SX w79 H=>sw<|zF H 0 [Sv eA ((((xN s aA (xg s aA t<|Vu aA) aX aX.length).1).qE).length) es,Sv fX ((((xN s aA (xg s aA t<|Vu aA) aX aX.length).1).x9).length) gg] sizeOf39 fun Te H=>sq 1<|sp (yI 0)<|zjc<|sw<|xW (yS s eP eM ke eR) isAgg27 sizeOf27 rfl (qH (H.get 11 rfl) 0 3)<|sq 1<|sw<|xW (yT t fU gZ eh gX hU f9) isAgg31 sizeOf31 rfl (qH (H.get 10 rfl) 0 3)<|sq 1 ?_
  obtain⟨G81,aGx,wM⟩:=H.Vg (α:=xH) 3 rfl 9 rfl qj
  have aws:=H.base.size
  have at8:=H.ltN (L:=[dG,e9,Nr]) [0,1,9]
  refine sw<|oc (sTissueAfter_ok _ s aA t aX (H.get 3 rfl).1 (H.get 4 rfl).1 (H.get 5 rfl).1 (H.get 6 rfl).1 (H.get 7 rfl).1 (H.get 8 rfl).1 wM qg qg qg qg qg qg qg) ?_
  rintro _ w85 ⟨ez,SC,eu,eY,dV,f6,ade,fZ,iC,fE,rfl,M,K⟩ _
  replace N:=N.merge aws at8 M
  replace H:=H.merge K M
  obtain rfl:=H.xk (α:=zu) 0 rfl 0 rfl qj
  obtain rfl:=H.xk (α:=zk) 1 rfl 1 rfl qj
  refine sq 3<|sp (yI 0)<|sw<|zn H ti39 [yN,yN] fun Vn w92 H=>sw<|zF H 0 [Sv ez ((((xN s aA (xg s aA t<|Vu aA) aX aX.length).1).qE).length) eu,Sv f6 ((((xN s aA (xg s aA t<|Vu aA) aX aX.length).1).x9).length) fZ] sizeOf39 fun w93 H=>sq 1<|sp (yI 0)<|zjn<|xM<|xM ?_
  have tf:(xN s aA (xg s aA t<|Vu aA) aX aX.length).1.x9.length<=12:=tk.few
  have tl:(xN s aA (xg s aA t<|Vu aA) aX aX.length).1.qE.length=Vu aA:=tk.len
  obtain⟨V,hV⟩:∃z,(xN s aA (xg s aA t (Vu aA)) aX aX.length)=z:=⟨_,rfl⟩
  rw[hV] at H tk tf tl ⊢
  refine xX<|sp (yI 0)<|sp (Bv false)<|sp (Bv false)<|qJ 63 rfl rfl<|sp (yI 0)<|qJ 63 rfl rfl<|sp (Bv false)<|sp (Bv false)<|sp (Bv false)<|qJ 67 rfl rfl<|oF rfl<|qJ 67 rfl rfl<|oL rfl (H.cell 3 rfl rfl)<|qJ 67 rfl rfl<|oN rfl<|qJ 67 rfl rfl<|oF rfl<|qJ 67 rfl rfl<|oL rfl (H.cell 0 rfl rfl)<|qJ 67 rfl rfl<|oN rfl<|qJ 67 rfl rfl<|sp (Bv ((((V.1).x9).length:Int) != (((V.1).x9).length)))<|sp (Bv ((((V.1).x9).length:Int) != (((V.1).x9).length)))<|sp (Bv ((((V.1).x9).length:Int) != (((V.1).x9).length))) ?_
  cases Ps:((((V.1).x9).length:Int) != (((V.1).x9).length))
  ·replace Ps:=xK Ps
   refine qJ 76 rfl rfl<|oF rfl<|qJ 76 rfl rfl<|oL rfl (H.cell 3 rfl rfl)<|qJ 76 rfl rfl<|oN rfl<|qJ 76 rfl rfl<|oF rfl<|qJ 76 rfl rfl<|oL rfl (H.cell 0 rfl rfl)<|qJ 76 rfl rfl<|oN rfl<|qJ 76 rfl rfl<|sq 2<|zjn<|vg _ rfl (fun h=>absurd rfl<|bne_iff_ne.1 h)<|fun Kg=>?_
   replace Kg:=xK Kg
   refine qW<|t_n<|zcc<|oF rfl<|oL rfl (H.cell 3 rfl rfl)<|oN rfl<|sp (Bv ((((V.1).x9).length:Int) == 0))<|zjn<|cE rfl (fun Mx=>?_)<|fun Mx=>?_
   ·refine zcr (sp (Bv true)<|zjr<|t_r<|ret1 (Bv true) rfl rfl ⟨_,rfl,?_,(Ext.trans' B0 H.base)⟩)
    rfl
   refine qW<|t_n<|zcr<|sq 1<|oF rfl<|oL rfl (H.cell 3 rfl rfl)<|oN rfl<|sw<|oq (a2At_ok _ ag 0 (((V.1).x9).length) (H.get 19 rfl).1 qg) H fun w98 H=>sq 1<|zjn<|xM ?_
   have ba:=atV_bd ag 0 (n:=(V.1.x9.length:Int)) qf
   obtain⟨kk,hk⟩:∃z,atV ag 0 (V.1.x9.length:Int)=z:=⟨_,rfl⟩
   rw[hk] at ba ⊢
   refine xX<|sw<|jH H underlying34 ti44 fun J0 atP H=>sq 1 ?_
   replace H:=H.boxRow 0 rfl 3 0 rfl qj
   replace H:=H.yD (α:=xH)
   replace H:St _ _ [rr (aa J0 0) 0 0 44 3 [],.box Vn [Sv ez (((V.1).qE).length) eu,Sv f6 (((V.1).x9).length) fZ] 39,rr ez (((V.1).qE).length) eu 49 16 eY,rr f6 (((V.1).x9).length) fZ 77 4 iC,.box SX [Sv eA (((V.1).qE).length) es,Sv fX (((V.1).x9).length) gg] 39,rr eA (((V.1).qE).length) es 49 16 eW,rr fX (((V.1).x9).length) gg 77 4 iD,rr sR aX.length aaA 44 3 SK] [qQ true [] [] ([]:List xH),qQ true dV eY ((V.1).qE),qQ true fE iC ((V.1).x9),qQ true dG eW ((V.1).qE),qQ true e9 iD ((V.1).x9),sF false mw ic hZ more,sF false IB eP eM s.qA,sF false Kd ke eR s.qB,sF false BK sJ sW aA,sF false J7 fU gZ t.xF,sF false IQ eh gX t.qG,sF false Kl hU f9 t.qF,qQ true Nr SK aX,atF GO 0<|yT t fU gZ eh gX hU f9,atF TB 0<|yS s eP eM ke eR,sF true BK sJ sW aA,sF true IB eP eM s.qA,sF true Kl hU f9 t.qF,sF true IQ eh gX t.qG,sF true J7 fU gZ t.xF,sF false m8 j5 iZ ag]:=H
   have H0:=H
   obtain⟨J1,We,aBf,H⟩:=H.jA (α:=xH) 7 rfl 12 rfl qj
   replace N:Fresh Pr.heap.size [J1,dV,fE,dG,e9]:=Fresh.ice (N.pick [4,0,1,2,3]) H0 7 We.1 We.2<|H0.vV<|zR 1 4
   clear H0
   refine sw<|VH H 0 rfl 0 rfl underlying34 ti44 rfl qj rfl rfl qp qf fun aHg aFb abe so IU H azj=>?_
   replace H:=H.repsCat true 2 rfl 0 rfl qm
   refine sp (yI kk)<|sw<|jE [yI 6,yI kk,yI 0] [(0,yI 6),(1,yI kk)]<|sw<|zy H underlying34 ti44 [yI 6,yI kk,yI 0] fun S7 Ru H=>sw<|zH H 1 rfl 0 rfl underlying34 ti44 rfl qj rfl rfl rfl qw qp qf fun aml alR ajU H=>?_
   replace H:=H.snoc_DeedD 0 rfl 6 kk 0
   refine sq 1<|zjc<|sw<|jH H underlying34 ti44 fun auI Rv H=>sq 1 ?_
   replace H:=H.boxRow 0 rfl 3 0 rfl qj
   replace H:=H.yD (α:=xH)
   replace H:St _ _ [rr (aa auI 0) 0 0 44 3 [],.box S7 [yI 6,yI kk,yI 0] 44,rr aml ((0+aX.length)+1) alR 44 3 (([]++so)++[yI 6,yI kk,yI 0]),.box Vn [Sv ez (((V.1).qE).length) eu,Sv f6 (((V.1).x9).length) fZ] 39,rr ez (((V.1).qE).length) eu 49 16 eY,rr f6 (((V.1).x9).length) fZ 77 4 iC,.box SX [Sv eA (((V.1).qE).length) es,Sv fX (((V.1).x9).length) gg] 39,rr eA (((V.1).qE).length) es 49 16 eW,rr fX (((V.1).x9).length) gg 77 4 iD,rr none 0 0 0 1 []] [qQ true [] [] ([]:List xH),qQ true (([]++IU)++[]) (([]++so)++[yI 6,yI kk,yI 0]) ((([]:List xH)++aX)++[(⟨6,kk,0⟩:xH)]),qQ true ([]++IU) ([]++so) (([]:List xH)++aX),qQ true IU so aX,sF true J1 sR aaA aX,qQ true [] [] ([]:List xH),qQ true dV eY ((V.1).qE),qQ true fE iC ((V.1).x9),qQ true dG eW ((V.1).qE),qQ true e9 iD ((V.1).x9),sF false mw ic hZ more,sF false IB eP eM s.qA,sF false Kd ke eR s.qB,sF false BK sJ sW aA,sF false J7 fU gZ t.xF,sF false IQ eh gX t.qG,sF false Kl hU f9 t.qF,qQ true Nr SK aX,atF GO 0<|yT t fU gZ eh gX hU f9,atF TB 0<|yS s eP eM ke eR,sF true BK sJ sW aA,sF true IB eP eM s.qA,sF true Kl hU f9 t.qF,sF true IQ eh gX t.qG,sF true J7 fU gZ t.xF,sF false m8 j5 iZ ag]:=H
   refine sw<|VH H 0 rfl 4 rfl underlying34 ti44 rfl qj rfl rfl qp qf fun ab9 acp NF uO SU H azq=>?_
   replace H:=H.repsCat true 1 rfl 0 rfl qm
   refine sp (yI kk)<|sw<|jE [yI 7,yI kk,yI 0] [(0,yI 7),(1,yI kk)]<|sp (yI kk)<|sw<|jE [yI 6,yI kk,yI 0] [(0,yI 6),(1,yI kk)]<|sw<|o_build2C H underlying34 ti44 [yI 7,yI kk,yI 0,yI 6,yI kk,yI 0] fun Iy aa0 H=>sw<|zH H 1 rfl 0 rfl underlying34 ti44 rfl qj rfl rfl rfl qw qp qf fun ZN Zc Rt H=>?_
   replace H:=H.snoc_DeedD 0 rfl 7 kk 0
   replace H:=H.snoc_DeedD 0 rfl 6 kk 0
   rw[show ((([]++uO)++[yI 7,yI kk,yI 0])++[yI 6,yI kk,yI 0]:List Value)=([]++uO)++[yI 7,yI kk,yI 0,yI 6,yI kk,yI 0] from by simp] at H
   refine sq 1<|zjc<|sw<|jH H underlying34 ti44 fun atD RC H=>sq 1 ?_
   replace H:=H.boxRow 0 rfl 3 0 rfl qj
   replace H:=H.yD (α:=xH)
   replace H:St _ _ [rr (aa atD 0) 0 0 44 3 [],.box Iy [yI 7,yI kk,yI 0,yI 6,yI kk,yI 0] 44,rr ZN ((0+aX.length)+2) Zc 44 3 (([]++uO)++[yI 7,yI kk,yI 0,yI 6,yI kk,yI 0]),.box S7 [yI 6,yI kk,yI 0] 44,rr aml ((0+aX.length)+1) alR 44 3 (([]++so)++[yI 6,yI kk,yI 0]),.box Vn [Sv ez (((V.1).qE).length) eu,Sv f6 (((V.1).x9).length) fZ] 39,rr ez (((V.1).qE).length) eu 49 16 eY,rr f6 (((V.1).x9).length) fZ 77 4 iC,.box SX [Sv eA (((V.1).qE).length) es,Sv fX (((V.1).x9).length) gg] 39,rr eA (((V.1).qE).length) es 49 16 eW,rr fX (((V.1).x9).length) gg 77 4 iD,rr none 0 0 0 1 []] [qQ true [] [] ([]:List xH),qQ true ((([]++SU)++[])++[]) (([]++uO)++[yI 7,yI kk,yI 0,yI 6,yI kk,yI 0]) (((([]:List xH)++aX)++[(⟨7,kk,0⟩:xH)])++[(⟨6,kk,0⟩:xH)]),qQ true (([]++SU)++[]) (([]++uO)++[yI 7,yI kk,yI 0]) ((([]:List xH)++aX)++[(⟨7,kk,0⟩:xH)]),qQ true ([]++SU) ([]++uO) (([]:List xH)++aX),qQ true SU uO aX,qQ true [] [] ([]:List xH),qQ true (([]++IU)++[]) (([]++so)++[yI 6,yI kk,yI 0]) ((([]:List xH)++aX)++[(⟨6,kk,0⟩:xH)]),qQ true ([]++IU) ([]++so) (([]:List xH)++aX),qQ true IU so aX,sF true J1 sR aaA aX,qQ true [] [] ([]:List xH),qQ true dV eY ((V.1).qE),qQ true fE iC ((V.1).x9),qQ true dG eW ((V.1).qE),qQ true e9 iD ((V.1).x9),sF false mw ic hZ more,sF false IB eP eM s.qA,sF false Kd ke eR s.qB,sF false BK sJ sW aA,sF false J7 fU gZ t.xF,sF false IQ eh gX t.qG,sF false Kl hU f9 t.qF,qQ true Nr SK aX,atF GO 0<|yT t fU gZ eh gX hU f9,atF TB 0<|yS s eP eM ke eR,sF true BK sJ sW aA,sF true IB eP eM s.qA,sF true Kl hU f9 t.qF,sF true IQ eh gX t.qG,sF true J7 fU gZ t.xF,sF false m8 j5 iZ ag]:=H
   refine sw<|VH H 0 rfl 9 rfl underlying34 ti44 rfl qj rfl rfl qp qf fun aFx aCU aix aBY atH H aAy=>?_
   replace H:=H.repsCat true 1 rfl 0 rfl qm
   refine sp (yI kk)<|sw<|jE [yI 8,yI kk,yI 0] [(0,yI 8),(1,yI kk)]<|sw<|zy H underlying34 ti44 [yI 8,yI kk,yI 0] fun axU afH H=>sw<|zH H 1 rfl 0 rfl underlying34 ti44 rfl qj rfl rfl rfl qw qp qf fun aGg aGu aGp H=>?_
   replace H:=H.snoc_DeedD 0 rfl 8 kk 0
   refine sq 1<|zjc<|sw<|xW (yS s eP eM ke eR) isAgg27 sizeOf27 rfl (qH (H.get 27 rfl) 0 3)<|sq 1<|sw<|xW (yT t fU gZ eh gX hU f9) isAgg31 sizeOf31 rfl (qH (H.get 26 rfl) 0 3)<|sq 1 ?_
   obtain⟨aHD,Tc,avD⟩:=H.Vg (α:=xH) 5 rfl 9 rfl qj
   have d6:((([]:List xH)++aX)++[(⟨6,kk,0⟩:xH)]).length<=400:=by simp;omega
   have d5:∀k,k<((([]:List xH)++aX)++[(⟨6,kk,0⟩:xH)]).length->VL (((([]:List xH)++aX)++[(⟨6,kk,0⟩:xH)])[k]!):=Deeds.one dd.1 qf qj
   have LV:=H.base.size
   have MN:=H.ltN (L:=[J1,dV,fE,dG,e9]) (12::zR 14 4)
   refine sw<|oc (args_eq (by rw[←Tc])<|tissueAfter_ok _ s aA t ((([]:List xH)++aX)++[(⟨6,kk,0⟩:xH)]) (H.get 19 rfl).1 (H.get 20 rfl).1 (H.get 21 rfl).1 (H.get 22 rfl).1 (H.get 23 rfl).1 (H.get 24 rfl).1 (Tc▸avD) qg qg qg qg qg qg qg) ?_
   rintro _ Mn ⟨oh,PG,ol,Pl,kG,uw,aab,tq,aaJ,oT,rfl,M,K⟩ _
   replace N:=N.merge LV MN M
   replace H:=H.merge K M
   obtain rfl:=H.xk (α:=zu) 0 rfl 0 rfl qj
   obtain rfl:=H.xk (α:=zk) 1 rfl 1 rfl qj
   refine sq 3<|sp (yI 0)<|sw<|zn H ti39 [yN,yN] fun aFz aig H=>sw<|zF H 0 [Sv oh ((((xN s aA (xg s aA t<|Vu aA) ((([]:List xH)++aX)++[(⟨6,kk,0⟩:xH)]) ((([]:List xH)++aX)++[(⟨6,kk,0⟩:xH)]).length).1).qE).length) ol,Sv uw ((((xN s aA (xg s aA t<|Vu aA) ((([]:List xH)++aX)++[(⟨6,kk,0⟩:xH)]) ((([]:List xH)++aX)++[(⟨6,kk,0⟩:xH)]).length).1).x9).length) tq] sizeOf39 fun Y3 H=>(sq 1<|sp (yI 0)<|zjc<|sw<|xW (yS s eP eM ke eR) isAgg27 sizeOf27 rfl (qH (H.get 29 rfl) 0 3)<|sq 1<|sw<|xW (yT t fU gZ eh gX hU f9) isAgg31 sizeOf31 rfl (qH (H.get 28 rfl) 0 3)<|sq 1 ?_)
   obtain⟨aaN,Lg,ayv⟩:=H.Vg (α:=xH) 6 rfl 6 rfl qj
   have d6:(((([]:List xH)++aX)++[(⟨7,kk,0⟩:xH)])++[(⟨6,kk,0⟩:xH)]).length<=400:=by simp;omega
   have d5:∀k,k<(((([]:List xH)++aX)++[(⟨7,kk,0⟩:xH)])++[(⟨6,kk,0⟩:xH)]).length->VL ((((([]:List xH)++aX)++[(⟨7,kk,0⟩:xH)])++[(⟨6,kk,0⟩:xH)])[k]!):=Deeds.one (Deeds.one dd.1 qf qj) qf qj
   have aii:=H.base.size
   have aou:=H.ltN (L:=[kG,oT,J1,dV,fE,dG,e9]) (0::1::14::zR 16 4)
   refine sw<|oc (args_eq (by rw[←Lg])<|tissueAfter_ok _ s aA t (((([]:List xH)++aX)++[(⟨7,kk,0⟩:xH)])++[(⟨6,kk,0⟩:xH)]) (H.get 21 rfl).1 (H.get 22 rfl).1 (H.get 23 rfl).1 (H.get 24 rfl).1 (H.get 25 rfl).1 (H.get 26 rfl).1 (Lg▸ayv) qg qg qg qg qg qg qg) ?_
   rintro _ aas ⟨oj,Pt,og,Pq,ow,uh,ZW,uo,acQ,vr,rfl,M,K⟩ _
   replace N:=N.merge aii aou M
   replace H:=H.merge K M
   obtain rfl:=H.xk (α:=zu) 0 rfl 0 rfl qj
   obtain rfl:=H.xk (α:=zk) 1 rfl 1 rfl qj
   refine sq 3<|sp (yI 0)<|sw<|zn H ti39 [yN,yN] fun Zm aaO H=>sw<|zF H 0 [Sv oj ((((xN s aA (xg s aA t<|Vu aA) (((([]:List xH)++aX)++[(⟨7,kk,0⟩:xH)])++[(⟨6,kk,0⟩:xH)]) (((([]:List xH)++aX)++[(⟨7,kk,0⟩:xH)])++[(⟨6,kk,0⟩:xH)]).length).1).qE).length) og,Sv uh ((((xN s aA (xg s aA t<|Vu aA) (((([]:List xH)++aX)++[(⟨7,kk,0⟩:xH)])++[(⟨6,kk,0⟩:xH)]) (((([]:List xH)++aX)++[(⟨7,kk,0⟩:xH)])++[(⟨6,kk,0⟩:xH)]).length).1).x9).length) uo] sizeOf39 fun apB H=>(sq 1<|sp (yI 0)<|zjc<|sw<|xW (yS s eP eM ke eR) isAgg27 sizeOf27 rfl (qH (H.get 31 rfl) 0 3)<|sq 1<|sw<|xW (yT t fU gZ eh gX hU f9) isAgg31 sizeOf31 rfl (qH (H.get 30 rfl) 0 3)<|sq 1 ?_)
   obtain⟨auc,K3,awR⟩:=H.Vg (α:=xH) 7 rfl 4 rfl qj
   have d6:((([]:List xH)++aX)++[(⟨8,kk,0⟩:xH)]).length<=400:=by simp;omega
   have d5:∀k,k<((([]:List xH)++aX)++[(⟨8,kk,0⟩:xH)]).length->VL (((([]:List xH)++aX)++[(⟨8,kk,0⟩:xH)])[k]!):=Deeds.one dd.1 qf qj
   have anJ:=H.base.size
   have akA:=H.ltN (L:=[ow,vr,kG,oT,J1,dV,fE,dG,e9]) [0,1,2,3,16,18,19,20,21]
   refine sw<|oc (args_eq (by rw[←K3])<|tissueAfter_ok _ s aA t ((([]:List xH)++aX)++[(⟨8,kk,0⟩:xH)]) (H.get 23 rfl).1 (H.get 24 rfl).1 (H.get 25 rfl).1 (H.get 26 rfl).1 (H.get 27 rfl).1 (H.get 28 rfl).1 (K3▸awR) qg qg qg qg qg qg qg) ?_
   rintro _ abr ⟨wT,PD,wR,Pj,wY,EG,aa3,EZ,ab8,En,rfl,M,K⟩ _
   replace N:=N.merge anJ akA M
   replace H:=H.merge K M
   obtain rfl:=H.xk (α:=zu) 0 rfl 0 rfl qj
   obtain rfl:=H.xk (α:=zk) 1 rfl 1 rfl qj
   refine sq 3<|sp (yI 0)<|sw<|zn H ti39 [yN,yN] fun Eb axN H=>sw<|zF H 0 [Sv wT ((((xN s aA (xg s aA t<|Vu aA) ((([]:List xH)++aX)++[(⟨8,kk,0⟩:xH)]) ((([]:List xH)++aX)++[(⟨8,kk,0⟩:xH)]).length).1).qE).length) wR,Sv EG ((((xN s aA (xg s aA t<|Vu aA) ((([]:List xH)++aX)++[(⟨8,kk,0⟩:xH)]) ((([]:List xH)++aX)++[(⟨8,kk,0⟩:xH)]).length).1).x9).length) EZ] sizeOf39 fun asS H=>(sq 1<|sp (yI 0)<|zjn<|xM<|xM ?_)
   have pc:=parcel_run (s:=s) (own:=aA) (v:=xg s aA t<|Vu aA) (l:=aX) (k:=kk) (l1:=((([]:List xH)++aX)++[(⟨6,kk,0⟩:xH)])) (l2:=(((([]:List xH)++aX)++[(⟨7,kk,0⟩:xH)])++[(⟨6,kk,0⟩:xH)])) (l3:=((([]:List xH)++aX)++[(⟨8,kk,0⟩:xH)])) r0 (by rw[hV];exact tk) qf (by rw[hV];omega) qm qm qm
   rw[hV] at pc
   have c1:=pc.same
   have c2:=pc.wire
   have c3:=pc.srv
   have c4:=congrArg List.length c3
   refine xX<|sp (yI 0)<|sp (Bv false)<|sp (Bv false)<|qJ 146 rfl rfl<|sp (yI 0)<|qJ 146 rfl rfl<|sp (Bv false)<|sp (Bv false)<|sp (Bv false)<|qJ 150 rfl rfl<|sp (yI 0)<|qJ 150 rfl rfl<|sp (Bv false)<|sp (Bv false)<|sp (Bv false)<|qJ 154 rfl rfl<|sw<|xW [Sv oh ((((xN s aA (xg s aA t<|Vu aA) ((([]:List xH)++aX)++[(⟨6,kk,0⟩:xH)]) ((([]:List xH)++aX)++[(⟨6,kk,0⟩:xH)]).length).1).qE).length) ol,Sv uw ((((xN s aA (xg s aA t<|Vu aA) ((([]:List xH)++aX)++[(⟨6,kk,0⟩:xH)]) ((([]:List xH)++aX)++[(⟨6,kk,0⟩:xH)]).length).1).x9).length) tq] isAgg39 sizeOf39 rfl (qH (H.cells 6 rfl) 0 2)<|qJ 154 rfl rfl<|sw<|xW [Sv oj ((((xN s aA (xg s aA t<|Vu aA) (((([]:List xH)++aX)++[(⟨7,kk,0⟩:xH)])++[(⟨6,kk,0⟩:xH)]) (((([]:List xH)++aX)++[(⟨7,kk,0⟩:xH)])++[(⟨6,kk,0⟩:xH)]).length).1).qE).length) og,Sv uh ((((xN s aA (xg s aA t<|Vu aA) (((([]:List xH)++aX)++[(⟨7,kk,0⟩:xH)])++[(⟨6,kk,0⟩:xH)]) (((([]:List xH)++aX)++[(⟨7,kk,0⟩:xH)])++[(⟨6,kk,0⟩:xH)]).length).1).x9).length) uo] isAgg39 sizeOf39 rfl (qH (H.cells 3 rfl) 0 2)<|qJ 154 rfl rfl ?_
   obtain⟨aF4,aAc,avk⟩:=H.Vg (α:=zu) 7 rfl 4 rfl qj
   obtain⟨aFi,aA2,Zy⟩:=H.Vg (α:=zk) 8 rfl 5 rfl qj
   obtain⟨aHz,aAD,atv⟩:=H.Vg (α:=zu) 4 rfl 2 rfl qj
   obtain⟨aF5,aBE,PW⟩:=H.Vg (α:=zk) 5 rfl 3 rfl qj
   refine sw<|oq (sameTissue_ok _ ((xN s aA (xg s aA t<|Vu aA) ((([]:List xH)++aX)++[(⟨6,kk,0⟩:xH)]) ((([]:List xH)++aX)++[(⟨6,kk,0⟩:xH)]).length).1) ((xN s aA (xg s aA t<|Vu aA) (((([]:List xH)++aX)++[(⟨7,kk,0⟩:xH)])++[(⟨6,kk,0⟩:xH)]) (((([]:List xH)++aX)++[(⟨7,kk,0⟩:xH)])++[(⟨6,kk,0⟩:xH)]).length).1) avk Zy atv PW) H fun asP H=>qJ 154 rfl rfl<|sp (Bv (!(decide (((xN s aA (xg s aA t<|Vu aA) ((([]:List xH)++aX)++[(⟨6,kk,0⟩:xH)]) ((([]:List xH)++aX)++[(⟨6,kk,0⟩:xH)]).length).1)=((xN s aA (xg s aA t<|Vu aA) (((([]:List xH)++aX)++[(⟨7,kk,0⟩:xH)])++[(⟨6,kk,0⟩:xH)]) (((([]:List xH)++aX)++[(⟨7,kk,0⟩:xH)])++[(⟨6,kk,0⟩:xH)]).length).1)))))<|sp (Bv (!(decide (((xN s aA (xg s aA t<|Vu aA) ((([]:List xH)++aX)++[(⟨6,kk,0⟩:xH)]) ((([]:List xH)++aX)++[(⟨6,kk,0⟩:xH)]).length).1)=((xN s aA (xg s aA t<|Vu aA) (((([]:List xH)++aX)++[(⟨7,kk,0⟩:xH)])++[(⟨6,kk,0⟩:xH)]) (((([]:List xH)++aX)++[(⟨7,kk,0⟩:xH)])++[(⟨6,kk,0⟩:xH)]).length).1)))))<|sp (Bv (!(decide (((xN s aA (xg s aA t<|Vu aA) ((([]:List xH)++aX)++[(⟨6,kk,0⟩:xH)]) ((([]:List xH)++aX)++[(⟨6,kk,0⟩:xH)]).length).1)=((xN s aA (xg s aA t<|Vu aA) (((([]:List xH)++aX)++[(⟨7,kk,0⟩:xH)])++[(⟨6,kk,0⟩:xH)]) (((([]:List xH)++aX)++[(⟨7,kk,0⟩:xH)])++[(⟨6,kk,0⟩:xH)]).length).1))))) ?_
   cases CV:(!(decide (((xN s aA (xg s aA t (Vu aA)) ((([]:List xH)++aX)++[(⟨6,kk,0⟩:xH)]) ((([]:List xH)++aX)++[(⟨6,kk,0⟩:xH)]).length).1)=((xN s aA (xg s aA t (Vu aA)) (((([]:List xH)++aX)++[(⟨7,kk,0⟩:xH)])++[(⟨6,kk,0⟩:xH)]) (((([]:List xH)++aX)++[(⟨7,kk,0⟩:xH)])++[(⟨6,kk,0⟩:xH)]).length).1))))
   ·replace CV:=xf CV
    replace CV:=of_decide_eq_true CV
    refine qJ 160 rfl rfl<|oF rfl<|qJ 160 rfl rfl<|oL rfl (H.cell 0 rfl rfl)<|qJ 160 rfl rfl<|oN rfl<|qJ 160 rfl rfl<|oF rfl<|qJ 160 rfl rfl<|oL rfl (H.cell 18 rfl rfl)<|qJ 160 rfl rfl<|oN rfl<|qJ 160 rfl rfl<|sw<|o_sub (((V.1).x9).length) 1 rfl rfl qf<|qJ 160 rfl rfl<|sp (Bv (((((xN s aA (xg s aA t<|Vu aA) ((([]:List xH)++aX)++[(⟨8,kk,0⟩:xH)]) ((([]:List xH)++aX)++[(⟨8,kk,0⟩:xH)]).length).1).x9).length:Int) != ((((V.1).x9).length)-1)))<|sp (Bv (((((xN s aA (xg s aA t<|Vu aA) ((([]:List xH)++aX)++[(⟨8,kk,0⟩:xH)]) ((([]:List xH)++aX)++[(⟨8,kk,0⟩:xH)]).length).1).x9).length:Int) != ((((V.1).x9).length)-1)))<|sp (Bv (((((xN s aA (xg s aA t<|Vu aA) ((([]:List xH)++aX)++[(⟨8,kk,0⟩:xH)]) ((([]:List xH)++aX)++[(⟨8,kk,0⟩:xH)]).length).1).x9).length:Int) != ((((V.1).x9).length)-1))) ?_
    cases Ad:(((((xN s aA (xg s aA t (Vu aA)) ((([]:List xH)++aX)++[(⟨8,kk,0⟩:xH)]) ((([]:List xH)++aX)++[(⟨8,kk,0⟩:xH)]).length).1).x9).length:Int) != ((((V.1).x9).length)-1))
    ·replace Ad:=xK Ad
     refine qJ 170 rfl rfl<|oF rfl<|qJ 170 rfl rfl<|oL rfl (H.cell 0 rfl rfl)<|qJ 170 rfl rfl<|oN rfl<|qJ 170 rfl rfl<|oF rfl<|qJ 170 rfl rfl<|oL rfl (H.cell 18 rfl rfl)<|qJ 170 rfl rfl<|oN rfl<|qJ 170 rfl rfl<|sq 2<|zjn<|vg _ rfl (fun tQ=>?_)<|fun tQ=>?_
     ·replace tQ:=bne_iff_ne.1 tQ
      refine zcr<|sp (Bv false)<|zjr<|t_r<|ret1 (Bv false) rfl rfl ⟨_,rfl,?_,(Ext.trans' B0 H.base)⟩
      exfalso;omega
     replace tQ:=xK tQ
     refine qW<|t_n<|zcc<|sp (yI 0)<|zjn<|xe<|zT ((fun Z0 Z1 Z2 Z3 Z4 Z5 Z6 Z7 Z8 Z9 fi fK gW ka lc lN rj xo Ab EJ Ew O1 Ox Z23 Z24 Z25 Z26 Z27 Z28 Z29 Z30 Z31 Z32 Z33=>fun m' ρ abt=>∃(xP:Env) (k:Nat),ρ=upd (upd (upd xP 9<|pp SX 0) 25<|pp Eb 0) 28 (yI k)/\((k:Int)<=((((xN s aA (xg s aA t<|Vu aA) ((([]:List xH)++aX)++[(⟨8,kk,0⟩:xH)]) ((([]:List xH)++aX)++[(⟨8,kk,0⟩:xH)]).length).1).qE).length))/\m'=(((((xN s aA (xg s aA t<|Vu aA) ((([]:List xH)++aX)++[(⟨8,kk,0⟩:xH)]) ((([]:List xH)++aX)++[(⟨8,kk,0⟩:xH)]).length).1).qE).length)-(k:Int)).toNat/\Fresh Pr.heap.size [wY,En,ow,vr,kG,oT,dV,fE,dG,e9]/\St Pr abt [Z0,Z1,Z2,Z3,Z4,Z5,Z6,Z7,Z8,Z9,fi,fK,gW,ka,lc,lN,rj,xo,Ab,EJ,Ew] [O1,Ox,Z23,Z24,Z25,Z26,Z27,Z28,Z29,Z30,Z31,Z32,Z33]) _ _ _ _ _ _ _ _ _ _ _ _ _ _ _ _ _ _ _ _ _ _ _ _ _ _ _ _ _ _ _ _ _ _) ((((((xN s aA (xg s aA t<|Vu aA) ((([]:List xH)++aX)++[(⟨8,kk,0⟩:xH)]) ((([]:List xH)++aX)++[(⟨8,kk,0⟩:xH)]).length).1).qE).length)-(0:Int)).toNat) ⟨_,0,uE3,qf,rfl,(N.pick [0,1,2,3,4,5,7,8,9,10]),H.pick (zR 0 21) [0,1,2,3,4,5,6,10,15,20,21,22,23]⟩ ?_
     clear H N
     rintro m' ρ awi ⟨xP,k,rfl,i0,rfl,N,H⟩
     refine zcc<|sp (yI k)<|oF rfl<|oL rfl (H.cell 0 rfl rfl)<|oN rfl<|sq 1<|zjn<|cD rfl (fun zz=>?_)<|fun zz=>?_
     ·have y1:=congrArg (fun z:List zu=>(z[k]!).qC) c3
      refine qW<|t_n<|xM<|xe<|xM<|vK 2 rfl H [0,1,2,3,4,5,6,7,8,9,10,11,12,13,14,15,16,17,18,19,20] [0,1,2,3,4,5,6,7,8,9,10,11,12] fun H=>?_
      dsimp only[yg,yL]
      refine tF 0 rfl rfl H ?_
      refine tL 1 rfl rfl (fun _ h=>h.cell 0 rfl rfl) H ?_
      refine rtp 2 (yI k) H ?_
      obtain⟨aFy,rfl⟩:=H.jB 1 rfl qf
      refine tI 3 rfl rfl rfl H ?_
      refine tF 4 rfl rfl H ?_
      obtain⟨JT,Iv,adN,B4,B3,Tn,Nk,Lj,alK,Do,C6,Tz,NO,Ng,aff,JC,Jn,adS,amF,H⟩:=H.jQ zC 1 rfl 0 rfl rfl k qf
      have S:=H.zW (zR 0 21)<|zR 6 13
      refine rt 5 _ (Qg (off:=0+(k:Int).toNat*16+0) (cs:=[yI ((((((xN s aA (xg s aA t<|Vu aA) ((([]:List xH)++aX)++[(⟨8,kk,0⟩:xH)]) ((([]:List xH)++aX)++[(⟨8,kk,0⟩:xH)]).length).1).qE)[k]!).qC).qP),Sv JT (((((((xN s aA (xg s aA t<|Vu aA) ((([]:List xH)++aX)++[(⟨8,kk,0⟩:xH)]) ((([]:List xH)++aX)++[(⟨8,kk,0⟩:xH)]).length).1).qE)[k]!).qC).qG).length) Iv,Sv B4 (((((((xN s aA (xg s aA t<|Vu aA) ((([]:List xH)++aX)++[(⟨8,kk,0⟩:xH)]) ((([]:List xH)++aX)++[(⟨8,kk,0⟩:xH)]).length).1).qE)[k]!).qC).qF).length) B3,Bv ((((((xN s aA (xg s aA t<|Vu aA) ((([]:List xH)++aX)++[(⟨8,kk,0⟩:xH)]) ((([]:List xH)++aX)++[(⟨8,kk,0⟩:xH)]).length).1).qE)[k]!).qC).qV),Sv Nk (((((((xN s aA (xg s aA t<|Vu aA) ((([]:List xH)++aX)++[(⟨8,kk,0⟩:xH)]) ((([]:List xH)++aX)++[(⟨8,kk,0⟩:xH)]).length).1).qE)[k]!).qC).vM).length) Lj,Sv Do (((((((xN s aA (xg s aA t<|Vu aA) ((([]:List xH)++aX)++[(⟨8,kk,0⟩:xH)]) ((([]:List xH)++aX)++[(⟨8,kk,0⟩:xH)]).length).1).qE)[k]!).qC).qL).length) C6,Sv NO (((((((xN s aA (xg s aA t<|Vu aA) ((([]:List xH)++aX)++[(⟨8,kk,0⟩:xH)]) ((([]:List xH)++aX)++[(⟨8,kk,0⟩:xH)]).length).1).qE)[k]!).qC).vX).length) Ng,Sv JC (((((((xN s aA (xg s aA t<|Vu aA) ((([]:List xH)++aX)++[(⟨8,kk,0⟩:xH)]) ((([]:List xH)++aX)++[(⟨8,kk,0⟩:xH)]).length).1).qE)[k]!).qC).x8).length) Jn]) isAgg47 sizeOf47 rfl<|fun _ h=>(fun r v hv=>h.zt 1 rfl (amF r v hv) qf)) S ?_
      refine tF 6 rfl rfl S ?_
      refine tL 7 rfl rfl (fun _ h=>h.cell 18 rfl rfl) S ?_
      refine rtp 8 (yI k) S ?_
      obtain⟨aGn,rfl⟩:=H.jB 19 rfl qf
      have S:=H.zW (zR 0 21)<|zR 6 13
      refine tI 9 rfl rfl rfl S ?_
      refine tF 10 rfl rfl S ?_
      obtain⟨Jl,JV,aeb,BO,DS,Tt,Lo,MM,aiZ,BY,Ds,Yi,OR,Ny,amU,JQ,JI,adn,afw,H⟩:=H.jQ zC 19 rfl 17 rfl rfl k qf
      refine rt 11 _ (Qg (off:=0+(k:Int).toNat*16+0) (cs:=[yI (((((V.1).qE)[k]!).qC).qP),Sv Jl ((((((V.1).qE)[k]!).qC).qG).length) JV,Sv BO ((((((V.1).qE)[k]!).qC).qF).length) DS,Bv (((((V.1).qE)[k]!).qC).qV),Sv Lo ((((((V.1).qE)[k]!).qC).vM).length) MM,Sv BY ((((((V.1).qE)[k]!).qC).qL).length) Ds,Sv OR ((((((V.1).qE)[k]!).qC).vX).length) Ny,Sv JQ ((((((V.1).qE)[k]!).qC).x8).length) JI]) isAgg47 sizeOf47 rfl<|fun _ h=>(fun r v hv=>h.zt 19 rfl (afw r v hv) qf)) (H.pick (zR 0 21)<|zR 12 13) ?_
      refine xy qh<|xZ<|sw<|oq (VD _ (((((xN s aA (xg s aA t<|Vu aA) ((([]:List xH)++aX)++[(⟨8,kk,0⟩:xH)]) ((([]:List xH)++aX)++[(⟨8,kk,0⟩:xH)]).length).1).qE)[k]!).qC) ((((V.1).qE)[k]!).qC) (H.get 6 rfl).1 (H.get 7 rfl).1 (H.get 8 rfl).1 (H.get 9 rfl).1 (H.get 10 rfl).1 (H.get 11 rfl).1 (H.get 0 rfl).1 (H.get 1 rfl).1 (H.get 2 rfl).1 (H.get 3 rfl).1 (H.get 4 rfl).1 (H.get 5 rfl).1) H fun auC H=>(sq 1<|zjn<|vg _ rfl (fun AT=>?_)<|fun AT=>?_)
      ·replace AT:=xq AT
       replace AT:=of_decide_eq_false AT
       refine zcr<|sp (Bv false)<|zjr<|zr5<|ret1 (Bv false) rfl rfl ⟨_,rfl,?_,(Ext.trans' B0 H.base)⟩
       exfalso;contradiction
      replace AT:=xf AT
      replace AT:=of_decide_eq_true AT
      refine qW<|b_n<|t_n<|xX<|sp (yI k)<|sw<|zS k 1 rfl rfl qf<|sq 1<|xU<|xu (m':=(((((xN s aA (xg s aA t<|Vu aA) ((([]:List xH)++aX)++[(⟨8,kk,0⟩:xH)]) ((([]:List xH)++aX)++[(⟨8,kk,0⟩:xH)]).length).1).qE).length)-((k+1):Int)).toNat) qf ⟨_,k+1,uE3,?_,rfl,N,H.pick (zR 0 21)<|zR 12 13⟩
      ·omega
     refine zx4<|zcr<|sp (Bv true)<|zjr<|ret1 (Bv true) rfl rfl ⟨_,rfl,?_,(Ext.trans' B0 H.base)⟩
     rfl
    replace Ad:=bne_iff_ne.1 Ad
    refine xO (zR 171 7)<|sp (Bv true)<|zjn<|cTr rfl<|zcr<|sp (Bv false)<|zjr<|t_r<|ret1 (Bv false) rfl rfl ⟨_,rfl,?_,(Ext.trans' B0 H.base)⟩
    exfalso;omega
   replace CV:=xq CV
   replace CV:=of_decide_eq_false CV
   refine xO (zR 161 8)<|sp (Bv true)<|sp (Bv true)<|xO (zR 171 7)<|sp (Bv true)<|zjn<|cTr rfl<|zcr<|sp (Bv false)<|zjr<|t_r<|ret1 (Bv false) rfl rfl ⟨_,rfl,?_,(Ext.trans' B0 H.base)⟩
   exfalso;contradiction
  ·exact absurd rfl<|bne_iff_ne.1 Ps
 replace h1:=of_decide_eq_true h1
 refine xO [9,10,11]<|sp (Bv true)<|sp (Bv true)<|zjr<|ret1 (Bv true) rfl rfl ⟨_,rfl,(zjn<|cTr rfl<|zcr<|sp (Bv true)<|zjr<|t_r<|rH1 (Bv true) H ?_)⟩
 rfl
end
section
open Go.ChangeShapes Go.WideShapes Go.ChangeAt Go.RowKit Go.Joins
def Reads(P:Program)(t:TypeId)(α:Type)[qK α]:Prop:=
 ∀ {H:Type} {enc:TypeId×Value->H} {w:World} {Gu:Nat->Bool} {Rz:Bool} {fuel:Nat} {cs:List Value} {x:DataW H×List MemPlace},
  DataW.trod enc P w 0 Gu Rz fuel t cs=some x->∃F,∃y:α,qK.rep w F cs y
theorem cell_spot{a:Addr}(h:w.cell? a=some v):a.spot=none:=by
 unfold World.cell? at h
 split at h
 ·split at h
  ·cases h
  ·rename_i hs;simpa using hs
 ·cases h
theorem reads_slice{α:Type}[qK α](hu:P.underlying t=some (.slice e))(hc:P.cellsOf e=qK.size α)(hz:0<qK.size α)(he:Reads P e α):Reads P t (List α):=by
 intro H enc w Gu Rz fuel cs x h
 rcases DataW.trod_slice hu h with ⟨rfl,_⟩|⟨a,len,ib,elems,rest,n,_,rfl,_,_,hlc,hcm,hel,hget,_⟩
 ·exact⟨[],[],none,0,rfl,by simp,Or.inl ⟨rfl,rfl⟩⟩
 ·have hm:ib<=9223372036854775807:=by unfold maxLen at hcm;omega
  rcases Nat.eq_zero_or_pos len with h0|h0
  ·subst h0
   exact⟨[],[],some a,ib,rfl,by simp,Or.inl ⟨rfl,rfl⟩⟩
  ·have H9:∀i,i<len->∃ci Fi,∃y:α,w.cells? 0 (a.add<|i*qK.size α) (qK.size α)=some ci/\qK.rep w Fi ci y:=by
    intro i hi
    have hg:=hget i hi
    rw[hc] at hg
    have hs:elems[i]? =some (elems[i]'(by omega)):=List.getElem?_eq_getElem qf
    rw[hs] at hg
    obtain⟨ci,h1,h2⟩:=Option.bind_eq_some_iff.1 hg
    obtain⟨Fi,y,hr⟩:=he h2
    exact⟨ci,Fi,y,h1,hr⟩
   have hsp:a.spot=none:=by
    obtain⟨ci,Fi,y,h1,_⟩:=H9 0 h0
    obtain⟨_,hl,CZ⟩:=World.cells?_some h1
    have:=CZ 0 hz
    rw[List.getElem?_eq_getElem<|show 0<ci.length by omega] at this
    have:=cell_spot this
    simpa [Addr.add] using this
   obtain⟨b,off,sp⟩:=a
   simp only at hsp
   subst hsp
   have asU:∀i j:Nat,((⟨b,off,none⟩:Addr).add<|i*qK.size α).add j=⟨b,off+i*qK.size α+j,none⟩:=fun i j=>by simp[Addr.add_mid]
   have Eg:∀m,m<=len->∃F vs,∃l:List α,l.length=m/\reps w F vs l/\jI w b off vs:=by
    intro m
    induction m with
    |zero=>exact fun _=>⟨[],[],[],rfl,⟨rfl,rfl⟩,fun i v hv=>by simp at hv⟩
    |succ m ih=>
     intro hm'
     obtain⟨F,vs,l,hl,hr,Rq⟩:=ih qf
     obtain⟨ci,Fi,y,h1,h2⟩:=H9 m qf
     obtain⟨_,aC3,CZ⟩:=World.cells?_some h1
     refine⟨F++Fi,vs++ci,l++[y],by simp[hl],yU hr<|reps_one h2,fun i v hv=>?_⟩
     have hvl:=reps_len hr
     rw[hl] at hvl
     rcases Nat.lt_or_ge i vs.length with hi|hi
     ·rw[List.getElem?_append_left hi] at hv
      exact Rq i v hv
     ·rw[List.getElem?_append_right hi] at hv
      have hi2:i-vs.length<ci.length:=by
       rcases Nat.lt_or_ge (i-vs.length) ci.length with h|h
       ·exact h
       ·simp[h] at hv
      have:=CZ (i-vs.length) qf
      rw[asU,hv] at this
      rw[←this]
      congr 1
      rw[show off+i=off+m*qK.size α+(i-vs.length) by omega]
   obtain⟨F,vs,l,hl,hr,Rq⟩:=Eg len<|Nat.le_refl _
   have hb:b<w.heap.size:=by
    have h1:0<vs.length:=by rw[reps_len hr,hl];exact Nat.mul_pos h0 hz
    exact World.block_lt_of_cell? w _<|Rq 0 _<|List.getElem?_eq_getElem h1
   subst hl
   exact⟨b::F,l,some ⟨b,off,none⟩,ib,rfl,⟨by omega,hlc⟩,Or.inr ⟨b,off,F,vs,rfl,rfl,hb,hr,Rq⟩⟩
theorem arg_slice{α:Type}[qK α]{H:Type}{enc:TypeId×Value->H}{Gu:Nat->Bool}{Rz:Bool}{b0:Nat}{d:DataW H}{p:List MemPlace}(hu:P.underlying t=some (.slice e))(hr:Reads P t (List α))
 (hv:Value.okWide P w .any b0 t v) (h:DataW.Trod enc P w 0 Gu Rz t v d p):∃(a:yOA) (c:Nat) (F:yLN) (l:List α),v=Sv a l.length c/\qK.rep w F [Sv a l.length c] l:=by
 obtain⟨a,m,c,rfl⟩:=okWide_slice hu hv
 obtain⟨fuel,hf⟩:=h
 obtain⟨F,l,hl⟩:=hr hf
 have Ka:(Value.slice a m c).cells.toList=[Sv a m c]:=rfl
 rw[Ka] at hl
 obtain⟨a',c',hc,hx⟩:=id hl
 simp only[List.cons.injEq,Value.slice.injEq,and_true] at hc
 obtain⟨rfl,rfl,rfl⟩:=hc
 exact⟨a,c,F,l,rfl,hl⟩
section
variable{H : Type}{enc : TypeId × Value -> H}{P : Program}
theorem trodAll_below(hl:laidOutB P=true){W W':World}(hb:Below W.heap.size W W'):
 ∀(ts:List TypeId) (vs:List Value) (ds:List (DataW H)) (ps:List MemPlace),(∀t∈ts,P.readableRec t=true/\t<P.types.size)→
  DataW.TrodAll enc P W 0 (fun _=>true) true ts vs ds ps->(∀x∈ps,x.block<W.heap.size)→
  DataW.TrodAll enc P W' 0 (fun b=>decide<|b<W.heap.size) true ts vs ds ps
 | [],vs,ds,ps,_,h,_=>by
  obtain⟨rfl,rfl,rfl⟩:=trodAll_nil h
  exact trodAll_mk0
 |t::ts,vs,ds,ps,hr,h,hp=>by
  obtain⟨v,vs',d,ds',p,q,rfl,rfl,rfl,h0,h1⟩:=trodAll_cons h
  have ht:=hr t<|List.mem_cons_self ..
  exact trodAll_cons_mk (Below.trod hl ht.1 ht.2 h0 hb<|fun x hx=>hp x<|List.mem_append_left _ hx)
   (trodAll_below hl hb ts vs' ds' q (fun t' ht'=>hr t'<|List.mem_cons_of_mem _ ht') h1<|fun x hx=>hp x<|List.mem_append_right _ hx)
theorem post_law{f:Func}{s:ChangeSpec}{W W':World}{args:Array Value}{tb:TypeId}{ds gs:List (DataW H)}{ui:List MemPlace}
 (hW:DataW.Whole enc P f.params.toList s.vars false W args.toList ds gs ui) (hv:s.vars=[])
 (hs:s.fn H (ds++[])={ results:=[.lit<|.bool true],args:=ds }) (hr:f.resultTypes=#[tb]) (hu:P.underlying tb=some .bool)
 (hl:laidOutB P=true) (hts:∀t∈f.params.toList,P.readableRec t=true/\t<P.types.size) (hb:Below W.heap.size W W'):
 s.post enc P f false true false false W args (Bv true) W':=by
 have hW':=hW
 obtain⟨p,q,hA,hV,rfl,hz,hn⟩:=hW
 rw[hv] at hV
 obtain⟨rfl,rfl⟩:=trodVars_none hV
 have oe:∀x∈p++[],x.block<W.heap.size:=fun x hx=>hW'.lt x hx
 refine⟨ds,[],p++[],[],p,[],hW',?_,?_,?_,World.keptBut_mono (fun x hx=>⟨hx,Or.inr<|Or.inl<|by simpa using hx⟩) (hb.frame (·∈p++[])),fun h=>by cases h⟩
 ·rw[hs,hr]
  simp only[Value.resultList]
  exact trodAll_mk1<|shut_bool hu true
 ·rw[hs]
  exact trodAll_below hl hb _ _ _ _ hts hA<|fun x hx=>oe x<|by simpa using hx
 ·rw[hv,hs]
  exact rfl
end
theorem reads_byte(hu:P.underlying t=some (.int .u8)):Reads P t UInt8:=fun h=>by
 obtain⟨n,rfl,_,hw⟩:=DataW.trod_int hu h
 have hb:0<=n/\n<=255:=by
  simp[Lit.wf,IntKind.min,IntKind.max,IntKind.signed,IntKind.bits] at hw
  omega
 refine⟨[],UInt8.ofNat n.toNat,rfl,?_⟩
 have e:(UInt8.ofNat n.toNat).toNat=n.toNat:=by
  simp
  omega
 rw[e,Int.toNat_of_nonneg hb.1]
end
end Go.Proofs.YtghikkinnchndaaGreat
