/- Walks and laws, printed by program and by hand: what each function comes to, for all arguments, part 7. -/
import Derived.Test.YtghikkinnchndaaGreatA6
import Derived.BigQuiet
namespace Go.Proofs.YtghikkinnchndaaGreat
open Go.Proofs.Tryz
set_option linter.unusedVariables false
set_option linter.unusedSimpArgs false
set_option maxRecDepth 100000
set_option maxHeartbeats 4000000
open Go.RowKit
open Go.Proofs.Tryz
open Go.Proofs.YtghikkinnchndaaGreat.Tot (tot)
open Go.Proofs.YtghikkinnchndaaGreat.Mark (dc mrk mkd mkd_mark cnt_mark)
variable{Gx Fl lY jM vV xN zN zZ:yLN}{Ns:List yLN}{W0 w:World}{uh al fu qM xC xK xm zB:yOA}{cl i j:Nat}{hi k lo n:Int}{l:yLI}{ps:List Prv}{Γ:List Fact}
section
variable{qL xh fa : Nat}
theorem owner_ok(s:qJ)(own:yLI)(ap:yOA)(cp:Nat)(Fp:yLN)(ar:yOA)(cr:Nat)(Fr:yLN)(ao:yOA)(co:Nat)(Fo:yLN)(bk:Nat)(dN:yOA)(dC:Nat)(bQ:Nat)(bS:yOA)(ix:Nat)(bo:Nat)(xv:Nat)(H:St W0 w ((.box bk [Sv dN dC bQ,Sv bS ix bo,yI s.qQ,Sv ap s.qA.length cp,Sv ar s.qB.length cr,Sv ao own.length co] 74)::ps) ((sF false Fp ap cp s.qA)::(sF false Fr ar cr s.qB)::(sF false Fo ao co own)::Γ))(N:Fresh W0.heap.size (Ns))(K0:Kept Ns Γ)(p0:xv<=own.length)(p1:own.length=s.qA.length)(p2:1<=s.qA.length):Calls Tryz.prog 140 #[pp bk 0,yI xv] w (fun e w'=>∃v,e=.returned v/\v=yI (vY own xv)/\Fresh W0.heap.size (Ns)/\St W0 w' ((.box bk [Sv dN dC bQ,Sv bS ix bo,yI s.qQ,Sv ap s.qA.length cp,Sv ar s.qB.length cr,Sv ao own.length co] 74)::ps) ((sF false Fp ap cp s.qA)::(sF false Fr ar cr s.qB)::(sF false Fo ao co own)::Γ)):=by
 refine en func140 ntmps140 ?_
 have aAj:=qN (H.get 0 J).1
 refine zcr<|sp (yI 0)<|zjcc<|sp (yI xv)<|sq 2<|oF J<|sw<|xW (yS s ap cp ar cr) isAgg27 sizeOf27 J (qH (H.cells 0 J) 2 3)<|sw<|oq (Xj _ s (H.get 0 J).1 (H.get 1 J).1) H fun w2 H=>sq 1<|zjn<|cE J (fun h4=>?_)<|fun h4=>?_
 ·refine zcr (sq 2<|oF J<|oL J (H.cell 0 J J) ?_)
  obtain⟨b5,o6,rfl⟩:=H.addr 2 rfl qf
  refine oI J J<|oL J (H.vM 2 J 0 qf)<|sq 1<|zjr<|t_r<|ret1 (yI<|own[0]!) J J ⟨_,J,?_⟩
  rw[ownAt_e qf]
  exact⟨J,N,H.xG 1 3 [0] [0,1,2] xE xE⟩
 refine xe<|t_n<|zcr<|sq 2<|oF J<|oL J (H.cell 0 J J)<|sp (yI xv) ?_
 obtain⟨b8,o9,rfl⟩:=H.addr 2 rfl qf
 refine oI J J<|oL J (H.vM 2 J xv qf)<|sq 1<|zjr<|ret1 (yI<|own[xv]!) J J ⟨_,J,?_⟩
 rw[ownAt_n qf]
 exact⟨J,N,H.xG 1 3 [0] [0,1,2] xE xE⟩
theorem work_ok(s:qJ)(own:yLI)(ap:yOA)(cp:Nat)(Fp:yLN)(ar:yOA)(cr:Nat)(Fr:yLN)(ao:yOA)(co:Nat)(Fo:yLN)(sv:List zI)(wi:List zC)(bk:Nat)(n:Nat)(dN:yOA)(dC:Nat)(bQ:Nat)(bB:List Value)(bq:yLN)(bS:yOA)(ix:Nat)(bo:Nat)(bu:List Value)(bg:yLN)(iv:Int)(H:St W0 w ((.box bk [Sv dN dC bQ,Sv bS ix bo,yI s.qQ,Sv ap s.qA.length cp,Sv ar s.qB.length cr,Sv ao own.length co] 74)::(rr dN dC bQ 49 16 bB)::(rr bS ix bo 77 4 bu)::ps) ((sF false Fp ap cp s.qA)::(sF false Fr ar cr s.qB)::(sF false Fo ao co own)::(qX true bq bB sv)::(qX true bg bu wi)::Γ))(N:Fresh W0.heap.size (bq::bg::Ns))(K0:Kept Ns Γ)(p0:Giv s own n)(p1:Vo s own n (⟨sv,wi⟩:zO))(p2:0<=iv/\iv<n)(OL:∀f∈(sF false Fp ap cp s.qA::sF false Fr ar cr s.qB::sF false Fo ao co own::Γ),∀b∈f.F,b<W0.heap.size):Calls Tryz.prog 96 #[pp bk 0,yI iv] w (fun e w'=>∃v,e=.returned v/\∃(qa:List Value) (pD:yLN) (rq:yOA) (pX:Nat) (pb:Nat) (pt:List Value) (pV:yLN),v=yI ((workM s own (⟨sv,wi⟩:zO) iv.toNat).2)/\Fresh W0.heap.size (pD::pV::Ns)/\St W0 w' ((.box bk [Sv dN dC bQ,Sv rq pX pb,yI s.qQ,Sv ap s.qA.length cp,Sv ar s.qB.length cr,Sv ao own.length co] 74)::(rr dN dC bQ 49 16 qa)::(rr rq pX pb 77 4 pt)::ps) ((sF false Fp ap cp s.qA)::(sF false Fr ar cr s.qB)::(sF false Fo ao co own)::(qX true pD qa ((workM s own (⟨sv,wi⟩:zO) iv.toNat).1.qE))::(qX true pV pt ((workM s own (⟨sv,wi⟩:zO) iv.toNat).1.vz))::Γ)):=by
 refine en func96 ntmps96 ?_
 have aPT:=qN (H.get 1 J).1
 have KE:=qN (H.get 2 J).1
 obtain rfl:=H.xf (α:=zI) 1 rfl 3 rfl qj
 obtain rfl:=H.xf (α:=zC) 2 rfl 4 rfl qj
 have g1:=p0.sys
 have g2:=p0.len
 have g3:=p0.own
 have g4:=p0.few
 have l1:sv.length=n:=p1.len
 subst l1
 have p5:=p0.sys.1
 have p6:own.length=s.qA.length:=p0.len
 have p7:=p0.sys.1.2.1
 refine zcr<|sp (yI 0)<|zjc<|sq 2<|oF J<|oF J<|oL J (H.cell 0 J J)<|sp (yI iv) ?_
 obtain⟨b1,rfl⟩:=H.jm 1 rfl qf
 refine oI J J<|oF J<|sq 1<|zjn<|xO<|xg<|zcr<|sq 2<|oF J ?_
 obtain⟨X0,XZ,lf,QB,QA,fE,Cg,BG,CK,nI,nK,nD,Bs,Bw,B7,t9,t6,uf,Aa,sb4,H⟩:=H.partS_DeskD zV 1 rfl 3 rfl rfl iv.toNat qf
 refine oL J (H.zD 1 J (Aa 3 _ J) qf)<|sq 1<|zjn<|vP _ J (fun h5=>?_)<|fun h5=>?_
 ·refine zcr (sp (yI 4)<|zjr<|b_r<|t_r<|ret1 (yI 4) J J ⟨_,J,?_⟩)
  rw[workR_4 ql]
  exact⟨bB,bq,bS,wi.length,bo,bu,bg,J,N,H.xG 3 11 [0,1,2] (zR 6 5) xE xE⟩
 refine zcr<|sq 2<|oF J<|oL J (H.zD 1 J (Aa 0 _ J) qf)<|sp (Bv ((sv[iv.toNat]!.qC.qK:Int) == 100))<|sp (Bv ((sv[iv.toNat]!.qC.qK:Int) == 100))<|zjn<|cE J (fun h6=>?_)<|fun h6=>?_
 ·refine zcr (sp (yI 3)<|zjr<|b_r<|t_r<|ret1 (yI 3) J J ⟨_,J,?_⟩)
  rw[workR_3 ql ql]
  exact⟨bB,bq,bS,wi.length,bo,bu,bg,J,N,H.xG 3 11 [0,1,2] (zR 6 5) xE xE⟩
 have y1:jk s own sv.length iv.toNat sv[iv.toNat]!.qC:=(p1.srv iv.toNat qf).1
 have v1:=view_ok p0 y1
 have c1:=XY p0.sys v1
 have c2:=c1.1
 have y10:=(y1.small p0).bags
 refine xe<|b_n<|t_n<|zcr<|sq 2<|oF J<|sw<|xW (yS s ap cp ar cr) isAgg27 sizeOf27 J (qH (H.cells 0 J) 2 3)<|sw<|x8 H ti27 [yI 0,yN,yN] fun b7 w8 H=>sw<|xZ H 0 (yS s ap cp ar cr) sizeOf27 fun w9 H=>?_
 dsimp only[List.set] at H
 refine zjn<|xO<|c_lateC 1 (fun ρ TC=>∃(xR:Env) (z4:yOA) (EW:Nat) (rB:Nat) (Ab:Nat),ρ=upd (upd (upd (upd (upd (upd xR 0<|pp bk 0) 1<|yI iv) 5<|pp b1<|0+(iv:Int).toNat*16+0) 6<|pp b7 0) 7<|pp rB 0) 55 (.agg #[Sv z4 ((jg [true] s.qA.length).length) EW,Sv X0 sv[iv.toNat]!.qC.qG.length XZ,Sv QB sv[iv.toNat]!.qC.qF.length QA])/\(bB[iv.toNat*16+1]? =some (Sv X0 sv[iv.toNat]!.qC.qG.length XZ))/\(bB[iv.toNat*16+2]? =some (Sv QB sv[iv.toNat]!.qC.qF.length QA))/\Fresh W0.heap.size (bq::bg::Ns)/\St W0 TC ((.box rB [yN,yN,yN] 31)::(rr z4 ((jg [true] s.qA.length).length) EW 4 1 ((jg [true] s.qA.length).map<|Value.bool))::(rr (aa Ab 0) 1 1 4 1 ([true].map<|Value.bool))::(.box b7 (yS s ap cp ar cr) 27)::(.box bk [Sv (aa b1 0) sv.length bQ,Sv bS wi.length bo,yI s.qQ,Sv ap s.qA.length cp,Sv ar s.qB.length cr,Sv ao own.length co] 74)::(rr (aa b1 0) sv.length bQ 49 16 bB)::(rr bS wi.length bo 77 4 bu)::ps) ((sF true lf X0 XZ sv[iv.toNat]!.qC.qG)::(sF true fE QB QA sv[iv.toNat]!.qC.qF)::(sF false Fp ap cp s.qA)::(sF false Fr ar cr s.qB)::(sF false Fo ao co own)::(qX true bq bB sv)::(qX true bg bu wi)::Γ)) J H [0,1,2,3] [0,1,2,3,4,5,6,7,8,9,10] (fun H=>?_) ?_
 ·dsimp only[yu,yU]
  refine Q3 (fun ρ NH=>∃(xR:Env) (GG:yOA) (Ld:Nat) (W4:Nat) (LV:Nat),ρ=upd (upd (upd (upd (upd (upd (upd (upd xR 0<|pp bk 0) 1<|yI iv) 5<|pp b1<|0+(iv:Int).toNat*16+0) 6<|pp b7 0) 7<|pp W4 0) 46<|Sv GG ((jg [true] s.qA.length).length) Ld) 50<|Sv X0 sv[iv.toNat]!.qC.qG.length XZ) 54 (Sv QB sv[iv.toNat]!.qC.qF.length QA)/\(bB[iv.toNat*16+1]? =some (Sv X0 sv[iv.toNat]!.qC.qG.length XZ))/\(bB[iv.toNat*16+2]? =some (Sv QB sv[iv.toNat]!.qC.qF.length QA))/\Fresh W0.heap.size (bq::bg::Ns)/\St W0 NH ((.box W4 [yN,yN,yN] 31)::(rr GG ((jg [true] s.qA.length).length) Ld 4 1 ((jg [true] s.qA.length).map<|Value.bool))::(rr (aa LV 0) 1 1 4 1 ([true].map<|Value.bool))::(.box b7 (yS s ap cp ar cr) 27)::(.box bk [Sv (aa b1 0) sv.length bQ,Sv bS wi.length bo,yI s.qQ,Sv ap s.qA.length cp,Sv ar s.qB.length cr,Sv ao own.length co] 74)::(rr (aa b1 0) sv.length bQ 49 16 bB)::(rr bS wi.length bo 77 4 bu)::ps) ((sF true lf X0 XZ sv[iv.toNat]!.qC.qG)::(sF true fE QB QA sv[iv.toNat]!.qC.qF)::(sF true CK Cg BG sv[iv.toNat]!.qC.jA)::(sF true nD nI nK sv[iv.toNat]!.qC.qU)::(sF true B7 Bs Bw sv[iv.toNat]!.qC.jH)::(sF true uf t9 t6 sv[iv.toNat]!.qC.zM)::(sF false Fp ap cp s.qA)::(sF false Fr ar cr s.qB)::(sF false Fo ao co own)::(qX true bq bB sv)::(qX true bg bu wi)::Γ)) 1 #[true,true,true,true,true,true,true,true,true,true,true,true,true,false,true] ?_ fun L20=>?_
  ·rintro ρ MJ ⟨xR,GG,Ld,W4,LV,rfl,aBG,aAU,N,H⟩
   refine ro 13 rfl<|vZ [Sv GG ((jg [true] s.qA.length).length) Ld,Sv X0 sv[iv.toNat]!.qC.qG.length XZ,Sv QB sv[iv.toNat]!.qC.qF.length QA] [(0,Sv GG ((jg [true] s.qA.length).length) Ld),(1,Sv X0 sv[iv.toNat]!.qC.qG.length XZ),(2,Sv QB sv[iv.toNat]!.qC.qF.length QA)]<|⟨H.pick (zR 3 4)<|zR 0 11,(xx qh ((meet ⟨_,GG,Ld,W4,LV,uE6,aBG,aAU,N,H.xG 7 11 (zR 0 7) (0::1::zR 6 5) xE xE⟩)))⟩
  refine Q3 (fun ρ LE=>∃(xR:Env) (Yo:Nat) (IC:Nat),ρ=upd (upd (upd (upd (upd (upd (upd (upd (upd xR 0<|pp bk 0) 1<|yI iv) 5<|pp b1<|0+(iv:Int).toNat*16+0) 6<|pp b7 0) 7<|pp IC 0) 42<|Sv (aa Yo 0) 1 1) 45<|yI s.qA.length) 50<|Sv X0 sv[iv.toNat]!.qC.qG.length XZ) 54 (Sv QB sv[iv.toNat]!.qC.qF.length QA)/\(bB[iv.toNat*16+1]? =some (Sv X0 sv[iv.toNat]!.qC.qG.length XZ))/\(bB[iv.toNat*16+2]? =some (Sv QB sv[iv.toNat]!.qC.qF.length QA))/\Fresh W0.heap.size (bq::bg::Ns)/\St W0 LE ((.box IC [yN,yN,yN] 31)::(.box Yo [Bv true] 4)::(.box b7 (yS s ap cp ar cr) 27)::(.box bk [Sv (aa b1 0) sv.length bQ,Sv bS wi.length bo,yI s.qQ,Sv ap s.qA.length cp,Sv ar s.qB.length cr,Sv ao own.length co] 74)::(rr (aa b1 0) sv.length bQ 49 16 bB)::(rr bS wi.length bo 77 4 bu)::ps) ((sF true lf X0 XZ sv[iv.toNat]!.qC.qG)::(sF true fE QB QA sv[iv.toNat]!.qC.qF)::(sF true CK Cg BG sv[iv.toNat]!.qC.jA)::(sF true nD nI nK sv[iv.toNat]!.qC.qU)::(sF true B7 Bs Bw sv[iv.toNat]!.qC.jH)::(sF true uf t9 t6 sv[iv.toNat]!.qC.zM)::(sF false Fp ap cp s.qA)::(sF false Fr ar cr s.qB)::(sF false Fo ao co own)::(qX true bq bB sv)::(qX true bg bu wi)::Γ)) 2 #[true,true,true,true,false,true,true,true,true,true,true,true,true,false,true] ?_ fun L27=>?_
  ·rintro ρ Iu ⟨xR,Yo,IC,rfl,GI,Ux,N,H⟩
   refine ro 4 J ?_
   replace H:=H.boxRowB 1 [true] 1
   dsimp only[List.set] at H
   obtain⟨G32,aiv,Mk⟩:=H.rowIsB 1 rfl
   refine oc (VF (by rw[←aiv])<|repeatB_ok _ [true] s.qA.length (aiv▸Mk) qg) ?_
   rintro _ JP ⟨TZ,aKg,mL,rfl,M,K⟩ _
   replace H:=H.merge K M
   dsimp only[List.cons_append,List.nil_append] at H
   obtain rfl:=H.Vt 0 rfl
   refine⟨H.pick (zR 3 4)<|zR 0 11,(yG L20 ⟨_,TZ,mL,IC,Yo,uE8,GI,Ux,N,H.xG 7 11 (1::0::zR 2 5) (zR 0 11) xE xE⟩)⟩
  have S:=H.ve (zR 0 4)<|zR 0 11
  refine tF 1 J J S ?_
  refine tL 2 J J (fun _ h=>h.cell 0 J J) S ?_
  refine tN 3 J J S ?_
  refine rtl 5 S ?_
  refine rtl 6 S ?_
  refine tF 7 J J S ?_
  refine rt 8 _ (jZ (off:=0+(iv:Int).toNat*16+0+1) isAgg29 J<|fun _ h=>(h.zD 2 J (Aa 1 _ J) qf)) S ?_
  refine rtl 9 S ?_
  refine rtl 10 S ?_
  refine tF 11 J J S ?_
  refine rt 12 _ (jZ (off:=0+(iv:Int).toNat*16+0+2) isAgg24 J<|fun _ h=>(h.zD 2 J (Aa 2 _ J) qf)) S ?_
  refine jw [0,14] qh qm<|yl J ?_<|yl J ?_ jy
  ·refine zH H underlying28 ti4 [Bv true] fun GN Ul H=>⟨H.pick (zR 1 4)<|zR 0 11,(jw [4,14] qh qm<|yl J ?_<|yl J ?_ jy)⟩
   ·replace H:=H.boxRowB 0 [true] 1
    dsimp only[List.set] at H
    obtain⟨G43,adR,BC⟩:=H.rowIsB 0 rfl
    refine oc (VF (by rw[←adR])<|repeatB_ok _ [true] s.qA.length (adR▸BC) qg) ?_
    rintro _ w47 ⟨Sk,aPn,Un,rfl,M,K⟩ _
    replace H:=H.merge K M
    dsimp only[List.cons_append,List.nil_append] at H
    obtain rfl:=H.Vt 0 rfl
    refine⟨H.pick (zR 2 4)<|zR 0 11,(jw [13,14] qh qm<|yl J ?_<|yl J ?_ jy)⟩
    ·refine vZ [Sv Sk ((jg [true] s.qA.length).length) Un,Sv X0 sv[iv.toNat]!.qC.qG.length XZ,Sv QB sv[iv.toNat]!.qC.qF.length QA] [(0,Sv Sk ((jg [true] s.qA.length).length) Un),(1,Sv X0 sv[iv.toNat]!.qC.qG.length XZ),(2,Sv QB sv[iv.toNat]!.qC.qF.length QA)] (⟨H.pick (zR 2 4)<|zR 0 11,(ro 14 J<|x8 H ti31 [yN,yN,yN] fun Rq w53 H=>⟨H.pick (zR 3 4)<|zR 0 11,(xx qh<|?_)⟩)⟩)
     exact meet ⟨_,Sk,Un,Rq,GN,uE6,(Aa 1 _ J),(Aa 2 _ J),N,H.xG 7 11 (zR 0 7) (0::1::zR 6 5) xE xE⟩
    refine x8 H ti31 [yN,yN,yN] fun WC w55 H=>⟨H.pick (zR 3 4)<|zR 0 11,(yG L20 ⟨_,Sk,Un,WC,GN,uE8,(Aa 1 _ J),(Aa 2 _ J),N,H⟩)⟩
   refine x8 H ti31 [yN,yN,yN] fun b56 w57 H=>⟨H.pick (zR 2 4)<|zR 0 11,(yG L27 ⟨_,GN,b56,uE9,(Aa 1 _ J),(Aa 2 _ J),N,H⟩)⟩
  refine x8 H ti31 [yN,yN,yN] fun b58 w59 H=>⟨H.pick (zR 1 4)<|zR 0 11,(ro 0 J<|zH H underlying28 ti4 [Bv true] fun b60 w61 H=>⟨H.pick (zR 2 4)<|zR 0 11,(yG L27 ⟨_,b60,b58,uE9,(Aa 1 _ J),(Aa 2 _ J),N,H.xG 6 11 [1,0,2,3,4,5] (zR 0 11) xE xE⟩)⟩)⟩
 clear H N
 rintro ρ w62 ⟨xR,z4,EW,rB,Ab,rfl,ahi,aI7,N,H⟩
 refine sw<|xZ H 0 [Sv z4 ((jg [true] s.qA.length).length) EW,Sv X0 sv[iv.toNat]!.qC.qG.length XZ,Sv QB sv[iv.toNat]!.qC.qF.length QA] sizeOf31 fun w65 H=>?_
 dsimp only[List.set] at H
 refine zjc<|sw<|xW (yS s ap cp ar cr) isAgg27 sizeOf27 J (qH (H.cells 3 J) 0 3)<|sw<|xW [Sv z4 ((jg [true] s.qA.length).length) EW,Sv X0 sv[iv.toNat]!.qC.qG.length XZ,Sv QB sv[iv.toNat]!.qC.qF.length QA] isAgg31 sizeOf31 J (qH (H.cells 0 J) 0 3) ?_
 obtain⟨G66,aMV,h68⟩:=H.rowIsB 1 rfl
 refine sw<|oc (firstChoice_ok _ s (⟨jg [true] s.qA.length,sv[iv.toNat]!.qC.qG,sv[iv.toNat]!.qC.qF⟩:qV) (H.get 2 J).1 (H.get 3 J).1 h68 (H.get 0 J).1 (H.get 1 J).1 qg qg) ?_
 rintro _ w70 ⟨Uf,aJa,Ta,rfl,M,K⟩ _
 replace H:=H.merge K M
 dsimp only[List.cons_append,List.nil_append] at H
 obtain rfl:=H.yt 0 rfl
 refine sq 1<|zjc<|sq 2<|oF J ?_
 obtain⟨aiT,apZ,ajQ,abo,acq,aeo,avC,avp,auS,abU,aa7,acW,atO,au1,avR,apK,aku,alG,awI,aL2,H⟩:=H.partS_DeskD zV 6 rfl 5 rfl rfl iv.toNat qf
 refine oL J (H.zD 6 J (awI 1 _ J) qf)<|sw<|oc (XJ _ sv[iv.toNat]!.qC.qG (H.get 0 J).1 qg) ?_
 rintro _ w79 ⟨KF,aQA,J5,Sn,z0,rfl,M,K⟩ _
 obtain⟨N,H⟩:=H.both K M N [11,12] 13 K0
 obtain rfl:=H.xf (α:=yLI) 0 rfl 0 rfl qj
 refine sq 1<|zjc<|sw<|jS H underlying45 ti29 fun b84 w85 H=>sq 1<|zjcc<|sq 2<|oF J<|oF J<|oL J (H.cell 7 J J)<|oN J<|sp (yI 0)<|zjn<|xg ?_
 replace H:=H.boxRow 0 J 1 0 J qj
 dsimp only[List.set] at H
 replace H:=H.yF (α:=yLL)
 refine vk ((fun Z0 Z1 Z2 Z3 Z4 Z5 Z6 Z7 Z8 Z9 dU eC fe fR gB ij nc=>fun m' ρ w86=>∃(xR:Env) (eR:yOA) (Xe:Nat) (XL:Nat) (now:List yLL) (pz:List Value) (mi:yLN) (k:Nat),ρ=upd (upd (upd (upd (upd (upd (upd (upd (upd (upd xR 0<|pp bk 0) 1<|yI iv) 5<|pp b1<|0+(iv:Int).toNat*16+0) 6<|pp b7 0) 7<|pp rB 0) 8<|Sv Uf ((xq s (⟨jg [true] s.qA.length,sv[iv.toNat]!.qC.qG,sv[iv.toNat]!.qC.qF⟩:qV)).length) Ta) 9<|Sv KF sv[iv.toNat]!.qC.qG.length J5) 10<|Sv eR Xe XL) 70<|yI sv.length) 71 (yI k)/\now=List.replicate k (jG s<|s.qA.length+1)/\((k:Int)<=sv.length)/\m'=(sv.length-(k:Int)).toNat/\Fresh W0.heap.size (z0::bq::bg::mi::Ns)/\St W0 w86 ((rr eR Xe XL 29 1 pz)::Z0::Z1::Z2::Z3::Z4::Z5::Z6::Z7::Z8::ps) ((qX true mi pz now)::Z9::dU::eC::fe::fR::gB::ij::nc::Γ)) _ _ _ _ _ _ _ _ _ _ _ _ _ _ _ _ _) ((sv.length-(0:Int)).toNat) ⟨_,(aa b84 0),0,0,([]:List yLL),[],[],0,uE10,(by rfl),qf,J,(N.emp.xG 4 [1,2,3,0] xE),H.xG 10 15 (zR 0 10) (0::1::zR 8 7) xE xE⟩ ?_
 clear H N
 rintro m' ρ w87 ⟨xR,eR,Xe,XL,now,pz,mi,k,rfl,rfl,i0,rfl,N,H⟩
 have uT:=H.xf (α:=yLL) 0 J 0 J qj
 have zl:(List.replicate k<|jG s<|s.qA.length+1).length=k:=List.length_replicate
 refine zcr<|sq 1<|zjn<|xO<|cD J (fun h88=>?_)<|fun h88=>?_
 ·refine xe (t_n<|xO<|xg<|zf<|sq 1<|sw<|xW (yS s ap cp ar cr) isAgg27 sizeOf27 J (qH (H.cells 6 J) 0 3)<|sw<|oc (noBags_ok _ s (H.get 4 J).1 (H.get 5 J).1 qg) ?_)
  rintro _ ZH ⟨awJ,aLs,aAN,aLM,aPg,rfl,M,K⟩ _
  obtain⟨N,H⟩:=H.both K M N [1,7,8,0] 9 K0
  obtain rfl:=H.xf (α:=yLI) 0 rfl 0 rfl qj
  refine sw<|zH H underlying45 ti29 [Sv awJ ((jG s<|s.qA.length+1).length) aAN] fun b95 w96 H=>?_
  have H0:=H
  obtain⟨ak9,ZU,aGU,H⟩:=H.ji (α:=yLI) 1 rfl 0 rfl qj
  replace N:Fresh W0.heap.size (ak9::z0::bq::bg::mi::Ns):=Fresh.ice N H0 1 ZU.1 ZU.2<|H0.awB [2,8,9,1] 10 K0
  clear H0
  dsimp only[List.set] at H
  refine sw<|zQ H 2 J 0 J underlying45 ti29 J qj J J J qw qp qf fun a97 c98 w99 H=>?_
  dsimp only[List.set] at H
  replace H:=H.QK 2 J 0 J
  replace N:=(N.Xr 5 [4,0,1,2,3]).join
  refine sq 1<|xX<|b_n<|t_n<|zf<|sw<|zY k 1 J J qf<|sq 1<|xX<|xu (m':=(sv.length-((k+1):Int)).toNat) qf ⟨_,_,_,_,_,_,_,k+1,uE10,?_,?_,J,(N.xG 4 [1,2,3,0] xE),H.xG 12 12 (zR 2 10) (0::zR 4 8) xE xE⟩
  ·exact(List.replicate_succ' ..).symm
  ·omega
 refine zx4<|zcc<|sq 2<|oF J<|oL J (H.cell 7 J J)<|oN J<|sp (yI 0)<|zjn<|xg<|vk ((fun Z0 Z1 Z2 Z3 Z4 Z5 Z6 Z7 Z8 Z9 dU eC fe fR gB ij nc=>fun m' ρ KP=>∃(xR:Env) (c:Nat) (dB:List yLL) (gM:List Value) (eS:yLN),ρ=upd (upd (upd (upd (upd (upd (upd (upd (upd (upd (upd xR 0<|pp bk 0) 1<|yI iv) 5<|pp b1<|0+(iv:Int).toNat*16+0) 6<|pp b7 0) 7<|pp rB 0) 8<|Sv Uf ((xq s (⟨jg [true] s.qA.length,sv[iv.toNat]!.qC.qG,sv[iv.toNat]!.qC.qF⟩:qV)).length) Ta) 9<|Sv KF sv[iv.toNat]!.qC.qG.length J5) 10<|Sv eR Xe XL) 82<|Sv ao own.length co) 83<|yI own.length) 84 (yI c)/\((c:Int)<=own.length)/\(dB=Vl s (⟨jg [true] s.qA.length,sv[iv.toNat]!.qC.qG,sv[iv.toNat]!.qC.qF⟩:qV) own iv sv.length c)/\m'=(own.length-(c:Int)).toNat/\Fresh W0.heap.size (z0::bq::bg::eS::Ns)/\St W0 KP ((rr eR Xe XL 29 1 gM)::Z0::Z1::Z2::Z3::Z4::Z5::Z6::Z7::Z8::ps) ((qX true eS gM dB)::Z9::dU::eC::fe::fR::gB::ij::nc::Γ)) _ _ _ _ _ _ _ _ _ _ _ _ _ _ _ _ _) ((own.length-(0:Int)).toNat) ⟨_,0,(List.replicate k<|jG s<|s.qA.length+1),pz,mi,uE11,qf,(by exact rep_zero qf),J,N,H⟩ ?_
 clear H N
 rintro m' ρ Rd ⟨xR,c,dB,gM,eS,rfl,i0,i2,rfl,N,H⟩
 have uT:=H.xf (α:=yLL) 0 J 0 J qj
 refine zcr<|sq 1<|zjn<|xO<|cD J (fun ac1=>?_)<|fun ac1=>?_
 ·refine xe (t_n<|xO<|xg<|zcr<|sp (yI c) ?_)
  obtain⟨NY,aei,rfl⟩:=H.addr 6 rfl qf
  refine oI J J<|oL J (H.vM 6 J c qf)<|sp (yI c)<|sq 1<|zjcc<|sq 1<|sp (yI iv)<|sq 1<|zjn<|vP _ J (fun Ft=>?_)<|fun Ft=>?_
  ·replace Ft:=bne_iff_ne.1 Ft
   refine c_exit<|t_x<|b_x<|t_n<|zf<|sw<|zY c 1 J J qf<|sq 1<|xX<|xu (m':=(own.length-((c+1):Int)).toNat) qf ⟨_,c+1,_,_,_,uE11,?_,?_,J,N,H⟩
   ·omega
   ·exact i2.trans (nowTo_no ‹_›).symm
  replace Ft:=zo Ft
  have pl:=puts_len p0 v1 c
  refine xe<|t_n<|zcr<|sw<|xW (yS s ap cp ar cr) isAgg27 sizeOf27 J (qH (H.cells 6 J) 0 3)<|sw<|xW [Sv z4 ((jg [true] s.qA.length).length) EW,Sv X0 sv[iv.toNat]!.qC.qG.length XZ,Sv QB sv[iv.toNat]!.qC.qF.length QA] isAgg31 sizeOf31 J (qH (H.cells 3 J) 0 3)<|sq 1<|sp (yI c) ?_
  obtain⟨aQK,aGe,axU⟩:=H.rowIsB 4 rfl
  obtain⟨aCU,alk,adN⟩:=H.Xv 2 rfl
  refine sw<|oc (puts_ok _ s (⟨jg [true] s.qA.length,sv[iv.toNat]!.qC.qG,sv[iv.toNat]!.qC.qF⟩:qV) (xq s (⟨jg [true] s.qA.length,sv[iv.toNat]!.qC.qG,sv[iv.toNat]!.qC.qF⟩:qV)) c (H.get 4 J).1 (H.get 5 J).1 axU (H.get 2 J).1 (H.get 3 J).1 adN qg qg qg) ?_
  rintro _ ac0 ⟨PJ,amZ,Ps,MK,x5,rfl,M,K⟩ _
  obtain⟨N,H⟩:=H.both K M N [1,7,8,0] 9 K0
  obtain rfl:=H.xf (α:=yLI) 0 rfl 0 rfl qj
  refine oN J<|sp (yI 0)<|zjn<|xg<|vk ((fun Z0 Z1 Z2 Z3 Z4 Z5 Z6 Z7 Z8 Z9 dU eC fe fR gB ij nc pN rN=>fun m' ρ PG=>∃(xR:Env) (bv:Nat) (av:List yLL) (yQ:List Value) (yx:yLN),ρ=upd (upd (upd (upd (upd (upd (upd (upd (upd (upd (upd (upd (upd (upd xR 0<|pp bk 0) 1<|yI iv) 5<|pp b1<|0+(iv:Int).toNat*16+0) 6<|pp b7 0) 7<|pp rB 0) 8<|Sv Uf ((xq s (⟨jg [true] s.qA.length,sv[iv.toNat]!.qC.qG,sv[iv.toNat]!.qC.qF⟩:qV)).length) Ta) 9<|Sv KF sv[iv.toNat]!.qC.qG.length J5) 10<|Sv eR Xe XL) 82<|Sv (aa NY aei) own.length co) 83<|yI own.length) 84<|yI c) 96<|Sv PJ ((jX s (⟨jg [true] s.qA.length,sv[iv.toNat]!.qC.qG,sv[iv.toNat]!.qC.qF⟩:qV) (xq s (⟨jg [true] s.qA.length,sv[iv.toNat]!.qC.qG,sv[iv.toNat]!.qC.qF⟩:qV)) c).length) Ps) 97<|yI ((jX s (⟨jg [true] s.qA.length,sv[iv.toNat]!.qC.qG,sv[iv.toNat]!.qC.qF⟩:qV) (xq s (⟨jg [true] s.qA.length,sv[iv.toNat]!.qC.qG,sv[iv.toNat]!.qC.qF⟩:qV)) c).length)) 98 (yI bv)/\((bv:Int)<=((jX s (⟨jg [true] s.qA.length,sv[iv.toNat]!.qC.qG,sv[iv.toNat]!.qC.qF⟩:qV) (xq s (⟨jg [true] s.qA.length,sv[iv.toNat]!.qC.qG,sv[iv.toNat]!.qC.qF⟩:qV)) c).length))/\(av=addTo own (jX s (⟨jg [true] s.qA.length,sv[iv.toNat]!.qC.qG,sv[iv.toNat]!.qC.qF⟩:qV) (xq s (⟨jg [true] s.qA.length,sv[iv.toNat]!.qC.qG,sv[iv.toNat]!.qC.qF⟩:qV)) c) (Vl s (⟨jg [true] s.qA.length,sv[iv.toNat]!.qC.qG,sv[iv.toNat]!.qC.qF⟩:qV) own iv sv.length c) bv)/\m'=(((jX s (⟨jg [true] s.qA.length,sv[iv.toNat]!.qC.qG,sv[iv.toNat]!.qC.qF⟩:qV) (xq s (⟨jg [true] s.qA.length,sv[iv.toNat]!.qC.qG,sv[iv.toNat]!.qC.qF⟩:qV)) c).length)-(bv:Int)).toNat/\Fresh W0.heap.size (x5::z0::bq::bg::yx::Ns)/\St W0 PG (Z0::(rr eR Xe XL 29 1 yQ)::Z1::Z2::Z3::Z4::Z5::Z6::Z7::Z8::Z9::ps) (dU::(qX true yx yQ av)::eC::fe::fR::gB::ij::nc::pN::rN::Γ)) _ _ _ _ _ _ _ _ _ _ _ _ _ _ _ _ _ _ _) ((((jX s (⟨jg [true] s.qA.length,sv[iv.toNat]!.qC.qG,sv[iv.toNat]!.qC.qF⟩:qV) (xq s (⟨jg [true] s.qA.length,sv[iv.toNat]!.qC.qG,sv[iv.toNat]!.qC.qF⟩:qV)) c).length)-(0:Int)).toNat) ⟨_,0,dB,gM,eS,uE14,qf,(by exact i2),J,N,H⟩ ?_
  clear H N
  rintro m' ρ M5 ⟨xR,bv,av,yQ,yx,rfl,i0,i3,rfl,N,H⟩
  have uT:=H.xf (α:=yLL) 1 J 1 J qj
  refine zcr<|sq 1<|zjn<|xO<|cD J (fun JJ=>?_)<|fun JJ=>?_
  ·have o1:=p0.own.at (p:=bv) qf
   refine xe<|t_n<|xO<|xg<|zcr<|sq 1 ?_
   obtain⟨aKk,rfl⟩:=H.jm 0 rfl qf
   refine oI J J ?_
   obtain⟨aDV,avV,aCE,al9,H⟩:=H.yE 0 rfl 0 rfl (iv:=bv) bv qf qf
   refine oL J ((H.zD 0 J al9 qf))<|sq 2<|zjc<|sq 3 ?_
   have H1:=H.yD 11 11 [8,0,1,2,3,4,5,6,7,9,10] [6,7,8,0,1,2,3,4,5,9,10] xE xE
   have N1:Fresh _ (x5::z0::bq::bg::yx::Ns):=N
   have K1:Kept (Ns) ((sF true aCE aDV avV ((jX s (⟨jg [true] s.qA.length,sv[iv.toNat]!.qC.qG,sv[iv.toNat]!.qC.qF⟩:qV) (xq s (⟨jg [true] s.qA.length,sv[iv.toNat]!.qC.qG,sv[iv.toNat]!.qC.qF⟩:qV)) c)[bv]!))::(qX true x5 MK<|jX s (⟨jg [true] s.qA.length,sv[iv.toNat]!.qC.qG,sv[iv.toNat]!.qC.qF⟩:qV) (xq s (⟨jg [true] s.qA.length,sv[iv.toNat]!.qC.qG,sv[iv.toNat]!.qC.qF⟩:qV)) c)::(qX true yx yQ av)::(qX true z0 Sn sv[iv.toNat]!.qC.qG)::(sF true lf X0 XZ sv[iv.toNat]!.qC.qG)::(sF true fE QB QA sv[iv.toNat]!.qC.qF)::(qX true bq bB sv)::(qX true bg bu wi)::Γ):=K0.behind 8 J
   replace K1:=K1.cons (F:=yx) 2 J J
   replace K1:=K1.cons (F:=bg) 7 J J
   replace K1:=K1.cons (F:=bq) 6 J J
   replace K1:=K1.cons (F:=z0) 3 J J
   replace K1:=K1.cons (F:=x5) 1 J J
   refine sw<|zT #[pp bk 0,yI bv] J J call140 (owner_ok s own ap cp Fp ar cr Fr (aa NY aei) co Fo bk (aa b1 0) sv.length bQ bS wi.length bo bv H1 N1 K1 qg qg qg) ?_
   clear H H1 N1 K1
   rintro _ abM ⟨rfl,N,H⟩
   obtain⟨n1,n2,n3,n4,n5⟩:=now_pre p0 v1 (c:=c) (bv:=bv) qf qf (j:=(vY own bv).toNat) qf i3
   obtain⟨acI,rfl⟩:=H.jm 2 rfl qf
   refine oI J J ?_
   obtain⟨ah6,alo,aQM,Wx,H⟩:=H.yE 2 rfl 5 rfl (iv:=vY own bv) ((vY own bv:Int).toNat) qf qf
   refine oL J ((H.zD 2 J Wx qf))<|sq 1<|zjn<|zf<|sq 4 ?_
   obtain⟨aPw,aKe,rfl⟩:=H.addr 0 rfl qf
   obtain⟨aEV,aEr,aFz,H⟩:=H.yg 0 rfl bv bv qf qf qf
   refine oI J J<|oL J (H.zU 1 J 0 J)<|sq 1<|sw<|oc (Vy _ ((av[(vY own bv:Int).toNat]!)[bv]!) ((jX s (⟨jg [true] s.qA.length,sv[iv.toNat]!.qC.qG,sv[iv.toNat]!.qC.qF⟩:qV) (xq s (⟨jg [true] s.qA.length,sv[iv.toNat]!.qC.qG,sv[iv.toNat]!.qC.qF⟩:qV)) c)[bv]!) 1 (H.get 0 J).1 (H.get 6 J).1 qg qg qg) ?_
   rintro v146 acn ayW aBK
   replace H:=H.zy aBK ayW
   obtain⟨ayG,av2,rfl,aE5,aHe⟩:=H.jB 0 rfl
   refine oI J J ?_
   obtain⟨aqG,N,aFa,H⟩:=H.vJ 0 rfl N<|H.awB [7,9,12,13,8] 14 K0
   dsimp only[List.set] at H
   have N0:Fresh W0.heap.size (yx::aqG::x5::z0::bq::bg::Ns):=(N.xG 6 (5::zR 0 5) xE)
   obtain⟨aFv,ati⟩:∃z,z=(av.set ((vY own bv:Int).toNat) ((av[(vY own bv:Int).toNat]!).set bv (vX ((av[(vY own bv:Int).toNat]!)[bv]!) ((jX s (⟨jg [true] s.qA.length,sv[iv.toNat]!.qC.qG,sv[iv.toNat]!.qC.qF⟩:qV) (xq s (⟨jg [true] s.qA.length,sv[iv.toNat]!.qC.qG,sv[iv.toNat]!.qC.qF⟩:qV)) c)[bv]!) 1))):=⟨_,rfl⟩
   refine sw<|o_pokePart QI.refl H 9 J 0 J N0 ((sF true aqG ayG av2<|vX ((av[(vY own bv:Int).toNat]!)[bv]!) ((jX s (⟨jg [true] s.qA.length,sv[iv.toNat]!.qC.qG,sv[iv.toNat]!.qC.qF⟩:qV) (xq s (⟨jg [true] s.qA.length,sv[iv.toNat]!.qC.qG,sv[iv.toNat]!.qC.qF⟩:qV)) c)[bv]!) 1)::(sF false Fp ap cp s.qA)::(sF false Fr ar cr s.qB)::(sF false Fo (aa NY aei) co own)::(qX true x5 MK<|jX s (⟨jg [true] s.qA.length,sv[iv.toNat]!.qC.qG,sv[iv.toNat]!.qC.qF⟩:qV) (xq s (⟨jg [true] s.qA.length,sv[iv.toNat]!.qC.qG,sv[iv.toNat]!.qC.qF⟩:qV)) c)::(qX true z0 Sn sv[iv.toNat]!.qC.qG)::(sF true lf X0 XZ sv[iv.toNat]!.qC.qG)::(sF true fE QB QA sv[iv.toNat]!.qC.qF)::(qX true bq bB sv)::(qX true bg bu wi)::Γ) (jf (kept 0 J<|Xn N0 0 J)<|jf (kept 4 J<|X6 OL 0 J N0)<|jf (kept 5 J<|X6 OL 1 J N0)<|jf (kept 6 J<|X6 OL 2 J N0)<|jf (kept 8 J<|Xn N0 1 J)<|jf (kept 10 J<|Xn N0 2 J)<|jf (kept 11 J<|away_part sb4 0 J<|Xn N0 3 J)<|jf (kept 12 J<|away_part sb4 1 J<|Xn N0 3 J)<|jf (kept 13 J<|Xn N0 3 J)<|jf (kept 14 J<|Xn N0 4 J)<|keeps_old 15 J OL 3 J N0) ((vY own bv:Int).toNat) qf J Wx bv qf J sizeOf24 J qf J ati fun acN aPo N H=>(xX<|b_n<|t_n<|zf<|sw<|zY bv 1 J J qf<|sq 1<|xX<|xu (m':=(((jX s (⟨jg [true] s.qA.length,sv[iv.toNat]!.qC.qG,sv[iv.toNat]!.qC.qF⟩:qV) (xq s (⟨jg [true] s.qA.length,sv[iv.toNat]!.qC.qG,sv[iv.toNat]!.qC.qF⟩:qV)) c).length)-((bv+1):Int)).toNat) qf ⟨_,bv+1,_,_,_,uE14,?_,?_,J,(N.xG 5 [1,2,3,4,0] xE),H.xG 12 11 [2,3,4,5,6,7,8,9,1,10,11] [5,0,6,7,8,2,3,4,9,10] xE xE⟩)
   ·omega
   ·exact add_step i3 J ql
  have e3:bv=s.qA.length+1:=by omega
  refine c_exit<|t_x<|t_x<|b_x<|b_n<|t_n<|zf<|sw<|zY c 1 J J qf<|sq 1<|xX<|xu (m':=(own.length-((c+1):Int)).toNat) qf ⟨_,c+1,_,_,_,uE11,?_,?_,J,(N.xG 5 (zR 1 4) xE),H.xG 11 10 (zR 1 10) (zR 1 9) xE xE⟩
  ·omega
  ·exact now_end i3 e3 ‹_›
 have e2:c=s.qA.length:=by omega
 obtain⟨n6,n7⟩:=now_ok p0 v1 qf (j:=iv.toNat) qf i2
 refine zx4<|zcc<|sq 1<|oN J<|sp (yI 0)<|zjn<|xg<|vk ((fun Z0 Z1 Z2 Z3 Z4 Z5 Z6 Z7 Z8 Z9 dU eC fe fR gB ij nc=>fun m' ρ RT=>∃(xR:Env) (fq:Nat) (bags:yLL) (dQ:List Value) (eK:yLN),ρ=upd (upd (upd (upd (upd (upd (upd (upd (upd xR 0<|pp bk 0) 1<|yI iv) 5<|pp b1<|0+(iv:Int).toNat*16+0) 6<|pp b7 0) 9<|Sv KF sv[iv.toNat]!.qC.qG.length J5) 10<|Sv eR Xe XL) 120<|Sv Uf ((xq s (⟨jg [true] s.qA.length,sv[iv.toNat]!.qC.qG,sv[iv.toNat]!.qC.qF⟩:qV)).length) Ta) 121<|yI ((xq s (⟨jg [true] s.qA.length,sv[iv.toNat]!.qC.qG,sv[iv.toNat]!.qC.qF⟩:qV)).length)) 122 (yI fq)/\bags=restR s (⟨jg [true] s.qA.length,sv[iv.toNat]!.qC.qG,sv[iv.toNat]!.qC.qF⟩:qV) (xq s (⟨jg [true] s.qA.length,sv[iv.toNat]!.qC.qG,sv[iv.toNat]!.qC.qF⟩:qV)) fq/\((fq:Int)<=((xq s (⟨jg [true] s.qA.length,sv[iv.toNat]!.qC.qG,sv[iv.toNat]!.qC.qF⟩:qV)).length))/\m'=(((xq s (⟨jg [true] s.qA.length,sv[iv.toNat]!.qC.qG,sv[iv.toNat]!.qC.qF⟩:qV)).length)-(fq:Int)).toNat/\Fresh W0.heap.size (bq::bg::eS::eK::Ns)/\St W0 RT (Z0::(rr KF sv[iv.toNat]!.qC.qG.length J5 24 1 dQ)::Z1::Z2::Z3::Z4::Z5::Z6::Z7::Z8::ps) (Z9::(qX true eK dQ bags)::dU::eC::fe::fR::gB::ij::nc::Γ)) _ _ _ _ _ _ _ _ _ _ _ _ _ _ _ _ _) ((((xq s (⟨jg [true] s.qA.length,sv[iv.toNat]!.qC.qG,sv[iv.toNat]!.qC.qF⟩:qV)).length)-(0:Int)).toNat) ⟨_,0,sv[iv.toNat]!.qC.qG,Sn,z0,uE9,(by rfl),qf,J,(N.xG 4 [1,2,3,0] xE),H⟩ ?_
 clear H N
 rintro m' ρ aQC ⟨xR,fq,bags,dQ,eK,rfl,rfl,i0,rfl,N,H⟩
 have Sp:=H.xf (α:=yLI) 1 J 1 J qj
 have rl:(restR s (⟨jg [true] s.qA.length,sv[iv.toNat]!.qC.qG,sv[iv.toNat]!.qC.qF⟩:qV) (xq s (⟨jg [true] s.qA.length,sv[iv.toNat]!.qC.qG,sv[iv.toNat]!.qC.qF⟩:qV)) fq).length=s.qA.length:=(restR_len fq).trans y1.Vr
 refine zcr<|sq 1<|zjn<|xO<|cD J (fun KQ=>?_)<|fun KQ=>?_
 ·have q:=p0.sys.rule (i:=fq) qf
  have qc:=q.1
  have qk:=q.cell
  have b1:=q.2.2.2.2.1
  have p10:=c1.bd (i:=fq) qf
  obtain⟨u1,u2⟩:=restR_row (c:=s.qB[fq]!.qW.toNat) p0.sys v1 c1 (show fq<=_ by omega) qk
  have u3:=b1.len
  have u4:=b1.jT (t:= -((xq s (⟨jg [true] s.qA.length,sv[iv.toNat]!.qC.qG,sv[iv.toNat]!.qC.qF⟩:qV))[fq]!)) qf
  refine xe<|t_n<|xO<|xg<|zcr<|sq 1 ?_
  obtain⟨m4,rfl⟩:=H.jm 2 rfl qf
  refine oI J J<|oL J (H.Vx 2 J (iv:=fq) (i:=fq) qf qf)<|sq 2<|zjc<|oF J<|oL J (H.cell 6 J J)<|sq 1 ?_
  obtain⟨ary,aK8,rfl⟩:=H.addr 5 rfl qf
  obtain⟨Am,AG,agv,AO,At,aeY,AA,A6,aeV,A8,AU,agn,Et,Dw,aoE,Ar,AY,agc,H⟩:=H.Xd 5 rfl fq fq qf qf qf
  refine oI J J<|sw<|xW [yI s.qB[fq]!.qW,yI s.qB[fq]!.yH,Sv Am s.qB[fq]!.vg.length AG,Sv AO s.qB[fq]!.jI.length At,Sv AA s.qB[fq]!.jK.length A6,Sv A8 s.qB[fq]!.jq.length AU,Sv Et s.qB[fq]!.Qz.length Dw,Sv Ar s.qB[fq]!.xn.length AY,Bv s.qB[fq]!.je] isAgg110 sizeOf110 J (qH (H.get 6 J) 0 9)<|sw<|x8 H ti110 [yI 0,yI 0,yN,yN,yN,yN,yN,yN,Bv false] fun aml apV H=>(sw<|xZ H 0 [yI s.qB[fq]!.qW,yI s.qB[fq]!.yH,Sv Am s.qB[fq]!.vg.length AG,Sv AO s.qB[fq]!.jI.length At,Sv AA s.qB[fq]!.jK.length A6,Sv A8 s.qB[fq]!.jq.length AU,Sv Et s.qB[fq]!.Qz.length Dw,Sv Ar s.qB[fq]!.xn.length AY,Bv s.qB[fq]!.je] sizeOf110 fun aBZ H=>?_)
  dsimp only[List.set] at H
  refine zjn<|vW 2 J H [0,1,2,3,4,5,6,7,8,9,10] [0,1,2,3,4,5,6,7,8,9,10,11,12,13,14,15] fun H=>?_
  dsimp only[yu,yU]
  have S:=H.ve (zR 0 11)<|zR 0 16
  refine rtl 0 S ?_
  refine tF 1 J J S ?_
  refine tL 2 J J (fun _ h=>h.cell 0 J J) S ?_
  refine rtl 3 S ?_
  refine tF 4 J J S ?_
  refine tL 5 J J (fun _ h=>h.cell 0 J J) S ?_
  obtain⟨ab8,rfl⟩:=H.jm 2 rfl qf
  have S:=H.ve (zR 0 11)<|zR 0 16
  refine tI 6 J J J S ?_
  refine tF 8 J J S ?_
  refine tL 9 J J (fun _ h=>h.cell 0 J J) S ?_
  refine rtl 10 S ?_
  refine rt 11 _ (y_neg ((xq s (⟨jg [true] s.qA.length,sv[iv.toNat]!.qC.qG,sv[iv.toNat]!.qC.qF⟩:qV))[fq]!) J qf) S ?_
  refine ro 7 J ?_
  obtain⟨al1,asC,aMk,anj,H⟩:=H.yE 2 rfl 8 rfl (iv:=s.qB[fq]!.qW) ((s.qB[fq]!.qW:Int).toNat) qf qf
  refine zx (Sv al1 (((restR s (⟨jg [true] s.qA.length,sv[iv.toNat]!.qC.qG,sv[iv.toNat]!.qC.qF⟩:qV) (xq s (⟨jg [true] s.qA.length,sv[iv.toNat]!.qC.qG,sv[iv.toNat]!.qC.qF⟩:qV)) fq)[(s.qB[fq]!.qW:Int).toNat]!).length) asC) isAgg24 rfl ((H.zD 2 rfl anj qf))<|⟨H.pick (zR 0 11)<|zR 1 16,(ro 12 rfl ?_)⟩
  refine oc (Vy _ ((restR s (⟨jg [true] s.qA.length,sv[iv.toNat]!.qC.qG,sv[iv.toNat]!.qC.qF⟩:qV) (xq s (⟨jg [true] s.qA.length,sv[iv.toNat]!.qC.qG,sv[iv.toNat]!.qC.qF⟩:qV)) fq)[(s.qB[fq]!.qW:Int).toNat]!) s.qB[fq]!.vg (-((xq s (⟨jg [true] s.qA.length,sv[iv.toNat]!.qC.qG,sv[iv.toNat]!.qC.qF⟩:qV))[fq]!)) (H.get 0 J).1 (H.get 1 J).1 qg qg qg) ?_
  rintro aKA ayy aBb awX
  replace H:=H.zy awX aBb
  obtain⟨axD,ayM,rfl,aFX,aFO⟩:=H.jB 0 rfl
  refine⟨H.pick (zR 1 11)<|zR 1 16,(xx qh<|zg<|oI J J ?_)⟩
  obtain⟨aJf,N,aHc,H⟩:=H.vJ 0 rfl N<|H.awB [15,16,8,9] 17 K0
  dsimp only[List.set] at H
  refine sw<|jJ true H 3 J 10 J (Sv axD ((vX ((restR s (⟨jg [true] s.qA.length,sv[iv.toNat]!.qC.qG,sv[iv.toNat]!.qC.qF⟩:qV) (xq s (⟨jg [true] s.qA.length,sv[iv.toNat]!.qC.qG,sv[iv.toNat]!.qC.qF⟩:qV)) fq)[(s.qB[fq]!.qW:Int).toNat]!) s.qB[fq]!.vg (-((xq s (⟨jg [true] s.qA.length,sv[iv.toNat]!.qC.qG,sv[iv.toNat]!.qC.qF⟩:qV))[fq]!))).length) ayM) 0 J J sizeOf24 J J (i:=((s.qB[fq]!.qW:Int).toNat)) qf qf qm fun adB aHl aNm amC H=>?_
  replace N:=(N.Xr 5 [4,0,1,2,3]).repl amC
  dsimp only[List.set] at H
  refine xX<|b_n<|t_n<|zf<|sw<|zY fq 1 J J qf<|sq 1<|xX<|xu (m':=(((xq s (⟨jg [true] s.qA.length,sv[iv.toNat]!.qC.qG,sv[iv.toNat]!.qC.qF⟩:qV)).length)-((fq+1):Int)).toNat) qf ⟨_,fq+1,_,_,_,uE9,?_,?_,J,(N.xG 4 [1,2,3,0] xE),H.xG 12 19 (zR 2 10) (10::0::zR 12 7) xE xE⟩
  ·rfl
  ·omega
 have e5:fq=s.qB.length:=by omega
 have e4:restR s (⟨jg [true] s.qA.length,sv[iv.toNat]!.qC.qG,sv[iv.toNat]!.qC.qF⟩:qV) (xq s (⟨jg [true] s.qA.length,sv[iv.toNat]!.qC.qG,sv[iv.toNat]!.qC.qF⟩:qV)) fq=bagsD s sv[iv.toNat]!.qC:=by rw[e5];rfl
 refine zx4<|zcc<|sq 1<|sw<|vF #[Sv eR Xe XL,.func (.func 142) #[] #[]] J J call141<|en func141 ntmps141 ?_
 refine zcr<|sp (Bv false)<|zjc<|sq 1<|sp (.func (.func 142) #[] #[])<|sw<|vF #[Sv eR Xe XL,.func (.func 142) #[] #[]] J J call165<|en func165 ntmps165 ?_
 refine zcr<|sp (yI 0)<|zjcc<|sq 1<|oN J<|sp (yI 0)<|zjn<|xg<|vk ((fun Z0 Z1 Z2 Z3 Z4 Z5 Z6 Z7 Z8 Z9 dU eC fe fR gB ij nc pN rN=>fun m' ρ acT=>∃(xR:Env) (i:Nat),ρ=upd (upd (upd (upd xR 0<|Sv eR Xe XL) 1<|.func (.func 142) #[] #[]) 7<|yI Xe) 8 (yI i)/\((i:Int)<=Xe)/\(AllB3 dB i)/\m'=(Xe-(i:Int)).toNat/\Fresh W0.heap.size (bq::bg::eS::eK::Ns)/\St W0 acT (Z0::Z1::Z2::Z3::Z4::Z5::Z6::Z7::Z8::Z9::ps) (dU::eC::fe::fR::gB::ij::nc::pN::rN::Γ)) _ _ _ _ _ _ _ _ _ _ _ _ _ _ _ _ _ _ _) ((Xe-(0:Int)).toNat) ⟨_,0,uE4,qf,qx,J,N,H⟩ ?_
 clear H N
 rintro m' ρ amg ⟨xR,i,rfl,i0,i5,rfl,N,H⟩
 refine zcr<|sq 1<|zjn<|xO<|cD J (fun aod=>?_)<|fun aod=>?_
 ·refine xe (t_n<|xO<|xg<|zcr<|sp (yI i)<|sp (yI i)<|zjc<|sp (.func (.func 142) #[] #[])<|sq 1<|sp (yI i) ?_)
  obtain⟨aOs,rfl⟩:=H.jm 0 rfl qf
  refine oI J J ?_
  obtain⟨aCV,aA4,aKU,ajX,H⟩:=H.yE 0 rfl 0 rfl (iv:=i) i qf qf
  refine oL J ((H.zD 0 J ajX qf))<|sw<|vF #[Sv aCV dB[i]!.length aA4] J J call142<|en func142 ntmps142 ?_
  refine zcr<|sp (Bv false)<|zjc<|sq 1<|sw<|oq (areBags_ok _ dB[i]! (H.get 0 J).1) H fun aBI H=>sq 2<|zjr<|ret1 (Bv (!(dec<|yX dB[i]! dB[i]!.length))) J J ⟨_,J,(zjn<|cQ J (fun Gy=>?_)<|fun Gy=>?_)⟩
  ·refine zcr (sp (yI i)<|sp (yI i)<|zjr<|zr5<|ret1 (yI i) J J ⟨_,J,(sw<|o_pure (Bv true) (by show some (Value.bool<|decide ((i:Int)>=0))=some (Value.bool true);rw[decide_eq_true qf])<|sp (Bv true)<|zjr<|ret1 (Bv true) J J ⟨_,J,(zjn<|cTr J<|zcr<|sp (yI 3)<|zjr<|t_r<|ret1 (yI 3) J J ⟨_,J,?_⟩)⟩)⟩)
   rw[workR_no p2.1 ql ql e2 i2 (j:=i) qf ql]
   exact⟨bB,bq,bS,wi.length,bo,bu,bg,J,(N.xG 4 [0,1] xE),H.xG 10 10 [7,8,9] (zR 5 5) xE xE⟩
  refine xe<|b_n<|t_n<|zf<|sw<|zY i 1 J J qf<|sq 1<|xX<|xu (m':=(Xe-((i+1):Int)).toNat) qf ⟨_,i+1,uE4,?_,?_,J,N,H.xG 10 10 (zR 0 10) (zR 1 9) xE xE⟩
  ·omega
  ·exact i5.succ ql
 refine zx4<|zcr<|sq 1<|zjr<|ret1 (yI (-1)) J J ⟨_,J,(sp (Bv false)<|sp (Bv false)<|zjr<|ret1 (Bv false) J J ⟨_,J,(zjn<|cFr J<|xe<|t_n<|zcr ?_)⟩)⟩
 refine sq 7<|sp (yI iv) ?_
 obtain⟨axP,rfl⟩:=H.jm 0 rfl qf
 refine oI J J ?_
 obtain⟨aKN,aN5,aJ0,agO,H⟩:=H.yE 0 rfl 0 rfl (iv:=iv) iv.toNat qf qf
 refine oL J ((H.zD 0 J agO qf))<|sw<|oc (XJ _ dB[iv.toNat]! (H.get 0 J).1 qg) ?_
 rintro _ Ub ⟨nk,aFS,ail,aHs,aIn,rfl,M,K⟩ _
 obtain⟨N,H⟩:=H.both K M N [8,9,1,2] 10 K0
 obtain rfl:=H.xf (α:=yLI) 0 rfl 0 rfl qj
 refine sq 1<|oF J ?_
 have H0:=H
 obtain⟨aiD,alZ,amJ,H⟩:=H.ji (α:=yLI) 2 rfl 3 rfl qj
 replace N:=H0.iceB N 5 [4,0,1,2,3] 2 alZ [0,9,10,2] 11 K0
 clear H0
 dsimp only[List.set] at H
 obtain⟨M7,MP⟩:∃z,z=(sv.set iv.toNat { sv[iv.toNat]! with qC:={ sv[iv.toNat]!.qC with qG:=(restR s (⟨jg [true] s.qA.length,sv[iv.toNat]!.qC.qG,sv[iv.toNat]!.qC.qF⟩:qV) (xq s (⟨jg [true] s.qA.length,sv[iv.toNat]!.qC.qG,sv[iv.toNat]!.qC.qF⟩:qV)) fq)}}):=⟨_,rfl⟩
 refine sw<|Ve (v:=Sv KF sv[iv.toNat]!.qC.qG.length J5) part_Server_DeskBags H 9 J 10 J 0 J J sizeOf29 J J J iv.toNat qf qf MP fun azd aEj aO1 ahh H=>?_
 dsimp only[List.set] at H
 replace N:=(N.Xr 5 [2,0,1,3,4]).repl ahh
 have aOt:=set_len MP
 refine sq 1<|oF J ?_
 have H0:=H
 obtain⟨rS,NP,aka,H⟩:=H.ji (α:=yLL) 1 rfl 4 rfl qj
 replace N:=H0.iceB N 4 [3,0,1,2] 1 NP [0,2,12] 13 K0
 clear H0
 dsimp only[List.set] at H
 obtain⟨Pg,Oc⟩:∃z,z=(M7.set iv.toNat { M7[iv.toNat]! with qC:={ M7[iv.toNat]!.qC with jH:=dB }}):=⟨_,rfl⟩
 refine sw<|Ve (v:=Sv (aa axP 0) Xe XL) part_Server_DeskNow H 9 J 1 J 0 J J sizeOf45 J J J iv.toNat qf qf Oc fun aNk aGr aPL anE H=>?_
 dsimp only[List.set] at H
 replace N:=(N.Xr 4 [1,0,2,3]).repl anE
 have aKM:=set_len Oc
 refine sq 1<|oF J ?_
 have H0:=H
 obtain⟨aAS,amu,Ra,H⟩:=H.ji (α:=yLI) 0 rfl 4 rfl qj
 replace N:=H0.iceB N 3 [1,0,2] 0 amu [0,14] 15 K0
 clear H0
 dsimp only[List.set] at H
 obtain⟨M9,Oh⟩:∃z,z=(Pg.set iv.toNat { Pg[iv.toNat]! with qC:={ Pg[iv.toNat]!.qC with qU:=(dB[iv.toNat]!)}}):=⟨_,rfl⟩
 refine sw<|Ve (v:=Sv nk dB[iv.toNat]!.length ail) Vk H 9 J 1 J 0 J J sizeOf29 J J J iv.toNat qf qf Oh fun ann aG1 aQI ap8 H=>?_
 dsimp only[List.set] at H
 replace N:=(N.Xr 3 [1,0,2]).repl ap8
 have aOo:=set_len Oh
 refine sq 1<|oF J ?_
 obtain⟨Pw,Ou⟩:∃z,z=(M9.set iv.toNat { M9[iv.toNat]! with qC:={ M9[iv.toNat]!.qC with qY:=true }}):=⟨_,rfl⟩
 refine sw<|o_putBool part_Server_DeskWorked H 9 J 0 J sizeOf4 J J J iv.toNat qf qf Ou fun asF aGX ay5 aiw H=>?_
 dsimp only[List.set] at H
 replace N:Fresh W0.heap.size (ay5::bg::Ns):=(N.emp.xG 3 [1,0,2] xE).repl aiw
 have aKc:=set_len Ou
 refine zjc<|sq 3<|oF J<|oF J<|oL J (H.cell 8 J J)<|oN J<|sw<|o_makeB H underlying28 ti4 sv.length J J qf qf qf fun awE ai7 H=>sq 1<|oF J ?_
 obtain⟨C6,N,an2,H⟩:=H.freezeB 0 rfl N<|H.awB [0,17] 18 K0
 dsimp only[List.set] at H
 obtain⟨Hf,H9⟩:∃z,z=(Pw.set iv.toNat { Pw[iv.toNat]! with qC:={ Pw[iv.toNat]!.qC with jA:=(List.replicate sv.length<|false)}}):=⟨_,rfl⟩
 refine sw<|Ve (v:=Sv (aa awE 0) sv.length sv.length) X5 H 10 J 1 J 0 J J sizeOf28 J J J iv.toNat qf qf H9 fun axw ajD ayN agT H=>?_
 dsimp only[List.set] at H
 replace N:=(N.Xr 3 [1,0,2]).repl agT
 have aPR:=set_len H9
 have aO4:=(set_got qf H9).trans List.length_replicate
 refine zjc<|sq 2<|oF J ?_
 obtain⟨af2,afy,afT,ZP,aaU,W3,aj4,ao6,agJ,aay,WI,Zz,an6,asH,aiN,afe,afH,afg,G9,aFZ,H⟩:=H.partS_DeskD zV 10 rfl 0 rfl rfl iv.toNat qf
 refine oL J (H.zD 10 J (G9 4 _ J) qf)<|sp (yI iv) ?_
 obtain⟨aQF,aQh,rfl⟩:=H.addr 2 rfl qf
 refine oI J J ?_
 have N0:Fresh W0.heap.size (ayN::bg::Ns):=N
 obtain⟨aIu,OO⟩:∃z,z=(Hf.set iv.toNat { Hf[iv.toNat]! with qC:={ Hf[iv.toNat]!.qC with jA:=(Hf[iv.toNat]!.qC.jA.set iv.toNat true)}}):=⟨_,rfl⟩
 refine sw<|o_pokeBool X5 H 6 J N0 ((sF false Fp ap cp s.qA)::(sF false Fr ar cr s.qB)::(sF false Fo ao co own)::(qX true bg bu wi)::Γ) (jf (kept 21 J<|X6 OL 0 J N0)<|jf (kept 22 J<|X6 OL 1 J N0)<|jf (kept 23 J<|X6 OL 2 J N0)<|jf (kept 25 J<|Xn N0 0 J)<|keeps_old 26 J OL 3 J N0) iv.toNat qf J (G9 4 _ J) iv.toNat qf sizeOf4 J qf J OO fun aJ2 ayj N H=>?_
 have aJB:=set_len OO
 refine zjc<|sp (yI 0)<|zjr<|ret1 (yI 0) J J ⟨_,J,?_⟩
 rw[workR_0 p2.1 ql ql e2 i2 (fun j hj=>i5 j qf)<|fun z=>work_sets qf MP Oc Oh Ou H9 OO e4 z J]
 exact⟨ajD,ayj,bS,wi.length,bo,bu,bg,J,N,H.xG 12 5 [9,10,11] [1,2,3,0,4] xE xE⟩
theorem do_ok(s:qJ)(own:yLI)(ap:yOA)(cp:Nat)(Fp:yLN)(ar:yOA)(cr:Nat)(Fr:yLN)(ao:yOA)(co:Nat)(Fo:yLN)(sv:List zI)(wi:List zC)(bk:Nat)(n:Nat)(dN:yOA)(dC:Nat)(bQ:Nat)(bB:List Value)(bq:yLN)(bS:yOA)(ix:Nat)(bo:Nat)(bu:List Value)(bg:yLN)(d:Qu)(H:St W0 w ((.box bk [Sv dN dC bQ,Sv bS ix bo,yI s.qQ,Sv ap s.qA.length cp,Sv ar s.qB.length cr,Sv ao own.length co] 74)::(rr dN dC bQ 49 16 bB)::(rr bS ix bo 77 4 bu)::ps) ((sF false Fp ap cp s.qA)::(sF false Fr ar cr s.qB)::(sF false Fo ao co own)::(qX true bq bB sv)::(qX true bg bu wi)::Γ))(N:Fresh W0.heap.size (bq::bg::Ns))(K0:Kept Ns Γ)(p0:Giv s own n)(p1:Vo s own n (⟨sv,wi⟩:zO))(p2:VT d)(OL:∀f∈(sF false Fp ap cp s.qA::sF false Fr ar cr s.qB::sF false Fo ao co own::Γ),∀b∈f.F,b<W0.heap.size):Calls Tryz.prog 52 #[pp bk 0,.agg #[yI d.xQ,yI d.fA,yI d.fB]] w (fun e w'=>∃v,e=.returned v/\∃(qa:List Value) (pD:yLN) (rq:yOA) (pX:Nat) (pb:Nat) (pt:List Value) (pV:yLN),v=yI ((doM s own (⟨sv,wi⟩:zO) d).2)/\Fresh W0.heap.size (pD::pV::Ns)/\St W0 w' ((.box bk [Sv dN dC bQ,Sv rq pX pb,yI s.qQ,Sv ap s.qA.length cp,Sv ar s.qB.length cr,Sv ao own.length co] 74)::(rr dN dC bQ 49 16 qa)::(rr rq pX pb 77 4 pt)::ps) ((sF false Fp ap cp s.qA)::(sF false Fr ar cr s.qB)::(sF false Fo ao co own)::(qX true pD qa ((doM s own (⟨sv,wi⟩:zO) d).1.qE))::(qX true pV pt ((doM s own (⟨sv,wi⟩:zO) d).1.vz))::Γ)):=by
 refine en func52 ntmps52 ?_
 have aAj:=qN (H.get 0 J).1
 obtain rfl:=H.xf (α:=zI) 1 rfl 3 rfl qj
 obtain rfl:=H.xf (α:=zC) 2 rfl 4 rfl qj
 have g4:=p0.few
 have l1:sv.length=n:=p1.len
 have l2:wi.length<=12:=p1.few
 have d1:=p2.1
 have d2:=p2.2.1
 have d3:=p2.2.2.1
 refine zcr<|sw<|jb H [yI d.xQ,yI d.fA,yI d.fB] fun b1 w2 H=>sp (yI 0)<|zjcc<|oF J<|oL J (H.cell 0 J J)<|zjn<|xg<|zcc<|sp (Bv ((d.xQ:Int) == 3))<|sp (Bv ((d.xQ:Int) == 3))<|zjn<|c_cut (fun ρ w3=>∃(xR:Env) (t8:Bool),ρ=upd (upd (upd (upd xR 0<|pp bk 0) 3<|pp b1 0) 7<|yI d.xQ) 8 (Bv t8)/\(t8=true<->(d.xQ=3\/d.xQ=4))/\Fresh W0.heap.size (bq::bg::Ns)/\St W0 w3 ((.box b1 [yI d.xQ,yI d.fA,yI d.fB] 44)::(.box bk [Sv dN sv.length bQ,Sv bS wi.length bo,yI s.qQ,Sv ap s.qA.length cp,Sv ar s.qB.length cr,Sv ao own.length co] 74)::(rr dN sv.length bQ 49 16 bB)::(rr bS wi.length bo 77 4 bu)::ps) ((sF false Fp ap cp s.qA)::(sF false Fr ar cr s.qB)::(sF false Fo ao co own)::(qX true bq bB sv)::(qX true bg bu wi)::Γ)) ?_ ?_
 ·refine cE J (fun h4=>?_) (fun h4=>?_)
  ·refine xe (meet ⟨_,(d.xQ:Int) == 3,uE4,?_,N,H⟩)
   ·exact beq_iff_eq.trans ⟨fun h=>by omega,fun h=>by omega⟩
  refine zf<|sp (Bv ((d.xQ:Int) == 4))<|sp (Bv ((d.xQ:Int) == 4))<|xX<|meet ⟨_,(d.xQ:Int) == 4,uE4,?_,N,H⟩
  ·exact beq_iff_eq.trans ⟨fun h=>by omega,fun h=>by omega⟩
 clear H N
 rintro ρ w5 ⟨xR,t8,rfl,j8,N,H⟩
 refine t_n<|vP _ J (fun h6=>?_)<|fun h6=>?_
 ·(have k8:=j8.1 ql)
  refine zcr<|sq 1<|sw<|xW [yI d.xQ,yI d.fA,yI d.fB] isAgg44 sizeOf44 J (qH (H.cells 0 J) 0 3)<|sw<|vF #[pp bk 0,.agg #[yI d.xQ,yI d.fA,yI d.fB]] J J call93<|en func93 ntmps93 ?_
  refine zcr<|sw<|jb H [yI d.xQ,yI d.fA,yI d.fB] fun b7 w8 H=>sp (yI 0)<|zjcc<|sq 1<|oF J<|oL J (H.cell 0 J J)<|sw<|vF #[pp bk 0,yI d.fA] J J call95<|en func95 ntmps95 ?_
  refine zcr<|sp (Bv false)<|zjc<|sq 3<|oF J<|oF J<|oL J (H.cell 2 J J)<|sw<|vF #[Sv dN sv.length bQ] J J call137<|en func137 ntmps137 ?_
  refine zcr<|sp (yI 0)<|zjc<|sq 1<|oN J<|sq 1<|zjr<|ret1 (yI sv.length) J J ⟨_,J,(sw<|o_sub sv.length 1 J J qf<|sw<|oq (XX w8 d.fA 0<|sv.length-1) H fun w9 H=>sq 1<|zjr<|ret1 (Bv<|inR d.fA 0<|sv.length-1) J J ⟨_,J,(sp (Bv (!(inR d.fA 0<|sv.length-1)))<|sp (Bv (!(inR d.fA 0<|sv.length-1))) ?_)⟩)⟩
  cases cf:(!(inR d.fA 0 (sv.length-1)))
  ·replace cf:=xw cf
   replace cf:=QW.1 cf
   refine qP 12 J J<|sq 1<|qP 12 J J<|oF J<|qP 12 J J<|oL J (H.cell 0 J J)<|qP 12 J J<|sw<|vF #[pp bk 0,yI d.fB] J J call95<|en func95 ntmps95 ?_
   refine zcr<|sp (Bv false)<|zjc<|sq 3<|oF J<|oF J<|oL J (H.cell 2 J J)<|sw<|vF #[Sv dN sv.length bQ] J J call137<|en func137 ntmps137 ?_
   refine zcr<|sp (yI 0)<|zjc<|sq 1<|oN J<|sq 1<|zjr<|ret1 (yI sv.length) J J ⟨_,J,(sw<|o_sub sv.length 1 J J qf<|sw<|oq (XX w9 d.fB 0<|sv.length-1) H fun Lz H=>sq 1<|zjr<|ret1 (Bv<|inR d.fB 0<|sv.length-1) J J ⟨_,J,(qP 12 J J<|sp (Bv (!(inR d.fB 0<|sv.length-1)))<|sp (Bv (!(inR d.fB 0<|sv.length-1)))<|sp (Bv (!(inR d.fB 0<|sv.length-1))) ?_)⟩)⟩
   cases gz:(!(inR d.fB 0 (sv.length-1)))
   ·replace gz:=xw gz
    replace gz:=QW.1 gz
    refine qP 19 J J<|oF J<|qP 19 J J<|oL J (H.cell 0 J J)<|qP 19 J J<|oF J<|qP 19 J J<|oL J (H.cell 0 J J)<|qP 19 J J<|sq 2<|zjn<|cE J (fun oA=>?_)<|fun oA=>?_
    ·refine zcr (sp (yI 2)<|zjr<|t_r<|ret1 (yI 2) J J ⟨_,J,?_⟩)
     replace H:=H.erases [0]
     dsimp only[zL,List.eraseIdx,List.set] at H
     refine sp (yI 2)<|zjr<|b_r<|t_r<|ret1 (yI 2) J J ⟨_,J,?_⟩
     rw[VY qf<|by(right;right;omega)]
     all_goals exact⟨bB,bq,bS,wi.length,bo,bu,bg,rfl,N,H.xG 4 5 [1,2,3] (zR 0 5) xE xE⟩
    refine xe<|t_n<|xO<|vW 1 J H [0,1,2,3,4] [0,1,2,3,4] fun H=>?_
    dsimp only[yu,yU]
    have S:=H.ve (zR 0 5)<|zR 0 5
    refine rtl 0 S ?_
    refine rtl 1 S ?_
    refine tF 2 J J S ?_
    refine tF 3 J J S ?_
    refine tL 4 J J (fun _ h=>h.cell 2 J J) S ?_
    refine tF 5 J J S ?_
    refine tL 6 J J (fun _ h=>h.cell 0 J J) S ?_
    obtain⟨lF,rfl⟩:=H.jm 3 rfl qf
    refine tI 7 J J J (H.pick (zR 0 5)<|zR 0 5) ?_
    obtain⟨ch,cj,ly,bO,bN,gY,cS,cR,mX,bM,bP,hZ,cM,cJ,mp,cu,cw,lc,ce,bZ,iY,bE,bH,gh,cy,cn,lq,bG,bI,gr,cz,cq,lh,bW,bX,iR,acZ,H⟩:=H.part_ServerD QI.refl 3 rfl 3 rfl rfl d.fA.toNat qf
    refine rt 8 _ (yP (off:=0+(d.fA:Int).toNat*16) (cs:=[yI sv[d.fA.toNat]!.qC.qK,Sv ch sv[d.fA.toNat]!.qC.qG.length cj,Sv bO sv[d.fA.toNat]!.qC.qF.length bN,Bv sv[d.fA.toNat]!.qC.qY,Sv cS sv[d.fA.toNat]!.qC.jA.length cR,Sv bM sv[d.fA.toNat]!.qC.qU.length bP,Sv cM sv[d.fA.toNat]!.qC.jH.length cJ,Sv cu sv[d.fA.toNat]!.qC.zM.length cw,yI sv[d.fA.toNat]!.qR.qK,Sv ce sv[d.fA.toNat]!.qR.qG.length bZ,Sv bE sv[d.fA.toNat]!.qR.qF.length bH,Bv sv[d.fA.toNat]!.qR.qY,Sv cy sv[d.fA.toNat]!.qR.jA.length cn,Sv bG sv[d.fA.toNat]!.qR.qU.length bI,Sv cz sv[d.fA.toNat]!.qR.jH.length cq,Sv bW sv[d.fA.toNat]!.qR.zM.length bX]) isAgg49 sizeOf49 J<|fun _ h=>(fun r v hv=>h.zD 3 J (acZ r v hv) qf)) (H.pick (zR 0 5)<|zR 12 5) ?_
    refine ro 9 J<|x8 H ti49 [yI 0,yN,yN,Bv false,yN,yN,yN,yN,yI 0,yN,yN,Bv false,yN,yN,yN,yN] fun JN NH H=>⟨H.pick (zR 1 5)<|zR 12 5,(xx qh<|zg ?_)⟩
    refine sw<|xZ H 0 [yI sv[d.fA.toNat]!.qC.qK,Sv ch sv[d.fA.toNat]!.qC.qG.length cj,Sv bO sv[d.fA.toNat]!.qC.qF.length bN,Bv sv[d.fA.toNat]!.qC.qY,Sv cS sv[d.fA.toNat]!.qC.jA.length cR,Sv bM sv[d.fA.toNat]!.qC.qU.length bP,Sv cM sv[d.fA.toNat]!.qC.jH.length cJ,Sv cu sv[d.fA.toNat]!.qC.zM.length cw,yI sv[d.fA.toNat]!.qR.qK,Sv ce sv[d.fA.toNat]!.qR.qG.length bZ,Sv bE sv[d.fA.toNat]!.qR.qF.length bH,Bv sv[d.fA.toNat]!.qR.qY,Sv cy sv[d.fA.toNat]!.qR.jA.length cn,Sv bG sv[d.fA.toNat]!.qR.qU.length bI,Sv cz sv[d.fA.toNat]!.qR.jH.length cq,Sv bW sv[d.fA.toNat]!.qR.zM.length bX] sizeOf49 fun MJ H=>?_
    dsimp only[List.set] at H
    refine zjc<|oF J<|oF J<|oL J (H.cell 0 J J)<|oF J<|oL J (H.cell 1 J J)<|oF J<|oL J (H.cell 1 J J)<|sw<|vZ [yI sv[d.fA.toNat]!.qC.qK,yI d.fA,yI d.fB,yN] [(0,yI sv[d.fA.toNat]!.qC.qK),(1,yI d.fA),(2,yI d.fB)]<|sw<|x8 H ti77 [yI 0,yI 0,yI 0,yN] fun tQ Gw H=>sw<|xZ H 0 [yI sv[d.fA.toNat]!.qC.qK,yI d.fA,yI d.fB,yN] sizeOf77 fun E4 H=>?_
    dsimp only[List.set] at H
    refine zjn<|xO<|xg<|xO<|xO<|c_cut (fun ρ E3=>∃(xR:Env) (t56:Bool),ρ=upd (upd (upd (upd (upd xR 0<|pp bk 0) 3<|pp b7 0) 5<|pp JN 0) 6<|pp tQ 0) 56 (Bv t56)/\(Sav7 t56 d.xQ<|sv[d.fA.toNat]!)/\Fresh W0.heap.size (bq::bg::Ns)/\St W0 E3 ((.box tQ [yI sv[d.fA.toNat]!.qC.qK,yI d.fA,yI d.fB,yN] 77)::(.box JN [yI sv[d.fA.toNat]!.qC.qK,Sv ch sv[d.fA.toNat]!.qC.qG.length cj,Sv bO sv[d.fA.toNat]!.qC.qF.length bN,Bv sv[d.fA.toNat]!.qC.qY,Sv cS sv[d.fA.toNat]!.qC.jA.length cR,Sv bM sv[d.fA.toNat]!.qC.qU.length bP,Sv cM sv[d.fA.toNat]!.qC.jH.length cJ,Sv cu sv[d.fA.toNat]!.qC.zM.length cw,yI sv[d.fA.toNat]!.qR.qK,Sv ce sv[d.fA.toNat]!.qR.qG.length bZ,Sv bE sv[d.fA.toNat]!.qR.qF.length bH,Bv sv[d.fA.toNat]!.qR.qY,Sv cy sv[d.fA.toNat]!.qR.jA.length cn,Sv bG sv[d.fA.toNat]!.qR.qU.length bI,Sv cz sv[d.fA.toNat]!.qR.jH.length cq,Sv bW sv[d.fA.toNat]!.qR.zM.length bX] 49)::(.box b7 [yI d.xQ,yI d.fA,yI d.fB] 44)::(.box b1 [yI d.xQ,yI d.fA,yI d.fB] 44)::(.box bk [Sv (aa lF 0) sv.length bQ,Sv bS wi.length bo,yI s.qQ,Sv ap s.qA.length cp,Sv ar s.qB.length cr,Sv ao own.length co] 74)::(rr (aa lF 0) sv.length bQ 49 16 bB)::(rr bS wi.length bo 77 4 bu)::ps) ((sF true ly ch cj sv[d.fA.toNat]!.qC.qG)::(sF true gY bO bN sv[d.fA.toNat]!.qC.qF)::(sF true mX cS cR sv[d.fA.toNat]!.qC.jA)::(sF true hZ bM bP sv[d.fA.toNat]!.qC.qU)::(sF true mp cM cJ sv[d.fA.toNat]!.qC.jH)::(sF true lc cu cw sv[d.fA.toNat]!.qC.zM)::(sF true iY ce bZ sv[d.fA.toNat]!.qR.qG)::(sF true gh bE bH sv[d.fA.toNat]!.qR.qF)::(sF true lq cy cn sv[d.fA.toNat]!.qR.jA)::(sF true gr bG bI sv[d.fA.toNat]!.qR.qU)::(sF true lh cz cq sv[d.fA.toNat]!.qR.jH)::(sF true iR bW bX sv[d.fA.toNat]!.qR.zM)::(sF false Fp ap cp s.qA)::(sF false Fr ar cr s.qB)::(sF false Fo ao co own)::(qX true bq bB sv)::(qX true bg bu wi)::Γ)) ?_ ?_
    ·refine zf (oF J<|oL J (H.cell 2 J J)<|sp (Bv ((d.xQ:Int) == 3))<|sp (Bv ((d.xQ:Int) == 3)) ?_)
     cases nY:((d.xQ:Int) == 3)
     ·replace nY:=ne_of_beq_false nY
      refine zk [61,62,63]<|sp (Bv false)<|sp (Bv false)<|xX<|meet ⟨_,false,uE5,?_,N,H⟩
      ·exact sav7_3 qf
     replace nY:=eq_of_beq nY
     refine qP 60 J J<|sw<|xW [yI sv[d.fA.toNat]!.qC.qK,Sv ch sv[d.fA.toNat]!.qC.qG.length cj,Sv bO sv[d.fA.toNat]!.qC.qF.length bN,Bv sv[d.fA.toNat]!.qC.qY,Sv cS sv[d.fA.toNat]!.qC.jA.length cR,Sv bM sv[d.fA.toNat]!.qC.qU.length bP,Sv cM sv[d.fA.toNat]!.qC.jH.length cJ,Sv cu sv[d.fA.toNat]!.qC.zM.length cw,yI sv[d.fA.toNat]!.qR.qK,Sv ce sv[d.fA.toNat]!.qR.qG.length bZ,Sv bE sv[d.fA.toNat]!.qR.qF.length bH,Bv sv[d.fA.toNat]!.qR.qY,Sv cy sv[d.fA.toNat]!.qR.jA.length cn,Sv bG sv[d.fA.toNat]!.qR.qU.length bI,Sv cz sv[d.fA.toNat]!.qR.jH.length cq,Sv bW sv[d.fA.toNat]!.qR.zM.length bX] isAgg49 sizeOf49 J (qH (H.cells 1 J) 0 16)<|qP 60 J J<|sw<|vF #[.agg #[yI sv[d.fA.toNat]!.qC.qK,Sv ch sv[d.fA.toNat]!.qC.qG.length cj,Sv bO sv[d.fA.toNat]!.qC.qF.length bN,Bv sv[d.fA.toNat]!.qC.qY,Sv cS sv[d.fA.toNat]!.qC.jA.length cR,Sv bM sv[d.fA.toNat]!.qC.qU.length bP,Sv cM sv[d.fA.toNat]!.qC.jH.length cJ,Sv cu sv[d.fA.toNat]!.qC.zM.length cw,yI sv[d.fA.toNat]!.qR.qK,Sv ce sv[d.fA.toNat]!.qR.qG.length bZ,Sv bE sv[d.fA.toNat]!.qR.qF.length bH,Bv sv[d.fA.toNat]!.qR.qY,Sv cy sv[d.fA.toNat]!.qR.jA.length cn,Sv bG sv[d.fA.toNat]!.qR.qU.length bI,Sv cz sv[d.fA.toNat]!.qR.jH.length cq,Sv bW sv[d.fA.toNat]!.qR.zM.length bX]] J J call133<|en func133 ntmps133 ?_
     refine zcr<|sw<|jb H [yI sv[d.fA.toNat]!.qC.qK,Sv ch sv[d.fA.toNat]!.qC.qG.length cj,Sv bO sv[d.fA.toNat]!.qC.qF.length bN,Bv sv[d.fA.toNat]!.qC.qY,Sv cS sv[d.fA.toNat]!.qC.jA.length cR,Sv bM sv[d.fA.toNat]!.qC.qU.length bP,Sv cM sv[d.fA.toNat]!.qC.jH.length cJ,Sv cu sv[d.fA.toNat]!.qC.zM.length cw,yI sv[d.fA.toNat]!.qR.qK,Sv ce sv[d.fA.toNat]!.qR.qG.length bZ,Sv bE sv[d.fA.toNat]!.qR.qF.length bH,Bv sv[d.fA.toNat]!.qR.qY,Sv cy sv[d.fA.toNat]!.qR.jA.length cn,Sv bG sv[d.fA.toNat]!.qR.qU.length bI,Sv cz sv[d.fA.toNat]!.qR.jH.length cq,Sv bW sv[d.fA.toNat]!.qR.zM.length bX] fun b28 Iu H=>(sp (Bv false)<|zjc<|oF J<|oF J<|oL J (H.cell 0 J J)<|oF J<|oF J<|oL J (H.cell 0 J J)<|sp (Bv ((sv[d.fA.toNat]!.qR.qK:Int) == sv[d.fA.toNat]!.qC.qK))<|sp (Bv ((sv[d.fA.toNat]!.qR.qK:Int) == sv[d.fA.toNat]!.qC.qK)) ?_)
     cases Gp:((sv[d.fA.toNat]!.qR.qK:Int) == sv[d.fA.toNat]!.qC.qK)
     ·replace Gp:=ne_of_beq_false Gp
      refine zk [11,12,13]<|sp (Bv false)<|sp (Bv false)<|zjr<|ret1 (Bv false) J J ⟨_,J,?_⟩
      replace H:=H.erases [0]
      dsimp only[zL,List.eraseIdx,List.set] at H
      refine qP 60 J J<|sp (Bv true)<|sp (Bv true)<|sp (Bv true)<|xX<|meet ⟨_,true,uE5,?_,N,H⟩
      ·exact sav7_2 qf ql
     replace Gp:=eq_of_beq Gp
     refine qP 10 J J<|oF J<|qP 10 J J<|oF J<|qP 10 J J<|oL J (H.cell 0 J J)<|sq 2<|zjr<|ret1 (Bv sv[d.fA.toNat]!.qR.qY) J J ⟨_,J,?_⟩
     replace H:=H.erases [0]
     dsimp only[zL,List.eraseIdx,List.set] at H
     refine qP 60 J J<|sq 3<|xX<|meet ⟨_,!(sv[d.fA.toNat]!.qR.qY),uE5,?_,N,H⟩
     ·exact sav7_1 qf ql J
    clear H N
    rintro ρ w31 ⟨xR,t56,rfl,j7,N,H⟩
    refine t_n<|c_cut (fun ρ Sw=>∃(xR:Env) (Pj:Bool),ρ=upd (upd (upd (upd (upd xR 0<|pp bk 0) 3<|pp b7 0) 5<|pp JN 0) 6<|pp tQ 0) 56 (Bv Pj)/\(Sav Pj d.xQ<|sv[d.fA.toNat]!)/\Fresh W0.heap.size (bq::bg::Ns)/\St W0 Sw ((.box tQ [yI sv[d.fA.toNat]!.qC.qK,yI d.fA,yI d.fB,yN] 77)::(.box JN [yI sv[d.fA.toNat]!.qC.qK,Sv ch sv[d.fA.toNat]!.qC.qG.length cj,Sv bO sv[d.fA.toNat]!.qC.qF.length bN,Bv sv[d.fA.toNat]!.qC.qY,Sv cS sv[d.fA.toNat]!.qC.jA.length cR,Sv bM sv[d.fA.toNat]!.qC.qU.length bP,Sv cM sv[d.fA.toNat]!.qC.jH.length cJ,Sv cu sv[d.fA.toNat]!.qC.zM.length cw,yI sv[d.fA.toNat]!.qR.qK,Sv ce sv[d.fA.toNat]!.qR.qG.length bZ,Sv bE sv[d.fA.toNat]!.qR.qF.length bH,Bv sv[d.fA.toNat]!.qR.qY,Sv cy sv[d.fA.toNat]!.qR.jA.length cn,Sv bG sv[d.fA.toNat]!.qR.qU.length bI,Sv cz sv[d.fA.toNat]!.qR.jH.length cq,Sv bW sv[d.fA.toNat]!.qR.zM.length bX] 49)::(.box b7 [yI d.xQ,yI d.fA,yI d.fB] 44)::(.box b1 [yI d.xQ,yI d.fA,yI d.fB] 44)::(.box bk [Sv (aa lF 0) sv.length bQ,Sv bS wi.length bo,yI s.qQ,Sv ap s.qA.length cp,Sv ar s.qB.length cr,Sv ao own.length co] 74)::(rr (aa lF 0) sv.length bQ 49 16 bB)::(rr bS wi.length bo 77 4 bu)::ps) ((sF true ly ch cj sv[d.fA.toNat]!.qC.qG)::(sF true gY bO bN sv[d.fA.toNat]!.qC.qF)::(sF true mX cS cR sv[d.fA.toNat]!.qC.jA)::(sF true hZ bM bP sv[d.fA.toNat]!.qC.qU)::(sF true mp cM cJ sv[d.fA.toNat]!.qC.jH)::(sF true lc cu cw sv[d.fA.toNat]!.qC.zM)::(sF true iY ce bZ sv[d.fA.toNat]!.qR.qG)::(sF true gh bE bH sv[d.fA.toNat]!.qR.qF)::(sF true lq cy cn sv[d.fA.toNat]!.qR.jA)::(sF true gr bG bI sv[d.fA.toNat]!.qR.qU)::(sF true lh cz cq sv[d.fA.toNat]!.qR.jH)::(sF true iR bW bX sv[d.fA.toNat]!.qR.zM)::(sF false Fp ap cp s.qA)::(sF false Fr ar cr s.qB)::(sF false Fo ao co own)::(qX true bq bB sv)::(qX true bg bu wi)::Γ)) ?_ ?_
    ·refine vP _ J (fun S8=>?_) (fun S8=>?_)
     ·refine xe (meet ⟨_,t56,uE5,?_,N,H⟩)
      ·exact sav7_tb j7 ql
     refine zf<|oF J<|oL J (H.cell 2 J J)<|sp (Bv ((d.xQ:Int) == 4))<|sp (Bv ((d.xQ:Int) == 4)) ?_
     cases Mk:((d.xQ:Int) == 4)
     ·replace Mk:=ne_of_beq_false Mk
      refine zk (zR 69 4)<|sp (Bv false)<|sp (Bv false)<|xX<|meet ⟨_,false,uE5,?_,N,H⟩
      ·exact sav7_f j7 ql qf
     replace Mk:=eq_of_beq Mk
     refine qP 68 J J<|oF J<|qP 68 J J<|oF J<|qP 68 J J<|oL J (H.cell 1 J J)<|qP 68 J J<|sp (Bv ((sv[d.fA.toNat]!.qC.qK:Int) == 0))<|sp (Bv ((sv[d.fA.toNat]!.qC.qK:Int) == 0))<|sp (Bv ((sv[d.fA.toNat]!.qC.qK:Int) == 0))<|xX<|meet ⟨_,(sv[d.fA.toNat]!.qC.qK:Int) == 0,uE5,?_,N,H⟩
     ·exact sav_b4 qf
    clear H N
    rintro ρ KW ⟨xR,Pj,rfl,j56,N,H⟩
    refine t_n<|vP _ J (fun h36=>?_)<|fun h36=>?_
    ·refine zcr (sp (yI 4)<|zjr<|b_r<|t_r<|ret1 (yI 4) J J ⟨_,J,?_⟩)
     replace H:=H.erases [2,1,0]
     dsimp only[zL,List.eraseIdx,List.set] at H
     refine sp (yI 4)<|zjr<|b_r<|t_r<|ret1 (yI 4) J J ⟨_,J,?_⟩
     (rcases j56.1 ql with ⟨z1,z2⟩|⟨z1,z2⟩ <;> first|rw[doR_post4 z1 ⟨⟨by omega,by omega⟩,⟨by omega,by omega⟩,by omega⟩ z2]|rw[doR_back4 z1 ⟨⟨by omega,by omega⟩,⟨by omega,by omega⟩,by omega⟩ z2])
     all_goals exact⟨bB,bq,bS,wi.length,bo,bu,bg,rfl,N,H.xG 4 17 [1,2,3] (zR 12 5) xE xE⟩
    refine zcr<|sq 2<|oF J<|oF J<|oL J (H.cell 4 J J)<|oN J<|sp (Bv ((wi.length:Int) == 12))<|sp (Bv ((wi.length:Int) == 12))<|zjn<|cE J (fun Cj=>?_)<|fun Cj=>?_
    ·refine zcr (sp (yI 3)<|zjr<|b_r<|t_r<|ret1 (yI 3) J J ⟨_,J,?_⟩)
     replace H:=H.erases [2,1,0]
     dsimp only[zL,List.eraseIdx,List.set] at H
     refine sp (yI 3)<|zjr<|b_r<|t_r<|ret1 (yI 3) J J ⟨_,J,?_⟩
     (rcases k8 with z1|z1 <;> first|rw[doR_post3 z1 ⟨⟨by omega,by omega⟩,⟨by omega,by omega⟩,by omega⟩ ((j56.2 ql).1 z1) qf]|rw[doR_back3 z1 ⟨⟨by omega,by omega⟩,⟨by omega,by omega⟩,by omega⟩ ((j56.2 ql).2 z1) qf])
     all_goals exact⟨bB,bq,bS,wi.length,bo,bu,bg,rfl,N,H.xG 4 17 [1,2,3] (zR 12 5) xE xE⟩
    refine zcr<|oF J<|oL J (H.cell 2 J J)<|sp (Bv ((d.xQ:Int) == 3))<|sp (Bv ((d.xQ:Int) == 3))<|zjn ?_
    replace H:=H.nilRow 24 1
    replace H:=H.yF (α:=yLI)
    refine c_cut (fun ρ Qt=>∃(xR:Env) (iC:Int) (kj:yOA) (ju:Nat) (ko:Nat) (CP:yLL) (vv:List Value) (uC:yLN),ρ=upd (upd xR 0<|pp bk 0) 6 (pp tQ 0)/\((d.xQ=3/\iC=sv[d.fA.toNat]!.qC.qK/\CP=(sv[d.fA.toNat]!.qR.jH)[d.fB.toNat]!)\/(d.xQ=4/\iC=sv[d.fA.toNat]!.qC.qK-1/\CP=(sv[d.fA.toNat]!.qC.zM)[d.fB.toNat]!))/\Fresh W0.heap.size (bq::bg::uC::Ns)/\St W0 Qt ((rr kj ju ko 24 1 vv)::(.box tQ [yI iC,yI d.fA,yI d.fB,Sv kj ju ko] 77)::(.box JN [yI sv[d.fA.toNat]!.qC.qK,Sv ch sv[d.fA.toNat]!.qC.qG.length cj,Sv bO sv[d.fA.toNat]!.qC.qF.length bN,Bv sv[d.fA.toNat]!.qC.qY,Sv cS sv[d.fA.toNat]!.qC.jA.length cR,Sv bM sv[d.fA.toNat]!.qC.qU.length bP,Sv cM sv[d.fA.toNat]!.qC.jH.length cJ,Sv cu sv[d.fA.toNat]!.qC.zM.length cw,yI sv[d.fA.toNat]!.qR.qK,Sv ce sv[d.fA.toNat]!.qR.qG.length bZ,Sv bE sv[d.fA.toNat]!.qR.qF.length bH,Bv sv[d.fA.toNat]!.qR.qY,Sv cy sv[d.fA.toNat]!.qR.jA.length cn,Sv bG sv[d.fA.toNat]!.qR.qU.length bI,Sv cz sv[d.fA.toNat]!.qR.jH.length cq,Sv bW sv[d.fA.toNat]!.qR.zM.length bX] 49)::(.box b7 [yI d.xQ,yI d.fA,yI d.fB] 44)::(.box b1 [yI d.xQ,yI d.fA,yI d.fB] 44)::(.box bk [Sv (aa lF 0) sv.length bQ,Sv bS wi.length bo,yI s.qQ,Sv ap s.qA.length cp,Sv ar s.qB.length cr,Sv ao own.length co] 74)::(rr (aa lF 0) sv.length bQ 49 16 bB)::(rr bS wi.length bo 77 4 bu)::ps) ((qX true uC vv CP)::(sF true ly ch cj sv[d.fA.toNat]!.qC.qG)::(sF true gY bO bN sv[d.fA.toNat]!.qC.qF)::(sF true mX cS cR sv[d.fA.toNat]!.qC.jA)::(sF true hZ bM bP sv[d.fA.toNat]!.qC.qU)::(sF true mp cM cJ sv[d.fA.toNat]!.qC.jH)::(sF true lc cu cw sv[d.fA.toNat]!.qC.zM)::(sF true iY ce bZ sv[d.fA.toNat]!.qR.qG)::(sF true gh bE bH sv[d.fA.toNat]!.qR.qF)::(sF true lq cy cn sv[d.fA.toNat]!.qR.jA)::(sF true gr bG bI sv[d.fA.toNat]!.qR.qU)::(sF true lh cz cq sv[d.fA.toNat]!.qR.jH)::(sF true iR bW bX sv[d.fA.toNat]!.qR.zM)::(sF false Fp ap cp s.qA)::(sF false Fr ar cr s.qB)::(sF false Fo ao co own)::(qX true bq bB sv)::(qX true bg bu wi)::Γ)) ?_ ?_
    ·refine cE J (fun h39=>?_) (fun h39=>?_)
     ·have y1:jk s own n d.fA.toNat sv[d.fA.toNat]!.qC/\jk s own n d.fA.toNat sv[d.fA.toNat]!.qR:=p1.srv d.fA.toNat qf
      have y2:=y1.2.nowIn p0 ((j56.2 ql).1 ql).2 (j:=d.fB.toNat) qf
      have y4:=y2.2.1
      refine zf<|oF J<|oF J<|oL J (H.cell 2 J J)<|oF J<|oL J (H.cell 3 J J) ?_
      obtain⟨Ys,o41,rfl⟩:=H.addr 11 rfl qf
      obtain⟨aQs,aQU,aJx,H⟩:=H.yg 11 rfl d.fB d.fB.toNat qf qf qf
      refine oI J J<|oL J (H.zU 1 J 0 J)<|sw<|oc (XJ _ ((sv[d.fA.toNat]!.qR.jH)[d.fB.toNat]!) (H.get 0 J).1 qg) ?_
      rintro _ w45 ⟨anx,azi,aln,azy,azR,rfl,M,K⟩ _
      obtain⟨N,H⟩:=H.both K M N [18,19] 20 K0
      obtain rfl:=H.xf (α:=yLI) 0 rfl 0 rfl qj
      refine oF J<|sw<|zn H 2 [yI sv[d.fA.toNat]!.qC.qK,yI d.fA,yI d.fB,Sv anx (((sv[d.fA.toNat]!.qR.jH)[d.fB.toNat]!).length) aln] sizeOf29 fun w50 H=>?_
      dsimp only[List.set] at H
      refine xX<|meet ⟨_,sv[d.fA.toNat]!.qC.qK,anx,((sv[d.fA.toNat]!.qR.jH)[d.fB.toNat]!).length,aln,((sv[d.fA.toNat]!.qR.jH)[d.fB.toNat]!),azy,azR,uE2,?_,(N.xG 3 [1,2,0] xE),H.xG 9 21 (0::zR 2 7) (0::zR 4 17) xE xE⟩
      ·exact .inl ⟨by omega,J,J⟩
     have y1:jk s own n d.fA.toNat sv[d.fA.toNat]!.qC/\jk s own n d.fA.toNat sv[d.fA.toNat]!.qR:=p1.srv d.fA.toNat qf
     have y0:=y1.1.rnd
     have y5:=(j56.2 ql).2 qf
     have y2:=y1.1.lastIn p0 y5 (j:=d.fB.toNat) qf
     have y4:=y2.2.1
     refine zcr<|oF J<|oL J (H.cell 1 J J)<|sw<|o_sub sv[d.fA.toNat]!.qC.qK 1 J J qf<|oF J<|sw<|zn H 1 [yI ((sv[d.fA.toNat]!.qC.qK)-1),yI d.fA,yI d.fB,yN] sizeOf2 fun w51 H=>?_
     dsimp only[List.set] at H
     refine zjn<|zf<|oF J<|oF J<|oL J (H.cell 2 J J)<|oF J<|oL J (H.cell 3 J J) ?_
     obtain⟨Rq,o53,rfl⟩:=H.addr 6 rfl qf
     obtain⟨aLd,aQg,aK9,H⟩:=H.yg 6 rfl d.fB d.fB.toNat qf qf qf
     refine oI J J<|oL J (H.zU 1 J 0 J)<|sw<|oc (XJ _ ((sv[d.fA.toNat]!.qC.zM)[d.fB.toNat]!) (H.get 0 J).1 qg) ?_
     rintro _ w57 ⟨akU,aNW,apa,P6,aCR,rfl,M,K⟩ _
     obtain⟨N,H⟩:=H.both K M N [18,19] 20 K0
     obtain rfl:=H.xf (α:=yLI) 0 rfl 0 rfl qj
     refine oF J<|sw<|zn H 2 [yI ((sv[d.fA.toNat]!.qC.qK)-1),yI d.fA,yI d.fB,Sv akU (((sv[d.fA.toNat]!.qC.zM)[d.fB.toNat]!).length) apa] sizeOf29 fun w62 H=>?_
     dsimp only[List.set] at H
     refine xX<|meet ⟨_,(sv[d.fA.toNat]!.qC.qK)-1,akU,((sv[d.fA.toNat]!.qC.zM)[d.fB.toNat]!).length,apa,((sv[d.fA.toNat]!.qC.zM)[d.fB.toNat]!),P6,aCR,uE2,?_,(N.xG 3 [1,2,0] xE),H.xG 9 21 (0::zR 2 7) (0::zR 4 17) xE xE⟩
     ·exact .inr ⟨by omega,J,J⟩
    clear H N
    rintro ρ w63 ⟨xR,iC,kj,ju,ko,CP,vv,uC,rfl,j82,N,H⟩
    refine b_n<|t_n<|xO<|vW 4 J H [1,2,3,4,5,6] [0,1,2,3,4,5,6,7,8,9,10,11,12,13,14,15,16,17] fun H=>?_
    dsimp only[yu,yU]
    have S:=H.ve (zR 1 6)<|zR 0 18
    refine rtl 0 S ?_
    refine rtl 1 S ?_
    refine rtl 2 S ?_
    refine tF 3 J J S ?_
    refine tF 4 J J S ?_
    refine tL 5 J J (fun _ h=>h.cell 4 J J) S ?_
    refine rt 6 _ (yP (cs:=[yI iC,yI d.fA,yI d.fB,Sv kj ju ko]) isAgg77 sizeOf77 J<|fun _ h=>qH (h.cells 0 J) 0 4) S ?_
    refine ro 7 J<|zH H underlying37 ti77 [yI iC,yI d.fA,yI d.fB,Sv kj ju ko] fun NC w66 H=>⟨H.pick (zR 2 6)<|zR 0 18,(ro 8 J ?_)⟩
    have H0:=H
    obtain⟨G70,Ur,aA5,H⟩:=H.ji (α:=yLI) 1 rfl 0 rfl qj
    replace N:=H0.iceB N 3 [2,0,1] 1 Ur [16,17] 18 K0
    clear H0
    dsimp only[List.set] at H
    refine zQ H 8 J 0 J underlying37 ti77 J qj J J J qw qp qf fun W1 c68 w69 H=>?_
    dsimp only[List.set] at H
    replace H:=H.snoc_ParcelD 18 J iC d.fA d.fB 0 J
    replace N:=(N.Xr 3 [2,0,1]).join
    refine⟨H.pick (zR 2 6)<|zR 2 18,(xx qh<|zg<|sq 1<|oF J<|oF J<|sw<|zn H 6 [Sv (aa lF 0) sv.length bQ,Sv W1 (wi.length+1) c68,yI s.qQ,Sv ap s.qA.length cp,Sv ar s.qB.length cr,Sv ao own.length co] sizeOf37 fun w73 H=>?_)⟩
    dsimp only[List.set] at H
    refine zjc<|sp (yI 0)<|zjr<|ret1 (yI 0) J J ⟨_,J,?_⟩
    replace H:=H.erases [4,3,2,1,0]
    dsimp only[zL,List.eraseIdx,List.set] at H
    refine sp (yI 0)<|zjr<|b_r<|t_r<|ret1 (yI 0) J J ⟨_,J,?_⟩
    (rcases j82 with ⟨z1,z2,z3⟩|⟨z1,z2,z3⟩ <;> first|rw[doR_post0 z1 ⟨⟨by omega,by omega⟩,⟨by omega,by omega⟩,by omega⟩ ((j56.2 ql).1 z1) qf,←z2,←z3]|rw[doR_back0 z1 ⟨⟨by omega,by omega⟩,⟨by omega,by omega⟩,by omega⟩ ((j56.2 ql).2 z1) qf,←z2,←z3])
    all_goals exact⟨bB,bq,W1,wi.length+1,c68,bu++[Value.int .i64 iC,Value.int .i64 d.fA,Value.int .i64 d.fB,Value.slice kj ju ko],(bg++G70),rfl,(N.xG 2 [1,0] xE),H.xG 4 20 [1,2,3] [15,16,17,18,0] xE xE⟩
   replace gz:=xF gz
   replace gz:=Xl gz
   refine zk (zR 20 5)<|sp (Bv true)<|zjn<|cTr J<|zcr<|sp (yI 2)<|zjr<|t_r<|ret1 (yI 2) J J ⟨_,J,?_⟩
   replace H:=H.erases [0]
   dsimp only[zL,List.eraseIdx,List.set] at H
   refine sp (yI 2)<|zjr<|b_r<|t_r<|ret1 (yI 2) J J ⟨_,J,?_⟩
   rw[VY qf<|by(right;left;show ¬(0<=d.fB/\d.fB<=(sv.length:Int)-1);omega)]
   all_goals exact⟨bB,bq,bS,wi.length,bo,bu,bg,rfl,N,H.xG 4 5 [1,2,3] (zR 0 5) xE xE⟩
  replace cf:=xF cf
  replace cf:=Xl cf
  refine zk (zR 13 5)<|sp (Bv true)<|sp (Bv true)<|zk (zR 20 5)<|sp (Bv true)<|zjn<|cTr J<|zcr<|sp (yI 2)<|zjr<|t_r<|ret1 (yI 2) J J ⟨_,J,?_⟩
  replace H:=H.erases [0]
  dsimp only[zL,List.eraseIdx,List.set] at H
  refine sp (yI 2)<|zjr<|b_r<|t_r<|ret1 (yI 2) J J ⟨_,J,?_⟩
  rw[VY qf<|by(left;show ¬(0<=d.fA/\d.fA<=(sv.length:Int)-1);omega)]
  all_goals exact⟨bB,bq,bS,wi.length,bo,bu,bg,rfl,N,H.xG 4 5 [1,2,3] (zR 0 5) xE xE⟩
 (have k8:¬(d.xQ=3\/d.xQ=4):=fun z=>by have z:=j8.2 z;simp_all)
 refine zcc<|sp (Bv ((d.xQ:Int) == 6))<|sp (Bv ((d.xQ:Int) == 6))<|zjn<|c_cut (fun ρ w74=>∃(xR:Env) (t14:Bool),ρ=upd (upd (upd xR 0<|pp bk 0) 3<|pp b1 0) 14 (Bv t14)/\(t14=true<->(d.xQ=6\/d.xQ=7\/d.xQ=8))/\Fresh W0.heap.size (bq::bg::Ns)/\St W0 w74 ((.box b1 [yI d.xQ,yI d.fA,yI d.fB] 44)::(.box bk [Sv dN sv.length bQ,Sv bS wi.length bo,yI s.qQ,Sv ap s.qA.length cp,Sv ar s.qB.length cr,Sv ao own.length co] 74)::(rr dN sv.length bQ 49 16 bB)::(rr bS wi.length bo 77 4 bu)::ps) ((sF false Fp ap cp s.qA)::(sF false Fr ar cr s.qB)::(sF false Fo ao co own)::(qX true bq bB sv)::(qX true bg bu wi)::Γ)) ?_ ?_
 ·refine cE J (fun h75=>?_) (fun h75=>?_)
  ·refine xe (meet ⟨_,(d.xQ:Int) == 6,uE3,?_,N,H⟩)
   ·exact beq_iff_eq.trans ⟨fun h=>by omega,fun h=>by omega⟩
  refine zcr<|sp (Bv ((d.xQ:Int) == 7))<|sp (Bv ((d.xQ:Int) == 7))<|zjn<|cE J (fun h76=>?_)<|fun h76=>?_
  ·refine xe (meet ⟨_,(d.xQ:Int) == 7,uE3,?_,N,H⟩)
   ·exact beq_iff_eq.trans ⟨fun h=>by omega,fun h=>by omega⟩
  refine zf<|sp (Bv ((d.xQ:Int) == 8))<|sp (Bv ((d.xQ:Int) == 8))<|xX<|meet ⟨_,(d.xQ:Int) == 8,uE3,?_,N,H⟩
  ·exact beq_iff_eq.trans ⟨fun h=>by omega,fun h=>by omega⟩
 clear H N
 rintro ρ w77 ⟨xR,t14,rfl,j14,N,H⟩
 refine t_n<|vP _ J (fun h78=>?_)<|fun h78=>?_
 ·(have k14:=j14.1 ql)
  refine zcr<|sq 1<|sw<|xW [yI d.xQ,yI d.fA,yI d.fB] isAgg44 sizeOf44 J (qH (H.cells 0 J) 0 3)<|sw<|vF #[pp bk 0,.agg #[yI d.xQ,yI d.fA,yI d.fB]] J J call94<|en func94 ntmps94 ?_
  refine zcr<|sw<|jb H [yI d.xQ,yI d.fA,yI d.fB] fun rz TO H=>sp (yI 0)<|zjn<|xO<|xO<|vW 1 J H [0,1,2,3,4] [0,1,2,3,4] fun H=>?_
  dsimp only[yu,yU]
  have S:=H.ve (zR 0 5)<|zR 0 5
  refine tF 0 J J S ?_
  refine tL 1 J J (fun _ h=>h.cell 0 J J) S ?_
  refine rtl 2 S ?_
  refine rtl 3 S ?_
  refine tF 4 J J S ?_
  refine tF 5 J J S ?_
  refine tL 6 J J (fun _ h=>h.cell 2 J J) S ?_
  refine ro 7 J<|vF #[Sv bS wi.length bo] J J call134<|en func134 ntmps134 ?_
  refine zcr<|sp (yI 0)<|zjc<|sq 1<|oN J<|sq 1<|zjr<|ret1 (yI wi.length) J J ⟨_,J,(⟨H.pick (zR 0 5)<|zR 0 5,(xx qh<|zg<|sq 1<|zjn<|cD J (fun h82=>?_)<|fun h82=>?_)⟩)⟩
  ·refine zcr (sp (yI 2)<|zjr<|t_r<|ret1 (yI 2) J J ⟨_,J,?_⟩)
   replace H:=H.erases [0]
   dsimp only[zL,List.eraseIdx,List.set] at H
   refine sp (yI 2)<|zjr<|b_r<|t_r<|ret1 (yI 2) J J ⟨_,J,?_⟩
   rw[VX qf qf]
   all_goals exact⟨bB,bq,bS,wi.length,bo,bu,bg,rfl,N,H.xG 4 5 [1,2,3] (zR 0 5) xE xE⟩
  have y1:ParcelOk s own n (wi[d.fA.toNat]!):=p1.wire d.fA.toNat<|by show _<wi.length;omega
  have y2:=y1.1
  have y3:=y1.2.1
  have y5:jk s own n wi[d.fA.toNat]!.fTo.toNat (sv[wi[d.fA.toNat]!.fTo.toNat]!).qC:=(p1.srv _ qf).1
  refine xe<|t_n<|zcc<|oF J<|oL J (H.cell 0 J J)<|sp (Bv ((d.xQ:Int) != 8))<|zjn<|vP ((d.xQ:Int) != 8) J (fun zw=>?_)<|fun zw=>?_
  ·replace zw:=bne_iff_ne.1 zw
   refine xO<|vW 2 J H [0,1,2,3,4] [0,1,2,3,4] fun H=>?_
   dsimp only[yu,yU]
   have S:=H.ve (zR 0 5)<|zR 0 5
   refine rtl 0 S ?_
   refine rtl 1 S ?_
   refine rtl 2 S ?_
   refine tF 3 J J S ?_
   refine tF 4 J J S ?_
   refine tL 5 J J (fun _ h=>h.cell 2 J J) S ?_
   refine tF 6 J J S ?_
   refine tL 7 J J (fun _ h=>h.cell 0 J J) S ?_
   obtain⟨ky,rfl⟩:=H.jm 4 rfl qf
   refine tI 8 J J J (H.pick (zR 0 5)<|zR 0 5) ?_
   obtain⟨vr,zb,asP,aiP,H⟩:=H.part_ParcelD QI.refl 4 rfl 4 rfl rfl d.fA.toNat qf
   refine rt 9 _ (yP (off:=0+(d.fA:Int).toNat*4) (cs:=[yI wi[d.fA.toNat]!.qK,yI wi[d.fA.toNat]!.Q9,yI wi[d.fA.toNat]!.fTo,Sv vr wi[d.fA.toNat]!.qG.length zb]) isAgg77 sizeOf77 J<|fun _ h=>(fun r v hv=>h.zD 4 J (aiP r v hv) qf)) (H.pick (zR 0 5)<|zR 1 5) ?_
   refine xx qh<|zg<|sw<|vF #[pp bk 0,.agg #[yI wi[d.fA.toNat]!.qK,yI wi[d.fA.toNat]!.Q9,yI wi[d.fA.toNat]!.fTo,Sv vr wi[d.fA.toNat]!.qG.length zb]] J J call135<|en func135 ntmps135 ?_
   refine zcr<|sw<|jb H [yI wi[d.fA.toNat]!.qK,yI wi[d.fA.toNat]!.Q9,yI wi[d.fA.toNat]!.fTo,Sv vr wi[d.fA.toNat]!.qG.length zb] fun b88 w89 H=>sp (yI 0)<|zjn<|xO<|vW 3 J H [0,1,2,3,4,5] [0,1,2,3,4,5] fun H=>?_
   dsimp only[yu,yU]
   have S:=H.ve (zR 0 6)<|zR 0 6
   refine rtl 0 S ?_
   refine rtl 1 S ?_
   refine tF 2 J J S ?_
   refine tF 3 J J S ?_
   refine tL 4 J J (fun _ h=>h.cell 3 J J) S ?_
   refine tF 5 J J S ?_
   refine tL 6 J J (fun _ h=>h.cell 0 J J) S ?_
   refine xx qh<|zg ?_
   obtain⟨b91,rfl⟩:=H.jm 4 rfl qf
   refine oI J J<|oF J<|sq 1<|zjn<|xO<|xO<|vW 1 J H [0,1,2,3,4,5] [0,1,2,3,4,5] fun H=>?_
   dsimp only[yu,yU]
   have S:=H.ve (zR 0 6)<|zR 0 6
   refine rtl 0 S ?_
   refine rtl 1 S ?_
   refine tF 2 J J S ?_
   obtain⟨akE,aho,anJ,abq,aci,adq,atN,aum,atz,ab5,adI,ac6,auv,atD,at9,ani,asf,akg,FSz,H⟩:=H.jV zV 4 rfl 4 rfl rfl wi[d.fA.toNat]!.fTo.toNat qf
   have S:=H.ve (zR 0 6)<|zR 6 6
   refine rt 3 _ (jZ (off:=0+(wi[d.fA.toNat]!.fTo:Int).toNat*16+0+3) isAgg4 J<|fun _ h=>(h.zD 4 J (FSz 3 _ J) qf)) S ?_
   refine rtp 4 (Bv (!(((sv[wi[d.fA.toNat]!.fTo.toNat]!).qC).qY))) S ?_
   refine rtp 5 (Bv (!(((sv[wi[d.fA.toNat]!.fTo.toNat]!).qC).qY))) S ?_
   cases Uo:(!(((sv[wi[d.fA.toNat]!.fTo.toNat]!).qC).qY))
   ·replace Uo:=xw Uo
    have y6:=y5.got ql
    have y7:=y6.2.1
    obtain⟨y8,y9⟩:=plusPre p0.sys y6.2.2.1 y1.2.2.1
    have S:=H.ve (zR 0 6)<|zR 6 6
    refine rgl 6 21 S ?_
    refine rgl 7 21 S ?_
    refine gF 8 J J S ?_
    refine rg 9 _ 21 (jZ (off:=0+(wi[d.fA.toNat]!.fTo:Int).toNat*16+0+0) isAgg2 J<|fun _ h=>(h.zD 4 J (FSz 0 _ J) qf)) S ?_
    refine gF 10 J J S ?_
    refine gL 11 J J (fun _ h=>h.cell 0 J J) S ?_
    refine rgp 12 (Bv ((((sv[wi[d.fA.toNat]!.fTo.toNat]!).qC).qK:Int) != wi[d.fA.toNat]!.qK)) 21 S ?_
    refine rtp 13 (Bv ((((sv[wi[d.fA.toNat]!.fTo.toNat]!).qC).qK:Int) != wi[d.fA.toNat]!.qK)) S ?_
    refine rtp 14 (Bv ((((sv[wi[d.fA.toNat]!.fTo.toNat]!).qC).qK:Int) != wi[d.fA.toNat]!.qK)) S ?_
    cases S1:((((sv[wi[d.fA.toNat]!.fTo.toNat]!).qC).qK:Int) != wi[d.fA.toNat]!.qK)
    ·replace S1:=zo S1
     have S:=H.ve (zR 0 6)<|zR 6 6
     refine rgl 15 30 S ?_
     refine rgl 16 30 S ?_
     refine gF 17 J J S ?_
     refine rg 18 _ 30 (jZ (off:=0+(wi[d.fA.toNat]!.fTo:Int).toNat*16+0+4) isAgg28 J<|fun _ h=>(h.zD 4 J (FSz 4 _ J) qf)) S ?_
     refine gF 19 J J S ?_
     refine gL 20 J J (fun _ h=>h.cell 0 J J) S ?_
     obtain⟨b97,o98,rfl⟩:=H.addr 2 rfl qf
     refine gI 21 rfl rfl rfl (H.pick (zR 0 6)<|zR 6 6)<|jw [22] qh qm<|Vu rfl (e:=30) rfl rfl (zx (Bv ((((sv[wi[d.fA.toNat]!.fTo.toNat]!).qC).jA)[wi[d.fA.toNat]!.Q9.toNat]!)) isAgg4 rfl (H.elemBool 2 rfl wi[d.fA.toNat]!.Q9 qf qf)<|⟨H.pick (zR 0 6)<|zR 6 6,(xx qh<|zg<|sq 1<|zjn<|vP _ rfl (fun FX=>?_)<|fun FX=>?_)⟩) jy
     ·refine zcr (sp (yI 0)<|zjr<|t_r<|ret1 (yI 0) J J ⟨_,J,?_⟩)
      replace H:=H.erases [0]
      dsimp only[zL,List.eraseIdx,List.set] at H
      refine sp (yI 0)<|zjc<|sp (yI 0)<|sp (Bv false)<|zjn<|cFr J<|xe<|t_n<|zcc<|oF J<|oL J (H.cell 0 J J)<|sp (Bv ((d.xQ:Int) != 7))<|zjn<|vP ((d.xQ:Int) != 7) J (fun sx=>?_)<|fun sx=>?_
      ·replace sx:=bne_iff_ne.1 sx
       refine vW 4 J H [0,1,2,3] [0,1,2,3,4,5,6,7,8,9,10,11] fun H=>?_
       dsimp only[yu,yU]
       have S:=H.ve (zR 0 4)<|zR 0 12
       refine rtl 0 S ?_
       refine rtl 1 S ?_
       refine rtl 2 S ?_
       refine tF 3 J J S ?_
       refine tF 4 J J S ?_
       refine tL 5 J J (fun _ h=>h.cell 2 J J) S ?_
       refine tF 6 J J S ?_
       refine tL 7 J J (fun _ h=>h.cell 0 J J) S ?_
       refine tF 8 J J S ?_
       refine tL 9 J J (fun _ h=>h.cell 0 J J) S ?_
       refine rt 10 _ (y_add d.fA 1 J J qf) S ?_
       refine ro 11 J<|zT #[Sv (aa ky 0) wi.length bo,yI d.fA,yI<|d.fA+1] J J call136 (delP H 4 J 11 J d.fA.toNat qf qf qf) ?_
       rintro _ KP ⟨YU,aoR,rfl,Mu,H⟩
       replace N:=Fresh.less (N.Xr 2 [1,0]) Mu.1 Mu.2
       refine⟨H.pick (zR 0 4)<|zR 1 12,(xx qh<|zg<|sq 1<|oF J<|oF J<|sw<|zn H 2 [Sv (aa b91 0) sv.length bQ,Sv (aa ky 0) ((wi.eraseIdx d.fA.toNat).length) bo,yI s.qQ,Sv ap s.qA.length cp,Sv ar s.qB.length cr,Sv ao own.length co] sizeOf37 fun anS H=>?_)⟩
       dsimp only[List.set] at H
       refine zjc<|sp (yI 0)<|zjr<|ret1 (yI 0) J J ⟨_,J,?_⟩
       replace H:=H.erases [0]
       dsimp only[zL,List.eraseIdx,List.set] at H
       refine sp (yI 0)<|zjr<|b_r<|t_r<|ret1 (yI 0) J J ⟨_,J,?_⟩
       rw[doR_stale6 qf qf<|stale_or<|by exact .inr<|.inr ql]
       all_goals exact⟨bB,bq,(aa ky 0),(wi.eraseIdx d.fA.toNat).length,bo,YU,aoR,rfl,(N.xG 2 [1,0] xE),H.xG 4 13 [1,2,3] [8,9,10,11,0] xE xE⟩
      replace sx:=zo sx
      refine xe<|t_n<|zcr<|sp (yI 0)<|zjr<|ret1 (yI 0) J J ⟨_,J,?_⟩
      replace H:=H.erases [0]
      dsimp only[zL,List.eraseIdx,List.set] at H
      refine sp (yI 0)<|zjr<|b_r<|t_r<|ret1 (yI 0) J J ⟨_,J,?_⟩
      rw[doR_stale7 qf qf<|stale_or<|by exact .inr<|.inr ql]
      all_goals exact⟨bB,bq,(aa ky 0),wi.length,bo,bu,bg,rfl,N,H.xG 4 12 [1,2,3] (zR 7 5) xE xE⟩
     refine xe<|t_n<|xO<|vW 2 J H [0,1,2,3,4,5] [0,1,2,3,4,5,6,7,8,9,10,11] fun H=>?_
     dsimp only[yu,yU]
     have S:=H.ve (zR 0 6)<|zR 0 12
     refine rtl 0 S ?_
     refine rtl 1 S ?_
     refine tF 2 J J S ?_
     refine rt 3 _ (jZ (off:=0+(wi[d.fA.toNat]!.fTo:Int).toNat*16+0+5) isAgg29 J<|fun _ h=>(h.zD 4 J (FSz 5 _ J) qf)) S ?_
     refine tF 4 J J S ?_
     refine tL 5 J J (fun _ h=>h.cell 0 J J) S ?_
     refine xx qh<|zg<|sw<|oc (added_ok _ (((sv[wi[d.fA.toNat]!.fTo.toNat]!).qC).qU) wi[d.fA.toNat]!.qG (H.get 3 J).1 (H.get 6 J).1 qg qg) ?_
     rintro _ abm ⟨Ay,aH5,vq,aGl,aIm,rfl,M,K⟩ _
     obtain⟨N,H⟩:=H.both K M N [10,11] 12 K0
     obtain rfl:=H.xf (α:=yLI) 0 rfl 0 rfl qj
     refine sq 1<|zjcc<|sq 1 ?_
     obtain⟨K3,aHV,Nc⟩:=H.Vd (α:=yLI) 0 rfl 0 rfl qj
     refine sw<|oq (areBags_ok _ (QO (((sv[wi[d.fA.toNat]!.fTo.toNat]!).qC).qU) wi[d.fA.toNat]!.qG) Nc) H fun aB6 H=>sq 1<|zjn<|cQ J (fun ab3=>?_)<|fun ab3=>?_
     ·refine zcr (sp (yI 3)<|zjr<|t_r<|ret1 (yI 3) J J ⟨_,J,?_⟩)
      replace H:=H.erases [1,0]
      dsimp only[zL,List.eraseIdx,List.set] at H
      refine sp (yI 3)<|zjc<|sp (yI 3)<|sp (Bv true)<|zjn<|cTr J<|zcr<|sp (yI 3)<|sp (yI 3)<|zjr<|t_r<|ret1 (yI 3) J J ⟨_,J,?_⟩
      replace H:=H.erases [0]
      dsimp only[zL,List.eraseIdx,List.set] at H
      refine sp (yI 3)<|zjr<|b_r<|t_r<|ret1 (yI 3) J J ⟨_,J,?_⟩
      rw[doR_come3 qf qf (fresh_and ql ql ql) ql]
      all_goals exact⟨bB,bq,(aa ky 0),wi.length,bo,bu,bg,rfl,(N.xG 3 [1,2] xE),H.xG 4 13 [1,2,3] (zR 8 5) xE xE⟩
     refine xe<|t_n<|zcr<|sq 3<|oF J ?_
     have H0:=H
     obtain⟨asi,Za,aE7,H⟩:=H.ji (α:=yLI) 0 rfl 0 rfl qj
     replace N:Fresh W0.heap.size (asi::bq::bg::Ns):=Fresh.ice N H0 0 Za.1 Za.2<|H0.awB [11,12] 13 K0
     clear H0
     dsimp only[List.set] at H
     obtain⟨HG,HH⟩:∃z,z=(sv.set wi[d.fA.toNat]!.fTo.toNat { sv[wi[d.fA.toNat]!.fTo.toNat]! with qC:={ sv[wi[d.fA.toNat]!.fTo.toNat]!.qC with qU:=QO (((sv[wi[d.fA.toNat]!.fTo.toNat]!).qC).qU) (wi[d.fA.toNat]!.qG)}}):=⟨_,rfl⟩
     refine sw<|Ve (v:=Sv Ay ((QO (((sv[wi[d.fA.toNat]!.fTo.toNat]!).qC).qU) wi[d.fA.toNat]!.qG).length) vq) Vk H 5 J 12 J 0 J J sizeOf29 J J J wi[d.fA.toNat]!.fTo.toNat qf qf HH fun PG ZW aBP anK H=>?_
     dsimp only[List.set] at H
     replace N:=(N.Xr 3 [1,0,2]).repl anK
     obtain⟨u1,u2⟩:=come_len qf HH y7
     refine zjn<|xO<|vW 2 J H [0,1,2,3,4,5,6] [0,1,2,3,4,5,6,7,8,9,10,11,12,13,14] fun H=>?_
     dsimp only[yu,yU]
     have S:=H.ve (zR 0 7)<|zR 0 15
     refine rtl 0 S ?_
     refine rtl 1 S ?_
     refine tF 2 J J S ?_
     obtain⟨aeZ,afJ,afi,aaz,Zr,YR,ahd,aoY,akR,Zt,Zl,U8,alX,aoM,arp,afO,agi,agu,UP,H⟩:=H.jV zV 5 rfl 0 rfl rfl wi[d.fA.toNat]!.fTo.toNat qf
     have S:=H.ve (zR 0 7)<|zR 6 15
     refine rt 3 _ (jZ (off:=0+(wi[d.fA.toNat]!.fTo:Int).toNat*16+0+4) isAgg28 J<|fun _ h=>(h.zD 5 J (UP 4 _ J) qf)) S ?_
     refine tF 4 J J S ?_
     refine tL 5 J J (fun _ h=>h.cell 1 J J) S ?_
     refine xx qh<|zg ?_
     obtain⟨NW,aJV,rfl⟩:=H.addr 2 rfl qf
     refine oI J J ?_
     have N0:Fresh W0.heap.size (aBP::bg::Ns):=N
     obtain⟨aHQ,OS⟩:∃z,z=(HG.set wi[d.fA.toNat]!.fTo.toNat { HG[wi[d.fA.toNat]!.fTo.toNat]! with qC:={ HG[wi[d.fA.toNat]!.fTo.toNat]!.qC with jA:=(((HG[wi[d.fA.toNat]!.fTo.toNat]!).qC.jA).set wi[d.fA.toNat]!.Q9.toNat true)}}):=⟨_,rfl⟩
     refine sw<|o_pokeBool X5 H 6 J N0 ((sF false Fp ap cp s.qA)::(sF false Fr ar cr s.qB)::(sF false Fo ao co own)::(qX true bg bu wi)::Γ) (jf (kept 16 J<|X6 OL 0 J N0)<|jf (kept 17 J<|X6 OL 1 J N0)<|jf (kept 18 J<|X6 OL 2 J N0)<|jf (kept 20 J<|Xn N0 0 J)<|keeps_old 21 J OL 3 J N0) wi[d.fA.toNat]!.fTo.toNat qf J (UP 4 _ J) wi[d.fA.toNat]!.Q9.toNat qf sizeOf4 J qf J OS fun LD ahB N H=>zjc<|sp (yI 0)<|zjr<|ret1 (yI 0) J J ⟨_,J,?_⟩
     replace H:=H.erases [1,0]
     dsimp only[zL,List.eraseIdx,List.set] at H
     refine sp (yI 0)<|zjc<|sp (yI 0)<|sp (Bv false)<|zjn<|cFr J<|xe<|t_n<|zcc<|oF J<|oL J (H.cell 0 J J)<|sp (Bv ((d.xQ:Int) != 7))<|zjn<|vP ((d.xQ:Int) != 7) J (fun Gz=>?_)<|fun Gz=>?_
     ·replace Gz:=bne_iff_ne.1 Gz
      refine vW 4 J H [0,1,2,3] [0,1,2,3,4] fun H=>?_
      dsimp only[yu,yU]
      have S:=H.ve (zR 0 4)<|zR 0 5
      refine rtl 0 S ?_
      refine rtl 1 S ?_
      refine rtl 2 S ?_
      refine tF 3 J J S ?_
      refine tF 4 J J S ?_
      refine tL 5 J J (fun _ h=>h.cell 2 J J) S ?_
      refine tF 6 J J S ?_
      refine tL 7 J J (fun _ h=>h.cell 0 J J) S ?_
      refine tF 8 J J S ?_
      refine tL 9 J J (fun _ h=>h.cell 0 J J) S ?_
      refine rt 10 _ (y_add d.fA 1 J J qf) S ?_
      refine ro 11 J<|zT #[Sv (aa ky 0) wi.length bo,yI d.fA,yI<|d.fA+1] J J call136 (delP H 4 J 4 J d.fA.toNat qf qf qf) ?_
      rintro _ aC1 ⟨ark,aBc,rfl,WB,H⟩
      replace N:=Fresh.less (N.Xr 2 [1,0]) WB.1 WB.2
      refine⟨H.pick (zR 0 4)<|zR 1 5,(xx qh<|zg<|sq 1<|oF J<|oF J<|sw<|zn H 2 [Sv (aa b91 0) sv.length bQ,Sv (aa ky 0) ((wi.eraseIdx d.fA.toNat).length) bo,yI s.qQ,Sv ap s.qA.length cp,Sv ar s.qB.length cr,Sv ao own.length co] sizeOf37 fun aBU H=>?_)⟩
      dsimp only[List.set] at H
      refine zjc<|sp (yI 0)<|zjr<|ret1 (yI 0) J J ⟨_,J,?_⟩
      replace H:=H.erases [0]
      dsimp only[zL,List.eraseIdx,List.set] at H
      refine sp (yI 0)<|zjr<|b_r<|t_r<|ret1 (yI 0) J J ⟨_,J,?_⟩
      rw[doR_come6 qf qf (fresh_and ql ql ql) ql<|got_sets qf HH OS]
      all_goals exact⟨ZW,ahB,(aa ky 0),(wi.eraseIdx d.fA.toNat).length,bo,ark,aBc,rfl,(N.xG 2 [1,0] xE),H.xG 4 6 [1,2,3] [2,3,4,1,0] xE xE⟩
     replace Gz:=zo Gz
     refine xe<|t_n<|zcr<|sp (yI 0)<|zjr<|ret1 (yI 0) J J ⟨_,J,?_⟩
     replace H:=H.erases [0]
     dsimp only[zL,List.eraseIdx,List.set] at H
     refine sp (yI 0)<|zjr<|b_r<|t_r<|ret1 (yI 0) J J ⟨_,J,?_⟩
     rw[doR_come7 qf qf (fresh_and ql ql ql) ql<|got_sets qf HH OS]
     all_goals exact⟨ZW,ahB,(aa ky 0),wi.length,bo,bu,bg,rfl,N,H.xG 4 5 [1,2,3] [1,2,3,0,4] xE xE⟩
    replace S1:=bne_iff_ne.1 S1
    refine vC (zR 15 8) 8 (H.pick (zR 0 6)<|zR 6 6)<|xx qh<|zg<|sp (Bv true)<|zjn<|cTr J<|zcr<|sp (yI 0)<|zjr<|t_r<|ret1 (yI 0) J J ⟨_,J,?_⟩
    replace H:=H.erases [0]
    dsimp only[zL,List.eraseIdx,List.set] at H
    refine sp (yI 0)<|zjc<|sp (yI 0)<|sp (Bv false)<|zjn<|cFr J<|xe<|t_n<|zcc<|oF J<|oL J (H.cell 0 J J)<|sp (Bv ((d.xQ:Int) != 7))<|zjn<|vP ((d.xQ:Int) != 7) J (fun xc=>?_)<|fun xc=>?_
    ·replace xc:=bne_iff_ne.1 xc
     refine vW 4 J H [0,1,2,3] [0,1,2,3,4,5,6,7,8,9,10,11] fun H=>?_
     dsimp only[yu,yU]
     have S:=H.ve (zR 0 4)<|zR 0 12
     refine rtl 0 S ?_
     refine rtl 1 S ?_
     refine rtl 2 S ?_
     refine tF 3 J J S ?_
     refine tF 4 J J S ?_
     refine tL 5 J J (fun _ h=>h.cell 2 J J) S ?_
     refine tF 6 J J S ?_
     refine tL 7 J J (fun _ h=>h.cell 0 J J) S ?_
     refine tF 8 J J S ?_
     refine tL 9 J J (fun _ h=>h.cell 0 J J) S ?_
     refine rt 10 _ (y_add d.fA 1 J J qf) S ?_
     refine ro 11 J<|zT #[Sv (aa ky 0) wi.length bo,yI d.fA,yI<|d.fA+1] J J call136 (delP H 4 J 11 J d.fA.toNat qf qf qf) ?_
     rintro _ axt ⟨atk,ayd,rfl,Yw,H⟩
     replace N:=Fresh.less (N.Xr 2 [1,0]) Yw.1 Yw.2
     refine⟨H.pick (zR 0 4)<|zR 1 12,(xx qh<|zg<|sq 1<|oF J<|oF J<|sw<|zn H 2 [Sv (aa b91 0) sv.length bQ,Sv (aa ky 0) ((wi.eraseIdx d.fA.toNat).length) bo,yI s.qQ,Sv ap s.qA.length cp,Sv ar s.qB.length cr,Sv ao own.length co] sizeOf37 fun RV H=>?_)⟩
     dsimp only[List.set] at H
     refine zjc<|sp (yI 0)<|zjr<|ret1 (yI 0) J J ⟨_,J,?_⟩
     replace H:=H.erases [0]
     dsimp only[zL,List.eraseIdx,List.set] at H
     refine sp (yI 0)<|zjr<|b_r<|t_r<|ret1 (yI 0) J J ⟨_,J,?_⟩
     rw[doR_stale6 qf qf<|stale_or<|by exact .inr<|.inl ql]
     all_goals exact⟨bB,bq,(aa ky 0),(wi.eraseIdx d.fA.toNat).length,bo,atk,ayd,rfl,(N.xG 2 [1,0] xE),H.xG 4 13 [1,2,3] [8,9,10,11,0] xE xE⟩
    replace xc:=zo xc
    refine xe<|t_n<|zcr<|sp (yI 0)<|zjr<|ret1 (yI 0) J J ⟨_,J,?_⟩
    replace H:=H.erases [0]
    dsimp only[zL,List.eraseIdx,List.set] at H
    refine sp (yI 0)<|zjr<|b_r<|t_r<|ret1 (yI 0) J J ⟨_,J,?_⟩
    rw[doR_stale7 qf qf<|stale_or<|by exact .inr<|.inl ql]
    all_goals exact⟨bB,bq,(aa ky 0),wi.length,bo,bu,bg,rfl,N,H.xG 4 12 [1,2,3] (zR 7 5) xE xE⟩
   replace Uo:=xF Uo
   refine vC (zR 6 7) 7 (H.pick (zR 0 6)<|zR 6 6) ?_
   have S:=H.ve (zR 0 6)<|zR 6 6
   refine rtp 13 (Bv true) S ?_
   refine rtp 14 (Bv true) S ?_
   refine vC (zR 15 8) 8 (H.pick (zR 0 6)<|zR 6 6)<|xx qh<|zg<|sp (Bv true)<|zjn<|cTr J<|zcr<|sp (yI 0)<|zjr<|t_r<|ret1 (yI 0) J J ⟨_,J,?_⟩
   replace H:=H.erases [0]
   dsimp only[zL,List.eraseIdx,List.set] at H
   refine sp (yI 0)<|zjc<|sp (yI 0)<|sp (Bv false)<|zjn<|cFr J<|xe<|t_n<|zcc<|oF J<|oL J (H.cell 0 J J)<|sp (Bv ((d.xQ:Int) != 7))<|zjn<|vP ((d.xQ:Int) != 7) J (fun Ae=>?_)<|fun Ae=>?_
   ·replace Ae:=bne_iff_ne.1 Ae
    refine vW 4 J H [0,1,2,3] [0,1,2,3,4,5,6,7,8,9,10,11] fun H=>?_
    dsimp only[yu,yU]
    have S:=H.ve (zR 0 4)<|zR 0 12
    refine rtl 0 S ?_
    refine rtl 1 S ?_
    refine rtl 2 S ?_
    refine tF 3 J J S ?_
    refine tF 4 J J S ?_
    refine tL 5 J J (fun _ h=>h.cell 2 J J) S ?_
    refine tF 6 J J S ?_
    refine tL 7 J J (fun _ h=>h.cell 0 J J) S ?_
    refine tF 8 J J S ?_
    refine tL 9 J J (fun _ h=>h.cell 0 J J) S ?_
    refine rt 10 _ (y_add d.fA 1 J J qf) S ?_
    refine ro 11 J<|zT #[Sv (aa ky 0) wi.length bo,yI d.fA,yI<|d.fA+1] J J call136 (delP H 4 J 11 J d.fA.toNat qf qf qf) ?_
    rintro _ RT ⟨ag5,axX,rfl,WA,H⟩
    replace N:=Fresh.less (N.Xr 2 [1,0]) WA.1 WA.2
    refine⟨H.pick (zR 0 4)<|zR 1 12,(xx qh<|zg<|sq 1<|oF J<|oF J<|sw<|zn H 2 [Sv (aa b91 0) sv.length bQ,Sv (aa ky 0) ((wi.eraseIdx d.fA.toNat).length) bo,yI s.qQ,Sv ap s.qA.length cp,Sv ar s.qB.length cr,Sv ao own.length co] sizeOf37 fun abQ H=>?_)⟩
    dsimp only[List.set] at H
    refine zjc<|sp (yI 0)<|zjr<|ret1 (yI 0) J J ⟨_,J,?_⟩
    replace H:=H.erases [0]
    dsimp only[zL,List.eraseIdx,List.set] at H
    refine sp (yI 0)<|zjr<|b_r<|t_r<|ret1 (yI 0) J J ⟨_,J,?_⟩
    rw[doR_stale6 qf qf<|stale_or<|by exact .inl ql]
    all_goals exact⟨bB,bq,(aa ky 0),(wi.eraseIdx d.fA.toNat).length,bo,ag5,axX,rfl,(N.xG 2 [1,0] xE),H.xG 4 13 [1,2,3] [8,9,10,11,0] xE xE⟩
   replace Ae:=zo Ae
   refine xe<|t_n<|zcr<|sp (yI 0)<|zjr<|ret1 (yI 0) J J ⟨_,J,?_⟩
   replace H:=H.erases [0]
   dsimp only[zL,List.eraseIdx,List.set] at H
   refine sp (yI 0)<|zjr<|b_r<|t_r<|ret1 (yI 0) J J ⟨_,J,?_⟩
   rw[doR_stale7 qf qf<|stale_or<|by exact .inl ql]
   all_goals exact⟨bB,bq,(aa ky 0),wi.length,bo,bu,bg,rfl,N,H.xG 4 12 [1,2,3] (zR 7 5) xE xE⟩
  replace zw:=zo zw
  refine xe<|t_n<|zcc<|oF J<|oL J (H.cell 0 J J)<|sp (Bv ((d.xQ:Int) != 7))<|zjn<|vP ((d.xQ:Int) != 7) J (fun GL=>?_)<|fun GL=>?_
  ·replace GL:=bne_iff_ne.1 GL
   refine vW 4 J H [0,1,2,3] [0,1,2,3,4] fun H=>?_
   dsimp only[yu,yU]
   have S:=H.ve (zR 0 4)<|zR 0 5
   refine rtl 0 S ?_
   refine rtl 1 S ?_
   refine rtl 2 S ?_
   refine tF 3 J J S ?_
   refine tF 4 J J S ?_
   refine tL 5 J J (fun _ h=>h.cell 2 J J) S ?_
   refine tF 6 J J S ?_
   refine tL 7 J J (fun _ h=>h.cell 0 J J) S ?_
   refine tF 8 J J S ?_
   refine tL 9 J J (fun _ h=>h.cell 0 J J) S ?_
   refine rt 10 _ (y_add d.fA 1 J J qf) S ?_
   refine ro 11 J ?_
   obtain⟨acO,rfl⟩:=H.jm 4 rfl qf
   refine zT #[Sv (aa acO 0) wi.length bo,yI d.fA,yI<|d.fA+1] J J call136 (delP H 4 J 4 J d.fA.toNat qf qf qf) ?_
   rintro _ ajo ⟨ap3,aCp,rfl,YC,H⟩
   replace N:=Fresh.less (N.Xr 2 [1,0]) YC.1 YC.2
   refine⟨H.pick (zR 0 4)<|zR 1 5,(xx qh<|zg<|sq 1<|oF J<|oF J<|sw<|zn H 2 [Sv dN sv.length bQ,Sv (aa acO 0) ((wi.eraseIdx d.fA.toNat).length) bo,yI s.qQ,Sv ap s.qA.length cp,Sv ar s.qB.length cr,Sv ao own.length co] sizeOf37 fun ay7 H=>?_)⟩
   dsimp only[List.set] at H
   refine zjc<|sp (yI 0)<|zjr<|ret1 (yI 0) J J ⟨_,J,?_⟩
   replace H:=H.erases [0]
   dsimp only[zL,List.eraseIdx,List.set] at H
   refine sp (yI 0)<|zjr<|b_r<|t_r<|ret1 (yI 0) J J ⟨_,J,?_⟩
   rw[doR_drop qf qf]
   all_goals exact⟨bB,bq,(aa acO 0),(wi.eraseIdx d.fA.toNat).length,bo,ap3,aCp,rfl,(N.xG 2 [1,0] xE),H.xG 4 6 [1,2,3] [1,2,3,4,0] xE xE⟩
  replace GL:=zo GL
  refine xe<|t_n<|zcr<|sp (yI 0)<|zjr<|ret1 (yI 0) J J ⟨_,J,?_⟩
  replace H:=H.erases [0]
  dsimp only[zL,List.eraseIdx,List.set] at H
  refine sp (yI 0)<|zjr<|b_r<|t_r<|ret1 (yI 0) J J ⟨_,J,?_⟩
  (exfalso;omega)
  all_goals exact⟨bB,bq,bS,wi.length,bo,bu,bg,rfl,N,H.xG 4 5 [1,2,3] (zR 0 5) xE xE⟩
 (have k14:¬(d.xQ=6\/d.xQ=7\/d.xQ=8):=fun z=>by have z:=j14.2 z;simp_all)
 refine xe<|b_n<|t_n<|zcc<|sq 1<|oF J<|oL J (H.cell 0 J J)<|sw<|vF #[pp bk 0,yI d.fA] J J call95<|en func95 ntmps95 ?_
 refine zcr<|sp (Bv false)<|zjc<|sq 3<|oF J<|oF J<|oL J (H.cell 1 J J)<|sw<|vF #[Sv dN sv.length bQ] J J call137<|en func137 ntmps137 ?_
 refine zcr<|sp (yI 0)<|zjc<|sq 1<|oN J<|sq 1<|zjr<|ret1 (yI sv.length) J J ⟨_,J,(sw<|o_sub sv.length 1 J J qf<|sw<|oq (XX w77 d.fA 0<|sv.length-1) H fun aiV H=>sq 1<|zjr<|ret1 (Bv<|inR d.fA 0<|sv.length-1) J J ⟨_,J,(sp (Bv (!(inR d.fA 0<|sv.length-1)))<|zjn<|vP _ J (fun ru=>?_)<|fun ru=>?_)⟩)⟩
 ·replace ru:=xF ru
  replace ru:=Xl ru
  refine zcr<|sp (yI 2)<|zjr<|t_r<|ret1 (yI 2) J J ⟨_,J,?_⟩
  rw[VZ qf<|by show ¬(0<=d.fA/\d.fA<=(sv.length:Int)-1);omega]
  all_goals exact⟨bB,bq,bS,wi.length,bo,bu,bg,rfl,N,H.xG 4 5 [1,2,3] (zR 0 5) xE xE⟩
 replace ru:=xw ru
 replace ru:=QW.1 ru
 refine xe<|t_n<|xO<|vW 2 J H [0,1,2,3] [0,1,2,3,4] fun H=>?_
 dsimp only[yu,yU]
 have S:=H.ve (zR 0 4)<|zR 0 5
 refine rtl 0 S ?_
 refine rtl 1 S ?_
 refine tF 2 J J S ?_
 refine tF 3 J J S ?_
 refine tL 4 J J (fun _ h=>h.cell 1 J J) S ?_
 refine tF 5 J J S ?_
 refine tL 6 J J (fun _ h=>h.cell 0 J J) S ?_
 refine xx qh<|zg ?_
 obtain⟨SY,rfl⟩:=H.jm 2 rfl qf
 refine oI J J<|sq 1<|zjcc<|oF J<|oL J (H.cell 0 J J)<|zjn<|xg<|zcr<|sp (Bv ((d.xQ:Int) == 1))<|sp (Bv ((d.xQ:Int) == 1))<|zjn<|cE J (fun aAs=>?_)<|fun aAs=>?_
 ·refine zcr (sq 1<|oF J<|oL J (H.cell 0 J J) ?_)
  have H1:=H.yD 4 5 [1,2,3,0] [0,1,2,3,4] xE xE
  have N1:Fresh _ (bq::bg::Ns):=N
  have K1:Kept (Ns) (Γ):=K0.behind 0 J
  refine sw<|zT #[pp bk 0,yI d.fA] J J call96 (work_ok s own ap cp Fp ar cr Fr ao co Fo sv wi bk _ (aa SY 0) sv.length bQ bB bq bS wi.length bo bu bg d.fA H1 N1 K1 qg qg qg<|xU (vw OL 0 J)<|xU (vw OL 1 J)<|xU (vw OL 2 J)<|VA OL 3 J) ?_
  clear H H1 N1 K1
  rintro _ ape ⟨akl,aj1,aqB,aD6,anm,OK,agM,rfl,N,H⟩
  obtain rfl:=H.xf (α:=zC) 2 rfl 4 rfl qj
  refine sq 1<|zjr<|b_r<|t_r<|ret1 (yI ((workM s own (⟨sv,wi⟩:zO) d.fA.toNat).2)) J J ⟨_,J,?_⟩
  rw[doR_work qf ⟨by omega,by omega⟩]
  all_goals exact⟨akl,aj1,aqB,((workM s own (⟨sv,wi⟩:zO) d.fA.toNat).1.vz).length,anm,OK,agM,rfl,N,H.xG 4 5 [0,1,2] (zR 0 5) xE xE⟩
 refine zcr<|sp (Bv ((d.xQ:Int) == 5))<|sp (Bv ((d.xQ:Int) == 5))<|zjn<|cE J (fun uq=>?_)<|fun uq=>?_
 ·refine zcr (sq 1<|oF J<|oL J (H.cell 0 J J)<|sw<|vF #[pp bk 0,yI d.fA] J J call97<|en func97 ntmps97 ?_)
  refine zcr<|sp (yI 0)<|zjc<|sq 2<|oF J<|oF J<|oL J (H.cell 1 J J)<|sq 1<|oI J J<|sq 1<|zjcc<|sq 2<|oF J<|oF J ?_
  obtain⟨afZ,ae8,af5,fV,f7,tv,asG,amW,agY,np,m8,Dm,anA,aqj,ais,afP,agA,aeU,rd,H⟩:=H.jV zV 2 rfl 3 rfl rfl d.fA.toNat qf
  refine oL J (H.zD 2 J (rd 3 _ J) qf)<|sp (Bv (!(sv[d.fA.toNat]!.qC.qY)))<|sp (Bv (!(sv[d.fA.toNat]!.qC.qY))) ?_
  cases S2:(!(sv[d.fA.toNat]!.qC.qY))
  ·replace S2:=xw S2
   have y1:jk s own n d.fA.toNat sv[d.fA.toNat]!.qC/\jk s own n d.fA.toNat sv[d.fA.toNat]!.qR:=p1.srv d.fA.toNat qf
   have y6:=y1.1.got ql
   obtain⟨y8,y9⟩:=plusPre p0.sys y1.1.all y6.2.2.1
   have y10:=(y1.1.small p0).bags
   have y11:=y10.1
   have y12:=y1.1.sumLen
   have y0:=y1.1.rnd
   refine qP 21 J J<|sq 1<|qP 21 J J<|sq 1<|qP 21 J J<|oF J<|qP 21 J J<|oF J<|qP 21 J J<|oL J (H.zD 2 J (rd 4 _ J) qf)<|qP 21 J J<|sw<|oq (containsB_ok _ sv[d.fA.toNat]!.qC.jA false (H.get 2 J).1) H fun acT H=>sp (Bv<|anyTo (fun k=>false == (sv[d.fA.toNat]!.qC.jA)[k]!) sv[d.fA.toNat]!.qC.jA.length)<|sp (Bv<|anyTo (fun k=>false == (sv[d.fA.toNat]!.qC.jA)[k]!) sv[d.fA.toNat]!.qC.jA.length) ?_
   cases aod:(anyTo (fun k=>false == (sv[d.fA.toNat]!.qC.jA)[k]!) sv[d.fA.toNat]!.qC.jA.length)
   ·refine qP 29 J J (sq 1<|qP 29 J J<|sq 1<|qP 29 J J ?_)
    obtain⟨jj,iP,RA,gu,gm,LZ,lD,lE,T2,gj,gg,LO,lp,kN,TN,jn,iV,RH,iu,gV,Pv,fy,fz,KY,iN,iS,RM,fJ,fG,JE,iT,i6,Rx,ib,g7,P1,anr,H⟩:=H.part_ServerD QI.refl 2 rfl 9 rfl rfl d.fA.toNat qf
    refine sw<|xW [yI sv[d.fA.toNat]!.qC.qK,Sv jj sv[d.fA.toNat]!.qC.qG.length iP,Sv gu sv[d.fA.toNat]!.qC.qF.length gm,Bv sv[d.fA.toNat]!.qC.qY,Sv lD sv[d.fA.toNat]!.qC.jA.length lE,Sv gj sv[d.fA.toNat]!.qC.qU.length gg,Sv lp sv[d.fA.toNat]!.qC.jH.length kN,Sv jn sv[d.fA.toNat]!.qC.zM.length iV,yI sv[d.fA.toNat]!.qR.qK,Sv iu sv[d.fA.toNat]!.qR.qG.length gV,Sv fy sv[d.fA.toNat]!.qR.qF.length fz,Bv sv[d.fA.toNat]!.qR.qY,Sv iN sv[d.fA.toNat]!.qR.jA.length iS,Sv fJ sv[d.fA.toNat]!.qR.qU.length fG,Sv iT sv[d.fA.toNat]!.qR.jH.length i6,Sv ib sv[d.fA.toNat]!.qR.zM.length g7] isAgg49 sizeOf49 J (fun r v hv=>H.zD 2 J (anr r v hv) qf)<|qP 29 J J<|sw<|vF #[.agg #[yI sv[d.fA.toNat]!.qC.qK,Sv jj sv[d.fA.toNat]!.qC.qG.length iP,Sv gu sv[d.fA.toNat]!.qC.qF.length gm,Bv sv[d.fA.toNat]!.qC.qY,Sv lD sv[d.fA.toNat]!.qC.jA.length lE,Sv gj sv[d.fA.toNat]!.qC.qU.length gg,Sv lp sv[d.fA.toNat]!.qC.jH.length kN,Sv jn sv[d.fA.toNat]!.qC.zM.length iV,yI sv[d.fA.toNat]!.qR.qK,Sv iu sv[d.fA.toNat]!.qR.qG.length gV,Sv fy sv[d.fA.toNat]!.qR.qF.length fz,Bv sv[d.fA.toNat]!.qR.qY,Sv iN sv[d.fA.toNat]!.qR.jA.length iS,Sv fJ sv[d.fA.toNat]!.qR.qU.length fG,Sv iT sv[d.fA.toNat]!.qR.jH.length i6,Sv ib sv[d.fA.toNat]!.qR.zM.length g7]] J J call133<|en func133 ntmps133 ?_
    refine zcr<|sw<|jb H [yI sv[d.fA.toNat]!.qC.qK,Sv jj sv[d.fA.toNat]!.qC.qG.length iP,Sv gu sv[d.fA.toNat]!.qC.qF.length gm,Bv sv[d.fA.toNat]!.qC.qY,Sv lD sv[d.fA.toNat]!.qC.jA.length lE,Sv gj sv[d.fA.toNat]!.qC.qU.length gg,Sv lp sv[d.fA.toNat]!.qC.jH.length kN,Sv jn sv[d.fA.toNat]!.qC.zM.length iV,yI sv[d.fA.toNat]!.qR.qK,Sv iu sv[d.fA.toNat]!.qR.qG.length gV,Sv fy sv[d.fA.toNat]!.qR.qF.length fz,Bv sv[d.fA.toNat]!.qR.qY,Sv iN sv[d.fA.toNat]!.qR.jA.length iS,Sv fJ sv[d.fA.toNat]!.qR.qU.length fG,Sv iT sv[d.fA.toNat]!.qR.jH.length i6,Sv ib sv[d.fA.toNat]!.qR.zM.length g7] fun Nk aer H=>(sp (Bv false)<|zjc<|oF J<|oF J<|oL J (H.cell 0 J J)<|oF J<|oF J<|oL J (H.cell 0 J J)<|sp (Bv ((sv[d.fA.toNat]!.qR.qK:Int) == sv[d.fA.toNat]!.qC.qK))<|sp (Bv ((sv[d.fA.toNat]!.qR.qK:Int) == sv[d.fA.toNat]!.qC.qK)) ?_)
    cases Ci:((sv[d.fA.toNat]!.qR.qK:Int) == sv[d.fA.toNat]!.qC.qK)
    ·replace Ci:=ne_of_beq_false Ci
     refine zk [11,12,13]<|sp (Bv false)<|sp (Bv false)<|zjr<|ret1 (Bv false) J J ⟨_,J,?_⟩
     replace H:=H.erases [0]
     dsimp only[zL,List.eraseIdx,List.set] at H
     refine qP 29 J J<|sp (Bv true)<|sp (Bv true)<|zjn<|cTr J<|zcr<|sp (yI 4)<|zjr<|t_r<|ret1 (yI 4) J J ⟨_,J,(sp (yI 4)<|zjr<|b_r<|t_r<|ret1 (yI 4) J J ⟨_,J,?_⟩)⟩
     rw[doR_adv4 qf ⟨by omega,by omega⟩<|by rintro⟨h1,h2,h3,h4⟩;contradiction]
     all_goals exact⟨bB,bq,bS,wi.length,bo,bu,bg,rfl,N,H.xG 4 23 [1,2,3] (zR 18 5) xE xE⟩
    replace Ci:=eq_of_beq Ci
    refine qP 10 J J<|oF J<|qP 10 J J<|oF J<|qP 10 J J<|oL J (H.cell 0 J J)<|sq 2<|zjr<|ret1 (Bv sv[d.fA.toNat]!.qR.qY) J J ⟨_,J,?_⟩
    replace H:=H.erases [0]
    dsimp only[zL,List.eraseIdx,List.set] at H
    refine qP 29 J J<|sq 2<|zjn<|vP _ J (fun OR=>?_)<|fun OR=>?_
    ·replace OR:=xF OR
     refine zcr<|sp (yI 4)<|zjr<|t_r<|ret1 (yI 4) J J ⟨_,J,(sp (yI 4)<|zjr<|b_r<|t_r<|ret1 (yI 4) J J ⟨_,J,?_⟩)⟩
     rw[doR_adv4 qf ⟨by omega,by omega⟩<|by rintro⟨h1,h2,h3,h4⟩;simp_all]
     all_goals exact⟨bB,bq,bS,wi.length,bo,bu,bg,rfl,N,H.xG 4 23 [1,2,3] (zR 18 5) xE xE⟩
    replace OR:=xw OR
    refine xe<|t_n<|xO<|c_lateC 2 (fun ρ w203=>∃(xR:Env) (aeq:yOA) (aeh:Nat) (MD:List Value) (aap:yLN),ρ=upd (upd (upd (upd xR 0<|pp bk 0) 5<|pp SY<|0+(d.fA:Int).toNat*16) 48<|Sv aeq (sv[d.fA.toNat]!.qC.qG.length+1) aeh) 53 (Sv np sv[d.fA.toNat]!.qC.qU.length m8)/\(bB[d.fA.toNat*16+5]? =some (Sv np sv[d.fA.toNat]!.qC.qU.length m8))/\Fresh W0.heap.size (bq::bg::Ns)/\St W0 w203 ((rr aeq (sv[d.fA.toNat]!.qC.qG.length+1) aeh 24 1<|MD++[Sv fV sv[d.fA.toNat]!.qC.qF.length f7])::(.box b1 [yI d.xQ,yI d.fA,yI d.fB] 44)::(.box bk [Sv (aa SY 0) sv.length bQ,Sv bS wi.length bo,yI s.qQ,Sv ap s.qA.length cp,Sv ar s.qB.length cr,Sv ao own.length co] 74)::(rr (aa SY 0) sv.length bQ 49 16 bB)::(rr bS wi.length bo 77 4 bu)::ps) ((qX true (aap++tv) (MD++[Sv fV sv[d.fA.toNat]!.qC.qF.length f7]) (sv[d.fA.toNat]!.qC.qG++[sv[d.fA.toNat]!.qC.qF]))::(sF true tv fV f7 sv[d.fA.toNat]!.qC.qF)::(sF true Dm np m8 sv[d.fA.toNat]!.qC.qU)::(sF false Fp ap cp s.qA)::(sF false Fr ar cr s.qB)::(sF false Fo ao co own)::(qX true bq bB sv)::(qX true bg bu wi)::Γ)) J H [0,1,2,3] [0,1,2,3,4,5,6,7,8,9,10,11,12,13,14,15,16,17,18,19,20,21,22] (fun H=>?_) ?_
    ·dsimp only[yu,yU]
     have S:=H.ve (zR 0 4)<|zR 0 23
     refine rtl 0 S ?_
     refine rtl 1 S ?_
     refine tF 2 J J S ?_
     refine tF 3 J J S ?_
     refine rt 4 _ (jZ (off:=0+(d.fA:Int).toNat*16+0+1) isAgg29 J<|fun _ h=>(h.zD 2 J (rd 1 _ J) qf)) S ?_
     refine rtl 6 S ?_
     refine rtl 7 S ?_
     refine tF 8 J J S ?_
     refine tF 9 J J S ?_
     refine rt 10 _ (jZ (off:=0+(d.fA:Int).toNat*16+0+2) isAgg24 J<|fun _ h=>(h.zD 2 J (rd 2 _ J) qf)) S ?_
     refine rtl 13 S ?_
     refine rtl 14 S ?_
     refine tF 15 J J S ?_
     refine tF 16 J J S ?_
     refine rt 17 _ (jZ (off:=0+(d.fA:Int).toNat*16+0+5) isAgg29 J<|fun _ h=>(h.zD 2 J (rd 5 _ J) qf)) S ?_
     refine jw [5,11] qh qm<|yl J ?_<|yl J ?_ jy
     ·refine oc (XJ _ sv[d.fA.toNat]!.qC.qG (H.get 12 J).1 qg) ?_
      rintro _ aQv ⟨aH7,apD,aF4,as3,akM,rfl,M,K⟩ _
      obtain⟨N,H⟩:=H.both K M N [21,22] 23 K0
      obtain rfl:=H.xf (α:=yLI) 0 rfl 0 rfl qj
      refine⟨H.pick (zR 1 4)<|zR 1 23,(ro 11 J<|zH H underlying29 ti24 [Sv fV sv[d.fA.toNat]!.qC.qF.length f7] fun aJq aJP H=>⟨H.pick (zR 2 4)<|zR 1 23,(ro 12 J<|zQ H 1 J 0 J underlying29 ti24 J qj J J J qw qp qf fun aDv aCy alq H=>?_)⟩)⟩
      dsimp only[List.set] at H
      replace H:=H.QK 0 J 14 J
      refine⟨H.pick (zR 2 4)<|zR 2 23,(xx qh ((meet ⟨_,aDv,aCy,as3,akM,uE4,(rd 5 _ J),(N.xG 3 [1,2] xE),H.xG 6 25 (zR 1 5) (0::15::17::zR 20 5) xE xE⟩)))⟩
     refine zH H underlying29 ti24 [Sv fV sv[d.fA.toNat]!.qC.qF.length f7] fun aKJ aih H=>⟨H.pick (zR 1 4)<|zR 0 23,(ro 5 J<|oc (XJ _ sv[d.fA.toNat]!.qC.qG (H.get 12 J).1 qg) ?_)⟩
     rintro _ aLY ⟨aHm,aG6,aIi,aqz,alI,rfl,M,K⟩ _
     obtain⟨N,H⟩:=H.both K M N [21,22] 23 K0
     obtain rfl:=H.xf (α:=yLI) 0 rfl 0 rfl qj
     refine⟨H.pick (zR 2 4)<|zR 1 23,(ro 12 J<|zQ H 0 J 1 J underlying29 ti24 J qj J J J qw qp qf fun Le Kp aLL H=>?_)⟩
     dsimp only[List.set] at H
     replace H:=H.QK 0 J 14 J
     refine⟨H.pick (zR 2 4)<|zR 2 23,(xx qh ((meet ⟨_,Le,Kp,aqz,alI,uE4,(rd 5 _ J),(N.xG 3 [1,2] xE),H.xG 6 25 [0,2,3,4,5] (0::15::17::zR 20 5) xE xE⟩)))⟩
    clear H N
    rintro ρ awm ⟨xR,aeq,aeh,MD,aap,rfl,aGt,N,H⟩
    obtain⟨aOZ,V2,aA8⟩:=H.Vd (α:=yLI) 0 rfl 0 rfl qj
    refine sw<|oc (VF (by rw[←V2])<|added_ok _ (sv[d.fA.toNat]!.qC.qG++[sv[d.fA.toNat]!.qC.qF]) sv[d.fA.toNat]!.qC.qU (V2▸aA8) (H.get 2 J).1 qg qg) ?_
    rintro _ ann ⟨aEp,aFe,Mz,aFg,aFL,rfl,M,K⟩ _
    obtain⟨N,H⟩:=H.both K M N [6,7] 8 K0
    obtain rfl:=H.xf (α:=yLI) 0 rfl 0 rfl qj
    refine sq 1<|zjcc<|sq 1 ?_
    obtain⟨agH,als,axf⟩:=H.Vd (α:=yLI) 0 rfl 0 rfl qj
    refine sw<|oq (areBags_ok _ (QO (sv[d.fA.toNat]!.qC.qG++[sv[d.fA.toNat]!.qC.qF]) sv[d.fA.toNat]!.qC.qU) axf) H fun aQm H=>sq 1<|zjn<|cQ J (fun aAd=>?_)<|fun aAd=>?_
    ·refine zcr (sp (yI 3)<|zjr<|t_r<|ret1 (yI 3) J J ⟨_,J,?_⟩)
     replace H:=H.erases [1,0]
     dsimp only[zL,List.eraseIdx,List.set] at H
     refine sp (yI 3)<|zjr<|b_r<|t_r<|ret1 (yI 3) J J ⟨_,J,?_⟩
     rw[doR_adv3 qf ⟨by omega,by omega⟩ ⟨by assumption,allGot_of ql,by assumption,by assumption⟩ ql]
     all_goals exact⟨bB,bq,bS,wi.length,bo,bu,bg,rfl,(N.xG 3 [1,2] xE),H.xG 4 9 [1,2,3] (zR 4 5) xE xE⟩
    refine xe<|t_n<|zcr<|sq 2<|oF J<|sw<|xW (yS s ap cp ar cr) isAgg27 sizeOf27 J (qH (H.cells 3 J) 2 3)<|sw<|oq (Xj _ s (H.get 4 J).1 (H.get 5 J).1) H fun aOl H=>sq 1<|zjn<|xO ?_
    have H0:=H
    obtain⟨Nz,ZK,aGm,H⟩:=H.ji (α:=yLI) 0 rfl 0 rfl qj
    replace N:Fresh W0.heap.size (Nz::bq::bg::Ns):=Fresh.ice N H0 0 ZK.1 ZK.2<|H0.awB [7,8] 9 K0
    clear H0
    dsimp only[List.set] at H
    have aGf:=H.isCap 0 J
    obtain⟨adP,abz,rfl⟩:=H.addr 0 rfl qf
    obtain⟨ab4,adl,PT,C6,N,H⟩:=H.splitLast 0 rfl N s.qA.length qf
    refine vW 3 J H [0,1,2,3,4,5] [0,1,2,3,4,5,6,7,8,9,10,11,12] fun H=>?_
    dsimp only[yu,yU]
    have S:=H.ve (zR 0 6)<|zR 0 13
    refine rtl 0 S ?_
    refine rtl 1 S ?_
    refine rtl 2 S ?_
    refine tF 3 J J S ?_
    refine tF 4 J J S ?_
    obtain⟨af6,afM,af1,UW,YF,aaw,an3,as8,apf,aaH,Wj,WE,uI,wX,aiM,afh,afk,af0,Pp,H⟩:=H.jV zV 4 rfl 11 rfl rfl d.fA.toNat qf
    have S:=H.ve (zR 0 6)<|zR 6 13
    refine rt 5 _ (jZ (off:=0+(d.fA:Int).toNat*16+0+0) isAgg2 J<|fun _ h=>(h.zD 4 J (Pp 0 _ J) qf)) S ?_
    refine rt 6 _ (y_add sv[d.fA.toNat]!.qC.qK 1 J J qf) S ?_
    refine rtl 7 S ?_
    refine rtl 8 S ?_
    refine rtl 10 S ?_
    refine rtl 11 S ?_
    refine tI 12 J J J S ?_
    refine tL 13 J J (fun _ h=>h.zU 2 J 0 J) S ?_
    refine rtl 14 S ?_
    refine rtl 15 S ?_
    refine tF 16 J J S ?_
    refine tF 17 J J S ?_
    refine rt 18 _ (jZ (off:=0+(d.fA:Int).toNat*16+0+6) isAgg45 J<|fun _ h=>(h.zD 4 J (Pp 6 _ J) qf)) S ?_
    refine ro 9 rfl<|o_headV s.qA.length (List.length_take_of_le (l:=QO (sv[d.fA.toNat]!.qC.qG++[sv[d.fA.toNat]!.qC.qF]) sv[d.fA.toNat]!.qC.qU) qf) underlying29 ti24 rfl rfl qf qf<|⟨H.pick (zR 0 6)<|zR 6 13,(ro 19 rfl ?_)⟩
    refine vZ [yI (sv[d.fA.toNat]!.qC.qK+1),Sv (aa adP abz) (((QO (sv[d.fA.toNat]!.qC.qG++[sv[d.fA.toNat]!.qC.qF]) sv[d.fA.toNat]!.qC.qU).take s.qA.length).length) Mz,Sv ab4 (((QO (sv[d.fA.toNat]!.qC.qG++[sv[d.fA.toNat]!.qC.qF]) sv[d.fA.toNat]!.qC.qU)[s.qA.length]!).length) adl,Bv false,yN,yN,yN,Sv uI sv[d.fA.toNat]!.qC.jH.length wX] [(0,yI (sv[d.fA.toNat]!.qC.qK+1)),(1,Sv (aa adP abz) (((QO (sv[d.fA.toNat]!.qC.qG++[sv[d.fA.toNat]!.qC.qF]) sv[d.fA.toNat]!.qC.qU).take s.qA.length).length) Mz),(2,Sv ab4 (((QO (sv[d.fA.toNat]!.qC.qG++[sv[d.fA.toNat]!.qC.qF]) sv[d.fA.toNat]!.qC.qU)[s.qA.length]!).length) adl),(7,Sv uI sv[d.fA.toNat]!.qC.jH.length wX)]<|⟨H.pick (zR 0 6)<|zR 6 13,(xx qh<|zg<|sq 1<|oF J ?_)⟩
    replace H:=H.addNil (α:=Bool)
    replace H:=H.addNil (α:=yLI)
    replace H:=H.addNil (α:=yLL)
    replace N:Fresh W0.heap.size (bq::PT::C6::bg::Ns):=(N.xG 4 [2,0,1,3] xE)
    obtain⟨aQb,aQO,av6,ay4,aEU,N,H⟩:=H.takePart part_Server_DeskNow 20 rfl N d.fA.toNat qf rfl<|Pp 6 _ rfl
    replace H:=H.mk_DeskD (sv[d.fA.toNat]!.qC.qK+1) 11 J 12 J false 4 J 3 J 2 J 0 J
    replace N:Fresh W0.heap.size ((PT++C6++[]++[]++[]++av6)::ay4::bg::Ns):=(N.emp.emp.emp.xG 8 [5,6,0,1,2,3,4,7] xE).join.join.join.join.join
    obtain⟨aEn,Zd⟩:∃z,z=((sv.set d.fA.toNat { sv[d.fA.toNat]! with qC:={ sv[d.fA.toNat]!.qC with jH:=[]}}).set d.fA.toNat { ((sv.set d.fA.toNat { sv[d.fA.toNat]! with qC:={ sv[d.fA.toNat]!.qC with jH:=[]}})[d.fA.toNat]!) with qC:=(⟨sv[d.fA.toNat]!.qC.qK+1,((QO (sv[d.fA.toNat]!.qC.qG++[sv[d.fA.toNat]!.qC.qF]) sv[d.fA.toNat]!.qC.qU).take s.qA.length),(QO (sv[d.fA.toNat]!.qC.qG++[sv[d.fA.toNat]!.qC.qF]) sv[d.fA.toNat]!.qC.qU)[s.qA.length]!,false,([]:List Bool),([]:yLL),([]:List yLL),sv[d.fA.toNat]!.qC.jH⟩:zG)}):=⟨_,rfl⟩
    refine sw<|o_putHole (v:=.agg #[yI (sv[d.fA.toNat]!.qC.qK+1),Sv (aa adP abz) (((QO (sv[d.fA.toNat]!.qC.qG++[sv[d.fA.toNat]!.qC.qF]) sv[d.fA.toNat]!.qC.qU).take s.qA.length).length) Mz,Sv ab4 (((QO (sv[d.fA.toNat]!.qC.qG++[sv[d.fA.toNat]!.qC.qF]) sv[d.fA.toNat]!.qC.qU)[s.qA.length]!).length) adl,Bv false,yN,yN,yN,Sv uI sv[d.fA.toNat]!.qC.jH.length wX]) zV H 4 J 2 J 0 J J sizeOf47 J J J d.fA.toNat qf qf Zd ⟨by show _<=_*16+_;omega,by show _*16+_<_+8;omega⟩ fun aBS aky aAP aiJ H=>?_
    dsimp only[List.set] at H
    replace N:=(N.Xr 3 [1,0,2]).repl aiJ
    refine zjc<|sp (yI 0)<|zjr<|ret1 (yI 0) J J ⟨_,J,?_⟩
    replace H:=H.erases [1,0]
    dsimp only[zL,List.eraseIdx,List.set] at H
    refine sp (yI 0)<|zjr<|b_r<|t_r<|ret1 (yI 0) J J ⟨_,J,?_⟩
    rw[doR_adv0 qf ⟨by omega,by omega⟩ ⟨by assumption,allGot_of ql,by assumption,by assumption⟩ ql<|adv_sets qf J Zd]
    all_goals exact⟨aky,aAP,bS,wi.length,bo,bu,bg,rfl,N,H.xG 4 26 [1,2,3] [21,22,23,0,25] xE xE⟩
   refine zk (zR 30 5)<|sp (Bv true)<|zjn<|cTr J<|zcr<|sp (yI 4)<|zjr<|t_r<|ret1 (yI 4) J J ⟨_,J,(sp (yI 4)<|zjr<|b_r<|t_r<|ret1 (yI 4) J J ⟨_,J,?_⟩)⟩
   rw[doR_adv4 qf ⟨by omega,by omega⟩<|by rintro⟨h1,h2,h3,h4⟩;exact notGot_of ql h2]
   all_goals exact⟨bB,bq,bS,wi.length,bo,bu,bg,rfl,N,H.xG 4 11 [1,2,3] (zR 6 5) xE xE⟩
  replace S2:=xF S2
  refine zk (zR 22 6)<|sp (Bv true)<|sp (Bv true)<|zk (zR 30 5)<|sp (Bv true)<|zjn<|cTr J<|zcr<|sp (yI 4)<|zjr<|t_r<|ret1 (yI 4) J J ⟨_,J,(sp (yI 4)<|zjr<|b_r<|t_r<|ret1 (yI 4) J J ⟨_,J,?_⟩)⟩
  rw[doR_adv4 qf ⟨by omega,by omega⟩<|by rintro⟨h1,h2,h3,h4⟩;simp_all]
  all_goals exact⟨bB,bq,bS,wi.length,bo,bu,bg,rfl,N,H.xG 4 11 [1,2,3] (zR 6 5) xE xE⟩
 refine zcr<|sp (Bv ((d.xQ:Int) == 2))<|sp (Bv ((d.xQ:Int) == 2))<|zjn<|cE J (fun axq=>?_)<|fun axq=>?_
 ·refine zf (sq 3<|oF J ?_)
  obtain⟨Lq,JR,afv,ES,Ew,Zh,MR,PB,ahR,Dp,Ea,Ws,Ox,Nq,ajs,Kk,Lo,ago,ai0,H⟩:=H.jV zV 2 rfl 3 rfl rfl d.fA.toNat qf
  refine sw<|xW [yI sv[d.fA.toNat]!.qC.qK,Sv Lq sv[d.fA.toNat]!.qC.qG.length JR,Sv ES sv[d.fA.toNat]!.qC.qF.length Ew,Bv sv[d.fA.toNat]!.qC.qY,Sv MR sv[d.fA.toNat]!.qC.jA.length PB,Sv Dp sv[d.fA.toNat]!.qC.qU.length Ea,Sv Ox sv[d.fA.toNat]!.qC.jH.length Nq,Sv Kk sv[d.fA.toNat]!.qC.zM.length Lo] isAgg47 sizeOf47 J (fun r v hv=>H.zD 2 J (ai0 r v hv) qf) ?_
  have y1:jk s own n d.fA.toNat sv[d.fA.toNat]!.qC/\jk s own n d.fA.toNat sv[d.fA.toNat]!.qR:=p1.srv d.fA.toNat qf
  have y2:=y1.1.small p0
  refine sw<|oc (VP _ sv[d.fA.toNat]!.qC (H.get 0 J).1 (H.get 1 J).1 (H.get 2 J).1 (H.get 3 J).1 (H.get 4 J).1 (H.get 5 J).1 qg) ?_
  rintro _ aO0 ⟨Ka,KR,afX,Dc,DH,aaD,ML,P9,akn,Dt,El,Zw,Nf,Pz,akD,KN,LC,afQ,rfl,M,K⟩ _
  obtain⟨N,H⟩:=H.both K M N [9,10] 11 K0
  refine sq 1<|oF J ?_
  replace H:=H.mk_DeskD sv[d.fA.toNat]!.qC.qK 0 J 1 J sv[d.fA.toNat]!.qC.qY 2 J 3 J 4 J 5 J
  dsimp only[List.cons_append,List.nil_append] at N
  replace N:=N.join.join.join.join.join
  obtain⟨aFu,WY⟩:∃z,z=(sv.set d.fA.toNat { sv[d.fA.toNat]! with qR:=(⟨sv[d.fA.toNat]!.qC.qK,sv[d.fA.toNat]!.qC.qG,sv[d.fA.toNat]!.qC.qF,sv[d.fA.toNat]!.qC.qY,sv[d.fA.toNat]!.qC.jA,sv[d.fA.toNat]!.qC.qU,sv[d.fA.toNat]!.qC.jH,sv[d.fA.toNat]!.qC.zM⟩:zG)}):=⟨_,rfl⟩
  refine sw<|Ve (v:=.agg #[yI sv[d.fA.toNat]!.qC.qK,Sv Ka sv[d.fA.toNat]!.qC.qG.length KR,Sv Dc sv[d.fA.toNat]!.qC.qF.length DH,Bv sv[d.fA.toNat]!.qC.qY,Sv ML sv[d.fA.toNat]!.qC.jA.length P9,Sv Dt sv[d.fA.toNat]!.qC.qU.length El,Sv Nf sv[d.fA.toNat]!.qC.jH.length Pz,Sv KN sv[d.fA.toNat]!.qC.zM.length LC]) Qk H 2 J 16 J 0 J J sizeOf47 J J J d.fA.toNat qf qf WY fun aJF aiF axd akF H=>?_
  dsimp only[List.set] at H
  replace N:=(N.Xr 3 [1,0,2]).repl akF
  refine xX<|b_n<|t_n<|zcr<|sp (yI 0)<|zjr<|ret1 (yI 0) J J ⟨_,J,?_⟩
  rw[doR_save qf ⟨by omega,by omega⟩ WY]
  all_goals exact⟨aiF,axd,bS,wi.length,bo,bu,bg,rfl,N,H.xG 4 19 [1,2,3] [14,15,16,0,18] xE xE⟩
 refine zcr<|sp (Bv ((d.xQ:Int) == 9))<|sp (Bv ((d.xQ:Int) == 9))<|zjn<|cE J (fun aBf=>?_)<|fun aBf=>?_
 ·refine zf (sq 3<|oF J ?_)
  obtain⟨LA,KS,agd,Dj,DY,US,PS,MZ,alp,EG,EF,Y1,Nj,Nm,ane,Ly,Kf,afd,arE,H⟩:=H.jV Qk 2 rfl 3 rfl rfl d.fA.toNat qf
  refine sw<|xW [yI sv[d.fA.toNat]!.qR.qK,Sv LA sv[d.fA.toNat]!.qR.qG.length KS,Sv Dj sv[d.fA.toNat]!.qR.qF.length DY,Bv sv[d.fA.toNat]!.qR.qY,Sv PS sv[d.fA.toNat]!.qR.jA.length MZ,Sv EG sv[d.fA.toNat]!.qR.qU.length EF,Sv Nj sv[d.fA.toNat]!.qR.jH.length Nm,Sv Ly sv[d.fA.toNat]!.qR.zM.length Kf] isAgg47 sizeOf47 J (fun r v hv=>H.zD 2 J (arE r v hv) qf) ?_
  have y1:jk s own n d.fA.toNat sv[d.fA.toNat]!.qC/\jk s own n d.fA.toNat sv[d.fA.toNat]!.qR:=p1.srv d.fA.toNat qf
  have y3:=y1.2.small p0
  refine sw<|oc (VP _ sv[d.fA.toNat]!.qR (H.get 0 J).1 (H.get 1 J).1 (H.get 2 J).1 (H.get 3 J).1 (H.get 4 J).1 (H.get 5 J).1 qg) ?_
  rintro _ aBq ⟨JI,KG,aeW,En,Dy,YT,OF,Ob,ar8,EX,ER,ZA,PX,Ro,aj0,Ju,Jz,afN,rfl,M,K⟩ _
  obtain⟨N,H⟩:=H.both K M N [9,10] 11 K0
  refine sq 1<|oF J ?_
  replace H:=H.mk_DeskD sv[d.fA.toNat]!.qR.qK 0 J 1 J sv[d.fA.toNat]!.qR.qY 2 J 3 J 4 J 5 J
  dsimp only[List.cons_append,List.nil_append] at N
  replace N:=N.join.join.join.join.join
  obtain⟨aG4,ZY⟩:∃z,z=(sv.set d.fA.toNat { sv[d.fA.toNat]! with qC:=(⟨sv[d.fA.toNat]!.qR.qK,sv[d.fA.toNat]!.qR.qG,sv[d.fA.toNat]!.qR.qF,sv[d.fA.toNat]!.qR.qY,sv[d.fA.toNat]!.qR.jA,sv[d.fA.toNat]!.qR.qU,sv[d.fA.toNat]!.qR.jH,sv[d.fA.toNat]!.qR.zM⟩:zG)}):=⟨_,rfl⟩
  refine sw<|Ve (v:=.agg #[yI sv[d.fA.toNat]!.qR.qK,Sv JI sv[d.fA.toNat]!.qR.qG.length KG,Sv En sv[d.fA.toNat]!.qR.qF.length Dy,Bv sv[d.fA.toNat]!.qR.qY,Sv OF sv[d.fA.toNat]!.qR.jA.length Ob,Sv EX sv[d.fA.toNat]!.qR.qU.length ER,Sv PX sv[d.fA.toNat]!.qR.jH.length Ro,Sv Ju sv[d.fA.toNat]!.qR.zM.length Jz]) zV H 2 J 16 J 0 J J sizeOf47 J J J d.fA.toNat qf qf ZY fun aNE alz axY aoo H=>?_
  dsimp only[List.set] at H
  replace N:=(N.Xr 3 [1,0,2]).repl aoo
  refine xX<|b_n<|t_n<|zcr<|sp (yI 0)<|zjr<|ret1 (yI 0) J J ⟨_,J,?_⟩
  rw[doR_crash qf ⟨by omega,by omega⟩ ZY]
  all_goals exact⟨alz,axY,bS,wi.length,bo,bu,bg,rfl,N,H.xG 4 19 [1,2,3] [14,15,16,0,18] xE xE⟩
 refine xe<|b_n<|t_n<|zcr<|sp (yI 0)<|zjr<|ret1 (yI 0) J J ⟨_,J,?_⟩
 (exfalso;omega)
 all_goals exact⟨bB,bq,bS,wi.length,bo,bu,bg,rfl,N,H.xG 4 5 [1,2,3] (zR 0 5) xE xE⟩
theorem maxI_ok(w:World)(l:yLI)(hl:zP w Fl al cl l)(p0:1<=l.length):Calls Tryz.prog 114 #[Sv al l.length cl] w (Ret (fun v w'=>v=yI (maxL l)) w):=by
 refine en func114 ntmps114 ?_
 have H:=(St.start w).arg hl
 have Cr:=qN hl
 clear hl
 have N:=Fresh.nil w.heap.size
 refine zcr<|sp (yI 0)<|zjcc<|sq 1<|oN J<|sp (Bv<|decide ((l.length:Int)<1))<|zjn<|cD J (fun h1=>?_)<|fun h1=>?_
 ·exfalso;omega
 refine xe<|t_n<|zcr<|sq 1 ?_
 obtain⟨b2,o3,rfl⟩:=H.addr 0 rfl qf
 refine oI J J<|oL J (H.vM 0 J 0 qf)<|sq 1<|zjcc<|sp (yI 1)<|zjn<|xg<|vk ((fun Z0=>fun m' ρ w5=>∃(xR:Env) (m:Int) (i:Nat),ρ=upd (upd (upd xR 0<|Sv (aa b2 o3) l.length cl) 3<|yI m) 4 (yI i)/\m=maxTo l i/\((i:Int)<=l.length)/\(1<=i)/\m'=(l.length-(i:Int)).toNat/\Fresh w.heap.size []/\St w w5 [] [Z0]) _) ((l.length-(1:Int)).toNat) ⟨_,l[0]!,1,uE3,(by exact(maxTo_one l).symm),qf,qf,J,N,H⟩ ?_
 clear H N
 rintro m' ρ w6 ⟨xR,m,i,rfl,rfl,i0,i2,rfl,N,H⟩
 refine zcc<|sp (yI i)<|sq 1<|oN J<|sq 1<|zjn<|cD J (fun h7=>?_)<|fun h7=>?_
 ·refine xe (t_n<|xO<|xg<|zf<|sq 2<|sp (yI i)<|oI J J<|oL J (H.vM 0 J i qf)<|sw<|o_max (maxTo l i) l[i]! rfl J<|sq 1<|xX<|b_n<|t_n<|zf<|sp (yI i)<|sw<|zY i 1 J J qf<|sq 1<|xX<|xu (m':=(l.length-((i+1):Int)).toNat) qf ⟨_,_,i+1,uE3,?_,?_,?_,J,N,H⟩)
  ·rfl
  ·omega
  ·omega
 refine zx4<|zcr<|sq 2<|zjr<|rH1 (yI<|maxTo l i) H ?_
 obtain rfl:i=l.length:=by omega
 rfl
theorem validOwners_ok(w:World)(s:qJ)(own:yLI)(qZ:zP w xN qM qL s.qA)(xM:zP w zN xm xh s.qB)(ee:zP w lY fu fa own)(p0:jW s)(p1:Still s)(p2:own.length=s.qA.length)(p3:∃n,XH own n):Calls Tryz.prog 110 #[.agg #[yI s.qQ,Sv qM s.qA.length qL,Sv xm s.qB.length xh],Sv fu own.length fa] w (Ret (fun v w'=>v=Bv true) w):=by
 refine en func110 ntmps110 ?_
 have H:=(((St.start w).arg ee).arg xM).arg qZ
 have jP:=qN xM
 clear qZ xM ee
 have N:=Fresh.nil w.heap.size
 obtain⟨n,p4⟩:=p3
 have e1:=max_own p4
 have e2:=p4.one
 have e3:=min_own p4
 have e4:=p4.bds.1
 refine zcr<|sw<|jb H (yS s qM qL xm xh) fun b1 w2 H=>sp (Bv false)<|zjcc<|sw<|xW (yS s qM qL xm xh) isAgg27 sizeOf27 J (qH (H.cells 0 J) 0 3)<|sw<|oq (validSystem_ok _ s (H.get 0 J).1 (H.get 1 J).1) H fun w4 H=>sp (Bv (!(dec<|jW s)))<|sp (Bv (!(dec<|jW s))) ?_
 cases h6:(!(dec (jW s)))
 ·replace h6:=xw h6
  replace h6:=Qy h6
  refine qP 9 J J<|sw<|xW (yS s qM qL xm xh) isAgg27 sizeOf27 J (qH (H.cells 0 J) 0 3)<|qP 9 J J<|sw<|oq (canMeltAny_ok _ s (H.get 0 J).1 (H.get 1 J).1) H fun w8 H=>sp (Bv<|dec (¬Still s))<|sp (Bv<|dec (¬Still s)) ?_
  cases cK:(dec (¬Still s))
  ·replace cK:=vS cK
   refine qP 13 J J<|sq 1<|qP 13 J J<|oN J<|qP 13 J J<|oF J<|qP 13 J J<|oL J (H.cell 0 J J)<|qP 13 J J<|oN J<|qP 13 J J<|sq 2<|zjn<|vP _ J (fun cf=>?_)<|fun cf=>?_
   ·replace cf:=bne_iff_ne.1 cf
    exfalso;omega
   replace cf:=zo cf
   refine xe<|t_n<|zcc<|sq 1<|sw<|oq (maxI_ok _ own (H.get 2 J).1 qg) H fun D9 H=>sw<|zY (maxL own) 1 J J qf<|sp (yI 0)<|zjn<|xg<|vk ((fun Z0 Z1 Z2 Z3=>fun m' ρ IR=>∃(xR:Env) (i:Nat),ρ=upd (upd (upd xR 1<|Sv fu own.length fa) 23<|yI ((maxL own)+1)) 24 (yI i)/\((i:Int)<=((maxL own)+1))/\m'=(((maxL own)+1)-(i:Int)).toNat/\Fresh w.heap.size []/\St w IR [Z0] [Z1,Z2,Z3]) _ _ _ _) ((((maxL own)+1)-(0:Int)).toNat) ⟨_,0,uE3,qf,J,N,H⟩ ?_
   clear H N
   rintro m' ρ Kj ⟨xR,i,rfl,i0,rfl,N,H⟩
   refine zcr<|sq 1<|zjn<|xO<|cD J (fun CV=>?_)<|fun CV=>?_
   ·refine xe (t_n<|xO<|xg<|zcr<|sp (yI i)<|sp (yI i)<|zjc<|sp (yI i)<|sp (Bv ((i:Int) == 4))<|sp (Bv ((i:Int) == 4)) ?_)
    cases i7:((i:Int) == 4)
    ·replace i7:=ne_of_beq_false i7
     refine qP 29 J J<|sq 1<|qP 29 J J<|sp (yI i)<|qP 29 J J<|sw<|oq (containsI_ok _ own i (H.get 2 J).1) H fun Pa H=>qP 29 J J<|sq 2<|zjn<|cQ J (fun CY=>?_)<|fun CY=>?_
     ·exfalso;exact absurd (p4.all i qf qf) ql
     refine xe<|b_n<|t_n<|zf<|sw<|zY i 1 J J qf<|sq 1<|xX<|xu (m':=(((maxL own)+1)-((i+1):Int)).toNat) qf ⟨_,i+1,uE3,?_,J,N,H⟩
     ·omega
    replace i7:=eq_of_beq i7
    refine zk (zR 30 4)<|sp (Bv true)<|zjn<|cTr J<|zcr<|sp (Bv false)<|zjr<|zr5<|rH1 (Bv false) H ?_
    exfalso;omega
   refine zx4<|zcr<|sq 1<|sw<|oq (minI_ok _ own (H.get 2 J).1 qg) H fun Gw H=>sp (Bv<|decide ((minL own:Int)>=0))<|sp (Bv<|decide ((minL own:Int)>=0))<|zjr<|rH1 (Bv<|decide ((minL own:Int)>=0)) H ?_
   rw[decide_eq_true<|show minL own>=0 by omega]
  ·exact absurd p1<|Qy cK
 ·exact absurd p0<|vS<|xF h6
theorem tissueCode_ok(w:World)(s:qJ)(own:yLI)(t:qV){xI:Nat}{zq:Nat}{xy:Nat}(qZ:zP w xN qM qL s.qA)(xM:zP w zN xm xh s.qB)(ee:zP w lY fu fa own)(zS:zP w vV xK xI t.qO)(vK:zP w jM zB zq t.qG)(zi:zP w zZ xC xy t.qF)(p0:jW s)(p1:Still s)(p2:own.length=s.qA.length)(p3:∃n,XH own n)(p4:zA s t)(p5:Whole t):Calls Tryz.prog 66 #[.agg #[yI s.qQ,Sv qM s.qA.length qL,Sv xm s.qB.length xh],Sv fu own.length fa,.agg #[Sv xK t.qO.length xI,Sv zB t.qG.length zq,Sv xC t.qF.length xy]] w (Ret (fun v w'=>v=yI 0) w):=by
 refine en func66 ntmps66 ?_
 have H:=((((((St.start w).arg zi).arg vK).arg zS).arg ee).arg xM).arg qZ
 have jP:=qN xM
 have QM:=qN zS
 have Xt:=qN vK
 have Qe:=qN zi
 clear qZ xM ee zS vK zi
 refine zcr<|sw<|jb H (yS s qM qL xm xh) fun b1 w2 H=>sw<|jb H (yT t xK xI zB zq xC xy) fun b3 w4 H=>sp (yI 0)<|zjcc<|sw<|xW (yS s qM qL xm xh) isAgg27 sizeOf27 J (qH (H.cells 1 J) 0 3)<|sq 1<|sw<|oq (validOwners_ok _ s own (H.get 0 J).1 (H.get 1 J).1 (H.get 2 J).1 qg qg qg qg) H fun w6 H=>sp (Bv !true)<|sp (Bv !true) ?_
 cases h8:(!true)
 ·replace h8:=xw h8
  refine qP 11 J J<|sw<|xW (yS s qM qL xm xh) isAgg27 sizeOf27 J (qH (H.cells 1 J) 0 3)<|qP 11 J J<|sw<|xW (yT t xK xI zB zq xC xy) isAgg31 sizeOf31 J (qH (H.cells 0 J) 0 3)<|qP 11 J J<|sw<|oq (isWhole_ok _ s t (H.get 0 J).1 (H.get 1 J).1 (H.get 3 J).1 (H.get 4 J).1 (H.get 5 J).1) H fun sr H=>qP 11 J J<|sq 2<|zjn<|vP _ J (fun h=>absurd ⟨⟨p0,p4⟩,p5⟩<|vS<|xF h)<|fun iz=>?_
  replace iz:=xw iz
  replace iz:=Qy iz
  refine xe<|t_n<|zcr<|sp (yI 0)<|zjr<|rH1 (yI 0) H ?_
  rfl
 replace h8:=xF h8
 refine zk (zR 12 4)<|sp (Bv true)<|zjn<|cTr J<|zcr<|sp (yI 1)<|zjr<|t_r<|rH1 (yI 1) H ?_
 exfalso;contradiction
theorem newMill_ok(s:qJ)(own:yLI)(ap:yOA)(cp:Nat)(Fp:yLN)(ar:yOA)(cr:Nat)(Fr:yLN)(ao:yOA)(co:Nat)(Fo:yLN)(t:qV)(tA:yOA)(cA:Nat)(FA:yLN)(tB:yOA)(cB:Nat)(FB:yLN)(tU:yOA)(cU:Nat)(FU:yLN)(n:Nat)(H:St W0 w (ps) ((sF false Fp ap cp s.qA)::(sF false Fr ar cr s.qB)::(sF false Fo ao co own)::(sF false FA tA cA t.qO)::(sF false FB tB cB t.qG)::(sF false FU tU cU t.qF)::Γ))(N:Fresh W0.heap.size (Ns))(K0:Kept Ns Γ)(p0:Giv s own n)(p1:XH own n)(p2:zA s t):Calls Tryz.prog 70 #[.agg #[yI s.qQ,Sv ap s.qA.length cp,Sv ar s.qB.length cr],Sv ao own.length co,.agg #[Sv tA t.qO.length cA,Sv tB t.qG.length cB,Sv tU t.qF.length cU]] w (fun e w'=>∃v,e=.returned v/\∃(bk:Nat) (dN:yOA) (dC:Nat) (bQ:Nat) (bB:List Value) (bq:yLN) (bS:yOA) (ix:Nat) (bo:Nat) (bu:List Value) (bg:yLN),v=pp bk 0/\Fresh W0.heap.size (bq::bg::Ns)/\St W0 w' ((.box bk [Sv dN dC bQ,Sv bS ix bo,yI s.qQ,Sv ap s.qA.length cp,Sv ar s.qB.length cr,Sv ao own.length co] 74)::(rr dN dC bQ 49 16 bB)::(rr bS ix bo 77 4 bu)::ps) ((sF false Fp ap cp s.qA)::(sF false Fr ar cr s.qB)::(sF false Fo ao co own)::(sF false FA tA cA t.qO)::(sF false FB tB cB t.qG)::(sF false FU tU cU t.qF)::(qX true bq bB ((xk s own t n).qE))::(qX true bg bu ((xk s own t n).vz))::Γ)):=by
 refine en func70 ntmps70 ?_
 have KE:=qN (H.get 2 J).1
 have e1:=max_own p1
 have e2:=p1.one
 have e4:=p1.bds.1
 have p6:own.length=s.qA.length:=p0.len
 have p7:=p0.sys.1.2.1
 have p8:xJ s=s.qA.length:=rfl
 have p9:=p0.sys.1.1
 have p10:=zeros_len s<|s.qA.length+1
 have p11:=p2.2.1
 have p5:=p0.sys.1
 have b3:=(ja p2.2.2.2.1).1
 refine zcr<|sw<|jb H (yS s ap cp ar cr) fun b1 w2 H=>sw<|jb H (yT t tA cA tB cB tU cU) fun b3 w4 H=>sq 1<|zjc<|sw<|xW (yS s ap cp ar cr) isAgg27 sizeOf27 J (qH (H.cells 1 J) 0 3)<|sq 1<|sw<|vZ [yN,yN,yI s.qQ,Sv ap s.qA.length cp,Sv ar s.qB.length cr,Sv ao own.length co] [(1,.agg #[yI s.qQ,Sv ap s.qA.length cp,Sv ar s.qB.length cr]),(2,Sv ao own.length co)]<|sw<|jb H [yN,yN,yI s.qQ,Sv ap s.qA.length cp,Sv ar s.qB.length cr,Sv ao own.length co] fun b5 w6 H=>sq 1<|zjcc<|sq 1<|sw<|oq (maxI_ok _ own (H.get 2 J).1 qg) H fun w8 H=>(sw<|zY (maxL own) 1 J J qf<|sp (yI 0)<|zjn<|xg ?_)
 replace H:=H.nilRow 49 16
 replace H:=H.yF (α:=zI)
 refine vk ((fun Z0 Z1 Z2 Z3 Z4 Z5 Z6 Z7=>fun m' ρ sr=>∃(xR:Env) (i:Nat) (zK:yOA) (zu:Nat) (zJ:Nat) (cG:List zI) (zh:List Value) (xP:yLN),ρ=upd (upd (upd (upd (upd (upd xR 1<|Sv ao own.length co) 3<|pp b1 0) 5<|pp b3 0) 7<|pp b5 0) 18<|yI ((maxL own)+1)) 19 (yI i)/\cG=yZ s own t i/\((i:Int)<=((maxL own)+1))/\m'=(((maxL own)+1)-(i:Int)).toNat/\Fresh W0.heap.size (xP::Ns)/\St W0 sr ((rr zK zu zJ 49 16 zh)::(.box b5 [Sv zK zu zJ,yN,yI s.qQ,Sv ap s.qA.length cp,Sv ar s.qB.length cr,Sv ao own.length co] 74)::Z0::Z1::ps) ((qX true xP zh cG)::Z2::Z3::Z4::Z5::Z6::Z7::Γ)) _ _ _ _ _ _ _ _) ((((maxL own)+1)-(0:Int)).toNat) ⟨_,0,none,0,0,([]:List zI),[],[],uE6,(by rfl),qf,J,N.emp,H⟩ ?_
 clear H N
 rintro m' ρ z7 ⟨xR,i,zK,zu,zJ,cG,zh,xP,rfl,rfl,i0,rfl,N,H⟩
 have nR:=H.xf (α:=zI) 0 J 0 J qj
 have kl:=beginTo_len s own t i
 refine zcr<|sq 1<|zjn<|xO<|cD J (fun iz=>?_)<|fun iz=>?_
 ·refine xe (t_n<|xO<|xg<|zcr<|sp (yI i)<|sp (yI i)<|zjn<|xO<|c_lateC 1 (fun ρ LP=>∃(xR:Env) (Ab:Nat) (f3:Nat) (GD:Nat) (b16:Nat) (T9:List Value) (F18:yLN),ρ=upd (upd (upd (upd (upd (upd (upd (upd (upd xR 1<|Sv ao own.length co) 3<|pp b1 0) 5<|pp b3 0) 7<|pp b5 0) 8<|yI i) 9<|pp b16 0) 18<|yI ((maxL own)+1)) 19<|yI i) 30 (.agg #[yI 0,Sv (aa Ab 0) s.qA.length f3,Sv (aa GD 0) s.qQ.toNat s.qQ.toNat,Bv false,yN,yN,yN,yN])/\Fresh W0.heap.size (F18::xP::Ns)/\St W0 LP ((.box b16 [yI 0,yN,yN,Bv false,yN,yN,yN,yN] 47)::(rr (aa GD 0) s.qQ.toNat s.qQ.toNat 2 1 ((List.replicate s.qQ.toNat (0:Int)).map<|Value.int .i64))::(rr (aa Ab 0) s.qA.length f3 24 1 T9)::(rr zK zu zJ 49 16 zh)::(.box b5 [Sv zK zu zJ,yN,yI s.qQ,Sv ap s.qA.length cp,Sv ar s.qB.length cr,Sv ao own.length co] 74)::(.box b3 (yT t tA cA tB cB tU cU) 31)::(.box b1 (yS s ap cp ar cr) 27)::ps) ((qX true F18 T9 ((jG s<|s.qA.length+1).take s.qA.length))::(qX true xP zh<|yZ s own t i)::(sF false Fp ap cp s.qA)::(sF false Fr ar cr s.qB)::(sF false Fo ao co own)::(sF false FA tA cA t.qO)::(sF false FB tB cB t.qG)::(sF false FU tU cU t.qF)::Γ)) J H [0,1,2,3] [0,1,2,3,4,5,6] (fun H=>?_) ?_)
  ·dsimp only[yu,yU]
   refine Q3 (fun ρ LE=>∃(xR:Env) (t7:Nat) (fh:Nat) (tQ:Nat) (Gd:Nat) (RS:List Value) (F26:yLN),ρ=upd (upd (upd (upd (upd (upd (upd (upd (upd (upd xR 1<|Sv ao own.length co) 3<|pp b1 0) 5<|pp b3 0) 7<|pp b5 0) 8<|yI i) 9<|pp Gd 0) 18<|yI ((maxL own)+1)) 19<|yI i) 26<|Sv (aa t7 0) s.qA.length fh) 29 (Sv (aa tQ 0) s.qQ.toNat s.qQ.toNat)/\Fresh W0.heap.size (F26::xP::Ns)/\St W0 LE ((.box Gd [yI 0,yN,yN,Bv false,yN,yN,yN,yN] 47)::(rr (aa tQ 0) s.qQ.toNat s.qQ.toNat 2 1 ((List.replicate s.qQ.toNat (0:Int)).map<|Value.int .i64))::(rr (aa t7 0) s.qA.length fh 24 1 RS)::(rr zK zu zJ 49 16 zh)::(.box b5 [Sv zK zu zJ,yN,yI s.qQ,Sv ap s.qA.length cp,Sv ar s.qB.length cr,Sv ao own.length co] 74)::(.box b3 (yT t tA cA tB cB tU cU) 31)::(.box b1 (yS s ap cp ar cr) 27)::ps) ((qX true F26 RS ((jG s<|s.qA.length+1).take s.qA.length))::(qX true xP zh<|yZ s own t i)::(sF false Fp ap cp s.qA)::(sF false Fr ar cr s.qB)::(sF false Fo ao co own)::(sF false FA tA cA t.qO)::(sF false FB tB cB t.qG)::(sF false FU tU cU t.qF)::Γ)) 1 #[true,true,true,true,true,true,true,true,false,true] ?_ fun L27=>?_
   ·rintro ρ Iu ⟨xR,t7,fh,tQ,Gd,RS,F26,rfl,N,H⟩
    refine ro 8 rfl<|vZ [yI 0,Sv (aa t7 0) s.qA.length fh,Sv (aa tQ 0) s.qQ.toNat s.qQ.toNat,Bv false,yN,yN,yN,yN] [(1,Sv (aa t7 0) s.qA.length fh),(2,Sv (aa tQ 0) s.qQ.toNat s.qQ.toNat)]<|⟨H.pick (zR 3 4)<|zR 1 7,(xx qh ((meet ⟨_,t7,fh,tQ,Gd,RS,F26,uE9,N,H⟩)))⟩
   refine Q3 (fun ρ JP=>∃(xR:Env) (HX:Nat) (F8:Nat) (Me:Nat) (NK:List Value) (F34:yLN),ρ=upd (upd (upd (upd (upd (upd (upd (upd (upd xR 1<|Sv ao own.length co) 3<|pp b1 0) 5<|pp b3 0) 7<|pp b5 0) 8<|yI i) 18<|yI ((maxL own)+1)) 19<|yI i) 26<|Sv (aa HX 0) s.qA.length F8) 29 (Sv (aa Me 0) s.qQ.toNat s.qQ.toNat)/\Fresh W0.heap.size (F34::xP::Ns)/\St W0 JP ((rr (aa Me 0) s.qQ.toNat s.qQ.toNat 2 1 ((List.replicate s.qQ.toNat (0:Int)).map<|Value.int .i64))::(rr (aa HX 0) s.qA.length F8 24 1 NK)::(rr zK zu zJ 49 16 zh)::(.box b5 [Sv zK zu zJ,yN,yI s.qQ,Sv ap s.qA.length cp,Sv ar s.qB.length cr,Sv ao own.length co] 74)::(.box b3 (yT t tA cA tB cB tU cU) 31)::(.box b1 (yS s ap cp ar cr) 27)::ps) ((qX true F34 NK ((jG s<|s.qA.length+1).take s.qA.length))::(qX true xP zh<|yZ s own t i)::(sF false Fp ap cp s.qA)::(sF false Fr ar cr s.qB)::(sF false Fo ao co own)::(sF false FA tA cA t.qO)::(sF false FB tB cB t.qG)::(sF false FU tU cU t.qF)::Γ)) 2 #[true,true,true,true,true,true,true,true,false,false] ?_ fun L35=>?_
   ·rintro ρ w37 ⟨xR,HX,F8,Me,NK,F34,rfl,N,H⟩
    refine jw [8,9] qh qm<|yl J ?_<|yl J ?_ jy
    ·refine vZ [yI 0,Sv (aa HX 0) s.qA.length F8,Sv (aa Me 0) s.qQ.toNat s.qQ.toNat,Bv false,yN,yN,yN,yN] [(1,Sv (aa HX 0) s.qA.length F8),(2,Sv (aa Me 0) s.qQ.toNat s.qQ.toNat)]<|⟨H.pick (zR 2 4)<|zR 1 7,(ro 9 rfl<|x8 H ti47 [yI 0,yN,yN,Bv false,yN,yN,yN,yN] fun b38 O1 H=>⟨H.pick (zR 3 4)<|zR 1 7,(xx qh ((meet ⟨_,HX,F8,Me,b38,NK,F34,uE9,N,H⟩)))⟩)⟩
    refine x8 H ti47 [yI 0,yN,yN,Bv false,yN,yN,yN,yN] fun Ys w41 H=>⟨H.pick (zR 3 4)<|zR 1 7,(yG L27 ⟨_,HX,F8,Me,Ys,NK,F34,uE10,N,H⟩)⟩
   refine Q3 (fun ρ w48=>∃(xR:Env) (Sc:Nat) (TQ:Nat) (RI:Nat) (SJ:List Value) (F46:yLN),ρ=upd (upd (upd (upd (upd (upd (upd (upd (upd (upd xR 1<|Sv ao own.length co) 3<|pp b1 0) 5<|pp b3 0) 7<|pp b5 0) 8<|yI i) 9<|pp RI 0) 18<|yI ((maxL own)+1)) 19<|yI i) 26<|Sv (aa Sc 0) s.qA.length TQ) 28 (yI s.qQ)/\Fresh W0.heap.size (F46::xP::Ns)/\St W0 w48 ((.box RI [yI 0,yN,yN,Bv false,yN,yN,yN,yN] 47)::(rr (aa Sc 0) s.qA.length TQ 24 1 SJ)::(rr zK zu zJ 49 16 zh)::(.box b5 [Sv zK zu zJ,yN,yI s.qQ,Sv ap s.qA.length cp,Sv ar s.qB.length cr,Sv ao own.length co] 74)::(.box b3 (yT t tA cA tB cB tU cU) 31)::(.box b1 (yS s ap cp ar cr) 27)::ps) ((qX true F46 SJ ((jG s<|s.qA.length+1).take s.qA.length))::(qX true xP zh<|yZ s own t i)::(sF false Fp ap cp s.qA)::(sF false Fr ar cr s.qB)::(sF false Fo ao co own)::(sF false FA tA cA t.qO)::(sF false FB tB cB t.qG)::(sF false FU tU cU t.qF)::Γ)) 2 #[true,true,true,true,true,true,true,false,false,true] ?_ fun L47=>?_
   ·rintro ρ w49 ⟨xR,Sc,TQ,RI,SJ,F46,rfl,N,H⟩
    refine ro 7 J<|jQ H underlying24 ti2 s.qQ.toNat J J qf qf qf fun b50 w51 H=>⟨H.pick (zR 3 4)<|zR 1 7,(yG L27 ⟨_,Sc,TQ,b50,RI,SJ,F46,uE10,N,H.xG 7 8 (1::0::zR 2 5) (zR 0 8) xE xE⟩)⟩
   refine Q3 (fun ρ w59=>∃(xR:Env) (BU:yOA) (Ad:Nat) (WC:Nat) (RB:Nat) (P6:List Value) (abW:yLN),ρ=upd (upd (upd (upd (upd (upd (upd (upd (upd (upd (upd xR 1<|Sv ao own.length co) 3<|pp b1 0) 5<|pp b3 0) 7<|pp b5 0) 8<|yI i) 9<|pp RB 0) 18<|yI ((maxL own)+1)) 19<|yI i) 23<|Sv BU ((jG s<|s.qA.length+1).length) Ad) 25<|yI s.qA.length) 29 (Sv (aa WC 0) s.qQ.toNat s.qQ.toNat)/\Fresh W0.heap.size (abW::xP::Ns)/\St W0 w59 ((.box RB [yI 0,yN,yN,Bv false,yN,yN,yN,yN] 47)::(rr (aa WC 0) s.qQ.toNat s.qQ.toNat 2 1 ((List.replicate s.qQ.toNat (0:Int)).map<|Value.int .i64))::(rr BU ((jG s<|s.qA.length+1).length) Ad 24 1 P6)::(rr zK zu zJ 49 16 zh)::(.box b5 [Sv zK zu zJ,yN,yI s.qQ,Sv ap s.qA.length cp,Sv ar s.qB.length cr,Sv ao own.length co] 74)::(.box b3 (yT t tA cA tB cB tU cU) 31)::(.box b1 (yS s ap cp ar cr) 27)::ps) ((qX true abW P6<|jG s<|s.qA.length+1)::(qX true xP zh<|yZ s own t i)::(sF false Fp ap cp s.qA)::(sF false Fr ar cr s.qB)::(sF false Fo ao co own)::(sF false FA tA cA t.qO)::(sF false FB tB cB t.qG)::(sF false FU tU cU t.qF)::Γ)) 2 #[true,true,true,true,false,true,true,true,false,true] ?_ fun L58=>?_
   ·rintro ρ w60 ⟨xR,BU,Ad,WC,RB,P6,abW,rfl,N,H⟩
    refine ro 4 J ?_
    obtain⟨b61,rfl⟩:=H.jm 2 rfl qf
    have aQZ:=H.rowCap 2 J
    refine o_up s.qA.length underlying29 ti24 J J qf ?_
    obtain⟨axa,F64,aqS,H⟩:=H.rowHead 2 rfl 0 rfl s.qA.length qf qf
    dsimp only[List.set] at H
    replace N:=Fresh.less N aqS.1 aqS.2
    refine⟨H.pick (zR 3 4)<|zR 2 7,(yG L27 ⟨_,b61,Ad,WC,RB,axa,F64,uE10,N,H.xG 7 9 (zR 0 7) (0::zR 2 7) xE xE⟩)⟩
   refine Q3 (fun ρ LT=>∃(xR:Env) (Tu:yOA) (J1:Nat) (b68:Nat) (Ss:List Value) (SQ:yLN),ρ=upd (upd (upd (upd (upd (upd (upd (upd (upd (upd xR 1<|Sv ao own.length co) 3<|pp b1 0) 5<|pp b3 0) 7<|pp b5 0) 8<|yI i) 18<|yI ((maxL own)+1)) 19<|yI i) 23<|Sv Tu ((jG s<|s.qA.length+1).length) J1) 25<|yI s.qA.length) 29 (Sv (aa b68 0) s.qQ.toNat s.qQ.toNat)/\Fresh W0.heap.size (SQ::xP::Ns)/\St W0 LT ((rr (aa b68 0) s.qQ.toNat s.qQ.toNat 2 1 ((List.replicate s.qQ.toNat (0:Int)).map<|Value.int .i64))::(rr Tu ((jG s<|s.qA.length+1).length) J1 24 1 Ss)::(rr zK zu zJ 49 16 zh)::(.box b5 [Sv zK zu zJ,yN,yI s.qQ,Sv ap s.qA.length cp,Sv ar s.qB.length cr,Sv ao own.length co] 74)::(.box b3 (yT t tA cA tB cB tU cU) 31)::(.box b1 (yS s ap cp ar cr) 27)::ps) ((qX true SQ Ss<|jG s<|s.qA.length+1)::(qX true xP zh<|yZ s own t i)::(sF false Fp ap cp s.qA)::(sF false Fr ar cr s.qB)::(sF false Fo ao co own)::(sF false FA tA cA t.qO)::(sF false FB tB cB t.qG)::(sF false FU tU cU t.qF)::Γ)) 3 #[true,true,true,true,false,true,true,true,false,false] ?_ fun L71=>?_
   ·rintro ρ w73 ⟨xR,Tu,J1,b68,Ss,SQ,rfl,N,H⟩
    refine jw [4,9] qh qm<|yl J ?_<|yl J ?_ jy
    ·obtain⟨b74,rfl⟩:=H.jm 1 rfl qf
     have aNF:=H.rowCap 1 J
     refine o_up s.qA.length underlying29 ti24 J J qf ?_
     obtain⟨ahu,F77,abT,H⟩:=H.rowHead 1 rfl 0 rfl s.qA.length qf qf
     dsimp only[List.set] at H
     replace N:=Fresh.less N abT.1 abT.2
     refine⟨H.pick (zR 2 4)<|zR 2 7,(yG L35 ⟨_,b74,J1,b68,ahu,F77,uE9,N,H.xG 6 9 (zR 0 6) (0::zR 2 7) xE xE⟩)⟩
    refine x8 H ti47 [yI 0,yN,yN,Bv false,yN,yN,yN,yN] fun rz TO H=>⟨H.pick (zR 3 4)<|zR 1 7,(yG L58 ⟨_,Tu,J1,b68,rz,Ss,SQ,uE11,N,H⟩)⟩
   refine Q3 (fun ρ w87=>∃(xR:Env) (UD:yOA) (Ks:Nat) (Bc:Nat) (S6:List Value) (D7:yLN),ρ=upd (upd (upd (upd (upd (upd (upd (upd (upd (upd (upd xR 1<|Sv ao own.length co) 3<|pp b1 0) 5<|pp b3 0) 7<|pp b5 0) 8<|yI i) 9<|pp Bc 0) 18<|yI ((maxL own)+1)) 19<|yI i) 23<|Sv UD ((jG s<|s.qA.length+1).length) Ks) 25<|yI s.qA.length) 28 (yI s.qQ)/\Fresh W0.heap.size (D7::xP::Ns)/\St W0 w87 ((.box Bc [yI 0,yN,yN,Bv false,yN,yN,yN,yN] 47)::(rr UD ((jG s<|s.qA.length+1).length) Ks 24 1 S6)::(rr zK zu zJ 49 16 zh)::(.box b5 [Sv zK zu zJ,yN,yI s.qQ,Sv ap s.qA.length cp,Sv ar s.qB.length cr,Sv ao own.length co] 74)::(.box b3 (yT t tA cA tB cB tU cU) 31)::(.box b1 (yS s ap cp ar cr) 27)::ps) ((qX true D7 S6<|jG s<|s.qA.length+1)::(qX true xP zh<|yZ s own t i)::(sF false Fp ap cp s.qA)::(sF false Fr ar cr s.qB)::(sF false Fo ao co own)::(sF false FA tA cA t.qO)::(sF false FB tB cB t.qG)::(sF false FU tU cU t.qF)::Γ)) 3 #[true,true,true,true,false,true,true,false,false,true] ?_ fun L86=>?_
   ·rintro ρ w88 ⟨xR,UD,Ks,Bc,S6,D7,rfl,N,H⟩
    refine jw [4,7] qh qm<|yl J ?_<|yl J ?_ jy
    ·obtain⟨Bd,rfl⟩:=H.jm 1 rfl qf
     have aOT:=H.rowCap 1 J
     refine o_up s.qA.length underlying29 ti24 J J qf ?_
     obtain⟨azU,F92,alL,H⟩:=H.rowHead 1 rfl 0 rfl s.qA.length qf qf
     dsimp only[List.set] at H
     replace N:=Fresh.less N alL.1 alL.2
     refine⟨H.pick (zR 2 4)<|zR 2 7,(yG L47 ⟨_,Bd,Ks,Bc,azU,F92,uE10,N,H.xG 6 9 (zR 0 6) (0::zR 2 7) xE xE⟩)⟩
    refine jQ H underlying24 ti2 s.qQ.toNat J J qf qf qf fun b94 w95 H=>⟨H.pick (zR 3 4)<|zR 1 7,(yG L58 ⟨_,UD,Ks,b94,Bc,S6,D7,uE11,N,H.xG 7 8 (1::0::zR 2 5) (zR 0 8) xE xE⟩)⟩
   refine Q3 (fun ρ KP=>∃(xR:Env) (STz:yOA) (K7:Nat) (zd:Nat) (b99:Nat) (H2:List Value) (HR:yLN),ρ=upd (upd (upd (upd (upd (upd (upd (upd (upd (upd (upd xR 1<|Sv ao own.length co) 3<|pp b1 0) 5<|pp b3 0) 7<|pp b5 0) 8<|yI i) 9<|pp b99 0) 18<|yI ((maxL own)+1)) 19<|yI i) 23<|Sv STz ((jG s<|s.qA.length+1).length) K7) 24<|.agg #[yI s.qQ,Sv ap s.qA.length cp,Sv ar s.qB.length cr]) 29 (Sv (aa zd 0) s.qQ.toNat s.qQ.toNat)/\Fresh W0.heap.size (HR::xP::Ns)/\St W0 KP ((.box b99 [yI 0,yN,yN,Bv false,yN,yN,yN,yN] 47)::(rr (aa zd 0) s.qQ.toNat s.qQ.toNat 2 1 ((List.replicate s.qQ.toNat (0:Int)).map<|Value.int .i64))::(rr STz ((jG s<|s.qA.length+1).length) K7 24 1 H2)::(rr zK zu zJ 49 16 zh)::(.box b5 [Sv zK zu zJ,yN,yI s.qQ,Sv ap s.qA.length cp,Sv ar s.qB.length cr,Sv ao own.length co] 74)::(.box b3 (yT t tA cA tB cB tU cU) 31)::(.box b1 (yS s ap cp ar cr) 27)::ps) ((qX true HR H2<|jG s<|s.qA.length+1)::(qX true xP zh<|yZ s own t i)::(sF false Fp ap cp s.qA)::(sF false Fr ar cr s.qB)::(sF false Fo ao co own)::(sF false FA tA cA t.qO)::(sF false FB tB cB t.qG)::(sF false FU tU cU t.qF)::Γ)) 3 #[true,true,true,false,false,true,true,true,false,true] ?_ fun abD=>?_
   ·rintro ρ Rd ⟨xR,STz,K7,zd,b99,H2,HR,rfl,N,H⟩
    refine ro 3 J<|oq (Xj _ s (H.get 2 J).1 (H.get 3 J).1) H fun R1 H=>⟨H.pick (zR 3 4)<|zR 1 7,(yG L58 ⟨_,STz,K7,zd,b99,H2,HR,uE11,N,H⟩)⟩
   refine Q3 (fun ρ Rc=>∃(xR:Env) (Ei:yOA) (vq:Nat) (NX:Nat) (Eh:List Value) (DB:yLN),ρ=upd (upd (upd (upd (upd (upd (upd (upd (upd (upd xR 1<|Sv ao own.length co) 3<|pp b1 0) 5<|pp b3 0) 7<|pp b5 0) 8<|yI i) 18<|yI ((maxL own)+1)) 19<|yI i) 23<|Sv Ei ((jG s<|s.qA.length+1).length) vq) 24<|.agg #[yI s.qQ,Sv ap s.qA.length cp,Sv ar s.qB.length cr]) 29 (Sv (aa NX 0) s.qQ.toNat s.qQ.toNat)/\Fresh W0.heap.size (DB::xP::Ns)/\St W0 Rc ((rr (aa NX 0) s.qQ.toNat s.qQ.toNat 2 1 ((List.replicate s.qQ.toNat (0:Int)).map<|Value.int .i64))::(rr Ei ((jG s<|s.qA.length+1).length) vq 24 1 Eh)::(rr zK zu zJ 49 16 zh)::(.box b5 [Sv zK zu zJ,yN,yI s.qQ,Sv ap s.qA.length cp,Sv ar s.qB.length cr,Sv ao own.length co] 74)::(.box b3 (yT t tA cA tB cB tU cU) 31)::(.box b1 (yS s ap cp ar cr) 27)::ps) ((qX true DB Eh<|jG s<|s.qA.length+1)::(qX true xP zh<|yZ s own t i)::(sF false Fp ap cp s.qA)::(sF false Fr ar cr s.qB)::(sF false Fo ao co own)::(sF false FA tA cA t.qO)::(sF false FB tB cB t.qG)::(sF false FU tU cU t.qF)::Γ)) 4 #[true,true,true,false,false,true,true,true,false,false] ?_ fun ajP=>?_
   ·rintro ρ aAA ⟨xR,Ei,vq,NX,Eh,DB,rfl,N,H⟩
    refine jw [3,9] qh qm<|yl J ?_<|yl J ?_ jy
    ·refine oq (Xj _ s (H.get 2 J).1 (H.get 3 J).1) H fun ac0 H=>⟨H.pick (zR 2 4)<|zR 1 7,(yG L71 ⟨_,Ei,vq,NX,Eh,DB,uE10,N,H⟩)⟩
    refine x8 H ti47 [yI 0,yN,yN,Bv false,yN,yN,yN,yN] fun ad4 FQ H=>⟨H.pick (zR 3 4)<|zR 1 7,(yG abD ⟨_,Ei,vq,NX,ad4,Eh,DB,uE11,N,H⟩)⟩
   refine Q3 (fun ρ asD=>∃(xR:Env) (DT:yOA) (EK:Nat) (GC:Nat) (Ek:List Value) (Ez:yLN),ρ=upd (upd (upd (upd (upd (upd (upd (upd (upd (upd (upd xR 1<|Sv ao own.length co) 3<|pp b1 0) 5<|pp b3 0) 7<|pp b5 0) 8<|yI i) 9<|pp GC 0) 18<|yI ((maxL own)+1)) 19<|yI i) 23<|Sv DT ((jG s<|s.qA.length+1).length) EK) 24<|.agg #[yI s.qQ,Sv ap s.qA.length cp,Sv ar s.qB.length cr]) 28 (yI s.qQ)/\Fresh W0.heap.size (Ez::xP::Ns)/\St W0 asD ((.box GC [yI 0,yN,yN,Bv false,yN,yN,yN,yN] 47)::(rr DT ((jG s<|s.qA.length+1).length) EK 24 1 Ek)::(rr zK zu zJ 49 16 zh)::(.box b5 [Sv zK zu zJ,yN,yI s.qQ,Sv ap s.qA.length cp,Sv ar s.qB.length cr,Sv ao own.length co] 74)::(.box b3 (yT t tA cA tB cB tU cU) 31)::(.box b1 (yS s ap cp ar cr) 27)::ps) ((qX true Ez Ek<|jG s<|s.qA.length+1)::(qX true xP zh<|yZ s own t i)::(sF false Fp ap cp s.qA)::(sF false Fr ar cr s.qB)::(sF false Fo ao co own)::(sF false FA tA cA t.qO)::(sF false FB tB cB t.qG)::(sF false FU tU cU t.qF)::Γ)) 4 #[true,true,true,false,false,true,true,false,false,true] ?_ fun aiZ=>?_
   ·rintro ρ TF ⟨xR,DT,EK,GC,Ek,Ez,rfl,N,H⟩
    refine jw [3,7] qh qm<|yl J ?_<|yl J ?_ jy
    ·refine oq (Xj _ s (H.get 2 J).1 (H.get 3 J).1) H fun abM H=>⟨H.pick (zR 2 4)<|zR 1 7,(yG L86 ⟨_,DT,EK,GC,Ek,Ez,uE11,N,H⟩)⟩
    refine jQ H underlying24 ti2 s.qQ.toNat J J qf qf qf fun acI aBF H=>⟨H.pick (zR 3 4)<|zR 1 7,(yG abD ⟨_,DT,EK,acI,GC,Ek,Ez,uE11,N,H.xG 7 8 (1::0::zR 2 5) (zR 0 8) xE xE⟩)⟩
   refine Q3 (fun ρ LD=>∃(xR:Env) (NW:Nat) (SG:Nat),ρ=upd (upd (upd (upd (upd (upd (upd (upd (upd (upd (upd xR 1<|Sv ao own.length co) 3<|pp b1 0) 5<|pp b3 0) 7<|pp b5 0) 8<|yI i) 9<|pp SG 0) 18<|yI ((maxL own)+1)) 19<|yI i) 22<|.agg #[yI s.qQ,Sv ap s.qA.length cp,Sv ar s.qB.length cr]) 24<|.agg #[yI s.qQ,Sv ap s.qA.length cp,Sv ar s.qB.length cr]) 29 (Sv (aa NW 0) s.qQ.toNat s.qQ.toNat)/\Fresh W0.heap.size (xP::Ns)/\St W0 LD ((.box SG [yI 0,yN,yN,Bv false,yN,yN,yN,yN] 47)::(rr (aa NW 0) s.qQ.toNat s.qQ.toNat 2 1 ((List.replicate s.qQ.toNat (0:Int)).map<|Value.int .i64))::(rr zK zu zJ 49 16 zh)::(.box b5 [Sv zK zu zJ,yN,yI s.qQ,Sv ap s.qA.length cp,Sv ar s.qB.length cr,Sv ao own.length co] 74)::(.box b3 (yT t tA cA tB cB tU cU) 31)::(.box b1 (yS s ap cp ar cr) 27)::ps) ((qX true xP zh<|yZ s own t i)::(sF false Fp ap cp s.qA)::(sF false Fr ar cr s.qB)::(sF false Fo ao co own)::(sF false FA tA cA t.qO)::(sF false FB tB cB t.qG)::(sF false FU tU cU t.qF)::Γ)) 4 #[true,false,true,false,false,true,true,true,false,true] ?_ fun agQ=>?_
   ·rintro ρ asx ⟨xR,NW,SG,rfl,N,H⟩
    refine ro 1 J<|oc (noBags_ok _ s (H.get 1 J).1 (H.get 2 J).1 qg) ?_
    rintro _ aso ⟨PY,aar,Mj,N7,Mr,rfl,M,K⟩ _
    obtain⟨N,H⟩:=H.both K M N [0] 7 K0
    obtain rfl:=H.xf (α:=yLI) 0 rfl 0 rfl qj
    refine⟨H.pick (zR 3 4)<|zR 1 7,(yG abD ⟨_,PY,Mj,NW,SG,N7,Mr,uE11,N,H.xG 7 8 [1,2,0,3,4,5,6] (zR 0 8) xE xE⟩)⟩
   have S:=H.ve (zR 0 4)<|zR 0 7
   refine rt 0 _ (yP (cs:=(yS s ap cp ar cr)) isAgg27 sizeOf27 J<|fun _ h=>qH (h.cells 3 J) 0 3) S ?_
   refine rt 2 _ (yP (cs:=(yS s ap cp ar cr)) isAgg27 sizeOf27 J<|fun _ h=>qH (h.cells 3 J) 0 3) S ?_
   refine tF 5 J J S ?_
   refine tL 6 J J (fun _ h=>h.cell 3 J J) S ?_
   refine jw [1,7,9] qh qm<|yl J ?_<|yl J ?_<|yl J ?_ jy
   ·refine oc (noBags_ok _ s (H.get 1 J).1 (H.get 2 J).1 qg) ?_
    rintro _ Sh ⟨IE,apX,AL,HN,Jh,rfl,M,K⟩ _
    obtain⟨N,H⟩:=H.both K M N [0] 7 K0
    obtain rfl:=H.xf (α:=yLI) 0 rfl 0 rfl qj
    refine⟨H.pick (zR 1 4)<|zR 1 7,(jw [3,7,9] qh qm<|yl J ?_<|yl J ?_<|yl J ?_ jy)⟩
    ·refine oq (Xj _ s (H.get 2 J).1 (H.get 3 J).1) H fun aMO H=>⟨H.pick (zR 1 4)<|zR 1 7,(jw [4,7,9] qh qm<|yl J ?_<|yl J ?_<|yl J ?_ jy)⟩
     ·obtain⟨air,rfl⟩:=H.jm 0 rfl qf
      have aHJ:=H.rowCap 0 J
      refine o_up s.qA.length underlying29 ti24 J J qf ?_
      obtain⟨Ww,ajg,aaG,H⟩:=H.rowHead 0 rfl 0 rfl s.qA.length qf qf
      dsimp only[List.set] at H
      replace N:=Fresh.less N aaG.1 aaG.2
      refine⟨H.pick (zR 1 4)<|zR 2 7,(jw [7,9] qh qm<|yl J ?_<|yl J ?_ jy)⟩
      ·refine jQ H underlying24 ti2 s.qQ.toNat J J qf qf qf fun KM RR H=>⟨H.pick (zR 2 4)<|zR 2 7,(yG L35 ⟨_,air,AL,KM,Ww,ajg,uE9,N,H.xG 6 9 (zR 0 6) (0::zR 2 7) xE xE⟩)⟩
      refine x8 H ti47 [yI 0,yN,yN,Bv false,yN,yN,yN,yN] fun ary aiO H=>⟨H.pick (zR 2 4)<|zR 2 7,(yG L47 ⟨_,air,AL,ary,Ww,ajg,uE10,N,H.xG 6 9 (zR 0 6) (0::zR 2 7) xE xE⟩)⟩
     ·refine jQ H underlying24 ti2 s.qQ.toNat J J qf qf qf fun aAW apI H=>⟨H.pick (zR 2 4)<|zR 1 7,(yG L71 ⟨_,IE,AL,aAW,HN,Jh,uE10,N,H⟩)⟩
     refine x8 H ti47 [yI 0,yN,yN,Bv false,yN,yN,yN,yN] fun aml apV H=>⟨H.pick (zR 2 4)<|zR 1 7,(yG L86 ⟨_,IE,AL,aml,HN,Jh,uE11,N,H⟩)⟩
    ·refine jQ H underlying24 ti2 s.qQ.toNat J J qf qf qf fun adC aDs H=>⟨H.pick (zR 2 4)<|zR 1 7,(yG ajP ⟨_,IE,AL,adC,HN,Jh,uE10,N,H⟩)⟩
    refine x8 H ti47 [yI 0,yN,yN,Bv false,yN,yN,yN,yN] fun ab8 aiV H=>⟨H.pick (zR 2 4)<|zR 1 7,(yG aiZ ⟨_,IE,AL,ab8,HN,Jh,uE11,N,H⟩)⟩
   ·refine jQ H underlying24 ti2 s.qQ.toNat J J qf qf qf fun ai9 aeG H=>⟨H.pick (zR 1 4)<|zR 0 7,(jw [1,9] qh qm<|yl J ?_<|yl J ?_ jy)⟩
    ·refine oc (noBags_ok _ s (H.get 1 J).1 (H.get 2 J).1 qg) ?_
     rintro _ aDE ⟨ahx,aHW,AF,apw,akT,rfl,M,K⟩ _
     obtain⟨N,H⟩:=H.both K M N [0] 7 K0
     obtain rfl:=H.xf (α:=yLI) 0 rfl 0 rfl qj
     refine⟨H.pick (zR 2 4)<|zR 1 7,(yG ajP ⟨_,ahx,AF,ai9,apw,akT,uE10,N,H.xG 6 8 [1,0,2,3,4,5] (zR 0 8) xE xE⟩)⟩
    refine x8 H ti47 [yI 0,yN,yN,Bv false,yN,yN,yN,yN] fun ax0 aMm H=>⟨H.pick (zR 2 4)<|zR 0 7,(yG agQ ⟨_,ai9,ax0,uE11,N,H⟩)⟩
   refine x8 H ti47 [yI 0,yN,yN,Bv false,yN,yN,yN,yN] fun ait arv H=>⟨H.pick (zR 1 4)<|zR 0 7,(jw [1,7] qh qm<|yl J ?_<|yl J ?_ jy)⟩
   ·refine oc (noBags_ok _ s (H.get 1 J).1 (H.get 2 J).1 qg) ?_
    rintro _ adB ⟨apY,aGC,ak8,OK,aoO,rfl,M,K⟩ _
    obtain⟨N,H⟩:=H.both K M N [0] 7 K0
    obtain rfl:=H.xf (α:=yLI) 0 rfl 0 rfl qj
    refine⟨H.pick (zR 2 4)<|zR 1 7,(yG aiZ ⟨_,apY,ak8,ait,OK,aoO,uE11,N,H.xG 6 8 [1,0,2,3,4,5] (zR 0 8) xE xE⟩)⟩
   refine jQ H underlying24 ti2 s.qQ.toNat J J qf qf qf fun iZ acT H=>⟨H.pick (zR 2 4)<|zR 0 7,(yG agQ ⟨_,iZ,ait,uE11,N,H.xG 6 7 [1,0,2,3,4,5] (zR 0 7) xE xE⟩)⟩
  clear H N
  rintro ρ amg ⟨xR,Ab,f3,GD,b16,T9,F18,rfl,N,H⟩
  refine sw<|xZ H 0 [yI 0,Sv (aa Ab 0) s.qA.length f3,Sv (aa GD 0) s.qQ.toNat s.qQ.toNat,Bv false,yN,yN,yN,yN] sizeOf47 fun aPb H=>?_
  dsimp only[List.set] at H
  refine zjcc<|oF J<|oL J (H.cell 5 J J)<|oN J<|sp (yI 0)<|zjn<|xg<|vk ((fun Z0 Z1 Z2 Z3 Z4 Z5 Z6 Z7 Z8 Z9 dU eC fe=>fun m' ρ aAz=>∃(xR:Env) (c:Nat) (aB:yLL) (Xz:List Value) (Qq:yLN),ρ=upd (upd (upd (upd (upd (upd (upd (upd (upd (upd (upd xR 1<|Sv ao own.length co) 3<|pp b1 0) 5<|pp b3 0) 7<|pp b5 0) 8<|yI i) 9<|pp b16 0) 18<|yI ((maxL own)+1)) 19<|yI i) 32<|Sv tB t.qG.length cB) 33<|yI t.qG.length) 34 (yI c)/\((c:Int)<=t.qG.length)/\(aB=begB s own t i c)/\m'=(t.qG.length-(c:Int)).toNat/\Fresh W0.heap.size (xP::Qq::Ns)/\St W0 aAz (Z0::Z1::(rr (aa Ab 0) s.qA.length f3 24 1 Xz)::Z2::Z3::Z4::Z5::ps) ((qX true Qq Xz aB)::Z6::Z7::Z8::Z9::dU::eC::fe::Γ)) _ _ _ _ _ _ _ _ _ _ _ _ _) ((t.qG.length-(0:Int)).toNat) ⟨_,0,((jG s<|s.qA.length+1).take s.qA.length),T9,F18,uE11,qf,(by exact beg_zero),J,(N.xG 2 [1,0] xE),H⟩ ?_
  clear H N
  rintro m' ρ azz ⟨xR,c,aB,Xz,Qq,rfl,i0,i2,rfl,N,H⟩
  have rE:=H.xf (α:=yLI) 2 J 0 J qj
  have bl:aB.length=s.qA.length:=by rw[i2];exact V9
  refine zcr<|sq 1<|zjn<|xO<|cD J (fun azu=>?_)<|fun azu=>?_
  ·refine xe (t_n<|xO<|xg<|zcr<|sp (yI c) ?_)
   obtain⟨aI3,aMF,rfl⟩:=H.addr 6 rfl qf
   obtain⟨aF2,aH0,aHK,H⟩:=H.yg 6 rfl c c qf qf qf
   refine oI J J<|oL J (H.zU 1 J 0 J)<|sp (yI c)<|sq 1<|zjc<|sq 1<|sp (yI c) ?_
   obtain⟨aLr,aJ3,rfl⟩:=H.addr 6 rfl qf
   refine oI J J<|oL J (H.vM 6 J c qf)<|sp (yI i)<|sq 1<|zjn<|cE J (fun abZ=>?_)<|fun abZ=>?_
   ·refine vW 2 J H [0,1,2,3,4,5,6] [0,1,2,3,4,5,6,7,8,9] fun H=>?_
    dsimp only[yu,yU]
    have S:=H.ve (zR 0 7)<|zR 0 10
    refine tF 0 J J S ?_
    refine tL 1 J J (fun _ h=>h.cell 0 J J) S ?_
    refine rtp 2 (yI c) S ?_
    refine rtl 3 S ?_
    refine ro 4 J ?_
    (have b2:=(ja (p2.2.2.2.2 c qf).1).1)
    refine oc (cloneI_ok _ t.qG[c]! (H.get 0 J).1 qg) ?_
    rintro aJg Ub ayB aDG
    replace H:=H.zy aDG ayB
    obtain⟨aDR,av8,rfl,aIo,aFb⟩:=H.jB 0 rfl
    refine⟨H.pick (zR 1 7)<|zR 0 10,(xx qh<|zg<|oI J J ?_)⟩
    obtain⟨aNM,N,aGb,H⟩:=H.vJ 0 rfl N<|H.awB [3,2] 10 K0
    dsimp only[List.set] at H
    refine sw<|jJ true H 3 J 3 J (Sv aDR t.qG[c]!.length av8) 0 J J sizeOf24 J J (i:=c) qf qf qm fun alq aEu aPG an1 H=>?_
    replace N:=(N.Xr 3 [2,0,1]).repl an1
    dsimp only[List.set] at H
    refine xX<|b_n<|t_n<|zf<|sw<|zY c 1 J J qf<|sq 1<|xX<|xu (m':=(t.qG.length-((c+1):Int)).toNat) qf ⟨_,c+1,_,_,_,uE11,?_,?_,J,(N.xG 2 [1,0] xE),H.xG 8 12 (zR 1 7) (0::zR 5 7) xE xE⟩
    ·omega
    ·(subst i2;exact beg_yes ql qf)
   refine xe<|b_n<|t_n<|zf<|sw<|zY c 1 J J qf<|sq 1<|xX<|xu (m':=(t.qG.length-((c+1):Int)).toNat) qf ⟨_,c+1,_,_,_,uE11,?_,?_,J,N,H.xG 7 10 (zR 0 7) (zR 2 8) xE xE⟩
   ·omega
   ·exact i2.trans<|beg_no ql
  refine zx4<|zcc<|sq 1 ?_
  obtain⟨ask,apF,rfl⟩:=H.addr 4 rfl qf
  refine oI J J<|oL J (H.vM 4 J 0 qf)<|sp (yI i)<|sq 1<|zjn<|cE J (fun aDL=>?_)<|fun aDL=>?_
  ·refine zf (oF J<|oL J (H.cell 5 J J)<|sw<|oc (cloneI_ok _ t.qF (H.get 7 J).1 qg) ?_)
   rintro aO2 aMS az8 aw6
   replace H:=H.zy aw6 az8
   obtain⟨J7,KU,rfl,aD9,aEB⟩:=H.jB 0 rfl
   refine oF J<|sw<|zn H 1 [yI 0,Sv (aa Ab 0) s.qA.length f3,Sv J7 t.qF.length KU,Bv false,yN,yN,yN,yN] sizeOf24 fun aw9 H=>?_
   dsimp only[List.set] at H
   refine zjn<|vW 4 J H [1,2,5,6,7] [0,1,2,3,4,5,6,7] fun H=>?_
   dsimp only[yu,yU]
   have S:=H.ve [1,2,5,6,7]<|zR 0 8
   refine rtl 0 S ?_
   refine rtl 1 S ?_
   refine rtl 2 S ?_
   refine tF 3 J J S ?_
   refine tF 4 J J S ?_
   refine tL 5 J J (fun _ h=>h.cell 2 J J) S ?_
   refine rt 6 _ (yP (cs:=[yI 0,Sv (aa Ab 0) s.qA.length f3,Sv J7 t.qF.length KU,Bv false,yN,yN,yN,yN]) isAgg47 sizeOf47 J<|fun _ h=>qH (h.cells 0 J) 0 8) S ?_
   refine rt 7 _ (yP (cs:=[yI 0,Sv (aa Ab 0) s.qA.length f3,Sv J7 t.qF.length KU,Bv false,yN,yN,yN,yN]) isAgg47 sizeOf47 J<|fun _ h=>qH (h.cells 0 J) 0 8) S ?_
   refine ro 8 J ?_
   obtain⟨aAS,Ra,aw7⟩:=H.Vd (α:=yLI) 3 rfl 0 rfl qj
   obtain⟨aqH,aiY,az2⟩:=H.Xv 0 rfl
   replace H:=H.addNil (α:=Bool)
   replace H:=H.addNil (α:=yLI)
   replace H:=H.addNil (α:=yLL)
   refine oc (VF (by rw[←Ra])<|VP _ (⟨0,aB,t.qF,false,([]:List Bool),([]:yLL),([]:List yLL),([]:List yLL)⟩:zG) (Ra▸aw7) az2 (H.get 2 J).1 (H.get 1 J).1 (H.get 0 J).1 (H.get 0 J).1<|by exact beg_sm p0.sys p2 i2<|by omega) ?_
   rintro _ aK4 ⟨rD,ss,Kv,mJ,nB,Eo,yW,wa,Na,mP,m7,C1,uU,yv,Mb,rH,rZ,Lg,rfl,M,K⟩ _
   obtain⟨N,H⟩:=H.both K M N [4,3] 11 K0
   refine⟨H.pick [1,2,5,6,7]<|zR 9 8,(ro 9 J ?_)⟩
   refine vZ [yI 0,Sv (aa Ab 0) s.qA.length f3,Sv J7 t.qF.length KU,Bv false,yN,yN,yN,yN,yI ((⟨0,aB,t.qF,false,([]:List Bool),([]:yLL),([]:List yLL),([]:List yLL)⟩:zG).qK),Sv rD (((⟨0,aB,t.qF,false,([]:List Bool),([]:yLL),([]:List yLL),([]:List yLL)⟩:zG).qG).length) ss,Sv mJ (((⟨0,aB,t.qF,false,([]:List Bool),([]:yLL),([]:List yLL),([]:List yLL)⟩:zG).qF).length) nB,Bv ((⟨0,aB,t.qF,false,([]:List Bool),([]:yLL),([]:List yLL),([]:List yLL)⟩:zG).qY),Sv yW (((⟨0,aB,t.qF,false,([]:List Bool),([]:yLL),([]:List yLL),([]:List yLL)⟩:zG).jA).length) wa,Sv mP (((⟨0,aB,t.qF,false,([]:List Bool),([]:yLL),([]:List yLL),([]:List yLL)⟩:zG).qU).length) m7,Sv uU (((⟨0,aB,t.qF,false,([]:List Bool),([]:yLL),([]:List yLL),([]:List yLL)⟩:zG).jH).length) yv,Sv rH (((⟨0,aB,t.qF,false,([]:List Bool),([]:yLL),([]:List yLL),([]:List yLL)⟩:zG).zM).length) rZ] [(0,.agg #[yI 0,Sv (aa Ab 0) s.qA.length f3,Sv J7 t.qF.length KU,Bv false,yN,yN,yN,yN]),(1,.agg #[yI ((⟨0,aB,t.qF,false,([]:List Bool),([]:yLL),([]:List yLL),([]:List yLL)⟩:zG).qK),Sv rD (((⟨0,aB,t.qF,false,([]:List Bool),([]:yLL),([]:List yLL),([]:List yLL)⟩:zG).qG).length) ss,Sv mJ (((⟨0,aB,t.qF,false,([]:List Bool),([]:yLL),([]:List yLL),([]:List yLL)⟩:zG).qF).length) nB,Bv ((⟨0,aB,t.qF,false,([]:List Bool),([]:yLL),([]:List yLL),([]:List yLL)⟩:zG).qY),Sv yW (((⟨0,aB,t.qF,false,([]:List Bool),([]:yLL),([]:List yLL),([]:List yLL)⟩:zG).jA).length) wa,Sv mP (((⟨0,aB,t.qF,false,([]:List Bool),([]:yLL),([]:List yLL),([]:List yLL)⟩:zG).qU).length) m7,Sv uU (((⟨0,aB,t.qF,false,([]:List Bool),([]:yLL),([]:List yLL),([]:List yLL)⟩:zG).jH).length) yv,Sv rH (((⟨0,aB,t.qF,false,([]:List Bool),([]:yLL),([]:List yLL),([]:List yLL)⟩:zG).zM).length) rZ])]<|⟨H.pick [1,2,5,6,7]<|zR 9 8,(ro 10 rfl ?_)⟩
   refine zH H underlying36 ti49 [yI 0,Sv (aa Ab 0) s.qA.length f3,Sv J7 t.qF.length KU,Bv false,yN,yN,yN,yN,yI ((⟨0,aB,t.qF,false,([]:List Bool),([]:yLL),([]:List yLL),([]:List yLL)⟩:zG).qK),Sv rD (((⟨0,aB,t.qF,false,([]:List Bool),([]:yLL),([]:List yLL),([]:List yLL)⟩:zG).qG).length) ss,Sv mJ (((⟨0,aB,t.qF,false,([]:List Bool),([]:yLL),([]:List yLL),([]:List yLL)⟩:zG).qF).length) nB,Bv ((⟨0,aB,t.qF,false,([]:List Bool),([]:yLL),([]:List yLL),([]:List yLL)⟩:zG).qY),Sv yW (((⟨0,aB,t.qF,false,([]:List Bool),([]:yLL),([]:List yLL),([]:List yLL)⟩:zG).jA).length) wa,Sv mP (((⟨0,aB,t.qF,false,([]:List Bool),([]:yLL),([]:List yLL),([]:List yLL)⟩:zG).qU).length) m7,Sv uU (((⟨0,aB,t.qF,false,([]:List Bool),([]:yLL),([]:List yLL),([]:List yLL)⟩:zG).jH).length) yv,Sv rH (((⟨0,aB,t.qF,false,([]:List Bool),([]:yLL),([]:List yLL),([]:List yLL)⟩:zG).zM).length) rZ] fun aPf aBO H=>(⟨H.pick [2,3,6,7,8]<|zR 9 8,(ro 11 J ?_)⟩)
   have H0:=H
   obtain⟨awR,agI,aFq,H⟩:=H.ji (α:=yLI) 4 rfl 9 rfl qj
   replace N:=H0.iceB N 8 [7,0,1,2,3,4,5,6] 4 agI [0,1,2,3,4,5,10] 17 K0
   clear H0
   dsimp only[List.set] at H
   obtain⟨C6,N,an2,H⟩:=H.vJ 1 rfl N<|H.awB [0,1,2,3,4,5,6,11] 18 K0
   dsimp only[List.set] at H
   refine zQ H 5 J 0 J underlying36 ti49 J qj J J J qw qp qf fun av7 ayA axw H=>?_
   dsimp only[List.set] at H
   replace H:=H.snoc_ServerD 12 J 0 1 J 0 J false 10 J 9 J 8 J 8 J ((⟨0,aB,t.qF,false,([]:List Bool),([]:yLL),([]:List yLL),([]:List yLL)⟩:zG).qK) 2 J 3 J ((⟨0,aB,t.qF,false,([]:List Bool),([]:yLL),([]:List yLL),([]:List yLL)⟩:zG).qY) 4 J 5 J 6 J 7 J
   replace N:Fresh W0.heap.size ((xP++(awR++C6++[]++[]++[]++[]++Kv++Eo++Na++C1++Mb++Lg))::Ns):=(N.emp.emp.emp.emp.xG 13 (5::4::0::1::2::3::zR 6 7) xE).join.join.join.join.join.join.join.join.join.join.join.swap.join
   refine⟨H.pick [2,3,6,7,8]<|zR 12 8,(xx qh<|zg<|sq 1<|oF J<|oF J<|sw<|zn H 6 [Sv av7 (zu+1) ayA,yN,yI s.qQ,Sv ap s.qA.length cp,Sv ar s.qB.length cr,Sv (aa ask apF) own.length co] sizeOf36 fun apL H=>?_)⟩
   dsimp only[List.set] at H
   refine xX<|b_n<|t_n<|zf<|sw<|zY i 1 J J qf<|sq 1<|xX<|xu (m':=(((maxL own)+1)-((i+1):Int)).toNat) qf ⟨_,i+1,_,_,_,_,_,_,uE6,?_,?_,J,N,H.xG 9 20 (zR 5 4) (0::zR 14 6) xE xE⟩
   ·exact begin_snoc i2 qf<|by exact(if_pos ql).symm
   ·omega
  refine xe<|t_n<|vW 4 J H [0,4,5,6] [0,1,2,3,4,5,6,7] fun H=>?_
  dsimp only[yu,yU]
  have S:=H.ve [0,4,5,6]<|zR 0 8
  refine rtl 0 S ?_
  refine rtl 1 S ?_
  refine rtl 2 S ?_
  refine tF 3 J J S ?_
  refine tF 4 J J S ?_
  refine tL 5 J J (fun _ h=>h.cell 1 J J) S ?_
  refine rt 6 _ (yP (cs:=[yI 0,Sv (aa Ab 0) s.qA.length f3,Sv (aa GD 0) s.qQ.toNat s.qQ.toNat,Bv false,yN,yN,yN,yN]) isAgg47 sizeOf47 J<|fun _ h=>qH (h.cells 0 J) 0 8) S ?_
  refine rt 7 _ (yP (cs:=[yI 0,Sv (aa Ab 0) s.qA.length f3,Sv (aa GD 0) s.qQ.toNat s.qQ.toNat,Bv false,yN,yN,yN,yN]) isAgg47 sizeOf47 J<|fun _ h=>qH (h.cells 0 J) 0 8) S ?_
  refine ro 8 J ?_
  obtain⟨aLR,WW,aAk⟩:=H.Vd (α:=yLI) 2 rfl 0 rfl qj
  obtain⟨aMP,WT,ayw⟩:=H.Xv 1 rfl
  replace H:=H.addNil (α:=Bool)
  replace H:=H.addNil (α:=yLI)
  replace H:=H.addNil (α:=yLL)
  refine oc (VF (by rw[←WW,←WT])<|VP _ (⟨0,aB,(List.replicate s.qQ.toNat (0:Int)),false,([]:List Bool),([]:yLL),([]:List yLL),([]:List yLL)⟩:zG) (WW▸aAk) (rep_at WT ayw) (H.get 2 J).1 (H.get 1 J).1 (H.get 0 J).1 (H.get 0 J).1<|by exact beg_sm p0.sys p2 i2<|by omega) ?_
  rintro _ aQP ⟨rO,r6,KH,mZ,mh,EY,uz,wG,Pm,my,mE,Eq,wy,vo,Ri,rT,st,KB,rfl,M,K⟩ _
  obtain⟨N,H⟩:=H.both K M N [4,3] 11 K0
  refine⟨H.pick [0,4,5,6]<|zR 9 8,(ro 9 J ?_)⟩
  refine vZ [yI 0,Sv (aa Ab 0) s.qA.length f3,Sv (aa GD 0) s.qQ.toNat s.qQ.toNat,Bv false,yN,yN,yN,yN,yI ((⟨0,aB,(List.replicate s.qQ.toNat (0:Int)),false,([]:List Bool),([]:yLL),([]:List yLL),([]:List yLL)⟩:zG).qK),Sv rO (((⟨0,aB,(List.replicate s.qQ.toNat (0:Int)),false,([]:List Bool),([]:yLL),([]:List yLL),([]:List yLL)⟩:zG).qG).length) r6,Sv mZ (((⟨0,aB,(List.replicate s.qQ.toNat (0:Int)),false,([]:List Bool),([]:yLL),([]:List yLL),([]:List yLL)⟩:zG).qF).length) mh,Bv ((⟨0,aB,(List.replicate s.qQ.toNat (0:Int)),false,([]:List Bool),([]:yLL),([]:List yLL),([]:List yLL)⟩:zG).qY),Sv uz (((⟨0,aB,(List.replicate s.qQ.toNat (0:Int)),false,([]:List Bool),([]:yLL),([]:List yLL),([]:List yLL)⟩:zG).jA).length) wG,Sv my (((⟨0,aB,(List.replicate s.qQ.toNat (0:Int)),false,([]:List Bool),([]:yLL),([]:List yLL),([]:List yLL)⟩:zG).qU).length) mE,Sv wy (((⟨0,aB,(List.replicate s.qQ.toNat (0:Int)),false,([]:List Bool),([]:yLL),([]:List yLL),([]:List yLL)⟩:zG).jH).length) vo,Sv rT (((⟨0,aB,(List.replicate s.qQ.toNat (0:Int)),false,([]:List Bool),([]:yLL),([]:List yLL),([]:List yLL)⟩:zG).zM).length) st] [(0,.agg #[yI 0,Sv (aa Ab 0) s.qA.length f3,Sv (aa GD 0) s.qQ.toNat s.qQ.toNat,Bv false,yN,yN,yN,yN]),(1,.agg #[yI ((⟨0,aB,(List.replicate s.qQ.toNat (0:Int)),false,([]:List Bool),([]:yLL),([]:List yLL),([]:List yLL)⟩:zG).qK),Sv rO (((⟨0,aB,(List.replicate s.qQ.toNat (0:Int)),false,([]:List Bool),([]:yLL),([]:List yLL),([]:List yLL)⟩:zG).qG).length) r6,Sv mZ (((⟨0,aB,(List.replicate s.qQ.toNat (0:Int)),false,([]:List Bool),([]:yLL),([]:List yLL),([]:List yLL)⟩:zG).qF).length) mh,Bv ((⟨0,aB,(List.replicate s.qQ.toNat (0:Int)),false,([]:List Bool),([]:yLL),([]:List yLL),([]:List yLL)⟩:zG).qY),Sv uz (((⟨0,aB,(List.replicate s.qQ.toNat (0:Int)),false,([]:List Bool),([]:yLL),([]:List yLL),([]:List yLL)⟩:zG).jA).length) wG,Sv my (((⟨0,aB,(List.replicate s.qQ.toNat (0:Int)),false,([]:List Bool),([]:yLL),([]:List yLL),([]:List yLL)⟩:zG).qU).length) mE,Sv wy (((⟨0,aB,(List.replicate s.qQ.toNat (0:Int)),false,([]:List Bool),([]:yLL),([]:List yLL),([]:List yLL)⟩:zG).jH).length) vo,Sv rT (((⟨0,aB,(List.replicate s.qQ.toNat (0:Int)),false,([]:List Bool),([]:yLL),([]:List yLL),([]:List yLL)⟩:zG).zM).length) st])]<|⟨H.pick [0,4,5,6]<|zR 9 8,(ro 10 rfl ?_)⟩
  refine zH H underlying36 ti49 [yI 0,Sv (aa Ab 0) s.qA.length f3,Sv (aa GD 0) s.qQ.toNat s.qQ.toNat,Bv false,yN,yN,yN,yN,yI ((⟨0,aB,(List.replicate s.qQ.toNat (0:Int)),false,([]:List Bool),([]:yLL),([]:List yLL),([]:List yLL)⟩:zG).qK),Sv rO (((⟨0,aB,(List.replicate s.qQ.toNat (0:Int)),false,([]:List Bool),([]:yLL),([]:List yLL),([]:List yLL)⟩:zG).qG).length) r6,Sv mZ (((⟨0,aB,(List.replicate s.qQ.toNat (0:Int)),false,([]:List Bool),([]:yLL),([]:List yLL),([]:List yLL)⟩:zG).qF).length) mh,Bv ((⟨0,aB,(List.replicate s.qQ.toNat (0:Int)),false,([]:List Bool),([]:yLL),([]:List yLL),([]:List yLL)⟩:zG).qY),Sv uz (((⟨0,aB,(List.replicate s.qQ.toNat (0:Int)),false,([]:List Bool),([]:yLL),([]:List yLL),([]:List yLL)⟩:zG).jA).length) wG,Sv my (((⟨0,aB,(List.replicate s.qQ.toNat (0:Int)),false,([]:List Bool),([]:yLL),([]:List yLL),([]:List yLL)⟩:zG).qU).length) mE,Sv wy (((⟨0,aB,(List.replicate s.qQ.toNat (0:Int)),false,([]:List Bool),([]:yLL),([]:List yLL),([]:List yLL)⟩:zG).jH).length) vo,Sv rT (((⟨0,aB,(List.replicate s.qQ.toNat (0:Int)),false,([]:List Bool),([]:yLL),([]:List yLL),([]:List yLL)⟩:zG).zM).length) st] fun ar6 awZ H=>(⟨H.pick [1,5,6,7]<|zR 9 8,(ro 11 J ?_)⟩)
  have H0:=H
  obtain⟨aDa,ano,aIb,H⟩:=H.ji (α:=yLI) 3 rfl 9 rfl qj
  replace N:=H0.iceB N 8 [7,0,1,2,3,4,5,6] 3 ano [0,1,2,3,4,5,10] 17 K0
  clear H0
  dsimp only[List.set] at H
  obtain⟨ay2,N,aIB,H⟩:=H.vJ 2 rfl N<|H.awB [0,1,2,3,4,5,6,11] 18 K0
  dsimp only[List.set] at H
  refine zQ H 4 J 0 J underlying36 ti49 J qj J J J qw qp qf fun ayz axc aQr H=>?_
  dsimp only[List.set] at H
  replace H:=H.snoc_ServerD 12 J 0 1 J 0 J false 10 J 9 J 8 J 8 J ((⟨0,aB,(List.replicate s.qQ.toNat (0:Int)),false,([]:List Bool),([]:yLL),([]:List yLL),([]:List yLL)⟩:zG).qK) 2 J 3 J ((⟨0,aB,(List.replicate s.qQ.toNat (0:Int)),false,([]:List Bool),([]:yLL),([]:List yLL),([]:List yLL)⟩:zG).qY) 4 J 5 J 6 J 7 J
  replace N:Fresh W0.heap.size ((xP++(aDa++ay2++[]++[]++[]++[]++KH++EY++Pm++Eq++Ri++KB))::Ns):=(N.emp.emp.emp.emp.xG 13 (5::4::0::1::2::3::zR 6 7) xE).join.join.join.join.join.join.join.join.join.join.join.swap.join
  refine⟨H.pick [1,5,6,7]<|zR 12 8,(xx qh<|zg<|sq 1<|oF J<|oF J<|sw<|zn H 5 [Sv ayz (zu+1) axc,yN,yI s.qQ,Sv ap s.qA.length cp,Sv ar s.qB.length cr,Sv (aa ask apF) own.length co] sizeOf36 fun aws H=>?_)⟩
  dsimp only[List.set] at H
  refine xX<|b_n<|t_n<|zf<|sw<|zY i 1 J J qf<|sq 1<|xX<|xu (m':=(((maxL own)+1)-((i+1):Int)).toNat) qf ⟨_,i+1,_,_,_,_,_,_,uE6,?_,?_,J,N,H.xG 8 20 (zR 4 4) (0::zR 14 6) xE xE⟩
  ·exact begin_snoc i2 qf<|by exact(if_neg ql).symm
  ·omega
 refine zx4<|zcr<|sq 2<|zjr ?_
 replace H:=H.nilRow 77 4
 replace H:=H.yF (α:=zC)
 refine ret1 (pp b5 0) J J ⟨_,J,?_⟩
 obtain rfl:i=n:=by omega
 exact⟨b5,zK,zu,zJ,zh,xP,none,0,0,[],[],J,(N.emp.xG 2 [1,0] xE),H.xG 5 8 [2,1,0] [2,3,4,5,6,7,1,0] xE xE⟩
theorem after_ok(s:qJ)(own:yLI)(ap:yOA)(cp:Nat)(Fp:yLN)(ar:yOA)(cr:Nat)(Fr:yLN)(ao:yOA)(co:Nat)(Fo:yLN)(t:qV)(tA:yOA)(cA:Nat)(FA:yLN)(tB:yOA)(cB:Nat)(FB:yLN)(tU:yOA)(cU:Nat)(FU:yLN)(n:Nat)(ds:List Qu)(ad:yOA)(cd:Nat)(Fd:yLN)(H:St W0 w (ps) ((sF false Fp ap cp s.qA)::(sF false Fr ar cr s.qB)::(sF false Fo ao co own)::(sF false FA tA cA t.qO)::(sF false FB tB cB t.qG)::(sF false FU tU cU t.qF)::(sF false Fd ad cd ds)::Γ))(N:Fresh W0.heap.size (Ns))(K0:Kept Ns Γ)(p0:Giv s own n)(p1:XH own n)(p2:zA s t)(p3:ds.length<=400)(p4:∀k,k<ds.length->VT ds[k]!)(OL:∀f∈(sF false Fp ap cp s.qA::sF false Fr ar cr s.qB::sF false Fo ao co own::sF false FA tA cA t.qO::sF false FB tB cB t.qG::sF false FU tU cU t.qF::sF false Fd ad cd ds::Γ),∀b∈f.F,b<W0.heap.size):Calls Tryz.prog 27 #[.agg #[yI s.qQ,Sv ap s.qA.length cp,Sv ar s.qB.length cr],Sv ao own.length co,.agg #[Sv tA t.qO.length cA,Sv tB t.qG.length cB,Sv tU t.qF.length cU],Sv ad ds.length cd] w (fun e w'=>∃v,e=.returned v/\∃(bk:Nat) (dN:yOA) (dC:Nat) (bQ:Nat) (bB:List Value) (bq:yLN) (bS:yOA) (ix:Nat) (bo:Nat) (bu:List Value) (bg:yLN),v=.tuple #[pp bk 0,yI ((x9 s own (xk s own t n) ds ds.length).2)]/\Fresh W0.heap.size (bq::bg::Ns)/\St W0 w' ((.box bk [Sv dN dC bQ,Sv bS ix bo,yI s.qQ,Sv ap s.qA.length cp,Sv ar s.qB.length cr,Sv ao own.length co] 74)::(rr dN dC bQ 49 16 bB)::(rr bS ix bo 77 4 bu)::ps) ((sF false Fp ap cp s.qA)::(sF false Fr ar cr s.qB)::(sF false Fo ao co own)::(sF false FA tA cA t.qO)::(sF false FB tB cB t.qG)::(sF false FU tU cU t.qF)::(sF false Fd ad cd ds)::(qX true bq bB ((x9 s own (xk s own t n) ds ds.length).1.qE))::(qX true bg bu ((x9 s own (xk s own t n) ds ds.length).1.vz))::Γ)):=by
 refine en func27 ntmps27 ?_
 have tb:=begin_ok p0 p2
 refine zcr<|sw<|jb H (yS s ap cp ar cr) fun b1 w2 H=>sw<|jb H (yT t tA cA tB cB tU cU) fun b3 w4 H=>sq 1<|sp (yI 0)<|zjc<|sw<|xW (yS s ap cp ar cr) isAgg27 sizeOf27 J (qH (H.cells 1 J) 0 3)<|sq 1<|sw<|xW (yT t tA cA tB cB tU cU) isAgg31 sizeOf31 J (qH (H.cells 0 J) 0 3) ?_
 have H1:=H.yD 2 7 [0,1] [0,1,2,3,4,5,6] xE xE
 have N1:Fresh _ (Ns):=N
 have K1:Kept (Ns) ((sF false Fd ad cd ds)::Γ):=K0.behind 1 J
 refine sw<|zT #[.agg #[yI s.qQ,Sv ap s.qA.length cp,Sv ar s.qB.length cr],Sv ao own.length co,.agg #[Sv tA t.qO.length cA,Sv tB t.qG.length cB,Sv tU t.qF.length cU]] J J call70 (newMill_ok s own ap cp Fp ar cr Fr ao co Fo t tA cA FA tB cB FB tU cU FU n H1 N1 K1 qg qg qg) ?_
 clear H H1 N1 K1
 rintro _ w5 ⟨bk7,l8,rn9,iQ,aDj,aDy,nQ,acQ,FC,BV,sf,rfl,N,H⟩
 obtain rfl:=H.xf (α:=zI) 1 rfl 6 rfl qj
 obtain rfl:=H.xf (α:=zC) 2 rfl 7 rfl qj
 refine sq 1<|sp (yI 0)<|zjcc<|sq 1<|oN J<|sp (yI 0)<|zjn<|xg<|vk ((fun Z0 Z1 Z2 Z3 Z4 Z5 Z6 Z7 Z8=>fun m' ρ w18=>∃(xR:Env) (done:Int) (ba:Nat) (VJ:yOA) (VB:Nat) (VE:Nat) (iU:List zC) (Vw:List Value) (X3:yLN) (cG:List zI) (zh:List Value) (xP:yLN),ρ=upd (upd (upd (upd (upd xR 10<|pp bk7 0) 11<|yI done) 18<|Sv ad ds.length cd) 19<|yI ds.length) 20 (yI ba)/\iU=(x9 s own (xk s own t n) ds ba).1.vz/\cG=(x9 s own (xk s own t n) ds ba).1.qE/\((ba:Int)<=ds.length)/\(done=(x9 s own (xk s own t n) ds ba).2)/\m'=(ds.length-(ba:Int)).toNat/\Fresh W0.heap.size (X3::xP::Ns)/\St W0 w18 ((.box bk7 [Sv l8 (((xk s own t n).qE).length) iQ,Sv VJ VB VE,yI s.qQ,Sv ap s.qA.length cp,Sv ar s.qB.length cr,Sv ao own.length co] 74)::(rr l8 (((xk s own t n).qE).length) iQ 49 16 zh)::(rr VJ VB VE 77 4 Vw)::Z0::Z1::ps) (Z2::Z3::Z4::Z5::Z6::Z7::(qX true xP zh cG)::(qX true X3 Vw iU)::Z8::Γ)) _ _ _ _ _ _ _ _ _) ((ds.length-(0:Int)).toNat) ⟨_,0,0,nQ,((xk s own t n).vz).length,FC,(xk s own t n).vz,BV,sf,(xk s own t n).qE,aDj,aDy,uE5,(by rfl),(by rfl),qf,(by rfl),J,(N.xG 2 [1,0] xE),H⟩ ?_
 clear H N
 rintro m' ρ LP ⟨xR,done,ba,VJ,VB,VE,iU,Vw,X3,cG,zh,xP,rfl,rfl,rfl,i0,i2,rfl,N,H⟩
 have J6:=H.xf (α:=zC) 2 J 7 J qj
 have nR:=H.xf (α:=zI) 1 J 6 J qj
 have tk:Vo s own n (⟨(x9 s own (xk s own t n) ds ba).1.qE,(x9 s own (xk s own t n) ds ba).1.vz⟩:zO):=run_ok p0 tb p4 ba qf
 have rc:=run_cnt s own (xk s own t n) ds ba
 refine zcr<|sq 1<|zjn<|xO<|cD J (fun zr=>?_)<|fun zr=>?_
 ·have dk:=p4 ba qf
  refine xe<|t_n<|xO<|xg<|zcr ?_
  obtain⟨t7,o22,rfl⟩:=H.addr 8 rfl qf
  obtain⟨_,H⟩:=H.elem_DeedD 8 rfl ba ba qf qf qf
  refine oI J J<|sw<|xW [yI ds[ba]!.xQ,yI ds[ba]!.fA,yI ds[ba]!.fB] isAgg44 sizeOf44 J (qH (H.get 0 J) 0 3)<|sw<|x8 H ti44 [yI 0,yI 0,yI 0] fun Yo E3 H=>sw<|xZ H 0 [yI ds[ba]!.xQ,yI ds[ba]!.fA,yI ds[ba]!.fB] sizeOf44 fun Rn H=>?_
  dsimp only[List.set] at H
  refine zjc<|sq 1<|sw<|xW [yI ds[ba]!.xQ,yI ds[ba]!.fA,yI ds[ba]!.fB] isAgg44 sizeOf44 J (qH (H.cells 0 J) 0 3) ?_
  have H1:=H.yD 6 10 [1,2,3,0,4,5] [1,2,3,7,8,4,5,6,9] xE xE
  have N1:Fresh _ (xP::X3::Ns):=(N.xG 2 [1,0] xE)
  have K1:Kept (Ns) ((sF false FA tA cA t.qO)::(sF false FB tB cB t.qG)::(sF false FU tU cU t.qF)::(sF false Fd (aa t7 o22) cd ds)::Γ):=K0.behind 4 J
  refine sw<|zT #[pp bk7 0,.agg #[yI ds[ba]!.xQ,yI ds[ba]!.fA,yI ds[ba]!.fB]] J J call52 (do_ok s own ap cp Fp ar cr Fr ao co Fo ((x9 s own (xk s own t n) ds ba).1.qE) ((x9 s own (xk s own t n) ds ba).1.vz) bk7 _ l8 (((xk s own t n).qE).length) iQ zh xP VJ VB VE Vw X3 ds[ba]! H1 N1 K1 qg qg qg<|xU (vw OL 0 J)<|xU (vw OL 1 J)<|xU (vw OL 2 J)<|xU (vw OL 3 J)<|xU (vw OL 4 J)<|xU (vw OL 5 J)<|xU (vw OL 6 J)<|VA OL 7 J) ?_
  clear H H1 N1 K1
  rintro _ LE ⟨aa3,aem,acY,ayH,rX,aJu,aPe,rfl,N,H⟩
  obtain rfl:=H.xf (α:=zC) 2 rfl 4 rfl qj
  refine sp (Bv (((doM s own (⟨((x9 s own (xk s own t n) ds ba).1.qE),((x9 s own (xk s own t n) ds ba).1.vz)⟩:zO)<|ds[ba]!).2:Int) == 0))<|zjn<|cE J (fun Cj=>?_)<|fun Cj=>?_
  ·refine zf (sq 1<|sw<|zY done 1 J J qf (sq 1<|xX<|b_n<|t_n<|zf<|sw<|zY ba 1 J J qf<|sq 1<|xX<|xu (m':=(ds.length-((ba+1):Int)).toNat) qf ⟨_,_,ba+1,_,_,_,_,_,_,_,_,_,uE5,?_,?_,?_,?_,J,(N.xG 2 [1,0] xE),H.xG 6 9 [0,1,2,4,5] [0,1,2,5,6,7,3,4,8] xE xE⟩))
   ·rfl
   ·rfl
   ·omega
   ·(rw[i2];exact run_yes ql)
  refine xe<|b_n<|t_n<|zf<|sw<|zY ba 1 J J qf<|sq 1<|xX<|xu (m':=(ds.length-((ba+1):Int)).toNat) qf ⟨_,_,ba+1,_,_,_,_,_,_,_,_,_,uE5,?_,?_,?_,?_,J,(N.xG 2 [1,0] xE),H.xG 6 9 [0,1,2,4,5] [0,1,2,5,6,7,3,4,8] xE xE⟩
  ·rfl
  ·rfl
  ·omega
  ·exact i2.trans<|run_no ql
 refine zx4<|zcr<|sq 4<|zjr<|ret2 (pp bk7 0) (yI done) J J J ⟨_,J,?_⟩
 obtain rfl:ba=ds.length:=by omega
 subst i2
 exact⟨bk7,l8,((xk s own t n).qE).length,iQ,zh,xP,VJ,VB,VE,Vw,X3,J,(N.xG 2 [1,0] xE),H.xG 5 9 [0,1,2] [0,1,2,3,4,5,8,6,7] xE xE⟩
end
section
namespace VDeed
theorem ret_bool{a b:Bool}(h:a=b):Ending.returned (Bv a)=.returned (Bv b):=by rw[h]
theorem own:ownKnob Tryz.prog.godebug=none:=by kernel_rfl
def inR(n lo hi:Int):Bool:=decide (lo<=n) && decide (n<=hi)
theorem inR_yes(h:lo<=n):inR n lo hi=decide (n<=hi):=by simp[inR,h]
theorem inR_no(h:n<lo):inR n lo hi=false:=by simp[inR];omega
theorem inRange_any(n lo hi:Int)(w:World):Calls Tryz.prog 37 #[.int .i64 n,.int .i64 lo,.int .i64 hi] w fun e w'=>e=.returned (Bv<|inR n lo hi)/\w=w':=by
 go_enter Tryz.func37,Tryz.ntmps37
 go_wp2
 ·go_ret
  exact⟨by rw[inR_yes ‹_›];rfl,J⟩
 ·go_ret
  exact⟨by rw[inR_no ‹_›];rfl,J⟩
def word(k:Int):List UInt8:=
 if k=1 then [119,111,114,107] else if k=2 then [115,97,118,101] else if k=3 then [112,111,115,116] else if k=4 then [98,97,99,107]
 else if k=5 then [97,100,118,97,110,99,101] else if k=6 then [100,101,108,105,118,101,114] else if k=7 then [99,111,112,121]
 else if k=8 then [100,114,111,112] else if k=9 then [99,114,97,115,104] else []
def many(k:Int):Int:=if k=3\/k=4 then 2 else if 1<=k/\k<=9 then 1 else 0
theorem deedWord_any(k:Int)(w:World):Calls Tryz.prog 113 #[.int .i64 k] w fun e w'=>e=.returned (.tuple #[.string ⟨(word k).toArray⟩,.int .i64<|many k])/\w=w':=by
 by_cases hk:1<=k/\k<=9
 ·obtain⟨h1,h9⟩:=hk
  have hc:k=1\/k=2\/k=3\/k=4\/k=5\/k=6\/k=7\/k=8\/k=9:=by omega
  rcases hc with rfl|rfl|rfl|rfl|rfl|rfl|rfl|rfl|rfl
  all_goals
   go_enter Tryz.func113,Tryz.ntmps113
   go_wp2
   go_ret2
   exact⟨J,J⟩
 ·have e:word k=[]/\many k=0:=by unfold word many;constructor <;> (repeat' split) <;> first|rfl|omega
  obtain⟨e1,e2⟩:=e
  have n1:(k == 1)=false:=by simp;omega
  have n2:(k == 2)=false:=by simp;omega
  have n3:(k == 3)=false:=by simp;omega
  have n4:(k == 4)=false:=by simp;omega
  have n5:(k == 5)=false:=by simp;omega
  have n6:(k == 6)=false:=by simp;omega
  have n7:(k == 7)=false:=by simp;omega
  have n8:(k == 8)=false:=by simp;omega
  have n9:(k == 9)=false:=by simp;omega
  rw[e1,e2]
  clear e1 e2 hk
  go_enter Tryz.func113,Tryz.ntmps113
  go_wp2
  go_ret2
  exact⟨J,J⟩
def kindB(k:Int):Bool:=decide (1<=k) && decide (k<=9)
theorem word_nil(h:word k=[]):kindB k=false:=by
 unfold kindB;unfold word at h
 by_cases h1:1<=k <;> by_cases h9:k<=9 <;> simp[h1,h9]
 have hc:k=1\/k=2\/k=3\/k=4\/k=5\/k=6\/k=7\/k=8\/k=9:=by omega
 rcases hc with rfl|rfl|rfl|rfl|rfl|rfl|rfl|rfl|rfl <;> simp at h
theorem word_some(h:¬word k=[]):kindB k=true:=by
 unfold kindB
 by_cases h1:1<=k <;> by_cases h9:k<=9 <;> simp[h1,h9] <;> exact h<|by unfold word;(repeat' split) <;> first|rfl|omega
def validB(k a b:Int):Bool:=kindB k && inR a 0 999 && inR b 0 999 && (decide (1<many k) || decide (b=0))
theorem impl_any(k a b:Int)(w:World):Calls Tryz.prog 69 #[.agg #[.int .i64 k,.int .i64 a,.int .i64 b]] w fun e w'=>e=.returned (Bv<|validB k a b)/\Below w.heap.size w w':=by
 obtain⟨B,hB⟩:∃B,B=validB k a b:=⟨_,rfl⟩
 rw[←hB]
 have HB:=hid hB
 clear hB
 go_enter Tryz.func69,Tryz.ntmps69
 go_wp2_with (first|(go_at_call 113;refine(deedWord_any _ _).mono ?_;rintro e w' ⟨rfl,rfl⟩)|(go_at_call 37;refine(inRange_any _ _ _ _).mono ?_;rintro e w' ⟨rfl,rfl⟩))
 all_goals go_ret
 all_goals refine⟨?_,(Below.refl _ _).alloc (Nat.le_refl _) _⟩
 all_goals rw[HB.out]
 all_goals refine ret_bool ?_
 all_goals first
  |(have k1:=word_nil ‹_›;simp[validB,k1];done)
  |(have k1:=word_some ‹_›;have k2:(!(word k).isEmpty)=true:=(by simp[*]);rw[validB,k1];simp_all;done)
  |(have k1:=word_some ‹_›;have k2:(!(word k).isEmpty)=true:=(by simp[*]);have k3:decide (1<many k)=false:=(by simp[*]);rw[validB,k1];simp[*];rfl)
end VDeed
theorem validDeed_ok(w:World)(d:Qu)(p0:VT d):Calls Tryz.prog 69 #[.agg #[.int .i64 d.xQ,.int .i64 d.fA,.int .i64 d.fB]] w (Ret (fun v _=>v=Bv true) w):=by
 refine(VDeed.impl_any d.xQ d.fA d.fB w).mono ?_
 rintro e w' ⟨rfl,hb⟩
 refine⟨_,J,?_,hb⟩
 obtain⟨h1,h2,h3,h4⟩:=p0
 have e1:VDeed.kindB d.xQ=true:=by simp[VDeed.kindB];omega
 have e2:VDeed.inR d.fA 0 999=true:=by simp[VDeed.inR];omega
 have e3:VDeed.inR d.fB 0 999=true:=by simp[VDeed.inR];omega
 rw[VDeed.validB,e1,e2,e3]
 congr 1
 by_cases hk:d.xQ=3\/d.xQ=4
 ·have:VDeed.many d.xQ=2:=by rw[VDeed.many,if_pos hk]
  simp[this]
 ·have:d.fB=0:=by omega
  simp[this]
end
section
variable{qL xh fa xI zq xy tO : Nat}
theorem deedsCode_ok(w:World)(s:qJ)(own:yLI)(t:qV)(ds:List Qu)(qZ:zP w xN qM qL s.qA)(xM:zP w zN xm xh s.qB)(ee:zP w lY fu fa own)(zS:zP w vV xK xI t.qO)(vK:zP w jM zB zq t.qG)(zi:zP w zZ xC xy t.qF)(IP:zP w Gx uh tO ds)(p0:jW s)(p1:Still s)(p2:own.length=s.qA.length)(p3:∃n,XH own n)(p4:zA s t)(p5:Whole t)(p6:∀k,k<ds.length->VT ds[k]!)(p7:ds.length<=400):Calls Tryz.prog 26 #[.agg #[yI s.qQ,Sv qM s.qA.length qL,Sv xm s.qB.length xh],Sv fu own.length fa,.agg #[Sv xK t.qO.length xI,Sv zB t.qG.length zq,Sv xC t.qF.length xy],Sv uh ds.length tO] w (Ret (fun v w'=>v=yI 0) w):=by
 refine en func26 ntmps26 ?_
 have H:=(((((((St.start w).arg IP).arg zi).arg vK).arg zS).arg ee).arg xM).arg qZ
 have jP:=qN xM
 have QM:=qN zS
 have Xt:=qN vK
 have Qe:=qN zi
 clear qZ xM ee zS vK zi IP
 have N:=Fresh.nil w.heap.size
 refine zcr<|sw<|jb H (yS s qM qL xm xh) fun b1 w2 H=>sw<|jb H (yT t xK xI zB zq xC xy) fun b3 w4 H=>sp (yI 0)<|zjn<|xO<|xg<|zcr<|sw<|xW (yS s qM qL xm xh) isAgg27 sizeOf27 J (qH (H.cells 1 J) 0 3)<|sq 1<|sw<|xW (yT t xK xI zB zq xC xy) isAgg31 sizeOf31 J (qH (H.cells 0 J) 0 3)<|sw<|oq (tissueCode_ok _ s own t (H.get 0 J).1 (H.get 1 J).1 (H.get 2 J).1 (H.get 3 J).1 (H.get 4 J).1 (H.get 5 J).1 qg qg qg qg qg qg) H fun w6 H=>sp (Bv false)<|sp (Bv false)<|qP 15 J J<|sq 1<|qP 15 J J<|sw<|vF #[Sv uh ds.length tO,.func (.func 68) #[] #[]] J J call67<|en func67 ntmps67 ?_
 refine zcr<|sp (Bv false)<|zjc<|sq 1<|sp (.func (.func 68) #[] #[])<|sw<|vF #[Sv uh ds.length tO,.func (.func 68) #[] #[]] J J call112<|en func112 ntmps112 ?_
 refine zcr<|sp (yI 0)<|zjcc<|sq 1<|oN J<|sp (yI 0)<|zjn<|xg<|vk ((fun Z0 Z1 Z2 Z3 Z4 Z5 Z6 Z7 Z8=>fun m' ρ w8=>∃(xR:Env) (i:Nat),ρ=upd (upd (upd (upd xR 0<|Sv uh ds.length tO) 1<|.func (.func 68) #[] #[]) 7<|yI ds.length) 8 (yI i)/\((i:Int)<=ds.length)/\m'=(ds.length-(i:Int)).toNat/\Fresh w.heap.size []/\St w w8 [Z0,Z1] [Z2,Z3,Z4,Z5,Z6,Z7,Z8]) _ _ _ _ _ _ _ _ _) ((ds.length-(0:Int)).toNat) ⟨_,0,uE4,qf,J,N,H⟩ ?_
 clear H N
 rintro m' ρ w9 ⟨xR,i,rfl,i0,rfl,N,H⟩
 refine zcr<|sq 1<|zjn<|xO<|cD J (fun cK=>?_)<|fun cK=>?_
 ·refine xe (t_n<|xO<|xg<|zcr<|sp (yI i)<|sp (yI i)<|zjc<|sp (.func (.func 68) #[] #[])<|sq 1<|sp (yI i) ?_)
  obtain⟨ue,o12,rfl⟩:=H.addr 6 rfl qf
  obtain⟨_,H⟩:=H.elem_DeedD 6 rfl i i qf qf qf
  refine oI J J<|sw<|xW [yI ds[i]!.xQ,yI ds[i]!.fA,yI ds[i]!.fB] isAgg44 sizeOf44 J (qH (H.get 0 J) 0 3)<|sw<|vF #[.agg #[yI ds[i]!.xQ,yI ds[i]!.fA,yI ds[i]!.fB]] J J call68<|en func68 ntmps68 ?_
  refine zcr<|sw<|jb H [yI ds[i]!.xQ,yI ds[i]!.fA,yI ds[i]!.fB] fun GD Kj H=>sp (Bv false)<|zjc<|sw<|xW [yI ds[i]!.xQ,yI ds[i]!.fA,yI ds[i]!.fB] isAgg44 sizeOf44 J (qH (H.cells 0 J) 0 3) ?_
  have dk:=p6 i qf
  refine sw<|oq (validDeed_ok Kj ds[i]! qg) H fun w18 H=>sp (Bv !true)<|sp (Bv !true)<|zjr<|ret1 (Bv !true) J J ⟨_,J,?_⟩
  replace H:=H.erases [0]
  dsimp only[zL,List.eraseIdx,List.set] at H
  refine zjn<|vP _ J (fun zr=>?_)<|fun zr=>?_
  ·replace zr:=xF zr
   refine zcr<|sp (yI i)<|sp (yI i)<|zjr<|zr5<|ret1 (yI i) J J ⟨_,J,(sw<|o_pure (Bv true) (by show some (Value.bool<|decide ((i:Int)>=0))=some (Value.bool true);rw[decide_eq_true qf])<|sp (Bv true)<|zjr<|ret1 (Bv true) J J ⟨_,J,(sp (Bv true)<|sp (Bv true)<|zjn<|cTr J<|zcr<|sp (yI 1)<|zjr<|b_r<|t_r<|rH1 (yI 1) H ?_)⟩)⟩
   exfalso;contradiction
  replace zr:=xw zr
  refine xe<|b_n<|t_n<|zf<|sw<|zY i 1 J J qf<|sq 1<|xX<|xu (m':=(ds.length-((i+1):Int)).toNat) qf ⟨_,i+1,uE4,?_,J,N,H.pick [0,1]<|zR 1 7⟩
  ·omega
 refine zx4<|zcr<|sq 1<|zjr<|ret1 (yI (-1)) J J ⟨_,J,(sp (Bv false)<|sp (Bv false)<|zjr<|ret1 (Bv false) J J ⟨_,J,(sp (Bv false)<|sp (Bv false)<|zjn<|cFr J<|zcr<|sq 1<|oN J<|sp (Bv<|decide ((ds.length:Int)>400))<|sp (Bv<|decide ((ds.length:Int)>400))<|zjn<|cD J (fun ua=>?_)<|fun ua=>?_)⟩)⟩
 ·refine zcr (sp (yI 2)<|zjr<|b_r<|t_r<|rH1 (yI 2) H ?_)
  exfalso;omega
 refine xe<|b_n<|t_n<|zcr<|sp (yI 0)<|zjr<|rH1 (yI 0) H ?_
 rfl
theorem tissueAfter_ok(w:World)(s:qJ)(own:yLI)(t:qV)(ds:List Qu)(qZ:zP w xN qM qL s.qA)(xM:zP w zN xm xh s.qB)(ee:zP w lY fu fa own)(zS:zP w vV xK xI t.qO)(vK:zP w jM zB zq t.qG)(zi:zP w zZ xC xy t.qF)(IP:zP w Gx uh tO ds)(p0:Giv s own (nSrv own))(p1:XH own (nSrv own))(p2:zA s t)(p3:ds.length<=400)(p4:∀k,k<ds.length->VT ds[k]!)(p5:Still s)(p6:Whole t):Calls Tryz.prog 10 #[.agg #[yI s.qQ,Sv qM s.qA.length qL,Sv xm s.qB.length xh],Sv fu own.length fa,.agg #[Sv xK t.qO.length xI,Sv zB t.qG.length zq,Sv xC t.qF.length xy],Sv uh ds.length tO] w (Ret (fun v w'=>∃(g6:yOA) (ig:Nat) (hP:Nat) (ik:List Value) (g5:yLN) (pf:yOA) (pE:Nat) (pR:Nat) (rf:List Value) (qz:yLN),v=.tuple #[.agg #[Sv g6 ig hP,Sv pf pE pR],yI ((x9 s own (xk s own t<|nSrv own) ds ds.length).2),yI 0]/\Fresh w.heap.size [g5,qz]/\St w w' [rr g6 ig hP 49 16 ik,rr pf pE pR 77 4 rf] [qX true g5 ik (((x9 s own (xk s own t<|nSrv own) ds ds.length).1).qE),qX true qz rf (((x9 s own (xk s own t<|nSrv own) ds ds.length).1).vz)]) w):=by
 refine en func10 ntmps10 ?_
 have H:=(((((((St.start w).arg IP).arg zi).arg vK).arg zS).arg ee).arg xM).arg qZ
 have jP:=qN xM
 have QM:=qN zS
 have Xt:=qN vK
 have Qe:=qN zi
 clear qZ xM ee zS vK zi IP
 have N:=Fresh.nil w.heap.size
 have A:=H.ltN (L:=[xN,zN,lY,vV,jM,zZ,Gx])<|zR 0 7
 obtain⟨n,hn⟩:∃z,nSrv own=z:=⟨_,rfl⟩
 rw[hn] at p0 p1 ⊢
 have q1:=p0.sys
 have q2:own.length=s.qA.length:=p0.len
 have q3:∃n,XH own n:=⟨n,p1⟩
 have tk:Vo s own n (x9 s own (xk s own t n) ds ds.length).1:=run_ok p0 (begin_ok p0 p2) p4 ds.length<|Nat.le_refl _
 have tl:=tk.len
 have tf:=tk.few
 have q4:=p0.few
 refine zcr<|sw<|jb H (yS s qM qL xm xh) fun b1 w2 H=>sw<|jb H (yT t xK xI zB zq xC xy) fun b3 w4 H=>sw<|x8 H ti39 [yN,yN] fun b5 w6 H=>sp (yI 0)<|sp (yI 0)<|zjcc<|sw<|xW (yS s qM qL xm xh) isAgg27 sizeOf27 J (qH (H.cells 2 J) 0 3)<|sq 1<|sw<|xW (yT t xK xI zB zq xC xy) isAgg31 sizeOf31 J (qH (H.cells 1 J) 0 3)<|sq 1<|sw<|oq (deedsCode_ok _ s own t ds (H.get 0 J).1 (H.get 1 J).1 (H.get 2 J).1 (H.get 3 J).1 (H.get 4 J).1 (H.get 5 J).1 (H.get 6 J).1 qg qg qg qg qg qg qg qg) H fun w8 H=>sp (yI 0)<|zjc<|sp (yI 0)<|sp (Bv false)<|zjn<|cFr J<|xe<|t_n<|zcr<|sw<|xW (yS s qM qL xm xh) isAgg27 sizeOf27 J (qH (H.cells 2 J) 0 3)<|sq 1<|sw<|xW (yT t xK xI zB zq xC xy) isAgg31 sizeOf31 J (qH (H.cells 1 J) 0 3)<|sq 1 ?_
 have H1:St w w8 [.box b5 [yN,yN] 39,.box b3 (yT t xK xI zB zq xC xy) 31,.box b1 (yS s qM qL xm xh) 27] [sF false xN qM qL s.qA,sF false zN xm xh s.qB,sF false lY fu fa own,sF false vV xK xI t.qO,sF false jM zB zq t.qG,sF false zZ xC xy t.qF,sF false Gx uh tO ds]:=H.pick [0,1,2]<|zR 0 7
 have N1:Fresh _ []:=N
 have K1:Kept [] []:=Kept.nil _
 refine sw<|zT #[.agg #[yI s.qQ,Sv qM s.qA.length qL,Sv xm s.qB.length xh],Sv fu own.length fa,.agg #[Sv xK t.qO.length xI,Sv zB t.qG.length zq,Sv xC t.qF.length xy],Sv uh ds.length tO] J J call27 (after_ok s own qM qL xN xm xh zN fu fa lY t xK xI vV zB zq jM xC xy zZ n ds uh tO Gx H1 N1 K1 qg qg qg qg qg<|xU (A _<|List.mem_of_getElem? (i:=0) J)<|xU (A _<|List.mem_of_getElem? (i:=1) J)<|xU (A _<|List.mem_of_getElem? (i:=2) J)<|xU (A _<|List.mem_of_getElem? (i:=3) J)<|xU (A _<|List.mem_of_getElem? (i:=4) J)<|xU (A _<|List.mem_of_getElem? (i:=5) J)<|xU (A _<|List.mem_of_getElem? (i:=6) J) olds_none) ?_
 clear H H1 N1 K1
 rintro _ sr ⟨adb,nQ,acQ,FC,BV,sf,PV,aDn,kW,aq6,nV,rfl,N,H⟩
 obtain rfl:=H.xf (α:=zI) 1 rfl 7 rfl qj
 obtain rfl:=H.xf (α:=zC) 2 rfl 8 rfl qj
 refine sq 5<|zjc<|sw<|vZ [yN,yN] []<|sw<|x8 H ti39 [yN,yN] fun tQ Gw H=>sw<|xZ H 0 [yN,yN] sizeOf39 fun E4 H=>zjcc<|sq 2<|oF J<|oF J<|oL J (H.cell 1 J J)<|oN J<|sp (yI 0)<|zjn<|xg ?_
 replace H:=H.nilRow 49 16
 replace H:=H.yF (α:=zI)
 refine vk ((fun Z0 Z1 Z2 Z3 Z4 Z5 Z6 Z7 Z8 Z9 dU eC fe fR=>fun m' ρ E3=>∃(xR:Env) (ba:Nat) (XF:yOA) (Xk:Nat) (XC:Nat) (mW:List zI) (fN:List Value) (QP:yLN),ρ=upd (upd (upd (upd (upd (upd (upd xR 8<|pp b5 0) 12<|pp adb 0) 13<|yI ((x9 s own (xk s own t n) ds ds.length).2)) 14<|pp tQ 0) 41<|Sv nQ (((x9 s own (xk s own t n) ds ds.length).1.qE).length) FC) 42<|yI (((x9 s own (xk s own t n) ds ds.length).1.qE).length)) 43 (yI ba)/\mW=(x9 s own (xk s own t n) ds ds.length).1.qE.take ba/\((ba:Int)<=(((x9 s own (xk s own t n) ds ds.length).1.qE).length))/\m'=((((x9 s own (xk s own t n) ds ds.length).1.qE).length)-(ba:Int)).toNat/\Fresh w.heap.size [sf,nV,QP]/\St w E3 [rr XF Xk XC 49 16 fN,.box tQ [Sv XF Xk XC,yN] 39,Z0,Z1,Z2,Z3,Z4,Z5] [qX true QP fN mW,Z6,Z7,Z8,Z9,dU,eC,fe,fR]) _ _ _ _ _ _ _ _ _ _ _ _ _ _) (((((x9 s own (xk s own t n) ds ds.length).1.qE).length)-(0:Int)).toNat) ⟨_,0,none,0,0,([]:List zI),[],[],uE7,(by rfl),qf,J,(N.emp.pick [1,2,0]),H.pick (zR 0 8) [0,1,2,3,4,5,6,8,9]⟩ ?_
 clear H N
 rintro m' ρ Rn ⟨xR,ba,XF,Xk,XC,mW,fN,QP,rfl,rfl,i0,rfl,N,H⟩
 have Ms:=H.xf (α:=zI) 0 J 0 J qj
 have hl:((x9 s own (xk s own t n) ds ds.length).1.qE.take ba).length=ba:=List.length_take_of_le qf
 refine zcr<|sq 1<|zjn<|xO<|cD J (fun L8=>?_)<|fun L8=>?_
 ·have y1:=tk.srv ba qf
  have y2:=y1.1.small p0
  have y3:=y1.2.small p0
  refine xe<|t_n<|xO<|xg<|zcr ?_
  obtain⟨Ey,rfl⟩:=H.jm 3 rfl qf
  refine oI J J ?_
  obtain⟨ls,kU,Sj,hX,il,O8,mM,nz,Zs,g9,gU,Rk,ms,mc,aaf,lz,kQ,SB,iK,iX,Ru,gx,ga,LK,lC,lx,Su,gn,gq,LG,lu,kX,Sy,i8,iW,RE,Ux,H⟩:=H.part_ServerD QI.refl 3 rfl 7 rfl rfl ba qf
  refine sw<|xW [yI (((((x9 s own (xk s own t n) ds ds.length).1.qE)[ba]!).qC).qK),Sv ls ((((((x9 s own (xk s own t n) ds ds.length).1.qE)[ba]!).qC).qG).length) kU,Sv hX ((((((x9 s own (xk s own t n) ds ds.length).1.qE)[ba]!).qC).qF).length) il,Bv (((((x9 s own (xk s own t n) ds ds.length).1.qE)[ba]!).qC).qY),Sv mM ((((((x9 s own (xk s own t n) ds ds.length).1.qE)[ba]!).qC).jA).length) nz,Sv g9 ((((((x9 s own (xk s own t n) ds ds.length).1.qE)[ba]!).qC).qU).length) gU,Sv ms ((((((x9 s own (xk s own t n) ds ds.length).1.qE)[ba]!).qC).jH).length) mc,Sv lz ((((((x9 s own (xk s own t n) ds ds.length).1.qE)[ba]!).qC).zM).length) kQ,yI (((((x9 s own (xk s own t n) ds ds.length).1.qE)[ba]!).qR).qK),Sv iK ((((((x9 s own (xk s own t n) ds ds.length).1.qE)[ba]!).qR).qG).length) iX,Sv gx ((((((x9 s own (xk s own t n) ds ds.length).1.qE)[ba]!).qR).qF).length) ga,Bv (((((x9 s own (xk s own t n) ds ds.length).1.qE)[ba]!).qR).qY),Sv lC ((((((x9 s own (xk s own t n) ds ds.length).1.qE)[ba]!).qR).jA).length) lx,Sv gn ((((((x9 s own (xk s own t n) ds ds.length).1.qE)[ba]!).qR).qU).length) gq,Sv lu ((((((x9 s own (xk s own t n) ds ds.length).1.qE)[ba]!).qR).jH).length) kX,Sv i8 ((((((x9 s own (xk s own t n) ds ds.length).1.qE)[ba]!).qR).zM).length) iW] isAgg49 sizeOf49 J (fun r v hv=>H.zD 3 J (Ux r v hv) qf)<|sw<|x8 H ti49 [yI 0,yN,yN,Bv false,yN,yN,yN,yN,yI 0,yN,yN,Bv false,yN,yN,yN,yN] fun Me w33 H=>?_
  refine sw<|xZ H 0 [yI (((((x9 s own (xk s own t n) ds ds.length).1.qE)[ba]!).qC).qK),Sv ls ((((((x9 s own (xk s own t n) ds ds.length).1.qE)[ba]!).qC).qG).length) kU,Sv hX ((((((x9 s own (xk s own t n) ds ds.length).1.qE)[ba]!).qC).qF).length) il,Bv (((((x9 s own (xk s own t n) ds ds.length).1.qE)[ba]!).qC).qY),Sv mM ((((((x9 s own (xk s own t n) ds ds.length).1.qE)[ba]!).qC).jA).length) nz,Sv g9 ((((((x9 s own (xk s own t n) ds ds.length).1.qE)[ba]!).qC).qU).length) gU,Sv ms ((((((x9 s own (xk s own t n) ds ds.length).1.qE)[ba]!).qC).jH).length) mc,Sv lz ((((((x9 s own (xk s own t n) ds ds.length).1.qE)[ba]!).qC).zM).length) kQ,yI (((((x9 s own (xk s own t n) ds ds.length).1.qE)[ba]!).qR).qK),Sv iK ((((((x9 s own (xk s own t n) ds ds.length).1.qE)[ba]!).qR).qG).length) iX,Sv gx ((((((x9 s own (xk s own t n) ds ds.length).1.qE)[ba]!).qR).qF).length) ga,Bv (((((x9 s own (xk s own t n) ds ds.length).1.qE)[ba]!).qR).qY),Sv lC ((((((x9 s own (xk s own t n) ds ds.length).1.qE)[ba]!).qR).jA).length) lx,Sv gn ((((((x9 s own (xk s own t n) ds ds.length).1.qE)[ba]!).qR).qU).length) gq,Sv lu ((((((x9 s own (xk s own t n) ds ds.length).1.qE)[ba]!).qR).jH).length) kX,Sv i8 ((((((x9 s own (xk s own t n) ds ds.length).1.qE)[ba]!).qR).zM).length) iW] sizeOf49 fun WG H=>(zjn<|vW 3 J H [0,1,2,3,4,5,6,7,8] [0,1,2,3,4,5,6,7,8,9,10,11,12,13,14,15,16,17,18,19,20] fun H=>?_)
  dsimp only[yu,yU]
  refine tF 0 J J H ?_
  refine tL 1 J J (fun _ h=>h.cell 2 J J) H ?_
  refine tF 2 J J H ?_
  refine rt 3 _ (yP (cs:=[yI (((((x9 s own (xk s own t n) ds ds.length).1.qE)[ba]!).qC).qK),Sv ls ((((((x9 s own (xk s own t n) ds ds.length).1.qE)[ba]!).qC).qG).length) kU,Sv hX ((((((x9 s own (xk s own t n) ds ds.length).1.qE)[ba]!).qC).qF).length) il,Bv (((((x9 s own (xk s own t n) ds ds.length).1.qE)[ba]!).qC).qY),Sv mM ((((((x9 s own (xk s own t n) ds ds.length).1.qE)[ba]!).qC).jA).length) nz,Sv g9 ((((((x9 s own (xk s own t n) ds ds.length).1.qE)[ba]!).qC).qU).length) gU,Sv ms ((((((x9 s own (xk s own t n) ds ds.length).1.qE)[ba]!).qC).jH).length) mc,Sv lz ((((((x9 s own (xk s own t n) ds ds.length).1.qE)[ba]!).qC).zM).length) kQ]) isAgg47 sizeOf47 J<|fun _ h=>qH (h.cells 0 J) 0 8) H ?_
  refine tF 5 J J H ?_
  refine rt 6 _ (yP (cs:=[yI (((((x9 s own (xk s own t n) ds ds.length).1.qE)[ba]!).qR).qK),Sv iK ((((((x9 s own (xk s own t n) ds ds.length).1.qE)[ba]!).qR).qG).length) iX,Sv gx ((((((x9 s own (xk s own t n) ds ds.length).1.qE)[ba]!).qR).qF).length) ga,Bv (((((x9 s own (xk s own t n) ds ds.length).1.qE)[ba]!).qR).qY),Sv lC ((((((x9 s own (xk s own t n) ds ds.length).1.qE)[ba]!).qR).jA).length) lx,Sv gn ((((((x9 s own (xk s own t n) ds ds.length).1.qE)[ba]!).qR).qU).length) gq,Sv lu ((((((x9 s own (xk s own t n) ds ds.length).1.qE)[ba]!).qR).jH).length) kX,Sv i8 ((((((x9 s own (xk s own t n) ds ds.length).1.qE)[ba]!).qR).zM).length) iW]) isAgg47 sizeOf47 J<|fun _ h=>qH (h.cells 0 J) 8 8) H ?_
  refine ro 4 J ?_
  have aDl:=H.base.size
  have az0:=H.ltN (L:=[sf,nV,QP]) [19,20,12]
  refine oc (VP _ ((((x9 s own (xk s own t n) ds ds.length).1.qE)[ba]!).qC) (H.get 0 J).1 (H.get 1 J).1 (H.get 2 J).1 (H.get 3 J).1 (H.get 4 J).1 (H.get 5 J).1 qg) ?_
  rintro _ w37 ⟨uV,xS,DW,oT,oC,vp,Ch,CQ,Iz,oM,oS,wq,CM,Cl,Ha,x3,wg,Ee,rfl,M,K⟩ _
  replace N:=N.merge aDl az0 M
  replace H:=H.merge K M
  refine⟨H.pick (zR 0 9)<|zR 6 21,(ro 7 J ?_)⟩
  have azo:=H.base.size
  have aym:=H.ltN (L:=[DW,vp,Iz,wq,Ha,Ee,sf,nV,QP]) [0,1,2,3,4,5,25,26,18]
  refine oc (VP _ ((((x9 s own (xk s own t n) ds ds.length).1.qE)[ba]!).qR) (H.get 12 J).1 (H.get 13 J).1 (H.get 14 J).1 (H.get 15 J).1 (H.get 16 J).1 (H.get 17 J).1 qg) ?_
  rintro _ Ul ⟨zc,uk,PR,oB,oK,Fw,BA,CA,Ug,ow,o0,FT,BN,CL,Sg,xz,uv,Mf,rfl,M,K⟩ _
  replace N:=N.merge azo aym M
  replace H:=H.merge K M
  refine⟨H.pick (zR 0 9)<|zR 12 21,(ro 8 J ?_)⟩
  refine vZ [yI (((((x9 s own (xk s own t n) ds ds.length).1.qE)[ba]!).qC).qK),Sv uV ((((((x9 s own (xk s own t n) ds ds.length).1.qE)[ba]!).qC).qG).length) xS,Sv oT ((((((x9 s own (xk s own t n) ds ds.length).1.qE)[ba]!).qC).qF).length) oC,Bv (((((x9 s own (xk s own t n) ds ds.length).1.qE)[ba]!).qC).qY),Sv Ch ((((((x9 s own (xk s own t n) ds ds.length).1.qE)[ba]!).qC).jA).length) CQ,Sv oM ((((((x9 s own (xk s own t n) ds ds.length).1.qE)[ba]!).qC).qU).length) oS,Sv CM ((((((x9 s own (xk s own t n) ds ds.length).1.qE)[ba]!).qC).jH).length) Cl,Sv x3 ((((((x9 s own (xk s own t n) ds ds.length).1.qE)[ba]!).qC).zM).length) wg,yI (((((x9 s own (xk s own t n) ds ds.length).1.qE)[ba]!).qR).qK),Sv zc ((((((x9 s own (xk s own t n) ds ds.length).1.qE)[ba]!).qR).qG).length) uk,Sv oB ((((((x9 s own (xk s own t n) ds ds.length).1.qE)[ba]!).qR).qF).length) oK,Bv (((((x9 s own (xk s own t n) ds ds.length).1.qE)[ba]!).qR).qY),Sv BA ((((((x9 s own (xk s own t n) ds ds.length).1.qE)[ba]!).qR).jA).length) CA,Sv ow ((((((x9 s own (xk s own t n) ds ds.length).1.qE)[ba]!).qR).qU).length) o0,Sv BN ((((((x9 s own (xk s own t n) ds ds.length).1.qE)[ba]!).qR).jH).length) CL,Sv xz ((((((x9 s own (xk s own t n) ds ds.length).1.qE)[ba]!).qR).zM).length) uv] [(0,.agg #[yI (((((x9 s own (xk s own t n) ds ds.length).1.qE)[ba]!).qC).qK),Sv uV ((((((x9 s own (xk s own t n) ds ds.length).1.qE)[ba]!).qC).qG).length) xS,Sv oT ((((((x9 s own (xk s own t n) ds ds.length).1.qE)[ba]!).qC).qF).length) oC,Bv (((((x9 s own (xk s own t n) ds ds.length).1.qE)[ba]!).qC).qY),Sv Ch ((((((x9 s own (xk s own t n) ds ds.length).1.qE)[ba]!).qC).jA).length) CQ,Sv oM ((((((x9 s own (xk s own t n) ds ds.length).1.qE)[ba]!).qC).qU).length) oS,Sv CM ((((((x9 s own (xk s own t n) ds ds.length).1.qE)[ba]!).qC).jH).length) Cl,Sv x3 ((((((x9 s own (xk s own t n) ds ds.length).1.qE)[ba]!).qC).zM).length) wg]),(1,.agg #[yI (((((x9 s own (xk s own t n) ds ds.length).1.qE)[ba]!).qR).qK),Sv zc ((((((x9 s own (xk s own t n) ds ds.length).1.qE)[ba]!).qR).qG).length) uk,Sv oB ((((((x9 s own (xk s own t n) ds ds.length).1.qE)[ba]!).qR).qF).length) oK,Bv (((((x9 s own (xk s own t n) ds ds.length).1.qE)[ba]!).qR).qY),Sv BA ((((((x9 s own (xk s own t n) ds ds.length).1.qE)[ba]!).qR).jA).length) CA,Sv ow ((((((x9 s own (xk s own t n) ds ds.length).1.qE)[ba]!).qR).qU).length) o0,Sv BN ((((((x9 s own (xk s own t n) ds ds.length).1.qE)[ba]!).qR).jH).length) CL,Sv xz ((((((x9 s own (xk s own t n) ds ds.length).1.qE)[ba]!).qR).zM).length) uv])] ?_
  refine⟨H.pick (zR 0 9)<|zR 12 21,(ro 9 J ?_)⟩
  refine zH H underlying36 ti49 [yI (((((x9 s own (xk s own t n) ds ds.length).1.qE)[ba]!).qC).qK),Sv uV ((((((x9 s own (xk s own t n) ds ds.length).1.qE)[ba]!).qC).qG).length) xS,Sv oT ((((((x9 s own (xk s own t n) ds ds.length).1.qE)[ba]!).qC).qF).length) oC,Bv (((((x9 s own (xk s own t n) ds ds.length).1.qE)[ba]!).qC).qY),Sv Ch ((((((x9 s own (xk s own t n) ds ds.length).1.qE)[ba]!).qC).jA).length) CQ,Sv oM ((((((x9 s own (xk s own t n) ds ds.length).1.qE)[ba]!).qC).qU).length) oS,Sv CM ((((((x9 s own (xk s own t n) ds ds.length).1.qE)[ba]!).qC).jH).length) Cl,Sv x3 ((((((x9 s own (xk s own t n) ds ds.length).1.qE)[ba]!).qC).zM).length) wg,yI (((((x9 s own (xk s own t n) ds ds.length).1.qE)[ba]!).qR).qK),Sv zc ((((((x9 s own (xk s own t n) ds ds.length).1.qE)[ba]!).qR).qG).length) uk,Sv oB ((((((x9 s own (xk s own t n) ds ds.length).1.qE)[ba]!).qR).qF).length) oK,Bv (((((x9 s own (xk s own t n) ds ds.length).1.qE)[ba]!).qR).qY),Sv BA ((((((x9 s own (xk s own t n) ds ds.length).1.qE)[ba]!).qR).jA).length) CA,Sv ow ((((((x9 s own (xk s own t n) ds ds.length).1.qE)[ba]!).qR).qU).length) o0,Sv BN ((((((x9 s own (xk s own t n) ds ds.length).1.qE)[ba]!).qR).jH).length) CL,Sv xz ((((((x9 s own (xk s own t n) ds ds.length).1.qE)[ba]!).qR).zM).length) uv] fun b46 w47 H=>(⟨H.pick (zR 1 9)<|zR 12 21,(xx qh<|zg<|sw<|zQ H 2 J 0 J underlying36 ti49 J qj J J J qw qp qf fun a48 c49 w50 H=>?_)⟩)
  replace H:=H.snoc_ServerD 24 J (((((x9 s own (xk s own t n) ds ds.length).1.qE)[ba]!).qC).qK) 6 J 7 J (((((x9 s own (xk s own t n) ds ds.length).1.qE)[ba]!).qC).qY) 8 J 9 J 10 J 11 J (((((x9 s own (xk s own t n) ds ds.length).1.qE)[ba]!).qR).qK) 0 J 1 J (((((x9 s own (xk s own t n) ds ds.length).1.qE)[ba]!).qR).qY) 2 J 3 J 4 J 5 J
  replace N:Fresh w.heap.size [(QP++(DW++vp++Iz++wq++Ha++Ee++PR++Fw++Ug++FT++Sg++Mf)),sf,nV]:=(N.pick [6,7,8,9,10,11,0,1,2,3,4,5,14,12,13]).join.join.join.join.join.join.join.join.join.join.join.swap.join
  refine oF J<|sw<|zn H 3 [Sv a48 (Xk+1) c49,yN] sizeOf36 fun w51 H=>xX<|b_n<|t_n<|zf<|sw<|zY ba 1 J J qf<|sq 1<|xX<|xu (m':=((((x9 s own (xk s own t n) ds ds.length).1.qE).length)-((ba+1):Int)).toNat) qf ⟨_,ba+1,_,_,_,_,_,_,uE7,?_,?_,J,(N.pick [1,2,0]),H.pick (zR 2 8) (0::zR 26 8)⟩
  ·exact take_snoc qf
  ·omega
 refine zx4<|zcc<|sq 2<|oF J<|oF J<|oL J (H.cell 2 J J)<|oN J<|sp (yI 0)<|zjn<|xg ?_
 replace H:=H.nilRow 77 4
 replace H:=H.yF (α:=zC)
 refine vk ((fun Z0 Z1 Z2 Z3 Z4 Z5 Z6 Z7 Z8 Z9 dU eC fe fR gB ij=>fun m' ρ w52=>∃(xR:Env) (dX:Nat) (fL:yOA) (eX:Nat) (fx:Nat) (ze:List zC) (li:List Value) (eU:yLN),ρ=upd (upd (upd (upd (upd (upd xR 8<|pp b5 0) 13<|yI ((x9 s own (xk s own t n) ds ds.length).2)) 14<|pp tQ 0) 64<|Sv PV (((x9 s own (xk s own t n) ds ds.length).1.vz).length) kW) 65<|yI (((x9 s own (xk s own t n) ds ds.length).1.vz).length)) 66 (yI dX)/\ze=(x9 s own (xk s own t n) ds ds.length).1.vz.take dX/\((dX:Int)<=(((x9 s own (xk s own t n) ds ds.length).1.vz).length))/\m'=((((x9 s own (xk s own t n) ds ds.length).1.vz).length)-(dX:Int)).toNat/\Fresh w.heap.size [sf,nV,QP,eU]/\St w w52 [rr fL eX fx 77 4 li,Z0,.box tQ [Sv XF Xk XC,Sv fL eX fx] 39,Z1,Z2,Z3,Z4,Z5,Z6] [qX true eU li ze,Z7,Z8,Z9,dU,eC,fe,fR,gB,ij]) _ _ _ _ _ _ _ _ _ _ _ _ _ _ _ _) (((((x9 s own (xk s own t n) ds ds.length).1.vz).length)-(0:Int)).toNat) ⟨_,0,none,0,0,([]:List zC),[],[],uE6,(by rfl),qf,J,(N.emp.pick [1,2,3,0]),H⟩ ?_
 clear H N
 rintro m' ρ w53 ⟨xR,dX,fL,eX,fx,ze,li,eU,rfl,rfl,i0,rfl,N,H⟩
 have Wt:=H.xf (α:=zC) 0 J 0 J qj
 have hl:((x9 s own (xk s own t n) ds ds.length).1.vz.take dX).length=dX:=List.length_take_of_le qf
 refine zcr<|sq 1<|zjn<|xO<|cD J (fun h54=>?_)<|fun h54=>?_
 ·have y4:=((tk.wire dX qf).2.2.1).small p0.sys
  refine xe<|t_n<|xO<|xg<|zcr ?_
  obtain⟨RB,rfl⟩:=H.jm 5 rfl qf
  refine oI J J ?_
  obtain⟨EQ,Es,aq8,amV,H⟩:=H.part_ParcelD QI.refl 5 rfl 9 rfl rfl dX qf
  refine sw<|xW [yI ((((x9 s own (xk s own t n) ds ds.length).1.vz)[dX]!).qK),yI ((((x9 s own (xk s own t n) ds ds.length).1.vz)[dX]!).Q9),yI ((((x9 s own (xk s own t n) ds ds.length).1.vz)[dX]!).fTo),Sv EQ (((((x9 s own (xk s own t n) ds ds.length).1.vz)[dX]!).qG).length) Es] isAgg77 sizeOf77 J (fun r v hv=>H.zD 5 J (amV r v hv) qf)<|sw<|x8 H ti77 [yI 0,yI 0,yI 0,yN] fun b58 w59 H=>(sw<|xZ H 0 [yI ((((x9 s own (xk s own t n) ds ds.length).1.vz)[dX]!).qK),yI ((((x9 s own (xk s own t n) ds ds.length).1.vz)[dX]!).Q9),yI ((((x9 s own (xk s own t n) ds ds.length).1.vz)[dX]!).fTo),Sv EQ (((((x9 s own (xk s own t n) ds ds.length).1.vz)[dX]!).qG).length) Es] sizeOf77 fun w60 H=>zjc<|oF J<|oL J (H.cell 0 J J) ?_)
  have acj:=H.base.size
  have acA:=H.ltN (L:=[sf,nV,QP,eU]) [9,10,2,1]
  refine sw<|oc (XJ _ ((((x9 s own (xk s own t n) ds ds.length).1.vz)[dX]!).qG) (H.get 0 J).1 qg) ?_
  rintro _ w62 ⟨NZ,aAa,MG,am0,am9,rfl,M,K⟩ _
  replace N:=N.merge acj acA M
  replace H:=H.merge K M
  obtain rfl:=H.xf (α:=yLI) 0 rfl 0 rfl qj
  refine oF J<|sw<|zn H 1 [yI ((((x9 s own (xk s own t n) ds ds.length).1.vz)[dX]!).qK),yI ((((x9 s own (xk s own t n) ds ds.length).1.vz)[dX]!).Q9),yI ((((x9 s own (xk s own t n) ds ds.length).1.vz)[dX]!).fTo),Sv NZ (((((x9 s own (xk s own t n) ds ds.length).1.vz)[dX]!).qG).length) MG] sizeOf29 fun w67 H=>zjn<|zf<|oF J<|oL J (H.cell 4 J J)<|sw<|xW [yI ((((x9 s own (xk s own t n) ds ds.length).1.vz)[dX]!).qK),yI ((((x9 s own (xk s own t n) ds ds.length).1.vz)[dX]!).Q9),yI ((((x9 s own (xk s own t n) ds ds.length).1.vz)[dX]!).fTo),Sv NZ (((((x9 s own (xk s own t n) ds ds.length).1.vz)[dX]!).qG).length) MG] isAgg77 sizeOf77 J (qH (H.cells 1 J) 0 4)<|sw<|zH H underlying37 ti77 [yI ((((x9 s own (xk s own t n) ds ds.length).1.vz)[dX]!).qK),yI ((((x9 s own (xk s own t n) ds ds.length).1.vz)[dX]!).Q9),yI ((((x9 s own (xk s own t n) ds ds.length).1.vz)[dX]!).fTo),Sv NZ (((((x9 s own (xk s own t n) ds ds.length).1.vz)[dX]!).qG).length) MG] fun b68 w69 H=>?_
  have H0:=H
  obtain⟨G73,ake,abx,H⟩:=H.ji (α:=yLI) 1 rfl 0 rfl qj
  replace N:Fresh w.heap.size [G73,sf,nV,QP,eU]:=Fresh.ice N H0 1 ake.1 ake.2<|H0.XE [10,11,3,2]
  clear H0
  refine sw<|zQ H 3 J 0 J underlying37 ti77 J qj J J J qw qp qf fun a70 c71 LT H=>?_
  replace H:=H.snoc_ParcelD 3 J ((((x9 s own (xk s own t n) ds ds.length).1.vz)[dX]!).qK) ((((x9 s own (xk s own t n) ds ds.length).1.vz)[dX]!).Q9) ((((x9 s own (xk s own t n) ds ds.length).1.vz)[dX]!).fTo) 0 J
  replace N:Fresh w.heap.size [(eU++G73),sf,nV,QP]:=(N.pick [4,0,1,2,3]).join
  refine oF J<|sw<|zn H 5 [Sv XF Xk XC,Sv a70 (eX+1) c71] sizeOf37 fun w76 H=>xX<|b_n<|t_n<|zf<|sw<|zY dX 1 J J qf<|sq 1<|xX<|xu (m':=((((x9 s own (xk s own t n) ds ds.length).1.vz).length)-((dX+1):Int)).toNat) qf ⟨_,dX+1,_,_,_,_,_,_,uE6,?_,?_,J,(N.pick [1,2,3,0]),H.pick (zR 3 9) (0::zR 5 9)⟩
  ·exact take_snoc qf
  ·omega
 refine zx4<|zcr<|sw<|xW [Sv XF Xk XC,Sv fL eX fx] isAgg39 sizeOf39 J (qH (H.cells 2 J) 0 2)<|sq 1<|sw<|xZ H 6 [Sv XF Xk XC,Sv fL eX fx] sizeOf39 fun w77 H=>sq 1<|sp (yI 0)<|zjr<|retC3 H 6 J (yI ((x9 s own (xk s own t n) ds ds.length).2)) (yI 0) J isAgg39 sizeOf39 J J J ⟨_,J,?_,H.base⟩
 obtain rfl:ba=(x9 s own (xk s own t n) ds ds.length).1.qE.length:=by omega
 obtain rfl:dX=(x9 s own (xk s own t n) ds ds.length).1.vz.length:=by omega
 rw[List.take_length,List.take_length] at H
 exact⟨XF,Xk,XC,fN,QP,fL,eX,fx,li,eU,J,(N.pick [2,3]),H.pick [1,0] [1,0]⟩
end
section
section
variable{s : qJ}{own : yLI}{v : zO}{l m : List Qu}
structure CrashAt(V W:zO×Int)(k:Int):Prop where
 dc:W.2=V.2+1
 len:W.1.qE.length=V.1.qE.length
 wire:W.1.vz=V.1.vz
 saved:∀i,i<V.1.qE.length->W.1.qE[i]!.qR=V.1.qE[i]!.qR
 desk:∀i:Nat,i<V.1.qE.length->W.1.qE[i]!.qC=if (i:Int)=k then V.1.qE[i]!.qR else V.1.qE[i]!.qC
theorem Deeds.crash(h:Deeds l)(h0:0<=k/\k<=999):Deeds (l++[⟨9,k,0⟩]):=h.snoc ⟨⟨by show (1:Int)<=9;decide,by show (9:Int)<=9;decide⟩,h0,⟨Int.le_refl _,by show (0:Int)<=999;decide⟩,.inr<|.inr J⟩
theorem own_all{n:Nat}(h:OwnDr n own):∃m,XH own m/\m<=4:=by
 obtain⟨h1,m,h2,h3,h4,h5,h6⟩:=h
 refine⟨m,⟨⟨h2,by omega⟩,⟨by omega,h5⟩,fun i hi0 hi1=>?_⟩,by omega⟩
 obtain⟨j,hj,e⟩:=h6 i.toNat qf
 have:own[j]! =i:=by omega
 rw[getElem!_pos own j hj] at this
 exact this▸List.getElem_mem hj
theorem giv_of{m:Nat}(hs:jW s)(h:OwnDr s.qA.length own)(hm:XH own m):Giv s own m:=⟨hs,h.1,hm.bds,hm.one.2⟩
theorem still_of(h:MildTo s.qB s.qB.length):Still s:=fun i hi=>h i hi
theorem whole_of{t:qV}(h:AllTo t.qO):Whole t:=fun i hi=>h i hi
end
def putL(n:Int):yLI->yLI
 | []=>[n]
 |x::l=>if x<n then x::putL n l else if x=n then x::l else n::x::l
theorem mem_putL{n x:Int}:∀ {l:yLI},x∈putL n l<->x=n\/x∈l
 | []=>by simp[putL]
 |y::l=>by
  rw[putL]
  split
  ·rw[List.mem_cons,mem_putL,List.mem_cons]
   constructor
   ·rintro(h|h|h)
    ·exact .inr<|.inl h
    ·exact .inl h
    ·exact .inr<|.inr h
   ·rintro(h|h|h)
    ·exact .inr<|.inl h
    ·exact .inl h
    ·exact .inr<|.inr h
  ·split
   ·rename_i e
    subst e
    rw[List.mem_cons]
    constructor
    ·exact .inr
    ·rintro(h|h)
     ·exact .inl h
     ·exact h
   ·rw[List.mem_cons]
theorem putL_len(n:Int):∀l:yLI,(putL n l).length<=l.length+1
 | []=>by simp[putL]
 |x::l=>by
  rw[putL]
  have:=putL_len n l
  split
  ·simp only[List.length_cons];omega
  ·split <;> simp
theorem putL_asc{n:Int}:∀ {l:yLI},l.Pairwise (· < ·)->(putL n l).Pairwise (· < ·)
 | [],_=>by simp[putL]
 |x::l,h=>by
  have h1:=List.pairwise_cons.1 h
  rw[putL]
  split
  ·rename_i hx
   refine List.pairwise_cons.2 ⟨fun y hy=>?_,putL_asc h1.2⟩
   rcases mem_putL.1 hy with rfl|hy
   ·exact hx
   ·exact h1.1 y hy
  ·split
   ·exact h
   ·refine List.pairwise_cons.2 ⟨fun y hy=>?_,h⟩
    rcases List.mem_cons.1 hy with rfl|hy
    ·omega
    ·have:=h1.1 y hy;omega
def putAll(row:yLI):yLI:=row.foldl (fun zp x=>putL x zp) []
theorem putAll_snoc(row:yLI)(x:Int):putAll (row++[x])=putL x (putAll row):=by simp[putAll]
theorem putAll_len(row:yLI):(putAll row).length<=row.length:=by
 have key:∀(row zp:yLI),(row.foldl (fun zp x=>putL x zp) zp).length<=zp.length+row.length:=by
  intro row
  induction row with
  |nil=>intro zp;simp
  |cons x row ih=>intro zp;have h1:=ih (putL x zp);have h2:=putL_len x zp;simp only[List.foldl_cons,List.length_cons];omega
 have:=key row []
 simpa [putAll] using this
theorem putAll_all(row:yLI):(putAll row).Pairwise (· < ·)/\∀x,x∈putAll row<->x∈row:=by
 have key:∀(row zp:yLI),zp.Pairwise (· < ·)->(row.foldl (fun zp x=>putL x zp) zp).Pairwise (· < ·)/\∀x,x∈row.foldl (fun zp x=>putL x zp) zp<->x∈row\/x∈zp:=by
  intro row
  induction row with
  |nil=>intro zp h;exact⟨h,by simp⟩
  |cons x row ih=>
   intro zp h
   obtain⟨h1,h2⟩:=ih (putL x zp)<|putL_asc h
   refine⟨h1,fun y=>?_⟩
   rw[List.foldl_cons,h2 y,mem_putL,List.mem_cons]
   constructor
   ·rintro(h|h|h)
    ·exact .inl<|.inr h
    ·exact .inl<|.inl h
    ·exact .inr h
   ·rintro((h|h)|h)
    ·exact .inr<|.inl h
    ·exact .inl h
    ·exact .inr<|.inr h
 obtain⟨h1,h2⟩:=key row [] List.Pairwise.nil
 exact⟨h1,fun x=>(h2 x).trans qm⟩
def PutTo(n:Int)(l out:yLI)(done:Bool)(i:Nat):Prop:=out.length<=i+(if done=true then 1 else 0)/\(if done=true then out++l.drop i else out++putL n (l.drop i))=putL n l
theorem drop_at(h:i<l.length):l.drop i=l[i]! :: l.drop (i+1):=by
 rw[getElem!_pos l i h];exact List.drop_eq_getElem_cons h
theorem PutTo.zero(n:Int)(l:yLI):PutTo n l [] false 0:=⟨by simp,by simp⟩
theorem PutTo.on{out:yLI}{done:Bool}(h:PutTo n l out done i)(hd:done=true)(hi:i<l.length):PutTo n l (out++[l[i]!]) done (i+1):=by
 subst hd
 have h1:=h.1
 have h2:=h.2
 rw[if_pos J] at h1 h2
 refine⟨by rw[if_pos J];simp;omega,?_⟩
 rw[if_pos J,←h2,drop_at hi,List.append_assoc];rfl
theorem PutTo.less{out:yLI}{done:Bool}(h:PutTo n l out done i)(hd:done=false)(hi:i<l.length)(h3:¬l[i]! >=n):PutTo n l (out++[l[i]!]) done (i+1):=by
 subst hd
 have h1:=h.1
 have h2:=h.2
 rw[if_neg qj] at h1 h2
 refine⟨by rw[if_neg qj];simp;omega,?_⟩
 rw[if_neg qj,←h2,drop_at hi,putL,if_pos qf,List.append_assoc];rfl
theorem PutTo.same{out:yLI}{done:Bool}(h:PutTo n l out done i)(hd:done=false)(hi:i<l.length)(h3:l[i]! >=n)(h4:¬l[i]!>n):PutTo n l (out++[l[i]!]) true (i+1):=by
 subst hd
 have h1:=h.1
 have h2:=h.2
 rw[if_neg qj] at h1 h2
 refine⟨by rw[if_pos J];simp;omega,?_⟩
 rw[if_pos J,←h2,drop_at hi,putL,if_neg qf,if_pos qf,List.append_assoc];rfl
theorem PutTo.more{out:yLI}{done:Bool}(h:PutTo n l out done i)(hd:done=false)(hi:i<l.length)(h4:l[i]!>n):PutTo n l (out++[n]++[l[i]!]) true (i+1):=by
 subst hd
 have h1:=h.1
 have h2:=h.2
 rw[if_neg qj] at h1 h2
 refine⟨by rw[if_pos J];simp;omega,?_⟩
 rw[if_pos J,←h2,drop_at hi,putL,if_neg qf,if_neg qf,List.append_assoc,List.append_assoc];rfl
theorem PutTo.bd{out:yLI}{done:Bool}(h:PutTo n l out done i):out.length<=i+1:=by
 have:=h.1
 split at this <;> omega
theorem PutTo.yes{out:yLI}{done:Bool}(h:PutTo n l out done i)(hd:done=true)(hi:i=l.length):out=putL n l:=by
 subst hd
 have h2:=h.2
 rw[if_pos J,hi,List.drop_length,List.append_nil] at h2
 exact h2
theorem PutTo.no{out:yLI}{done:Bool}(h:PutTo n l out done i)(hd:done=false)(hi:i=l.length):out++[n]=putL n l:=by
 subst hd
 have h2:=h.2
 rw[if_neg qj,hi,List.drop_length,putL] at h2
 exact h2
theorem asc_len:∀(l:yLI) (a:Int) (n:Nat),l.Pairwise (· < ·)->(∀x,x∈l<->a<=x/\x<a+n)->l.length=n
 | [],a,n,_,h=>by
  cases n with
  |zero=>rfl
  |succ n=>exact absurd ((h a).2 ⟨Int.le_refl _,by omega⟩) qm
 |x::l,a,n,hs,h=>by
  have h1:=List.pairwise_cons.1 hs
  have hx:=(h x).1<|List.mem_cons_self ..
  have e:x=a:=by
   have ha:a∈x::l:=(h a).2 ⟨Int.le_refl _,by omega⟩
   rcases List.mem_cons.1 ha with h2|h2
   ·exact h2.symm
   ·have:=h1.1 a h2;omega
  subst e
  cases n with
  |zero=>omega
  |succ m=>
   have:=asc_len l (x+1) m h1.2 fun y=>by
    constructor
    ·intro hy
     have:=(h y).1<|List.mem_cons_of_mem _ hy
     have:=h1.1 y hy
     omega
    ·intro hy
     rcases List.mem_cons.1 ((h y).2 ⟨by omega,by omega⟩) with h2|h2
     ·omega
     ·exact h2
   simp[this]
theorem seen_len{own:yLI}{n:Nat}(h:XH own n):(putAll own).length=n:=by
 obtain⟨h1,h2⟩:=putAll_all own
 refine asc_len _ 0 n h1 fun x=>(h2 x).trans ⟨fun hx=>?_,fun hx=>h.all x hx.1 qf⟩
 obtain⟨j,hj,e⟩:=List.getElem_of_mem hx
 have:=h.bds.2 j hj
 rw[getElem!_pos own j hj,e] at this
 omega
theorem putAll_take{own:yLI}(hi:i<own.length):putL own[i]! (putAll<|own.take i)=putAll (own.take<|i+1):=by
 rw[←putAll_snoc,List.take_succ_eq_append_getElem hi,getElem!_pos own i hi]
section
variable{s : qJ}{own : yLI}{v : zO}{l : List Qu}{k : Nat}
noncomputable def X9(s:qJ)(own:yLI)(v:zO)(l:List Qu)(k:Nat):yLI:=(List.range k).map fun j=>(doM s own (x9 s own v l j).1<|l[j]!).2
theorem codes_len:(X9 s own v l k).length=k:=by simp[X9]
theorem codes_snoc:X9 s own v l k++[(doM s own (x9 s own v l k).1<|l[k]!).2]=X9 s own v l (k+1):=by simp[X9,List.range_succ]
theorem codes_get(hj:j<k):(X9 s own v l k)[j]! =(doM s own (x9 s own v l j).1<|l[j]!).2:=by
 rw[getElem!_pos (X9 s own v l k) j<|by rw[codes_len];exact hj];simp[X9]
theorem cnt10{d:Qu}(h:VT d)(hn:([0,1,1,2,2,1,1,1,1,1]:yLI)[d.xQ.toNat]! ≠2):d.fB=0:=by
 rcases h.2.2.2 with e|e|e
 ·rw[e] at hn;exact absurd J hn
 ·rw[e] at hn;exact absurd J hn
 ·exact e
end
end
section
variable{bs os qL xh fa xI zq xy tO : Nat}
theorem l00Put_ok(w:World)(l:yLI)(n:Int)(hl:zP w Fl al cl l)(p0:l.length<=1000000):Calls Tryz.prog 117 #[Sv al l.length cl,.int .i64 n] w (Ret (fun v w'=>∃(ra:yOA) (rn:Nat) (rc:Nat),v=Sv ra rn rc/\Fresh w.heap.size []/\St w w' [rr ra rn rc 2 1 ((putL n l).map<|Value.int .i64)] []) w):=by
 refine en Tryz.func117 Tryz.ntmps117 ?_
 have H:=(St.start w).arg hl
 clear hl
 have N:=Fresh.nil w.heap.size
 refine zcr<|sq 1<|zjc<|sw<|jS H underlying24 ti2 fun b1 w2 H=>sq 1<|zjc<|sp (Bv false)<|zjcc<|sp (.int .i64 0)<|zjn<|xg ?_
 replace H:=H.boxRowI 0 [] 0
 refine vk ((fun Z0=>fun m' ρ w3=>∃(xR:Env) (yK:yOA) (yA:Nat) (yJ:Nat) (out:yLI) (done:Bool) (i:Nat),ρ=upd (upd (upd (upd (upd xR 0<|Sv al l.length cl) 1<|.int .i64 n) 5<|Sv yK yA yJ) 6<|Bv done) 7 (.int .i64 i)/\((i:Int)<=l.length)/\(PutTo n l out done i)/\m'=(l.length-(i:Int)).toNat/\Fresh w.heap.size []/\St w w3 [rr yK yA yJ 2 1<|out.map<|Value.int .i64] [Z0]) _) ((l.length-(0:Int)).toNat) ⟨_,(some ⟨b1,0,none⟩),0,0,([]:yLI),false,0,uE5,qf,(by exact PutTo.zero n l),J,N,H⟩ ?_
 clear H N
 rintro m' ρ w4 ⟨xR,yK,yA,yJ,out,done,i,rfl,i0,i1,rfl,N,H⟩
 have VS:=H.yt 0 J
 have ob:=i1.bd
 refine zcc<|sp (.int .i64 i)<|sq 1<|oN J<|sq 1<|zjn<|cD J (fun h5=>?_)<|fun h5=>?_
 ·refine xe (t_n<|xO<|xg<|zcc<|sp (Bv done)<|sp (Bv !done)<|sp (Bv !done) ?_)
  cases h6:(!done)
  ·replace h6:=xw h6
   refine zk (zR 18 6)<|sp (Bv false)<|zjn<|cFr J<|xe<|t_n<|zf<|sq 2<|sp (.int .i64 i) ?_
   obtain⟨b7,o8,rfl⟩:=H.addr 0 rfl qf
   refine oI J J<|oL J (H.vM 0 J i qf)<|sw<|zH H underlying24 ti2 [.int .i64<|l[i]!] fun z8 z7 H=>sw<|zQ H 1 J 0 J underlying24 ti2 J qj J J J qw qp qf fun a12 c13 TC H=>?_
   rw[snocI] at H
   refine sq 1<|xX<|b_n<|t_n<|zf<|sp (.int .i64 i)<|sw<|zY i 1 J J qf<|sq 1<|xX<|xu (m':=(l.length-((i+1):Int)).toNat) qf ⟨_,_,_,_,_,_,i+1,uE5,?_,?_,J,N,H.pick [1] [0]⟩
   ·omega
   ·exact i1.on ql qf
  ·replace h6:=xF h6
   refine qP 17 J J<|sq 1<|qP 17 J J<|sp (.int .i64 i)<|qP 17 J J ?_
   obtain⟨GD,o16,rfl⟩:=H.addr 0 rfl qf
   refine oI J J<|qP 17 J J<|oL J (H.vM 0 J i qf)<|qP 17 J J<|sp (.int .i64 n)<|qP 17 J J<|sq 2<|zjn<|cD J (fun i7=>?_)<|fun i7=>?_
   ·refine zcr (sp (Bv true)<|zjc<|sq 1<|sp (.int .i64 i)<|oI J J<|oL J (H.vM 0 J i qf)<|sp (.int .i64 n)<|sq 1<|zjn<|cD J (fun pj=>?_)<|fun pj=>?_)
    ·refine zf (sq 1<|sp (.int .i64 n)<|sw<|zH H underlying24 ti2 [.int .i64 n] fun JN NH H=>sw<|zQ H 1 J 0 J underlying24 ti2 J qj J J J qw qp qf fun a22 c23 Gw H=>?_)
     rw[snocI] at H
     refine sq 1<|zjn<|zf<|sq 2<|sp (.int .i64 i)<|oI J J<|oL J (H.vM 0 J i qf)<|sw<|zH H underlying24 ti2 [.int .i64<|l[i]!] fun Yo E3 H=>sw<|zQ H 2 J 0 J underlying24 ti2 J qj J J J qw qp qf fun a27 c28 Iu H=>?_
     rw[snocI] at H
     refine sq 1<|xX<|b_n<|t_n<|zf<|sp (.int .i64 i)<|sw<|zY i 1 J J qf<|sq 1<|xX<|xu (m':=(l.length-((i+1):Int)).toNat) qf ⟨_,_,_,_,_,_,i+1,uE5,?_,?_,J,N,H.pick [2] [0]⟩
     ·omega
     ·exact i1.more ql qf ql
    ·refine xe (t_n<|zf<|sq 2<|sp (.int .i64 i)<|oI J J<|oL J (H.vM 0 J i qf)<|sw<|zH H underlying24 ti2 [.int .i64<|l[i]!] fun HX w31 H=>sw<|zQ H 1 J 0 J underlying24 ti2 J qj J J J qw qp qf fun a32 c33 WG H=>?_)
     rw[snocI] at H
     refine sq 1<|xX<|b_n<|t_n<|zf<|sp (.int .i64 i)<|sw<|zY i 1 J J qf<|sq 1<|xX<|xu (m':=(l.length-((i+1):Int)).toNat) qf ⟨_,_,_,_,_,_,i+1,uE5,?_,?_,J,N,H.pick [1] [0]⟩
     ·omega
     ·exact i1.same ql qf ql ql
   ·refine xe (t_n<|zf<|sq 2<|sp (.int .i64 i)<|oI J J<|oL J (H.vM 0 J i qf)<|sw<|zH H underlying24 ti2 [.int .i64<|l[i]!] fun b35 JP H=>sw<|zQ H 1 J 0 J underlying24 ti2 J qj J J J qw qp qf fun a37 c38 O1 H=>?_)
    rw[snocI] at H
    refine sq 1<|xX<|b_n<|t_n<|zf<|sp (.int .i64 i)<|sw<|zY i 1 J J qf<|sq 1<|xX<|xu (m':=(l.length-((i+1):Int)).toNat) qf ⟨_,_,_,_,_,_,i+1,uE5,?_,?_,J,N,H.pick [1] [0]⟩
    ·omega
    ·exact i1.less ql qf ql
 ·refine zx4 (zcc<|sp (Bv done)<|sp (Bv !done)<|zjn<|vP _ J (fun rP=>?_)<|fun rP=>?_)
  ·replace rP:=xF rP
   refine zf<|sq 1<|sp (.int .i64 n)<|sw<|zH H underlying24 ti2 [.int .i64 n] fun GN Ul H=>sw<|zQ H 1 J 0 J underlying24 ti2 J qj J J J qw qp qf fun a43 c44 w45 H=>?_
   rw[snocI] at H
   refine sq 1<|zjc<|sq 2<|zjr<|rH1 (Sv a43 (yA+1) c44) H ?_
   rw[←i1.no ql qf]
   exact⟨a43,yA+1,c44,J,N,H.pick [1] []⟩
  ·replace rP:=xw rP
   refine xe<|t_n<|zcr<|sq 2<|zjr<|rH1 (Sv yK yA yJ) H ?_
   rw[←i1.yes ql qf]
   exact⟨yK,yA,yJ,J,N,H.pick [0] []⟩
theorem l08Owners_ok(w:World)(s:qJ)(own:yLI)(hs:jO w bs os [.int .i64 s.qQ,Sv qM s.qA.length qL,Sv xm s.qB.length xh])(qZ:zP w xN qM qL s.qA)(xM:zP w zN xm xh s.qB)(ee:zP w lY fu fa own)(p0:jW s)(p1:Still s)(p2:∃n,XH own n)(p3:own.length=s.qA.length):Calls Tryz.prog 73 #[.pointer<|some ⟨bs,os,none⟩,Sv fu own.length fa] w (Ret (fun v w'=>v=Bv true) w):=by
 refine en Tryz.func73 Tryz.ntmps73 ?_
 have H:=((((St.start w).arg ee).arg xM).arg qZ).argAt hs
 have vT:=qN qZ
 have jP:=qN xM
 clear hs qZ xM ee
 have N:=Fresh.nil w.heap.size
 obtain⟨n,p4⟩:=p2
 have p5:=p4.one
 have e1:=srvTo_all p4
 have e2:∃n,XH own n:=⟨n,p4⟩
 have p6:=p0.1.2.1
 refine zcr<|sp (Bv false)<|zjcc<|sq 1<|sw<|oq (l02Ok_ok _ s (qH (H.get 0 J) 0 3) (H.get 1 J).1 (H.get 2 J).1) H fun w1 H=>sp (Bv (!(dec<|jW s)))<|sp (Bv (!(dec<|jW s))) ?_
 cases h3:(!(dec (jW s)))
 ·replace h3:=xw h3
  replace h3:=Qy h3
  refine qP 10 J J<|sq 1<|qP 10 J J<|sw<|oq (l08Still_ok _ s (qH (H.get 0 J) 0 3) (H.get 1 J).1 (H.get 2 J).1) H fun w5 H=>qP 10 J J<|sp (Bv (!(dec<|Still s)))<|sp (Bv (!(dec<|Still s)))<|sp (Bv (!(dec<|Still s))) ?_
  cases h7:(!(dec (Still s)))
  ·replace h7:=xw h7
   replace h7:=Qy h7
   refine qP 15 J J<|sq 1<|qP 15 J J<|oN J<|qP 15 J J<|sq 1<|qP 15 J J<|sq 1<|qP 15 J J<|oF J<|qP 15 J J<|oL J (H.zU 0 J 1 J)<|qP 15 J J<|oN J<|qP 15 J J<|sq 2<|zjn<|vP _ J (fun h8=>?_)<|fun h8=>?_
   ·replace h8:=bne_iff_ne.1 h8
    refine zcr<|sp (Bv false)<|zjr<|t_r<|rH1 (Bv false) H ?_
    exfalso;omega
   ·replace h8:=zo h8
    refine xe<|t_n<|zcr<|sw<|jS H underlying24 ti2 fun b9 sr H=>sq 1<|zjcc<|sp (.int .i64 0)<|zjn<|xg ?_
    replace H:=H.boxRowI 0 [] 0
    refine vk ((fun Z0=>fun m' ρ z7=>∃(xR:Env) (GR:yOA) (Bg:Nat) (FK:Nat) (abX:yLI) (i:Nat),ρ=upd (upd (upd xR 1<|Sv fu own.length fa) 5<|Sv GR Bg FK) 6 (.int .i64 i)/\abX=putAll (own.take i)/\((i:Int)<=own.length)/\m'=(own.length-(i:Int)).toNat/\Fresh w.heap.size []/\St w z7 [rr GR Bg FK 2 1<|abX.map<|Value.int .i64] [Z0]) _) ((own.length-(0:Int)).toNat) ⟨_,(some ⟨b9,0,none⟩),0,0,([]:yLI),0,uE3,(by rfl),qf,J,N,H.pick [0] [3]⟩ ?_
    clear H N
    rintro m' ρ Lz ⟨xR,GR,Bg,FK,abX,i,rfl,rfl,i0,rfl,N,H⟩
    have S0:=H.yt 0 J
    have sl:=putAll_len<|own.take i
    have tl:(own.take i).length=i:=List.length_take_of_le qf
    refine zcc<|sp (.int .i64 i)<|sq 1<|oN J<|sq 1<|zjn<|cD J (fun B2=>?_)<|fun B2=>?_
    ·have p8:=p4.bds.2 i qf
     refine xe<|t_n<|xO<|xg<|zcc<|sq 1<|sp (.int .i64 i) ?_
     obtain⟨LI,o15,rfl⟩:=H.addr 0 rfl qf
     refine oI J J<|oL J (H.vM 0 J i qf)<|sw<|oq (VN Lz own[i]! 0 3) H fun Us H=>sq 1<|zjn<|vP _ J (fun pj=>?_)<|fun pj=>?_
     ·replace pj:=xF pj
      replace pj:=Xl pj
      refine zcr<|sp (Bv false)<|zjr<|t_r<|zr5<|rH1 (Bv false) H ?_
      exfalso;omega
     ·replace pj:=xw pj
      replace pj:=QW.1 pj
      refine xe<|t_n<|zf<|sq 2<|sp (.int .i64 i)<|oI J J<|oL J (H.vM 0 J i qf) ?_
      obtain⟨G20,ah4,CY⟩:=H.Xv 0 rfl
      refine sw<|oc (VF (by rw[←ah4])<|l00Put_ok _ (putAll<|own.take i) own[i]! (ah4▸CY) qg) ?_
      rintro _ Gw ⟨asg,aNg,fW,rfl,M,K⟩ _
      replace H:=H.merge K M
      obtain rfl:=H.yt 0 rfl
      refine sq 1<|xX<|b_n<|t_n<|zf<|sp (.int .i64 i)<|sw<|zY i 1 J J qf<|sq 1<|xX<|xu (m':=(own.length-((i+1):Int)).toNat) qf ⟨_,_,_,_,_,i+1,uE3,?_,?_,J,N,H.pick [0] [0]⟩
      ·exact putAll_take qf
      ·omega
    ·refine zx4 (zcr<|sq 1<|oN J<|sq 1<|sw<|oq (l08Servers_ok _ own (H.get 0 J).1 qg) H fun Ui H=>sq 2<|zjr<|rH1 (Bv ((Bg:Int) == (srvTo own own.length))) H ?_)
     rw[S0,show i=own.length by omega,List.take_length,e1,seen_len p4];simp
  ·exact absurd p1<|vS<|xF h7
 ·exact absurd p0<|vS<|xF h3
theorem l08Deed_ok(w:World)(d:Qu)(p0:VT d):Calls Tryz.prog 75 #[.agg #[.int .i64 d.xQ,.int .i64 d.fA,.int .i64 d.fB]] w (Ret (fun v w'=>v=Bv true) w):=by
 refine en Tryz.func75 Tryz.ntmps75 ?_
 have H:=St.start w
 have d1:=p0.1
 have d2:=p0.2.1
 have d3:=p0.2.2.1
 refine zcr<|sw<|jb H [.int .i64 d.xQ,.int .i64 d.fA,.int .i64 d.fB] fun b1 w2 H=>sp (Bv false)<|zjcc<|oF J<|oL J (H.cell 0 J J)<|sw<|oq (VN w2 d.xQ 1 9) H fun w3 H=>sp (Bv (!(inR d.xQ 1 9)))<|sp (Bv (!(inR d.xQ 1 9))) ?_
 cases h5:(!(inR d.xQ 1 9))
 ·replace h5:=xw h5
  replace h5:=QW.1 h5
  refine qP 9 J J<|oF J<|qP 9 J J<|oL J (H.cell 0 J J)<|qP 9 J J<|sw<|oq (VN w3 d.fA 0 999) H fun w6 H=>qP 9 J J<|sp (Bv (!(inR d.fA 0 999)))<|sp (Bv (!(inR d.fA 0 999)))<|sp (Bv (!(inR d.fA 0 999))) ?_
  cases h8:(!(inR d.fA 0 999))
  ·replace h8:=xw h8
   replace h8:=QW.1 h8
   refine qP 15 J J<|oF J<|qP 15 J J<|oL J (H.cell 0 J J)<|qP 15 J J<|sw<|oq (VN w6 d.fB 0 999) H fun w9 H=>qP 15 J J<|sq 2<|zjn<|vP _ J (fun cf=>?_)<|fun cf=>?_
   ·replace cf:=xF cf
    replace cf:=Xl cf
    refine zcr<|sp (Bv false)<|zjr<|t_r<|rH1 (Bv false) H ?_
    exfalso;omega
   ·replace cf:=xw cf
    replace cf:=QW.1 cf
    refine xe<|t_n<|zcr<|sw<|vF #[] J J call118<|en Tryz.func118 Tryz.ntmps118 ?_
    refine zcr<|sq 2<|zjc<|sw<|o_buildF H underlying151 ti9 [.string<|⟨#[]⟩,.string<|⟨#[119,111,114,107]⟩,.string<|⟨#[115,97,118,101]⟩,.string<|⟨#[112,111,115,116]⟩,.string<|⟨#[98,97,99,107]⟩,.string<|⟨#[97,100,118,97,110,99,101]⟩,.string<|⟨#[100,101,108,105,118,101,114]⟩,.string<|⟨#[99,111,112,121]⟩,.string<|⟨#[100,114,111,112]⟩,.string<|⟨#[99,114,97,115,104]⟩] rfl (by simp[Value.cells]) rfl qj qj fun rB D9 H=>(sw<|o_buildF H underlying152 ti3 [.int .i64 0,.int .i64 1,.int .i64 1,.int .i64 2,.int .i64 2,.int .i64 1,.int .i64 1,.int .i64 1,.int .i64 1,.int .i64 1] rfl (by simp[Value.cells]) rfl qj qj fun LI IR H=>sq 2<|zjr<|ret2 (Sv (some ⟨rB,0,none⟩) 10 10) (Sv (some ⟨LI,0,none⟩) 10 10) rfl rfl rfl ⟨_,rfl,(sq 5 ?_)⟩)
    refine zjc<|sq 1<|oF J<|oL J (H.cell 2 J J) ?_
    replace H:=H.boxRowI 0 [0,1,1,2,2,1,1,1,1,1] 10
    refine oI J J<|oL J (H.Vx 0 J (iv:=d.xQ) (i:=d.xQ.toNat) qf qf)<|sp (Bv (([0,1,1,2,2,1,1,1,1,1][d.xQ.toNat]! :Int) == 2))<|sp (Bv (([0,1,1,2,2,1,1,1,1,1][d.xQ.toNat]! :Int) == 2)) ?_
    cases EB:(([0,1,1,2,2,1,1,1,1,1][d.xQ.toNat]! :Int) == 2)
    ·replace EB:=ne_of_beq_false EB
     refine qP 31 J J<|oF J<|qP 31 J J<|oL J (H.cell 2 J J)<|qP 31 J J<|sp (Bv ((d.fB:Int) == 0))<|sp (Bv ((d.fB:Int) == 0))<|sp (Bv ((d.fB:Int) == 0))<|zjr<|rH1 (Bv ((d.fB:Int) == 0)) H ?_
     rw[cnt10 p0 ql];rfl
    ·replace EB:=eq_of_beq EB
     refine zk [32,33,34]<|sp (Bv true)<|sp (Bv true)<|zjr<|rH1 (Bv true) H ?_
     rfl
  ·replace h8:=xF h8
   replace h8:=Xl h8
   refine zk (zR 16 4)<|sp (Bv true)<|zjn<|cTr J<|zcr<|sp (Bv false)<|zjr<|t_r<|rH1 (Bv false) H ?_
   exfalso;omega
 ·replace h5:=xF h5
  replace h5:=Xl h5
  refine zk (zR 10 4)<|sp (Bv true)<|sp (Bv true)<|zk (zR 16 4)<|sp (Bv true)<|zjn<|cTr J<|zcr<|sp (Bv false)<|zjr<|t_r<|rH1 (Bv false) H ?_
  exfalso;omega
theorem l08Asked_ok(w:World)(s:qJ)(own:yLI)(t:qV)(ds:List Qu){bt ot:Nat}(hs:jO w bs os [.int .i64 s.qQ,Sv qM s.qA.length qL,Sv xm s.qB.length xh])(qZ:zP w xN qM qL s.qA)(xM:zP w zN xm xh s.qB)(ee:zP w lY fu fa own)(ht:jO w bt ot [Sv xK t.qO.length xI,Sv zB t.qG.length zq,Sv xC t.qF.length xy])(zS:zP w vV xK xI t.qO)(vK:zP w jM zB zq t.qG)(zi:zP w zZ xC xy t.qF)(IP:zP w Gx uh tO ds)(p0:jW s/\Still s)(p1:zA s t/\Whole t)(p2:∃n,XH own n)(p3:own.length=s.qA.length)(p4:ds.length<=400)(p5:∀k,k<ds.length->VT ds[k]!):Calls Tryz.prog 33 #[.pointer<|some ⟨bs,os,none⟩,Sv fu own.length fa,.pointer<|some ⟨bt,ot,none⟩,Sv uh ds.length tO] w (Ret (fun v w'=>v=.int .i64 0) w):=by
 refine en Tryz.func33 Tryz.ntmps33 ?_
 have H:=(((((((((St.start w).arg IP).arg zi).arg vK).arg zS).argAt ht).arg ee).arg xM).arg qZ).argAt hs
 have jP:=qN xM
 have QM:=qN zS
 have Xt:=qN vK
 have Qe:=qN zi
 clear hs qZ xM ee ht zS vK zi IP
 have N:=Fresh.nil w.heap.size
 have q0:=p0.1
 have q1:=p0.2
 have q2:=p0.1.1
 refine zcr<|sp (.int .i64 0)<|zjcc<|sq 2<|sw<|oq (l08Owners_ok _ s own (qH (H.get 0 J) 0 3) (H.get 1 J).1 (H.get 2 J).1 (H.get 3 J).1 qg qg qg qg) H fun w2 H=>sp (Bv !true)<|sp (Bv !true) ?_
 cases h4:(!true)
 ·replace h4:=xw h4
  refine qP 14 J J<|sq 1<|qP 14 J J<|sq 1<|qP 14 J J<|sw<|oq (l08Whole_ok _ s t (qH (H.get 0 J) 0 3) (H.get 1 J).1 (H.get 2 J).1 (qH (H.get 4 J) 0 3) (H.get 5 J).1 (H.get 6 J).1 (H.get 7 J).1 qg) H fun w6 H=>qP 14 J J<|sq 2<|zjn<|vP _ J (fun h=>absurd p1<|vS<|xF h)<|fun h8=>?_
  replace h8:=xw h8
  replace h8:=Qy h8
  refine xe<|t_n<|zcc<|sp (.int .i64 0)<|zjn<|xg<|vk ((fun Z0=>fun m' ρ w9=>∃(xR:Env) (i:Nat),ρ=upd (upd xR 3<|Sv uh ds.length tO) 9 (.int .i64 i)/\((i:Int)<=ds.length)/\m'=(ds.length-(i:Int)).toNat/\Fresh w.heap.size []/\St w w9 [] [Z0]) _) ((ds.length-(0:Int)).toNat) ⟨_,0,uE2,qf,J,N,H.pick [] [8]⟩ ?_
  clear H N
  rintro m' ρ sr ⟨xR,i,rfl,i0,rfl,N,H⟩
  refine zcc<|sp (.int .i64 i)<|sq 1<|oN J<|sq 1<|zjn<|cD J (fun cf=>?_)<|fun cf=>?_
  ·have d1:=p5 i qf
   refine xe<|t_n<|xO<|xg<|zcr<|sq 1<|sp (.int .i64 i) ?_
   obtain⟨rB,o13,rfl⟩:=H.addr 0 rfl qf
   obtain⟨_,H⟩:=H.elem_DeedD 0 rfl i i qf qf qf
   refine oI J J<|sw<|xW [.int .i64 ds[i]!.xQ,.int .i64 ds[i]!.fA,.int .i64 ds[i]!.fB] isAgg44 sizeOf44 J (qH (H.get 0 J) 0 3)<|sw<|oq (l08Deed_ok sr ds[i]! qg) H fun Us H=>sp (Bv !true)<|zjn<|vP _ J (fun pj=>?_)<|fun pj=>?_
   ·replace pj:=xF pj
    refine zcr<|sp (.int .i64 1)<|zjr<|zr5<|rH1 (.int .i64 1) H ?_
    exfalso;contradiction
   ·replace pj:=xw pj
    refine xe<|b_n<|t_n<|zf<|sp (.int .i64 i)<|sw<|zY i 1 J J qf<|sq 1<|xX<|xu (m':=(ds.length-((i+1):Int)).toNat) qf ⟨_,i+1,uE2,?_,J,N,H.pick [] [1]⟩
    ·omega
  ·refine zx4 (zcc<|sq 1<|oN J<|sp (Bv<|decide ((ds.length:Int)>400))<|zjn<|cD J (fun zr=>?_)<|fun zr=>?_)
   ·refine zcr (sp (.int .i64 2)<|zjr<|t_r<|rH1 (.int .i64 2) H ?_)
    exfalso;omega
   ·refine xe (t_n<|zcr<|sp (.int .i64 0)<|zjr<|rH1 (.int .i64 0) H ?_)
    rfl
 ·replace h4:=xF h4
  refine zk (zR 15 4)<|sp (Bv true)<|zjn<|cTr J<|zcr<|sp (.int .i64 1)<|zjr<|t_r<|rH1 (.int .i64 1) H ?_
  exfalso;contradiction
theorem play_spec(s:qJ)(own:yLI)(ap:yOA)(cp:Nat)(Fp:yLN)(ar:yOA)(cr:Nat)(Fr:yLN)(ao:yOA)(co:Nat)(Fo:yLN)(t:qV)(tA:yOA)(cA:Nat)(FA:yLN)(tB:yOA)(cB:Nat)(FB:yLN)(tU:yOA)(cU:Nat)(FU:yLN)(ds:List Qu)(ad:yOA)(cd:Nat)(Fd:yLN)(sb:Nat)(tb:Nat)(n:Nat)(H:St W0 w ((.box sb [.int .i64 s.qQ,Sv ap s.qA.length cp,Sv ar s.qB.length cr] 27)::(.box tb [Sv tA t.qO.length cA,Sv tB t.qG.length cB,Sv tU t.qF.length cU] 31)::ps) ((sF false Fp ap cp s.qA)::(sF false Fr ar cr s.qB)::(sF false Fo ao co own)::(sF false FA tA cA t.qO)::(sF false FB tB cB t.qG)::(sF false FU tU cU t.qF)::(sF false Fd ad cd ds)::Γ))(N:Fresh W0.heap.size (Ns))(K0:Kept Ns Γ)(p0:Giv s own n)(p1:XH own n)(p2:zA s t)(p3:ds.length<=400)(p4:∀k,k<ds.length->VT ds[k]!)(OL:∀f∈(sF false Fp ap cp s.qA::sF false Fr ar cr s.qB::sF false Fo ao co own::sF false FA tA cA t.qO::sF false FB tB cB t.qG::sF false FU tU cU t.qF::sF false Fd ad cd ds::Γ),∀b∈f.F,b<W0.heap.size):Calls Tryz.prog 34 #[.pointer<|some ⟨sb,0,none⟩,Sv ao own.length co,.pointer<|some ⟨tb,0,none⟩,Sv ad ds.length cd] w (fun e w'=>∃v,e=.returned v/\∃(bk:Nat) (dN:yOA) (dC:Nat) (bQ:Nat) (bB:List Value) (bq:yLN) (bS:yOA) (ix:Nat) (bo:Nat) (bu:List Value) (bg:yLN) (rac:yOA) (rnc:Nat) (rcc:Nat),v=.tuple #[.pointer<|some ⟨bk,0,none⟩,Sv rac rnc rcc]/\Fresh W0.heap.size (bq::bg::Ns)/\St W0 w' ((.box sb [.int .i64 s.qQ,Sv ap s.qA.length cp,Sv ar s.qB.length cr] 27)::(.box tb [Sv tA t.qO.length cA,Sv tB t.qG.length cB,Sv tU t.qF.length cU] 31)::(.box bk [.pointer<|some ⟨sb,0,none⟩,Sv ao own.length co,Sv dN dC bQ,Sv bS ix bo] 86)::(rr dN dC bQ 49 16 bB)::(rr bS ix bo 77 4 bu)::(rr rac rnc rcc 2 1 ((X9 s own (xk s own t n) ds ds.length).map<|Value.int .i64))::ps) ((sF false Fp ap cp s.qA)::(sF false Fr ar cr s.qB)::(sF false Fo ao co own)::(sF false FA tA cA t.qO)::(sF false FB tB cB t.qG)::(sF false FU tU cU t.qF)::(sF false Fd ad cd ds)::(qX true bq bB ((x9 s own (xk s own t n) ds ds.length).1.qE))::(qX true bg bu ((x9 s own (xk s own t n) ds ds.length).1.vz))::Γ)):=by
 refine en Tryz.func34 Tryz.ntmps34 ?_
 have tb0:=begin_ok p0 p2
 refine zcr<|sq 2<|zjc<|sq 3 ?_
 have H1:=H.yD 2 7 [0,1] [0,1,2,3,4,5,6] xE xE
 have N1:Fresh _ (Ns):=N
 have K1:Kept (Ns) ((sF false Fd ad cd ds)::Γ):=K0.behind 1 J
 refine sw<|zT #[.pointer<|some ⟨sb,0,none⟩,Sv ao own.length co,.pointer<|some ⟨tb,0,none⟩] J J call62 (begin_spec s own ap cp Fp ar cr Fr ao co Fo t tA cA FA tB cB FB tU cU FU sb tb n H1 N1 K1 qg qg qg<|xU (vw OL 0 J)<|xU (vw OL 1 J)<|xU (vw OL 2 J)<|xU (vw OL 3 J)<|xU (vw OL 4 J)<|xU (vw OL 5 J)<|xU (vw OL 6 J)<|VA OL 7 J) ?_
 clear H H1 N1 K1
 rintro _ w1 ⟨bk3,ra4,rn5,Iv,rx7,rF8,Ic,ahM,EW,aAo,abg,rfl,N,H⟩
 obtain rfl:=H.xf (α:=zI) 3 rfl 6 rfl qj
 obtain rfl:=H.xf (α:=zC) 4 rfl 7 rfl qj
 refine sq 1<|zjc<|sw<|jS H underlying24 ti2 fun LI IR H=>sq 1<|zjcc<|sp (.int .i64 0)<|zjn<|xg ?_
 replace H:=H.boxRowI 0 [] 0
 dsimp only[List.set] at H
 refine vk ((fun Z0 Z1 Z2 Z3 Z4 Z5 Z6 Z7 Z8=>fun m' ρ Kj=>∃(xR:Env) (pw:yOA) (pq:Nat) (pW:Nat) (NG:yLI) (i:Nat) (Qo:yOA) (Ql:Nat) (Qn:Nat) (dh:List zC) (QQ:List Value) (jF:yLN) (bh:List zI) (jE:List Value) (zF:yLN),ρ=upd (upd (upd (upd xR 3<|Sv ad ds.length cd) 10<|.pointer<|some ⟨bk3,0,none⟩) 11<|Sv pw pq pW) 12 (.int .i64 i)/\NG=X9 s own (xk s own t n) ds i/\dh=(x9 s own (xk s own t n) ds i).1.vz/\bh=(x9 s own (xk s own t n) ds i).1.qE/\((i:Int)<=ds.length)/\m'=(ds.length-(i:Int)).toNat/\Fresh W0.heap.size (jF::zF::Ns)/\St W0 Kj ((rr pw pq pW 2 1<|NG.map<|Value.int .i64)::Z0::Z1::(.box bk3 [.pointer<|some ⟨sb,0,none⟩,Sv ao own.length co,Sv ra4 (((xk s own t n).qE).length) Iv,Sv Qo Ql Qn] 86)::(rr ra4 (((xk s own t n).qE).length) Iv 49 16 jE)::(rr Qo Ql Qn 77 4 QQ)::ps) (Z2::Z3::Z4::Z5::Z6::Z7::(qX true zF jE bh)::(qX true jF QQ dh)::Z8::Γ)) _ _ _ _ _ _ _ _ _) ((ds.length-(0:Int)).toNat) ⟨_,(some ⟨LI,0,none⟩),0,0,([]:yLI),0,Ic,((xk s own t n).vz).length,EW,(xk s own t n).vz,aAo,abg,(xk s own t n).qE,rx7,rF8,uE4,(by rfl),(by rfl),(by rfl),qf,J,(N.xG 2 [1,0] xE),H⟩ ?_
 clear H N
 rintro m' ρ Us ⟨xR,pw,pq,pW,NG,i,Qo,Ql,Qn,dh,QQ,jF,bh,jE,zF,rfl,rfl,rfl,rfl,i0,rfl,N,H⟩
 have amL:=H.yt 0 J
 have C5:=H.xf (α:=zC) 5 J 7 J qj
 have nA:=H.xf (α:=zI) 4 J 6 J qj
 have tk:Vo s own n (⟨(x9 s own (xk s own t n) ds i).1.qE,(x9 s own (xk s own t n) ds i).1.vz⟩:zO):=run_ok p0 tb0 p4 i qf
 have cl:(X9 s own (xk s own t n) ds i).length=i:=codes_len
 refine zcc<|sp (.int .i64 i)<|sq 1<|oN J<|sq 1<|zjn<|cD J (fun i7=>?_)<|fun i7=>?_
 ·have dk:=p4 i qf
  refine xe<|t_n<|xO<|xg<|zf<|sq 3<|sp (.int .i64 i) ?_
  obtain⟨LV,o20,rfl⟩:=H.addr 8 rfl qf
  obtain⟨_,H⟩:=H.elem_DeedD 8 rfl i i qf qf qf
  refine oI J J<|sw<|xW [.int .i64 ds[i]!.xQ,.int .i64 ds[i]!.fA,.int .i64 ds[i]!.fB] isAgg44 sizeOf44 J (qH (H.get 0 J) 0 3) ?_
  have H1:=H.yD 6 10 [3,1,4,5,0,2] [1,2,3,7,8,4,5,6,9] xE xE
  have N1:Fresh _ (zF::jF::Ns):=(N.xG 2 [1,0] xE)
  have K1:Kept (Ns) ((sF false FA tA cA t.qO)::(sF false FB tB cB t.qG)::(sF false FU tU cU t.qF)::(sF false Fd (some ⟨LV,o20,none⟩) cd ds)::Γ):=K0.behind 4 J
  refine sw<|zT #[.pointer<|some ⟨bk3,0,none⟩,.agg #[.int .i64 ds[i]!.xQ,.int .i64 ds[i]!.fA,.int .i64 ds[i]!.fB]] J J call65 (sdo_ok s own ap cp Fp ar cr Fr ao co Fo sb ((x9 s own (xk s own t n) ds i).1.qE) ((x9 s own (xk s own t n) ds i).1.vz) bk3 _ ra4 (((xk s own t n).qE).length) Iv jE zF Qo Ql Qn QQ jF ds[i]! H1 N1 K1 qg qg qg<|xU (vw OL 0 J)<|xU (vw OL 1 J)<|xU (vw OL 2 J)<|xU (vw OL 3 J)<|xU (vw OL 4 J)<|xU (vw OL 5 J)<|xU (vw OL 6 J)<|VA OL 7 J) ?_
  clear H H1 N1 K1
  rintro _ E8 ⟨ad0,alj,ab1,aa4,PL,aa3,aem,rfl,N,H⟩
  obtain rfl:=H.xf (α:=zC) 3 rfl 4 rfl qj
  refine sw<|zH H underlying24 ti2 [.int .i64 ((doM s own (⟨((x9 s own (xk s own t n) ds i).1.qE),((x9 s own (xk s own t n) ds i).1.vz)⟩:zO)<|ds[i]!).2)] fun Me w33 H=>sw<|zQ H 5 J 0 J underlying24 ti2 J qj J J J qw qp qf fun a34 c35 JP H=>?_
  rw[snocI] at H
  dsimp only[List.set] at H
  refine sq 1<|xX<|b_n<|t_n<|zf<|sp (.int .i64 i)<|sw<|zY i 1 J J qf<|sq 1<|xX<|xu (m':=(ds.length-((i+1):Int)).toNat) qf ⟨_,_,_,_,_,i+1,_,_,_,_,_,_,_,_,_,uE4,?_,?_,?_,?_,J,(N.xG 2 [1,0] xE),H.xG 7 9 [5,2,6,1,3,4] [0,1,2,5,6,7,3,4,8] xE xE⟩
  ·exact codes_snoc
  ·rfl
  ·rfl
  ·omega
 ·refine zx4 (zcr<|sq 4<|zjr<|ret2 (.pointer<|some ⟨bk3,0,none⟩) (Sv pw pq pW) J J J ⟨_,J,?_⟩)
  obtain rfl:i=ds.length:=by omega
  exact⟨bk3,ra4,((xk s own t n).qE).length,Iv,jE,zF,Qo,Ql,Qn,QQ,jF,pw,pq,pW,J,(N.xG 2 [1,0] xE),H.xG 6 9 [1,2,3,4,5,0] [0,1,2,3,4,5,8,6,7] xE xE⟩
theorem sTissueAfter_ok(w:World)(s:qJ)(own:yLI)(t:qV)(ds:List Qu)(qZ:zP w xN qM qL s.qA)(xM:zP w zN xm xh s.qB)(ee:zP w lY fu fa own)(zS:zP w vV xK xI t.qO)(vK:zP w jM zB zq t.qG)(zi:zP w zZ xC xy t.qF)(IP:zP w Gx uh tO ds)(p0:Giv s own (nSrv own))(p1:XH own (nSrv own))(p2:zA s t)(p3:ds.length<=400)(p4:∀k,k<ds.length->VT ds[k]!)(p5:Still s)(p6:Whole t):Calls Tryz.prog 13 #[.agg #[.int .i64 s.qQ,Sv qM s.qA.length qL,Sv xm s.qB.length xh],Sv fu own.length fa,.agg #[Sv xK t.qO.length xI,Sv zB t.qG.length zq,Sv xC t.qF.length xy],Sv uh ds.length tO] w (Ret (fun v w'=>∃(g6:yOA) (ig:Nat) (hP:Nat) (ik:List Value) (g5:yLN) (pf:yOA) (pE:Nat) (pR:Nat) (rf:List Value) (qz:yLN),v=.tuple #[.agg #[Sv g6 ig hP,Sv pf pE pR],.int .i64 ((x9 s own (xk s own t<|nSrv own) ds ds.length).2),.int .i64 0]/\Fresh w.heap.size [g5,qz]/\St w w' [rr g6 ig hP 49 16 ik,rr pf pE pR 77 4 rf] [qX true g5 ik (((x9 s own (xk s own t<|nSrv own) ds ds.length).1).qE),qX true qz rf (((x9 s own (xk s own t<|nSrv own) ds ds.length).1).vz)]) w):=by
 refine en Tryz.func13 Tryz.ntmps13 ?_
 have H:=(((((((St.start w).arg IP).arg zi).arg vK).arg zS).arg ee).arg xM).arg qZ
 have jP:=qN xM
 have QM:=qN zS
 have Xt:=qN vK
 have Qe:=qN zi
 clear qZ xM ee zS vK zi IP
 have N:=Fresh.nil w.heap.size
 have A:=H.ltN (L:=[xN,zN,lY,vV,jM,zZ,Gx])<|zR 0 7
 obtain⟨n,hn⟩:∃z,nSrv own=z:=⟨_,rfl⟩
 rw[hn] at p0 p1 ⊢
 have q1:=And.intro p0.sys p5
 have q2:=And.intro p2 p6
 have q3:∃n,XH own n:=⟨n,p1⟩
 have q4:own.length=s.qA.length:=p0.len
 refine zcr<|sw<|jb H [.int .i64 s.qQ,Sv qM s.qA.length qL,Sv xm s.qB.length xh] fun b1 w2 H=>sw<|jb H [Sv xK t.qO.length xI,Sv zB t.qG.length zq,Sv xC t.qF.length xy] fun b3 w4 H=>sw<|x8 H ti39 [Sv none 0 0,Sv none 0 0] fun b5 w6 H=>sp (.int .i64 0)<|sp (.int .i64 0)<|zjcc<|sq 2<|sw<|oq (l08Asked_ok _ s own t ds (qH (H.cells 2 J) 0 3) (H.get 0 J).1 (H.get 1 J).1 (H.get 2 J).1 (qH (H.cells 1 J) 0 3) (H.get 3 J).1 (H.get 4 J).1 (H.get 5 J).1 (H.get 6 J).1 qg qg qg qg qg qg) H fun w8 H=>sp (.int .i64 0)<|zjc<|sp (.int .i64 0)<|sp (Bv false)<|zjn<|cFr J<|xe<|t_n<|zcr<|sq 2 ?_
 have H1:St w w8 [.box b1 [.int .i64 s.qQ,Sv qM s.qA.length qL,Sv xm s.qB.length xh] 27,.box b3 [Sv xK t.qO.length xI,Sv zB t.qG.length zq,Sv xC t.qF.length xy] 31,.box b5 [Sv none 0 0,Sv none 0 0] 39] [sF false xN qM qL s.qA,sF false zN xm xh s.qB,sF false lY fu fa own,sF false vV xK xI t.qO,sF false jM zB zq t.qG,sF false zZ xC xy t.qF,sF false Gx uh tO ds]:=H.pick [2,1,0]<|zR 0 7
 have N1:Fresh _ []:=N
 have K1:Kept [] []:=Kept.nil _
 refine sw<|zT #[.pointer<|some ⟨b1,0,none⟩,Sv fu own.length fa,.pointer<|some ⟨b3,0,none⟩,Sv uh ds.length tO] J J call34 (play_spec s own qM qL xN xm xh zN fu fa lY t xK xI vV zB zq jM xC xy zZ ds uh tO Gx b1 b3 n H1 N1 K1 qg qg qg qg qg<|xU (A _<|List.mem_of_getElem? (i:=0) J)<|xU (A _<|List.mem_of_getElem? (i:=1) J)<|xU (A _<|List.mem_of_getElem? (i:=2) J)<|xU (A _<|List.mem_of_getElem? (i:=3) J)<|xU (A _<|List.mem_of_getElem? (i:=4) J)<|xU (A _<|List.mem_of_getElem? (i:=5) J)<|xU (A _<|List.mem_of_getElem? (i:=6) J) olds_none) ?_
 clear H H1 N1 K1
 rintro _ sr ⟨adb,nQ,acQ,FC,BV,sf,PV,aDn,kW,aq6,nV,asg,aJy,TR,rfl,N,H⟩
 obtain rfl:=H.xf (α:=zI) 3 rfl 7 rfl qj
 obtain rfl:=H.xf (α:=zC) 4 rfl 8 rfl qj
 obtain rfl:=H.yt 5 rfl
 refine sq 5<|zjc<|sp (.int .i64 0)<|zjcc<|sp (.int .i64 0)<|zjn<|xg<|vk ((fun Z0 Z1 Z2 Z3 Z4 Z5 Z6 Z7 Z8 Z9 dU eC fe fR gB=>fun m' ρ E3=>∃(xR:Env) (done:Int) (i:Nat),ρ=upd (upd (upd (upd (upd xR 8<|.pointer<|some ⟨b5,0,none⟩) 12<|.pointer<|some ⟨adb,0,none⟩) 13<|Sv asg ((X9 s own (xk s own t n) ds ds.length).length) TR) 14<|.int .i64 done) 15 (.int .i64 i)/\((i:Int)<=((X9 s own (xk s own t n) ds ds.length).length))/\(done=(x9 s own (xk s own t n) ds i).2)/\m'=(((X9 s own (xk s own t n) ds ds.length).length)-(i:Int)).toNat/\Fresh w.heap.size [sf,nV]/\St w E3 [Z0,Z1,Z2,Z3,Z4,Z5,Z6] [Z7,Z8,Z9,dU,eC,fe,fR,gB]) _ _ _ _ _ _ _ _ _ _ _ _ _ _ _) ((((X9 s own (xk s own t n) ds ds.length).length)-(0:Int)).toNat) ⟨_,0,0,uE5,qf,(by rfl),J,N,H.pick (zR 0 7) [0,1,2,3,4,5,7,8]⟩ ?_
 clear H N
 rintro m' ρ Rn ⟨xR,done,i,rfl,i0,i2,rfl,N,H⟩
 have rc:=run_cnt s own (xk s own t n) ds i
 have cl:(X9 s own (xk s own t n) ds ds.length).length=ds.length:=codes_len
 refine zcc<|sp (.int .i64 i)<|sq 1<|oN J<|sq 1<|zjn<|cD J (fun L8=>?_)<|fun L8=>?_
 ·refine xe (t_n<|xO<|xg<|zcr<|sq 1<|sp (.int .i64 i) ?_)
  obtain⟨Ey,rfl⟩:=H.jm 5 rfl qf
  refine oI J J<|oL J (H.Vx 5 J (iv:=i) (i:=i) qf qf)<|sp (Bv (((X9 s own (xk s own t n) ds ds.length)[i]! :Int) == 0))<|zjn<|cE J (fun Gp=>?_)<|fun Gp=>?_
  ·refine zf (sq 1<|sw<|zY done 1 J J qf (sq 1<|xX<|b_n<|t_n<|zf<|sp (.int .i64 i)<|sw<|zY i 1 J J qf<|sq 1<|xX<|xu (m':=(((X9 s own (xk s own t n) ds ds.length).length)-((i+1):Int)).toNat) qf ⟨_,_,i+1,uE5,?_,?_,J,N,H⟩))
   ·omega
   ·(rw[i2];exact run_yes<|by rw[←codes_get (k:=ds.length) qf];assumption)
  ·refine xe (b_n<|t_n<|zf<|sp (.int .i64 i)<|sw<|zY i 1 J J qf<|sq 1<|xX<|xu (m':=(((X9 s own (xk s own t n) ds ds.length).length)-((i+1):Int)).toNat) qf ⟨_,_,i+1,uE5,?_,?_,J,N,H⟩)
   ·omega
   ·exact i2.trans<|run_no<|by rw[←codes_get (k:=ds.length) qf];assumption
 ·refine zx4 (zcr<|sq 2<|oF J<|sw<|xW [Sv nQ (((x9 s own (xk s own t n) ds ds.length).1.qE).length) FC,Sv PV (((x9 s own (xk s own t n) ds ds.length).1.vz).length) kW] isAgg39 sizeOf39 J (qH (H.cells 2 J) 2 2)<|sq 1<|sw<|xZ H 6 [Sv nQ (((x9 s own (xk s own t n) ds ds.length).1.qE).length) FC,Sv PV (((x9 s own (xk s own t n) ds ds.length).1.vz).length) kW] sizeOf39 fun w31 H=>sq 1<|sp (.int .i64 0)<|zjr<|retC3 H 6 J (.int .i64 done) (.int .i64 0) J isAgg39 sizeOf39 J J J ⟨_,J,?_,H.base⟩)
  obtain rfl:i=ds.length:=by omega
  subst i2
  exact⟨nQ,((x9 s own (xk s own t n) ds ds.length).1.qE).length,FC,BV,sf,PV,((x9 s own (xk s own t n) ds ds.length).1.vz).length,kW,aq6,nV,J,N,H.pick [3,4] [6,7]⟩
end
section
def jY(l:List zI)(k:Nat):yLI:=(List.range k).map fun j=>l[j]!.qC.qK
theorem rounds_len{l:List zI}{k:Nat}:(jY l k).length=k:=by simp[jY]
theorem rounds_snoc{l:List zI}{k:Nat}:jY l k++[l[k]!.qC.qK]=jY l (k+1):=by simp[jY,List.range_succ]
theorem rounds_get{l:List zI}{k:Nat}(hj:j<k):(jY l k)[j]! =l[j]!.qC.qK:=by
 rw[getElem!_pos (jY l k) j<|by rw[rounds_len];exact hj];simp[jY]
end
end Go.Proofs.YtghikkinnchndaaGreat
