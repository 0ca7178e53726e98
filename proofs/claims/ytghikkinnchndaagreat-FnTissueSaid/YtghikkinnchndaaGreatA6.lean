/- Walks and laws, printed by program and by hand: what each function comes to, for all arguments, part 6. -/
import Derived.Test.YtghikkinnchndaaGreatA5
import Derived.Shelf.Bits.Mul64
namespace Go.Proofs.YtghikkinnchndaaGreat
open Go.Proofs.Tryz
set_option linter.unusedVariables false
set_option linter.unusedSimpArgs false
set_option maxRecDepth 100000
set_option maxHeartbeats 4000000
open Go.RowKit
open Go.Proofs.Tryz
open Go.Proofs.YtghikkinnchndaaGreat.Tot (tot)
open Go.Proofs.YtghikkinnchndaaGreat.Mark (dc mrk mkd mkd_mark cnt_mark)
variable{Ns:List yLN}{W0 w:World}{b c k m n:Nat}{l:List Qu}{ps:List Prv}{s:qJ}{t u:TypeId}{v:zO}{x y:Operand}{Γ:List Fact}
section
theorem sdo_ok(s:qJ)(own:yLI)(ap:yOA)(cp:Nat)(Fp:yLN)(ar:yOA)(cr:Nat)(Fr:yLN)(ao:yOA)(co:Nat)(Fo:yLN)(sb:Nat)(sv:List zI)(wi:List zC)(bk:Nat)(n:Nat)(dN:yOA)(dC:Nat)(bQ:Nat)(bB:List Value)(bq:yLN)(bS:yOA)(ix:Nat)(bo:Nat)(bu:List Value)(bg:yLN)(d:Qu)(H:St W0 w ((.box bk [pp sb 0,Sv ao own.length co,Sv dN dC bQ,Sv bS ix bo] 86)::(.box sb (yS s ap cp ar cr) 27)::(rr dN dC bQ 49 16 bB)::(rr bS ix bo 77 4 bu)::ps) ((sF false Fp ap cp s.qA)::(sF false Fr ar cr s.qB)::(sF false Fo ao co own)::(qX true bq bB sv)::(qX true bg bu wi)::Γ))(N:Fresh W0.heap.size (bq::bg::Ns))(K0:Kept Ns Γ)(p0:Giv s own n)(p1:Vo s own n (⟨sv,wi⟩:zO))(p2:VT d)(OL:∀f∈(sF false Fp ap cp s.qA::sF false Fr ar cr s.qB::sF false Fo ao co own::Γ),∀b∈f.F,b<W0.heap.size):Calls Tryz.prog 65 #[pp bk 0,.agg #[yI d.xQ,yI d.fA,yI d.fB]] w (fun e w'=>∃v,e=.returned v/\∃(qa:List Value) (pD:yLN) (rq:yOA) (pX:Nat) (pb:Nat) (pt:List Value) (pV:yLN),v=yI ((doM s own (⟨sv,wi⟩:zO) d).2)/\Fresh W0.heap.size (pD::pV::Ns)/\St W0 w' ((.box bk [pp sb 0,Sv ao own.length co,Sv dN dC bQ,Sv rq pX pb] 86)::(.box sb (yS s ap cp ar cr) 27)::(rr dN dC bQ 49 16 qa)::(rr rq pX pb 77 4 pt)::ps) ((sF false Fp ap cp s.qA)::(sF false Fr ar cr s.qB)::(sF false Fo ao co own)::(qX true pD qa ((doM s own (⟨sv,wi⟩:zO) d).1.qE))::(qX true pV pt ((doM s own (⟨sv,wi⟩:zO) d).1.vz))::Γ)):=by
 refine en func65 ntmps65 ?_
 have KE:=qN (H.get 2 J).1
 obtain rfl:=H.xf (α:=zI) 2 rfl 3 rfl qj
 obtain rfl:=H.xf (α:=zC) 3 rfl 4 rfl qj
 have g2:=p0.len
 have g4:=p0.few
 have l1:sv.length=n:=p1.len
 have l2:wi.length<=12:=p1.few
 have d1:=p2.1
 have d2:=p2.2.1
 have d3:=p2.2.2.1
 refine zcr<|sw<|jb H [yI d.xQ,yI d.fA,yI d.fB] fun b1 w2 H=>sp (yI 0)<|zjcc<|oF J<|oL J (H.cell 0 J J)<|zjn<|xg<|zcc<|sp (Bv ((d.xQ:Int) == 3))<|sp (Bv ((d.xQ:Int) == 3))<|zjn<|c_cut (fun ρ w3=>∃(xR:Env) (t8:Bool),ρ=upd (upd (upd (upd xR 0<|pp bk 0) 3<|pp b1 0) 7<|yI d.xQ) 8 (Bv t8)/\(t8=true<->(d.xQ=3\/d.xQ=4))/\Fresh W0.heap.size (bq::bg::Ns)/\St W0 w3 ((.box b1 [yI d.xQ,yI d.fA,yI d.fB] 44)::(.box bk [pp sb 0,Sv ao own.length co,Sv dN sv.length bQ,Sv bS wi.length bo] 86)::(.box sb (yS s ap cp ar cr) 27)::(rr dN sv.length bQ 49 16 bB)::(rr bS wi.length bo 77 4 bu)::ps) ((sF false Fp ap cp s.qA)::(sF false Fr ar cr s.qB)::(sF false Fo ao co own)::(qX true bq bB sv)::(qX true bg bu wi)::Γ)) ?_ ?_
 ·refine cE J (fun h4=>?_) (fun h4=>?_)
  ·refine xe (meet ⟨_,(d.xQ:Int) == 3,uE4,?_,N,H⟩)
   ·exact beq_iff_eq.trans ⟨fun h=>by omega,fun h=>by omega⟩
  refine zf<|sp (Bv ((d.xQ:Int) == 4))<|sp (Bv ((d.xQ:Int) == 4))<|xX<|meet ⟨_,(d.xQ:Int) == 4,uE4,?_,N,H⟩
  ·exact beq_iff_eq.trans ⟨fun h=>by omega,fun h=>by omega⟩
 clear H N
 rintro ρ w5 ⟨xR,t8,rfl,j8,N,H⟩
 refine t_n<|vP _ J (fun h6=>?_)<|fun h6=>?_
 ·(have k8:=j8.1 ql)
  refine zcr<|sq 1<|sw<|xW [yI d.xQ,yI d.fA,yI d.fB] isAgg44 sizeOf44 J (qH (H.cells 0 J) 0 3)<|sw<|vF #[pp bk 0,.agg #[yI d.xQ,yI d.fA,yI d.fB]] J J call106<|en func106 ntmps106 ?_
  refine zcr<|sw<|jb H [yI d.xQ,yI d.fA,yI d.fB] fun b7 w8 H=>sp (yI 0)<|zjn<|xO<|xO<|vW 1 J H [0,1,2,3,4,5] [0,1,2,3,4] fun H=>?_
  dsimp only[yu,yU]
  have S:=H.ve (zR 0 6)<|zR 0 5
  refine tF 0 J J S ?_
  refine tL 1 J J (fun _ h=>h.cell 0 J J) S ?_
  refine rtl 2 S ?_
  refine rtl 3 S ?_
  refine tF 4 J J S ?_
  refine tF 5 J J S ?_
  refine tL 6 J J (fun _ h=>h.cell 2 J J) S ?_
  refine tN 7 J J S ?_
  refine rtp 8 (Bv<|decide ((d.fA:Int)>=sv.length)) S ?_
  refine rtp 9 (Bv<|decide ((d.fA:Int)>=sv.length)) S ?_
  cases cK:(decide ((d.fA:Int)>=sv.length))
  ·replace cK:=of_decide_eq_false cK
   have S:=H.ve (zR 0 6)<|zR 0 5
   refine gF 10 J J S ?_
   refine gL 11 J J (fun _ h=>h.cell 0 J J) S ?_
   refine rgl 12 15 S ?_
   refine rgl 13 15 S ?_
   refine gF 14 J J S ?_
   refine gF 15 J J S ?_
   refine gL 16 J J (fun _ h=>h.cell 2 J J) S ?_
   refine gN 17 J J S ?_
   refine rgp 18 (Bv<|decide ((d.fB:Int)>=sv.length)) 15 S ?_
   refine rtp 19 (Bv<|decide ((d.fB:Int)>=sv.length)) S ?_
   refine rtp 20 (Bv<|decide ((d.fB:Int)>=sv.length)) S ?_
   cases cf:(decide ((d.fB:Int)>=sv.length))
   ·replace cf:=of_decide_eq_false cf
    have S:=H.ve (zR 0 6)<|zR 0 5
    refine gF 21 J J S ?_
    refine gL 22 J J (fun _ h=>h.cell 0 J J) S ?_
    refine gF 23 J J S ?_
    refine gL 24 J J (fun _ h=>h.cell 0 J J) S ?_
    refine rgl 25 26 S ?_
    refine xx qh<|zg<|sq 1<|zjn<|cE J (fun iz=>?_)<|fun iz=>?_
    ·refine zcr (sp (yI 2)<|zjr<|t_r<|ret1 (yI 2) J J ⟨_,J,?_⟩)
     replace H:=H.erases [0]
     dsimp only[zL,List.eraseIdx,List.set] at H
     refine sp (yI 2)<|zjr<|b_r<|t_r<|ret1 (yI 2) J J ⟨_,J,?_⟩
     rw[VY qf<|by(right;right;omega)]
     all_goals exact⟨bB,bq,bS,wi.length,bo,bu,bg,rfl,N,H.xG 5 5 (zR 1 4) (zR 0 5) xE xE⟩
    have y1:jk s own n d.fA.toNat sv[d.fA.toNat]!.qC/\jk s own n d.fA.toNat sv[d.fA.toNat]!.qR:=p1.srv d.fA.toNat qf
    refine xe<|t_n<|xO<|vW 2 J H [0,1,2,3,4,5] [0,1,2,3,4] fun H=>?_
    dsimp only[yu,yU]
    have S:=H.ve (zR 0 6)<|zR 0 5
    refine rtl 0 S ?_
    refine rtl 1 S ?_
    refine tF 2 J J S ?_
    refine tF 3 J J S ?_
    refine tL 4 J J (fun _ h=>h.cell 2 J J) S ?_
    refine tF 5 J J S ?_
    refine tL 6 J J (fun _ h=>h.cell 0 J J) S ?_
    refine xx qh<|zg ?_
    obtain⟨LI,rfl⟩:=H.jm 4 rfl qf
    refine oI J J<|sq 1<|zjcc<|oF J<|oL J (H.cell 0 J J)<|sp (Bv ((d.xQ:Int) == 3))<|zjn<|cE J (fun oA=>?_)<|fun oA=>?_
    ·refine zcc (sq 1<|oF J<|oL J (H.cell 0 J J)<|sw<|vF #[pp bk 0,yI d.fA] J J call105<|en func105 ntmps105 ?_)
     refine zcr<|sp (Bv false)<|zjc<|sq 2<|oF J<|oF J<|oL J (H.cell 2 J J)<|sq 1<|oI J J<|sq 1<|zjn<|xO<|vW 2 J H [0,1,2,3,4,5] [0,1,2,3,4] fun H=>?_
     dsimp only[yu,yU]
     have S:=H.ve (zR 0 6)<|zR 0 5
     refine rtl 0 S ?_
     refine rtl 1 S ?_
     refine tF 2 J J S ?_
     refine tF 3 J J S ?_
     obtain⟨akd,aqQ,aqI,aeg,ac9,adO,auc,auW,auY,adD,aek,adS,atA,atV,avr,aoU,ajJ,aro,Ko,H⟩:=H.jV Qk 4 rfl 3 rfl rfl d.fA.toNat qf
     have S:=H.ve (zR 0 6)<|zR 6 5
     refine rt 4 _ (jZ (off:=0+(d.fA:Int).toNat*16+8+0) isAgg2 J<|fun _ h=>(h.zD 4 J (Ko 0 _ J) qf)) S ?_
     refine rtl 5 S ?_
     refine rtl 6 S ?_
     refine tF 7 J J S ?_
     refine tF 8 J J S ?_
     obtain⟨agS,amd,asp,aee,aeP,adr,avm,avl,avI,abG,abj,aex,aun,aut,auK,ah5,alW,an9,anR,H⟩:=H.jV zV 4 rfl 9 rfl rfl d.fA.toNat qf
     have S:=H.ve (zR 0 6)<|zR 12 5
     refine rt 9 _ (jZ (off:=0+(d.fA:Int).toNat*16+0+0) isAgg2 J<|fun _ h=>(h.zD 4 J (anR 0 _ J) qf)) S ?_
     refine rtp 10 (Bv ((sv[d.fA.toNat]!.qR.qK:Int) == sv[d.fA.toNat]!.qC.qK)) S ?_
     refine rtp 11 (Bv ((sv[d.fA.toNat]!.qR.qK:Int) == sv[d.fA.toNat]!.qC.qK)) S ?_
     cases ua:((sv[d.fA.toNat]!.qR.qK:Int) == sv[d.fA.toNat]!.qC.qK)
     ·replace ua:=ne_of_beq_false ua
      refine vC (zR 12 5) 5 (H.pick (zR 0 6)<|zR 12 5)<|xx qh<|zg<|sp (Bv false)<|sp (Bv false)<|zjr<|ret1 (Bv false) J J ⟨_,J,(sp (Bv true)<|zjn<|cTr J<|zcr<|sp (yI 4)<|zjr<|t_r<|t_r<|ret1 (yI 4) J J ⟨_,J,?_⟩)⟩
      replace H:=H.erases [0]
      dsimp only[zL,List.eraseIdx,List.set] at H
      refine sp (yI 4)<|zjr<|b_r<|t_r<|ret1 (yI 4) J J ⟨_,J,?_⟩
      rw[doR_post4 qf ⟨⟨by omega,by omega⟩,⟨by omega,by omega⟩,by omega⟩<|by rintro⟨h1,h2⟩;contradiction]
      all_goals exact⟨bB,bq,bS,wi.length,bo,bu,bg,rfl,N,H.xG 5 17 (zR 1 4) (zR 12 5) xE xE⟩
     replace ua:=eq_of_beq ua
     have S:=H.ve (zR 0 6)<|zR 12 5
     refine rgl 12 24 S ?_
     refine rgl 13 24 S ?_
     refine gF 14 J J S ?_
     refine gF 15 J J S ?_
     refine rg 16 _ 24 (jZ (off:=0+(d.fA:Int).toNat*16+8+3) isAgg4 J<|fun _ h=>(h.zD 4 J (Ko 3 _ J) qf)) S ?_
     refine xx qh<|zg<|sq 2<|zjr<|ret1 (Bv sv[d.fA.toNat]!.qR.qY) J J ⟨_,J,(sq 1<|zjn<|vP _ J (fun CY=>?_)<|fun CY=>?_)⟩
     ·replace CY:=xF CY
      refine zcr<|sp (yI 4)<|zjr<|t_r<|t_r<|ret1 (yI 4) J J ⟨_,J,?_⟩
      replace H:=H.erases [0]
      dsimp only[zL,List.eraseIdx,List.set] at H
      refine sp (yI 4)<|zjr<|b_r<|t_r<|ret1 (yI 4) J J ⟨_,J,?_⟩
      rw[doR_post4 qf ⟨⟨by omega,by omega⟩,⟨by omega,by omega⟩,by omega⟩<|by rintro⟨h1,h2⟩;simp_all]
      all_goals exact⟨bB,bq,bS,wi.length,bo,bu,bg,rfl,N,H.xG 5 17 (zR 1 4) (zR 12 5) xE xE⟩
     replace CY:=xw CY
     have y2:=y1.2.nowIn p0 ql (j:=d.fB.toNat) qf
     have y4:=y2.2.1
     refine xe<|t_n<|xO<|vW 2 J H [0,1,2,3,4,5] [0,1,2,3,4,5,6,7,8,9,10,11,12,13,14,15,16] fun H=>?_
     dsimp only[yu,yU]
     have S:=H.ve (zR 0 6)<|zR 0 17
     refine rtl 0 S ?_
     refine rtl 1 S ?_
     refine rtl 2 S ?_
     refine tF 3 J J S ?_
     refine tF 4 J J S ?_
     refine rt 5 _ (jZ (off:=0+(d.fA:Int).toNat*16+8+0) isAgg2 J<|fun _ h=>(h.zD 4 J (Ko 0 _ J) qf)) S ?_
     refine tF 6 J J S ?_
     refine tL 7 J J (fun _ h=>h.cell 0 J J) S ?_
     refine tF 8 J J S ?_
     refine tL 9 J J (fun _ h=>h.cell 0 J J) S ?_
     refine rtl 10 S ?_
     refine rtl 11 S ?_
     refine tF 12 J J S ?_
     refine tF 13 J J S ?_
     refine rt 14 _ (jZ (off:=0+(d.fA:Int).toNat*16+8+6) isAgg45 J<|fun _ h=>(h.zD 4 J (Ko 6 _ J) qf)) S ?_
     refine tF 15 J J S ?_
     refine tL 16 J J (fun _ h=>h.cell 0 J J) S ?_
     obtain⟨Gd,o25,rfl⟩:=H.addr 10 rfl qf
     obtain⟨awM,aw8,aPs,H⟩:=H.yg 10 rfl d.fB d.fB.toNat qf qf qf
     refine tI 17 rfl rfl rfl (H.pick (zR 0 6)<|zR 2 17)<|ro 18 rfl<|zx (Sv awM (((sv[d.fA.toNat]!.qR.jH)[d.fB.toNat]!).length) aw8) isAgg29 rfl (H.zU 1 rfl 0 rfl)<|⟨H.pick (zR 0 6)<|zR 2 17,(ro 19 rfl<|oc (QN _ ((sv[d.fA.toNat]!.qR.jH)[d.fB.toNat]!) (H.get 0 rfl).1 qg) ?_)⟩
     rintro _ Iu ⟨e7,aa4,pO,aAl,dY,rfl,M,K⟩ _
     obtain⟨N,H⟩:=H.both K M N [17,18] 19 K0
     obtain rfl:=H.xf (α:=yLI) 0 rfl 0 rfl qj
     refine⟨H.pick (zR 1 6)<|zR 3 17,(ro 20 rfl<|vZ [yI sv[d.fA.toNat]!.qR.qK,yI d.fA,yI d.fB,Sv e7 (((sv[d.fA.toNat]!.qR.jH)[d.fB.toNat]!).length) pO] [(0,yI sv[d.fA.toNat]!.qR.qK),(1,yI d.fA),(2,yI d.fB),(3,Sv e7 (((sv[d.fA.toNat]!.qR.jH)[d.fB.toNat]!).length) pO)]<|⟨H.pick (zR 1 6)<|zR 3 17,(xx qh<|zg ?_)⟩)⟩
     refine sw<|vF #[pp bk 0,.agg #[yI sv[d.fA.toNat]!.qR.qK,yI d.fA,yI d.fB,Sv e7 (((sv[d.fA.toNat]!.qR.jH)[d.fB.toNat]!).length) pO]] J J call150<|en func150 ntmps150 ?_
     refine zcr<|sw<|jb H [yI sv[d.fA.toNat]!.qR.qK,yI d.fA,yI d.fB,Sv e7 (((sv[d.fA.toNat]!.qR.jH)[d.fB.toNat]!).length) pO] fun b34 KW H=>sp (yI 0)<|zjcc<|sq 2<|oF J<|oF J<|oL J (H.cell 4 J J)<|oN J<|sp (Bv ((wi.length:Int) == 12))<|zjn<|cE J (fun h36=>?_)<|fun h36=>?_
     ·refine zcr (sp (yI 3)<|zjr<|t_r<|ret1 (yI 3) J J ⟨_,J,?_⟩)
      replace H:=H.erases [0]
      dsimp only[zL,List.eraseIdx,List.set] at H
      refine sp (yI 3)<|zjr<|t_r<|ret1 (yI 3) J J ⟨_,J,?_⟩
      replace H:=H.erases [1,0]
      dsimp only[zL,List.eraseIdx,List.set] at H
      refine sp (yI 3)<|zjr<|b_r<|t_r<|ret1 (yI 3) J J ⟨_,J,?_⟩
      rw[doR_post3 qf ⟨⟨by omega,by omega⟩,⟨by omega,by omega⟩,by omega⟩ ⟨by assumption,by assumption⟩ qf]
      all_goals exact⟨bB,bq,bS,wi.length,bo,bu,bg,rfl,(N.xG 3 [1,2] xE),H.xG 5 20 (zR 1 4) (zR 15 5) xE xE⟩
     refine xe<|t_n<|xO<|vW 4 J H [0,2,3,4,5,6] [0,1,2,3,4,5,6,7,8,9,10,11,12,13,14,15,16,17,18,19] fun H=>?_
     dsimp only[yu,yU]
     have S:=H.ve (0::zR 2 5)<|zR 0 20
     refine rtl 0 S ?_
     refine rtl 1 S ?_
     refine rtl 2 S ?_
     refine tF 3 J J S ?_
     refine tF 4 J J S ?_
     refine tL 5 J J (fun _ h=>h.cell 3 J J) S ?_
     refine rt 6 _ (yP (cs:=[yI sv[d.fA.toNat]!.qR.qK,yI d.fA,yI d.fB,Sv e7 (((sv[d.fA.toNat]!.qR.jH)[d.fB.toNat]!).length) pO]) isAgg77 sizeOf77 J<|fun _ h=>qH (h.cells 0 J) 0 4) S ?_
     refine ro 7 J<|zH H underlying37 ti77 [yI sv[d.fA.toNat]!.qR.qK,yI d.fA,yI d.fB,Sv e7 (((sv[d.fA.toNat]!.qR.jH)[d.fB.toNat]!).length) pO] fun b38 O1 H=>⟨H.pick (1::zR 3 5)<|zR 0 20,(ro 8 J ?_)⟩
     have H0:=H
     obtain⟨G43,arG,adR,H⟩:=H.ji (α:=yLI) 2 rfl 0 rfl qj
     replace N:Fresh W0.heap.size (G43::bq::bg::Ns):=Fresh.ice N H0 2 arG.1 arG.2<|H0.awB [18,19] 20 K0
     clear H0
     dsimp only[List.set] at H
     refine zQ H 8 J 0 J underlying37 ti77 J qj J J J qw qp qf fun a40 c41 Ul H=>?_
     dsimp only[List.set] at H
     replace H:=H.snoc_ParcelD 20 J sv[d.fA.toNat]!.qR.qK d.fA d.fB 0 J
     replace N:=(N.Xr 3 [2,0,1]).join
     refine⟨H.pick (1::zR 3 5)<|zR 2 20,(xx qh<|zg<|sq 1<|oF J<|oF J<|sw<|zn H 5 [pp sb 0,Sv ao own.length co,Sv (aa LI 0) sv.length bQ,Sv a40 (wi.length+1) c41] sizeOf37 fun O7 H=>?_)⟩
     dsimp only[List.set] at H
     refine zjc<|sp (yI 0)<|zjr<|ret1 (yI 0) J J ⟨_,J,?_⟩
     replace H:=H.erases [2,1,0]
     dsimp only[zL,List.eraseIdx,List.set] at H
     refine sp (yI 0)<|zjr<|t_r<|ret1 (yI 0) J J ⟨_,J,?_⟩
     replace H:=H.erases [0]
     dsimp only[zL,List.eraseIdx,List.set] at H
     refine sp (yI 0)<|zjr<|b_r<|t_r<|ret1 (yI 0) J J ⟨_,J,?_⟩
     rw[sdoR_post0 qf ⟨⟨by omega,by omega⟩,⟨by omega,by omega⟩,by omega⟩ ⟨by assumption,by assumption⟩ qf]
     all_goals exact⟨bB,bq,a40,wi.length+1,c41,bu++[Value.int .i64 sv[d.fA.toNat]!.qR.qK,Value.int .i64 d.fA,Value.int .i64 d.fB,Value.slice e7 (((sv[d.fA.toNat]!.qR.jH)[d.fB.toNat]!).length) pO],(bg++G43),rfl,(N.xG 2 [1,0] xE),H.xG 5 22 (zR 1 4) [17,18,19,20,0] xE xE⟩
    refine xe<|t_n<|zcc<|sq 2<|oF J<|oF J ?_
    obtain⟨arr,alO,amk,acS,acm,adM,avx,avG,au3,acG,acB,abv,avb,auh,auA,apl,ar3,aim,Ct,H⟩:=H.jV zV 4 rfl 3 rfl rfl d.fA.toNat qf
    refine oL J (H.zD 4 J (Ct 0 _ J) qf)<|sp (Bv ((sv[d.fA.toNat]!.qC.qK:Int) == 0))<|zjn<|cE J (fun h49=>?_)<|fun h49=>?_
    ·refine zcr (sp (yI 4)<|zjr<|t_r<|ret1 (yI 4) J J ⟨_,J,?_⟩)
     replace H:=H.erases [0]
     dsimp only[zL,List.eraseIdx,List.set] at H
     refine sp (yI 4)<|zjr<|b_r<|t_r<|ret1 (yI 4) J J ⟨_,J,?_⟩
     rw[doR_back4 qf ⟨⟨by omega,by omega⟩,⟨by omega,by omega⟩,by omega⟩ ql]
     all_goals exact⟨bB,bq,bS,wi.length,bo,bu,bg,rfl,N,H.xG 5 11 (zR 1 4) (zR 6 5) xE xE⟩
    have y0:=y1.1.rnd
    have y2:=y1.1.lastIn p0 ql (j:=d.fB.toNat) qf
    have y4:=y2.2.1
    refine xe<|t_n<|xO<|vW 2 J H [0,1,2,3,4,5] [0,1,2,3,4,5,6,7,8,9,10] fun H=>?_
    dsimp only[yu,yU]
    have S:=H.ve (zR 0 6)<|zR 0 11
    refine rtl 0 S ?_
    refine rtl 1 S ?_
    refine rtl 2 S ?_
    refine tF 3 J J S ?_
    refine tF 4 J J S ?_
    refine rt 5 _ (jZ (off:=0+(d.fA:Int).toNat*16+0+0) isAgg2 J<|fun _ h=>(h.zD 4 J (Ct 0 _ J) qf)) S ?_
    refine rt 6 _ (y_sub sv[d.fA.toNat]!.qC.qK 1 J J qf) S ?_
    refine tF 7 J J S ?_
    refine tL 8 J J (fun _ h=>h.cell 0 J J) S ?_
    refine tF 9 J J S ?_
    refine tL 10 J J (fun _ h=>h.cell 0 J J) S ?_
    refine rtl 11 S ?_
    refine rtl 12 S ?_
    refine tF 13 J J S ?_
    refine tF 14 J J S ?_
    refine rt 15 _ (jZ (off:=0+(d.fA:Int).toNat*16+0+7) isAgg45 J<|fun _ h=>(h.zD 4 J (Ct 7 _ J) qf)) S ?_
    refine tF 16 J J S ?_
    refine tL 17 J J (fun _ h=>h.cell 0 J J) S ?_
    obtain⟨b51,o52,rfl⟩:=H.addr 5 rfl qf
    obtain⟨azL,azc,aOy,H⟩:=H.yg 5 rfl d.fB d.fB.toNat qf qf qf
    refine tI 18 rfl rfl rfl (H.pick (zR 0 6)<|zR 2 11)<|ro 19 rfl<|zx (Sv azL (((sv[d.fA.toNat]!.qC.zM)[d.fB.toNat]!).length) azc) isAgg29 rfl (H.zU 1 rfl 0 rfl)<|⟨H.pick (zR 0 6)<|zR 2 11,(ro 20 rfl<|oc (QN _ ((sv[d.fA.toNat]!.qC.zM)[d.fB.toNat]!) (H.get 0 rfl).1 qg) ?_)⟩
    rintro _ R7 ⟨BR,aBM,Bj,ahp,Ff,rfl,M,K⟩ _
    obtain⟨N,H⟩:=H.both K M N [11,12] 13 K0
    obtain rfl:=H.xf (α:=yLI) 0 rfl 0 rfl qj
    refine⟨H.pick (zR 1 6)<|zR 3 11,(ro 21 rfl<|vZ [yI ((sv[d.fA.toNat]!.qC.qK)-1),yI d.fA,yI d.fB,Sv BR (((sv[d.fA.toNat]!.qC.zM)[d.fB.toNat]!).length) Bj] [(0,yI ((sv[d.fA.toNat]!.qC.qK)-1)),(1,yI d.fA),(2,yI d.fB),(3,Sv BR (((sv[d.fA.toNat]!.qC.zM)[d.fB.toNat]!).length) Bj)]<|⟨H.pick (zR 1 6)<|zR 3 11,(xx qh<|zg ?_)⟩)⟩
    refine sw<|vF #[pp bk 0,.agg #[yI ((sv[d.fA.toNat]!.qC.qK)-1),yI d.fA,yI d.fB,Sv BR (((sv[d.fA.toNat]!.qC.zM)[d.fB.toNat]!).length) Bj]] J J call150<|en func150 ntmps150 ?_
    refine zcr<|sw<|jb H [yI ((sv[d.fA.toNat]!.qC.qK)-1),yI d.fA,yI d.fB,Sv BR (((sv[d.fA.toNat]!.qC.zM)[d.fB.toNat]!).length) Bj] fun b61 w62 H=>sp (yI 0)<|zjcc<|sq 2<|oF J<|oF J<|oL J (H.cell 4 J J)<|oN J<|sp (Bv ((wi.length:Int) == 12))<|zjn<|cE J (fun h63=>?_)<|fun h63=>?_
    ·refine zcr (sp (yI 3)<|zjr<|t_r<|ret1 (yI 3) J J ⟨_,J,?_⟩)
     replace H:=H.erases [0]
     dsimp only[zL,List.eraseIdx,List.set] at H
     refine sp (yI 3)<|zjr<|ret1 (yI 3) J J ⟨_,J,?_⟩
     replace H:=H.erases [1,0]
     dsimp only[zL,List.eraseIdx,List.set] at H
     refine sp (yI 3)<|zjr<|b_r<|t_r<|ret1 (yI 3) J J ⟨_,J,?_⟩
     rw[doR_back3 qf ⟨⟨by omega,by omega⟩,⟨by omega,by omega⟩,by omega⟩ ql qf]
     all_goals exact⟨bB,bq,bS,wi.length,bo,bu,bg,rfl,(N.xG 3 [1,2] xE),H.xG 5 14 (zR 1 4) (zR 9 5) xE xE⟩
    refine xe<|t_n<|xO<|vW 4 J H [0,2,3,4,5,6] [0,1,2,3,4,5,6,7,8,9,10,11,12,13] fun H=>?_
    dsimp only[yu,yU]
    have S:=H.ve (0::zR 2 5)<|zR 0 14
    refine rtl 0 S ?_
    refine rtl 1 S ?_
    refine rtl 2 S ?_
    refine tF 3 J J S ?_
    refine tF 4 J J S ?_
    refine tL 5 J J (fun _ h=>h.cell 3 J J) S ?_
    refine rt 6 _ (yP (cs:=[yI ((sv[d.fA.toNat]!.qC.qK)-1),yI d.fA,yI d.fB,Sv BR (((sv[d.fA.toNat]!.qC.zM)[d.fB.toNat]!).length) Bj]) isAgg77 sizeOf77 J<|fun _ h=>qH (h.cells 0 J) 0 4) S ?_
    refine ro 7 J<|zH H underlying37 ti77 [yI ((sv[d.fA.toNat]!.qC.qK)-1),yI d.fA,yI d.fB,Sv BR (((sv[d.fA.toNat]!.qC.zM)[d.fB.toNat]!).length) Bj] fun NC w66 H=>⟨H.pick (1::zR 3 5)<|zR 0 14,(ro 8 J ?_)⟩
    have H0:=H
    obtain⟨G70,Ur,aA5,H⟩:=H.ji (α:=yLI) 2 rfl 0 rfl qj
    replace N:Fresh W0.heap.size (G70::bq::bg::Ns):=Fresh.ice N H0 2 Ur.1 Ur.2<|H0.awB [12,13] 14 K0
    clear H0
    dsimp only[List.set] at H
    refine zQ H 8 J 0 J underlying37 ti77 J qj J J J qw qp qf fun W1 c68 w69 H=>?_
    dsimp only[List.set] at H
    replace H:=H.snoc_ParcelD 14 J ((sv[d.fA.toNat]!.qC.qK)-1) d.fA d.fB 0 J
    replace N:=(N.Xr 3 [2,0,1]).join
    refine⟨H.pick (1::zR 3 5)<|zR 2 14,(xx qh<|zg<|sq 1<|oF J<|oF J<|sw<|zn H 5 [pp sb 0,Sv ao own.length co,Sv (aa LI 0) sv.length bQ,Sv W1 (wi.length+1) c68] sizeOf37 fun w73 H=>?_)⟩
    dsimp only[List.set] at H
    refine zjc<|sp (yI 0)<|zjr<|ret1 (yI 0) J J ⟨_,J,?_⟩
    replace H:=H.erases [2,1,0]
    dsimp only[zL,List.eraseIdx,List.set] at H
    refine sp (yI 0)<|zjr<|ret1 (yI 0) J J ⟨_,J,?_⟩
    replace H:=H.erases [0]
    dsimp only[zL,List.eraseIdx,List.set] at H
    refine sp (yI 0)<|zjr<|b_r<|t_r<|ret1 (yI 0) J J ⟨_,J,?_⟩
    rw[doR_back0 qf ⟨⟨by omega,by omega⟩,⟨by omega,by omega⟩,by omega⟩ ql qf]
    all_goals exact⟨bB,bq,W1,wi.length+1,c68,bu++[Value.int .i64 ((sv[d.fA.toNat]!.qC.qK)-1),Value.int .i64 d.fA,Value.int .i64 d.fB,Value.slice BR (((sv[d.fA.toNat]!.qC.zM)[d.fB.toNat]!).length) Bj],(bg++G70),rfl,(N.xG 2 [1,0] xE),H.xG 5 16 (zR 1 4) [11,12,13,14,0] xE xE⟩
   replace cf:=of_decide_eq_true cf
   refine vC (zR 21 5) 5 (H.pick (zR 0 6)<|zR 0 5)<|xx qh<|zg<|sp (Bv true)<|zjn<|cTr J<|zcr<|sp (yI 2)<|zjr<|t_r<|ret1 (yI 2) J J ⟨_,J,?_⟩
   replace H:=H.erases [0]
   dsimp only[zL,List.eraseIdx,List.set] at H
   refine sp (yI 2)<|zjr<|b_r<|t_r<|ret1 (yI 2) J J ⟨_,J,?_⟩
   rw[VY qf<|by(right;left;show ¬(0<=d.fB/\d.fB<=(sv.length:Int)-1);omega)]
   all_goals exact⟨bB,bq,bS,wi.length,bo,bu,bg,rfl,N,H.xG 5 5 (zR 1 4) (zR 0 5) xE xE⟩
  replace cK:=of_decide_eq_true cK
  refine vC (zR 10 9) 9 (H.pick (zR 0 6)<|zR 0 5) ?_
  have S:=H.ve (zR 0 6)<|zR 0 5
  refine rtp 19 (Bv true) S ?_
  refine rtp 20 (Bv true) S ?_
  refine vC (zR 21 5) 5 (H.pick (zR 0 6)<|zR 0 5)<|xx qh<|zg<|sp (Bv true)<|zjn<|cTr J<|zcr<|sp (yI 2)<|zjr<|t_r<|ret1 (yI 2) J J ⟨_,J,?_⟩
  replace H:=H.erases [0]
  dsimp only[zL,List.eraseIdx,List.set] at H
  refine sp (yI 2)<|zjr<|b_r<|t_r<|ret1 (yI 2) J J ⟨_,J,?_⟩
  rw[VY qf<|by(left;show ¬(0<=d.fA/\d.fA<=(sv.length:Int)-1);omega)]
  all_goals exact⟨bB,bq,bS,wi.length,bo,bu,bg,rfl,N,H.xG 5 5 (zR 1 4) (zR 0 5) xE xE⟩
 (have k8:¬(d.xQ=3\/d.xQ=4):=fun z=>by have z:=j8.2 z;simp_all)
 refine zcc<|sp (Bv ((d.xQ:Int) == 6))<|sp (Bv ((d.xQ:Int) == 6))<|zjn<|c_cut (fun ρ w74=>∃(xR:Env) (t14:Bool),ρ=upd (upd (upd xR 0<|pp bk 0) 3<|pp b1 0) 14 (Bv t14)/\(t14=true<->(d.xQ=6\/d.xQ=7\/d.xQ=8))/\Fresh W0.heap.size (bq::bg::Ns)/\St W0 w74 ((.box b1 [yI d.xQ,yI d.fA,yI d.fB] 44)::(.box bk [pp sb 0,Sv ao own.length co,Sv dN sv.length bQ,Sv bS wi.length bo] 86)::(.box sb (yS s ap cp ar cr) 27)::(rr dN sv.length bQ 49 16 bB)::(rr bS wi.length bo 77 4 bu)::ps) ((sF false Fp ap cp s.qA)::(sF false Fr ar cr s.qB)::(sF false Fo ao co own)::(qX true bq bB sv)::(qX true bg bu wi)::Γ)) ?_ ?_
 ·refine cE J (fun h75=>?_) (fun h75=>?_)
  ·refine xe (meet ⟨_,(d.xQ:Int) == 6,uE3,?_,N,H⟩)
   ·exact beq_iff_eq.trans ⟨fun h=>by omega,fun h=>by omega⟩
  refine zcr<|sp (Bv ((d.xQ:Int) == 7))<|sp (Bv ((d.xQ:Int) == 7))<|zjn<|cE J (fun h76=>?_)<|fun h76=>?_
  ·refine xe (meet ⟨_,(d.xQ:Int) == 7,uE3,?_,N,H⟩)
   ·exact beq_iff_eq.trans ⟨fun h=>by omega,fun h=>by omega⟩
  refine zf<|sp (Bv ((d.xQ:Int) == 8))<|sp (Bv ((d.xQ:Int) == 8))<|xX<|meet ⟨_,(d.xQ:Int) == 8,uE3,?_,N,H⟩
  ·exact beq_iff_eq.trans ⟨fun h=>by omega,fun h=>by omega⟩
 clear H N
 rintro ρ w77 ⟨xR,t14,rfl,j14,N,H⟩
 refine t_n<|vP _ J (fun h78=>?_)<|fun h78=>?_
 ·(have k14:=j14.1 ql)
  refine zcr<|sq 1<|sw<|xW [yI d.xQ,yI d.fA,yI d.fB] isAgg44 sizeOf44 J (qH (H.cells 0 J) 0 3)<|sw<|vF #[pp bk 0,.agg #[yI d.xQ,yI d.fA,yI d.fB]] J J call107<|en func107 ntmps107 ?_
  refine zcr<|sw<|jb H [yI d.xQ,yI d.fA,yI d.fB] fun rz TO H=>sp (yI 0)<|zjn<|xO<|xO<|vW 1 J H [0,1,2,3,4,5] [0,1,2,3,4] fun H=>?_
  dsimp only[yu,yU]
  have S:=H.ve (zR 0 6)<|zR 0 5
  refine tF 0 J J S ?_
  refine tL 1 J J (fun _ h=>h.cell 0 J J) S ?_
  refine rtl 2 S ?_
  refine rtl 3 S ?_
  refine tF 4 J J S ?_
  refine tF 5 J J S ?_
  refine tL 6 J J (fun _ h=>h.cell 2 J J) S ?_
  refine tN 7 J J S ?_
  refine xx qh<|zg<|sq 1<|zjn<|cD J (fun h82=>?_)<|fun h82=>?_
  ·refine zcr (sp (yI 2)<|zjr<|t_r<|ret1 (yI 2) J J ⟨_,J,?_⟩)
   replace H:=H.erases [0]
   dsimp only[zL,List.eraseIdx,List.set] at H
   refine sp (yI 2)<|zjr<|b_r<|t_r<|ret1 (yI 2) J J ⟨_,J,?_⟩
   rw[VX qf qf]
   all_goals exact⟨bB,bq,bS,wi.length,bo,bu,bg,rfl,N,H.xG 5 5 (zR 1 4) (zR 0 5) xE xE⟩
  have y1:ParcelOk s own n (wi[d.fA.toNat]!):=p1.wire d.fA.toNat<|by show _<wi.length;omega
  have y2:=y1.1
  have y3:=y1.2.1
  have y5:jk s own n wi[d.fA.toNat]!.fTo.toNat (sv[wi[d.fA.toNat]!.fTo.toNat]!).qC:=(p1.srv _ qf).1
  refine xe<|t_n<|zcc<|oF J<|oL J (H.cell 0 J J)<|sp (Bv ((d.xQ:Int) != 8))<|zjn<|vP ((d.xQ:Int) != 8) J (fun zw=>?_)<|fun zw=>?_
  ·replace zw:=bne_iff_ne.1 zw
   refine xO<|vW 2 J H [0,1,2,3,4,5] [0,1,2,3,4] fun H=>?_
   dsimp only[yu,yU]
   have S:=H.ve (zR 0 6)<|zR 0 5
   refine rtl 0 S ?_
   refine rtl 1 S ?_
   refine rtl 2 S ?_
   refine tF 3 J J S ?_
   refine tF 4 J J S ?_
   refine tL 5 J J (fun _ h=>h.cell 2 J J) S ?_
   refine tF 6 J J S ?_
   refine tL 7 J J (fun _ h=>h.cell 0 J J) S ?_
   obtain⟨ky,rfl⟩:=H.jm 5 rfl qf
   refine tI 8 J J J (H.pick (zR 0 6)<|zR 0 5)<|xx qh<|zg<|sw<|vF #[pp bk 0,pp ky<|0+(d.fA:Int).toNat*4] J J call151<|en func151 ntmps151 ?_
   refine zcr<|sp (yI 0)<|zjn<|xO<|vW 3 J H [0,1,2,3,4,5] [0,1,2,3,4] fun H=>?_
   dsimp only[yu,yU]
   have S:=H.ve (zR 0 6)<|zR 0 5
   refine rtl 0 S ?_
   refine rtl 1 S ?_
   refine tF 2 J J S ?_
   refine tF 3 J J S ?_
   refine tL 4 J J (fun _ h=>h.cell 2 J J) S ?_
   refine rtl 5 S ?_
   refine rtl 6 S ?_
   refine tF 7 J J S ?_
   obtain⟨ar0,amT,akB,Uv,H⟩:=H.part_ParcelD QI.refl 5 rfl 4 rfl rfl d.fA.toNat qf
   refine rt 8 _ (jZ (off:=0+(d.fA:Int).toNat*4+2) isAgg2 J<|fun _ h=>(h.zD 5 J (Uv 2 _ J) qf)) (H.pick (zR 0 6)<|zR 1 5) ?_
   refine xx qh<|zg ?_
   obtain⟨Bd,rfl⟩:=H.jm 4 rfl qf
   refine oI J J<|oF J<|sq 1<|zjn<|xO<|xO<|c_cut (fun ρ ZH=>∃(xR:Env) (t46:Bool),ρ=upd (upd (upd xR 1<|pp ky<|0+(d.fA:Int).toNat*4) 5<|pp Bd<|0+(wi[d.fA.toNat]!.fTo:Int).toNat*16+0) 46 (Bv t46)/\(t46=true<->Stale sv wi[d.fA.toNat]!)/\Fresh W0.heap.size (bq::bg::Ns)/\St W0 ZH ((.box rz [yI d.xQ,yI d.fA,yI d.fB] 44)::(.box b1 [yI d.xQ,yI d.fA,yI d.fB] 44)::(.box bk [pp sb 0,Sv ao own.length co,Sv (aa Bd 0) sv.length bQ,Sv (aa ky 0) wi.length bo] 86)::(.box sb (yS s ap cp ar cr) 27)::(rr (aa Bd 0) sv.length bQ 49 16 bB)::(rr (aa ky 0) wi.length bo 77 4 bu)::ps) ((sF false Fp ap cp s.qA)::(sF false Fr ar cr s.qB)::(sF false Fo ao co own)::(qX true bq bB sv)::(qX true bg bu wi)::Γ)) ?_ ?_
   ·refine vW 1 J H [0,1,2,3,4,5] [0,1,2,3,4,5] fun H=>?_
    dsimp only[yu,yU]
    have S:=H.ve (zR 0 6)<|zR 0 6
    refine rtl 0 S ?_
    refine rtl 1 S ?_
    refine tF 2 J J S ?_
    obtain⟨asu,am1,aqr,acb,aeD,abe,avL,at3,atM,adW,abw,adk,avt,atS,atL,ah7,apB,ahD,Jt,H⟩:=H.jV zV 4 rfl 4 rfl rfl wi[d.fA.toNat]!.fTo.toNat qf
    have S:=H.ve (zR 0 6)<|zR 6 6
    refine rt 3 _ (jZ (off:=0+(wi[d.fA.toNat]!.fTo:Int).toNat*16+0+3) isAgg4 J<|fun _ h=>(h.zD 4 J (Jt 3 _ J) qf)) S ?_
    refine rtp 4 (Bv (!(((sv[wi[d.fA.toNat]!.fTo.toNat]!).qC).qY))) S ?_
    refine rtp 5 (Bv (!(((sv[wi[d.fA.toNat]!.fTo.toNat]!).qC).qY))) S ?_
    cases h94:(!(((sv[wi[d.fA.toNat]!.fTo.toNat]!).qC).qY))
    ·replace h94:=xw h94
     have y6:=y5.got ql
     have S:=H.ve (zR 0 6)<|zR 6 6
     refine rgl 6 24 S ?_
     refine rgl 7 24 S ?_
     refine gF 8 J J S ?_
     refine rg 9 _ 24 (jZ (off:=0+(wi[d.fA.toNat]!.fTo:Int).toNat*16+0+0) isAgg2 J<|fun _ h=>(h.zD 4 J (Jt 0 _ J) qf)) S ?_
     refine rgl 10 24 S ?_
     refine rgl 11 24 S ?_
     refine gF 12 J J S ?_
     refine rg 13 _ 24 (jZ (off:=0+(d.fA:Int).toNat*4+0) isAgg2 J<|fun _ h=>(h.zD 5 J (Uv 0 _ J) qf)) S ?_
     refine rgp 14 (Bv ((((sv[wi[d.fA.toNat]!.fTo.toNat]!).qC).qK:Int) != wi[d.fA.toNat]!.qK)) 24 S ?_
     refine rtp 15 (Bv ((((sv[wi[d.fA.toNat]!.fTo.toNat]!).qC).qK:Int) != wi[d.fA.toNat]!.qK)) S ?_
     refine rtp 16 (Bv ((((sv[wi[d.fA.toNat]!.fTo.toNat]!).qC).qK:Int) != wi[d.fA.toNat]!.qK)) S ?_
     cases Uo:((((sv[wi[d.fA.toNat]!.fTo.toNat]!).qC).qK:Int) != wi[d.fA.toNat]!.qK)
     ·replace Uo:=zo Uo
      have S:=H.ve (zR 0 6)<|zR 6 6
      refine rgl 17 35 S ?_
      refine rgl 18 35 S ?_
      refine gF 19 J J S ?_
      refine rg 20 _ 35 (jZ (off:=0+(wi[d.fA.toNat]!.fTo:Int).toNat*16+0+4) isAgg28 J<|fun _ h=>(h.zD 4 J (Jt 4 _ J) qf)) S ?_
      refine rgl 21 35 S ?_
      refine rgl 22 35 S ?_
      refine gF 23 J J S ?_
      refine rg 24 _ 35 (jZ (off:=0+(d.fA:Int).toNat*4+1) isAgg2 J<|fun _ h=>(h.zD 5 J (Uv 1 _ J) qf)) S ?_
      obtain⟨b96,o97,rfl⟩:=H.addr 2 rfl qf
      refine gI 25 rfl rfl rfl (H.pick (zR 0 6)<|zR 6 6)<|jw [26] qh qm<|Vu rfl (e:=35) rfl rfl (zx (Bv ((((sv[wi[d.fA.toNat]!.fTo.toNat]!).qC).jA)[wi[d.fA.toNat]!.Q9.toNat]!)) isAgg4 rfl (H.elemBool 2 rfl wi[d.fA.toNat]!.Q9 qf qf)<|⟨H.pick (zR 0 6)<|zR 6 6,(xx qh<|zg<|sq 1<|xX<|meet ⟨_,(((sv[wi[d.fA.toNat]!.fTo.toNat]!).qC).jA)[wi[d.fA.toNat]!.Q9.toNat]!,uE3,?_,N,H.xG 6 12 (zR 0 6) (zR 7 5) xE xE⟩)⟩) jy
      ·exact stale_g ql ql
     replace Uo:=bne_iff_ne.1 Uo
     refine vC (zR 17 10) 10 (H.pick (zR 0 6)<|zR 6 6)<|xx qh<|zg<|sp (Bv true)<|xX<|meet ⟨_,true,uE3,?_,N,H.xG 6 12 (zR 0 6) (zR 7 5) xE xE⟩
     ·exact stale_r ql
    replace h94:=xF h94
    refine vC (zR 6 9) 9 (H.pick (zR 0 6)<|zR 6 6) ?_
    have S:=H.ve (zR 0 6)<|zR 6 6
    refine rtp 15 (Bv true) S ?_
    refine rtp 16 (Bv true) S ?_
    refine vC (zR 17 10) 10 (H.pick (zR 0 6)<|zR 6 6)<|xx qh<|zg<|sp (Bv true)<|xX<|meet ⟨_,true,uE3,?_,N,H.xG 6 12 (zR 0 6) (zR 7 5) xE xE⟩
    ·exact stale_w ql
   clear H N
   rintro ρ w99 ⟨xR,t46,rfl,j46,N,H⟩
   refine t_n<|vP _ J (fun FX=>?_)<|fun FX=>?_
   ·have fs:=j46.1 ql
    refine zcr<|sp (yI 0)<|zjr<|t_r<|ret1 (yI 0) J J ⟨_,J,(sp (yI 0)<|zjc<|sp (yI 0)<|sp (Bv false)<|zjn<|cFr J<|xe<|t_n<|zcc<|oF J<|oL J (H.cell 0 J J)<|sp (Bv ((d.xQ:Int) != 7))<|zjn<|vP ((d.xQ:Int) != 7) J (fun sx=>?_)<|fun sx=>?_)⟩
    ·replace sx:=bne_iff_ne.1 sx
     refine xO ?_
     have asM:=H.rowCap 5 J
     obtain⟨Ge,GJ,aj7,H⟩:=H.cutRow 4 rfl d.fA.toNat qf
     refine vW 2 J H [0,1,2,3,4,5] [0,1,2,3,4,5,6] fun H=>?_
     dsimp only[yu,yU]
     have S:=H.ve (zR 0 6)<|zR 0 7
     refine rtl 1 S ?_
     refine rtl 2 S ?_
     refine tF 3 J J S ?_
     refine tF 4 J J S ?_
     refine tL 5 J J (fun _ h=>h.cell 2 J J) S ?_
     refine tF 6 J J S ?_
     refine tL 7 J J (fun _ h=>h.cell 0 J J) S ?_
     refine rt 8 _ (y_add d.fA 1 J J qf) S ?_
     refine rt 9 (Sv (aa ky<|if bo=(d.fA.toNat+1) then 0 else 0+(d.fA.toNat+1)*4) (wi.length-(d.fA.toNat+1))<|bo-(d.fA.toNat+1)) (fun _ _=>y_fromI (iv:=d.fA+1) (d.fA.toNat+1) underlying37 ti77 J J qf qf qf) S ?_
     refine ro 0 J<|jS H underlying37 ti77 fun azH aPz H=>⟨H.pick (zR 1 6)<|zR 0 7,(xx qh<|zg ?_)⟩
     replace H:=H.boxRow 0 J 4 0 J qj
     dsimp only[List.set] at H
     replace H:=H.yF (α:=zC)
     replace H:St _ _ ((rr (aa azH 0) 0 0 77 4 [])::(.box rz [yI d.xQ,yI d.fA,yI d.fB] 44)::(.box b1 [yI d.xQ,yI d.fA,yI d.fB] 44)::(.box bk [pp sb 0,Sv ao own.length co,Sv (aa Bd 0) sv.length bQ,Sv (aa ky 0) wi.length bo] 86)::(.box sb (yS s ap cp ar cr) 27)::(rr (aa Bd 0) sv.length bQ 49 16 bB)::(rr (aa ky 0) wi.length bo 77 4 bu)::ps) ((qX true [] [] ([]:List zC))::(qX true Ge (bu.take<|d.fA.toNat*4)<|wi.take d.fA.toNat)::(qX true GJ (bu.drop ((d.fA.toNat+1)*4))<|wi.drop<|d.fA.toNat+1)::(sF false Fp ap cp s.qA)::(sF false Fr ar cr s.qB)::(sF false Fo ao co own)::(qX true bq bB sv)::(qX true bg bu wi)::Γ):=H
     refine sw<|o_appendTl (α:=zC) H 0 J 6 J 2 J underlying37 ti77 J qj J J qf qf qp qf fun adx adj anQ H=>?_
     dsimp only[List.set] at H
     replace H:=H.repsCat true 0 J 2 J qm
     refine sq 1<|zjn<|vW 4 J H [0,1,2,3,4,5,6] [0,1,2,3,4,5,6,7,8] fun H=>?_
     dsimp only[yu,yU]
     have S:=H.ve (zR 0 7)<|zR 0 9
     refine rtl 0 S ?_
     refine rtl 2 S ?_
     refine rtl 3 S ?_
     refine tF 4 J J S ?_
     refine tF 5 J J S ?_
     refine tL 6 J J (fun _ h=>h.cell 3 J J) S ?_
     refine tF 7 J J S ?_
     refine tL 8 J J (fun _ h=>h.cell 1 J J) S ?_
     refine rt 9 (Sv (aa ky 0) d.fA.toNat bo) (fun _ _=>y_upI (iv:=d.fA) d.fA.toNat underlying37 ti77 J J qf qf) S ?_
     refine rtl 11 S ?_
     refine ro 1 J<|jS H underlying37 ti77 fun ayP Rc H=>⟨H.pick (zR 1 7)<|zR 0 9,(ro 10 J ?_)⟩
     replace H:=H.boxRow 0 J 4 0 J qj
     dsimp only[List.set] at H
     replace H:=H.yF (α:=zC)
     replace H:St _ _ ((rr (aa ayP 0) 0 0 77 4 [])::(rr adx (0+(wi.length-(d.fA.toNat+1))) adj 77 4 ([]++(bu.drop ((d.fA.toNat+1)*4))))::(.box rz [yI d.xQ,yI d.fA,yI d.fB] 44)::(.box b1 [yI d.xQ,yI d.fA,yI d.fB] 44)::(.box bk [pp sb 0,Sv ao own.length co,Sv (aa Bd 0) sv.length bQ,Sv (aa ky 0) wi.length bo] 86)::(.box sb (yS s ap cp ar cr) 27)::(rr (aa Bd 0) sv.length bQ 49 16 bB)::(rr (aa ky 0) wi.length bo 77 4 bu)::ps) ((qX true [] [] ([]:List zC))::(qX true ([]++GJ) ([]++(bu.drop ((d.fA.toNat+1)*4))) ([]++(wi.drop<|d.fA.toNat+1)))::(qX true [] [] ([]:List zC))::(qX true Ge (bu.take<|d.fA.toNat*4)<|wi.take d.fA.toNat)::(qX true GJ (bu.drop ((d.fA.toNat+1)*4))<|wi.drop<|d.fA.toNat+1)::(sF false Fp ap cp s.qA)::(sF false Fr ar cr s.qB)::(sF false Fo ao co own)::(qX true bq bB sv)::(qX true bg bu wi)::Γ):=H
     refine o_appendHd (α:=zC) H 0 J 7 J 3 J underlying37 ti77 J qj J J qf qp qf fun TV Tl ac0 H=>?_
     dsimp only[List.set] at H
     replace H:=H.repsCat true 0 J 3 J qm
     refine⟨H.pick (zR 1 7)<|zR 2 9,(ro 12 J<|o_appendAl (α:=zC) H 0 J 1 J 2 J underlying37 ti77 J qj J J qp qf fun am6 arK FQ H=>?_)⟩
     dsimp only[List.set] at H
     replace H:=H.repsCat true 0 J 2 J qm
     have ZB:(∀b∈(([]++Ge)++([]++GJ)),b∈bg)/\(bg.Nodup->(([]++Ge)++([]++GJ)).Nodup):=by simpa using aj7
     replace N:=Fresh.less (N.Xr 2 [1,0]) ZB.1 ZB.2
     rw[erase_cut (l:=wi) (i:=d.fA.toNat) qf] at H
     refine⟨H.pick (zR 1 7)<|zR 3 9,(xx qh<|zg<|sq 1<|oF J<|oF J<|sw<|zn H 4 [pp sb 0,Sv ao own.length co,Sv (aa Bd 0) sv.length bQ,Sv am6 ((0+d.fA.toNat)+(0+(wi.length-(d.fA.toNat+1)))) arK] sizeOf37 fun PG H=>?_)⟩
     dsimp only[List.set] at H
     refine zjc<|sp (yI 0)<|zjr<|ret1 (yI 0) J J ⟨_,J,?_⟩
     replace H:=H.erases [2,1]
     dsimp only[zL,List.eraseIdx,List.set] at H
     refine sp (yI 0)<|zjr<|b_r<|t_r<|ret1 (yI 0) J J ⟨_,J,?_⟩
     rw[doR_stale6 qf qf fs]
     all_goals exact⟨bB,bq,am6,(0+d.fA.toNat)+(0+(wi.length-(d.fA.toNat+1))),arK,([]++(bu.take<|d.fA.toNat*4))++([]++(bu.drop ((d.fA.toNat+1)*4))),(([]++Ge)++([]++GJ)),rfl,(N.xG 2 [1,0] xE),H.xG 6 12 [2,3,4,0] [7,8,9,10,0] xE xE⟩
    replace sx:=zo sx
    refine xe<|t_n<|zcr<|sp (yI 0)<|zjr<|ret1 (yI 0) J J ⟨_,J,?_⟩
    replace H:=H.erases [0]
    dsimp only[zL,List.eraseIdx,List.set] at H
    refine sp (yI 0)<|zjr<|b_r<|t_r<|ret1 (yI 0) J J ⟨_,J,?_⟩
    rw[doR_stale7 qf qf fs]
    all_goals exact⟨bB,bq,(aa ky 0),wi.length,bo,bu,bg,rfl,N,H.xG 5 5 (zR 1 4) (zR 0 5) xE xE⟩
   have fr:¬Stale sv (wi[d.fA.toNat]!):=fun z=>by have z:=j46.2 z;simp_all
   have y6:=y5.got<|fresh_of fr
   have y7:=y6.2.1
   obtain⟨y8,y9⟩:=plusPre p0.sys y6.2.2.1 y1.2.2.1
   have y10:=y6.2.2.1.len
   have y11:=y1.2.2.1.len
   refine xe<|t_n<|zcr<|sw<|jS H underlying29 ti24 fun GC az3 H=>sq 1<|zjcc<|sp (yI 0)<|zjn<|xg ?_
   replace H:=H.boxRow 0 J 1 0 J qj
   dsimp only[List.set] at H
   replace H:=H.yF (α:=yLI)
   refine vk ((fun Z0 Z1 Z2 Z3 Z4 Z5 Z6 Z7 Z8 Z9 dU=>fun m' ρ abL=>∃(xR:Env) (yq:yOA) (zj:Nat) (wT:Nat) (sum:yLL) (Dr:List Value) (EJ:yLN) (c:Nat),ρ=upd (upd (upd (upd xR 1<|pp ky<|0+(d.fA:Int).toNat*4) 5<|pp Bd<|0+(wi[d.fA.toNat]!.fTo:Int).toNat*16+0) 6<|Sv yq zj wT) 7 (yI c)/\sum=XP ((sv[wi[d.fA.toNat]!.fTo.toNat]!).qC).qU wi[d.fA.toNat]!.qG c/\((c:Int)<=wi[d.fA.toNat]!.qG.length)/\m'=((wi[d.fA.toNat]!.qG.length)-(c:Int)).toNat/\Fresh W0.heap.size (bq::bg::EJ::Ns)/\St W0 abL ((rr yq zj wT 24 1 Dr)::Z0::Z1::Z2::Z3::Z4::Z5::ps) ((qX true EJ Dr sum)::Z6::Z7::Z8::Z9::dU::Γ)) _ _ _ _ _ _ _ _ _ _ _) (((wi[d.fA.toNat]!.qG.length)-(0:Int)).toNat) ⟨_,(aa GC 0),0,0,([]:yLL),[],[],0,uE4,(by rfl),qf,J,(N.emp.xG 3 [1,2,0] xE),H⟩ ?_
   clear H N
   rintro m' ρ adL ⟨xR,yq,zj,wT,sum,Dr,EJ,c,rfl,rfl,i0,rfl,N,H⟩
   have aBs:=H.xf (α:=yLI) 0 J 0 J qj
   have al:=Yi ((sv[wi[d.fA.toNat]!.fTo.toNat]!).qC).qU wi[d.fA.toNat]!.qG c
   refine zcc<|sp (yI c)<|sq 2<|oF J ?_
   obtain⟨afm,agf,afq,Q2,H⟩:=H.part_ParcelD QI.refl 6 rfl 5 rfl rfl d.fA.toNat qf
   refine oL J (H.zD 6 J (Q2 3 _ J) qf)<|oN J<|sq 1<|zjn<|cD J (fun aa2=>?_)<|fun aa2=>?_
   ·obtain⟨u1,u2,u3⟩:=y9 c qf
    refine xe<|t_n<|xO<|xg ?_
    obtain⟨azw,aOe,rfl⟩:=H.addr 0 rfl qf
    refine c_lateC 2 (fun ρ PA=>∃(xR:Env) (Tb:Nat) (KX:yOA) (Kb:Nat),ρ=upd (upd (upd (upd (upd (upd xR 1<|pp ky<|0+(d.fA:Int).toNat*4) 5<|pp Bd<|0+(wi[d.fA.toNat]!.fTo:Int).toNat*16+0) 6<|Sv yq zj wT) 7<|yI c) 57<|Sv yq zj wT) 73 (Sv (aa Tb 0) 1 1)/\Fresh W0.heap.size (bq::bg::EJ::Ns)/\St W0 PA ((.box Tb [Sv KX ((vX ((((sv[wi[d.fA.toNat]!.fTo.toNat]!).qC).qU)[c]!) ((wi[d.fA.toNat]!.qG)[c]!) 1).length) Kb] 24)::(rr KX ((vX ((((sv[wi[d.fA.toNat]!.fTo.toNat]!).qC).qU)[c]!) ((wi[d.fA.toNat]!.qG)[c]!) 1).length) Kb 2 1 ((vX ((((sv[wi[d.fA.toNat]!.fTo.toNat]!).qC).qU)[c]!) ((wi[d.fA.toNat]!.qG)[c]!) 1).map<|Value.int .i64))::(rr yq zj wT 24 1 Dr)::(.box rz [yI d.xQ,yI d.fA,yI d.fB] 44)::(.box b1 [yI d.xQ,yI d.fA,yI d.fB] 44)::(.box bk [pp sb 0,Sv ao own.length co,Sv (aa Bd 0) sv.length bQ,Sv (aa ky 0) wi.length bo] 86)::(.box sb (yS s ap cp ar cr) 27)::(rr (aa Bd 0) sv.length bQ 49 16 bB)::(rr (aa ky 0) wi.length bo 77 4 bu)::ps) ((qX true EJ Dr<|XP ((sv[wi[d.fA.toNat]!.fTo.toNat]!).qC).qU wi[d.fA.toNat]!.qG c)::(sF false Fp ap cp s.qA)::(sF false Fr ar cr s.qB)::(sF false Fo ao co own)::(qX true bq bB sv)::(qX true bg bu wi)::Γ)) J H [0,1,2,3,4,5,6] [0,1,2,3,4,5,6] (fun H=>?_) ?_
    ·dsimp only[yu,yU]
     have S:=H.ve (zR 0 7)<|zR 0 7
     refine rtl 0 S ?_
     refine rtl 1 S ?_
     refine rtl 2 S ?_
     refine tF 3 J J S ?_
     obtain⟨agt,agz,afE,aaj,UL,ZQ,aoC,asz,arR,Wk,Yx,aae,arm,art,asw,afI,afW,afK,amS,H⟩:=H.jV zV 5 rfl 5 rfl rfl wi[d.fA.toNat]!.fTo.toNat qf
     have S:=H.ve (zR 0 7)<|zR 6 7
     refine rt 4 _ (jZ (off:=0+(wi[d.fA.toNat]!.fTo:Int).toNat*16+0+5) isAgg29 J<|fun _ h=>(h.zD 5 J (amS 5 _ J) qf)) S ?_
     refine rtp 5 (yI c) S ?_
     obtain⟨aOJ,aLX,rfl⟩:=H.addr 3 rfl qf
     obtain⟨ZM,aal,aD2,H⟩:=H.yg 3 rfl c c qf qf qf
     have S:=H.ve (zR 0 7)<|zR 8 7
     refine tI 6 J J J S ?_
     refine rtl 8 S ?_
     refine rtl 9 S ?_
     refine tF 10 J J S ?_
     refine rt 11 _ (jZ (off:=0+(d.fA:Int).toNat*4+3) isAgg29 J<|fun _ h=>(h.zD 6 J (Q2 3 _ J) qf)) S ?_
     refine rtp 12 (yI c) S ?_
     obtain⟨UI,Wy,aE9,H⟩:=H.yg 8 rfl c c qf qf qf
     refine tI 13 J J J (H.pick (zR 0 7)<|zR 10 7)<|jw [7,14] qh qm<|yl J ?_<|yl J ?_ jy
     ·refine zx (Sv ZM (((((sv[wi[d.fA.toNat]!.fTo.toNat]!).qC).qU)[c]!).length) aal) isAgg24 rfl (H.zU 3 rfl 0 rfl) (⟨H.pick (zR 0 7)<|zR 10 7,(ro 14 rfl<|zx (Sv UI (((wi[d.fA.toNat]!.qG)[c]!).length) Wy) isAgg24 rfl (H.zU 1 rfl 0 rfl)<|⟨H.pick (zR 0 7)<|zR 10 7,(ro 15 rfl ?_)⟩)⟩)
      refine oc (QV _ ((((sv[wi[d.fA.toNat]!.fTo.toNat]!).qC).qU)[c]!) ((wi[d.fA.toNat]!.qG)[c]!) 1 (H.get 2 J).1 (H.get 0 J).1 qg qg qg) ?_
      rintro aQl aNT axv aAH
      replace H:=H.zy aAH axv
      obtain⟨ajS,amH,rfl,aHI,aH2⟩:=H.jB 0 rfl
      refine⟨H.pick (zR 1 7)<|zR 10 7,(ro 16 J<|zH H underlying29 ti24 [Sv ajS ((vX ((((sv[wi[d.fA.toNat]!.fTo.toNat]!).qC).qU)[c]!) ((wi[d.fA.toNat]!.qG)[c]!) 1).length) amH] fun azr aCP H=>⟨H.pick (zR 2 7)<|zR 10 7,(xx qh ((meet ⟨_,azr,ajS,amH,uE6,N,H.xG 9 17 (zR 0 9) (zR 11 6) xE xE⟩)))⟩)⟩
     refine zx (Sv UI (((wi[d.fA.toNat]!.qG)[c]!).length) Wy) isAgg24 rfl (H.zU 1 rfl 0 rfl)<|⟨H.pick (zR 0 7)<|zR 10 7,(ro 7 rfl<|zx (Sv ZM (((((sv[wi[d.fA.toNat]!.fTo.toNat]!).qC).qU)[c]!).length) aal) isAgg24 rfl (H.zU 3 rfl 0 rfl)<|⟨H.pick (zR 0 7)<|zR 10 7,(ro 15 rfl ?_)⟩)⟩
     refine oc (QV _ ((((sv[wi[d.fA.toNat]!.fTo.toNat]!).qC).qU)[c]!) ((wi[d.fA.toNat]!.qG)[c]!) 1 (H.get 2 J).1 (H.get 0 J).1 qg qg qg) ?_
     rintro aDm RR adJ adT
     replace H:=H.zy adT adJ
     obtain⟨RU,R5,rfl,aic,al4⟩:=H.jB 0 rfl
     refine⟨H.pick (zR 1 7)<|zR 10 7,(ro 16 J<|zH H underlying29 ti24 [Sv RU ((vX ((((sv[wi[d.fA.toNat]!.fTo.toNat]!).qC).qU)[c]!) ((wi[d.fA.toNat]!.qG)[c]!) 1).length) R5] fun adC aDs H=>⟨H.pick (zR 2 7)<|zR 10 7,(xx qh ((meet ⟨_,adC,RU,R5,uE6,N,H.xG 9 17 (zR 0 9) (zR 11 6) xE xE⟩)))⟩)⟩
    clear H N
    rintro ρ ay7 ⟨xR,Tb,KX,Kb,rfl,N,H⟩
    obtain⟨ab9,N,W9,H⟩:=H.vJ 1 rfl N<|H.awB [4,5,0] 6 K0
    dsimp only[List.set] at H
    refine sw<|zQ H 2 J 0 J underlying29 ti24 J qj J J J qw qp qf fun al1 asC aeG H=>?_
    dsimp only[List.set] at H
    replace H:=H.QK 1 J 0 J
    replace N:=(N.Xr 4 [3,0,1,2]).join
    refine sq 1<|xX<|b_n<|t_n<|zf<|sp (yI c)<|sw<|zY c 1 J J qf<|sq 1<|xX<|xu (m':=((wi[d.fA.toNat]!.qG.length)-((c+1):Int)).toNat) qf ⟨_,_,_,_,_,_,_,c+1,uE4,?_,?_,J,(N.xG 3 [1,2,0] xE),H.xG 9 8 (zR 2 7) (0::zR 3 5) xE xE⟩
    ·exact addTabTo_snoc _ _ _
    ·omega
   have ec:c=((sv[wi[d.fA.toNat]!.fTo.toNat]!).qC).qU.length:=by omega
   refine zx4<|zcc<|sq 1 ?_
   obtain⟨aLB,Y0,aCq⟩:=H.Vd (α:=yLI) 0 rfl 1 rfl qj
   refine sw<|oq (VF (by rw[←Y0])<|l08Bags_ok _ (XP ((sv[wi[d.fA.toNat]!.fTo.toNat]!).qC).qU wi[d.fA.toNat]!.qG c)<|Y0▸aCq) H fun aNX H=>sq 1<|zjn<|cQ J (fun aB4=>?_)<|fun aB4=>?_
   ·refine zcr (sp (yI 3)<|zjr<|t_r<|ret1 (yI 3) J J ⟨_,J,?_⟩)
    replace H:=H.erases [0]
    dsimp only[zL,List.eraseIdx,List.set] at H
    refine sp (yI 3)<|zjc<|sp (yI 3)<|sp (Bv true)<|zjn<|cTr J<|zcr<|sp (yI 3)<|sp (yI 3)<|zjr<|t_r<|ret1 (yI 3) J J ⟨_,J,?_⟩
    replace H:=H.erases [0]
    dsimp only[zL,List.eraseIdx,List.set] at H
    refine sp (yI 3)<|zjr<|b_r<|t_r<|ret1 (yI 3) J J ⟨_,J,?_⟩
    rw[doR_come3 qf qf fr<|by rw[←sumC_eq ec];assumption]
    all_goals exact⟨bB,bq,(aa ky 0),wi.length,bo,bu,bg,rfl,(N.xG 3 [0,1] xE),H.xG 5 7 (zR 1 4) (zR 2 5) xE xE⟩
   refine xe<|t_n<|zcr<|sq 3<|oF J ?_
   have H0:=H
   obtain⟨aN3,ar4,aIq,H⟩:=H.ji (α:=yLI) 0 rfl 1 rfl qj
   replace N:=H0.iceB N 3 [2,0,1] 0 ar4 [5,6] 7 K0
   clear H0
   dsimp only[List.set] at H
   obtain⟨I0,Iw⟩:∃z,z=(sv.set wi[d.fA.toNat]!.fTo.toNat { sv[wi[d.fA.toNat]!.fTo.toNat]! with qC:={ sv[wi[d.fA.toNat]!.fTo.toNat]!.qC with qU:=(XP ((sv[wi[d.fA.toNat]!.fTo.toNat]!).qC).qU wi[d.fA.toNat]!.qG c)}}):=⟨_,rfl⟩
   refine sw<|Ve (v:=Sv yq zj wT) Vk H 5 J 6 J 0 J J sizeOf29 J J J wi[d.fA.toNat]!.fTo.toNat qf qf Iw fun arv Ak ax4 ajn H=>?_
   dsimp only[List.set] at H
   replace N:=(N.Xr 3 [1,0,2]).repl ajn
   obtain⟨u1,u2⟩:=come_len qf Iw y7
   refine zjn<|xO<|vW 2 J H [0,1,2,3,4,5,6] [0,1,2,3,4,5,6,7,8] fun H=>?_
   dsimp only[yu,yU]
   have S:=H.ve (zR 0 7)<|zR 0 9
   refine rtl 0 S ?_
   refine rtl 1 S ?_
   refine tF 2 J J S ?_
   obtain⟨af7,afC,agD,aaC,UM,UX,al5,ai1,arN,Yp,Wm,YQ,ahe,atg,aj3,aff,ags,agy,Zu,H⟩:=H.jV zV 5 rfl 0 rfl rfl wi[d.fA.toNat]!.fTo.toNat qf
   have S:=H.ve (zR 0 7)<|zR 6 9
   refine rt 3 _ (jZ (off:=0+(wi[d.fA.toNat]!.fTo:Int).toNat*16+0+4) isAgg28 J<|fun _ h=>(h.zD 5 J (Zu 4 _ J) qf)) S ?_
   refine rtl 4 S ?_
   refine rtl 5 S ?_
   refine tF 6 J J S ?_
   refine rt 7 _ (jZ (off:=0+(d.fA:Int).toNat*4+1) isAgg2 J<|fun _ h=>(h.zD 6 J (Q2 1 _ J) qf)) S ?_
   refine xx qh<|zg ?_
   obtain⟨aC3,aCj,rfl⟩:=H.addr 2 rfl qf
   refine oI J J ?_
   have N0:Fresh W0.heap.size (ax4::bg::Ns):=N
   obtain⟨aag,O6⟩:∃z,z=(I0.set wi[d.fA.toNat]!.fTo.toNat { I0[wi[d.fA.toNat]!.fTo.toNat]! with qC:={ I0[wi[d.fA.toNat]!.fTo.toNat]!.qC with jA:=(((I0[wi[d.fA.toNat]!.fTo.toNat]!).qC.jA).set wi[d.fA.toNat]!.Q9.toNat true)}}):=⟨_,rfl⟩
   refine sw<|o_pokeBool X5 H 6 J N0 ((sF false Fp ap cp s.qA)::(sF false Fr ar cr s.qB)::(sF false Fo ao co own)::(qX true bg bu wi)::Γ) (jf (kept 10 J<|X6 OL 0 J N0)<|jf (kept 11 J<|X6 OL 1 J N0)<|jf (kept 12 J<|X6 OL 2 J N0)<|jf (kept 14 J<|Xn N0 0 J)<|keeps_old 15 J OL 3 J N0) wi[d.fA.toNat]!.fTo.toNat qf J (Zu 4 _ J) wi[d.fA.toNat]!.Q9.toNat qf sizeOf4 J qf J O6 fun awD Lc N H=>zjc<|sp (yI 0)<|zjr<|ret1 (yI 0) J J ⟨_,J,?_⟩
   replace H:=H.erases [0]
   dsimp only[zL,List.eraseIdx,List.set] at H
   refine sp (yI 0)<|zjc<|sp (yI 0)<|sp (Bv false)<|zjn<|cFr J<|xe<|t_n<|zcc<|oF J<|oL J (H.cell 0 J J)<|sp (Bv ((d.xQ:Int) != 7))<|zjn<|vP ((d.xQ:Int) != 7) J (fun Gy=>?_)<|fun Gy=>?_
   ·replace Gy:=bne_iff_ne.1 Gy
    refine xO ?_
    have aER:=H.rowCap 5 J
    obtain⟨Ni,Cp,ahl,H⟩:=H.cutRow 4 rfl d.fA.toNat qf
    refine vW 2 J H [0,1,2,3,4,5] [0,1,2,3,4,5,6] fun H=>?_
    dsimp only[yu,yU]
    have S:=H.ve (zR 0 6)<|zR 0 7
    refine rtl 1 S ?_
    refine rtl 2 S ?_
    refine tF 3 J J S ?_
    refine tF 4 J J S ?_
    refine tL 5 J J (fun _ h=>h.cell 2 J J) S ?_
    refine tF 6 J J S ?_
    refine tL 7 J J (fun _ h=>h.cell 0 J J) S ?_
    refine rt 8 _ (y_add d.fA 1 J J qf) S ?_
    refine rt 9 (Sv (aa ky<|if bo=(d.fA.toNat+1) then 0 else 0+(d.fA.toNat+1)*4) (wi.length-(d.fA.toNat+1))<|bo-(d.fA.toNat+1)) (fun _ _=>y_fromI (iv:=d.fA+1) (d.fA.toNat+1) underlying37 ti77 J J qf qf qf) S ?_
    refine ro 0 J<|jS H underlying37 ti77 fun aw1 Ub H=>⟨H.pick (zR 1 6)<|zR 0 7,(xx qh<|zg ?_)⟩
    replace H:=H.boxRow 0 J 4 0 J qj
    dsimp only[List.set] at H
    replace H:=H.yF (α:=zC)
    replace H:St _ _ ((rr (aa aw1 0) 0 0 77 4 [])::(.box rz [yI d.xQ,yI d.fA,yI d.fB] 44)::(.box b1 [yI d.xQ,yI d.fA,yI d.fB] 44)::(.box bk [pp sb 0,Sv ao own.length co,Sv (aa Bd 0) sv.length bQ,Sv (aa ky 0) wi.length bo] 86)::(.box sb (yS s ap cp ar cr) 27)::(rr (aa Bd 0) sv.length bQ 49 16 Ak)::(rr (aa ky 0) wi.length bo 77 4 bu)::ps) ((qX true [] [] ([]:List zC))::(qX true Ni (bu.take<|d.fA.toNat*4)<|wi.take d.fA.toNat)::(qX true Cp (bu.drop ((d.fA.toNat+1)*4))<|wi.drop<|d.fA.toNat+1)::(qX true Lc Ak aag)::(sF false Fp ap cp s.qA)::(sF false Fr ar cr s.qB)::(sF false Fo ao co own)::(qX true bg bu wi)::Γ):=H
    refine sw<|o_appendTl (α:=zC) H 0 J 6 J 2 J underlying37 ti77 J qj J J qf qf qp qf fun aCF aAM aJ9 H=>?_
    dsimp only[List.set] at H
    replace H:=H.repsCat true 0 J 2 J qm
    refine sq 1<|zjn<|vW 4 J H [0,1,2,3,4,5,6] [0,1,2,3,4,5,6,7,8] fun H=>?_
    dsimp only[yu,yU]
    have S:=H.ve (zR 0 7)<|zR 0 9
    refine rtl 0 S ?_
    refine rtl 2 S ?_
    refine rtl 3 S ?_
    refine tF 4 J J S ?_
    refine tF 5 J J S ?_
    refine tL 6 J J (fun _ h=>h.cell 3 J J) S ?_
    refine tF 7 J J S ?_
    refine tL 8 J J (fun _ h=>h.cell 1 J J) S ?_
    refine rt 9 (Sv (aa ky 0) d.fA.toNat bo) (fun _ _=>y_upI (iv:=d.fA) d.fA.toNat underlying37 ti77 J J qf qf) S ?_
    refine rtl 11 S ?_
    refine ro 1 J<|jS H underlying37 ti77 fun Ex aM4 H=>⟨H.pick (zR 1 7)<|zR 0 9,(ro 10 J ?_)⟩
    replace H:=H.boxRow 0 J 4 0 J qj
    dsimp only[List.set] at H
    replace H:=H.yF (α:=zC)
    replace H:St _ _ ((rr (aa Ex 0) 0 0 77 4 [])::(rr aCF (0+(wi.length-(d.fA.toNat+1))) aAM 77 4 ([]++(bu.drop ((d.fA.toNat+1)*4))))::(.box rz [yI d.xQ,yI d.fA,yI d.fB] 44)::(.box b1 [yI d.xQ,yI d.fA,yI d.fB] 44)::(.box bk [pp sb 0,Sv ao own.length co,Sv (aa Bd 0) sv.length bQ,Sv (aa ky 0) wi.length bo] 86)::(.box sb (yS s ap cp ar cr) 27)::(rr (aa Bd 0) sv.length bQ 49 16 Ak)::(rr (aa ky 0) wi.length bo 77 4 bu)::ps) ((qX true [] [] ([]:List zC))::(qX true ([]++Cp) ([]++(bu.drop ((d.fA.toNat+1)*4))) ([]++(wi.drop<|d.fA.toNat+1)))::(qX true [] [] ([]:List zC))::(qX true Ni (bu.take<|d.fA.toNat*4)<|wi.take d.fA.toNat)::(qX true Cp (bu.drop ((d.fA.toNat+1)*4))<|wi.drop<|d.fA.toNat+1)::(qX true Lc Ak aag)::(sF false Fp ap cp s.qA)::(sF false Fr ar cr s.qB)::(sF false Fo ao co own)::(qX true bg bu wi)::Γ):=H
    refine o_appendHd (α:=zC) H 0 J 7 J 3 J underlying37 ti77 J qj J J qf qp qf fun aOp aO5 aih H=>?_
    dsimp only[List.set] at H
    replace H:=H.repsCat true 0 J 3 J qm
    refine⟨H.pick (zR 1 7)<|zR 2 9,(ro 12 J<|o_appendAl (α:=zC) H 0 J 1 J 2 J underlying37 ti77 J qj J J qp qf fun Te RZ aiu H=>?_)⟩
    dsimp only[List.set] at H
    replace H:=H.repsCat true 0 J 2 J qm
    have ZN:(∀b∈(([]++Ni)++([]++Cp)),b∈bg)/\(bg.Nodup->(([]++Ni)++([]++Cp)).Nodup):=by simpa using ahl
    replace N:=Fresh.less (N.Xr 2 [1,0]) ZN.1 ZN.2
    rw[erase_cut (l:=wi) (i:=d.fA.toNat) qf] at H
    refine⟨H.pick (zR 1 7)<|zR 3 9,(xx qh<|zg<|sq 1<|oF J<|oF J<|sw<|zn H 4 [pp sb 0,Sv ao own.length co,Sv (aa Bd 0) sv.length bQ,Sv Te ((0+d.fA.toNat)+(0+(wi.length-(d.fA.toNat+1)))) RZ] sizeOf37 fun aP1 H=>?_)⟩
    dsimp only[List.set] at H
    refine zjc<|sp (yI 0)<|zjr<|ret1 (yI 0) J J ⟨_,J,?_⟩
    replace H:=H.erases [2,1]
    dsimp only[zL,List.eraseIdx,List.set] at H
    refine sp (yI 0)<|zjr<|b_r<|t_r<|ret1 (yI 0) J J ⟨_,J,?_⟩
    rw[doR_come6 qf qf fr (by rw[←sumC_eq ec];assumption)<|sgot_sets ec qf Iw O6]
    all_goals exact⟨Ak,Lc,Te,(0+d.fA.toNat)+(0+(wi.length-(d.fA.toNat+1))),RZ,([]++(bu.take<|d.fA.toNat*4))++([]++(bu.drop ((d.fA.toNat+1)*4))),(([]++Ni)++([]++Cp)),rfl,(N.xG 2 [1,0] xE),H.xG 6 12 [2,3,4,0] [8,9,10,7,0] xE xE⟩
   replace Gy:=zo Gy
   refine xe<|t_n<|zcr<|sp (yI 0)<|zjr<|ret1 (yI 0) J J ⟨_,J,?_⟩
   replace H:=H.erases [0]
   dsimp only[zL,List.eraseIdx,List.set] at H
   refine sp (yI 0)<|zjr<|b_r<|t_r<|ret1 (yI 0) J J ⟨_,J,?_⟩
   rw[doR_come7 qf qf fr (by rw[←sumC_eq ec];assumption)<|sgot_sets ec qf Iw O6]
   all_goals exact⟨Ak,Lc,(aa ky 0),wi.length,bo,bu,bg,rfl,N,H.xG 5 5 (zR 1 4) [1,2,3,0,4] xE xE⟩
  replace zw:=zo zw
  refine xe<|t_n<|zcc<|oF J<|oL J (H.cell 0 J J)<|sp (Bv ((d.xQ:Int) != 7))<|zjn<|vP ((d.xQ:Int) != 7) J (fun M1=>?_)<|fun M1=>?_
  ·replace M1:=bne_iff_ne.1 M1
   refine xO ?_
   obtain⟨La,rfl⟩:=H.jm 5 rfl qf
   have ai4:=H.rowCap 5 J
   obtain⟨Py,rS,ajl,H⟩:=H.cutRow 4 rfl d.fA.toNat qf
   refine vW 2 J H [0,1,2,3,4,5] [0,1,2,3,4,5,6] fun H=>?_
   dsimp only[yu,yU]
   have S:=H.ve (zR 0 6)<|zR 0 7
   refine rtl 1 S ?_
   refine rtl 2 S ?_
   refine tF 3 J J S ?_
   refine tF 4 J J S ?_
   refine tL 5 J J (fun _ h=>h.cell 2 J J) S ?_
   refine tF 6 J J S ?_
   refine tL 7 J J (fun _ h=>h.cell 0 J J) S ?_
   refine rt 8 _ (y_add d.fA 1 J J qf) S ?_
   refine rt 9 (Sv (aa La<|if bo=(d.fA.toNat+1) then 0 else 0+(d.fA.toNat+1)*4) (wi.length-(d.fA.toNat+1))<|bo-(d.fA.toNat+1)) (fun _ _=>y_fromI (iv:=d.fA+1) (d.fA.toNat+1) underlying37 ti77 J J qf qf qf) S ?_
   refine ro 0 J<|jS H underlying37 ti77 fun ad9 aAT H=>⟨H.pick (zR 1 6)<|zR 0 7,(xx qh<|zg ?_)⟩
   replace H:=H.boxRow 0 J 4 0 J qj
   dsimp only[List.set] at H
   replace H:=H.yF (α:=zC)
   replace H:St _ _ ((rr (aa ad9 0) 0 0 77 4 [])::(.box rz [yI d.xQ,yI d.fA,yI d.fB] 44)::(.box b1 [yI d.xQ,yI d.fA,yI d.fB] 44)::(.box bk [pp sb 0,Sv ao own.length co,Sv dN sv.length bQ,Sv (aa La 0) wi.length bo] 86)::(.box sb (yS s ap cp ar cr) 27)::(rr dN sv.length bQ 49 16 bB)::(rr (aa La 0) wi.length bo 77 4 bu)::ps) ((qX true [] [] ([]:List zC))::(qX true Py (bu.take<|d.fA.toNat*4)<|wi.take d.fA.toNat)::(qX true rS (bu.drop ((d.fA.toNat+1)*4))<|wi.drop<|d.fA.toNat+1)::(sF false Fp ap cp s.qA)::(sF false Fr ar cr s.qB)::(sF false Fo ao co own)::(qX true bq bB sv)::(qX true bg bu wi)::Γ):=H
   refine sw<|o_appendTl (α:=zC) H 0 J 6 J 2 J underlying37 ti77 J qj J J qf qf qp qf fun R0 TM aLu H=>?_
   dsimp only[List.set] at H
   replace H:=H.repsCat true 0 J 2 J qm
   refine sq 1<|zjn<|vW 4 J H [0,1,2,3,4,5,6] [0,1,2,3,4,5,6,7,8] fun H=>?_
   dsimp only[yu,yU]
   have S:=H.ve (zR 0 7)<|zR 0 9
   refine rtl 0 S ?_
   refine rtl 2 S ?_
   refine rtl 3 S ?_
   refine tF 4 J J S ?_
   refine tF 5 J J S ?_
   refine tL 6 J J (fun _ h=>h.cell 3 J J) S ?_
   refine tF 7 J J S ?_
   refine tL 8 J J (fun _ h=>h.cell 1 J J) S ?_
   refine rt 9 (Sv (aa La 0) d.fA.toNat bo) (fun _ _=>y_upI (iv:=d.fA) d.fA.toNat underlying37 ti77 J J qf qf) S ?_
   refine rtl 11 S ?_
   refine ro 1 J<|jS H underlying37 ti77 fun DM ax3 H=>⟨H.pick (zR 1 7)<|zR 0 9,(ro 10 J ?_)⟩
   replace H:=H.boxRow 0 J 4 0 J qj
   dsimp only[List.set] at H
   replace H:=H.yF (α:=zC)
   replace H:St _ _ ((rr (aa DM 0) 0 0 77 4 [])::(rr R0 (0+(wi.length-(d.fA.toNat+1))) TM 77 4 ([]++(bu.drop ((d.fA.toNat+1)*4))))::(.box rz [yI d.xQ,yI d.fA,yI d.fB] 44)::(.box b1 [yI d.xQ,yI d.fA,yI d.fB] 44)::(.box bk [pp sb 0,Sv ao own.length co,Sv dN sv.length bQ,Sv (aa La 0) wi.length bo] 86)::(.box sb (yS s ap cp ar cr) 27)::(rr dN sv.length bQ 49 16 bB)::(rr (aa La 0) wi.length bo 77 4 bu)::ps) ((qX true [] [] ([]:List zC))::(qX true ([]++rS) ([]++(bu.drop ((d.fA.toNat+1)*4))) ([]++(wi.drop<|d.fA.toNat+1)))::(qX true [] [] ([]:List zC))::(qX true Py (bu.take<|d.fA.toNat*4)<|wi.take d.fA.toNat)::(qX true rS (bu.drop ((d.fA.toNat+1)*4))<|wi.drop<|d.fA.toNat+1)::(sF false Fp ap cp s.qA)::(sF false Fr ar cr s.qB)::(sF false Fo ao co own)::(qX true bq bB sv)::(qX true bg bu wi)::Γ):=H
   refine o_appendHd (α:=zC) H 0 J 7 J 3 J underlying37 ti77 J qj J J qf qp qf fun JF JD awg H=>?_
   dsimp only[List.set] at H
   replace H:=H.repsCat true 0 J 3 J qm
   refine⟨H.pick (zR 1 7)<|zR 2 9,(ro 12 J<|o_appendAl (α:=zC) H 0 J 1 J 2 J underlying37 ti77 J qj J J qp qf fun ag8 ahV asF H=>?_)⟩
   dsimp only[List.set] at H
   replace H:=H.repsCat true 0 J 2 J qm
   have YB:(∀b∈(([]++Py)++([]++rS)),b∈bg)/\(bg.Nodup->(([]++Py)++([]++rS)).Nodup):=by simpa using ajl
   replace N:=Fresh.less (N.Xr 2 [1,0]) YB.1 YB.2
   rw[erase_cut (l:=wi) (i:=d.fA.toNat) qf] at H
   refine⟨H.pick (zR 1 7)<|zR 3 9,(xx qh<|zg<|sq 1<|oF J<|oF J<|sw<|zn H 4 [pp sb 0,Sv ao own.length co,Sv dN sv.length bQ,Sv ag8 ((0+d.fA.toNat)+(0+(wi.length-(d.fA.toNat+1)))) ahV] sizeOf37 fun aNb H=>?_)⟩
   dsimp only[List.set] at H
   refine zjc<|sp (yI 0)<|zjr<|ret1 (yI 0) J J ⟨_,J,?_⟩
   replace H:=H.erases [2,1]
   dsimp only[zL,List.eraseIdx,List.set] at H
   refine sp (yI 0)<|zjr<|b_r<|t_r<|ret1 (yI 0) J J ⟨_,J,?_⟩
   rw[doR_drop qf qf]
   all_goals exact⟨bB,bq,ag8,(0+d.fA.toNat)+(0+(wi.length-(d.fA.toNat+1))),ahV,([]++(bu.take<|d.fA.toNat*4))++([]++(bu.drop ((d.fA.toNat+1)*4))),(([]++Py)++([]++rS)),rfl,(N.xG 2 [1,0] xE),H.xG 6 12 [2,3,4,0] [7,8,9,10,0] xE xE⟩
  replace M1:=zo M1
  refine xe<|t_n<|zcr<|sp (yI 0)<|zjr<|ret1 (yI 0) J J ⟨_,J,?_⟩
  replace H:=H.erases [0]
  dsimp only[zL,List.eraseIdx,List.set] at H
  refine sp (yI 0)<|zjr<|b_r<|t_r<|ret1 (yI 0) J J ⟨_,J,?_⟩
  (exfalso;omega)
  all_goals exact⟨bB,bq,bS,wi.length,bo,bu,bg,rfl,N,H.xG 5 5 (zR 1 4) (zR 0 5) xE xE⟩
 (have k14:¬(d.xQ=6\/d.xQ=7\/d.xQ=8):=fun z=>by have z:=j14.2 z;simp_all)
 refine xe<|b_n<|t_n<|xO<|xO<|vW 1 J H [0,1,2,3,4] [0,1,2,3,4] fun H=>?_
 dsimp only[yu,yU]
 have S:=H.ve (zR 0 5)<|zR 0 5
 refine tF 0 J J S ?_
 refine tL 1 J J (fun _ h=>h.cell 0 J J) S ?_
 refine rtl 2 S ?_
 refine rtl 3 S ?_
 refine tF 4 J J S ?_
 refine tF 5 J J S ?_
 refine tL 6 J J (fun _ h=>h.cell 1 J J) S ?_
 refine tN 7 J J S ?_
 refine xx qh<|zg<|sp (Bv<|decide ((d.fA:Int)>=sv.length))<|zjn<|cD J (fun aDw=>?_)<|fun aDw=>?_
 ·refine zcr (sp (yI 2)<|zjr<|t_r<|ret1 (yI 2) J J ⟨_,J,?_⟩)
  rw[VZ qf<|by show ¬(0<=d.fA/\d.fA<=(sv.length:Int)-1);omega]
  all_goals exact⟨bB,bq,bS,wi.length,bo,bu,bg,rfl,N,H.xG 5 5 (zR 1 4) (zR 0 5) xE xE⟩
 refine xe<|t_n<|xO<|vW 2 J H [0,1,2,3,4] [0,1,2,3,4] fun H=>?_
 dsimp only[yu,yU]
 have S:=H.ve (zR 0 5)<|zR 0 5
 refine rtl 0 S ?_
 refine rtl 1 S ?_
 refine tF 2 J J S ?_
 refine tF 3 J J S ?_
 refine tL 4 J J (fun _ h=>h.cell 1 J J) S ?_
 refine tF 5 J J S ?_
 refine tL 6 J J (fun _ h=>h.cell 0 J J) S ?_
 refine xx qh<|zg ?_
 obtain⟨aoA,rfl⟩:=H.jm 3 rfl qf
 refine oI J J<|sq 1<|zjcc<|oF J<|oL J (H.cell 0 J J)<|zjn<|xg<|zcr<|sp (Bv ((d.xQ:Int) == 1))<|sp (Bv ((d.xQ:Int) == 1))<|zjn<|cE J (fun az1=>?_)<|fun az1=>?_
 ·refine zcr (sq 1<|oF J<|oL J (H.cell 0 J J) ?_)
  have H1:=H.yD 5 5 [1,2,3,4,0] [0,1,2,3,4] xE xE
  have N1:Fresh _ (bq::bg::Ns):=N
  have K1:Kept (Ns) (Γ):=K0.behind 0 J
  refine sw<|zT #[pp bk 0,yI d.fA] J J call108 (swork_ok s own ap cp Fp ar cr Fr ao co Fo sb sv wi bk _ (aa aoA 0) sv.length bQ bB bq bS wi.length bo bu bg d.fA H1 N1 K1 qg qg qg<|xU (vw OL 0 J)<|xU (vw OL 1 J)<|xU (vw OL 2 J)<|VA OL 3 J) ?_
  clear H H1 N1 K1
  rintro _ ai7 ⟨ai5,al0,apP,aHS,as1,aoI,akw,rfl,N,H⟩
  obtain rfl:=H.xf (α:=zC) 3 rfl 4 rfl qj
  refine sq 1<|zjr<|b_r<|t_r<|ret1 (yI ((workM s own (⟨sv,wi⟩:zO) d.fA.toNat).2)) J J ⟨_,J,?_⟩
  rw[doR_work qf ⟨by omega,by omega⟩]
  all_goals exact⟨ai5,al0,apP,((workM s own (⟨sv,wi⟩:zO) d.fA.toNat).1.vz).length,as1,aoI,akw,rfl,N,H.xG 5 5 (zR 0 4) (zR 0 5) xE xE⟩
 refine zcr<|sp (Bv ((d.xQ:Int) == 5))<|sp (Bv ((d.xQ:Int) == 5))<|zjn<|cE J (fun aB1=>?_)<|fun aB1=>?_
 ·refine zcr (sq 1<|oF J<|oL J (H.cell 0 J J) ?_)
  have H1:=H.yD 5 5 [1,2,3,4,0] [0,1,2,3,4] xE xE
  have N1:Fresh _ (bq::bg::Ns):=N
  have K1:Kept (Ns) (Γ):=K0.behind 0 J
  refine sw<|zT #[pp bk 0,yI d.fA] J J call109 (sadv_ok s own ap cp Fp ar cr Fr ao co Fo sb sv wi bk _ (aa aoA 0) sv.length bQ bB bq bS wi.length bo bu bg d.fA H1 N1 K1 qg qg qg<|xU (vw OL 0 J)<|xU (vw OL 1 J)<|xU (vw OL 2 J)<|VA OL 3 J) ?_
  clear H H1 N1 K1
  rintro _ aed ⟨ao0,aqP,apg,aG3,ato,akp,ajx,rfl,N,H⟩
  obtain rfl:=H.xf (α:=zC) 3 rfl 4 rfl qj
  refine sq 1<|zjr<|b_r<|t_r<|ret1 (yI ((QR s (⟨sv,wi⟩:zO) d.fA.toNat).2)) J J ⟨_,J,?_⟩
  rw[doR_advance qf ⟨by omega,by omega⟩]
  all_goals exact⟨ao0,aqP,apg,((QR s (⟨sv,wi⟩:zO) d.fA.toNat).1.vz).length,ato,akp,ajx,rfl,N,H.xG 5 5 (zR 0 4) (zR 0 5) xE xE⟩
 refine zcr<|sp (Bv ((d.xQ:Int) == 2))<|sp (Bv ((d.xQ:Int) == 2))<|zjn<|cE J (fun ayY=>?_)<|fun ayY=>?_
 ·refine zf (sq 3<|oF J ?_)
  obtain⟨afB,aeX,agj,YZ,YE,WF,amm,akC,anC,aab,Zo,aaN,alu,aqw,ah8,ae2,agl,afF,amt,H⟩:=H.jV zV 3 rfl 3 rfl rfl d.fA.toNat qf
  have y1:jk s own n d.fA.toNat sv[d.fA.toNat]!.qC/\jk s own n d.fA.toNat sv[d.fA.toNat]!.qR:=p1.srv d.fA.toNat qf
  have y2:=y1.1.small p0
  refine sw<|oc (l08Copy_ok _ sv[d.fA.toNat]!.qC (fun r v hv=>H.zD (off:=0+(d.fA:Int).toNat*16+0+r) 3 J (amt r v hv) qf) (H.get 0 J).1 (H.get 1 J).1 (H.get 2 J).1 (H.get 3 J).1 (H.get 4 J).1 (H.get 5 J).1 qg) ?_
  rintro _ aBH ⟨nL,KJ,nG,AJ,Al,iD,DN,iF,Ml,aiU,OH,Dg,UQ,C4,UR,C2,OG,ajb,Oj,aiS,Pb,JU,af8,Kh,afr,KA,rfl,M,K⟩ _
  obtain⟨N,H⟩:=H.both K M N [9,10] 11 K0
  obtain rfl:=H.xf (α:=yLI) 0 rfl 0 rfl qj
  obtain rfl:=H.yt 1 rfl
  obtain rfl:=H.Vt 2 rfl
  obtain rfl:=H.xf (α:=yLI) 3 rfl 1 rfl qj
  obtain rfl:=H.xf (α:=yLL) 4 rfl 2 rfl qj
  obtain rfl:=H.xf (α:=yLL) 5 rfl 3 rfl qj
  refine sq 1<|oF J ?_
  have H0:=H
  obtain⟨aBv,Yz,aGN,H⟩:=H.ji (α:=yLI) 0 rfl 0 rfl qj
  replace N:Fresh W0.heap.size (aBv::C2::Pb::KA::bq::bg::Ns):=Fresh.ice N H0 0 Yz.1 Yz.2<|H0.awB [1,2,3,13,14] 15 K0
  clear H0
  dsimp only[List.set] at H
  obtain⟨Rg,N,aGh,H⟩:=H.vJ 1 rfl N<|H.awB [0,2,3,4,14,15] 16 K0
  dsimp only[List.set] at H
  obtain⟨aKf,N,aEv,H⟩:=H.freezeB 2 rfl N<|H.awB [0,1,3,4,5,15,16] 17 K0
  dsimp only[List.set] at H
  have H0:=H
  obtain⟨abN,amn,aG0,H⟩:=H.ji (α:=yLI) 3 rfl 4 rfl qj
  replace N:=H0.iceB N 8 [3,0,1,2,4,5,6,7] 3 amn [0,1,2,5,6,16,17] 18 K0
  clear H0
  dsimp only[List.set] at H
  have H0:=H
  obtain⟨apO,aob,aEE,H⟩:=H.ji (α:=yLL) 4 rfl 6 rfl qj
  replace N:=H0.iceB N 8 [4,0,1,2,3,5,6,7] 4 aob [0,1,2,3,7,17,18] 19 K0
  clear H0
  dsimp only[List.set] at H
  have H0:=H
  obtain⟨aJU,asL,aEo,H⟩:=H.ji (α:=yLL) 5 rfl 8 rfl qj
  replace N:=H0.iceB N 8 [5,0,1,2,3,4,6,7] 5 asL [0,1,2,3,4,18,19] 20 K0
  clear H0
  dsimp only[List.set] at H
  replace H:=H.mk_DeskD sv[d.fA.toNat]!.qC.qK 5 J 4 J sv[d.fA.toNat]!.qC.qY 3 J 2 J 1 J 0 J
  replace N:=(N.Xr 8 [5,4,3,2,1,0,6,7]).join.join.join.join.join
  obtain⟨aIa,X1⟩:∃z,z=(sv.set d.fA.toNat { sv[d.fA.toNat]! with qR:=(⟨sv[d.fA.toNat]!.qC.qK,sv[d.fA.toNat]!.qC.qG,sv[d.fA.toNat]!.qC.qF,sv[d.fA.toNat]!.qC.qY,sv[d.fA.toNat]!.qC.jA,sv[d.fA.toNat]!.qC.qU,sv[d.fA.toNat]!.qC.jH,sv[d.fA.toNat]!.qC.zM⟩:zG)}):=⟨_,rfl⟩
  refine sw<|Ve (v:=.agg #[yI sv[d.fA.toNat]!.qC.qK,Sv nL sv[d.fA.toNat]!.qC.qG.length nG,Sv iD sv[d.fA.toNat]!.qC.qF.length iF,Bv sv[d.fA.toNat]!.qC.qY,Sv Ml sv[d.fA.toNat]!.qC.jA.length OH,Sv Dg sv[d.fA.toNat]!.qC.qU.length C4,Sv OG sv[d.fA.toNat]!.qC.jH.length Oj,Sv JU sv[d.fA.toNat]!.qC.zM.length Kh]) Qk H 9 J 20 J 0 J J sizeOf47 J J J d.fA.toNat qf qf X1 fun aww apM Lp aqs H=>?_
  dsimp only[List.set] at H
  replace N:=(N.Xr 3 [1,0,2]).repl aqs
  refine xX<|b_n<|t_n<|zcr<|sp (yI 0)<|zjr<|ret1 (yI 0) J J ⟨_,J,?_⟩
  rw[doR_save qf ⟨by omega,by omega⟩ X1]
  all_goals exact⟨apM,Lp,bS,wi.length,bo,bu,bg,rfl,N,H.xG 11 23 (zR 7 4) [18,19,20,0,22] xE xE⟩
 refine zf<|sq 3<|oF J ?_
 obtain⟨afs,age,afu,WM,UV,WR,amj,ahC,ald,YL,aaL,Vi,akS,as2,ai2,afo,afY,agk,asc,H⟩:=H.jV Qk 3 rfl 3 rfl rfl d.fA.toNat qf
 have y1:jk s own n d.fA.toNat sv[d.fA.toNat]!.qC/\jk s own n d.fA.toNat sv[d.fA.toNat]!.qR:=p1.srv d.fA.toNat qf
 have y3:=y1.2.small p0
 refine sw<|oc (l08Copy_ok _ sv[d.fA.toNat]!.qR (fun r v hv=>H.zD (off:=0+(d.fA:Int).toNat*16+8+r) 3 J (asc r v hv) qf) (H.get 0 J).1 (H.get 1 J).1 (H.get 2 J).1 (H.get 3 J).1 (H.get 4 J).1 (H.get 5 J).1 qg) ?_
 rintro _ aOW ⟨JT,agx,Jr,agr,afb,D0,Zx,EN,Re,amK,P4,Df,ZJ,Dv,WU,Ds,No,ass,Mo,aoT,Ov,JV,ae1,Ls,ae4,Lt,rfl,M,K⟩ _
 obtain⟨N,H⟩:=H.both K M N [9,10] 11 K0
 obtain rfl:=H.xf (α:=yLI) 0 rfl 0 rfl qj
 obtain rfl:=H.yt 1 rfl
 obtain rfl:=H.Vt 2 rfl
 obtain rfl:=H.xf (α:=yLI) 3 rfl 1 rfl qj
 obtain rfl:=H.xf (α:=yLL) 4 rfl 2 rfl qj
 obtain rfl:=H.xf (α:=yLL) 5 rfl 3 rfl qj
 refine sq 1<|oF J ?_
 have H0:=H
 obtain⟨O4,UK,aFJ,H⟩:=H.ji (α:=yLI) 0 rfl 0 rfl qj
 replace N:Fresh W0.heap.size (O4::Ds::Ov::Lt::bq::bg::Ns):=Fresh.ice N H0 0 UK.1 UK.2<|H0.awB [1,2,3,13,14] 15 K0
 clear H0
 dsimp only[List.set] at H
 obtain⟨aNh,N,aEA,H⟩:=H.vJ 1 rfl N<|H.awB [0,2,3,4,14,15] 16 K0
 dsimp only[List.set] at H
 obtain⟨aPM,N,aE4,H⟩:=H.freezeB 2 rfl N<|H.awB [0,1,3,4,5,15,16] 17 K0
 dsimp only[List.set] at H
 have H0:=H
 obtain⟨aKF,ain,aGJ,H⟩:=H.ji (α:=yLI) 3 rfl 4 rfl qj
 replace N:=H0.iceB N 8 [3,0,1,2,4,5,6,7] 3 ain [0,1,2,5,6,16,17] 18 K0
 clear H0
 dsimp only[List.set] at H
 have H0:=H
 obtain⟨aJI,ahG,aD1,H⟩:=H.ji (α:=yLL) 4 rfl 6 rfl qj
 replace N:=H0.iceB N 8 [4,0,1,2,3,5,6,7] 4 ahG [0,1,2,3,7,17,18] 19 K0
 clear H0
 dsimp only[List.set] at H
 have H0:=H
 obtain⟨aOd,ahT,aIf,H⟩:=H.ji (α:=yLL) 5 rfl 8 rfl qj
 replace N:=H0.iceB N 8 [5,0,1,2,3,4,6,7] 5 ahT [0,1,2,3,4,18,19] 20 K0
 clear H0
 dsimp only[List.set] at H
 replace H:=H.mk_DeskD sv[d.fA.toNat]!.qR.qK 5 J 4 J sv[d.fA.toNat]!.qR.qY 3 J 2 J 1 J 0 J
 replace N:=(N.Xr 8 [5,4,3,2,1,0,6,7]).join.join.join.join.join
 obtain⟨aFs,Zb⟩:∃z,z=(sv.set d.fA.toNat { sv[d.fA.toNat]! with qC:=(⟨sv[d.fA.toNat]!.qR.qK,sv[d.fA.toNat]!.qR.qG,sv[d.fA.toNat]!.qR.qF,sv[d.fA.toNat]!.qR.qY,sv[d.fA.toNat]!.qR.jA,sv[d.fA.toNat]!.qR.qU,sv[d.fA.toNat]!.qR.jH,sv[d.fA.toNat]!.qR.zM⟩:zG)}):=⟨_,rfl⟩
 refine sw<|Ve (v:=.agg #[yI sv[d.fA.toNat]!.qR.qK,Sv JT sv[d.fA.toNat]!.qR.qG.length Jr,Sv D0 sv[d.fA.toNat]!.qR.qF.length EN,Bv sv[d.fA.toNat]!.qR.qY,Sv Re sv[d.fA.toNat]!.qR.jA.length P4,Sv Df sv[d.fA.toNat]!.qR.qU.length Dv,Sv No sv[d.fA.toNat]!.qR.jH.length Mo,Sv JV sv[d.fA.toNat]!.qR.zM.length Ls]) zV H 9 J 20 J 0 J J sizeOf47 J J J d.fA.toNat qf qf Zb fun aN0 aii aDN aqF H=>?_
 dsimp only[List.set] at H
 replace N:=(N.Xr 3 [1,0,2]).repl aqF
 refine xX<|b_n<|t_n<|zcr<|sp (yI 0)<|zjr<|ret1 (yI 0) J J ⟨_,J,?_⟩
 rw[doR_crash qf ⟨by omega,by omega⟩ Zb]
 all_goals exact⟨aii,aDN,bS,wi.length,bo,bu,bg,rfl,N,H.xG 11 23 (zR 7 4) [18,19,20,0,22] xE xE⟩
end
section
def maxTo(l:yLI):Nat->Int
 |0=>l[0]!
 |k+1=>max (maxTo l k)<|l[k]!
def maxL(l:yLI):Int:=maxTo l l.length
theorem maxTo_one(l:yLI):maxTo l 1=l[0]! :=by
 rw[maxTo,maxTo];omega
theorem maxTo_le{l:yLI}{b:Int}:∀k,k<=l.length->0<l.length->(∀j,j<l.length->l[j]! <=b)->maxTo l k<=b
 |0,_,h0,h=>h 0 h0
 |k+1,hk,h0,h=>by
  have h1:=maxTo_le k qf h0 h
  have h2:=h k qf
  rw[maxTo];omega
theorem le_maxTo{l:yLI}{j:Nat}:∀k,j<k->l[j]! <=maxTo l k
 |k+1,hj=>by
  rw[maxTo]
  by_cases e:j=k
  ·subst e;omega
  ·have:=le_maxTo (l:=l) k (show j<k by omega);omega
structure XH(own:yLI)(n:Nat):Prop where
 one:1<=n/\n<=4
 bds:OwnIn own n
 all:∀i:Int,0<=i->i<n->i∈own
theorem max_own{own:yLI}(h:XH own n):maxL own=(n:Int)-1:=by
 obtain⟨h0,h1⟩:=h.bds
 have h2:=h.one
 have a:=maxTo_le (b:=(n:Int)-1) own.length (Nat.le_refl _) h0 (fun j hj=>by have:=h1 j hj;omega)
 obtain⟨j,hj,e⟩:=List.getElem_of_mem<|h.all ((n:Int)-1) qf qf
 have b:=le_maxTo (l:=own) (j:=j) own.length hj
 rw[getElem!_pos own j hj,e] at b
 unfold maxL
 omega
theorem min_own{own:yLI}(h:XH own n):0<=minL own:=by
 obtain⟨h0,h1⟩:=h.bds
 have:=mt (minL_neg (l:=own) qf).1 (by
  intro x
  exact x fun k hk=>(h1 k hk).1)
 omega
def nSrv(own:yLI):Nat:=(maxL own+1).toNat
theorem nSrv_all{own:yLI}(h:XH own n):nSrv own=n:=by
 have:=max_own h
 have:=h.one
 unfold nSrv
 omega
theorem rep_at{α:Type}[qI α]{G:yLN}{a:yOA}{l:List α}(h:n=m)(k:qI.rep w G [Sv a n c] l):qI.rep w G [Sv a m c] l:=h▸k
theorem run_yes{own:yLI}(h:(doM s own (x9 s own v l k).1<|l[k]!).2=0):(x9 s own v l k).2+1=(x9 s own v l<|k+1).2:=by rw[x9,if_pos h]
theorem run_no{own:yLI}(h:(doM s own (x9 s own v l k).1<|l[k]!).2≠0):(x9 s own v l k).2=(x9 s own v l<|k+1).2:=by rw[x9,if_neg h,Int.add_zero]
theorem beginTo_len(s:qJ)(own:yLI)(t:qV)(k:Nat):(yZ s own t k).length=k:=by simp[yZ]
section
variable{s : qJ}{own : yLI}{t : qV}{i c : Nat}{B : yLL}{A : yLI}
def begB(s:qJ)(own:yLI)(t:qV)(i c:Nat):yLL:=(List.range<|xJ s).map fun j=>if j<c/\own[j]! =(i:Int) then t.qG[j]! else List.replicate (vG s) 0
theorem V9:(begB s own t i c).length=xJ s:=by simp[begB]
theorem begB_get{j:Nat}(hj:j<xJ s):(begB s own t i c)[j]! =if j<c/\own[j]! =(i:Int) then t.qG[j]! else List.replicate (vG s) 0:=by
 rw[getElem!_pos (begB s own t i c) j<|by rw[V9];exact hj];simp[begB]
theorem beg_zero:(jG s<|s.qA.length+1).take s.qA.length=begB s own t i 0:=by
 refine List.ext_getElem (by rw[V9,List.length_take,zeros_len];show min s.qA.length _=s.qA.length;omega) fun j h1 h2=>?_
 rw[V9] at h2
 have:=begB_get (s:=s) (own:=own) (t:=t) (i:=i) (c:=0) h2
 rw[if_neg qf,getElem!_pos _ _<|by rw[V9];exact h2] at this
 rw[this]
 simp[jG,vG]
theorem beg_yes(h:own[c]! =(i:Int))(hc:c<xJ s):(begB s own t i c).set c t.qG[c]! =begB s own t i (c+1):=by
 refine ext_get (by simp[V9]) fun j hj=>?_
 rw[List.length_set,V9] at hj
 rw[getset<|by rw[V9];exact hc,begB_get hj,begB_get hj]
 by_cases e:j=c
 ·subst e;rw[if_pos J,if_pos ⟨by omega,h⟩]
 ·rw[if_neg e]
  by_cases e2:j<c
  ·have:j<c+1:=by omega
   simp[e2,this]
  ·have:¬j<c+1:=by omega
   simp[e2,this]
theorem beg_no(h:own[c]! ≠(i:Int)):begB s own t i c=begB s own t i (c+1):=by
 refine ext_get (by simp[V9]) fun j hj=>?_
 rw[V9] at hj
 rw[begB_get hj,begB_get hj]
 by_cases e:j=c
 ·subst e;rw[if_neg qf,if_neg<|fun x=>h x.2]
 ·have:j<c+1<->j<c:=by omega
  simp[this]
theorem begin_snoc(hB:B=begB s own t i c)(hc:c=s.qA.length)(hA:A=if own[0]! =(i:Int) then t.qF else List.replicate (vG s) 0):
 yZ s own t i++[⟨⟨0,B,A,false,[],[],[],[]⟩,⟨0,B,A,false,[],[],[],[]⟩⟩]=yZ s own t (i+1):=by
 have e:(⟨0,B,A,false,[],[],[],[]⟩:zG)=Vs s own t i:=by
  rw[Vs,hB,hA]
  congr 1
  refine List.map_congr_left fun j hj=>?_
  have hj:j<s.qA.length:=List.mem_range.1 hj
  by_cases h:own[j]! =(i:Int)
  ·rw[if_pos ⟨by omega,h⟩,if_pos h]
  ·rw[if_neg<|fun x=>h x.2,if_neg h]
 rw[e]
 simp[yZ,List.range_succ]
theorem beg_sm(hs:jW s)(ht:zA s t)(hB:B=begB s own t i c)(hA:A.length<=1000000):SmD (⟨0,B,A,false,[],[],[],[]⟩:zG):=by
 have kl:=X8 hs
 have c1:=hs.1.2.1
 refine⟨⟨?_,fun k hk=>?_⟩,hA,by simp,Sm2.nil,Sm3.nil,Sm3.nil⟩
 ·show B.length<=1000000
  rw[hB,V9]
  have:xJ s=s.qA.length:=rfl
  omega
 ·have hk:k<B.length:=hk
  show B[k]!.length<=1000000
  rw[hB,V9] at hk
  have hl:k<s.qA.length:=hk
  rw[hB,begB_get hk]
  split
  ·have:=(ja (ht.2.2.2.2 k<|by rw[ht.2.1];exact hl).1).1
   omega
  ·rw[List.length_replicate];omega
end
theorem old_nil{B:Nat}{f:Fact}(h:f.F=[]):∀b∈f.F,b<B:=fun b hb=>by rw[h] at hb;cases hb
theorem jO.to{o:Nat}{cs JG :List Value}(h:jO w b o cs)(e:cs=JG):jO w b o JG :=e▸h
section
variable{s : qJ}{own : yLI}{t : qV}{n i c : Nat}{B : yLL}{A : yLI}
def srvTo(own:yLI):Nat->Int
 |0=>0
 |i+1=>max (srvTo own i)<|own[i]! +1
theorem srvTo_bd(h:XH own n):∀i,i<=own.length->0<=srvTo own i/\srvTo own i<=n/\∀j,j<i->own[j]! +1<=srvTo own i
 |0,_=>⟨Int.le_refl _,by simp only[srvTo];omega,fun j hj=>by omega⟩
 |i+1,hi=>by
  obtain⟨h1,h2,h3⟩:=srvTo_bd h i qf
  have h4:=h.bds.2 i qf
  rw[srvTo]
  refine⟨by omega,by omega,fun j hj=>?_⟩
  by_cases e:j=i
  ·subst e;omega
  ·have:=h3 j qf;omega
theorem srvTo_all(h:XH own n):srvTo own own.length=n:=by
 obtain⟨h1,h2,h3⟩:=srvTo_bd h own.length<|Nat.le_refl _
 have h4:=h.one
 obtain⟨j,hj,e⟩:=List.getElem_of_mem<|h.all ((n:Int)-1) qf qf
 have b:=h3 j hj
 rw[getElem!_pos own j hj,e] at b
 omega
def Qi(s:qJ)(own:yLI)(t:qV)(i c:Nat):yLL:=(List.range c).map fun j=>if own[j]! =(i:Int) then t.qG[j]! else List.replicate s.qQ.toNat 0
theorem begTo_len:(Qi s own t i c).length=c:=by simp[Qi]
theorem begTo_yes(h:own[c]! =(i:Int)):Qi s own t i c++[t.qG[c]!]=Qi s own t i (c+1):=by
 rw[Qi,Qi,List.range_succ,List.map_append,List.map_singleton,if_pos h]
theorem begTo_no(h:own[c]! ≠(i:Int)):Qi s own t i c++[List.replicate s.qQ.toNat 0]=Qi s own t i (c+1):=by
 rw[Qi,Qi,List.range_succ,List.map_append,List.map_singleton,if_neg h]
theorem begTo_B(hc:c=s.qA.length):Qi s own t i c=begB s own t i c:=by
 subst hc
 unfold Qi begB
 refine List.map_congr_left fun j hj=>?_
 have hj:j<s.qA.length:=List.mem_range.1 hj
 by_cases h:own[j]! =(i:Int)
 ·rw[if_pos h,if_pos ⟨hj,h⟩]
 ·rw[if_neg h,if_neg<|fun x=>h x.2];rfl
theorem sbegin_snoc(hc:c=s.qA.length)(hA:A=if own[0]! =(i:Int) then t.qF else List.replicate s.qQ.toNat 0):
 yZ s own t i++[⟨⟨0,Qi s own t i c,A,false,[],[],[],[]⟩,⟨0,Qi s own t i c,A,false,[],[],[],[]⟩⟩]=yZ s own t (i+1):=
 begin_snoc (begTo_B hc) hc hA
theorem sbeg_sm(hs:jW s)(ht:zA s t)(hc:c=s.qA.length)(hA:A.length<=1000000):SmD (⟨0,Qi s own t i c,A,false,[],[],[],[]⟩:zG):=beg_sm hs ht (begTo_B hc) hA
def DrawnD(n:Nat)(d:Qu):Prop:=VT d/\(d.xQ≠6->d.xQ≠7->d.xQ≠8->d.fA<n)
def kinds20:yLI:=[1,1,2,2,3,3,3,4,5,5,5,6,6,6,6,7,8,9,1,2]
theorem kinds20_in(j:Nat)(h:j<20):1<=kinds20[j]! /\kinds20[j]! <=9:=by
 have:∀j:Nat,j<20->1<=kinds20[j]! /\kinds20[j]! <=9:=by decide
 exact this j h
theorem emod_srv{x m:Int}(hm:1<=m):0<=x % m/\x % m<m:=⟨Int.emod_nonneg _ qf,Int.emod_lt_of_pos _ qf⟩
theorem emod_999{x:Int}(h:1<=n/\n<=4):0<=x % (n:Int)/\x % (n:Int)<=999:=by
 have:=emod_srv (x:=x) (m:=(n:Int)) qf
 omega
theorem drawnD_of{K a b:Int}(hk:1<=K/\K<=9)(ha:0<=a/\a<=999)(hb:0<=b/\b<=999)(h:K=3\/K=4\/b=0)(h2:K≠6->K≠7->K≠8->a<n):DrawnD n ⟨K,a,b⟩:=⟨⟨hk,ha,hb,h⟩,h2⟩
def Deeds(l:List Qu):Prop:=∀k,k<l.length->VT l[k]!
theorem Deeds.nil:Deeds []:=fun k hk=>by simp at hk
theorem Deeds.snoc{d:Qu}(h:Deeds l)(hd:VT d):Deeds (l++[d]):=fun k hk=>by
 rw[get_cat hk]
 split
 ·exact h k ql
 ·exact hd
end
end
section
theorem l08Servers_ok(w:World)(df:yLI){B1:yOA}{Cu:Nat}{UC:yLN}(CG:zP w UC B1 Cu df)(p0:∃n,XH df n):Calls Tryz.prog 101 #[Sv B1 df.length Cu] w (Ret (fun v w'=>v=yI (srvTo df df.length)) w):=by
 refine en func101 ntmps101 ?_
 have H:=(St.start w).arg CG
 have as9:=qN CG
 clear CG
 have N:=Fresh.nil w.heap.size
 obtain⟨m,p1⟩:=p0
 have p2:=p1.one
 refine zcr<|sp (yI 0)<|zjc<|sp (yI 0)<|zjcc<|sp (yI 0)<|zjn<|xg<|vk ((fun Z0=>fun m' ρ w1=>∃(xR:Env) (fq:Int) (i:Nat),ρ=upd (upd (upd xR 0<|Sv B1 df.length Cu) 3<|yI fq) 4 (yI i)/\fq=srvTo df i/\((i:Int)<=df.length)/\m'=(df.length-(i:Int)).toNat/\Fresh w.heap.size []/\St w w1 [] [Z0]) _) ((df.length-(0:Int)).toNat) ⟨_,0,0,uE3,(by rfl),qf,J,N,H⟩ ?_
 clear H N
 rintro m' ρ w2 ⟨xR,fq,i,rfl,rfl,i0,rfl,N,H⟩
 refine zcc<|sp (yI i)<|sq 1<|oN J<|sq 1<|zjn<|cD J (fun h3=>?_)<|fun h3=>?_
 ·have p4:=p1.bds.2 i qf
  refine xe<|t_n<|xO<|xg<|zf<|sq 2<|sp (yI i) ?_
  obtain⟨b4,o5,rfl⟩:=H.addr 0 rfl qf
  refine oI J J<|oL J (H.vM 0 J i qf)<|sw<|zY df[i]! 1 J J qf<|sw<|oq (l00Max_ok w2 (srvTo df i) (df[i]!+1)) H fun w8 H=>sq 1<|xX<|b_n<|t_n<|zf<|sp (yI i)<|sw<|zY i 1 J J qf<|sq 1<|xX<|xu (m':=(df.length-((i+1):Int)).toNat) qf ⟨_,_,i+1,uE3,?_,?_,J,N,H⟩
  ·rfl
  ·omega
 refine zx4<|zcr<|sq 2<|zjr<|rH1 (yI<|srvTo df i) H ?_
 rw[show i=df.length by omega]
theorem begin_spec(s:qJ)(own:yLI)(ap:yOA)(cp:Nat)(Fp:yLN)(ar:yOA)(cr:Nat)(Fr:yLN)(ao:yOA)(co:Nat)(Fo:yLN)(t:qV)(tA:yOA)(cA:Nat)(FA:yLN)(tB:yOA)(cB:Nat)(FB:yLN)(tU:yOA)(cU:Nat)(FU:yLN)(sb:Nat)(tb:Nat)(n:Nat)(H:St W0 w ((.box sb (yS s ap cp ar cr) 27)::(.box tb (yT t tA cA tB cB tU cU) 31)::ps) ((sF false Fp ap cp s.qA)::(sF false Fr ar cr s.qB)::(sF false Fo ao co own)::(sF false FA tA cA t.qO)::(sF false FB tB cB t.qG)::(sF false FU tU cU t.qF)::Γ))(N:Fresh W0.heap.size (Ns))(K0:Kept Ns Γ)(p0:Giv s own n)(p1:XH own n)(p2:zA s t)(OL:∀f∈(sF false Fp ap cp s.qA::sF false Fr ar cr s.qB::sF false Fo ao co own::sF false FA tA cA t.qO::sF false FB tB cB t.qG::sF false FU tU cU t.qF::Γ),∀b∈f.F,b<W0.heap.size):Calls Tryz.prog 62 #[pp sb 0,Sv ao own.length co,pp tb 0] w (fun e w'=>∃v,e=.returned v/\∃(bk:Nat) (dN:yOA) (dC:Nat) (bQ:Nat) (bB:List Value) (bq:yLN) (bS:yOA) (ix:Nat) (bo:Nat) (bu:List Value) (bg:yLN),v=pp bk 0/\Fresh W0.heap.size (bq::bg::Ns)/\St W0 w' ((.box sb (yS s ap cp ar cr) 27)::(.box tb (yT t tA cA tB cB tU cU) 31)::(.box bk [pp sb 0,Sv ao own.length co,Sv dN dC bQ,Sv bS ix bo] 86)::(rr dN dC bQ 49 16 bB)::(rr bS ix bo 77 4 bu)::ps) ((sF false Fp ap cp s.qA)::(sF false Fr ar cr s.qB)::(sF false Fo ao co own)::(sF false FA tA cA t.qO)::(sF false FB tB cB t.qG)::(sF false FU tU cU t.qF)::(qX true bq bB ((xk s own t n).qE))::(qX true bg bu ((xk s own t n).vz))::Γ)):=by
 refine en func62 ntmps62 ?_
 have KE:=qN (H.get 2 J).1
 have e1:=srvTo_all p1
 have e2:=p1.one
 have e3:∃n,XH own n:=⟨n,p1⟩
 have e4:=p1.bds.1
 have p6:own.length=s.qA.length:=p0.len
 have p7:=p0.sys.1.2.1
 have p8:xJ s=s.qA.length:=rfl
 have p9:=p0.sys.1.1
 have p11:=p2.2.1
 have b3:=(ja p2.2.2.2.1).1
 refine zcr<|sq 1<|zjc<|sq 2<|sw<|vZ [pp sb 0,Sv ao own.length co,yN,yN] [(0,pp sb 0),(1,Sv ao own.length co)]<|sw<|jb H [pp sb 0,Sv ao own.length co,yN,yN] fun b1 w2 H=>sq 1<|zjcc<|sp (yI 0)<|zjn<|xg ?_
 replace H:=H.nilRow 49 16
 replace H:=H.yF (α:=zI)
 refine vk ((fun Z0 Z1 Z2 Z3 Z4 Z5 Z6 Z7=>fun m' ρ w3=>∃(xR:Env) (k:Nat) (fO:yOA) (VM:Nat) (fP:Nat) (bh:List zI) (jE:List Value) (zF:yLN),ρ=upd (upd (upd (upd (upd xR 0<|pp sb 0) 1<|Sv ao own.length co) 2<|pp tb 0) 7<|pp b1 0) 8 (yI k)/\bh=yZ s own t k/\((k:Int)<=(srvTo own own.length))/\m'=((srvTo own own.length)-(k:Int)).toNat/\Fresh W0.heap.size (zF::Ns)/\St W0 w3 ((rr fO VM fP 49 16 jE)::(.box b1 [pp sb 0,Sv ao own.length co,Sv fO VM fP,yN] 86)::Z0::Z1::ps) ((qX true zF jE bh)::Z2::Z3::Z4::Z5::Z6::Z7::Γ)) _ _ _ _ _ _ _ _) (((srvTo own own.length)-(0:Int)).toNat) ⟨_,0,none,0,0,([]:List zI),[],[],uE5,(by rfl),qf,J,N.emp,H⟩ ?_
 clear H N
 rintro m' ρ w4 ⟨xR,k,fO,VM,fP,bh,jE,zF,rfl,rfl,i0,rfl,N,H⟩
 have nA:=H.xf (α:=zI) 0 J 0 J qj
 have kl:=beginTo_len s own t k
 refine zcc<|sp (yI k)<|sq 1<|sw<|oq (l08Servers_ok _ own (H.get 3 J).1 qg) H fun w6 H=>sq 1<|zjn<|cD J (fun h8=>?_)<|fun h8=>?_
 ·refine xe (t_n<|xO<|xg<|zcr<|sq 2<|oF J<|oL J (H.cell 2 J J)<|sw<|jQ H underlying24 ti2 s.qQ.toNat J J qf qf qf fun b9 sr H=>sw<|vZ [yI 0,yN,Sv (aa b9 0) s.qQ.toNat s.qQ.toNat,Bv false,yN,yN,yN,yN] [(2,Sv (aa b9 0) s.qQ.toNat s.qQ.toNat)]<|sw<|x8 H ti47 [yI 0,yN,yN,Bv false,yN,yN,yN,yN] fun ue Lz H=>(sw<|xZ H 0 [yI 0,yN,Sv (aa b9 0) s.qQ.toNat s.qQ.toNat,Bv false,yN,yN,yN,yN] sizeOf47 fun D9 H=>?_))
  dsimp only[List.set] at H
  refine zjcc<|sp (yI 0)<|zjn<|xg ?_
  replace H:=H.nilRow 24 1
  replace H:=H.yF (α:=yLI)
  refine vk ((fun Z0 Z1 Z2 Z3 Z4 Z5 Z6 Z7 Z8 Z9 dU eC=>fun m' ρ TC=>∃(xR:Env) (c:Nat) (Yb:yOA) (Vq:Nat) (V8:Nat) (aB:yLL) (Xz:List Value) (Qq:yLN),ρ=upd (upd (upd (upd (upd (upd (upd xR 0<|pp sb 0) 1<|Sv ao own.length co) 2<|pp tb 0) 7<|pp b1 0) 8<|yI k) 9<|pp ue 0) 10 (yI c)/\aB=Qi s own t k c/\((c:Int)<=own.length)/\m'=(own.length-(c:Int)).toNat/\Fresh W0.heap.size (zF::Qq::Ns)/\St W0 TC ((rr Yb Vq V8 24 1 Xz)::(.box ue [yI 0,Sv Yb Vq V8,Sv (aa b9 0) s.qQ.toNat s.qQ.toNat,Bv false,yN,yN,yN,yN] 47)::Z0::Z1::Z2::Z3::Z4::ps) ((qX true Qq Xz aB)::Z5::Z6::Z7::Z8::Z9::dU::eC::Γ)) _ _ _ _ _ _ _ _ _ _ _ _) ((own.length-(0:Int)).toNat) ⟨_,0,none,0,0,([]:yLL),[],[],uE7,(by rfl),qf,J,(N.emp.xG 2 [1,0] xE),H⟩ ?_
  clear H N
  rintro m' ρ IR ⟨xR,c,Yb,Vq,V8,aB,Xz,Qq,rfl,rfl,i0,rfl,N,H⟩
  have rE:=H.xf (α:=yLI) 0 J 0 J qj
  have bl:(Qi s own t k c).length=c:=begTo_len
  refine zcc<|sp (yI c)<|sq 1<|oN J<|sq 1<|zjn<|cD J (fun EB=>?_)<|fun EB=>?_
  ·refine xe (t_n<|xO<|xg<|zcr<|sq 1<|sp (yI c) ?_)
   obtain⟨lF,o18,rfl⟩:=H.addr 4 rfl qf
   refine oI J J<|oL J (H.vM 4 J c qf)<|sp (yI k)<|sq 1<|zjn<|cE J (fun zr=>?_)<|fun zr=>?_
   ·refine vW 3 J H [0,1,2,3,4,5,6] [0,1,2,3,4,5,6,7] fun H=>?_
    dsimp only[yu,yU]
    have S:=H.ve (zR 0 7)<|zR 0 8
    refine tF 0 J J S ?_
    refine tL 1 J J (fun _ h=>h.cell 1 J J) S ?_
    refine rtl 2 S ?_
    refine rtl 3 S ?_
    refine tF 4 J J S ?_
    refine tL 5 J J (fun _ h=>h.cell 6 J J) S ?_
    refine rtp 6 (yI c) S ?_
    obtain⟨zz,o23,rfl⟩:=H.addr 6 rfl qf
    obtain⟨aya,aDq,aJh,H⟩:=H.yg 6 rfl c c qf qf qf
    refine tI 7 rfl rfl rfl (H.pick (zR 0 7)<|zR 2 8)<|ro 8 rfl<|zx (Sv aya t.qG[c]!.length aDq) isAgg24 rfl (H.zU 1 rfl 0 rfl)<|⟨H.pick (zR 0 7)<|zR 2 8,(ro 9 rfl ?_)⟩
    (have b2:=(ja (p2.2.2.2.2 c qf).1).1)
    refine oc (VV _ t.qG[c]! (H.get 0 J).1 qg) ?_
    rintro v31 Iu r31 x30
    replace H:=H.zy x30 r31
    obtain⟨a32,c33,rfl,aP2,aJZ⟩:=H.jB 0 rfl
    refine⟨H.pick (zR 1 7)<|zR 2 8,(ro 10 J<|zH H underlying29 ti24 [Sv a32 t.qG[c]!.length c33] fun zv w37 H=>⟨H.pick (zR 2 7)<|zR 2 8,(xx qh<|zg ?_)⟩)⟩
    obtain⟨G41,N,aNc,H⟩:=H.vJ 1 rfl N<|H.awB [3,2] 10 K0
    dsimp only[List.set] at H
    refine sw<|zQ H 2 J 0 J underlying29 ti24 J qj J J J qw qp qf fun a38 c39 w40 H=>?_
    dsimp only[List.set] at H
    replace H:=H.QK 3 J 0 J
    replace N:=(N.Xr 3 [2,0,1]).join
    refine oF J<|sw<|zn H 3 [yI 0,Sv a38 (Vq+1) c39,Sv (aa b9 0) s.qQ.toNat s.qQ.toNat,Bv false,yN,yN,yN,yN] sizeOf29 fun w43 H=>?_
    dsimp only[List.set] at H
    refine xX<|b_n<|t_n<|zf<|sp (yI c)<|sw<|zY c 1 J J qf<|sq 1<|xX<|xu (m':=(own.length-((c+1):Int)).toNat) qf ⟨_,c+1,_,_,_,_,_,_,uE7,?_,?_,J,(N.xG 2 [1,0] xE),H.xG 9 12 (zR 2 7) (0::zR 5 7) xE xE⟩
    ·exact begTo_yes ql
    ·omega
   refine vW 3 J H [0,1,2,3,4,5,6] [0,1,2,3,4,5,6,7] fun H=>?_
   dsimp only[yu,yU]
   have S:=H.ve (zR 0 7)<|zR 0 8
   refine tF 0 J J S ?_
   refine tL 1 J J (fun _ h=>h.cell 1 J J) S ?_
   refine rtl 2 S ?_
   refine rtl 3 S ?_
   refine tF 4 J J S ?_
   refine tL 5 J J (fun _ h=>h.cell 5 J J) S ?_
   refine ro 6 J<|jQ H underlying24 ti2 s.qQ.toNat J J qf qf qf fun b45 O7 H=>⟨H.pick (zR 1 7)<|zR 0 8,(ro 7 J<|zH H underlying29 ti24 [Sv (aa b45 0) s.qQ.toNat s.qQ.toNat] fun b47 w48 H=>⟨H.pick (zR 2 7)<|zR 0 8,(xx qh<|zg ?_)⟩)⟩
   obtain⟨G52,N,aDt,H⟩:=H.vJ 1 rfl N<|H.awB [1,0] 8 K0
   dsimp only[List.set] at H
   refine sw<|zQ H 2 J 0 J underlying29 ti24 J qj J J J qw qp qf fun WZ Wb w51 H=>?_
   dsimp only[List.set] at H
   replace H:=H.QK 1 J 0 J
   replace N:=(N.Xr 3 [2,0,1]).join
   refine oF J<|sw<|zn H 3 [yI 0,Sv WZ (Vq+1) Wb,Sv (aa b9 0) s.qQ.toNat s.qQ.toNat,Bv false,yN,yN,yN,yN] sizeOf29 fun w54 H=>?_
   dsimp only[List.set] at H
   refine xX<|b_n<|t_n<|zf<|sp (yI c)<|sw<|zY c 1 J J qf<|sq 1<|xX<|xu (m':=(own.length-((c+1):Int)).toNat) qf ⟨_,c+1,_,_,_,_,_,_,uE7,?_,?_,J,(N.xG 2 [1,0] xE),H.xG 9 10 (zR 2 7) (0::zR 3 7) xE xE⟩
   ·exact begTo_no ql
   ·omega
  refine zx4<|zcc<|sq 1 ?_
  obtain⟨RB,o56,rfl⟩:=H.addr 4 rfl qf
  refine oI J J<|oL J (H.vM 4 J 0 qf)<|sp (yI k)<|sq 1<|zjn<|cE J (fun LW=>?_)<|fun LW=>?_
  ·refine zf (sq 2<|oF J<|oL J (H.cell 6 J J)<|sw<|oc (VV _ t.qF (H.get 7 J).1 qg) ?_)
   rintro v64 w62 r64 x63
   replace H:=H.zy x63 r64
   obtain⟨a65,c66,rfl,aPN,aKR⟩:=H.jB 0 rfl
   refine oF J<|sw<|zn H 2 [yI 0,Sv Yb Vq V8,Sv a65 t.qF.length c66,Bv false,yN,yN,yN,yN] sizeOf24 fun w69 H=>?_
   dsimp only[List.set] at H
   refine zjn<|vW 4 J H [2,3,5,6,7] [0,1,2,3,4,5,6,7] fun H=>?_
   dsimp only[yu,yU]
   have S:=H.ve [2,3,5,6,7]<|zR 0 8
   refine rtl 0 S ?_
   refine rtl 1 S ?_
   refine rtl 2 S ?_
   refine tF 3 J J S ?_
   refine tF 4 J J S ?_
   refine tL 5 J J (fun _ h=>h.cell 2 J J) S ?_
   refine rt 6 _ (yP (cs:=[yI 0,Sv Yb Vq V8,Sv a65 t.qF.length c66,Bv false,yN,yN,yN,yN]) isAgg47 sizeOf47 J<|fun _ h=>qH (h.cells 0 J) 0 8) S ?_
   refine ro 7 J ?_
   obtain⟨G71,acx,h73⟩:=H.Vd (α:=yLI) 1 rfl 0 rfl qj
   obtain⟨G74,ao9,h76⟩:=H.Xv 0 rfl
   replace H:=H.addNil (α:=Bool)
   replace H:=H.addNil (α:=yLI)
   replace H:=H.addNil (α:=yLL)
   refine oc (l08Copy_ok _ (⟨0,(Qi s own t k c),t.qF,false,([]:List Bool),([]:yLL),([]:List yLL),([]:List yLL)⟩:zG) (by have hz:=(qH (H.cells 2 J) 0 8);rw[acx] at hz;exact hz) (acx▸h73) h76 (H.get 2 J).1 (H.get 1 J).1 (H.get 0 J).1 (H.get 0 J).1<|by exact sbeg_sm p0.sys p2 qf<|by omega) ?_
   rintro _ w78 ⟨xj,apr,wn,alU,api,oz,acP,oH,Br,auM,Cf,oW,aev,oR,aca,aen,CH,atR,Bf,at6,avH,uA,an0,u9,an7,aot,rfl,M,K⟩ _
   obtain⟨N,H⟩:=H.both K M N [4,3] 11 K0
   obtain rfl:=H.xf (α:=yLI) 0 rfl 0 rfl qj
   obtain rfl:=H.yt 1 rfl
   obtain rfl:=H.Vt 2 rfl
   obtain rfl:=H.xf (α:=yLI) 3 rfl 1 rfl qj
   obtain rfl:=H.xf (α:=yLL) 4 rfl 2 rfl qj
   obtain rfl:=H.xf (α:=yLL) 5 rfl 3 rfl qj
   refine⟨H.pick [8,9,11,12,13]<|zR 7 8,(ro 8 J ?_)⟩
   refine vZ [yI 0,Sv Yb Vq V8,Sv a65 t.qF.length c66,Bv false,yN,yN,yN,yN,yI ((⟨0,(Qi s own t k c),t.qF,false,([]:List Bool),([]:yLL),([]:List yLL),([]:List yLL)⟩:zG).qK),Sv xj (((⟨0,(Qi s own t k c),t.qF,false,([]:List Bool),([]:yLL),([]:List yLL),([]:List yLL)⟩:zG).qG).length) wn,Sv oz (((⟨0,(Qi s own t k c),t.qF,false,([]:List Bool),([]:yLL),([]:List yLL),([]:List yLL)⟩:zG).qF).length) oH,Bv ((⟨0,(Qi s own t k c),t.qF,false,([]:List Bool),([]:yLL),([]:List yLL),([]:List yLL)⟩:zG).qY),Sv Br (((⟨0,(Qi s own t k c),t.qF,false,([]:List Bool),([]:yLL),([]:List yLL),([]:List yLL)⟩:zG).jA).length) Cf,Sv oW (((⟨0,(Qi s own t k c),t.qF,false,([]:List Bool),([]:yLL),([]:List yLL),([]:List yLL)⟩:zG).qU).length) oR,Sv CH (((⟨0,(Qi s own t k c),t.qF,false,([]:List Bool),([]:yLL),([]:List yLL),([]:List yLL)⟩:zG).jH).length) Bf,Sv uA (((⟨0,(Qi s own t k c),t.qF,false,([]:List Bool),([]:yLL),([]:List yLL),([]:List yLL)⟩:zG).zM).length) u9] [(0,.agg #[yI 0,Sv Yb Vq V8,Sv a65 t.qF.length c66,Bv false,yN,yN,yN,yN]),(1,.agg #[yI ((⟨0,(Qi s own t k c),t.qF,false,([]:List Bool),([]:yLL),([]:List yLL),([]:List yLL)⟩:zG).qK),Sv xj (((⟨0,(Qi s own t k c),t.qF,false,([]:List Bool),([]:yLL),([]:List yLL),([]:List yLL)⟩:zG).qG).length) wn,Sv oz (((⟨0,(Qi s own t k c),t.qF,false,([]:List Bool),([]:yLL),([]:List yLL),([]:List yLL)⟩:zG).qF).length) oH,Bv ((⟨0,(Qi s own t k c),t.qF,false,([]:List Bool),([]:yLL),([]:List yLL),([]:List yLL)⟩:zG).qY),Sv Br (((⟨0,(Qi s own t k c),t.qF,false,([]:List Bool),([]:yLL),([]:List yLL),([]:List yLL)⟩:zG).jA).length) Cf,Sv oW (((⟨0,(Qi s own t k c),t.qF,false,([]:List Bool),([]:yLL),([]:List yLL),([]:List yLL)⟩:zG).qU).length) oR,Sv CH (((⟨0,(Qi s own t k c),t.qF,false,([]:List Bool),([]:yLL),([]:List yLL),([]:List yLL)⟩:zG).jH).length) Bf,Sv uA (((⟨0,(Qi s own t k c),t.qF,false,([]:List Bool),([]:yLL),([]:List yLL),([]:List yLL)⟩:zG).zM).length) u9])]<|⟨H.pick [8,9,11,12,13]<|zR 7 8,(ro 9 rfl ?_)⟩
   refine zH H underlying36 ti49 [yI 0,Sv Yb Vq V8,Sv a65 t.qF.length c66,Bv false,yN,yN,yN,yN,yI ((⟨0,(Qi s own t k c),t.qF,false,([]:List Bool),([]:yLL),([]:List yLL),([]:List yLL)⟩:zG).qK),Sv xj (((⟨0,(Qi s own t k c),t.qF,false,([]:List Bool),([]:yLL),([]:List yLL),([]:List yLL)⟩:zG).qG).length) wn,Sv oz (((⟨0,(Qi s own t k c),t.qF,false,([]:List Bool),([]:yLL),([]:List yLL),([]:List yLL)⟩:zG).qF).length) oH,Bv ((⟨0,(Qi s own t k c),t.qF,false,([]:List Bool),([]:yLL),([]:List yLL),([]:List yLL)⟩:zG).qY),Sv Br (((⟨0,(Qi s own t k c),t.qF,false,([]:List Bool),([]:yLL),([]:List yLL),([]:List yLL)⟩:zG).jA).length) Cf,Sv oW (((⟨0,(Qi s own t k c),t.qF,false,([]:List Bool),([]:yLL),([]:List yLL),([]:List yLL)⟩:zG).qU).length) oR,Sv CH (((⟨0,(Qi s own t k c),t.qF,false,([]:List Bool),([]:yLL),([]:List yLL),([]:List yLL)⟩:zG).jH).length) Bf,Sv uA (((⟨0,(Qi s own t k c),t.qF,false,([]:List Bool),([]:yLL),([]:List yLL),([]:List yLL)⟩:zG).zM).length) u9] fun b88 w89 H=>(⟨H.pick [9,10,12,13,14]<|zR 7 8,(ro 10 J ?_)⟩)
   have H0:=H
   obtain⟨G93,avX,aK1,H⟩:=H.ji (α:=yLI) 8 rfl 7 rfl qj
   replace N:=H0.iceB N 6 [5,0,1,2,3,4] 8 avX [0,1,2,3,8] 15 K0
   clear H0
   dsimp only[List.set] at H
   obtain⟨G96,N,aCB,H⟩:=H.vJ 7 rfl N<|H.awB [0,1,2,3,4,9] 16 K0
   dsimp only[List.set] at H
   have H0:=H
   obtain⟨G98,apS,abA,H⟩:=H.ji (α:=yLI) 1 rfl 2 rfl qj
   replace N:=H0.iceB N 7 [2,0,1,3,4,5,6] 1 apS [0,1,3,4,5,10] 17 K0
   clear H0
   dsimp only[List.set] at H
   obtain⟨aop,N,NT,H⟩:=H.vJ 2 rfl N<|H.awB [0,1,2,4,5,6,11] 18 K0
   dsimp only[List.set] at H
   obtain⟨Ge,N,aIs,H⟩:=H.freezeB 3 rfl N<|H.awB [0,1,2,3,5,6,7,12] 19 K0
   dsimp only[List.set] at H
   have H0:=H
   obtain⟨ang,amh,Mv,H⟩:=H.ji (α:=yLI) 4 rfl 6 rfl qj
   replace N:=H0.iceB N 9 [5,0,1,2,3,4,6,7,8] 4 amh [0,1,2,3,4,7,8,13] 20 K0
   clear H0
   dsimp only[List.set] at H
   have H0:=H
   obtain⟨axl,anL,aFQ,H⟩:=H.ji (α:=yLL) 5 rfl 8 rfl qj
   replace N:=H0.iceB N 9 [6,0,1,2,3,4,5,7,8] 5 anL [0,1,2,3,4,5,9,14] 21 K0
   clear H0
   dsimp only[List.set] at H
   have H0:=H
   obtain⟨aCz,ai6,aEN,H⟩:=H.ji (α:=yLL) 6 rfl 10 rfl qj
   replace N:=H0.iceB N 9 [7,0,1,2,3,4,5,6,8] 6 ai6 [0,1,2,3,4,5,6,15] 22 K0
   clear H0
   dsimp only[List.set] at H
   refine zQ H 11 J 0 J underlying36 ti49 J qj J J J qw qp qf fun a90 c91 w92 H=>?_
   dsimp only[List.set] at H
   replace H:=H.snoc_ServerD 16 J 0 7 J 6 J false 14 J 13 J 12 J 12 J ((⟨0,(Qi s own t k c),t.qF,false,([]:List Bool),([]:yLL),([]:List yLL),([]:List yLL)⟩:zG).qK) 5 J 4 J ((⟨0,(Qi s own t k c),t.qF,false,([]:List Bool),([]:yLL),([]:List yLL),([]:List yLL)⟩:zG).qY) 3 J 2 J 1 J 0 J
   replace N:Fresh W0.heap.size ((zF++(G93++G96++[]++[]++[]++[]++G98++aop++Ge++ang++axl++aCz))::Ns):=(N.emp.emp.emp.emp.xG 13 [11,10,0,1,2,3,9,8,7,6,5,4,12] xE).join.join.join.join.join.join.join.join.join.join.join.swap.join
   refine⟨H.pick [9,10,12,13,14]<|zR 16 8,(xx qh<|zg<|sq 1<|oF J<|oF J<|sw<|zn H 12 [pp sb 0,Sv (aa RB o56) own.length co,Sv a90 (VM+1) c91,yN] sizeOf36 fun Rc H=>?_)⟩
   dsimp only[List.set] at H
   refine xX<|b_n<|t_n<|zf<|sp (yI k)<|sw<|zY k 1 J J qf<|sq 1<|xX<|xu (m':=((srvTo own own.length)-((k+1):Int)).toNat) qf ⟨_,k+1,_,_,_,_,_,_,uE5,?_,?_,J,N,H.xG 15 24 (zR 11 4) (0::zR 18 6) xE xE⟩
   ·exact sbegin_snoc qf<|by exact(if_pos ql).symm
   ·omega
  refine xe<|t_n<|vW 4 J H [1,4,5,6] [0,1,2,3,4,5,6,7] fun H=>?_
  dsimp only[yu,yU]
  have S:=H.ve [1,4,5,6]<|zR 0 8
  refine rtl 0 S ?_
  refine rtl 1 S ?_
  refine rtl 2 S ?_
  refine tF 3 J J S ?_
  refine tF 4 J J S ?_
  refine tL 5 J J (fun _ h=>h.cell 1 J J) S ?_
  refine rt 6 _ (yP (cs:=[yI 0,Sv Yb Vq V8,Sv (aa b9 0) s.qQ.toNat s.qQ.toNat,Bv false,yN,yN,yN,yN]) isAgg47 sizeOf47 J<|fun _ h=>qH (h.cells 0 J) 0 8) S ?_
  refine ro 7 J ?_
  obtain⟨Rf,Zq,aCc⟩:=H.Vd (α:=yLI) 0 rfl 0 rfl qj
  obtain⟨z6,ao2,ab3⟩:=H.Xv 2 rfl
  replace H:=H.addNil (α:=Bool)
  replace H:=H.addNil (α:=yLI)
  replace H:=H.addNil (α:=yLL)
  refine oc (l08Copy_ok _ (⟨0,(Qi s own t k c),(List.replicate s.qQ.toNat (0:Int)),false,([]:List Bool),([]:yLL),([]:List yLL),([]:List yLL)⟩:zG) (by have hz:=(qH (H.cells 1 J) 0 8);rw[Zq] at hz;exact hz.to<|by simp only[List.length_replicate] <;> rfl) (Zq▸aCc) (rep_at ao2 ab3) (H.get 2 J).1 (H.get 1 J).1 (H.get 0 J).1 (H.get 0 J).1<|by exact sbeg_sm p0.sys p2 qf<|by omega) ?_
  rintro _ M5 ⟨rC,afa,rW,agm,af4,mu,Wo,ns,wE,akb,wC,mF,Y4,mK,WO,ZF,yk,akr,wV,amv,ajZ,rJ,agB,su,afx,af3,rfl,M,K⟩ _
  obtain⟨N,H⟩:=H.both K M N [4,3] 11 K0
  obtain rfl:=H.xf (α:=yLI) 0 rfl 0 rfl qj
  obtain rfl:=H.yt 1 rfl
  obtain rfl:=H.Vt 2 rfl
  obtain rfl:=H.xf (α:=yLI) 3 rfl 1 rfl qj
  obtain rfl:=H.xf (α:=yLL) 4 rfl 2 rfl qj
  obtain rfl:=H.xf (α:=yLL) 5 rfl 3 rfl qj
  refine⟨H.pick [7,10,11,12]<|zR 7 8,(ro 8 J ?_)⟩
  refine vZ [yI 0,Sv Yb Vq V8,Sv (aa b9 0) s.qQ.toNat s.qQ.toNat,Bv false,yN,yN,yN,yN,yI ((⟨0,(Qi s own t k c),(List.replicate s.qQ.toNat (0:Int)),false,([]:List Bool),([]:yLL),([]:List yLL),([]:List yLL)⟩:zG).qK),Sv rC (((⟨0,(Qi s own t k c),(List.replicate s.qQ.toNat (0:Int)),false,([]:List Bool),([]:yLL),([]:List yLL),([]:List yLL)⟩:zG).qG).length) rW,Sv mu (((⟨0,(Qi s own t k c),(List.replicate s.qQ.toNat (0:Int)),false,([]:List Bool),([]:yLL),([]:List yLL),([]:List yLL)⟩:zG).qF).length) ns,Bv ((⟨0,(Qi s own t k c),(List.replicate s.qQ.toNat (0:Int)),false,([]:List Bool),([]:yLL),([]:List yLL),([]:List yLL)⟩:zG).qY),Sv wE (((⟨0,(Qi s own t k c),(List.replicate s.qQ.toNat (0:Int)),false,([]:List Bool),([]:yLL),([]:List yLL),([]:List yLL)⟩:zG).jA).length) wC,Sv mF (((⟨0,(Qi s own t k c),(List.replicate s.qQ.toNat (0:Int)),false,([]:List Bool),([]:yLL),([]:List yLL),([]:List yLL)⟩:zG).qU).length) mK,Sv yk (((⟨0,(Qi s own t k c),(List.replicate s.qQ.toNat (0:Int)),false,([]:List Bool),([]:yLL),([]:List yLL),([]:List yLL)⟩:zG).jH).length) wV,Sv rJ (((⟨0,(Qi s own t k c),(List.replicate s.qQ.toNat (0:Int)),false,([]:List Bool),([]:yLL),([]:List yLL),([]:List yLL)⟩:zG).zM).length) su] [(0,.agg #[yI 0,Sv Yb Vq V8,Sv (aa b9 0) s.qQ.toNat s.qQ.toNat,Bv false,yN,yN,yN,yN]),(1,.agg #[yI ((⟨0,(Qi s own t k c),(List.replicate s.qQ.toNat (0:Int)),false,([]:List Bool),([]:yLL),([]:List yLL),([]:List yLL)⟩:zG).qK),Sv rC (((⟨0,(Qi s own t k c),(List.replicate s.qQ.toNat (0:Int)),false,([]:List Bool),([]:yLL),([]:List yLL),([]:List yLL)⟩:zG).qG).length) rW,Sv mu (((⟨0,(Qi s own t k c),(List.replicate s.qQ.toNat (0:Int)),false,([]:List Bool),([]:yLL),([]:List yLL),([]:List yLL)⟩:zG).qF).length) ns,Bv ((⟨0,(Qi s own t k c),(List.replicate s.qQ.toNat (0:Int)),false,([]:List Bool),([]:yLL),([]:List yLL),([]:List yLL)⟩:zG).qY),Sv wE (((⟨0,(Qi s own t k c),(List.replicate s.qQ.toNat (0:Int)),false,([]:List Bool),([]:yLL),([]:List yLL),([]:List yLL)⟩:zG).jA).length) wC,Sv mF (((⟨0,(Qi s own t k c),(List.replicate s.qQ.toNat (0:Int)),false,([]:List Bool),([]:yLL),([]:List yLL),([]:List yLL)⟩:zG).qU).length) mK,Sv yk (((⟨0,(Qi s own t k c),(List.replicate s.qQ.toNat (0:Int)),false,([]:List Bool),([]:yLL),([]:List yLL),([]:List yLL)⟩:zG).jH).length) wV,Sv rJ (((⟨0,(Qi s own t k c),(List.replicate s.qQ.toNat (0:Int)),false,([]:List Bool),([]:yLL),([]:List yLL),([]:List yLL)⟩:zG).zM).length) su])] ?_
  refine⟨H.pick [7,10,11,12]<|zR 7 8,(ro 9 J ?_)⟩
  refine zH H underlying36 ti49 [yI 0,Sv Yb Vq V8,Sv (aa b9 0) s.qQ.toNat s.qQ.toNat,Bv false,yN,yN,yN,yN,yI ((⟨0,(Qi s own t k c),(List.replicate s.qQ.toNat (0:Int)),false,([]:List Bool),([]:yLL),([]:List yLL),([]:List yLL)⟩:zG).qK),Sv rC (((⟨0,(Qi s own t k c),(List.replicate s.qQ.toNat (0:Int)),false,([]:List Bool),([]:yLL),([]:List yLL),([]:List yLL)⟩:zG).qG).length) rW,Sv mu (((⟨0,(Qi s own t k c),(List.replicate s.qQ.toNat (0:Int)),false,([]:List Bool),([]:yLL),([]:List yLL),([]:List yLL)⟩:zG).qF).length) ns,Bv ((⟨0,(Qi s own t k c),(List.replicate s.qQ.toNat (0:Int)),false,([]:List Bool),([]:yLL),([]:List yLL),([]:List yLL)⟩:zG).qY),Sv wE (((⟨0,(Qi s own t k c),(List.replicate s.qQ.toNat (0:Int)),false,([]:List Bool),([]:yLL),([]:List yLL),([]:List yLL)⟩:zG).jA).length) wC,Sv mF (((⟨0,(Qi s own t k c),(List.replicate s.qQ.toNat (0:Int)),false,([]:List Bool),([]:yLL),([]:List yLL),([]:List yLL)⟩:zG).qU).length) mK,Sv yk (((⟨0,(Qi s own t k c),(List.replicate s.qQ.toNat (0:Int)),false,([]:List Bool),([]:yLL),([]:List yLL),([]:List yLL)⟩:zG).jH).length) wV,Sv rJ (((⟨0,(Qi s own t k c),(List.replicate s.qQ.toNat (0:Int)),false,([]:List Bool),([]:yLL),([]:List yLL),([]:List yLL)⟩:zG).zM).length) su] fun Tb aoX H=>(⟨H.pick [8,11,12,13]<|zR 7 8,(ro 10 J ?_)⟩)
  have H0:=H
  obtain⟨akk,ak4,anV,H⟩:=H.ji (α:=yLI) 7 rfl 7 rfl qj
  replace N:=H0.iceB N 6 [5,0,1,2,3,4] 7 ak4 [0,1,2,3,8] 15 K0
  clear H0
  dsimp only[List.set] at H
  obtain⟨Sf,N,ajT,H⟩:=H.vJ 9 rfl N<|H.awB [0,1,2,3,4,9] 16 K0
  dsimp only[List.set] at H
  have H0:=H
  obtain⟨aeO,ajI,IT,H⟩:=H.ji (α:=yLI) 1 rfl 2 rfl qj
  replace N:=H0.iceB N 7 [2,0,1,3,4,5,6] 1 ajI [0,1,3,4,5,10] 17 K0
  clear H0
  dsimp only[List.set] at H
  obtain⟨aes,N,Zk,H⟩:=H.vJ 2 rfl N<|H.awB [0,1,2,4,5,6,11] 18 K0
  dsimp only[List.set] at H
  obtain⟨apG,N,aGA,H⟩:=H.freezeB 3 rfl N<|H.awB [0,1,2,3,5,6,7,12] 19 K0
  dsimp only[List.set] at H
  have H0:=H
  obtain⟨aDb,ast,aHD,H⟩:=H.ji (α:=yLI) 4 rfl 6 rfl qj
  replace N:=H0.iceB N 9 [5,0,1,2,3,4,6,7,8] 4 ast [0,1,2,3,4,7,8,13] 20 K0
  clear H0
  dsimp only[List.set] at H
  have H0:=H
  obtain⟨awP,anW,aHj,H⟩:=H.ji (α:=yLL) 5 rfl 8 rfl qj
  replace N:=H0.iceB N 9 [6,0,1,2,3,4,5,7,8] 5 anW [0,1,2,3,4,5,9,14] 21 K0
  clear H0
  dsimp only[List.set] at H
  have H0:=H
  obtain⟨azA,aia,aEL,H⟩:=H.ji (α:=yLL) 6 rfl 10 rfl qj
  replace N:=H0.iceB N 9 [7,0,1,2,3,4,5,6,8] 6 aia [0,1,2,3,4,5,6,15] 22 K0
  clear H0
  dsimp only[List.set] at H
  refine zQ H 10 J 0 J underlying36 ti49 J qj J J J qw qp qf fun aaZ acE LD H=>?_
  dsimp only[List.set] at H
  replace H:=H.snoc_ServerD 16 J 0 7 J 6 J false 14 J 13 J 12 J 12 J ((⟨0,(Qi s own t k c),(List.replicate s.qQ.toNat (0:Int)),false,([]:List Bool),([]:yLL),([]:List yLL),([]:List yLL)⟩:zG).qK) 5 J 4 J ((⟨0,(Qi s own t k c),(List.replicate s.qQ.toNat (0:Int)),false,([]:List Bool),([]:yLL),([]:List yLL),([]:List yLL)⟩:zG).qY) 3 J 2 J 1 J 0 J
  replace N:Fresh W0.heap.size ((zF++(akk++Sf++[]++[]++[]++[]++aeO++aes++apG++aDb++awP++azA))::Ns):=(N.emp.emp.emp.emp.xG 13 [11,10,0,1,2,3,9,8,7,6,5,4,12] xE).join.join.join.join.join.join.join.join.join.join.join.swap.join
  refine⟨H.pick [8,11,12,13]<|zR 16 8,(xx qh<|zg<|sq 1<|oF J<|oF J<|sw<|zn H 11 [pp sb 0,Sv (aa RB o56) own.length co,Sv aaZ (VM+1) acE,yN] sizeOf36 fun abp H=>?_)⟩
  dsimp only[List.set] at H
  refine xX<|b_n<|t_n<|zf<|sp (yI k)<|sw<|zY k 1 J J qf<|sq 1<|xX<|xu (m':=((srvTo own own.length)-((k+1):Int)).toNat) qf ⟨_,k+1,_,_,_,_,_,_,uE5,?_,?_,J,N,H.xG 14 24 (zR 10 4) (0::zR 18 6) xE xE⟩
  ·exact sbegin_snoc qf<|by exact(if_neg ql).symm
  ·omega
 refine zx4<|zcr<|sq 2<|zjr ?_
 replace H:=H.nilRow 77 4
 replace H:=H.yF (α:=zC)
 refine ret1 (pp b1 0) J J ⟨_,J,?_⟩
 obtain rfl:k=n:=by omega
 exact⟨b1,fO,VM,fP,jE,zF,none,0,0,[],[],J,(N.emp.xG 2 [1,0] xE),H.xG 5 8 [3,4,2,1,0] [2,3,4,5,6,7,1,0] xE xE⟩
theorem dNextDeed_ok(ag:List UInt8)(ip:Int)(sd:Int)(bs:Nat)(ac:yOA)(cc:Nat)(Fc:yLN)(sb:Nat)(ao:yOA)(no:Nat)(co:Nat)(bk:Nat)(dN:yOA)(dC:Nat)(bQ:Nat)(bS:yOA)(ix:Nat)(bo:Nat)(H:St W0 w ((.box bs [Sv ac ag.length cc,yI ip,.int .u64 sd] 116)::(.box bk [pp sb 0,Sv ao no co,Sv dN dC bQ,Sv bS ix bo] 86)::ps) ((sF false Fc ac cc ag)::Γ))(N:Fresh W0.heap.size (Ns))(K0:Kept Ns Γ)(q0:0<=ip/\ip<=40000)(q1:1<=dC/\dC<=4)(q2:ix<=12):Calls Tryz.prog 63 #[pp bs 0,pp bk 0] w (fun e w'=>∃v,e=.returned v/\∃(lA:Int) (B5:Int) (k_:Int) (a_:Int) (b_:Int),(ip<=lA/\lA<=ip+20)/\(DrawnD dC ⟨k_,a_,b_⟩)/\v=.agg #[yI k_,yI a_,yI b_]/\Fresh W0.heap.size (Ns)/\St W0 w' ((.box bs [Sv ac ag.length cc,yI lA,.int .u64 B5] 116)::(.box bk [pp sb 0,Sv ao no co,Sv dN dC bQ,Sv bS ix bo] 86)::ps) ((sF false Fc ac cc ag)::Γ)):=by
 refine en func63 ntmps63 ?_
 refine zcr<|sw<|x8 H ti44 [yI 0,yI 0,yI 0] fun b1 w2 H=>zjc<|sq 2<|oF J<|oF J<|oL J (H.cell 2 J J)<|oN J<|sq 1<|zjc<|sq 2 ?_
 have H1:=H.yD 3 1 [1,0,2] [0] xE xE
 have N1:Fresh _ (Ns):=N
 have K1:Kept (Ns) (Γ):=K0.behind 0 J
 refine sw<|zT #[pp bs 0,yI dC] J J call59 (Qb ag ip sd bs ac cc Fc dC H1 N1 K1 qg) ?_
 clear H H1 N1 K1
 rintro _ w3 ⟨K8,Hz,eO,hx5,hx6,rfl,N,H⟩
 refine sq 1<|zjc<|sq 1<|sw<|o_buildF H underlying24 ti2 [yI 1,yI 1,yI 2,yI 2,yI 3,yI 3,yI 3,yI 4,yI 5,yI 5,yI 5,yI 6,yI 6,yI 6,yI 6,yI 7,yI 8,yI 9,yI 1,yI 2] J (by simp[Value.cells]) J qj qj fun z8 z7 H=>sw<|vF #[pp bs 0,Sv (aa z8 0) 20 20] J J call104<|en func104 ntmps104 ?_
 refine zcr<|sp (yI 0)<|zjc<|sq 3<|oN J ?_
 have H1:=H.yD 4 1 [1,0,2,3] [0] xE xE
 have N1:Fresh _ (Ns):=N
 have K1:Kept (Ns) (Γ):=K0.behind 0 J
 refine sw<|zT #[pp bs 0,yI 20] J J call59 (Qb ag K8 Hz bs ac cc Fc (20:Int) H1 N1 K1 qg) ?_
 clear H H1 N1 K1
 rintro _ Lz ⟨f6,nl,Co,axs,aef,rfl,N,H⟩
 replace H:=H.boxRowI 1 [1,1,2,2,3,3,3,4,5,5,5,6,6,6,6,7,8,9,1,2] 20
 dsimp only[List.set] at H
 refine oI J J<|oL J (H.Vx 1 J (iv:=Co) (i:=Co.toNat) qf qf)<|sq 1<|zjr<|ret1 (yI ([1,1,2,2,3,3,3,4,5,5,5,6,6,6,6,7,8,9,1,2][Co.toNat]!)) J J ⟨_,J,(sq 1<|sw<|vZ [yI ([1,1,2,2,3,3,3,4,5,5,5,6,6,6,6,7,8,9,1,2][Co.toNat]!),yI eO,yI 0] [(0,yI ([1,1,2,2,3,3,3,4,5,5,5,6,6,6,6,7,8,9,1,2][Co.toNat]!)),(1,yI eO)]<|sw<|x8 H ti44 [yI 0,yI 0,yI 0] fun LV Pa H=>?_)⟩
 refine sw<|xZ H 0 [yI ([1,1,2,2,3,3,3,4,5,5,5,6,6,6,6,7,8,9,1,2][Co.toNat]!),yI eO,yI 0] sizeOf44 fun NH H=>?_
 dsimp only[List.set] at H
 refine zjn<|xO<|xO ?_
 have kb:=kinds20_in _ (by omega:(Co:Int).toNat<20)
 obtain⟨kd,hkd⟩:∃z:Int,([1,1,2,2,3,3,3,4,5,5,5,6,6,6,6,7,8,9,1,2][Co.toNat]! :Int)=z:=⟨_,rfl⟩
 rw[show kinds20=[1,1,2,2,3,3,3,4,5,5,5,6,6,6,6,7,8,9,1,2] from J,hkd] at kb
 rw[hkd] at H
 refine zf<|oF J<|oL J (H.cell 0 J J)<|zjn<|xg<|zcc<|sp (Bv ((kd:Int) == 3))<|sp (Bv ((kd:Int) == 3))<|zjn<|c_cut (fun ρ MJ=>∃(xR:Env) (t24:Bool),ρ=upd (upd (upd (upd (upd (upd (upd (upd xR 0<|pp bs 0) 1<|pp bk 0) 4<|pp b1 0) 5<|yI dC) 6<|yI eO) 7<|pp LV 0) 23<|yI kd) 24 (Bv t24)/\(t24=true<->(kd=3\/kd=4))/\Fresh W0.heap.size (Ns)/\St W0 MJ ((.box LV [yI kd,yI eO,yI 0] 44)::(.box bs [Sv ac ag.length cc,yI f6,.int .u64 nl] 116)::(rr (aa z8 0) 20 20 2 1 ([1,1,2,2,3,3,3,4,5,5,5,6,6,6,6,7,8,9,1,2].map<|Value.int .i64))::(.box b1 [yI 0,yI 0,yI 0] 44)::(.box bk [pp sb 0,Sv ao no co,Sv dN dC bQ,Sv bS ix bo] 86)::ps) ((sF false Fc ac cc ag)::Γ)) ?_ ?_
 ·refine cE J (fun RO=>?_) (fun RO=>?_)
  ·refine xe (meet ⟨_,(kd:Int) == 3,uE8,?_,N,H⟩)
   ·exact beq_iff_eq.trans ⟨fun h=>by omega,fun h=>by omega⟩
  refine zf<|sp (Bv ((kd:Int) == 4))<|sp (Bv ((kd:Int) == 4))<|xX<|meet ⟨_,(kd:Int) == 4,uE8,?_,N,H⟩
  ·exact beq_iff_eq.trans ⟨fun h=>by omega,fun h=>by omega⟩
 clear H N
 rintro ρ Gw ⟨xR,t24,rfl,j24,N,H⟩
 refine t_n<|vP _ J (fun R4=>?_)<|fun R4=>?_
 ·(have k24:=j24.1 ql)
  refine zcr<|sq 1<|sw<|zY eO 1 J J qf<|sq 1<|sw<|o_rem (eO+1) dC J J qf qf qf<|oF J<|sw<|zn H 0 [yI kd,yI eO,yI ((eO+1) % dC)] sizeOf2 fun E3 H=>?_
  dsimp only[List.set] at H
  refine zjc<|sq 1<|sp (Bv<|decide ((dC:Int)>2))<|sp (Bv<|decide ((dC:Int)>2)) ?_
  cases nY:(decide ((dC:Int)>2))
  ·replace nY:=of_decide_eq_false nY
   refine zk [35,36]<|sp (Bv false)<|zjn<|cFr J<|xe<|b_n<|t_n<|zcr<|sw<|xW [yI kd,yI eO,yI ((eO+1) % dC)] isAgg44 sizeOf44 J (qH (H.cells 0 J) 0 3)<|sw<|xZ H 3 [yI kd,yI eO,yI ((eO+1) % dC)] sizeOf44 fun LE H=>?_
   dsimp only[List.set] at H
   refine zjr<|retC H 3 J J isAgg44 sizeOf44 J ⟨_,J,(⟨f6,nl,kd,eO,(eO+1) % dC,qf,(by exact drawnD_of kb qf (by exact emod_999 qf) qf<|by intros;omega),J,N,H.xG 5 1 [1,4] [0] xE xE⟩)⟩
  replace nY:=of_decide_eq_true nY
  refine qP 34 J J<|sq 1<|qP 34 J J ?_
  have H1:=H.yD 5 1 [1,0,2,3,4] [0] xE xE
  have N1:Fresh _ (Ns):=N
  have K1:Kept (Ns) (Γ):=K0.behind 0 J
  refine sw<|zT #[pp bs 0,yI 2] J J call58 (dOne_ok ag f6 nl bs ac cc Fc (2:Int) H1 N1 K1 qg) ?_
  clear H H1 N1 K1
  rintro _ Iu ⟨MI,PU,aDz,Ux,rfl,N,H⟩
  refine sp (Bv aDz)<|zjn<|vP _ J (fun Po=>?_)<|fun Po=>?_
  ·refine zf (sq 1<|sw<|zY eO 2 J J qf<|sq 1<|sw<|o_rem (eO+2) dC J J qf qf qf<|oF J<|sw<|zn H 1 [yI kd,yI eO,yI ((eO+2) % dC)] sizeOf2 fun JP H=>?_)
   dsimp only[List.set] at H
   refine xX<|b_n<|t_n<|zcr<|sw<|xW [yI kd,yI eO,yI ((eO+2) % dC)] isAgg44 sizeOf44 J (qH (H.cells 1 J) 0 3)<|sw<|xZ H 3 [yI kd,yI eO,yI ((eO+2) % dC)] sizeOf44 fun w37 H=>?_
   dsimp only[List.set] at H
   refine zjr<|retC H 3 J J isAgg44 sizeOf44 J ⟨_,J,(⟨MI,PU,kd,eO,(eO+2) % dC,qf,(by exact drawnD_of kb qf (by exact emod_999 qf) qf<|by intros;omega),J,N,H.xG 5 1 [0,4] [0] xE xE⟩)⟩
  refine xe<|b_n<|t_n<|zcr<|sw<|xW [yI kd,yI eO,yI ((eO+1) % dC)] isAgg44 sizeOf44 J (qH (H.cells 1 J) 0 3)<|sw<|xZ H 3 [yI kd,yI eO,yI ((eO+1) % dC)] sizeOf44 fun Qt H=>?_
  dsimp only[List.set] at H
  refine zjr<|retC H 3 J J isAgg44 sizeOf44 J ⟨_,J,(⟨MI,PU,kd,eO,(eO+1) % dC,qf,(by exact drawnD_of kb qf (by exact emod_999 qf) qf<|by intros;omega),J,N,H.xG 5 1 [0,4] [0] xE xE⟩)⟩
 (have k24:¬(kd=3\/kd=4):=fun z=>by have z:=j24.2 z;simp_all)
 refine zcc<|sp (Bv ((kd:Int) == 6))<|sp (Bv ((kd:Int) == 6))<|zjn<|c_cut (fun ρ O1=>∃(xR:Env) (t43:Bool),ρ=upd (upd (upd (upd (upd xR 0<|pp bs 0) 1<|pp bk 0) 4<|pp b1 0) 7<|pp LV 0) 43 (Bv t43)/\(t43=true<->(kd=6\/kd=7\/kd=8))/\Fresh W0.heap.size (Ns)/\St W0 O1 ((.box LV [yI kd,yI eO,yI 0] 44)::(.box bs [Sv ac ag.length cc,yI f6,.int .u64 nl] 116)::(rr (aa z8 0) 20 20 2 1 ([1,1,2,2,3,3,3,4,5,5,5,6,6,6,6,7,8,9,1,2].map<|Value.int .i64))::(.box b1 [yI 0,yI 0,yI 0] 44)::(.box bk [pp sb 0,Sv ao no co,Sv dN dC bQ,Sv bS ix bo] 86)::ps) ((sF false Fc ac cc ag)::Γ)) ?_ ?_
 ·refine cE J (fun rP=>?_) (fun rP=>?_)
  ·refine xe (meet ⟨_,(kd:Int) == 6,uE5,?_,N,H⟩)
   ·exact beq_iff_eq.trans ⟨fun h=>by omega,fun h=>by omega⟩
  refine zcr<|sp (Bv ((kd:Int) == 7))<|sp (Bv ((kd:Int) == 7))<|zjn<|cE J (fun tZ=>?_)<|fun tZ=>?_
  ·refine xe (meet ⟨_,(kd:Int) == 7,uE5,?_,N,H⟩)
   ·exact beq_iff_eq.trans ⟨fun h=>by omega,fun h=>by omega⟩
  refine zf<|sp (Bv ((kd:Int) == 8))<|sp (Bv ((kd:Int) == 8))<|xX<|meet ⟨_,(kd:Int) == 8,uE5,?_,N,H⟩
  ·exact beq_iff_eq.trans ⟨fun h=>by omega,fun h=>by omega⟩
 clear H N
 rintro ρ Ul ⟨xR,t43,rfl,j43,N,H⟩
 refine t_n<|vP _ J (fun K2=>?_)<|fun K2=>?_
 ·(have k43:=j43.1 ql)
  refine vW 3 J H [0,2,3,4] [0] fun H=>?_
  dsimp only[yu,yU]
  have S:=H.ve [0,2,3,4] [0]
  refine rtl 0 S ?_
  refine rtl 1 S ?_
  refine rtl 2 S ?_
  refine tF 3 J J S ?_
  refine tF 4 J J S ?_
  refine tL 5 J J (fun _ h=>h.cell 3 J J) S ?_
  refine tN 6 J J S ?_
  refine rtl 7 S ?_
  refine ro 8 J ?_
  have H1:=H.yD 5 1 [1,0,2,3,4] [0] xE xE
  have N1:Fresh _ (Ns):=N
  have K1:Kept (Ns) (Γ):=K0.behind 0 J
  refine zT #[pp bs 0,yI 12] J J call59 (Qb ag f6 nl bs ac cc Fc (12:Int) H1 N1 K1 qg) ?_
  clear H H1 N1 K1
  rintro _ w45 ⟨aeE,adw,FG,Pd,Ct,rfl,N,H⟩
  refine⟨H.pick (zR 1 4) [0],?_⟩
  have S:=H.ve (zR 1 4) [0]
  refine rt 9 _ (y_quo FG 11 J J qf qf) S ?_
  refine rt 10 _ (y_add ix (FG / 11) J J qf) S ?_
  refine xx qh<|zg ?_
  have H1:=H.yD 5 1 [0,1,2,3,4] [0] xE xE
  have N1:Fresh _ (Ns):=N
  have K1:Kept (Ns) (Γ):=K0.behind 0 J
  refine sw<|zT #[pp bs 0,yI<|ix+(FG / 11)] J J call59 (Qb ag aeE adw bs ac cc Fc (ix+(FG / 11)) H1 N1 K1 qg) ?_
  clear H H1 N1 K1
  rintro _ w52 ⟨aC9,axS,Kx,aID,aLG,rfl,N,H⟩
  refine oF J<|sw<|zn H 1 [yI kd,yI Kx,yI 0] sizeOf2 fun w59 H=>?_
  dsimp only[List.set] at H
  refine xX<|b_n<|t_n<|zcr<|sw<|xW [yI kd,yI Kx,yI 0] isAgg44 sizeOf44 J (qH (H.cells 1 J) 0 3)<|sw<|xZ H 3 [yI kd,yI Kx,yI 0] sizeOf44 fun w60 H=>?_
  dsimp only[List.set] at H
  refine zjr<|retC H 3 J J isAgg44 sizeOf44 J ⟨_,J,(⟨aC9,axS,kd,Kx,0,qf,(by exact drawnD_of kb qf (by omega) qf<|by intros;omega),J,N,H.xG 5 1 [0,4] [0] xE xE⟩)⟩
 (have k43:¬(kd=6\/kd=7\/kd=8):=fun z=>by have z:=j43.2 z;simp_all)
 refine xe<|b_n<|t_n<|zcr<|sw<|xW [yI kd,yI eO,yI 0] isAgg44 sizeOf44 J (qH (H.cells 0 J) 0 3)<|sw<|xZ H 3 [yI kd,yI eO,yI 0] sizeOf44 fun w61 H=>?_
 dsimp only[List.set] at H
 refine zjr<|retC H 3 J J isAgg44 sizeOf44 J ⟨_,J,(⟨f6,nl,kd,eO,0,qf,(by exact drawnD_of kb qf (by omega) qf<|by intros;omega),J,N,H.xG 5 1 [1,4] [0] xE xE⟩)⟩
theorem dWould_ok(s:qJ)(own:yLI)(ap:yOA)(cp:Nat)(Fp:yLN)(ar:yOA)(cr:Nat)(Fr:yLN)(ao:yOA)(co:Nat)(Fo:yLN)(sb:Nat)(sv:List zI)(wi:List zC)(bk:Nat)(n:Nat)(dN:yOA)(dC:Nat)(bQ:Nat)(bB:List Value)(bq:yLN)(bS:yOA)(ix:Nat)(bo:Nat)(bu:List Value)(bg:yLN)(d:Qu)(H:St W0 w ((.box bk [pp sb 0,Sv ao own.length co,Sv dN dC bQ,Sv bS ix bo] 86)::(.box sb (yS s ap cp ar cr) 27)::(rr dN dC bQ 49 16 bB)::(rr bS ix bo 77 4 bu)::ps) ((sF false Fp ap cp s.qA)::(sF false Fr ar cr s.qB)::(sF false Fo ao co own)::(qX true bq bB sv)::(qX true bg bu wi)::Γ))(N:Fresh W0.heap.size (bq::bg::Ns))(K0:Kept Ns Γ)(p0:Giv s own n)(p1:Vo s own n (⟨sv,wi⟩:zO))(p2:DrawnD sv.length d):Calls Tryz.prog 64 #[pp bk 0,.agg #[yI d.xQ,yI d.fA,yI d.fB]] w (fun e w'=>∃v,e=.returned v/\∃(v_:Bool),v=Bv v_/\Fresh W0.heap.size (bq::bg::Ns)/\St W0 w' ((.box bk [pp sb 0,Sv ao own.length co,Sv dN dC bQ,Sv bS ix bo] 86)::(.box sb (yS s ap cp ar cr) 27)::(rr dN dC bQ 49 16 bB)::(rr bS ix bo 77 4 bu)::ps) ((sF false Fp ap cp s.qA)::(sF false Fr ar cr s.qB)::(sF false Fo ao co own)::(qX true bq bB sv)::(qX true bg bu wi)::Γ)):=by
 refine en func64 ntmps64 ?_
 obtain rfl:=H.xf (α:=zI) 2 rfl 3 rfl qj
 obtain rfl:=H.xf (α:=zC) 3 rfl 4 rfl qj
 have g4:=p0.few
 have l1:sv.length=n:=p1.len
 have d2:=p2.1.2.1
 have d3:=p2.1.2.2.1
 have d4:=p2.2
 refine zcr<|sw<|jb H [yI d.xQ,yI d.fA,yI d.fB] fun b1 w2 H=>sp (Bv false)<|zjcc<|oF J<|oL J (H.cell 0 J J)<|zjn<|xg<|zcr<|sp (Bv ((d.xQ:Int) == 1))<|sp (Bv ((d.xQ:Int) == 1))<|zjn<|cE J (fun h3=>?_)<|fun h3=>?_
 ·refine xO (vW 6 J H [0,1,2,3,4] [0,1,2,3,4] fun H=>?_)
  dsimp only[yu,yU]
  have S:=H.ve (zR 0 5)<|zR 0 5
  refine rtl 0 S ?_
  refine rtl 1 S ?_
  refine tF 2 J J S ?_
  refine tF 3 J J S ?_
  refine tL 4 J J (fun _ h=>h.cell 1 J J) S ?_
  refine tF 5 J J S ?_
  refine tL 6 J J (fun _ h=>h.cell 0 J J) S ?_
  refine xx qh<|zg ?_
  obtain⟨b5,rfl⟩:=H.jm 3 rfl qf
  refine oI J J<|oF J<|oF J ?_
  obtain⟨Ts,T8,SO,JK,JZ,Kz,ad7,aa9,act,Lv,Lk,JW,acd,abC,aeK,Tc,RQ,Ua,hx7,H⟩:=H.jV zV 3 rfl 3 rfl rfl d.fA.toNat qf
  refine oL J (H.zD 3 J (hx7 3 _ J) qf)<|sp (Bv (!(sv[d.fA.toNat]!.qC.qY)))<|sp (Bv (!(sv[d.fA.toNat]!.qC.qY)))<|zjr<|b_r<|t_r<|ret1 (Bv (!(sv[d.fA.toNat]!.qC.qY))) J J ⟨_,J,(⟨!(sv[d.fA.toNat]!.qC.qY),J,N,H.xG 5 11 (zR 1 4) (zR 6 5) xE xE⟩)⟩
 refine zcr<|sp (Bv ((d.xQ:Int) == 3))<|sp (Bv ((d.xQ:Int) == 3))<|zjn<|cE J (fun h8=>?_)<|fun h8=>?_
 ·refine zcr (oF J<|oL J (H.cell 0 J J)<|oF J<|oL J (H.cell 0 J J)<|sp (Bv ((d.fA:Int) != d.fB))<|sp (Bv ((d.fA:Int) != d.fB)) ?_)
  cases h9:((d.fA:Int) != d.fB)
  ·replace h9:=zo h9
   refine zk (zR 30 4)<|sp (Bv false)<|sp (Bv false)<|zjr<|b_r<|t_r<|ret1 (Bv false) J J ⟨_,J,(⟨false,J,N,H.xG 5 5 (zR 1 4) (zR 0 5) xE xE⟩)⟩
  replace h9:=bne_iff_ne.1 h9
  refine qP 29 J J<|sq 1<|qP 29 J J<|oF J<|qP 29 J J<|oL J (H.cell 0 J J)<|qP 29 J J<|sw<|vF #[pp bk 0,yI d.fA] J J call105<|en func105 ntmps105 ?_
  refine zcr<|sp (Bv false)<|zjc<|sq 2<|oF J<|oF J<|oL J (H.cell 1 J J)<|sq 1 ?_
  obtain⟨z8,rfl⟩:=H.jm 3 rfl qf
  refine oI J J<|sq 1<|zjn<|xO<|vW 2 J H [0,1,2,3,4] [0,1,2,3,4] fun H=>?_
  dsimp only[yu,yU]
  have S:=H.ve (zR 0 5)<|zR 0 5
  refine rtl 0 S ?_
  refine rtl 1 S ?_
  refine tF 2 J J S ?_
  refine tF 3 J J S ?_
  obtain⟨MY,Rp,MQ,GH,Fs,Fy,SH,SE,RX,GP,Gf,Fn,Uh,R9,Tv,OI,NI,MT,DC,H⟩:=H.jV Qk 3 rfl 3 rfl rfl d.fA.toNat qf
  have S:=H.ve (zR 0 5)<|zR 6 5
  refine rt 4 _ (jZ (off:=0+(d.fA:Int).toNat*16+8+0) isAgg2 J<|fun _ h=>(h.zD 3 J (DC 0 _ J) qf)) S ?_
  refine rtl 5 S ?_
  refine rtl 6 S ?_
  refine tF 7 J J S ?_
  refine tF 8 J J S ?_
  obtain⟨am8,arD,apR,adz,acJ,acC,avK,auZ,au5,abV,ac5,ad8,atU,atE,avv,ak0,agP,ahN,aef,H⟩:=H.jV zV 3 rfl 9 rfl rfl d.fA.toNat qf
  have S:=H.ve (zR 0 5)<|zR 12 5
  refine rt 9 _ (jZ (off:=0+(d.fA:Int).toNat*16+0+0) isAgg2 J<|fun _ h=>(h.zD 3 J (aef 0 _ J) qf)) S ?_
  refine rtp 10 (Bv ((sv[d.fA.toNat]!.qR.qK:Int) == sv[d.fA.toNat]!.qC.qK)) S ?_
  refine rtp 11 (Bv ((sv[d.fA.toNat]!.qR.qK:Int) == sv[d.fA.toNat]!.qC.qK)) S ?_
  cases EB:((sv[d.fA.toNat]!.qR.qK:Int) == sv[d.fA.toNat]!.qC.qK)
  ·replace EB:=ne_of_beq_false EB
   refine vC (zR 12 5) 5 (H.pick (zR 0 5)<|zR 12 5)<|xx qh<|zg<|sp (Bv false)<|sp (Bv false)<|zjr<|ret1 (Bv false) J J ⟨_,J,(sp (Bv false)<|sp (Bv false)<|zjr<|b_r<|t_r<|ret1 (Bv false) J J ⟨_,J,(⟨false,J,N,H.xG 5 17 (zR 1 4) (zR 12 5) xE xE⟩)⟩)⟩
  replace EB:=eq_of_beq EB
  have S:=H.ve (zR 0 5)<|zR 12 5
  refine rgl 12 24 S ?_
  refine rgl 13 24 S ?_
  refine gF 14 J J S ?_
  refine gF 15 J J S ?_
  refine rg 16 _ 24 (jZ (off:=0+(d.fA:Int).toNat*16+8+3) isAgg4 J<|fun _ h=>(h.zD 3 J (DC 3 _ J) qf)) S ?_
  refine xx qh<|zg<|sq 2<|zjr<|ret1 (Bv sv[d.fA.toNat]!.qR.qY) J J ⟨_,J,(sq 2<|zjr<|b_r<|t_r<|ret1 (Bv sv[d.fA.toNat]!.qR.qY) J J ⟨_,J,(⟨sv[d.fA.toNat]!.qR.qY,J,N,H.xG 5 17 (zR 1 4) (zR 12 5) xE xE⟩)⟩)⟩
 refine zcr<|sp (Bv ((d.xQ:Int) == 4))<|sp (Bv ((d.xQ:Int) == 4))<|zjn<|cE J (fun CV=>?_)<|fun CV=>?_
 ·refine xO (vW 2 J H [0,1,2,3,4] [0,1,2,3,4] fun H=>?_)
  dsimp only[yu,yU]
  have S:=H.ve (zR 0 5)<|zR 0 5
  refine tF 0 J J S ?_
  refine tL 1 J J (fun _ h=>h.cell 0 J J) S ?_
  refine tF 2 J J S ?_
  refine tL 3 J J (fun _ h=>h.cell 0 J J) S ?_
  refine rtp 4 (Bv ((d.fA:Int) != d.fB)) S ?_
  refine rtp 5 (Bv ((d.fA:Int) != d.fB)) S ?_
  cases pj:((d.fA:Int) != d.fB)
  ·replace pj:=zo pj
   refine vC (zR 6 12) 12 (H.pick (zR 0 5)<|zR 0 5)<|xx qh<|zg<|sp (Bv false)<|sp (Bv false)<|zjr<|b_r<|t_r<|ret1 (Bv false) J J ⟨_,J,(⟨false,J,N,H.xG 5 5 (zR 1 4) (zR 0 5) xE xE⟩)⟩
  replace pj:=bne_iff_ne.1 pj
  have S:=H.ve (zR 0 5)<|zR 0 5
  refine rgl 6 42 S ?_
  refine rgl 7 42 S ?_
  refine gF 8 J J S ?_
  refine gF 9 J J S ?_
  refine gL 10 J J (fun _ h=>h.cell 1 J J) S ?_
  refine gF 11 J J S ?_
  refine gL 12 J J (fun _ h=>h.cell 0 J J) S ?_
  obtain⟨JN,rfl⟩:=H.jm 3 rfl qf
  have S:=H.ve (zR 0 5)<|zR 0 5
  refine gI 13 J J J S ?_
  refine gF 14 J J S ?_
  refine gF 15 J J S ?_
  obtain⟨aqK,alv,aiL,aa1,ab2,adc,avA,avN,avj,ace,abr,adt,atP,at5,aui,apb,arU,aix,azI,H⟩:=H.jV zV 3 rfl 3 rfl rfl d.fA.toNat qf
  have S:=H.ve (zR 0 5)<|zR 6 5
  refine rg 16 _ 42 (jZ (off:=0+(d.fA:Int).toNat*16+0+0) isAgg2 J<|fun _ h=>(h.zD 3 J (azI 0 _ J) qf)) S ?_
  refine rgp 17 (Bv<|decide ((sv[d.fA.toNat]!.qC.qK:Int)>0)) 42 S ?_
  refine xx qh<|zg<|sp (Bv<|decide ((sv[d.fA.toNat]!.qC.qK:Int)>0))<|sp (Bv<|decide ((sv[d.fA.toNat]!.qC.qK:Int)>0))<|zjr<|b_r<|t_r<|ret1 (Bv<|decide ((sv[d.fA.toNat]!.qC.qK:Int)>0)) J J ⟨_,J,(⟨decide ((sv[d.fA.toNat]!.qC.qK:Int)>0),J,N,H.xG 5 11 (zR 1 4) (zR 6 5) xE xE⟩)⟩
 refine zcr<|sp (Bv ((d.xQ:Int) == 5))<|sp (Bv ((d.xQ:Int) == 5))<|zjn<|cE J (fun RO=>?_)<|fun RO=>?_
 ·refine zcc (sp (yI 0)<|zjn<|xg<|vk ((fun Z0 Z1 Z2 Z3 Z4 Z5 Z6 Z7 Z8 Z9=>fun m' ρ Gw=>∃(xR:Env) (b:Nat),ρ=upd (upd (upd xR 0<|pp bk 0) 3<|pp b1 0) 5 (yI b)/\(b<=sv[d.fA.toNat]!.qC.jA.length)/\m'=(sv[d.fA.toNat]!.qC.jA.length-b:Nat)/\Fresh W0.heap.size (bq::bg::Ns)/\St W0 Gw (Z0::Z1::Z2::Z3::Z4::ps) (Z5::Z6::Z7::Z8::Z9::Γ)) _ _ _ _ _ _ _ _ _ _) ((sv[d.fA.toNat]!.qC.jA.length-0:Nat)) ⟨_,0,uE3,qf,J,N,H⟩ ?_)
  clear H N
  rintro m' ρ E4 ⟨xR,b,rfl,i1,rfl,N,H⟩
  have y1:sv[d.fA.toNat]!.qC.jA.length<=1000000:=((p1.srv d.fA.toNat qf).1.small p0).got
  refine xO<|xO<|vW 1 J H [0,1,2,3,4] [0,1,2,3,4] fun H=>?_
  dsimp only[yu,yU]
  have S:=H.ve (zR 0 5)<|zR 0 5
  refine rtp 0 (yI b) S ?_
  refine rtl 1 S ?_
  refine rtl 2 S ?_
  refine tF 3 J J S ?_
  refine tF 4 J J S ?_
  refine tL 5 J J (fun _ h=>h.cell 1 J J) S ?_
  refine tF 6 J J S ?_
  refine tL 7 J J (fun _ h=>h.cell 0 J J) S ?_
  obtain⟨b27,rfl⟩:=H.jm 3 rfl qf
  have S:=H.ve (zR 0 5)<|zR 0 5
  refine tI 8 J J J S ?_
  refine tF 9 J J S ?_
  refine tF 10 J J S ?_
  obtain⟨ah1,aoz,aqq,aey,abi,abO,au7,avJ,atX,aej,acg,ab0,auQ,auC,atH,apm,amG,aqU,Da,H⟩:=H.jV zV 3 rfl 3 rfl rfl d.fA.toNat qf
  have S:=H.ve (zR 0 5)<|zR 6 5
  refine rt 11 _ (jZ (off:=0+(d.fA:Int).toNat*16+0+4) isAgg28 J<|fun _ h=>(h.zD 3 J (Da 4 _ J) qf)) S ?_
  refine tN 12 J J S ?_
  refine xx qh<|zg<|sq 1<|zjn<|cD J (fun Gp=>?_)<|fun Gp=>?_
  ·refine xe (t_n<|xO<|xg<|xO<|vW 3 J H [0,1,2,3,4] [0,1,2,3,4,5,6,7,8,9,10] fun H=>?_)
   dsimp only[yu,yU]
   have S:=H.ve (zR 0 5)<|zR 0 11
   refine rtl 0 S ?_
   refine rtl 1 S ?_
   refine tF 2 J J S ?_
   refine tF 3 J J S ?_
   refine tL 4 J J (fun _ h=>h.cell 1 J J) S ?_
   refine tF 5 J J S ?_
   refine tL 6 J J (fun _ h=>h.cell 0 J J) S ?_
   refine tI 7 J J J S ?_
   refine tF 8 J J S ?_
   refine tF 9 J J S ?_
   refine rt 10 _ (jZ (off:=0+(d.fA:Int).toNat*16+0+4) isAgg28 J<|fun _ h=>(h.zD 3 J (Da 4 _ J) qf)) S ?_
   refine rtp 11 (yI b) S ?_
   refine xx qh<|zg ?_
   obtain⟨Me,o33,rfl⟩:=H.addr 2 rfl qf
   refine oI J J<|oL J (H.elemBoolN 2 J b qf)<|sq 1<|zjn<|vP _ J (fun Po=>?_)<|fun Po=>?_
   ·replace Po:=xF Po
    refine zcr<|sp (Bv false)<|zjr<|zr5<|b_r<|t_r<|ret1 (Bv false) J J ⟨_,J,(⟨false,J,N,H.xG 5 11 (zR 1 4) (zR 6 5) xE xE⟩)⟩
   replace Po:=xw Po
   refine xe<|b_n<|t_n<|zf<|sp (yI b)<|sw<|zY b 1 J J qf<|sq 1<|xX<|xu (m':=(sv[d.fA.toNat]!.qC.jA.length-(b+1):Nat)) qf ⟨_,b+1,uE3,?_,J,N,H.xG 5 11 (zR 0 5) (zR 6 5) xE xE⟩
   ·omega
  refine zx4<|xO<|vW 2 J H [0,1,2,3,4] [0,1,2,3,4,5,6,7,8,9,10] fun H=>?_
  dsimp only[yu,yU]
  have S:=H.ve (zR 0 5)<|zR 0 11
  refine rtl 0 S ?_
  refine rtl 1 S ?_
  refine tF 2 J J S ?_
  refine tF 3 J J S ?_
  refine tL 4 J J (fun _ h=>h.cell 1 J J) S ?_
  refine tF 5 J J S ?_
  refine tL 6 J J (fun _ h=>h.cell 0 J J) S ?_
  refine tI 7 J J J S ?_
  refine tF 8 J J S ?_
  refine tF 9 J J S ?_
  refine rt 10 _ (jZ (off:=0+(d.fA:Int).toNat*16+0+3) isAgg4 J<|fun _ h=>(h.zD 3 J (Da 3 _ J) qf)) S ?_
  refine rtp 11 (Bv sv[d.fA.toNat]!.qC.qY) S ?_
  cases Cj:sv[d.fA.toNat]!.qC.qY
  ·refine vC (zR 12 4) 4 (H.pick (zR 0 5)<|zR 0 11)<|xx qh<|zg<|sp (Bv false)<|sp (Bv false)<|zjr<|b_r<|t_r<|ret1 (Bv false) J J ⟨_,J,(⟨false,J,N,H.xG 5 11 (zR 1 4) (zR 6 5) xE xE⟩)⟩
  have S:=H.ve (zR 0 5)<|zR 0 11
  refine rgl 12 100 S ?_
  refine gF 13 J J S ?_
  refine gL 14 J J (fun _ h=>h.cell 0 J J) S ?_
  refine jw [15] qh qm<|Vu J (e:=100) J J (vF #[pp bk 0,yI d.fA] J J call105<|en func105 ntmps105 ?_) jy
  refine zcr<|sp (Bv false)<|zjc<|sq 2<|oF J<|oF J<|oL J (H.cell 1 J J)<|sq 1<|oI J J<|sq 1<|zjn<|xO<|vW 2 J H [0,1,2,3,4] [0,1,2,3,4,5,6,7,8,9,10] fun H=>?_
  dsimp only[yu,yU]
  have S:=H.ve (zR 0 5)<|zR 0 11
  refine rtl 0 S ?_
  refine rtl 1 S ?_
  refine tF 2 J J S ?_
  refine tF 3 J J S ?_
  obtain⟨ajr,aq7,ajW,abK,abt,ac2,ava,auI,avq,adA,aeI,abh,aub,avf,auu,ajR,ar5,asy,ahE,H⟩:=H.jV Qk 3 rfl 9 rfl rfl d.fA.toNat qf
  have S:=H.ve (zR 0 5)<|zR 6 11
  refine rt 4 _ (jZ (off:=0+(d.fA:Int).toNat*16+8+0) isAgg2 J<|fun _ h=>(h.zD 3 J (ahE 0 _ J) qf)) S ?_
  refine rtl 5 S ?_
  refine rtl 6 S ?_
  refine tF 7 J J S ?_
  refine tF 8 J J S ?_
  refine rt 9 _ (jZ (off:=0+(d.fA:Int).toNat*16+0+0) isAgg2 J<|fun _ h=>(h.zD 3 J (Da 0 _ J) qf)) S ?_
  refine rtp 10 (Bv ((sv[d.fA.toNat]!.qR.qK:Int) == sv[d.fA.toNat]!.qC.qK)) S ?_
  refine rtp 11 (Bv ((sv[d.fA.toNat]!.qR.qK:Int) == sv[d.fA.toNat]!.qC.qK)) S ?_
  cases tZ:((sv[d.fA.toNat]!.qR.qK:Int) == sv[d.fA.toNat]!.qC.qK)
  ·replace tZ:=ne_of_beq_false tZ
   refine vC (zR 12 5) 5 (H.pick (zR 0 5)<|zR 6 11)<|xx qh<|zg<|sp (Bv false)<|sp (Bv false)<|zjr<|ret1 (Bv false) J J ⟨_,J,(⟨H.pick (zR 0 5)<|zR 6 11,(xx qh<|zg<|sp (Bv false)<|sp (Bv false)<|zjr<|b_r<|t_r<|ret1 (Bv false) J J ⟨_,J,(⟨false,J,N,H.xG 5 17 (zR 1 4) (zR 12 5) xE xE⟩)⟩)⟩)⟩
  replace tZ:=eq_of_beq tZ
  have S:=H.ve (zR 0 5)<|zR 6 11
  refine rgl 12 24 S ?_
  refine rgl 13 24 S ?_
  refine gF 14 J J S ?_
  refine gF 15 J J S ?_
  refine rg 16 _ 24 (jZ (off:=0+(d.fA:Int).toNat*16+8+3) isAgg4 J<|fun _ h=>(h.zD 3 J (ahE 3 _ J) qf)) S ?_
  refine xx qh<|zg<|sq 2<|zjr<|ret1 (Bv sv[d.fA.toNat]!.qR.qY) J J ⟨_,J,(⟨H.pick (zR 0 5)<|zR 6 11,(xx qh<|zg<|sq 2<|zjr<|b_r<|t_r<|ret1 (Bv sv[d.fA.toNat]!.qR.qY) J J ⟨_,J,(⟨sv[d.fA.toNat]!.qR.qY,J,N,H.xG 5 17 (zR 1 4) (zR 12 5) xE xE⟩)⟩)⟩)⟩
 refine zcc<|sp (Bv ((d.xQ:Int) == 6))<|sp (Bv ((d.xQ:Int) == 6))<|zjn<|cE J (fun h42=>?_)<|fun h42=>?_
 ·refine xe (t_n<|vP ((d.xQ:Int) == 6) J (fun K2=>?_)<|fun h=>absurd h42<|ne_of_beq_false h)
  replace K2:=eq_of_beq K2
  refine xO<|vW 2 J H [0,1,2,3,4] [0,1,2,3,4] fun H=>?_
  dsimp only[yu,yU]
  have S:=H.ve (zR 0 5)<|zR 0 5
  refine tF 0 J J S ?_
  refine tL 1 J J (fun _ h=>h.cell 0 J J) S ?_
  refine rtl 2 S ?_
  refine rtl 3 S ?_
  refine tF 4 J J S ?_
  refine tF 5 J J S ?_
  refine tL 6 J J (fun _ h=>h.cell 1 J J) S ?_
  refine tN 7 J J S ?_
  refine xx qh<|zg<|sq 2<|zjr<|b_r<|t_r<|ret1 (Bv<|decide ((d.fA:Int)<wi.length)) J J ⟨_,J,(⟨decide ((d.fA:Int)<wi.length),J,N,H.xG 5 5 (zR 1 4) (zR 0 5) xE xE⟩)⟩
 refine zcr<|sp (Bv ((d.xQ:Int) == 7))<|sp (Bv ((d.xQ:Int) == 7))<|zjn<|cE J (fun BC=>?_)<|fun BC=>?_
 ·refine xe (t_n<|vP ((d.xQ:Int) == 7) J (fun Th=>?_)<|fun h=>absurd BC<|ne_of_beq_false h)
  replace Th:=eq_of_beq Th
  refine xO<|vW 2 J H [0,1,2,3,4] [0,1,2,3,4] fun H=>?_
  dsimp only[yu,yU]
  have S:=H.ve (zR 0 5)<|zR 0 5
  refine tF 0 J J S ?_
  refine tL 1 J J (fun _ h=>h.cell 0 J J) S ?_
  refine rtl 2 S ?_
  refine rtl 3 S ?_
  refine tF 4 J J S ?_
  refine tF 5 J J S ?_
  refine tL 6 J J (fun _ h=>h.cell 1 J J) S ?_
  refine tN 7 J J S ?_
  refine xx qh<|zg<|sq 2<|zjr<|b_r<|t_r<|ret1 (Bv<|decide ((d.fA:Int)<wi.length)) J J ⟨_,J,(⟨decide ((d.fA:Int)<wi.length),J,N,H.xG 5 5 (zR 1 4) (zR 0 5) xE xE⟩)⟩
 refine zf<|sp (Bv ((d.xQ:Int) == 8))<|sp (Bv ((d.xQ:Int) == 8))<|zjn<|cE J (fun Fv=>?_)<|fun Fv=>?_
 ·refine xO (vW 2 J H [0,1,2,3,4] [0,1,2,3,4] fun H=>?_)
  dsimp only[yu,yU]
  have S:=H.ve (zR 0 5)<|zR 0 5
  refine tF 0 J J S ?_
  refine tL 1 J J (fun _ h=>h.cell 0 J J) S ?_
  refine rtl 2 S ?_
  refine rtl 3 S ?_
  refine tF 4 J J S ?_
  refine tF 5 J J S ?_
  refine tL 6 J J (fun _ h=>h.cell 1 J J) S ?_
  refine tN 7 J J S ?_
  refine xx qh<|zg<|sq 2<|zjr<|b_r<|t_r<|ret1 (Bv<|decide ((d.fA:Int)<wi.length)) J J ⟨_,J,(⟨decide ((d.fA:Int)<wi.length),J,N,H.xG 5 5 (zR 1 4) (zR 0 5) xE xE⟩)⟩
 refine xe<|b_n<|t_n<|zcr<|sp (Bv true)<|zjr<|ret1 (Bv true) J J ⟨_,J,(⟨true,J,N,H.xG 5 5 (zR 1 4) (zR 0 5) xE xE⟩)⟩
theorem dDeeds_ok(ag:List UInt8)(ip:Int)(sd:Int)(bs:Nat)(ac:yOA)(cc:Nat)(Fc:yLN)(s:qJ)(own:yLI)(ap:yOA)(cp:Nat)(Fp:yLN)(ar:yOA)(cr:Nat)(Fr:yLN)(ao:yOA)(co:Nat)(Fo:yLN)(t:qV)(tA:yOA)(cA:Nat)(FA:yLN)(tB:yOA)(cB:Nat)(FB:yLN)(tU:yOA)(cU:Nat)(FU:yLN)(sb:Nat)(tb:Nat)(eM:Int)(n:Nat)(H:St W0 w ((.box bs [Sv ac ag.length cc,yI ip,.int .u64 sd] 116)::(.box sb (yS s ap cp ar cr) 27)::(.box tb (yT t tA cA tB cB tU cU) 31)::ps) ((sF false Fc ac cc ag)::(sF false Fp ap cp s.qA)::(sF false Fr ar cr s.qB)::(sF false Fo ao co own)::(sF false FA tA cA t.qO)::(sF false FB tB cB t.qG)::(sF false FU tU cU t.qF)::Γ))(N:Fresh W0.heap.size (Ns))(K0:Kept Ns Γ)(q0:0<=ip/\ip<=30000)(p0:Giv s own n)(p1:XH own n)(p2:zA s t)(p3:1<=eM/\eM<=40)(OL:∀f∈(sF false Fc ac cc ag::sF false Fp ap cp s.qA::sF false Fr ar cr s.qB::sF false Fo ao co own::sF false FA tA cA t.qO::sF false FB tB cB t.qG::sF false FU tU cU t.qF::Γ),∀b∈f.F,b<W0.heap.size):Calls Tryz.prog 25 #[pp bs 0,pp sb 0,Sv ao own.length co,pp tb 0,yI eM] w (fun e w'=>∃v,e=.returned v/\∃(lA:Int) (B5:Int) (nx:List Qu) (rad:yOA) (rnd:Nat) (rcd:Nat) (rxd:List Value) (rFd:yLN),(ip<=lA/\lA<=ip+5000)/\(Deeds nx/\(nx.length:Int)<=eM)/\v=Sv rad rnd rcd/\Fresh W0.heap.size (rFd::Ns)/\St W0 w' ((.box bs [Sv ac ag.length cc,yI lA,.int .u64 B5] 116)::(.box sb (yS s ap cp ar cr) 27)::(.box tb (yT t tA cA tB cB tU cU) 31)::(rr rad rnd rcd 44 3 rxd)::ps) ((sF false Fc ac cc ag)::(sF false Fp ap cp s.qA)::(sF false Fr ar cr s.qB)::(sF false Fo ao co own)::(sF false FA tA cA t.qO)::(sF false FB tB cB t.qG)::(sF false FU tU cU t.qF)::(qX true rFd rxd nx)::Γ)):=by
 refine en func25 ntmps25 ?_
 have e2:=p1.one
 have bl:(xk s own t n).qE.length=n:=beginTo_len s own t n
 refine zcr<|sq 1<|zjc<|sw<|jS H underlying34 ti44 fun b1 w2 H=>sq 1<|zjc<|sq 3 ?_
 have H1:=H.yD 4 7 [2,3,0,1] [1,2,3,4,5,6,0] xE xE
 have N1:Fresh _ (Ns):=N
 have K1:Kept (Ns) ((sF false Fc ac cc ag)::Γ):=K0.behind 1 J
 refine sw<|zT #[pp sb 0,Sv ao own.length co,pp tb 0] J J call62 (begin_spec s own ap cp Fp ar cr Fr ao co Fo t tA cA FA tB cB FB tU cU FU sb tb n H1 N1 K1 qg qg qg<|xU (vw OL 1 J)<|xU (vw OL 2 J)<|xU (vw OL 3 J)<|xU (vw OL 4 J)<|xU (vw OL 5 J)<|xU (vw OL 6 J)<|xU (vw OL 0 J)<|VA OL 7 J) ?_
 clear H H1 N1 K1
 rintro _ w3 ⟨Jn,iL,rn7,Hp,L9,za,sj,agK,J0,FM,GO,rfl,N,H⟩
 obtain rfl:=H.xf (α:=zI) 3 rfl 6 rfl qj
 obtain rfl:=H.xf (α:=zC) 4 rfl 7 rfl qj
 refine sq 1<|zjcc<|sq 2<|sw<|zY eM 1 J J qf ?_
 have H1:=H.yD 7 9 [6,0,1,2,3,4,5] [8,0,1,2,3,4,5,6,7] xE xE
 have N1:Fresh _ (za::GO::Ns):=N
 have K1:Kept (Ns) ((sF false Fp ap cp s.qA)::(sF false Fr ar cr s.qB)::(sF false Fo ao co own)::(sF false FA tA cA t.qO)::(sF false FB tB cB t.qG)::(sF false FU tU cU t.qF)::(qX true za L9 ((xk s own t n).qE))::(qX true GO FM ((xk s own t n).vz))::Γ):=K0.behind 8 J
 replace K1:=K1.cons (F:=GO) 7 J J
 replace K1:=K1.cons (F:=za) 6 J J
 refine sw<|zT #[pp bs 0,yI<|eM+1] J J call59 (Qb ag ip sd bs ac cc Fc (eM+1) H1 N1 K1 qg) ?_
 clear H H1 N1 K1
 rintro _ Kj ⟨Tr,GF,S5,Ko,acZ,rfl,N,H⟩
 refine sq 1<|zjn<|xg ?_
 replace H:=H.boxRow 6 J 3 0 J qj
 dsimp only[List.set] at H
 replace H:=H.yF (α:=Qu)
 replace H:St _ _ ((.box bs [Sv ac ag.length cc,yI Tr,.int .u64 GF] 116)::(.box sb (yS s ap cp ar cr) 27)::(.box tb (yT t tA cA tB cB tU cU) 31)::(.box Jn [pp sb 0,Sv ao own.length co,Sv iL (((xk s own t n).qE).length) Hp,Sv sj (((xk s own t n).vz).length) J0] 86)::(rr iL (((xk s own t n).qE).length) Hp 49 16 L9)::(rr sj (((xk s own t n).vz).length) J0 77 4 FM)::(rr (aa b1 0) 0 0 44 3 [])::ps) ((qX true [] [] ([]:List Qu))::(sF false Fc ac cc ag)::(sF false Fp ap cp s.qA)::(sF false Fr ar cr s.qB)::(sF false Fo ao co own)::(sF false FA tA cA t.qO)::(sF false FB tB cB t.qG)::(sF false FU tU cU t.qF)::(qX true za L9 ((xk s own t n).qE))::(qX true GO FM ((xk s own t n).vz))::Γ):=H
 refine vk ((fun Z0 Z1 Z2 Z3 Z4 Z5 Z6 Z7 Z8=>fun m' ρ E8=>∃(xR:Env) (yK:yOA) (yA:Nat) (yJ:Nat) (out:List Qu) (Q4:List Value) (QJ:yLN) (k:Int) (Qo:yOA) (Ql:Nat) (Qn:Nat) (dh:List zC) (QQ:List Value) (jF:yLN) (bh:List zI) (jE:List Value) (zF:yLN) (dV:Int) (cW:Int),ρ=upd (upd (upd (upd (upd (upd xR 0<|pp bs 0) 1<|pp sb 0) 2<|Sv ao own.length co) 11<|Sv yK yA yJ) 12<|pp Jn 0) 13 (yI k)/\(ip<=dV/\dV+100*k<=ip+4100)/\(0<=k/\(out.length:Int)+k<=eM)/\(QJ=[])/\(Deeds out)/\(Vo s own n (⟨bh,dh⟩:zO))/\m'=k.toNat/\Fresh W0.heap.size (QJ::jF::zF::Ns)/\St W0 E8 ((.box bs [Sv ac ag.length cc,yI dV,.int .u64 cW] 116)::Z0::Z1::(.box Jn [pp sb 0,Sv ao own.length co,Sv iL (((xk s own t n).qE).length) Hp,Sv Qo Ql Qn] 86)::(rr iL (((xk s own t n).qE).length) Hp 49 16 jE)::(rr Qo Ql Qn 77 4 QQ)::(rr yK yA yJ 44 3 Q4)::ps) ((qX true QJ Q4 out)::Z2::Z3::Z4::Z5::Z6::Z7::Z8::(qX true zF jE bh)::(qX true jF QQ dh)::Γ)) _ _ _ _ _ _ _ _ _) (S5.toNat) ⟨_,(aa b1 0),0,0,([]:List Qu),[],[],S5,sj,((xk s own t n).vz).length,J0,(xk s own t n).vz,FM,GO,(xk s own t n).qE,L9,za,Tr,GF,uE6,qf,qy,(by rfl),(by exact Deeds.nil),(by exact begin_ok p0 p2),J,(N.emp.xG 3 [0,2,1] xE),H⟩ ?_
 clear H N
 rintro m' ρ Gw ⟨xR,yK,yA,yJ,out,Q4,QJ,k,Qo,Ql,Qn,dh,QQ,jF,bh,jE,zF,dV,cW,rfl,i1,i2,i3,i4,i5,rfl,N,H⟩
 have VS:=H.xf (α:=Qu) 6 J 0 J qj
 have C5:=H.xf (α:=zC) 5 J 9 J qj
 have nA:=H.xf (α:=zI) 4 J 8 J qj
 have tl:bh.length=n:=i5.len
 have tf:dh.length<=12:=i5.few
 obtain rfl:=i3
 refine zcc<|sp (yI k)<|sp (Bv<|decide ((k:Int)>0))<|zjn<|cD J (fun R4=>?_)<|fun R4=>?_
 ·refine xe (t_n<|xO<|xg<|zcr<|sq 2 ?_)
  have H1:=H.yD 7 10 [0,3,1,2,4,5,6] [1,0,2,3,4,5,6,7,8,9] xE xE
  have N1:Fresh _ ([]::jF::zF::Ns):=N
  have K1:Kept (Ns) ((qX true [] Q4 out)::(sF false Fp ap cp s.qA)::(sF false Fr ar cr s.qB)::(sF false Fo ao co own)::(sF false FA tA cA t.qO)::(sF false FB tB cB t.qG)::(sF false FU tU cU t.qF)::(qX true zF jE bh)::(qX true jF QQ dh)::Γ):=K0.behind 9 J
  replace K1:=K1.cons (F:=zF) 7 J J
  replace K1:=K1.cons (F:=jF) 8 J J
  replace K1:=K1.cons (F:=[]) 0 J J
  refine sw<|zT #[pp bs 0,pp Jn 0] J J call63 (dNextDeed_ok ag dV cW bs ac cc Fc sb ao own.length co Jn iL (((xk s own t n).qE).length) Hp Qo Ql Qn H1 N1 K1 qg qg qg) ?_
  clear H H1 N1 K1
  rintro _ E3 ⟨azQ,axH,MI,PU,atf,On,Da,rfl,N,H⟩
  refine sw<|x8 H ti44 [yI 0,yI 0,yI 0] fun b35 JP H=>sw<|xZ H 0 [yI MI,yI PU,yI atf] sizeOf44 fun w37 H=>?_
  dsimp only[List.set] at H
  refine zjcc<|sp (yI 0)<|zjn<|xg<|vk ((fun Z0 Z1 Z2 Z3 Z4 Z5 Z6 Z7 Z8 Z9 dU eC fe fR gB ij=>fun m' ρ Qt=>∃(xR:Env) (xr:Nat) (cC:Int) (cF:Int) (bR:Int) (nT:Int) (nS:Int),ρ=upd (upd (upd (upd (upd (upd (upd (upd xR 0<|pp bs 0) 1<|pp sb 0) 2<|Sv ao own.length co) 11<|Sv yK yA yJ) 12<|pp Jn 0) 13<|yI k) 14<|pp b35 0) 15 (yI xr)/\(ip<=cC/\cC+100*k+25*(3-xr)<=ip+4195)/\(DrawnD n ⟨bR,nT,nS⟩)/\(xr<=3)/\m'=(3-xr:Nat)/\Fresh W0.heap.size ([]::jF::zF::Ns)/\St W0 Qt ((.box b35 [yI bR,yI nT,yI nS] 44)::(.box bs [Sv ac ag.length cc,yI cC,.int .u64 cF] 116)::Z0::Z1::Z2::Z3::Z4::Z5::ps) (Z6::Z7::Z8::Z9::dU::eC::fe::fR::gB::ij::Γ)) _ _ _ _ _ _ _ _ _ _ _ _ _ _ _ _) ((3-0:Nat)) ⟨_,0,azQ,axH,MI,PU,atf,uE8,qf,(by rw[←bl];assumption),qf,J,N,H⟩ ?_
  clear H N
  rintro m' ρ O1 ⟨xR,xr,cC,cF,bR,nT,nS,rfl,j1,j2,j3,rfl,N,H⟩
  have j4:DrawnD bh.length ⟨bR,nT,nS⟩:=by rw[tl];exact j2
  refine zcc<|sq 1<|sp (Bv<|decide ((xr:Int)<3))<|sp (Bv<|decide ((xr:Int)<3)) ?_
  cases rP:(decide ((xr:Int)<3))
  ·replace rP:=of_decide_eq_false rP
   refine zk [37,38,39]<|sp (Bv false)<|zjn<|cFr J<|zx4<|zcr<|sq 1<|sw<|xW [yI bR,yI nT,yI nS] isAgg44 sizeOf44 J (qH (H.cells 0 J) 0 3)<|sw<|zH H underlying34 ti44 [yI bR,yI nT,yI nS] fun GN Ul H=>sw<|zQ H 8 J 0 J underlying34 ti44 J qj J J J qw qp qf fun a43 c44 w45 H=>?_
   dsimp only[List.set] at H
   replace H:=H.snoc_DeedD 1 J bR nT nS
   replace N:Fresh W0.heap.size (([]++[])::jF::zF::Ns):=(Fresh.join<|Fresh.swap<|N.emp)
   refine sq 1<|zjn<|zf<|sq 1<|sw<|xW [yI bR,yI nT,yI nS] isAgg44 sizeOf44 J (qH (H.cells 1 J) 0 3) ?_
   have dd:=j2.1
   have tk:=i5
   have H1:=H.yD 9 11 [3,4,6,7,0,1,2,5,8] [3,4,5,9,10,0,1,2,6,7,8] xE xE
   have N1:Fresh _ (zF::jF::([]++[])::Ns):=(N.xG 3 [2,1,0] xE)
   have K1:Kept (Ns) ((qX true ([]++[]) (Q4++[yI bR,yI nT,yI nS])<|out++[(⟨bR,nT,nS⟩:Qu)])::(sF false Fc ac cc ag)::(qX true [] Q4 out)::(sF false FA tA cA t.qO)::(sF false FB tB cB t.qG)::(sF false FU tU cU t.qF)::Γ):=K0.behind 6 J
   replace K1:=K1.cons (F:=([]++[])) 0 J J
   refine sw<|zT #[pp Jn 0,.agg #[yI bR,yI nT,yI nS]] J J call65 (sdo_ok s own ap cp Fp ar cr Fr ao co Fo sb bh dh Jn _ iL (((xk s own t n).qE).length) Hp jE zF Qo Ql Qn QQ jF (⟨bR,nT,nS⟩:Qu) H1 N1 K1 qg qg qg<|xU (vw OL 1 J)<|xU (vw OL 2 J)<|xU (vw OL 3 J)<|xU (old_nil J)<|xU (vw OL 0 J)<|xU (old_nil J)<|xU (vw OL 4 J)<|xU (vw OL 5 J)<|xU (vw OL 6 J)<|VA OL 7 J) ?_
   clear H H1 N1 K1
   rintro _ O7 ⟨aMH,Tp,Jy,aIL,aQi,aIX,aOn,rfl,N,H⟩
   obtain rfl:=H.xf (α:=zC) 3 rfl 4 rfl qj
   refine xX<|b_n<|t_n<|zf<|sp (yI k)<|sw<|o_sub k 1 J J qf<|sq 1<|xX<|xu (m':=(k-1).toNat) qf ⟨_,_,_,_,_,_,_,_,_,_,_,_,_,_,_,_,_,_,_,uE6,?_,?_,?_,?_,?_,J,(N.xG 3 [2,1,0] xE),H.xG 9 11 [6,1,7,0,2,3,8] [5,6,0,1,2,8,9,10,3,4] xE xE⟩
   ·omega
   ·simp;omega
   ·rfl
   ·exact i4.snoc dd
   ·exact doM_ok p0 tk dd
  replace rP:=of_decide_eq_true rP
  refine qP 36 J J<|sq 1<|qP 36 J J ?_
  have H1:=H.yD 8 10 [1,0,2,3,4,5,6,7] [0,1,2,3,4,5,6,7,8,9] xE xE
  have N1:Fresh _ ([]::jF::zF::Ns):=N
  have K1:Kept (Ns) ((qX true [] Q4 out)::(sF false Fp ap cp s.qA)::(sF false Fr ar cr s.qB)::(sF false Fo ao co own)::(sF false FA tA cA t.qO)::(sF false FB tB cB t.qG)::(sF false FU tU cU t.qF)::(qX true zF jE bh)::(qX true jF QQ dh)::Γ):=K0.behind 9 J
  replace K1:=K1.cons (F:=zF) 7 J J
  replace K1:=K1.cons (F:=jF) 8 J J
  replace K1:=K1.cons (F:=[]) 0 J J
  refine sw<|zT #[pp bs 0,yI 6] J J call58 (dOne_ok ag cC cF bs ac cc Fc (6:Int) H1 N1 K1 qg) ?_
  clear H H1 N1 K1
  rintro _ w55 ⟨Kx,Cw,arQ,amV,rfl,N,H⟩
  refine qP 36 J J<|sp (Bv !arQ)<|sp (Bv !arQ)<|zjn<|vP _ J (fun E1=>?_)<|fun E1=>?_
  ·replace E1:=xF E1
   refine xe<|t_n<|xO<|xg<|zcr<|sq 4<|oF J<|sw<|xW [Sv iL (((xk s own t n).qE).length) Hp,Sv Qo Ql Qn] isAgg39 sizeOf39 J (qH (H.cells 2 J) 2 2)<|sw<|vZ [pp sb 0,Sv ao own.length co,Sv iL (((xk s own t n).qE).length) Hp,Sv Qo Ql Qn] [(0,pp sb 0),(1,Sv ao own.length co),(2,.agg #[Sv iL (((xk s own t n).qE).length) Hp,Sv Qo Ql Qn])]<|sw<|jb H [pp sb 0,Sv ao own.length co,Sv iL (((xk s own t n).qE).length) Hp,Sv Qo Ql Qn] fun b62 w63 H=>sq 1<|zjc<|sw<|xW [yI bR,yI nT,yI nS] isAgg44 sizeOf44 J (qH (H.cells 2 J) 0 3)<|sw<|x8 H ti44 [yI 0,yI 0,yI 0] fun b64 w65 H=>sw<|xZ H 0 [yI bR,yI nT,yI nS] sizeOf44 fun w66 H=>?_
   dsimp only[List.set] at H
   refine zjcc<|sq 1<|sw<|xW [yI bR,yI nT,yI nS] isAgg44 sizeOf44 J (qH (H.cells 0 J) 0 3) ?_
   have H1:=H.yD 10 10 [1,5,7,8,0,2,3,4,6,9] [2,3,4,8,9,0,1,5,6,7] xE xE
   have N1:Fresh _ (zF::jF::[]::Ns):=(N.xG 3 [2,1,0] xE)
   have K1:Kept (Ns) ((sF false Fc ac cc ag)::(qX true [] Q4 out)::(sF false FA tA cA t.qO)::(sF false FB tB cB t.qG)::(sF false FU tU cU t.qF)::Γ):=K0.behind 5 J
   replace K1:=K1.cons (F:=[]) 1 J J
   refine sw<|zT #[pp b62 0,.agg #[yI bR,yI nT,yI nS]] J J call64 (dWould_ok s own ap cp Fp ar cr Fr ao co Fo sb bh dh b62 _ iL (((xk s own t n).qE).length) Hp jE zF Qo Ql Qn QQ jF (⟨bR,nT,nS⟩:Qu) H1 N1 K1 qg qg qg) ?_
   clear H H1 N1 K1
   rintro _ w67 ⟨aML,rfl,N,H⟩
   refine zjn<|vP _ J (fun h70=>?_)<|fun h70=>?_
   ·refine c_exit (t_x<|b_o J<|t_x<|t_x<|b_x<|t_n<|zcr<|sq 1<|sw<|xW [yI bR,yI nT,yI nS] isAgg44 sizeOf44 J (qH (H.cells 6 J) 0 3)<|sw<|zH H underlying34 ti44 [yI bR,yI nT,yI nS] fun b71 LT H=>sw<|zQ H 10 J 0 J underlying34 ti44 J qj J J J qw qp qf fun a73 c74 w75 H=>?_)
    dsimp only[List.set] at H
    replace H:=H.snoc_DeedD 6 J bR nT nS
    replace N:=(Fresh.join<|Fresh.swap ((N.Xr 3 [2,0,1]).emp))
    refine sq 1<|zjn<|zf<|sq 1<|sw<|xW [yI bR,yI nT,yI nS] isAgg44 sizeOf44 J (qH (H.cells 7 J) 0 3) ?_
    have dd:=j2.1
    have tk:=i5
    have H1:=H.yD 11 11 [8,2,3,4,0,1,5,6,7,9,10] [1,2,3,4,5,0,6,7,8,9,10] xE xE
    have N1:Fresh _ (zF::jF::([]++[])::Ns):=(N.xG 3 [1,2,0] xE)
    have K1:Kept (Ns) ((qX true ([]++[]) (Q4++[yI bR,yI nT,yI nS])<|out++[(⟨bR,nT,nS⟩:Qu)])::(sF false Fc ac cc ag)::(qX true [] Q4 out)::(sF false FA tA cA t.qO)::(sF false FB tB cB t.qG)::(sF false FU tU cU t.qF)::Γ):=K0.behind 6 J
    replace K1:=K1.cons (F:=([]++[])) 0 J J
    refine sw<|zT #[pp Jn 0,.agg #[yI bR,yI nT,yI nS]] J J call65 (sdo_ok s own ap cp Fp ar cr Fr ao co Fo sb bh dh Jn _ iL (((xk s own t n).qE).length) Hp jE zF Qo Ql Qn QQ jF (⟨bR,nT,nS⟩:Qu) H1 N1 K1 qg qg qg<|xU (vw OL 1 J)<|xU (vw OL 2 J)<|xU (vw OL 3 J)<|xU (old_nil J)<|xU (vw OL 0 J)<|xU (old_nil J)<|xU (vw OL 4 J)<|xU (vw OL 5 J)<|xU (vw OL 6 J)<|VA OL 7 J) ?_
    clear H H1 N1 K1
    rintro _ w76 ⟨Sn,aLH,aJO,aPA,Ks,aKz,aQH,rfl,N,H⟩
    obtain rfl:=H.xf (α:=zC) 3 rfl 4 rfl qj
    refine xX<|b_n<|t_n<|zf<|sp (yI k)<|sw<|o_sub k 1 J J qf<|sq 1<|xX<|xu (m':=(k-1).toNat) qf ⟨_,_,_,_,_,_,_,_,_,_,_,_,_,_,_,_,_,_,_,uE6,?_,?_,?_,?_,?_,J,(N.xG 3 [2,1,0] xE),H.xG 11 11 [7,1,9,0,2,3,10] [5,6,0,1,2,8,9,10,3,4] xE xE⟩
    ·omega
    ·simp;omega
    ·rfl
    ·exact i4.snoc dd
    ·exact doM_ok p0 tk dd
   refine xe<|t_n<|zf<|sq 2 ?_
   have H1:=H.yD 10 10 [5,7,0,1,2,3,4,6,8,9] [5,0,1,2,3,4,6,7,8,9] xE xE
   have N1:Fresh _ (zF::jF::[]::Ns):=N
   have K1:Kept (Ns) ((sF false Fp ap cp s.qA)::(sF false Fr ar cr s.qB)::(sF false Fo ao co own)::(qX true zF jE bh)::(qX true jF QQ dh)::(qX true [] Q4 out)::(sF false FA tA cA t.qO)::(sF false FB tB cB t.qG)::(sF false FU tU cU t.qF)::Γ):=K0.behind 9 J
   replace K1:=K1.cons (F:=[]) 5 J J
   replace K1:=K1.cons (F:=jF) 4 J J
   replace K1:=K1.cons (F:=zF) 3 J J
   refine sw<|zT #[pp bs 0,pp Jn 0] J J call63 (dNextDeed_ok ag Kx Cw bs ac cc Fc sb ao own.length co Jn iL (((xk s own t n).qE).length) Hp Qo Ql Qn H1 N1 K1 qg qg qg) ?_
   clear H H1 N1 K1
   rintro _ w85 ⟨aON,Mt,Gr,FV,aDr,aiP,Uv,rfl,N,H⟩
   refine sw<|xZ H 7 [yI Gr,yI FV,yI aDr] sizeOf44 fun w94 H=>?_
   dsimp only[List.set] at H
   refine xX<|b_n<|t_n<|zf<|sq 1<|sw<|zY xr 1 J J qf<|sq 1<|xX<|xu (m':=(3-(xr+1):Nat)) qf ⟨_,xr+1,_,_,_,_,_,uE8,?_,?_,?_,J,(N.xG 3 [2,1,0] xE),H.xG 10 10 [7,0,1,3,8,4,5,9] [0,6,1,2,3,7,8,9,4,5] xE xE⟩
   ·omega
   ·rw[←bl];assumption
   ·omega
  replace E1:=xw E1
  refine zx4<|zcr<|sq 1<|sw<|xW [yI bR,yI nT,yI nS] isAgg44 sizeOf44 J (qH (H.cells 1 J) 0 3)<|sw<|zH H underlying34 ti44 [yI bR,yI nT,yI nS] fun b95 w96 H=>sw<|zQ H 8 J 0 J underlying34 ti44 J qj J J J qw qp qf fun a97 c98 w99 H=>?_
  dsimp only[List.set] at H
  replace H:=H.snoc_DeedD 1 J bR nT nS
  replace N:Fresh W0.heap.size (([]++[])::jF::zF::Ns):=(Fresh.join<|Fresh.swap<|N.emp)
  refine sq 1<|zjn<|zf<|sq 1<|sw<|xW [yI bR,yI nT,yI nS] isAgg44 sizeOf44 J (qH (H.cells 2 J) 0 3) ?_
  have dd:=j2.1
  have tk:=i5
  have H1:=H.yD 9 11 [3,4,6,7,0,1,2,5,8] [3,4,5,9,10,0,1,2,6,7,8] xE xE
  have N1:Fresh _ (zF::jF::([]++[])::Ns):=(N.xG 3 [2,1,0] xE)
  have K1:Kept (Ns) ((qX true ([]++[]) (Q4++[yI bR,yI nT,yI nS])<|out++[(⟨bR,nT,nS⟩:Qu)])::(sF false Fc ac cc ag)::(qX true [] Q4 out)::(sF false FA tA cA t.qO)::(sF false FB tB cB t.qG)::(sF false FU tU cU t.qF)::Γ):=K0.behind 6 J
  replace K1:=K1.cons (F:=([]++[])) 0 J J
  refine sw<|zT #[pp Jn 0,.agg #[yI bR,yI nT,yI nS]] J J call65 (sdo_ok s own ap cp Fp ar cr Fr ao co Fo sb bh dh Jn _ iL (((xk s own t n).qE).length) Hp jE zF Qo Ql Qn QQ jF (⟨bR,nT,nS⟩:Qu) H1 N1 K1 qg qg qg<|xU (vw OL 1 J)<|xU (vw OL 2 J)<|xU (vw OL 3 J)<|xU (old_nil J)<|xU (vw OL 0 J)<|xU (old_nil J)<|xU (vw OL 4 J)<|xU (vw OL 5 J)<|xU (vw OL 6 J)<|VA OL 7 J) ?_
  clear H H1 N1 K1
  rintro _ aqu ⟨aFC,aHk,aD8,ahZ,CZ,aIj,aFG,rfl,N,H⟩
  obtain rfl:=H.xf (α:=zC) 3 rfl 4 rfl qj
  refine xX<|b_n<|t_n<|zf<|sp (yI k)<|sw<|o_sub k 1 J J qf<|sq 1<|xX<|xu (m':=(k-1).toNat) qf ⟨_,_,_,_,_,_,_,_,_,_,_,_,_,_,_,_,_,_,_,uE6,?_,?_,?_,?_,?_,J,(N.xG 3 [2,1,0] xE),H.xG 9 11 [5,1,7,0,2,3,8] [5,6,0,1,2,8,9,10,3,4] xE xE⟩
  ·omega
  ·simp;omega
  ·rfl
  ·exact i4.snoc dd
  ·exact doM_ok p0 tk dd
 refine zx4<|zcr<|sq 2<|zjr<|ret1 (Sv yK yA yJ) J J ⟨_,J,(⟨dV,cW,out,yK,yA,yJ,Q4,[],qf,(by exact⟨i4,by omega⟩),J,(N.xG 3 [0] xE),H.xG 7 10 [0,1,2,6] [1,2,3,4,5,6,7,0] xE xE⟩)⟩
theorem a2Deeds_ok(ag:List UInt8)(ac:yOA)(cc:Nat)(Fc:yLN)(s:qJ)(own:yLI)(ap:yOA)(cp:Nat)(Fp:yLN)(ar:yOA)(cr:Nat)(Fr:yLN)(ao:yOA)(co:Nat)(Fo:yLN)(t:qV)(tA:yOA)(cA:Nat)(FA:yLN)(tB:yOA)(cB:Nat)(FB:yLN)(tU:yOA)(cU:Nat)(FU:yLN)(n:Nat)(H:St W0 w (ps) ((sF false Fc ac cc ag)::(sF false Fp ap cp s.qA)::(sF false Fr ar cr s.qB)::(sF false Fo ao co own)::(sF false FA tA cA t.qO)::(sF false FB tB cB t.qG)::(sF false FU tU cU t.qF)::Γ))(N:Fresh W0.heap.size (Ns))(K0:Kept Ns Γ)(p0:Giv s own n)(p1:XH own n)(p2:zA s t)(OL:∀f∈(sF false Fc ac cc ag::sF false Fp ap cp s.qA::sF false Fr ar cr s.qB::sF false Fo ao co own::sF false FA tA cA t.qO::sF false FB tB cB t.qG::sF false FU tU cU t.qF::Γ),∀b∈f.F,b<W0.heap.size):Calls Tryz.prog 9 #[Sv ac ag.length cc,.agg #[yI s.qQ,Sv ap s.qA.length cp,Sv ar s.qB.length cr],Sv ao own.length co,.agg #[Sv tA t.qO.length cA,Sv tB t.qG.length cB,Sv tU t.qF.length cU]] w (fun e w'=>∃v,e=.returned v/\∃(nx:List Qu) (rad:yOA) (rnd:Nat) (rcd:Nat) (rxd:List Value) (rFd:yLN),(Deeds nx/\(nx.length:Int)<=40)/\v=Sv rad rnd rcd/\Fresh W0.heap.size (rFd::Ns)/\St W0 w' ((rr rad rnd rcd 44 3 rxd)::ps) ((sF false Fc ac cc ag)::(sF false Fp ap cp s.qA)::(sF false Fr ar cr s.qB)::(sF false Fo ao co own)::(sF false FA tA cA t.qO)::(sF false FB tB cB t.qG)::(sF false FU tU cU t.qF)::(qX true rFd rxd nx)::Γ)):=by
 refine en func9 ntmps9 ?_
 refine zcr<|sw<|jb H (yS s ap cp ar cr) fun b1 w2 H=>sw<|jb H (yT t tA cA tB cB tU cU) fun b3 w4 H=>sq 1<|zjc<|sq 1<|sw<|vF #[Sv ac ag.length cc] J J call24<|en func24 ntmps24 ?_
 refine zcr<|sq 1<|zjc<|sq 1<|sw<|vZ [Sv ac ag.length cc,yI 0,.int .u64 0] [(0,Sv ac ag.length cc)]<|sw<|jb H [Sv ac ag.length cc,yI 0,.int .u64 0] fun b5 w6 H=>sq 1<|zjr<|ret1 (pp b5 0) J J ⟨_,J,(sq 1 ?_)⟩
 have H1:=H.yD 3 7 [0,2,1] [0,1,2,3,4,5,6] xE xE
 have N1:Fresh _ (Ns):=N
 have K1:Kept (Ns) (Γ):=K0.behind 0 J
 refine sw<|zT #[pp b5 0,pp b1 0,Sv ao own.length co,pp b3 0,yI 40] J J call25 (dDeeds_ok ag (0:Int) 0 b5 ac cc Fc s own ap cp Fp ar cr Fr ao co Fo t tA cA FA tB cB FB tU cU FU b1 b3 (40:Int) n H1 N1 K1 qg qg qg qg qg<|xU (vw OL 0 J)<|xU (vw OL 1 J)<|xU (vw OL 2 J)<|xU (vw OL 3 J)<|xU (vw OL 4 J)<|xU (vw OL 5 J)<|xU (vw OL 6 J)<|VA OL 7 J) ?_
 clear H H1 N1 K1
 rintro _ w7 ⟨cT,R8,aea,se,axI,xV,KZ,aBl,hx9,ayb,rfl,N,H⟩
 obtain rfl:=H.xf (α:=Qu) 3 rfl 7 rfl qj
 refine sq 1<|zjr<|ret1 (Sv se aea.length xV) J J ⟨_,J,(⟨aea,se,aea.length,xV,KZ,aBl,ql,J,N,H.xG 4 8 [3] (zR 0 8) xE xE⟩)⟩
end
section
section
variable{P : Program}{Q : Exit -> Act -> World -> Prop}{n : Nat}{ρ : Env}{W0 w : World}{ps : List Prv}{Γ : List Fact}
 {d:Nat} {op:Op} {ty:TypeId} {pos:String} {af:Array Edge} {K:Env->World->Prop}
theorem o_cvt[Dfr]{s:TypeId}{ds:TypeDesc}{k k':IntKind}(a:Int)(hs:P.underlying s=some ds)(ht:P.underlying t=some (.int k'))(hx:ev n ρ x=.int k a)(hw:k'.wrap a=a)(h:K (upd ρ d<|.int k' a) w):
 OW P Q ⟨some d,.convert s t x,ty,pos,af,none⟩ n ρ w K:=
 Xx _ (by simp[execOp,hx,convert,run_underlying hs,run_underlying ht,Conv.intToInt,hw]) h
theorem o_gtU[Dfr](a b:Int){c:Bool}(hx:ev n ρ x=.int .u64 a)(hy:ev n ρ y=.int .u64 b)(hc:decide (a>b)=c)(k:K (upd ρ d<|Bv c) w):OW P Q ⟨some d,.binOp .gtr t x y u,ty,pos,af,none⟩ n ρ w K:=by
 subst hc
 exact Xx (Bv<|decide<|a>b) (by simp[execOp,hx,hy,eqGuard,binOp,Op.intCmp]) k
theorem o_copyN[Dfr]{e:TypeId}{z:Value}{e9 c2 c3 nn m1 q dc:Nat}{A:Addr}{xs ke:List Value}(H:St W0 w ps Γ)(k:Nat)(hp:ps[k]? =some (.row (Sv (some ⟨b,0,none⟩) nn c) e 1 nn xs))
 (hu:P.underlying t=some (.slice e)) (he:TI P e z 1 e9) (hx:ev n ρ x=Sv (some ⟨b,q,none⟩) m1 c3) (hy:ev n ρ y=Sv (some A) m c2) (hc:Nat.min m m1=dc) (hl:ke.length=dc)
 (hn:∀r u,ke[r]? =some u->w.cell? (A.add r)=some u) (h1:∀u∈ke,u.oneCell'=true) (ho:q+ke.length<=xs.length)
 (kk:∀w',St W0 w' (ps.set k<|.row (Sv (some ⟨b,0,none⟩) nn c) e 1 nn<|xs.take q++ke++xs.drop (q+ke.length)) Γ->K (upd ρ d<|.int .i64 dc) w'):
 OW P Q ⟨some d,.call ⟨.builtin .copy,#[x,y],#[t,u]⟩,ty,pos,af,none⟩ n ρ w K:=by
 obtain⟨i',hi,Ue,MH,Tn⟩:=info_parts he
 have hz:i'.size=1:=by exact MH
 obtain⟨w',hr,H'⟩:=H.rowSet k hp q ke ho h1 (P:=P)
 have hfc:=run_firstCells_some (P:=P) w 1 dc A m c2 ke qf hn
 refine Xx (.int .i64 dc) ?_<|kk w' H'
 simp[execOp,resolve,invoke,builtin,hx,hy,Builtin.copy_,run_underlying hu,sizeOf,typeInfo,hi,hz,Builtin.lenOf,hc,hfc,hr,goInt]
end
def mulR:Go.Shelf.Ren:=⟨fun|212=>164|263=>174|264=>175|n=>n,fun|46=>180|51=>198|53=>114|146=>199|148=>201|n=>n,fun|n=>n⟩
open Go.Shelf Go.Lib in
theorem mulLay:Lays.n212 Tryz.prog mulR:={
 mixed:=by kernel_rfl
 f212:=Tryz.func164.trans (congrArg some qh)
 f263:=Tryz.func174.trans (congrArg some qh)
 f264:=Tryz.func175.trans (congrArg some qh)
 t46:=underlying180
 a46:=isAgg180
 z46:=sizeOf180
 v46:=zeroValue180
 t51:=underlying198
 a51:=isAgg198
 z51:=sizeOf198
 v51:=zeroValue198
 t53:=underlying114
 a53:=isAgg114
 z53:=sizeOf114
 v53:=zeroValue114
 t146:=underlying199
 a146:=isAgg199
 z146:=sizeOf199
 v146:=zeroValue199
 t148:=underlying201
 a148:=isAgg201
 z148:=sizeOf201
 v148:=zeroValue201 }
theorem mul_one(m:Nat)(hm:m<=1000)(w:World):Calls Tryz.prog 164 #[.int .u64 1,.int .u64 m] w fun e w'=>e=.returned (.tuple #[.int .u64 0,.int .u64 m])/\w'=w:=by
 have h:=Go.Proofs.Any.bits_Mul mulLay 1 m qf qf w
 rw[show 1*m / 18446744073709551616=0 from by omega,show 1*m % 18446744073709551616=m from by omega] at h
 exact h
theorem repeatB_ok(w:World)(x:List Bool)(A3:Int){ax:yOA}{cx:Nat}{Fx:yLN}(hx:zP w Fx ax cx x)(p0:x.length=1/\1<=A3/\A3<=1000):
 Calls Tryz.prog 138 #[Sv ax x.length cx,.int .i64 A3] w (Ret (fun v w'=>∃(ra:yOA) (rn:Nat) (rc:Nat),v=Sv ra rn rc/\Fresh w.heap.size []/\St w w' [rr ra rn rc 4 1 ((jg x A3).map<|Value.bool)] []) w):=by
 obtain⟨p1,p2,p3⟩:=p0
 obtain⟨m,rfl⟩:∃m:Nat,A3=m:=⟨A3.toNat,by omega⟩
 refine en Tryz.func138 Tryz.ntmps138 ?_
 have H:=(St.start w).arg hx
 clear hx
 rw[p1]
 refine xO<|zf<|sp (Sv none 0 0)<|xX<|t_n<|xO<|xO<|zf<|sp (.int .i64 m)<|sp (Bv<|decide ((m:Int)<0))<|xX<|t_n<|vP (decide ((m:Int)<0)) J (fun h=>?_)<|fun h=>?_
 ·have:=of_decide_eq_true h;omega
 refine xe<|t_n<|xO<|zf<|sp (Sv ax 1 cx)<|sw<|o_len underlying28 ax 1 cx J<|sw<|o_cvt 1 underlying3 underlying180 J (by rw[IntKind.wrap_u64];omega)<|sp (.int .i64 m)<|sw<|o_cvt m underlying3 underlying180 J (by rw[IntKind.wrap_u64];omega)<|sw<|zT (R:=fun v w'=>v=.tuple #[.int .u64 0,.int .u64 m]/\w'=w) #[.int .u64 1,.int .u64 m] J J call164 ((mul_one m qf _).mono fun e w' h=>⟨_,h.1,J,h.2⟩) ?_
 rintro _ w0 ⟨rfl,rfl⟩
 refine sps [.tuple #[.int .u64 0,.int .u64 m],.int .u64 0,.int .u64 m,.int .u64 0,.int .u64 m]<|xX<|t_n<|xO<|xO<|zf<|sp (.int .u64 0)<|sw<|o_gtU 0 0 (c:=false) J J qj<|sp (Bv false)<|qP 23 J J<|sp (.int .u64 m)<|qP 23 J J<|sw<|o_gtU m 9223372036854775807 (c:=false) J J qy<|sp (Bv false)<|xX<|t_n<|vP false J (fun h=>absurd h qj) fun _=>(xe<|t_n<|xO<|zf<|sp (.int .u64 m)<|sw<|o_cvt m underlying180 underlying3 J (wrap_in qf)<|sw<|o_make1 H underlying28 ti4 (by rfl) m J J qf qf fun b w1 H=>?_)
 replace H:=H.boxRow 0 J 1 m qm qp
 dsimp only[List.set] at H
 refine sp (Sv (some ⟨b,0,none⟩) m m)<|xX<|t_n<|xO<|zf<|sps [Sv (some ⟨b,0,none⟩) m m,Sv ax 1 cx] ?_
 obtain⟨bx,ox,rfl⟩:=H.addr 0 rfl qf
 have hb:=H.elemBoolN 0 J 0 qf
 refine sw<|o_copyN (q:=0) (dc:=1) (ke:=[Bv<|x[0]!]) H 0 J underlying28 ti4 J J ?_ J (fun r u hu=>?_) (fun u hu=>?_) ?_ fun w2 H=>?_
 ·show min 1 m=1
  omega
 ·cases r with
  |zero=>simp only[List.getElem?_cons_zero,Option.some.injEq] at hu;subst hu;exact hb
  |succ r=>simp at hu
 ·simp only[List.mem_singleton] at hu;subst hu;rfl
 ·simp;omega
 dsimp only[List.set] at H
 refine sp (.int .i64 1)<|xX<|t_n<|xO<|xg<|vk (fun m' ρ w3=>∃(xR:Env) (k:Nat),ρ=upd (upd xR 7<|Sv (some ⟨b,0,none⟩) m m) 8 (.int .i64 k)/\(1<=k/\k<=m)/\m'=m-k/\St w0 w3 [.row (Sv (some ⟨b,0,none⟩) m m) 4 1 m<|List.replicate k (Bv<|x[0]!)++List.replicate (m-k) (Bv false)] []) (m-1) ⟨_,1,uE2,by omega,J,?_⟩ ?_
 ·have e:List.take 0 (List.replicate m<|Value.bool false)++[Value.bool<|x[0]!]++List.drop (0+[Value.bool<|x[0]!].length) (List.replicate m<|Value.bool false)=List.replicate 1 (Bv<|x[0]!)++List.replicate (m-1) (Bv false):=by simp
  rw[e] at H
  exact H.pick [0] []
 clear H hb
 rintro m' ρ w3 ⟨xR,k,rfl,hk,rfl,H⟩
 refine xO<|xO<|zf<|sps [.int .i64 k,Sv (some ⟨b,0,none⟩) m m]<|sw<|o_len underlying28 (some ⟨b,0,none⟩) m m J<|sp (Bv<|decide ((k:Int)<m))<|xX<|t_n<|cD J (fun h5=>?_)<|fun h5=>?_
 ·refine xe (t_n<|xg<|vW 2 J H [] [] fun H=>?_)
  dsimp only[yu,yU]
  obtain⟨q,hq⟩:∃q,Nat.min k (m-k)=q:=⟨_,rfl⟩
  have hq1:q=min k (m-k):=hq.symm
  refine rtl 0 (H.pick [] []) ?_
  refine rtl 1 (H.pick [] []) ?_
  refine rtl 2 (H.pick [] []) ?_
  refine rt 3 (Sv (some ⟨b,if m=k then 0 else 0+k*1,none⟩) (m-k)<|m-k) (fun _ _=>y_from k underlying28 ti4 J J qf qf) (H.pick [] []) ?_
  refine rtl 4 (H.pick [] []) ?_
  refine rtl 5 (H.pick [] []) ?_
  refine rt 6 (Sv (some ⟨b,0,none⟩) k m) (fun _ _=>y_up k underlying28 ti4 J J qf) (H.pick [] []) ?_
  rw[if_neg<|show ¬m=k by omega]
  refine ro 7 J<|o_copyN (q:=0+k*1) (dc:=q) (ke:=List.replicate q<|Bv<|x[0]!) H 0 J underlying28 ti4 J J hq qm (fun r u hu=>?_) (fun u hu=>?_) ?_ fun w4 H=>⟨H.pick [] [],?_⟩
  ·obtain⟨hr,hu⟩:=List.getElem?_eq_some_iff.1 hu
   simp only[List.length_replicate] at hr
   simp only[List.getElem_replicate] at hu
   subst hu
   have h:=H.rowGet 0 J (i:=r) (v:=Bv<|x[0]!)<|by rw[List.getElem?_append_left qy,List.getElem?_replicate,if_pos qf]
   rw[Addr.add_lit,Nat.zero_add]
   exact h
  ·rw[(List.mem_replicate.1 hu).2];rfl
  ·simp;omega
  dsimp only[List.set] at H
  refine xx qh<|zg<|sw<|zY k q J J qf<|sp (.int .i64<|k+q)<|xX<|b_n<|xu (m':=m-(k+q)) qf ⟨_,k+q,uE2,by omega,J,?_⟩
  have e:List.take (0+k*1) (List.replicate k (Value.bool<|x[0]!)++List.replicate (m-k) (Value.bool false))++List.replicate q (Value.bool<|x[0]!)++List.drop (0+k*1+(List.replicate q<|Value.bool<|x[0]!).length) (List.replicate k (Value.bool<|x[0]!)++List.replicate (m-k) (Value.bool false))=
   List.replicate (k+q) (Bv<|x[0]!)++List.replicate (m-(k+q)) (Bv false):=by
   rw[show 0+k*1=(List.replicate k<|Value.bool<|x[0]!).length from by simp,List.take_left,List.drop_length_add_append,List.length_replicate,List.drop_replicate,List.replicate_append_replicate,Nat.sub_sub]
  rw[e] at H
  exact H
 ·obtain rfl:k=m:=by omega
  refine zx4<|zcr<|sq 2<|zjr<|rH1 (Sv (some ⟨b,0,none⟩) k k) H ⟨_,_,_,J,Fresh.nil _,?_⟩
  have e:List.replicate k (Value.bool<|x[0]!)++List.replicate (k-k) (Value.bool false)=(jg x k).map Value.bool:=by
   rw[Nat.sub_self]
   simp[jg]
  rw[e] at H
  exact H
end
end Go.Proofs.YtghikkinnchndaaGreat
