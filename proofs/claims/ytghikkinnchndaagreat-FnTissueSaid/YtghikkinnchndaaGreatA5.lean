/- Walks and laws, printed by program and by hand: what each function comes to, for all arguments, part 5. -/
import Derived.Test.YtghikkinnchndaaGreatA4
namespace Go.Proofs.YtghikkinnchndaaGreat
open Go.Proofs.Tryz
set_option linter.unusedVariables false
set_option linter.unusedSimpArgs false
set_option maxRecDepth 100000
set_option maxHeartbeats 4000000
open Go.RowKit
open Go.Proofs.Tryz
open Go.Proofs.YtghikkinnchndaaGreat.Tot (tot)
open Go.Proofs.YtghikkinnchndaaGreat.Mark (dc mrk mkd mkd_mark cnt_mark)
variable{F G:yLN}{L L' sv:List zI}{Ns:List yLN}{W0 w:World}{a:yOA}{b e9 c c' c2 i j m n2 nn off sz:Nat}{d:zG}{e t:TypeId}{fr:Bool}{iv k:Int}{l:List Bool}{p:zC}{ps:List Prv}{s y y1 y2:Operand}{v z:Value}{vs xs ys:List Value}{x:zI}{Γ:List Fact}
section
theorem l00Min8_ok(w:World)(a:Int)(b:Int):Calls Tryz.prog 60 #[yI a,yI b] w (Ret (fun v w'=>v=yI (min a b)) w):=by
 refine en func60 ntmps60 ?_
 have H:=St.start w
 refine zcr<|sp (yI 0)<|zjcc<|sp (yI a)<|sp (yI b)<|sq 1<|zjn<|cD J (fun h1=>?_)<|fun h1=>?_
 ·refine zcr (sp (yI a)<|sp (yI a)<|zjr<|t_r<|rH1 (yI a) H ?_)
  rw[Int.min_eq_left qf]
 refine xe<|t_n<|zcr<|sp (yI b)<|sp (yI b)<|zjr<|rH1 (yI b) H ?_
 rw[Int.min_eq_right qf]
theorem dTissue_ok(ag:List UInt8)(ip:Int)(sd:Int)(bs:Nat)(ac:yOA)(cc:Nat)(Fc:yLN)(H:St W0 w ((.box bs [Sv ac ag.length cc,yI ip,.int .u64 sd] 116)::ps) ((sF false Fc ac cc ag)::Γ))(N:Fresh W0.heap.size (Ns))(K0:Kept Ns Γ)(q0:0<=ip/\ip<=30000):Calls Tryz.prog 23 #[pp bs 0] w (fun e w'=>∃v,e=.returned v/\∃(lA:Int) (B5:Int) (Ry:Int) (tK:yLI) (gp:List yz) (oE:List Bool) (D6:yLL) (ri:yLI) (Pt:yLI) (YH:yOA) (ZO:Nat) (Ym:Nat) (dN:yOA) (dC:Nat) (bQ:Nat) (bB:List Value) (bq:yLN) (raA:yOA) (rnA:Nat) (rcA:Nat) (raB:yOA) (rnB:Nat) (rcB:Nat) (rxB:List Value) (rFB:yLN) (raD:yOA) (rnD:Nat) (rcD:Nat) (Nb:yOA) (O3:Nat) (Rl:Nat),(ip<=lA/\lA<=ip+5000)/\(SysDr Ry tK gp)/\(StDr Ry tK.length 6 oE D6 ri)/\(AllTo oE)/\(MildTo gp gp.length)/\(OwnDr tK.length Pt)/\v=.tuple #[.agg #[yI Ry,Sv YH ZO Ym,Sv dN dC bQ],Sv Nb O3 Rl,.agg #[Sv raA rnA rcA,Sv raB rnB rcB,Sv raD rnD rcD]]/\Fresh W0.heap.size (rFB::Ns)/\St W0 w' ((.box bs [Sv ac ag.length cc,yI lA,.int .u64 B5] 116)::(rr YH ZO Ym 2 1<|tK.map<|Value.int .i64)::(rr dN dC bQ 110 9 bB)::(rr raA rnA rcA 4 1<|oE.map<|Value.bool)::(rr raB rnB rcB 24 1 rxB)::(rr raD rnD rcD 2 1<|ri.map<|Value.int .i64)::(rr Nb O3 Rl 2 1<|Pt.map<|Value.int .i64)::ps) ((sF false Fc ac cc ag)::(qX false bq bB gp)::(qX true rFB rxB D6)::Γ)):=by
 refine en func23 ntmps23 ?_
 refine zcr<|sw<|x8 H ti27 [yI 0,yN,yN] fun b1 w2 H=>sq 1<|sw<|x8 H ti31 [yN,yN,yN] fun b3 w4 H=>zjc<|sq 1 ?_
 have H1:=H.yD 3 1 [2,0,1] [0] xE xE
 have N1:Fresh _ (Ns):=N
 have K1:Kept (Ns) (Γ):=K0.behind 0 J
 refine sw<|zT #[pp bs 0] J J call57 (dSystem_ok ag ip sd bs ac cc Fc H1 N1 K1 qg) ?_
 clear H H1 N1 K1
 rintro _ w5 ⟨eO,N6,cT,fp,oy,se,axI,xV,f9,aCh,fT,aeu,KO,hx7,hx8,rfl,N,H⟩
 obtain rfl:=H.yt 1 rfl
 obtain rfl:=H.xf (α:=yz) 2 rfl 1 rfl qj
 have sd:=(‹SysDr _ _ _›)
 have k1:=sd.kinds
 have k3:=sd.few
 have k4:=sd.rules
 have k5:=sd.cells
 refine sw<|x8 H ti27 [yI 0,yN,yN] fun zz E8 H=>sw<|xZ H 0 [yI cT,Sv se fp.length xV,Sv f9 oy.length fT] sizeOf27 fun Gw H=>?_
 dsimp only[List.set] at H
 refine zjcc<|sp (yI 0)<|zjn<|xg ?_
 replace H:=H.unfree 1 J
 refine vk ((fun Z0 Z1 Z2 Z3 Z4=>fun m' ρ E4=>∃(xR:Env) (i:Nat) (dV:Int) (cW:Int) (ah:List yz) (yL:List Value) (Qp:yLN),ρ=upd (upd (upd (upd (upd xR 0<|pp bs 0) 2<|pp b1 0) 4<|pp b3 0) 5<|pp zz 0) 6 (yI i)/\((i:Int)<=oy.length)/\(ip<=dV/\dV<=ip+(2000+2*i))/\(ah.length<=5)/\(QH cT fp ah)/\(MildTo ah i)/\m'=(oy.length-(i:Int)).toNat/\Fresh W0.heap.size (Ns)/\St W0 E4 (Z0::(.box bs [Sv ac ag.length cc,yI dV,.int .u64 cW] 116)::Z1::(rr f9 oy.length fT 110 9 yL)::Z2::Z3::ps) (Z4::(qX false Qp yL ah)::Γ)) _ _ _ _ _) ((oy.length-(0:Int)).toNat) ⟨_,0,eO,N6,oy,aeu,KO,uE5,qf,qf,qf,(by exact k4),qx,J,(N.xG 1 [] xE),H.xG 6 3 (zR 0 6) [1,0] xE xE⟩ ?_
 clear H N
 rintro m' ρ E3 ⟨xR,i,dV,cW,ah,yL,Qp,rfl,i0,j1,j2,j3,j4,rfl,N,H⟩
 have GE:=H.xf (α:=yz) 3 J 1 J qj
 refine zcc<|sp (yI i)<|oF J<|oL J (H.cell 0 J J)<|oN J<|sq 1<|zjn<|cD J (fun nY=>?_)<|fun nY=>?_
 ·refine xe (t_n<|xO<|xg<|zcr<|oF J<|oL J (H.cell 0 J J)<|sp (yI i) ?_)
  obtain⟨b28,rfl⟩:=H.jm 3 rfl qf
  obtain⟨xT,uE,OP,wK,vx,Ow,wU,uw,Oz,uF,wS,O5,CO,BH,Sa,wj,uL,M0,GI,H⟩:=H.rowel_RuleD 3 rfl 1 rfl (iv:=i) i qf qf
  refine oI J J<|oF J<|sw<|o_storePart H 3 J (Bv false) sizeOf4 J J J (part_lt<|GI 8 _ J) fun w31 H=>?_
  have ak7:=part_get (cells:=[yI ah[i]!.qW,yI ah[i]!.yH,Sv xT ah[i]!.vg.length uE,Sv wK ah[i]!.jI.length vx,Sv wU ah[i]!.jK.length uw,Sv uF ah[i]!.jq.length wS,Sv CO ah[i]!.Qz.length BH,Sv wj ah[i]!.xn.length uL,Bv ah[i]!.je]) GI 8 (Bv false)<|Nat.le_of_ble_eq_true J
  replace ak7:∀(q:Nat) (v:Value),([yI ah[i]!.qW,yI ah[i]!.yH,Sv xT ah[i]!.vg.length uE,Sv wK ah[i]!.jI.length vx,Sv wU ah[i]!.jK.length uw,Sv uF ah[i]!.jq.length wS,Sv CO ah[i]!.Qz.length BH,Sv wj ah[i]!.xn.length uL,Bv false]:List Value)[q]? =some v->(yL.set (0+(i:Int).toNat*9+8)<|Bv false)[0+(i:Int).toNat*9+q]? =some v:=ak7
  dsimp only[List.set] at H
  obtain⟨F33,H⟩:=H.part_8 7 rfl false (iv:=i) i qf<|by omega
  dsimp only[List.set] at H
  refine zjc<|sq 1 ?_
  have H1:=H.yD 6 9 [1,0,2,3,4,5] [7,0,1,2,3,4,5,6,8] xE xE
  have N1:Fresh _ (Ns):=N
  have K1:Kept (Ns) ((qX false F33 (yL.set (0+(i:Int).toNat*9+8)<|Bv false)<|ah.set i { ah[i]! with je:=false })::(sF false OP xT uE ah[i]!.vg)::(sF false Ow wK vx ah[i]!.jI)::(sF false Oz wU uw ah[i]!.jK)::(sF false O5 uF wS ah[i]!.jq)::(sF false Sa CO BH ah[i]!.Qz)::(sF false M0 wj uL ah[i]!.xn)::(qX false Qp yL ah)::Γ):=K0.behind 8 J
  refine sw<|zT #[pp bs 0,yI 2] J J call58 (dOne_ok ag dV cW bs ac cc Fc (2:Int) H1 N1 K1 qg) ?_
  clear H H1 N1 K1
  rintro _ WG ⟨Af,pK,aPS,aPt,rfl,N,H⟩
  refine zjn<|vP _ J (fun rP=>?_)<|fun rP=>?_
  ·refine c_drawK2 J H [0,1,2,4,5] [0,1,2,3,4,5,6,7,8] fun H=>?_
   have S:=H.ve [0,1,2,4,5]<|zR 0 9
   refine tF 0 J J S ?_
   refine tL 1 J J (fun _ h=>h.cell 1 J J) S ?_
   refine rtp 2 (yI i) S ?_
   refine tF 3 J J S ?_
   refine tL 4 J J (fun _ h=>h.cell 1 J J) S ?_
   refine ro 5 J<|jQ H underlying24 ti2 cT.toNat J J qf qf qf fun Sc w43 H=>⟨H.pick [1,2,3,5,6]<|zR 0 9,?_⟩
   obtain⟨EZ,Ev,amz,DS,D4,anF,Dz,EO,akJ,MC,O9,aoL,I8,Ja,aux,EI,DU,ajh,Tj,H⟩:=H.rowel_RuleD 4 rfl 1 rfl (iv:=i) i qf qf
   have S:=H.ve [1,2,3,5,6]<|zR 6 9
   refine tI 6 J J J S ?_
   refine tF 7 J J S ?_
   refine ro 8 J<|o_storePart H 4 J (Sv (aa Sc 0) cT.toNat cT.toNat) sizeOf24 J J J (part_lt<|Tj 5 _ J) fun O7 H=>?_
   have Pd:=part_get (cells:=[yI (((ah.set i { ah[i]! with je:=false })[i]!).qW),yI (((ah.set i { ah[i]! with je:=false })[i]!).yH),Sv EZ ((((ah.set i { ah[i]! with je:=false })[i]!).vg).length) Ev,Sv DS ((((ah.set i { ah[i]! with je:=false })[i]!).jI).length) D4,Sv Dz ((((ah.set i { ah[i]! with je:=false })[i]!).jK).length) EO,Sv MC ((((ah.set i { ah[i]! with je:=false })[i]!).jq).length) O9,Sv I8 ((((ah.set i { ah[i]! with je:=false })[i]!).Qz).length) Ja,Sv EI ((((ah.set i { ah[i]! with je:=false })[i]!).xn).length) DU,Bv (((ah.set i { ah[i]! with je:=false })[i]!).je)]) Tj 5 (Sv (aa Sc 0) cT.toNat cT.toNat)<|Nat.le_of_ble_eq_true J
   replace Pd:∀(q:Nat) (v:Value),([yI (((ah.set i { ah[i]! with je:=false })[i]!).qW),yI (((ah.set i { ah[i]! with je:=false })[i]!).yH),Sv EZ ((((ah.set i { ah[i]! with je:=false })[i]!).vg).length) Ev,Sv DS ((((ah.set i { ah[i]! with je:=false })[i]!).jI).length) D4,Sv Dz ((((ah.set i { ah[i]! with je:=false })[i]!).jK).length) EO,Sv (aa Sc 0) cT.toNat cT.toNat,Sv I8 ((((ah.set i { ah[i]! with je:=false })[i]!).Qz).length) Ja,Sv EI ((((ah.set i { ah[i]! with je:=false })[i]!).xn).length) DU,Bv (((ah.set i { ah[i]! with je:=false })[i]!).je)]:List Value)[q]? =some v->((yL.set (0+(i:Int).toNat*9+8)<|Bv false).set (0+(i:Int).toNat*9+5)<|Sv (aa Sc 0) cT.toNat cT.toNat)[0+(i:Int).toNat*9+q]? =some v:=Pd
   dsimp only[List.set] at H
   refine⟨H.pick [1,2,3,5,6]<|zR 6 9,(xx qh<|b_n<|t_n<|zf<|sp (yI i)<|sw<|zY i 1 J J (by(omega))<|sq 1<|xX ?_)⟩
   obtain⟨G48,N,aJN,H⟩:=H.vJ 0 rfl N<|H.awB [] 15 K0
   dsimp only[List.set] at H
   obtain⟨F50,H⟩:=H.part_5 8 rfl 0 rfl (iv:=i) i qf<|by(simp only[List.length_set];omega)
   dsimp only[List.set] at H
   refine xu (m':=(oy.length-((i+1):Int)).toNat) qf ⟨_,i+1,_,_,_,_,_,uE5,?_,?_,?_,?_,?_,J,(N.xG 1 [] xE),H.xG 7 17 [2,1,3,4,5,6] [8,0] xE xE⟩
   ·omega
   ·omega
   ·simp only[List.length_set];omega
   ·(repeat' (first|assumption|exact jD.zero qf qf|(simp only[List.length_set];omega)|omega|apply QH.here|apply QH.still))
   ·exact(j4.go qf).here (by simp only[List.length_set];omega)<|by simp only[List.length_set];omega
  refine xe<|b_n<|t_n<|zf<|sp (yI i)<|sw<|zY i 1 J J (by(omega))<|sq 1<|xX<|xu (m':=(oy.length-((i+1):Int)).toNat) qf ⟨_,i+1,_,_,_,_,_,uE5,?_,?_,?_,?_,?_,J,N,H.xG 6 9 [1,0,2,3,4,5] [0,1] xE xE⟩
  ·omega
  ·omega
  ·simp only[List.length_set];omega
  ·(repeat' (first|assumption|omega|apply QH.still))
  ·exact j4.go qf
 refine zx4<|zcr<|sw<|jS H underlying24 ti2 fun b51 w52 H=>sq 1<|zjc<|sq 1<|oF J<|oL J (H.cell 1 J J)<|oN J<|sw<|oq (l00Min8_ok w52 3 fp.length) H fun w54 H=>?_
 have m1:(min 3 fp.length:Int)<=3:=Int.min_le_left _ _
 have m2:(min 3 fp.length:Int)<=fp.length:=Int.min_le_right _ _
 have m0:1<=(min 3 fp.length:Int):=Int.le_min.2 ⟨by omega,by omega⟩
 have H1:=H.yD 7 2 [2,0,1,3,4,5,6] [0,1] xE xE
 have N1:Fresh _ (Ns):=N
 have K1:Kept (Ns) ((qX false Qp yL ah)::Γ):=K0.behind 1 J
 refine sw<|zT #[pp bs 0,yI<|min 3 fp.length] J J call59 (Qb ag dV cW bs ac cc Fc (min 3 fp.length) H1 N1 K1 qg) ?_
 clear H H1 N1 K1
 rintro _ R7 ⟨tS,DV,pm,aPF,aOw,rfl,N,H⟩
 refine sw<|zY 1 pm J J (by(omega))<|sq 1<|zjcc<|sp (yI 0)<|zjn<|xg ?_
 replace H:=H.boxRowI 1 [] 0
 dsimp only[List.set] at H
 refine vk ((fun Z0 Z1 Z2 Z3 Z4 Z5 Z6=>fun m' ρ w63=>∃(xR:Env) (Ya:yOA) (XN:Nat) (V7:Nat) (df:yLI) (c:Nat) (cC:Int) (cF:Int),ρ=upd (upd (upd (upd (upd (upd (upd xR 0<|pp bs 0) 2<|pp b1 0) 4<|pp b3 0) 5<|pp zz 0) 7<|Sv Ya XN V7) 8<|yI<|1+pm) 9 (yI c)/\((c:Int)<=fp.length)/\(ip<=cC/\cC<=ip+(2020+2*c))/\(OwnTo (1+pm) c df)/\m'=(fp.length-(c:Int)).toNat/\Fresh W0.heap.size (Ns)/\St W0 w63 ((.box bs [Sv ac ag.length cc,yI cC,.int .u64 cF] 116)::(rr Ya XN V7 2 1<|df.map<|Value.int .i64)::Z0::Z1::Z2::Z3::Z4::ps) (Z5::Z6::Γ)) _ _ _ _ _ _ _) ((fp.length-(0:Int)).toNat) ⟨_,(aa b51 0),0,0,([]:yLI),0,tS,DV,uE7,qf,qf,(by exact OwnTo.nil _),J,N,H⟩ ?_
 clear H N
 rintro m' ρ w64 ⟨xR,Ya,XN,V7,df,c,cC,cF,rfl,i0,o1,o2,rfl,N,H⟩
 have A4:=H.yt 1 J
 have o9:=o2.1
 refine zcc<|sp (yI c)<|oF J<|oL J (H.cell 2 J J)<|oN J<|sq 1<|zjn<|cD J (fun h65=>?_)<|fun h65=>?_
 ·refine xe (t_n<|xO<|xg<|zcr<|sp (yI c)<|sq 1<|sp (Bv<|decide ((c:Int)<(1+pm)))<|zjn<|cD J (fun h66=>?_)<|fun h66=>?_)
  ·refine zf (sq 1<|sp (yI c)<|sw<|zH H underlying24 ti2 [yI c] fun b67 w68 H=>sw<|zQ H 2 J 0 J underlying24 ti2 J qj J J J qw qp qf fun a69 c70 w71 H=>?_)
   rw[snocI] at H
   dsimp only[List.set] at H
   refine sq 1<|xX<|b_n<|t_n<|zf<|sp (yI c)<|sw<|zY c 1 J J (by(omega))<|sq 1<|xX<|xu (m':=(fp.length-((c+1):Int)).toNat) qf ⟨_,_,_,_,_,c+1,_,_,uE7,?_,?_,?_,J,N,H.xG 8 2 (zR 1 7) [0,1] xE xE⟩
   ·omega
   ·omega
   ·exact o2.snoc qf<|fun _=>rfl
  refine zf<|sq 3 ?_
  have H1:=H.yD 7 2 [0,1,2,3,4,5,6] [0,1] xE xE
  have N1:Fresh _ (Ns):=N
  have K1:Kept (Ns) ((qX false Qp yL ah)::Γ):=K0.behind 1 J
  refine sw<|zT #[pp bs 0,yI<|1+pm] J J call59 (Qb ag cC cF bs ac cc Fc (1+pm) H1 N1 K1 qg) ?_
  clear H H1 N1 K1
  rintro _ LT ⟨aJi,aQz,aBo,aMi,aOC,rfl,N,H⟩
  refine sw<|zH H underlying24 ti2 [yI aBo] fun rz TO H=>sw<|zQ H 2 J 0 J underlying24 ti2 J qj J J J qw qp qf fun a81 c82 w83 H=>?_
  rw[snocI] at H
  dsimp only[List.set] at H
  refine sq 1<|xX<|b_n<|t_n<|zf<|sp (yI c)<|sw<|zY c 1 J J (by(omega))<|sq 1<|xX<|xu (m':=(fp.length-((c+1):Int)).toNat) qf ⟨_,_,_,_,_,c+1,_,_,uE7,?_,?_,?_,J,N,H.xG 8 2 (zR 1 7) [0,1] xE xE⟩
  ·omega
  ·omega
  ·exact o2.snoc qf<|fun h=>by omega
 refine zx4<|zcc<|sq 1 ?_
 have H1:=H.yD 7 2 [0,1,2,3,4,5,6] [0,1] xE xE
 have N1:Fresh _ (Ns):=N
 have K1:Kept (Ns) ((qX false Qp yL ah)::Γ):=K0.behind 1 J
 refine sw<|zT #[pp bs 0,yI 3] J J call58 (dOne_ok ag cC cF bs ac cc Fc (3:Int) H1 N1 K1 qg) ?_
 clear H H1 N1 K1
 rintro _ w84 ⟨So,Fq,aJk,aNA,rfl,N,H⟩
 refine zjn<|c_cut (fun ρ ZH=>∃(xR:Env) (mD:yLI),ρ=upd (upd (upd (upd (upd xR 0<|pp bs 0) 2<|pp b1 0) 4<|pp b3 0) 5<|pp zz 0) 7 (Sv Ya XN V7)/\(OwnDr fp.length mD)/\(ip<=So/\So<=ip+2112)/\Fresh W0.heap.size (Ns)/\St W0 ZH ((.box bs [Sv ac ag.length cc,yI So,.int .u64 Fq] 116)::(rr Ya XN V7 2 1<|mD.map<|Value.int .i64)::(.box zz [yI cT,Sv se fp.length xV,Sv f9 oy.length fT] 27)::(rr se fp.length xV 2 1<|fp.map<|Value.int .i64)::(rr f9 oy.length fT 110 9 yL)::(.box b3 [yN,yN,yN] 31)::(.box b1 [yI 0,yN,yN] 27)::ps) ((sF false Fc ac cc ag)::(qX false Qp yL ah)::Γ)) ?_ ?_
 ·refine vP _ J (fun h91=>?_) (fun h91=>?_)
  ·refine zcr (sp (yI 0)<|zjn<|xg<|vk ((fun Z0 Z1 Z2 Z3 Z4 Z5 Z6 Z7=>fun m' ρ w92=>∃(xR:Env) (a9:Nat) (gS:yLI),ρ=upd (upd (upd (upd (upd (upd (upd xR 0<|pp bs 0) 2<|pp b1 0) 4<|pp b3 0) 5<|pp zz 0) 7<|Sv Ya XN V7) 8<|yI<|1+pm) 10 (yI a9)/\((a9:Int)<=XN)/\(TurnTo (1+pm) a9 df gS)/\m'=(XN-(a9:Int)).toNat/\Fresh W0.heap.size (Ns)/\St W0 w92 (Z0::(rr Ya XN V7 2 1<|gS.map<|Value.int .i64)::Z1::Z2::Z3::Z4::Z5::ps) (Z6::Z7::Γ)) _ _ _ _ _ _ _ _) ((XN-(0:Int)).toNat) ⟨_,0,df,uE7,qf,(by exact TurnTo.zero _ _),J,N,H⟩ ?_)
   clear H N
   rintro m' ρ w93 ⟨xR,a9,gS,rfl,i0,o3,rfl,N,H⟩
   have A4:=H.yt 1 J
   have o5:=fun h=>o3.at' (c:=a9) h
   have o6:=o2.2 a9
   refine zcc<|sq 2<|oN J<|sq 1<|zjn<|cD J (fun h94=>?_)<|fun h94=>?_
   ·refine xe (t_n<|xO<|xg<|zf<|sq 3<|sw<|o_sub (1+pm) 1 J J (by(omega))<|sq 2 ?_)
    obtain⟨b95,rfl⟩:=H.jm 1 rfl qf
    refine oI J J<|oL J (H.Vx 1 J (iv:=a9) (i:=a9) qf qf)<|sw<|o_sub ((1+pm)-1) gS[a9]! rfl J (by(omega))<|oI J J<|sw<|o_storeInt H 1 J (((1+pm)-1)-gS[a9]!) sizeOf2 J J (i:=a9) qf qf fun w96 H=>?_
    dsimp only[List.set] at H
    refine xX<|b_n<|t_n<|zf<|sq 1<|sw<|zY a9 1 J J (by(omega))<|sq 1<|xX<|xu (m':=(XN-((a9+1):Int)).toNat) qf ⟨_,a9+1,_,uE7,?_,?_,J,N,H⟩
    ·omega
    ·exact o3.go qf
   refine c_exit<|t_x<|t_x<|b_x<|meet ⟨_,gS,uE5,?_,?_,N,H⟩
   ·exact o3.ok' o2 qf qf qf qf
   ·omega
  refine xe<|meet ⟨_,df,uE5,?_,?_,N,H⟩
  ·exact o2.ok' qf qf qf
  ·omega
 clear H N
 rintro ρ w97 ⟨xR,mD,rfl,jo,jp,N,H⟩
 have A4:=H.yt 1 J
 refine t_n<|zcr<|oF J<|oL J (H.cell 2 J J)<|sw<|jQ H underlying24 ti2 cT.toNat J J qf qf qf fun zd w99 H=>sw<|vZ [yN,yN,Sv (aa zd 0) cT.toNat cT.toNat] [(2,Sv (aa zd 0) cT.toNat cT.toNat)]<|sw<|x8 H ti31 [yN,yN,yN] fun Rj asA H=>sw<|xZ H 0 [yN,yN,Sv (aa zd 0) cT.toNat cT.toNat] sizeOf31 fun Tg H=>?_
 dsimp only[List.set] at H
 refine zjcc<|sp (yI 0)<|zjn<|xg ?_
 replace H:=H.nilRowB 4
 replace H:=H.nilRow 24 1
 replace H:=H.yF (α:=yLI)
 refine vk ((fun Z0 Z1 Z2 Z3 Z4 Z5 Z6 Z7 Z8=>fun m' ρ KP=>∃(xR:Env) (a9:Nat) (dI:Int) (eG:Int) (yj:yOA) (jC:Nat) (yh:Nat) (fQ:List Bool) (eQ:yOA) (X7:Nat) (eP:Nat) (oU:yLL) (fX:List Value) (Yc:yLN),ρ=upd (upd (upd (upd (upd (upd (upd xR 0<|pp bs 0) 2<|pp b1 0) 4<|pp b3 0) 5<|pp zz 0) 7<|Sv Ya XN V7) 11<|pp Rj 0) 12 (yI a9)/\((a9:Int)<=fp.length)/\(ip<=dI/\dI<=ip+(2120+20*a9))/\(StTo cT 6 a9 fQ oU)/\(AllTo fQ)/\m'=(fp.length-(a9:Int)).toNat/\Fresh W0.heap.size (Yc::Ns)/\St W0 KP ((rr eQ X7 eP 24 1 fX)::(rr yj jC yh 4 1<|fQ.map<|Value.bool)::(.box Rj [Sv yj jC yh,Sv eQ X7 eP,Sv (aa zd 0) cT.toNat cT.toNat] 31)::Z0::(.box bs [Sv ac ag.length cc,yI dI,.int .u64 eG] 116)::Z1::Z2::Z3::Z4::Z5::Z6::ps) ((qX true Yc fX oU)::Z7::Z8::Γ)) _ _ _ _ _ _ _ _ _) ((fp.length-(0:Int)).toNat) ⟨_,0,So,Fq,none,0,0,[],none,0,0,([]:yLL),[],[],uE7,qf,qf,(by exact StTo.nil _ _),(by exact AllTo.nil),J,N.emp,H⟩ ?_
 clear H N
 rintro m' ρ Rd ⟨xR,a9,dI,eG,yj,jC,yh,fQ,eQ,X7,eP,oU,fX,Yc,rfl,i0,t1,t2,t3,rfl,N,H⟩
 have E6:=H.Vt 1 J
 have afR:=H.xf (α:=yLI) 0 J 0 J qj
 have t4:=t2.la
 have t5:=t2.lb
 refine zcc<|sq 1<|oF J<|oL J (H.cell 6 J J)<|oN J<|sq 1<|zjn<|cD J (fun ac1=>?_)<|fun ac1=>?_
 ·refine xe (t_n<|xO<|xg<|zcr<|oF J<|oL J (H.cell 2 J J)<|sw<|zH H underlying28 ti4 [Bv true] fun NY anS H=>sw<|zQ H 2 J 0 J underlying28 ti4 J qj J J J qw qp qf fun DO D8 abm H=>?_)
  rw[snocB] at H
  dsimp only[List.set] at H
  refine oF J<|sw<|zn H 3 [Sv DO (jC+1) D8,Sv eQ X7 eP,Sv (aa zd 0) cT.toNat cT.toNat] sizeOf28 fun anQ H=>?_
  dsimp only[List.set] at H
  refine zjn<|c_cut (fun ρ FQ=>∃(xR:Env) (Ib:Int) (AI:yLI) (WK:Int) (TV:yOA) (Tl:Nat) (IG:yOA) (HE:Nat) (z6:yLN),ρ=upd (upd (upd (upd (upd (upd (upd xR 0<|pp bs 0) 2<|pp b1 0) 4<|pp b3 0) 5<|pp zz 0) 7<|Sv Ya XN V7) 11<|pp Rj 0) 12 (yI a9)/\(dI<=Ib/\Ib<=dI+20)/\(jD cT (6:Int) AI)/\Fresh W0.heap.size ((Yc++z6)::Ns)/\St W0 FQ ((.box bs [Sv ac ag.length cc,yI Ib,.int .u64 WK] 116)::(.box NY [Bv true] 4)::(rr TV (X7+1) Tl 24 1<|fX++[Sv IG AI.length HE])::(rr DO (jC+1) D8 4 1 ((fQ++[true]).map<|Value.bool))::(.box Rj [Sv DO (jC+1) D8,Sv TV (X7+1) Tl,Sv (aa zd 0) cT.toNat cT.toNat] 31)::(rr (aa zd 0) cT.toNat cT.toNat 2 1 ((List.replicate cT.toNat (0:Int)).map<|Value.int .i64))::(rr Ya XN V7 2 1<|mD.map<|Value.int .i64)::(.box zz [yI cT,Sv se fp.length xV,Sv f9 oy.length fT] 27)::(rr se fp.length xV 2 1<|fp.map<|Value.int .i64)::(rr f9 oy.length fT 110 9 yL)::(.box b3 [yN,yN,yN] 31)::(.box b1 [yI 0,yN,yN] 27)::ps) ((qX true (Yc++z6) (fX++[Sv IG AI.length HE])<|oU++[AI])::(sF true z6 IG HE AI)::(sF false Fc ac cc ag)::(qX false Qp yL ah)::Γ)) ?_ ?_
  ·refine c_drawK2 J H [0,2,4,6,7,8,9,10,11] [0,1,2] fun H=>?_
   have S:=H.ve (0::2::4::zR 6 6) [0,1,2]
   refine tF 0 J J S ?_
   refine rtl 2 S ?_
   refine tF 3 J J S ?_
   refine tL 4 J J (fun _ h=>h.cell 4 J J) S ?_
   refine jw [1,5] qh qm<|yl J ?_<|yl J ?_ jy
   ·refine zx (Sv eQ X7 eP) isAgg29 J (H.cell 3 J J) (⟨H.pick (0::2::4::zR 6 6) [0,1,2],(ro 5 J ?_)⟩)
    have H1:=H.yD 12 3 [5,0,1,2,3,4,6,7,8,9,10,11] [1,0,2] xE xE
    have N1:Fresh _ (Yc::Ns):=N
    have K1:Kept (Ns) ((qX true Yc fX oU)::(qX false Qp yL ah)::Γ):=K0.behind 2 J
    replace K1:=K1.cons (F:=Yc) 0 J J
    refine zT #[pp bs 0,yI cT,yI 6] J J call61 (dFew_ok ag dI eG bs ac cc Fc cT (6:Int) H1 N1 K1 qg qg qg) ?_
    clear H H1 N1 K1
    rintro _ PG ⟨ak5,OC,ZI,W2,aoe,aak,aiQ,Mp,rfl,N,H⟩
    obtain rfl:=H.yt 1 rfl
    refine⟨H.pick (2::4::zR 6 7) [1,0,2],(ro 6 J<|zH H underlying29 ti24 [Sv W2 ZI.length aak] fun acI aBF H=>⟨H.pick (3::5::zR 7 7) [1,0,2],(ro 7 J ?_)⟩)⟩
    obtain⟨Sz,N,ajE,H⟩:=H.vJ 2 rfl N<|H.awB [1] 3 K0
    dsimp only[List.set] at H
    refine zQ H 4 J 0 J underlying29 ti24 J qj J J J qw qp qf fun KX Kb PA H=>?_
    dsimp only[List.set] at H
    replace H:=H.QK 2 J 0 J
    replace N:=(N.Xr 2 [1,0]).join
    refine⟨H.pick (3::5::zR 7 7) [3,2,4],(tF 8 J J (H.pick (3::5::zR 7 7) [3,2,4]) ?_)⟩
    refine ro 9 J<|zn H 6 [Sv DO (jC+1) D8,Sv KX (X7+1) Kb,Sv (aa zd 0) cT.toNat cT.toNat] sizeOf29 fun aAR H=>?_
    dsimp only[List.set] at H
    refine⟨H.pick (3::5::zR 7 7) [3,2,4],(xx qh ((meet ⟨_,ak5,ZI,OC,KX,Kb,W2,aak,Sz,uE7,aiQ,Mp,N,H.xG 14 5 (1::zR 3 11) [0,1,2,4] xE xE⟩)))⟩
   have H1:=H.yD 12 3 [5,0,1,2,3,4,6,7,8,9,10,11] [1,0,2] xE xE
   have N1:Fresh _ (Yc::Ns):=N
   have K1:Kept (Ns) ((qX true Yc fX oU)::(qX false Qp yL ah)::Γ):=K0.behind 2 J
   replace K1:=K1.cons (F:=Yc) 0 J J
   refine zT #[pp bs 0,yI cT,yI 6] J J call61 (dFew_ok ag dI eG bs ac cc Fc cT (6:Int) H1 N1 K1 qg qg qg) ?_
   clear H H1 N1 K1
   rintro _ aso ⟨Yv,aaE,Im,uJ,ajp,x2,YI,aah,rfl,N,H⟩
   obtain rfl:=H.yt 1 rfl
   refine⟨H.pick (2::4::zR 6 7) [1,0,2],(jw [1,6] qh qm<|yl J ?_<|yl J ?_ jy)⟩
   ·refine zx (Sv eQ X7 eP) isAgg29 J (H.cell 5 J J) (⟨H.pick (2::4::zR 6 7) [1,0,2],(ro 6 J<|zH H underlying29 ti24 [Sv uJ Im.length x2] fun aPO aKH H=>⟨H.pick (3::5::zR 7 7) [1,0,2],(ro 7 J ?_)⟩)⟩)
    obtain⟨ayn,N,aEW,H⟩:=H.vJ 2 rfl N<|H.awB [1] 3 K0
    dsimp only[List.set] at H
    refine zQ H 4 J 0 J underlying29 ti24 J qj J J J qw qp qf fun TH Tw RV H=>?_
    dsimp only[List.set] at H
    replace H:=H.QK 2 J 0 J
    replace N:=(N.Xr 2 [1,0]).join
    refine⟨H.pick (3::5::zR 7 7) [3,2,4],(tF 8 J J (H.pick (3::5::zR 7 7) [3,2,4]) ?_)⟩
    refine ro 9 J<|zn H 6 [Sv DO (jC+1) D8,Sv TH (X7+1) Tw,Sv (aa zd 0) cT.toNat cT.toNat] sizeOf29 fun RT H=>?_
    dsimp only[List.set] at H
    refine⟨H.pick (3::5::zR 7 7) [3,2,4],(xx qh ((meet ⟨_,Yv,Im,aaE,TH,Tw,uJ,x2,ayn,uE7,YI,aah,N,H.xG 14 5 (1::zR 3 11) [0,1,2,4] xE xE⟩)))⟩
   refine zH H underlying29 ti24 [Sv uJ Im.length x2] fun aDF abp H=>⟨H.pick (3::5::zR 7 7) [1,0,2],(ro 1 rfl<|zx (Sv eQ X7 eP) isAgg29 rfl (H.cell 6 rfl rfl)<|⟨H.pick (3::5::zR 7 7) [1,0,2],(ro 7 rfl ?_)⟩)⟩
   obtain⟨SC,N,ai8,H⟩:=H.vJ 2 rfl N<|H.awB [1] 3 K0
   dsimp only[List.set] at H
   refine zQ H 4 J 0 J underlying29 ti24 J qj J J J qw qp qf fun PN Oy aiO H=>?_
   dsimp only[List.set] at H
   replace H:=H.QK 2 J 0 J
   replace N:=(N.Xr 2 [1,0]).join
   refine⟨H.pick (3::5::zR 7 7) [3,2,4],(tF 8 J J (H.pick (3::5::zR 7 7) [3,2,4]) ?_)⟩
   refine ro 9 J<|zn H 6 [Sv DO (jC+1) D8,Sv PN (X7+1) Oy,Sv (aa zd 0) cT.toNat cT.toNat] sizeOf29 fun ajo H=>?_
   dsimp only[List.set] at H
   refine⟨H.pick (3::5::zR 7 7) [3,2,4],(xx qh ((meet ⟨_,Yv,Im,aaE,PN,Oy,uJ,x2,SC,uE7,YI,aah,N,H.xG 14 5 (1::zR 3 11) [0,1,2,4] xE xE⟩)))⟩
  clear H N
  rintro ρ apV ⟨xR,Ib,AI,WK,TV,Tl,IG,HE,z6,rfl,ZV,aFE,N,H⟩
  refine b_n<|t_n<|zf<|sq 1<|sw<|zY a9 1 J J (by(omega))<|sq 1<|xX<|xu (m':=(fp.length-((a9+1):Int)).toNat) qf ⟨_,a9+1,_,_,_,_,_,_,_,_,_,_,_,_,uE7,?_,?_,?_,?_,J,N,H.xG 12 4 (2::3::4::5::0::zR 6 6) [0,2,3] xE xE⟩
  ·omega
  ·omega
  ·exact t2.snoc (fun _=>rfl) ql<|fun h=>by cases h
  ·exact t3.snoc
 refine zx4<|xO<|c_drawK2 J H [0,1,2,3,4,5,6,7,8] [0,1,2] fun H=>?_
 have S:=H.ve (zR 0 9) [0,1,2]
 refine rt 0 _ (yP (cs:=[yI cT,Sv se fp.length xV,Sv f9 oy.length fT]) isAgg27 sizeOf27 J<|fun _ h=>qH (h.cells 6 J) 0 3) S ?_
 refine rtl 1 S ?_
 refine rt 2 _ (yP (cs:=[Sv yj jC yh,Sv eQ X7 eP,Sv (aa zd 0) cT.toNat cT.toNat]) isAgg31 sizeOf31 J<|fun _ h=>qH (h.cells 2 J) 0 3) S ?_
 refine ro 3 J<|xZ H 10 [yI cT,Sv se fp.length xV,Sv f9 oy.length fT] sizeOf27 fun aiV H=>?_
 dsimp only[List.set] at H
 refine⟨H.pick (zR 0 9) [0,1,2],(rtl 4 (H.pick (zR 0 9) [0,1,2]) ?_)⟩
 refine ro 5 J<|xZ H 9 [Sv yj jC yh,Sv eQ X7 eP,Sv (aa zd 0) cT.toNat cT.toNat] sizeOf31 fun asd H=>?_
 dsimp only[List.set] at H
 refine⟨H.pick (zR 0 9) [0,1,2],(xx qh<|t_n<|c_ret<|retCTC H 10 J (Sv Ya XN V7) 9 J J isAgg27 sizeOf27 isAgg31 sizeOf31 J J J ⟨_,J,?_⟩)⟩
 exact⟨dI,eG,cT,fp,ah,fQ,oU,(List.replicate cT.toNat (0:Int)),mD,se,fp.length,xV,f9,oy.length,fT,yL,Qp,yj,jC,yh,eQ,X7,eP,fX,Yc,(aa zd 0),cT.toNat,cT.toNat,Ya,XN,V7,qf,(by exact sd.with j2 j3),(by exact stDr_of t2 qf qf qf),(by exact t3),(by exact fun j hj=>j4 j qf),(by exact jo),J,N,H.xG 11 3 [4,7,8,1,0,3,5] [1,2,0] xE xE⟩
theorem a2Tissue_ok(ag:List UInt8)(ac:yOA)(cc:Nat)(Fc:yLN)(H:St W0 w (ps) ((sF false Fc ac cc ag)::Γ))(N:Fresh W0.heap.size (Ns))(K0:Kept Ns Γ):Calls Tryz.prog 8 #[Sv ac ag.length cc] w (fun e w'=>∃v,e=.returned v/\∃(Ry:Int) (tK:yLI) (gp:List yz) (oE:List Bool) (D6:yLL) (ri:yLI) (Pt:yLI) (YH:yOA) (ZO:Nat) (Ym:Nat) (dN:yOA) (dC:Nat) (bQ:Nat) (bB:List Value) (bq:yLN) (raA:yOA) (rnA:Nat) (rcA:Nat) (raB:yOA) (rnB:Nat) (rcB:Nat) (rxB:List Value) (rFB:yLN) (raD:yOA) (rnD:Nat) (rcD:Nat) (Nb:yOA) (O3:Nat) (Rl:Nat),(SysDr Ry tK gp)/\(StDr Ry tK.length 6 oE D6 ri)/\(AllTo oE)/\(MildTo gp gp.length)/\(OwnDr tK.length Pt)/\v=.tuple #[.agg #[yI Ry,Sv YH ZO Ym,Sv dN dC bQ],Sv Nb O3 Rl,.agg #[Sv raA rnA rcA,Sv raB rnB rcB,Sv raD rnD rcD]]/\Fresh W0.heap.size (rFB::Ns)/\St W0 w' ((rr YH ZO Ym 2 1<|tK.map<|Value.int .i64)::(rr dN dC bQ 110 9 bB)::(rr raA rnA rcA 4 1<|oE.map<|Value.bool)::(rr raB rnB rcB 24 1 rxB)::(rr raD rnD rcD 2 1<|ri.map<|Value.int .i64)::(rr Nb O3 Rl 2 1<|Pt.map<|Value.int .i64)::ps) ((sF false Fc ac cc ag)::(qX false bq bB gp)::(qX true rFB rxB D6)::Γ)):=by
 refine en func8 ntmps8 ?_
 refine zcr<|sw<|x8 H ti27 [yI 0,yN,yN] fun b1 w2 H=>sq 1<|sw<|x8 H ti31 [yN,yN,yN] fun b3 w4 H=>zjc<|sq 1<|sw<|vF #[Sv ac ag.length cc] J J call24<|en func24 ntmps24 ?_
 refine zcr<|sq 1<|zjc<|sq 1<|sw<|vZ [Sv ac ag.length cc,yI 0,.int .u64 0] [(0,Sv ac ag.length cc)]<|sw<|jb H [Sv ac ag.length cc,yI 0,.int .u64 0] fun b5 w6 H=>sq 1<|zjr<|ret1 (pp b5 0) J J ⟨_,J,?_⟩
 have H1:=H.yD 3 1 [0,1,2] [0] xE xE
 have N1:Fresh _ (Ns):=N
 have K1:Kept (Ns) (Γ):=K0.behind 0 J
 refine sw<|zT #[pp b5 0] J J call23 (dTissue_ok ag (0:Int) 0 b5 ac cc Fc H1 N1 K1 qg) ?_
 clear H H1 N1 K1
 rintro _ w7 ⟨Ac,f6,nl,l9,ac7,ab6,acf,acr,acU,aoh,azZ,adK,ab1,aa4,PL,aa3,aem,acY,ayH,rX,TZ,aJs,alR,aA1,My,aqX,aN9,vD,aje,azi,Ga,hx9,ayb,aLO,ayT,DC,axs,rfl,N,H⟩
 obtain rfl:=H.yt 1 rfl
 obtain rfl:=H.xf (α:=yz) 2 rfl 1 rfl qj
 obtain rfl:=H.Vt 3 rfl
 obtain rfl:=H.xf (α:=yLI) 4 rfl 2 rfl qj
 obtain rfl:=H.yt 5 rfl
 obtain rfl:=H.yt 6 rfl
 refine sq 3<|sw<|xZ H 8 [yI nl,Sv aoh l9.length adK,Sv ab1 ac7.length PL] sizeOf27 fun O7 H=>?_
 dsimp only[List.set] at H
 refine sq 1<|sw<|xZ H 7 [Sv acY ab6.length rX,Sv TZ acf.length alR,Sv aqX acr.length vD] sizeOf31 fun w47 H=>?_
 dsimp only[List.set] at H
 refine zjr<|retCTC H 8 J (Sv aje acU.length Ga) 7 J J isAgg27 sizeOf27 isAgg31 sizeOf31 J J J ⟨_,J,(⟨nl,l9,ac7,ab6,acf,acr,acU,aoh,l9.length,adK,ab1,ac7.length,PL,aa3,aem,acY,ab6.length,rX,TZ,acf.length,alR,aA1,My,aqX,acr.length,vD,aje,acU.length,Ga,ql,ql,ql,ql,ql,J,N,H.xG 9 3 (zR 1 6) [0,1,2] xE xE⟩)⟩
end
section
section
variable{s : qJ}{own : yLI}{n : Nat}{sv L L1 L2 : List zI}{wi : List zC}{d : Qu}
abbrev InS(sv:List zI)(i:Int):Prop:=0<=i/\i<=(sv.length:Int)-1
theorem VZ(hk:d.xQ=1\/d.xQ=2\/d.xQ=5\/d.xQ=9)(h:¬InS sv d.fA):doM s own ⟨sv,wi⟩ d=(⟨sv,wi⟩,2):=do_range qf qf h
theorem VY(hk:d.xQ=3\/d.xQ=4)(h:¬InS sv d.fA\/¬InS sv d.fB\/d.fA=d.fB):doM s own ⟨sv,wi⟩ d=(⟨sv,wi⟩,2):=(do_send hk).trans<|send_range h
theorem doR_post4(hk:d.xQ=3)(h:InS sv d.fA/\InS sv d.fB/\d.fA≠d.fB)(h2:¬Xg sv[d.fA.toNat]!):doM s own ⟨sv,wi⟩ d=(⟨sv,wi⟩,4):=(do_send<|.inl hk).trans<|send_post0 h hk h2
theorem doR_post3(hk:d.xQ=3)(h:InS sv d.fA/\InS sv d.fB/\d.fA≠d.fB)(h2:Xg sv[d.fA.toNat]!)(h3:wi.length=12):doM s own ⟨sv,wi⟩ d=(⟨sv,wi⟩,3):=(do_send<|.inl hk).trans<|send_post1 h hk h2 h3
theorem doR_post0(hk:d.xQ=3)(h:InS sv d.fA/\InS sv d.fB/\d.fA≠d.fB)(h2:Xg sv[d.fA.toNat]!)(h3:wi.length≠12):doM s own ⟨sv,wi⟩ d=(⟨sv,wi++[⟨sv[d.fA.toNat]!.qC.qK,d.fA,d.fB,(sv[d.fA.toNat]!.qR.jH)[d.fB.toNat]!⟩]⟩,0):=(do_send<|.inl hk).trans<|send_post2 h hk h2 h3
theorem doR_back4(hk:d.xQ=4)(h:InS sv d.fA/\InS sv d.fB/\d.fA≠d.fB)(h2:sv[d.fA.toNat]!.qC.qK=0):doM s own ⟨sv,wi⟩ d=(⟨sv,wi⟩,4):=(do_send<|.inr hk).trans<|send_back0 h qf h2
theorem doR_back3(hk:d.xQ=4)(h:InS sv d.fA/\InS sv d.fB/\d.fA≠d.fB)(h2:sv[d.fA.toNat]!.qC.qK≠0)(h3:wi.length=12):doM s own ⟨sv,wi⟩ d=(⟨sv,wi⟩,3):=(do_send<|.inr hk).trans<|send_back1 h qf h2 h3
theorem doR_back0(hk:d.xQ=4)(h:InS sv d.fA/\InS sv d.fB/\d.fA≠d.fB)(h2:sv[d.fA.toNat]!.qC.qK≠0)(h3:wi.length≠12):doM s own ⟨sv,wi⟩ d=(⟨sv,wi++[⟨sv[d.fA.toNat]!.qC.qK-1,d.fA,d.fB,(sv[d.fA.toNat]!.qC.zM)[d.fB.toNat]!⟩]⟩,0):=(do_send<|.inr hk).trans<|send_back2 h qf h2 h3
theorem VX(hk:d.xQ=6\/d.xQ=7\/d.xQ=8)(h:(wi.length:Int)<=d.fA):doM s own ⟨sv,wi⟩ d=(⟨sv,wi⟩,2):=(do_wire hk).trans<|wire_2 h
theorem doR_drop(hk:d.xQ=8)(h:d.fA<wi.length):doM s own ⟨sv,wi⟩ d=(⟨sv,wi.eraseIdx d.fA.toNat⟩,0):=(do_wire qf).trans<|wire_drop (by show ¬(wi.length:Int)<=d.fA;omega) hk
def Stale(sv:List zI)(p:zC):Prop:=sv[p.fTo.toNat]!.qC.qY=false\/sv[p.fTo.toNat]!.qC.qK≠p.qK\/(sv[p.fTo.toNat]!.qC.jA)[p.Q9.toNat]! =true
theorem stale_or(h:sv[p.fTo.toNat]!.qC.qY=false\/sv[p.fTo.toNat]!.qC.qK≠p.qK\/(sv[p.fTo.toNat]!.qC.jA)[p.Q9.toNat]! =true):Stale sv p:=h
theorem fresh_and(h1:sv[p.fTo.toNat]!.qC.qY=true)(h2:sv[p.fTo.toNat]!.qC.qK=p.qK)(h3:(sv[p.fTo.toNat]!.qC.jA)[p.Q9.toNat]! =false):¬Stale sv p:=by
 rintro(h|h|h)
 ·rw[h1] at h;cases h
 ·exact h h2
 ·rw[h3] at h;cases h
theorem doR_stale7(hk:d.xQ=7)(h:d.fA<wi.length)(h1:Stale sv wi[d.fA.toNat]!):doM s own ⟨sv,wi⟩ d=(⟨sv,wi⟩,0):=(do_wire qf).trans ((wire_copy (by show ¬(wi.length:Int)<=d.fA;omega) hk).trans<|come_0 h1)
theorem doR_stale6(hk:d.xQ=6)(h:d.fA<wi.length)(h1:Stale sv wi[d.fA.toNat]!):doM s own ⟨sv,wi⟩ d=(⟨sv,wi.eraseIdx d.fA.toNat⟩,0):=by
 have e:comeM ⟨sv,wi⟩ wi[d.fA.toNat]! =(⟨sv,wi⟩,0):=come_0 h1
 rw[do_wire qf,wire_in (by show ¬(wi.length:Int)<=d.fA;omega) qf qf<|by show (comeM ⟨sv,wi⟩<|wi[d.fA.toNat]!).2=0;rw[e]]
 show (({ (comeM ⟨sv,wi⟩<|wi[d.fA.toNat]!).1 with vz:=(comeM ⟨sv,wi⟩<|wi[d.fA.toNat]!).1.vz.eraseIdx d.fA.toNat }:zO),(0:Int))=_
 rw[e]
abbrev sumC(sv:List zI)(p:zC):yLL:=QO sv[p.fTo.toNat]!.qC.qU p.qG
theorem doR_come3(hk:d.xQ=6\/d.xQ=7)(h:d.fA<wi.length)(h1:¬Stale sv wi[d.fA.toNat]!)(h2:¬yX (sumC sv<|wi[d.fA.toNat]!) (sumC sv<|wi[d.fA.toNat]!).length):doM s own ⟨sv,wi⟩ d=(⟨sv,wi⟩,3):=by
 have e:comeM ⟨sv,wi⟩ wi[d.fA.toNat]! =(⟨sv,wi⟩,3):=come_3 h1 h2
 rw[do_wire qf,wire_no (by show ¬(wi.length:Int)<=d.fA;omega) qf<|by show (comeM ⟨sv,wi⟩<|wi[d.fA.toNat]!).2≠0;rw[e];exact fun h=>by cases h]
 exact e
theorem srv_set(hi:i<sv.length)(e:L1=sv.set i x):L1[i]! =x:=by rw[e,getset hi,if_pos J]
theorem got_sets(hi:p.fTo.toNat<sv.length)(e1:L1=sv.set p.fTo.toNat { sv[p.fTo.toNat]! with qC:={ sv[p.fTo.toNat]!.qC with qU:=sumC sv p }})
 (e2:L2=L1.set p.fTo.toNat { L1[p.fTo.toNat]! with qC:={ L1[p.fTo.toNat]!.qC with jA:=L1[p.fTo.toNat]!.qC.jA.set p.Q9.toNat true }}):(Qd ⟨sv,wi⟩ p.fTo.toNat<|gotD sv[p.fTo.toNat]!.qC p)=⟨L2,wi⟩:=by
 rw[e2,srv_set hi e1,e1,List.set_set];rfl
theorem doR_come7(hk:d.xQ=7)(h:d.fA<wi.length)(h1:¬Stale sv wi[d.fA.toNat]!)(h2:yX (sumC sv<|wi[d.fA.toNat]!) (sumC sv<|wi[d.fA.toNat]!).length)(e:(Qd ⟨sv,wi⟩ wi[d.fA.toNat]!.fTo.toNat<|gotD (sv[wi[d.fA.toNat]!.fTo.toNat]!).qC<|wi[d.fA.toNat]!)=⟨L,wi⟩):doM s own ⟨sv,wi⟩ d=(⟨L,wi⟩,0):=by
 rw[do_wire qf,wire_copy (by show ¬(wi.length:Int)<=d.fA;omega) hk]
 exact(come_1 (v:=⟨sv,wi⟩) (p:=wi[d.fA.toNat]!) h1 h2).trans<|by rw[←e]
theorem doR_come6(hk:d.xQ=6)(h:d.fA<wi.length)(h1:¬Stale sv wi[d.fA.toNat]!)(h2:yX (sumC sv<|wi[d.fA.toNat]!) (sumC sv<|wi[d.fA.toNat]!).length)(e:(Qd ⟨sv,wi⟩ wi[d.fA.toNat]!.fTo.toNat<|gotD (sv[wi[d.fA.toNat]!.fTo.toNat]!).qC<|wi[d.fA.toNat]!)=⟨L,wi⟩):doM s own ⟨sv,wi⟩ d=(⟨L,wi.eraseIdx d.fA.toNat⟩,0):=by
 have e1:comeM ⟨sv,wi⟩ wi[d.fA.toNat]! =(⟨L,wi⟩,0):=(come_1 (v:=⟨sv,wi⟩) (p:=wi[d.fA.toNat]!) h1 h2).trans<|by rw[←e]
 rw[do_wire qf,wire_in (by show ¬(wi.length:Int)<=d.fA;omega) qf qf<|by show (comeM ⟨sv,wi⟩<|wi[d.fA.toNat]!).2=0;rw[e1]]
 show (({ (comeM ⟨sv,wi⟩<|wi[d.fA.toNat]!).1 with vz:=(comeM ⟨sv,wi⟩<|wi[d.fA.toNat]!).1.vz.eraseIdx d.fA.toNat }:zO),(0:Int))=_
 rw[e1]
theorem doR_work(hk:d.xQ=1)(h:InS sv d.fA):doM s own ⟨sv,wi⟩ d=workM s own ⟨sv,wi⟩ d.fA.toNat:=do_work hk h
theorem doR_save(hk:d.xQ=2)(h:InS sv d.fA)(e:L=sv.set d.fA.toNat { sv[d.fA.toNat]! with qR:=sv[d.fA.toNat]!.qC }):doM s own ⟨sv,wi⟩ d=(⟨L,wi⟩,0):=(do_save (v:=⟨sv,wi⟩) hk h).trans<|by rw[e];rfl
theorem doR_crash(hk:d.xQ=9)(h:InS sv d.fA)(e:L=sv.set d.fA.toNat { sv[d.fA.toNat]! with qC:=sv[d.fA.toNat]!.qR }):doM s own ⟨sv,wi⟩ d=(⟨L,wi⟩,0):=(do_crash (v:=⟨sv,wi⟩) hk h).trans<|by rw[e];rfl
def Ready(x:zI):Prop:=x.qC.qY=true/\AllGot x.qC.jA x.qC.jA.length/\Xg x
theorem doR_adv4(hk:d.xQ=5)(h:InS sv d.fA)(h1:¬Ready sv[d.fA.toNat]!):doM s own ⟨sv,wi⟩ d=(⟨sv,wi⟩,4):=(do_advance (v:=⟨sv,wi⟩) hk h).trans<|adv_4 (v:=⟨sv,wi⟩) (i:=d.fA.toNat) h1
theorem doR_adv3(hk:d.xQ=5)(h:InS sv d.fA)(h1:Ready sv[d.fA.toNat]!)(h2:¬yX (sumD sv[d.fA.toNat]!.qC) (sumD sv[d.fA.toNat]!.qC).length):doM s own ⟨sv,wi⟩ d=(⟨sv,wi⟩,3):=(do_advance (v:=⟨sv,wi⟩) hk h).trans<|adv_3 (v:=⟨sv,wi⟩) (i:=d.fA.toNat) h1 h2
theorem doR_adv0(hk:d.xQ=5)(h:InS sv d.fA)(h1:Ready sv[d.fA.toNat]!)(h2:yX (sumD sv[d.fA.toNat]!.qC) (sumD sv[d.fA.toNat]!.qC).length)(e:(Qd ⟨sv,wi⟩ d.fA.toNat<|nextD s sv[d.fA.toNat]!.qC)=⟨L,wi⟩):doM s own ⟨sv,wi⟩ d=(⟨L,wi⟩,0):=(do_advance (v:=⟨sv,wi⟩) hk h).trans ((adv_0 (v:=⟨sv,wi⟩) (i:=d.fA.toNat) h1 h2).trans<|by rw[←e])
theorem adv_sets(hi:i<sv.length){z:zG}{ah0:zG}(hz:z=nextD s sv[i]!.qC)
 (e:L=(sv.set i { sv[i]! with qC:=ah0 }).set i { (sv.set i { sv[i]! with qC:=ah0 })[i]! with qC:=z }):(Qd ⟨sv,wi⟩ i<|nextD s sv[i]!.qC)=⟨L,wi⟩:=by
 rw[e,srv_set hi J,List.set_set,hz];rfl
theorem work_sets{m:Nat}{L3 L4 L5 L6:List zI}(hi:i<sv.length){b:yLL}{nw:List yLL}
 (e1:L1=sv.set i { sv[i]! with qC:={ sv[i]!.qC with qG:=b }})
 (e2:L2=L1.set i { L1[i]! with qC:={ L1[i]!.qC with jH:=nw }})
 (e3:L3=L2.set i { L2[i]! with qC:={ L2[i]!.qC with qU:=nw[i]! }})
 (e4:L4=L3.set i { L3[i]! with qC:={ L3[i]!.qC with qY:=true }})
 (e5:L5=L4.set i { L4[i]! with qC:={ L4[i]!.qC with jA:=List.replicate m false }})
 (e6:L6=L5.set i { L5[i]! with qC:={ L5[i]!.qC with jA:=L5[i]!.qC.jA.set i true }})
 (hb:b=bagsD s sv[i]!.qC) (hn:nw=nowD s own sv.length i sv[i]!.qC) (hm:m=sv.length):(Qd ⟨sv,wi⟩ i<|workD s own sv.length i sv[i]!.qC)=⟨L6,wi⟩:=by
 have l1:L1.length=sv.length:=by rw[e1,List.length_set]
 have l2:L2.length=sv.length:=by rw[e2,List.length_set,l1]
 have l3:L3.length=sv.length:=by rw[e3,List.length_set,l2]
 have l4:L4.length=sv.length:=by rw[e4,List.length_set,l3]
 have l5:L5.length=sv.length:=by rw[e5,List.length_set,l4]
 rw[e6,srv_set qf e5,e5,List.set_set,srv_set qf e4,e4,List.set_set,srv_set qf e3,e3,List.set_set,srv_set qf e2,e2,List.set_set,srv_set hi e1,e1,List.set_set,hb,hn,hm];rfl
def Sav(b:Bool)(k:Int)(x:zI):Prop:=(b=true->(k=3/\¬Xg x)\/(k=4/\x.qC.qK=0))/\(b=false->(k=3->Xg x)/\(k=4->x.qC.qK≠0))
theorem sav_t3(hk:k=3)(h:¬Xg x):Sav true k x:=⟨fun _=>.inl ⟨hk,h⟩,fun h=>by cases h⟩
theorem sav_t4(hk:k=4)(h:x.qC.qK=0):Sav true k x:=⟨fun _=>.inr ⟨hk,h⟩,fun h=>by cases h⟩
theorem sav_f3(hk:k=3)(h:Xg x):Sav false k x:=⟨(fun h=>by cases h),fun _=>⟨fun _=>h,fun h=>by omega⟩⟩
theorem sav_f4(hk:k=4)(h:x.qC.qK≠0):Sav false k x:=⟨(fun h=>by cases h),fun _=>⟨(fun h=>by omega),fun _=>h⟩⟩
theorem sav_b4(hk:k=4):Sav (x.qC.qK == 0) k x:=by
 by_cases h:x.qC.qK=0
 ·rw[beq_iff_eq.2 h];exact sav_t4 hk h
 ·rw[beq_eq_false_iff_ne.2 h];exact sav_f4 hk h
def Sav7(b:Bool)(k:Int)(x:zI):Prop:=(k=3/\(b=true<->¬Xg x))\/(k=4/\b=false)
theorem sav7_1{b:Bool}(hk:k=3)(h1:x.qR.qK=x.qC.qK)(hb:b= !x.qR.qY):Sav7 b k x:=by
 subst hb
 refine .inl ⟨hk,?_⟩
 cases e:x.qR.qY with
 |true=>exact⟨(fun h=>by simp at h),fun h=>absurd ⟨h1,e⟩ h⟩
 |false=>exact⟨(fun _ h=>by rw[h.2] at e;cases e),fun _=>rfl⟩
theorem sav7_2(hk:k=3)(h1:x.qR.qK≠x.qC.qK):Sav7 true k x:=.inl ⟨hk,fun _ h=>h1 h.1,fun _=>rfl⟩
theorem sav7_3(hk:k=4):Sav7 false k x:=.inr ⟨hk,rfl⟩
theorem sav7_t{b:Bool}(j:Sav7 b k x)(h:b=true):Sav true k x:=by
 rcases j with ⟨h1,h2⟩|⟨h1,h2⟩
 ·exact sav_t3 h1<|h2.1 h
 ·rw[h] at h2;cases h2
theorem sav7_tb{b:Bool}(j:Sav7 b k x)(h:b=true):Sav b k x:=by
 have:=sav7_t j h
 rw[h];exact this
theorem sav7_f{b:Bool}(j:Sav7 b k x)(h:b=false)(hk:k≠4):Sav false k x:=by
 rcases j with ⟨h1,h2⟩|⟨h1,h2⟩
 ·exact sav_f3 h1 (Classical.byContradiction fun x=>by rw[h2.2 x] at h;cases h)
 ·exact absurd h1 hk
end
end
section
section
variable{P : Program}{Q : Exit -> Act -> World -> Prop}{n : Nat}{ρ : Env}{W0 w : World}{ps : List Prv}{Γ : List Fact}
 {d:Nat} {ty:TypeId} {pos:String} {af:Array Edge} {K:Env->World->Prop}
theorem o_over[Dfr]{x:Operand}{A:Addr}{ke:List Value}(H:St W0 w ps Γ)(k:Nat)(hp:ps[k]? =some (.row (Sv (some ⟨b,0,none⟩) nn c) e sz nn xs))
 (hu:P.underlying t=some (.slice e)) (he:TI P e z sz e9) (hs:ev n ρ s=Sv (some ⟨b,0,none⟩) i c) (hx:ev n ρ x=Sv (some A) m c2)
 (hl:ke.length=m*sz) (hn:∀q u,ke[q]? =some u->w.cell? (A.add q)=some u) (h1:∀u∈ke,u.oneCell'=true) (ho:i*sz+ke.length<=xs.length) (hc:i+m<=c)
 (kk:∀w',St W0 w' (ps.set k<|.row (Sv (some ⟨b,0,none⟩) nn c) e sz nn<|xs.take (i*sz)++ke++xs.drop (i*sz+ke.length)) Γ->K (upd ρ d<|Sv (some ⟨b,0,none⟩) (i+m) c) w'):
 OW P Q ⟨some d,.call ⟨.builtin .append,#[s,x],#[t,t]⟩,ty,pos,af,none⟩ n ρ w K:=by
 obtain⟨i',hi,Ue,MH,Tn⟩:=info_parts he
 obtain⟨w',hr,H'⟩:=H.rowSet k hp (i*sz) ke ho h1 (P:=P)
 have hz:i'.size=sz:=by exact MH
 have hfc:=run_firstCells_some (P:=P) w sz m A m c2 ke hl hn
 refine Xx _ ?_<|kk w' H'
 simp[execOp,resolve,invoke,builtin,hs,hx,Builtin.append_,run_underlying hu,sizeOf,typeInfo,hi,hz,Builtin.lenOf,hc,hfc,Addr.add_lit,hr]
theorem o_noneV[Dfr]{op:Op}{w':World}(v:Value)(h:(execOp (ev n ρ) ⟨none,op,ty,pos,af,none⟩).run P w=.ok (.value v) w')(k:K ρ w'):OW P Q ⟨none,op,ty,pos,af,none⟩ n ρ w K:=by
 unfold OW
 intro K' hK
 unfold Oper.wp
 rw[XV,h]
 exact hK _ _ k
theorem o_clear[Dfr]{x:Operand}{zs:List Value}(H:St W0 w ps Γ)(k:Nat)(hp:ps[k]? =some (.row (Sv (some ⟨b,0,none⟩) nn c) e sz nn xs))
 (hu:P.underlying t=some (.slice e)) (hz:∀w,(zeroValue e).run P w=.ok z w) (hx:ev n ρ x=Sv (some ⟨b,i*sz,none⟩) m c2) (hm:0<m)
 (zm:(Builtin.zeroCells z.cells m).toList=zs) (h1:∀u∈zs,u.oneCell'=true) (ho:i*sz+zs.length<=xs.length)
 (kk:∀w',St W0 w' (ps.set k<|.row (Sv (some ⟨b,0,none⟩) nn c) e sz nn<|xs.take (i*sz)++zs++xs.drop (i*sz+zs.length)) Γ->K ρ w'):
 OW P Q ⟨none,.call ⟨.builtin .clear,#[x],#[t]⟩,ty,pos,af,none⟩ n ρ w K:=by
 obtain⟨w',hr,H'⟩:=H.rowSet k hp (i*sz) zs ho h1 (P:=P)
 obtain⟨m,rfl⟩:∃q,m=q+1:=⟨m-1,by omega⟩
 refine o_noneV (.tuple #[]) ?_<|kk w' H'
 simp[execOp,resolve,invoke,builtin,hx,Builtin.clear_,run_underlying hu,hz,zm,hr]
end
end
section
section
variable{P : Program}{Q : Exit -> Act -> World -> Prop}{n : Nat}{ρ : Env}{W0 w : World}{ps : List Prv}{Γ : List Fact}
 {d:Nat} {op:Op} {ty:TypeId} {pos:String} {af:Array Edge} {K:Env->World->Prop}
theorem St.rowCutN(H:St W0 w ps Γ)(k:Nat)(hp:ps[k]? =some (.row (Sv (some ⟨b,0,none⟩) nn c) e sz nn xs))(m:Nat)(hm:m<=nn):
 St W0 w (ps.set k<|.row (Sv (some ⟨b,0,none⟩) m c) e sz m<|xs.take<|m*sz) Γ:=
 H.turn k hp (fun h=>by
  have h:w.ownsRow W0.heap.size e sz (Sv (some ⟨b,0,none⟩) nn c) nn xs:=h
  obtain⟨hl,h|⟨g,gA,gE,hv,hB,hg,hn,hmx,LJ,ht⟩⟩:=h
  ·simp at h
  ·simp only[Value.slice.injEq] at hv
   obtain⟨E5,_,hv3⟩:=hv
   have hle:m*sz<=nn*sz:=Nat.mul_le_mul_right _ hm
   refine⟨by rw[List.length_take];omega,Or.inr ⟨g,gA,gE,by rw[E5,hv3],hB,hg,by omega,hmx,LJ,?_⟩⟩
   rw[←ht,List.take_take];congr 1;omega) J
theorem St.rowCap(H:St W0 w ps Γ)(k:Nat)(hp:ps[k]? =some (.row (Sv a nn c) e sz nn xs)):nn<=c:=by
 have h:w.ownsRow W0.heap.size e sz (Sv a nn c) nn xs:=H.has _<|List.mem_of_getElem? hp
 obtain⟨hl,h|⟨g,gA,gE,hv,hB,hg,hn,hmx,LJ,ht⟩⟩:=h
 ·simp only[Value.slice.injEq] at h;omega
 ·simp only[Value.slice.injEq] at hv;omega
theorem St.isCap{α:Type}[qI α](H:St W0 w ps Γ)(k:Nat){l:List α}(hf:Γ[k]? =some (isF fr F (Sv a m c) l)):l.length<=c:=by
 obtain⟨⟨a',c',hc,hl,_⟩,_⟩:=H.get k hf
 simp only[List.cons.injEq,Value.slice.injEq,and_true] at hc
 omega
theorem o_up[Dfr]{x:Operand}(kk:Nat)(hu:P.underlying t=some (.slice e))(he:TI P e z sz e9)(hx:ev n ρ x=Sv a m c)(hy:ev n ρ y=.int .i64 (kk:Int))(hk:kk<=c)(k:K (upd ρ d<|Sv a kk c) w):
 OW P Q ⟨some d,.slice t x none (some y) none,ty,pos,af,none⟩ n ρ w K:=Xx _ (by
 cases a <;> by_cases h0:c=0 <;> simp[execOp,hx,hy,Instr.sliceAt,Instr.slice,Instr.sliceBounds,Instr.sliceBound,asIntOf,run_underlying hu,he.sizeOf,hk,h0,Addr.add] <;> intro h <;> omega) k
theorem y_up{x:Operand}(kk:Nat)(hu:P.underlying t=some (.slice e))(he:TI P e z sz e9)(hx:ev n ρ x=Sv a m c)(hy:ev n ρ y=.int .i64 (kk:Int))(hk:kk<=c):
 (execOp (ev n ρ) ⟨some d,.slice t x none (some y) none,ty,pos,af,none⟩).run P w=.ok (.value<|Sv a kk c) w:=by
 cases a <;> by_cases h0:c=0 <;> simp[execOp,hx,hy,Instr.sliceAt,Instr.slice,Instr.sliceBounds,Instr.sliceBound,asIntOf,run_underlying hu,he.sizeOf,hk,h0,Addr.add] <;> intro h <;> omega
theorem y_from{x:Operand}(kk:Nat)(hu:P.underlying t=some (.slice e))(he:TI P e z sz e9)(hx:ev n ρ x=Sv (some ⟨b,off,none⟩) m c)(hy:ev n ρ y=.int .i64 (kk:Int))(hk:kk<=m)(hm:m<=c):
 (execOp (ev n ρ) ⟨some d,.slice t x (some y) none none,ty,pos,af,none⟩).run P w=.ok (.value<|Sv (some ⟨b,if c=kk then off else off+kk*sz,none⟩) (m-kk)<|c-kk) w:=by
 by_cases h0:c=kk <;> simp[execOp,hx,hy,Instr.sliceAt,Instr.slice,Instr.sliceBounds,Instr.sliceBound,asIntOf,run_underlying hu,he.sizeOf,hk,h0,Addr.add]
theorem y_3{x y3:Operand}(k1 k2 k3:Nat)(hu:P.underlying t=some (.slice e))(he:TI P e z sz e9)(hx:ev n ρ x=Sv (some ⟨b,off,none⟩) m c)
 (h1:ev n ρ y1=.int .i64 (k1:Int)) (h2:ev n ρ y2=.int .i64 (k2:Int)) (h3:ev n ρ y3=.int .i64 (k3:Int)) (hk:k1<=k2) (hk2:k2<=k3) (hm:k3<=c):
 (execOp (ev n ρ) ⟨some d,.slice t x (some y1) (some y2)<|some y3,ty,pos,af,none⟩).run P w=.ok (.value<|Sv (some ⟨b,if k3=k1 then off else off+k1*sz,none⟩) (k2-k1)<|k3-k1) w:=by
 by_cases h0:k3=k1
 ·subst h0
  obtain rfl:k2=k3:=by omega
  simp[execOp,hx,h1,h2,h3,Instr.sliceAt,Instr.slice,Instr.sliceBounds,Instr.sliceBound,asIntOf,run_underlying hu,he.sizeOf,hm,Addr.add]
 ·simp[execOp,hx,h1,h2,h3,Instr.sliceAt,Instr.slice,Instr.sliceBounds,Instr.sliceBound,asIntOf,run_underlying hu,he.sizeOf,hk,hk2,hm,h0,Addr.add]
theorem y_hiLo{x:Operand}(k1 k2:Nat)(hu:P.underlying t=some (.slice e))(he:TI P e z sz e9)(hx:ev n ρ x=Sv (some ⟨b,off,none⟩) m c)
 (h1:ev n ρ y1=.int .i64 (k1:Int)) (h2:ev n ρ y2=.int .i64 (k2:Int)) (hk:k1<=k2) (hm:k2<=c) (hc:k1<c):
 (execOp (ev n ρ) ⟨some d,.slice t x (some y1) (some y2) none,ty,pos,af,none⟩).run P w=.ok (.value<|Sv (some ⟨b,off+k1*sz,none⟩) (k2-k1)<|c-k1) w:=by
 have h0:¬c=k1:=by omega
 simp[execOp,hx,h1,h2,Instr.sliceAt,Instr.slice,Instr.sliceBounds,Instr.sliceBound,asIntOf,run_underlying hu,he.sizeOf,hk,hm,h0,Addr.add]
end
theorem reps_oneU{α:Type}[qI α]{w:World}:∀ {F:yLN} {vs:List Value} {l:List α},reps w F vs l->∀u∈vs,u.oneCell'=true
 |_,_,[],⟨_,hv⟩,u,hu=>by rw[hv] at hu;cases hu
 |_,_,x::l,⟨F1,F2,c1,c2,_,hv,h1,h2⟩,u,hu=>by
  rw[hv] at hu
  rcases List.mem_append.1 hu with h|h
  ·exact qI.one h1 u h
  ·exact reps_oneU h2 u h
theorem o_clearAt[Dfr]{P:Program}{Q:Exit->Act->World->Prop}{n:Nat}{ρ:Env}{ty:TypeId}{pos:String}{af:Array Edge}{K:Env->World->Prop}
 {t e:TypeId} {x:Operand} {z:Value} {sz b c c2 nn i m off:Nat} {xs zs:List Value} (H:St W0 w ps Γ) (k:Nat) (hp:ps[k]? =some (.row (Sv (some ⟨b,0,none⟩) nn c) e sz nn xs))
 (hu:P.underlying t=some (.slice e)) (hz:∀w,(zeroValue e).run P w=.ok z w) (hx:ev n ρ x=Sv (some ⟨b,off,none⟩) m c2) (ho':off=i*sz) (hm:0<m)
 (zm:(Builtin.zeroCells z.cells m).toList=zs) (h1:∀u∈zs,u.oneCell'=true) (ho:i*sz+zs.length<=xs.length)
 (kk:∀w',St W0 w' (ps.set k<|.row (Sv (some ⟨b,0,none⟩) nn c) e sz nn<|xs.take (i*sz)++zs++xs.drop (i*sz+zs.length)) Γ->K ρ w'):
 OW P Q ⟨none,.call ⟨.builtin .clear,#[x],#[t]⟩,ty,pos,af,none⟩ n ρ w K:=o_clear H k hp hu hz (by rw[hx,ho']) hm zm h1 ho kk
theorem reps_head{α:Type}[qI α]{l:List α}(h:reps w F vs l)(k:Nat)(hk:k<=l.length):∃F',((∀b∈F',b∈F)/\(F.Nodup->F'.Nodup))/\reps w F' (vs.take<|k*qI.size α) (l.take k):=by
 by_cases e:k=l.length
 ·subst e
  refine⟨F,⟨fun _ h=>h,fun h=>h⟩,?_⟩
  rw[List.take_length,List.take_of_length_le<|by rw[reps_len h];exact Nat.le_refl _]
  exact h
 ·obtain⟨G1,Gk,G2,v1,cs,v2,rfl,rfl,m1,m2,_,s1,s2⟩:=reps_get h k qf
  refine⟨G1,⟨fun b hb=>by simp[hb],fun hn=>?_⟩,?_⟩
  ·rw[List.append_assoc,List.nodup_append] at hn
   exact hn.1
  ·rw[←m1,List.append_assoc,List.take_left]
   exact s1
theorem St.rowHead{α:Type}[qI α](H:St W0 w ps Γ)(k:Nat)(hp:ps[k]? =some (.row (Sv (some ⟨b,0,none⟩) nn c) e (qI.size α) nn xs))(j:Nat){l:List α}(hf:Γ[j]? =some (qX true F xs l))(m:Nat)(hm:m<=l.length)(hn:m<=nn):
 ∃A7 F',((∀q∈F',q∈F)/\(F.Nodup->F'.Nodup))/\St W0 w (ps.set k<|.row (Sv (some ⟨b,0,none⟩) m c) e (qI.size α) m A7) (qX true F' A7 (l.take m)::Γ):=by
 obtain⟨F',hs,hr⟩:=reps_head (H.get j hf).1 m hm
 have H':=H.rowCutN k hp m hn
 exact⟨_,F',hs,H'.jR j hf (qX true F' (xs.take<|m*qI.size α)<|l.take m) ⟨hr,fun e=>((H.get j hf).2 e).sub hs.1⟩ hs.1⟩
theorem getset_self{α:Type}{l:List α}{k:Nat}{x y:α}(h:l[k]? =some x):(l.set k y)[k]? =some y:=by
 have hk:k<l.length:=(List.getElem?_eq_some_iff.1 h).1
 rw[List.getElem?_set_self hk]
theorem delP(H:St W0 w ps Γ)(k:Nat)(hp:ps[k]? =some (.row (Sv (some ⟨b,0,none⟩) nn c) 77 4 nn xs))(j:Nat){l:List zC}(hf:Γ[j]? =some (qX true F xs l))
 (i:Nat) {iv jv:Int} (h1:iv=i) (h2:jv=i+1) (h3:i<nn):Calls Tryz.prog 136 #[Sv (some ⟨b,0,none⟩) nn c,.int .i64 iv,.int .i64 jv] w fun e' w'=>∃v,e'=.returned v∧
  ∃A7 F',v=Sv (some ⟨b,0,none⟩) (l.eraseIdx i).length c/\((∀q∈F',q∈F)/\(F.Nodup->F'.Nodup))∧
  St W0 w' (ps.set k<|.row (Sv (some ⟨b,0,none⟩) (l.eraseIdx i).length c) 77 4 (l.eraseIdx i).length A7) (qX true F' A7 (l.eraseIdx i)::Γ):=by
 subst h1
 subst h2
 have hc:=H.rowCap k hp
 have hn:=H.xf (α:=zC) k hp j hf qj
 refine en Tryz.func136 Tryz.ntmps136 ?_
 refine xO<|zf<|sp (Sv none 0 0)<|xX<|t_n<|xO<|zf<|sps [Sv (some ⟨b,0,none⟩) nn c,.int .i64 i,.int .i64<|i+1,Sv (some ⟨b,0,none⟩) nn c]<|sw<|o_len underlying37 (some ⟨b,0,none⟩) nn c J<|sw<|Xx _ (y_3 i (i+1) nn underlying37 ti77 J J J J qf qf qf)<|xX<|t_n<|xO<|xO<|zf<|sps [.int .i64 i,.int .i64<|i+1,Bv ((i:Int) == i+1)]<|xX<|t_n<|vP ((i:Int) == i+1) J (fun h=>?_)<|fun h=>?_
 ·have:=eq_of_beq h;omega
 refine xe<|t_n<|xO<|zf<|sp (Sv (some ⟨b,0,none⟩) nn c)<|sw<|o_len underlying37 (some ⟨b,0,none⟩) nn c J<|sp (.int .i64 nn)<|xX<|t_n<|xO<|vW 2 J H [] [] fun H=>?_
 dsimp only[yu,yU]
 refine rtl 0 (H.pick [] []) ?_
 refine rtl 1 (H.pick [] []) ?_
 refine rt 2 (Sv (some ⟨b,0,none⟩) i c) (fun _ _=>y_up i underlying37 ti77 J J qf) (H.pick [] []) ?_
 refine rtl 3 (H.pick [] []) ?_
 refine rtl 4 (H.pick [] []) ?_
 refine rt 5 (Sv (some ⟨b,if c=i+1 then 0 else 0+(i+1)*4,none⟩) (nn-(i+1))<|c-(i+1)) (fun _ _=>y_from (i+1) underlying37 ti77 J J qf qf) (H.pick [] []) ?_
 refine xx qh<|zg ?_
 have hr:=(H.get j hf).1
 have hxl:=H.rowLen k hp
 obtain⟨G1,Gk,G2,v1,cs,v2,rfl,rfl,E0,hl2,Zy,hr1,hr2⟩:=reps_get hr i qf
 obtain⟨p,rfl⟩:∃p,nn=p+1:=⟨nn-1,by omega⟩
 have E0:v1.length=i*4:=E0
 have hl2:cs.length=4:=hl2
 have hl3:v1.length+cs.length+v2.length=(p+1)*4:=by simpa [Nat.add_assoc] using hxl
 have ei:i+(p+1-(i+1))=p:=by omega
 have JO:=fun q u h=>H.rowGet (i:=q) (v:=u) k hp h
 refine sw<|o_over (i:=i) (m:=p+1-(i+1)) (ke:=v2) H k hp underlying37 ti77 J J qf (fun q u hu=>?_) (reps_oneU hr2) qy qf fun w1 H=>?_
 ·have h:=JO (v1.length+cs.length+q) u (by rw[List.getElem?_append_right qm,List.length_append,Nat.add_sub_cancel_left];exact hu)
  have hq:q<v2.length:=(List.getElem?_eq_some_iff.1 hu).1
  have hci:¬c=i+1:=by omega
  rw[if_neg hci]
  rw[E0,hl2] at h
  rw[show (⟨b,0+(i+1)*4,none⟩:Addr).add q=⟨b,i*4+4+q,none⟩ from by rw[Addr.add_lit,show i*4+4+q=0+(i+1)*4+q from by omega]]
  exact h
 rw[ei]
 refine sp (Sv (some ⟨b,0,none⟩) p c)<|xX<|t_n<|xO<|zf<|sps [Sv (some ⟨b,0,none⟩) p c,Sv (some ⟨b,0,none⟩) p c]<|sw<|o_len underlying37 (some ⟨b,0,none⟩) p c J<|sp (.int .i64 (p+1:Nat))<|sw<|Xx _ (y_hiLo p (p+1) underlying37 ti77 J J J qf qf qf)<|sw<|o_clearAt (i:=p) H k (by exact getset_self hp) underlying37 (zs:=[.int .i64 0,.int .i64 0,.int .i64 0,Sv none 0 0]) (z:=.agg #[.int .i64 0,.int .i64 0,.int .i64 0,Sv none 0 0]) ?_ J qf qf ?_ ?_ ?_ fun w2 H=>?_
 ·exact fun w=>TI.zero ti77 w
 ·rw[show p+1-p=1 from by omega];kernel_rfl
 ·intro u hu
  simp only[List.mem_cons,List.not_mem_nil,or_false] at hu
  rcases hu with rfl|rfl|rfl|rfl <;> rfl
 ·simp;omega
 refine xX<|t_n<|xO<|zf<|sps [Sv (some ⟨b,0,none⟩) p c,Sv (some ⟨b,0,none⟩) p c]<|zjr<|ret1 (Sv (some ⟨b,0,none⟩) p c) J J ⟨_,J,?_⟩
 have el:l.eraseIdx i=l.take i++l.drop (i+1):=List.eraseIdx_eq_take_drop_succ ..
 have ell:(l.eraseIdx i).length=p:=by rw[List.length_eraseIdx_of_lt qf];omega
 obtain⟨g1,gk,g2,u1,JG,u2,hF,hv,m1,m2,_,s1,s2⟩:=reps_get (H.get j hf).1 i qf
 obtain⟨E5,hv2⟩:=List.append_inj hv<|by simp only[List.length_append];omega
 obtain⟨rfl,_⟩:=List.append_inj E5 qf
 subst hv2
 refine⟨v1++v2,g1++g2,by rw[ell],⟨fun q hq=>?_,fun OD=>?_⟩,?_⟩
 ·rw[hF]
  simp only[List.mem_append] at hq ⊢
  rcases hq with h|h <;> simp[h]
 ·rw[hF,List.append_assoc,List.nodup_append,List.nodup_append] at OD
  rw[List.nodup_append]
  exact⟨OD.1,OD.2.1.2.1,fun x hx y hy=>OD.2.2 x hx y<|List.mem_append.2<|.inr hy⟩
 have H3:=H.rowCutN k (getset_self<|getset_self hp) p qf
 rw[List.set_set,List.set_set] at H3
 rw[ell]
 have e2:((List.take (p*4) (List.take (i*4) (v1++cs++v2)++v2++List.drop (i*4+v2.length) (v1++cs++v2))++[Value.int .i64 0,.int .i64 0,.int .i64 0,Sv none 0 0]++
  List.drop (p*4+4) (List.take (i*4) (v1++cs++v2)++v2++List.drop (i*4+v2.length) (v1++cs++v2))).take (p*4))=v1++v2:=by
  rw[←E0,List.append_assoc v1 cs v2,List.take_left]
  have hpl:p*4=(v1++v2).length:=by simp;omega
  rw[hpl,List.take_left,List.append_assoc,List.take_left]
 have H4:=H3.jR j hf (qX true (g1++g2) (v1++v2)<|l.eraseIdx i) ⟨by rw[el];exact Qc s1 s2,fun _=>((H3.get j hf).2 J).sub fun q hq=>by
  rw[hF]
  simp only[List.mem_append] at hq ⊢
  rcases hq with h|h <;> simp[h]⟩ (fun q hq=>by
  have hq:q∈g1++g2:=hq
  show q∈G1++Gk++G2
  rw[hF]
  simp only[List.mem_append] at hq ⊢
  rcases hq with h|h <;> simp[h])
 have e3:∀x y:List Value,x=y->St W0 w2 (ps.set k<|.row (Sv (some ⟨b,0,none⟩) p c) 77 4 p x) (qX true (g1++g2) (v1++v2) (l.eraseIdx i)::Γ)->St W0 w2 (ps.set k<|.row (Sv (some ⟨b,0,none⟩) p c) 77 4 p y) (qX true (g1++g2) (v1++v2) (l.eraseIdx i)::Γ):=fun _ _ e h=>e▸h
 exact e3 _ _ e2 H4
end
section
section
variable{s : qJ}{own : yLI}{n : Nat}
theorem jk.nowIn(hg:Giv s own n)(h:jk s own n i d)(hw:d.qY=true)(hj:j<n):d.jH.length=n/\Sm2 (d.jH[j]!)/\PutOk s own j (d.jH[j]!):=
 have h1:=(h.got hw).2.2.2
 ⟨h1.1,(h1.2 j hj).small hg.sys,h1.2 j hj⟩
theorem jk.lastIn(hg:Giv s own n)(h:jk s own n i d)(hr:d.qK≠0)(hj:j<n):d.zM.length=n/\Sm2 (d.zM[j]!)/\PutOk s own j (d.zM[j]!):=
 have h1:=h.last (by have:=h.rnd;omega)
 ⟨h1.1,(h1.2 j hj).small hg.sys,h1.2 j hj⟩
theorem plusPre(hs:jW s){a b:yLL}(h1:PutOk s own j a)(h2:PutOk s own j b):(a.length<=b.length/\a.length<=1000000)/\∀k,k<a.length->a[k]!.length<=b[k]!.length/\Mid (a[k]!)/\XG b[k]! 1:=by
 have s1:=h1.small hs
 have e1:=h1.len
 have e2:=h2.len
 refine⟨⟨by omega,s1.1⟩,fun k hk=>?_⟩
 have b1:=h1.bag k qf
 have b2:=h2.bag k qf
 have l1:=b1.2
 have l2:=b2.2
 refine⟨by omega,(ja b1).mid,fun q hq=>?_⟩
 have:=(ja b2).2 q hq
 omega
theorem jk.sumLen(h:jk s own n i d):(QO (d.qG++[d.qF]) d.qU).length=s.qA.length+1:=by
 rw[QO,Yi]
 exact h.all.len
theorem allGot_of(h:anyTo (fun k=>false == l[k]!) l.length=false):AllGot l l.length:=fun j hj=>by
 have:=anyTo_false.1 h j hj
 cases e:l[j]! with
 |true=>rfl
 |false=>rw[e] at this;cases this
theorem notGot_of(h:anyTo (fun k=>false == l[k]!) l.length=true):¬AllGot l l.length:=fun h1=>by
 have h2:anyTo (fun k=>false == l[k]!) l.length=false:=anyTo_false.2 fun j hj=>by rw[h1 j hj];rfl
 rw[h2] at h;cases h
theorem come_len{b:yLL}(hi:i<sv.length)(e:L=sv.set i { sv[i]! with qC:={ sv[i]!.qC with qU:=b }})(h:sv[i]!.qC.jA.length=m):L.length=sv.length/\L[i]!.qC.jA.length=m:=by
 refine⟨by rw[e,List.length_set],?_⟩
 rw[srv_set hi e]
 exact h
theorem set_len(e:L'=L.set i x):L'.length=L.length:=by rw[e,List.length_set]
theorem set_got{g:List Bool}(hi:i<L.length)(e:L'=L.set i { L[i]! with qC:={ L[i]!.qC with jA:=g }}):L'[i]!.qC.jA.length=g.length:=by rw[srv_set hi e]
def jg(x:List Bool)(k:Int):List Bool:=List.replicate k.toNat<|x[0]!
theorem view_ok(hg:Giv s own n)(h:jk s own n i d):zA s (⟨jg [true] s.qA.length,d.qG,d.qF⟩:qV):=h.view hg.sys.1
variable{t : qV}{i : Int}{c bv j : Nat}{L L': List yLL}
theorem ownAt_e{own:yLI}{p:Nat}(h:p=own.length):vY own p=own[0]! :=by rw[vY,if_pos h]
theorem ownAt_n{own:yLI}{p:Nat}(h:p≠own.length):vY own p=own[p]! :=by rw[vY,if_neg h]
theorem now_pre(hg:Giv s own n)(ht:zA s t)(hc:c<s.qA.length)(hp:bv<=s.qA.length)(hj:j<n)(e:L=addTo own (jX s t (xq s t) c) (Vl s t own i n c) bv):
 L.length=n/\L[j]!.length=s.qA.length+1/\((L[j]!)[bv]!).length<=((jX s t (xq s t) c)[bv]!).length/\Mid ((L[j]!)[bv]!)/\XG ((jX s t (xq s t) c)[bv]!) 1:=by
 have hl:xJ s=s.qA.length:=rfl
 have sh:=puts_shape (t:=t) (cell:=(c:Int)) hg.sys<|XY hg.sys ht
 have a:=addTo_at (nowTo_cube (i:=i) hg.sys ht hg.own hg.len c) sh hg.own (by rw[hg.len]) qf bv qf
 rw[←e] at a
 have kl:=X8 hg.sys
 have c1:=hg.sys.1.2.1
 have r:=a.2 j hj
 have r2:=r.2 bv qf
 have p2:=sh.2 bv qf
 refine⟨a.1,r.1,by omega,⟨by omega,fun k hk=>?_⟩,fun k hk=>?_⟩
 ·have:=(r2.2 k qf).1
  omega
 ·have:=p2.2 k qf
  omega
theorem now_ok(hg:Giv s own n)(ht:zA s t)(hc:c<=s.qA.length)(hj:j<n)(e:L=Vl s t own i n c):L.length=n/\Sm2 (L[j]!):=by
 have hl:xJ s=s.qA.length:=rfl
 have a:=nowTo_cube (i:=i) hg.sys ht hg.own hg.len c
 rw[←e] at a
 have kl:=X8 hg.sys
 have c1:=hg.sys.1.2.1
 have r:=a.2 j hj
 exact⟨a.1,⟨by have:=r.1;omega,fun k hk=>by have:=(r.2 k (by have:=r.1;omega)).1;omega⟩⟩
theorem puts_len(hg:Giv s own n)(ht:zA s t)(c:Int):(jX s t (xq s t) c).length=s.qA.length+1:=(puts_shape (t:=t) c hg.sys<|XY hg.sys ht).1
theorem add_step{puts:yLL}{ajk:List yLL}{o:Int}(e:L=addTo own puts ajk bv)(ho:vY own bv=o)(eL:L'=L.set o.toNat (L[o.toNat]!.set bv<|vX ((L[o.toNat]!)[bv]!) puts[bv]! 1)):L'=addTo own puts ajk (bv+1):=by
 subst e
 rw[addTo,ho,eL]
theorem now_end(e:L=addTo own (jX s t (xq s t) c) (Vl s t own i n c) bv)(hp:bv=s.qA.length+1)(ho:own[c]! =i):L=Vl s t own i n (c+1):=by
 rw[nowTo_yes ho,show xJ s+1=bv from hp.symm]
 exact e
theorem rep_zero{k:Nat}(h:k=m):List.replicate k (jG s<|s.qA.length+1)=Vl s t own i m 0:=by rw[h];rfl
variable{sv : List zI}{wi : List zC}{iv : Int}{SL : List zI}
theorem workR_4(h:sv[iv.toNat]!.qC.qY=true):workM s own ⟨sv,wi⟩ iv.toNat=(⟨sv,wi⟩,4):=work_4 (v:=⟨sv,wi⟩) h
theorem workR_3(h:sv[iv.toNat]!.qC.qY=false)(h1:sv[iv.toNat]!.qC.qK=100):workM s own ⟨sv,wi⟩ iv.toNat=(⟨sv,wi⟩,3):=work_3 (v:=⟨sv,wi⟩) (by rw[show ((⟨sv,wi⟩:zO).qE[iv.toNat]!).qC.qY=false from h];exact Bool.false_ne_true) h1
theorem now_is(hi:0<=iv)(hc:c=s.qA.length)(e:L=Vl s (⟨jg [true] s.qA.length,d.qG,d.qF⟩:qV) own iv n c):L=nowD s own n iv.toNat d:=by
 rw[e,hc,nowD,Int.toNat_of_nonneg hi]
 rfl
theorem workR_no(hi:0<=iv)(h:sv[iv.toNat]!.qC.qY=false)(h1:sv[iv.toNat]!.qC.qK≠100)(hc:c=s.qA.length)(e:L=Vl s (⟨jg [true] s.qA.length,sv[iv.toNat]!.qC.qG,sv[iv.toNat]!.qC.qF⟩:qV) own iv sv.length c)
 (hj:j<sv.length) (h2:¬yX L[j]! L[j]!.length):workM s own ⟨sv,wi⟩ iv.toNat=(⟨sv,wi⟩,3):=
 work_no (v:=⟨sv,wi⟩) (by rw[show ((⟨sv,wi⟩:zO).qE[iv.toNat]!).qC.qY=false from h];exact Bool.false_ne_true) h1 (fun x=>h2 (by
  have:=x j hj
  rw[←now_is hi hc e] at this
  exact this))
theorem workR_0(hi:0<=iv)(h:sv[iv.toNat]!.qC.qY=false)(h1:sv[iv.toNat]!.qC.qK≠100)(hc:c=s.qA.length)(e:L=Vl s (⟨jg [true] s.qA.length,sv[iv.toNat]!.qC.qG,sv[iv.toNat]!.qC.qF⟩:qV) own iv sv.length c)
 (h2:AllB3 L sv.length) (e2:L=nowD s own sv.length iv.toNat sv[iv.toNat]!.qC->Qd ⟨sv,wi⟩ iv.toNat (workD s own sv.length iv.toNat sv[iv.toNat]!.qC)=⟨SL,wi⟩):workM s own ⟨sv,wi⟩ iv.toNat=(⟨SL,wi⟩,0):=
 (work_0 (v:=⟨sv,wi⟩) (by rw[show ((⟨sv,wi⟩:zO).qE[iv.toNat]!).qC.qY=false from h];exact Bool.false_ne_true) h1 (by
  have h3:=h2
  rw[now_is hi hc e] at h3
  exact h3)).trans (by rw[←e2<|now_is hi hc e])
end
end
section
theorem reps_cut{α:Type}[qI α]{l:List α}(h:reps w F vs l)(i:Nat)(hi:i<l.length):
 ∃GA GB,((∀b∈GA++GB,b∈F)/\(F.Nodup->(GA++GB).Nodup))/\reps w GA (vs.take<|i*qI.size α) (l.take i)/\reps w GB (vs.drop ((i+1)*qI.size α)) (l.drop<|i+1):=by
 obtain⟨G1,Gk,G2,v1,cs,v2,rfl,rfl,m1,m2,_,s1,s2⟩:=reps_get h i hi
 refine⟨G1,G2,⟨fun b hb=>?_,fun hn=>?_⟩,?_,?_⟩
 ·simp only[List.mem_append] at hb ⊢
  rcases hb with h|h <;> simp[h]
 ·rw[List.append_assoc,List.nodup_append,List.nodup_append] at hn
  rw[List.nodup_append]
  exact⟨hn.1,hn.2.1.2.1,fun x hx y hy=>hn.2.2 x hx y<|List.mem_append.2<|.inr hy⟩
 ·rw[←m1,List.append_assoc,List.take_left]
  exact s1
 ·have e:(i+1)*qI.size α=(v1++cs).length:=by rw[List.length_append,m1,m2,Nat.add_mul,Nat.one_mul]
  rw[e,List.drop_left]
  exact s2
section
variable{P : Program}{Q : Exit -> Act -> World -> Prop}{n : Nat}{ρ : Env}{W0 w : World}{ps : List Prv}{Γ : List Fact}
 {d:Nat} {ty:TypeId} {pos:String} {af:Array Edge} {K:Env->World->Prop}
theorem y_upI{x:Operand}(kk:Nat)(hu:P.underlying t=some (.slice e))(he:TI P e z sz e9)(hx:ev n ρ x=Sv a m c)(hy:ev n ρ y=.int .i64 iv)(hi:iv=(kk:Int))(hk:kk<=c):
 (execOp (ev n ρ) ⟨some d,.slice t x none (some y) none,ty,pos,af,none⟩).run P w=.ok (.value<|Sv a kk c) w:=by
 subst hi;exact y_up kk hu he hx hy hk
theorem y_fromI{x:Operand}(kk:Nat)(hu:P.underlying t=some (.slice e))(he:TI P e z sz e9)(hx:ev n ρ x=Sv (some ⟨b,0,none⟩) m c)(hy:ev n ρ y=.int .i64 iv)(hi:iv=(kk:Int))(hk:kk<=m)(hm:m<=c):
 (execOp (ev n ρ) ⟨some d,.slice t x (some y) none none,ty,pos,af,none⟩).run P w=.ok (.value<|Sv (some ⟨b,if c=kk then 0 else 0+kk*sz,none⟩) (m-kk)<|c-kk) w:=by
 subst hi;exact y_from kk hu he hx hy hk hm
theorem St.cutRow{α:Type}[qI α](H:St W0 w ps Γ)(j:Nat){l:List α}(hf:Γ[j]? =some (qX true F xs l))(i:Nat)(hi:i<l.length):
 ∃GA GB,((∀b∈GA++GB,b∈F)/\(F.Nodup->(GA++GB).Nodup))/\St W0 w ps (qX true GA (xs.take<|i*qI.size α) (l.take i)::qX true GB (xs.drop ((i+1)*qI.size α)) (l.drop<|i+1)::Γ):=by
 obtain⟨GA,GB,hs,h1,h2⟩:=reps_cut (H.get j hf).1 i hi
 have hA:∀b∈GA,b∈F:=fun b hb=>hs.1 b<|List.mem_append.2<|.inl hb
 have hB:∀b∈GB,b∈F:=fun b hb=>hs.1 b<|List.mem_append.2<|.inr hb
 have H1:=H.jR j hf (qX true GB (xs.drop ((i+1)*qI.size α))<|l.drop<|i+1) ⟨h2,fun e=>((H.get j hf).2 e).sub hB⟩ hB
 exact⟨GA,GB,hs,H1.jR (j+1) hf (qX true GA (xs.take<|i*qI.size α)<|l.take i) ⟨h1,fun e=>((H.get j hf).2 e).sub hA⟩ hA⟩
theorem o_appendV[Dfr]{x:Operand}{cs:List Value}(H:St W0 w ps Γ)(i:Nat)(hp:ps[i]? =some (.row v e sz nn xs))(k:Nat)(hk:ps[k]? =some (.row (Sv (some ⟨b,0,none⟩) n2 c2) e sz n2 ys))
 (hu:P.underlying t=some (.slice e)) (he:TI P e z sz e9) (zm:z.cells.size=sz) (h0:0<sz) (hs:ev n ρ s=v) (hx:ev n ρ x=Sv (some ⟨b,off,none⟩) m c') (hl:cs.length=m*sz)
 (hc:∀q u,cs[q]? =some u->ys[off+q]? =some u) (h1:∀u∈cs,u.oneCell'=true) (hm:nn+m<=maxLen) (hb:(nn+m)*e9 <=140737488355328)
 (kk:∀a c w',St W0 w' (ps.set i<|.row (Sv a (nn+m) c) e sz (nn+m)<|xs++cs) Γ->K (upd ρ d<|Sv a (nn+m) c) w'):
 OW P Q ⟨some d,.call ⟨.builtin .append,#[s,x],#[t,t]⟩,ty,pos,af,none⟩ n ρ w K:=by
 obtain⟨i',hi,Ue,MH,Tn⟩:=info_parts he
 have ee:w.ownsRow W0.heap.size e sz v nn xs:=H.has _<|List.mem_of_getElem? hp
 obtain⟨v',w',hr,ho,hg,_,hbl⟩:=run_append_own_at (P:=P) w W0.heap.size t ty e i' z sz e9 hu hi Ue MH Tn zm h0 v nn xs ee ⟨b,off,none⟩ m c' cs hl
  (fun k' u CT =>by rw[Addr.add_lit];exact H.rowGet k hk<|hc k' u CT) h1 hm hb H.base.size
 have H':St W0 w' (ps.set i<|.row v' e sz (nn+m)<|xs++cs) Γ:=H.change i hp hg.os hg.tape hg.output hg.size (fun c hc iw=>hg.block c hc<|fun e'=>iw e'.symm) ho (by
  rcases hbl with h|h
  ·exact Or.inl h
  ·exact Or.inr<|Or.inr ⟨_,h,Nat.le_refl _⟩)
 obtain⟨a,c,rfl,_⟩:=H'.jB i<|set_at hp
 exact Xx _ (by simp[execOp,resolve,invoke,builtin,hs,hx,hr])<|kk a c w' H'
theorem o_appendHd[Dfr]{α:Type}[qI α]{x:Operand}{l:List α}(H:St W0 w ps Γ)(i:Nat)(hp:ps[i]? =some (.row v e (qI.size α) nn xs))(k:Nat)(hk:ps[k]? =some (.row (Sv (some ⟨b,0,none⟩) n2 c2) e (qI.size α) n2 ys))
 (j:Nat) (hf:Γ[j]? =some (qX fr G (ys.take<|m*qI.size α) l))
 (hu:P.underlying t=some (.slice e)) (he:TI P e z (qI.size α) e9) (zm:z.cells.size=qI.size α) (h0:0<qI.size α) (hs:ev n ρ s=v) (hx:ev n ρ x=Sv (some ⟨b,0,none⟩) m c') (hm2:m<=n2) (hm:nn+m<=maxLen) (hb:(nn+m)*e9 <=140737488355328)
 (kk:∀a c w',St W0 w' (ps.set i<|.row (Sv a (nn+m) c) e (qI.size α) (nn+m)<|xs++ys.take (m*qI.size α)) Γ->K (upd ρ d<|Sv a (nn+m) c) w'):
 OW P Q ⟨some d,.call ⟨.builtin .append,#[s,x],#[t,t]⟩,ty,pos,af,none⟩ n ρ w K:=by
 have hl:=H.rowLen k hk
 have hle:m*qI.size α<=n2*qI.size α:=Nat.mul_le_mul_right _ hm2
 refine o_appendV H i hp k hk hu he zm h0 hs hx (by rw[List.length_take];omega) (fun q u h=>?_) (reps_oneU (H.get j hf).1) hm hb kk
 have hq:q<(ys.take<|m*qI.size α).length:=(List.getElem?_eq_some_iff.1 h).1
 rw[List.length_take] at hq
 rw[List.getElem?_take_of_lt qf] at h
 rw[Nat.zero_add];exact h
theorem o_appendTl[Dfr]{α:Type}[qI α]{x:Operand}{p:Nat}{l:List α}(H:St W0 w ps Γ)(i:Nat)(hp:ps[i]? =some (.row v e (qI.size α) nn xs))(k:Nat)(hk:ps[k]? =some (.row (Sv (some ⟨b,0,none⟩) n2 c2) e (qI.size α) n2 ys))
 (j:Nat) (hf:Γ[j]? =some (qX fr G (ys.drop<|p*qI.size α) l))
 (hu:P.underlying t=some (.slice e)) (he:TI P e z (qI.size α) e9) (zm:z.cells.size=qI.size α) (h0:0<qI.size α) (hs:ev n ρ s=v) (hx:ev n ρ x=Sv (some ⟨b,if c2=p then 0 else 0+p*qI.size α,none⟩) (n2-p) c') (hm2:p<=n2) (hn2:n2<=c2) (hm:nn+(n2-p)<=maxLen) (hb:(nn+(n2-p))*e9 <=140737488355328)
 (kk:∀a c w',St W0 w' (ps.set i<|.row (Sv a (nn+(n2-p)) c) e (qI.size α) (nn+(n2-p))<|xs++ys.drop (p*qI.size α)) Γ->K (upd ρ d<|Sv a (nn+(n2-p)) c) w'):
 OW P Q ⟨some d,.call ⟨.builtin .append,#[s,x],#[t,t]⟩,ty,pos,af,none⟩ n ρ w K:=by
 have hl:=H.rowLen k hk
 have hle:p*qI.size α<=n2*qI.size α:=Nat.mul_le_mul_right _ hm2
 refine o_appendV H i hp k hk hu he zm h0 hs hx (by rw[List.length_drop,Nat.sub_mul];omega) (fun q u h=>?_) (reps_oneU (H.get j hf).1) hm hb kk
 have hq:q<(ys.drop<|p*qI.size α).length:=(List.getElem?_eq_some_iff.1 h).1
 rw[List.length_drop,hl] at hq
 have iw:¬c2=p:=fun e=>by
  have:n2=p:=by omega
  subst this;omega
 rw[if_neg iw,Nat.zero_add]
 rw[List.getElem?_drop] at h
 exact h
theorem o_appendAl[Dfr]{α:Type}[qI α]{x:Operand}{a0:yOA}{l:List α}(H:St W0 w ps Γ)(i:Nat)(hp:ps[i]? =some (.row v e (qI.size α) nn xs))(k:Nat)(hk:ps[k]? =some (.row (Sv a0 n2 c2) e (qI.size α) n2 ys))
 (j:Nat) (hf:Γ[j]? =some (qX fr G ys l))
 (hu:P.underlying t=some (.slice e)) (he:TI P e z (qI.size α) e9) (zm:z.cells.size=qI.size α) (h0:0<qI.size α) (hs:ev n ρ s=v) (hx:ev n ρ x=Sv a0 n2 c2) (hm:nn+n2<=maxLen) (hb:(nn+n2)*e9 <=140737488355328)
 (kk:∀a c w',St W0 w' (ps.set i<|.row (Sv a (nn+n2) c) e (qI.size α) (nn+n2)<|xs++ys) Γ->K (upd ρ d<|Sv a (nn+n2) c) w'):
 OW P Q ⟨some d,.call ⟨.builtin .append,#[s,x],#[t,t]⟩,ty,pos,af,none⟩ n ρ w K:=by
 have hl:=H.rowLen k hk
 obtain⟨i',hi,Ue,MH,Tn⟩:=info_parts he
 rcases a0 with _|⟨b,off,sp⟩
 ·have ee:w.ownsRow W0.heap.size e (qI.size α) (Sv none n2 c2) n2 ys:=H.has _ (List.mem_of_getElem? hk)
  obtain⟨_,h|⟨g,gA,gE,hv,_⟩⟩:=ee
  ·have he0:n2=0/\c2=0:=by simp only[Value.slice.injEq] at h;omega
   obtain⟨rfl,rfl⟩:=he0
   have hy:ys=[]:=List.length_eq_zero_iff.1<|by rw[hl];simp
   subst hy
   obtain⟨a1,c1,rfl,UE,_⟩:=H.jB i hp
   refine Xx (w':=w) (Sv a1 nn c1) (by simp[execOp,resolve,invoke,builtin,hs,hx,run_append_none hu hi UE]) ?_
   have H':=kk a1 c1 w
   simp only[Nat.add_zero,List.append_nil] at H'
   refine H' ?_
   have:ps.set i (.row (Sv a1 nn c1) e (qI.size α) nn xs)=ps:=by
    apply List.ext_getElem?
    intro j'
    by_cases hj:i=j'
    ·subst hj
     rw[hp]
     have CU :i<ps.length:=(List.getElem?_eq_some_iff.1 hp).1
     rw[List.getElem?_set_self CU]
    ·rw[List.getElem?_set_ne hj]
   rw[this];exact H
  ·cases hv
 ·have ee:w.ownsRow W0.heap.size e (qI.size α) (Sv (some ⟨b,off,sp⟩) n2 c2) n2 ys:=H.has _ (List.mem_of_getElem? hk)
  have ho:off=0/\sp=none:=by
   obtain⟨_,h|⟨g,gA,gE,hv,_⟩⟩:=ee
   ·simp at h
   ·simp only[Value.slice.injEq,Option.some.injEq,Addr.mk.injEq] at hv;exact⟨hv.1.2.1,hv.1.2.2⟩
  obtain⟨rfl,rfl⟩:=ho
  exact o_appendV H i hp k hk hu he zm h0 hs hx hl (fun q u h=>by rw[Nat.zero_add];exact h) (reps_oneU (H.get j hf).1) hm hb kk
theorem erase_cut{α:Type}{l:List α}(hi:i<l.length):(([]++l.take i)++([]++l.drop (i+1)))=l.eraseIdx i:=(List.eraseIdx_eq_take_drop_succ ..).symm
end
end
section
section
variable{s : qJ}{own : yLI}{n i : Nat}{sv L : List zI}{wi : List zC}
theorem sadv_4(h:¬(sv[i]!.qC.qY=true/\AllGot sv[i]!.qC.jA sv[i]!.qC.jA.length/\Xg sv[i]!)):QR s ⟨sv,wi⟩ i=(⟨sv,wi⟩,4):=adv_4 (v:=⟨sv,wi⟩) h
theorem sadv_w(h:sv[i]!.qC.qY=false):QR s ⟨sv,wi⟩ i=(⟨sv,wi⟩,4):=sadv_4 fun x=>by rw[h] at x;exact absurd x.1 Bool.false_ne_true
theorem sadv_g(hb:b<sv[i]!.qC.jA.length)(h:(sv[i]!.qC.jA)[b]! =false):QR s ⟨sv,wi⟩ i=(⟨sv,wi⟩,4):=sadv_4 fun x=>by
 have:=x.2.1 b hb
 rw[h] at this
 exact absurd this Bool.false_ne_true
theorem sadv_s(h:¬Xg sv[i]!):QR s ⟨sv,wi⟩ i=(⟨sv,wi⟩,4):=sadv_4 fun x=>h x.2.2
theorem sadv_3(hd:d=sv[i]!.qC)(h1:d.qY=true)(h2:AllGot d.jA d.jA.length)(h3:Xg sv[i]!)(hb:d.qG.length=xJ s)(hc:c=d.qG.length)
 (h:¬(yX (Va d.qG d.qU c) (Va d.qG d.qU c).length/\Yj (vX d.qF d.qU[d.qG.length]! 1))):QR s ⟨sv,wi⟩ i=(⟨sv,wi⟩,3):=by
 subst hd
 subst hc
 rw[hb] at h
 refine adv_3 (v:=⟨sv,wi⟩) ⟨h1,h2,h3⟩ fun x=>h ?_
 have x:yX (sumD sv[i]!.qC) (sumD sv[i]!.qC).length:=x
 rw[sum_adv hb] at x
 exact allBags_cat.1 x
theorem sadv_0(hd:d=sv[i]!.qC)(h1:d.qY=true)(h2:AllGot d.jA d.jA.length)(h3:Xg sv[i]!)(hb:d.qG.length=xJ s)(hc:c=d.qG.length)
 (h:yX (Va d.qG d.qU c) (Va d.qG d.qU c).length) (h4:Yj (vX d.qF d.qU[d.qG.length]! 1))
 (e:L=sv.set i { sv[i]! with qC:=⟨d.qK+1,Va d.qG d.qU c,vX d.qF d.qU[d.qG.length]! 1,false,[],[],[],d.jH⟩}):QR s ⟨sv,wi⟩ i=(⟨L,wi⟩,0):=by
 subst hd
 subst hc
 rw[hb] at h h4 e
 have x:yX (sumD sv[i]!.qC) (sumD sv[i]!.qC).length:=by rw[sum_adv hb];exact allBags_cat.2 ⟨h,h4⟩
 have:=adv_0 (s:=s) (v:=⟨sv,wi⟩) (i:=i) ⟨h1,h2,h3⟩ x
 rw[this,e,show nextD s ((⟨sv,wi⟩:zO).qE[i]!).qC=_ from nextD_adv hb]
 rfl
theorem sadv_cat{p:Nat}(hp:p<d.qG.length):(d.qG++[d.qF])[p]! =d.qG[p]! :=by
 rw[getElem!_pos (d.qG++[d.qF]) p qy,getElem!_pos d.qG p hp,List.getElem_append_left hp]
theorem sadv_end:(d.qG++[d.qF])[d.qG.length]! =d.qF:=by
 rw[getElem!_pos (d.qG++[d.qF]) d.qG.length qm];simp
theorem sadv_row(hg:Giv s own n)(h:jk s own n i d)(hw:d.qY=true)(hc:c<d.qG.length):
 ((Va d.qG d.qU c)[c]!).length<=d.qU[c]!.length/\Mid ((Va d.qG d.qU c)[c]!)/\XG d.qU[c]! 1:=by
 have h1:=(plusPre hg.sys h.all (h.got hw).2.2.1).2 c qy
 rw[sadv_cat hc] at h1
 rw[advTo_get hc,if_neg qf]
 exact h1
theorem sadv_last(hg:Giv s own n)(h:jk s own n i d)(hw:d.qY=true):
 d.qF.length<=d.qU[d.qG.length]!.length/\Mid d.qF/\XG d.qU[d.qG.length]! 1:=by
 have h1:=(plusPre hg.sys h.all (h.got hw).2.2.1).2 d.qG.length qm
 rw[sadv_end] at h1
 exact h1
theorem sadv_len(h:jk s own n i d)(hw:d.qY=true):d.qG.length=xJ s/\d.qU.length=d.qG.length+1:=by
 have h1:=h.all.len
 have h2:=(h.got hw).2.2.1.len
 rw[List.length_append,List.length_singleton] at h1
 omega
theorem sadv_step(hc:c<d.qG.length):(Va d.qG d.qU c).set c (vX ((Va d.qG d.qU c)[c]!) d.qU[c]! 1)=Va d.qG d.qU (c+1):=
 advTo_set hc (by rw[advTo_get hc,if_neg qf])
variable{iv : Int}{c : Nat}{d : zG}{LN : List yLL}{SL : List zI}{B : yLL}{G : List Bool}
def gotTo(iv:Int)(k:Nat):List Bool:=(List.range k).map fun(j:Nat)=>((j:Int) == iv)
theorem gotTo_snoc(iv:Int)(k:Nat):gotTo iv k++[((k:Int) == iv)]=gotTo iv (k+1):=by simp[gotTo,List.range_succ]
theorem gotTo_len(iv:Int)(k:Nat):(gotTo iv k).length=k:=by simp[gotTo]
theorem gotTo_all(hi:0<=iv){k:Nat}(hk:k=n):gotTo iv k=(List.replicate n false).set iv.toNat true:=by
 subst hk
 apply List.ext_getElem (by simp[gotTo])
 intro j h1 h2
 simp only[gotTo,List.getElem_map,List.getElem_range,List.getElem_set,List.getElem_replicate]
 split
 ·simp;omega
 ·simp;omega
theorem sview_ok(hg:Giv s own n)(h:jk s own n i d):zA s (⟨List.replicate s.qA.length true,d.qG,d.qF⟩:qV):=h.view hg.sys.1
theorem sview_w(s:qJ)(d:zG):Whole (⟨List.replicate s.qA.length true,d.qG,d.qF⟩:qV):=view_whole (s:=s) d
theorem sb_row(hg:Giv s own n)(hi:0<=iv)(h:jk s own n iv.toNat d)(hc:c<s.qA.length):((jU s own d iv c)[c]!).length=vG s/\Mid ((jU s own d iv c)[c]!):=by
 have:=sBags_row hg h hc
 rwa [Int.toNat_of_nonneg hi] at this
theorem sb_took(hg:Giv s own n)(h:jk s own n i d)(c:Nat):(yV s (xq s (⟨List.replicate s.qA.length true,d.qG,d.qF⟩:qV)) (c:Int) s.qB.length).length=vG s/\XG (yV s (xq s (⟨List.replicate s.qA.length true,d.qG,d.qF⟩:qV)) (c:Int) s.qB.length) (-1):=
 ⟨took_len _ _ _,tookOk hg h c⟩
theorem sb_len(h:jk s own n i d)(c:Nat):(jU s own d iv c).length=s.qA.length:=by
 rw[sBags_len]
 have:=h.all.len
 rw[List.length_append,List.length_singleton] at this
 have e:xJ s=s.qA.length:=rfl
 omega
theorem sb_end(hg:Giv s own n)(hi:0<=iv)(h:jk s own n iv.toNat d)(hc:c=s.qA.length):jU s own d iv c=bagsD s d:=by
 have:=sBags_end hg h
 rw[Int.toNat_of_nonneg hi] at this
 rw[hc];exact this
theorem swork_0(hi:0<=iv)(hd:d=sv[iv.toNat]!.qC)(h:d.qY=false)(h1:d.qK≠100)(hc:c=s.qA.length)(e:LN=Vl s (⟨List.replicate s.qA.length true,d.qG,d.qF⟩:qV) own iv sv.length c)
 (h2:AllB3 LN sv.length) (hB:B=bagsD s d) (hG:G=(List.replicate sv.length false).set iv.toNat true)
 (eL:SL=sv.set iv.toNat { sv[iv.toNat]! with qC:=⟨d.qK,B,d.qF,true,G,LN[iv.toNat]!,LN,d.zM⟩}):workM s own ⟨sv,wi⟩ iv.toNat=(⟨SL,wi⟩,0):=by
 subst hd
 refine workR_0 hi h h1 hc e h2 fun z=>?_
 rw[eL,hB,hG]
 subst z
 rfl
variable{d : Qu}{p : zC}{L1 L2 : List zI}
theorem doR_advance{d:Qu}(hk:d.xQ=5)(h:InS sv d.fA):doM s own ⟨sv,wi⟩ d=QR s ⟨sv,wi⟩ d.fA.toNat:=do_advance hk h
theorem stale_w(h:sv[p.fTo.toNat]!.qC.qY=false):true=true<->Stale sv p:=iff_of_true J<|.inl h
theorem stale_r(h:sv[p.fTo.toNat]!.qC.qK≠p.qK):true=true<->Stale sv p:=iff_of_true J<|.inr<|.inl h
theorem stale_g(h1:sv[p.fTo.toNat]!.qC.qY=true)(h2:sv[p.fTo.toNat]!.qC.qK=p.qK):(sv[p.fTo.toNat]!.qC.jA)[p.Q9.toNat]! =true<->Stale sv p:=
 ⟨fun h=>.inr<|.inr h,fun h=>by
  rcases h with h|h|h
  ·rw[h1] at h;cases h
  ·exact absurd h2 h
  ·exact h⟩
theorem fresh_of(h:¬Stale sv p):sv[p.fTo.toNat]!.qC.qY=true:=by
 cases e:sv[p.fTo.toNat]!.qC.qY with
 |true=>rfl
 |false=>exact absurd (.inl e) h
theorem sumC_eq(hc:c=sv[p.fTo.toNat]!.qC.qU.length):XP sv[p.fTo.toNat]!.qC.qU p.qG c=sumC sv p:=by rw[hc];rfl
theorem sgot_sets(hc:c=sv[p.fTo.toNat]!.qC.qU.length)(hi:p.fTo.toNat<sv.length)(e1:L1=sv.set p.fTo.toNat { sv[p.fTo.toNat]! with qC:={ sv[p.fTo.toNat]!.qC with qU:=XP sv[p.fTo.toNat]!.qC.qU p.qG c }})
 (e2:L2=L1.set p.fTo.toNat { L1[p.fTo.toNat]! with qC:={ L1[p.fTo.toNat]!.qC with jA:=L1[p.fTo.toNat]!.qC.jA.set p.Q9.toNat true }}):(Qd ⟨sv,wi⟩ p.fTo.toNat<|gotD sv[p.fTo.toNat]!.qC p)=⟨L2,wi⟩:=
 got_sets hi (by rw[e1,sumC_eq hc]) e2
theorem sdoR_post0{d:Qu}(hk:d.xQ=3)(h:InS sv d.fA/\InS sv d.fB/\d.fA≠d.fB)(h2:Xg sv[d.fA.toNat]!)(h3:wi.length≠12):doM s own ⟨sv,wi⟩ d=(⟨sv,wi++[⟨sv[d.fA.toNat]!.qR.qK,d.fA,d.fB,(sv[d.fA.toNat]!.qR.jH)[d.fB.toNat]!⟩]⟩,0):=by
 rw[doR_post0 hk h h2 h3,h2.1]
end
end
section
theorem sadv_ok(s:qJ)(own:yLI)(ap:yOA)(cp:Nat)(Fp:yLN)(ar:yOA)(cr:Nat)(Fr:yLN)(ao:yOA)(co:Nat)(Fo:yLN)(sb:Nat)(sv:List zI)(wi:List zC)(bk:Nat)(n:Nat)(dN:yOA)(dC:Nat)(bQ:Nat)(bB:List Value)(bq:yLN)(bS:yOA)(ix:Nat)(bo:Nat)(bu:List Value)(bg:yLN)(iv:Int)(H:St W0 w ((.box bk [pp sb 0,Sv ao own.length co,Sv dN dC bQ,Sv bS ix bo] 86)::(.box sb (yS s ap cp ar cr) 27)::(rr dN dC bQ 49 16 bB)::(rr bS ix bo 77 4 bu)::ps) ((sF false Fp ap cp s.qA)::(sF false Fr ar cr s.qB)::(sF false Fo ao co own)::(qX true bq bB sv)::(qX true bg bu wi)::Γ))(N:Fresh W0.heap.size (bq::bg::Ns))(K0:Kept Ns Γ)(p0:Giv s own n)(p1:Vo s own n (⟨sv,wi⟩:zO))(p2:0<=iv/\iv<n)(OL:∀f∈(sF false Fp ap cp s.qA::sF false Fr ar cr s.qB::sF false Fo ao co own::Γ),∀b∈f.F,b<W0.heap.size):Calls Tryz.prog 109 #[pp bk 0,yI iv] w (fun e w'=>∃v,e=.returned v/\∃(qa:List Value) (pD:yLN) (rq:yOA) (pX:Nat) (pb:Nat) (pt:List Value) (pV:yLN),v=yI ((QR s (⟨sv,wi⟩:zO) iv.toNat).2)/\Fresh W0.heap.size (pD::pV::Ns)/\St W0 w' ((.box bk [pp sb 0,Sv ao own.length co,Sv dN dC bQ,Sv rq pX pb] 86)::(.box sb (yS s ap cp ar cr) 27)::(rr dN dC bQ 49 16 qa)::(rr rq pX pb 77 4 pt)::ps) ((sF false Fp ap cp s.qA)::(sF false Fr ar cr s.qB)::(sF false Fo ao co own)::(qX true pD qa ((QR s (⟨sv,wi⟩:zO) iv.toNat).1.qE))::(qX true pV pt ((QR s (⟨sv,wi⟩:zO) iv.toNat).1.vz))::Γ)):=by
 refine en func109 ntmps109 ?_
 have KE:=qN (H.get 2 J).1
 obtain rfl:=H.xf (α:=zI) 2 rfl 3 rfl qj
 obtain rfl:=H.xf (α:=zC) 3 rfl 4 rfl qj
 have g2:=p0.len
 have g4:=p0.few
 have l1:sv.length=n:=p1.len
 have y1:jk s own n iv.toNat sv[iv.toNat]!.qC/\jk s own n iv.toNat sv[iv.toNat]!.qR:=p1.srv iv.toNat qf
 have y2:=y1.1.small p0
 have y3:=y2.got
 have y0:=y1.1.rnd
 refine zcr<|sp (yI 0)<|zjc<|sq 2<|oF J<|oF J<|oL J (H.cell 0 J J)<|sp (yI iv) ?_
 obtain⟨b1,rfl⟩:=H.jm 2 rfl qf
 refine oI J J<|sq 1<|zjcc<|sq 2<|oF J<|oF J ?_
 obtain⟨X0,XZ,lf,QB,QA,fE,Cg,BG,CK,nI,nK,nD,Bs,Bw,B7,t9,t6,uf,Aa,H⟩:=H.jV zV 2 rfl 3 rfl rfl iv.toNat qf
 refine oL J (H.zD 2 J (Aa 3 _ J) qf)<|sp (Bv (!(sv[iv.toNat]!.qC.qY)))<|sp (Bv (!(sv[iv.toNat]!.qC.qY))) ?_
 cases h4:(!(sv[iv.toNat]!.qC.qY))
 ·replace h4:=xw h4
  refine qP 22 J J<|sq 1<|qP 22 J J<|sp (yI iv)<|qP 22 J J<|sw<|vF #[pp bk 0,yI iv] J J call105<|en func105 ntmps105 ?_
  refine zcr<|sp (Bv false)<|zjc<|sq 2<|oF J<|oF J<|oL J (H.cell 0 J J)<|sp (yI iv)<|oI J J<|sq 1<|zjn<|xO<|vW 2 J H [0,1,2,3] [0,1,2,3,4,5,6,7,8,9,10] fun H=>?_
  dsimp only[yu,yU]
  have S:=H.ve (zR 0 4)<|zR 0 11
  refine rtl 0 S ?_
  refine rtl 1 S ?_
  refine tF 2 J J S ?_
  refine tF 3 J J S ?_
  obtain⟨Ts,T8,SO,JK,JZ,Kz,ad7,aa9,act,Lv,Lk,JW,acd,abC,aeK,Tc,RQ,Ua,hx7,H⟩:=H.jV Qk 2 rfl 9 rfl rfl iv.toNat qf
  have S:=H.ve (zR 0 4)<|zR 6 11
  refine rt 4 _ (jZ (off:=0+(iv:Int).toNat*16+8+0) isAgg2 J<|fun _ h=>(h.zD 2 J (hx7 0 _ J) qf)) S ?_
  refine rtl 5 S ?_
  refine rtl 6 S ?_
  refine tF 7 J J S ?_
  refine tF 8 J J S ?_
  refine rt 9 _ (jZ (off:=0+(iv:Int).toNat*16+0+0) isAgg2 J<|fun _ h=>(h.zD 2 J (Aa 0 _ J) qf)) S ?_
  refine rtp 10 (Bv ((sv[iv.toNat]!.qR.qK:Int) == sv[iv.toNat]!.qC.qK)) S ?_
  refine rtp 11 (Bv ((sv[iv.toNat]!.qR.qK:Int) == sv[iv.toNat]!.qC.qK)) S ?_
  cases h8:((sv[iv.toNat]!.qR.qK:Int) == sv[iv.toNat]!.qC.qK)
  ·replace h8:=ne_of_beq_false h8
   refine vC (zR 12 5) 5 (H.pick (zR 0 4)<|zR 6 11)<|xx qh<|zg<|sp (Bv false)<|sp (Bv false)<|zjr<|ret1 (Bv false) J J ⟨_,J,(qP 22 J J<|sp (Bv true)<|sp (Bv true)<|zjn<|cTr J<|zcr<|sp (yI 4)<|zjr<|t_r<|ret1 (yI 4) J J ⟨_,J,?_⟩)⟩
   rw[sadv_s<|by rintro⟨h1,h2⟩;contradiction]
   all_goals exact⟨bB,bq,bS,wi.length,bo,bu,bg,rfl,N,H.xG 4 17 (zR 0 4) (zR 12 5) xE xE⟩
  replace h8:=eq_of_beq h8
  have S:=H.ve (zR 0 4)<|zR 6 11
  refine rgl 12 24 S ?_
  refine rgl 13 24 S ?_
  refine gF 14 J J S ?_
  refine gF 15 J J S ?_
  refine rg 16 _ 24 (jZ (off:=0+(iv:Int).toNat*16+8+3) isAgg4 J<|fun _ h=>(h.zD 2 J (hx7 3 _ J) qf)) S ?_
  refine xx qh<|zg<|sq 2<|zjr<|ret1 (Bv sv[iv.toNat]!.qR.qY) J J ⟨_,J,(qP 22 J J<|sq 2<|zjn<|vP _ J (fun h9=>?_)<|fun h9=>?_)⟩
  ·replace h9:=xF h9
   refine zcr<|sp (yI 4)<|zjr<|t_r<|ret1 (yI 4) J J ⟨_,J,?_⟩
   rw[sadv_s<|by rintro⟨h1,h2⟩;simp_all]
   all_goals exact⟨bB,bq,bS,wi.length,bo,bu,bg,rfl,N,H.xG 4 17 (zR 0 4) (zR 12 5) xE xE⟩
  replace h9:=xw h9
  obtain⟨y5,y6⟩:=sadv_len y1.1 ql
  have y7:=(y1.1.got ql).1
  refine xe<|t_n<|zcc<|sp (yI 0)<|zjn<|xg<|vk ((fun Z0 Z1 Z2 Z3 Z4 Z5 Z6 Z7 Z8=>fun m' ρ sr=>∃(xR:Env) (nN:Nat),ρ=upd (upd xR 5<|pp b1<|0+(iv:Int).toNat*16) 6 (yI nN)/\((nN:Int)<=sv[iv.toNat]!.qC.jA.length)/\(AllGot sv[iv.toNat]!.qC.jA nN)/\m'=((sv[iv.toNat]!.qC.jA.length)-(nN:Int)).toNat/\Fresh W0.heap.size (bq::bg::Ns)/\St W0 sr (Z0::Z1::Z2::Z3::ps) (Z4::Z5::Z6::Z7::Z8::Γ)) _ _ _ _ _ _ _ _ _) (((sv[iv.toNat]!.qC.jA.length)-(0:Int)).toNat) ⟨_,0,uE2,qf,qx,J,N,H.xG 4 17 (zR 0 4) (zR 12 5) xE xE⟩ ?_
  clear H N
  rintro m' ρ z7 ⟨xR,nN,rfl,i0,i1,rfl,N,H⟩
  refine zcc<|sq 3<|oF J<|oF J ?_
  obtain⟨MY,Rp,MQ,GH,Fs,Fy,SH,SE,RX,GP,Gf,Fn,Uh,R9,Tv,OI,NI,MT,DC,H⟩:=H.jV zV 2 rfl 3 rfl rfl iv.toNat qf
  refine oL J (H.zD 2 J (DC 4 _ J) qf)<|oN J<|sq 1<|zjn<|cD J (fun gz=>?_)<|fun gz=>?_
  ·refine xe (t_n<|xO<|xg<|zcr<|sq 2<|oF J<|oF J<|oL J (H.zD 2 J (DC 4 _ J) qf)<|sq 1 ?_)
   obtain⟨GD,o16,rfl⟩:=H.addr 2 rfl qf
   refine oI J J<|oL J (H.elemBoolN 2 J nN qf)<|sq 1<|zjn<|vP _ J (fun i7=>?_)<|fun i7=>?_
   ·replace i7:=xF i7
    refine zcr<|sp (yI 4)<|zjr<|zr5<|ret1 (yI 4) J J ⟨_,J,?_⟩
    rw[sadv_g (b:=nN) qf ql]
    all_goals exact⟨bB,bq,bS,wi.length,bo,bu,bg,rfl,N,H.xG 4 11 (zR 0 4) (zR 6 5) xE xE⟩
   replace i7:=xw i7
   refine xe<|b_n<|t_n<|zf<|sq 1<|sw<|zY nN 1 J J qf<|sq 1<|xX<|xu (m':=((sv[iv.toNat]!.qC.jA.length)-((nN+1):Int)).toNat) qf ⟨_,nN+1,uE2,?_,?_,J,N,H.xG 4 11 (zR 0 4) (zR 6 5) xE xE⟩
   ·omega
   ·exact i1.succ ql
  refine zx4<|zcr<|sq 2<|oF J<|sw<|oc (l08Copy_ok _ sv[iv.toNat]!.qC (fun r v hv=>H.zD (off:=0+(iv:Int).toNat*16+0+r) 2 J (DC r v hv) qf) (H.get 0 J).1 (H.get 1 J).1 (H.get 2 J).1 (H.get 3 J).1 (H.get 4 J).1 (H.get 5 J).1 qg) ?_
  rintro _ Pa ⟨eg,arJ,Vp,OT,OB,oZ,abI,oG,iG,auD,iH,Gc,abb,dJ,vb,gX,es,aue,eH,Hb,pr,kF,aqn,kC,D2,mS,rfl,M,K⟩ _
  obtain⟨N,H⟩:=H.both K M N [9,10] 11 K0
  obtain rfl:=H.xf (α:=yLI) 0 rfl 0 rfl qj
  obtain rfl:=H.yt 1 rfl
  obtain rfl:=H.Vt 2 rfl
  obtain rfl:=H.xf (α:=yLI) 3 rfl 1 rfl qj
  obtain rfl:=H.xf (α:=yLL) 4 rfl 2 rfl qj
  obtain rfl:=H.xf (α:=yLL) 5 rfl 3 rfl qj
  refine sw<|x8 H ti47 [yI 0,yN,yN,Bv false,yN,yN,yN,yN] fun HX w31 H=>(sw<|xZ H 0 [yI sv[iv.toNat]!.qC.qK,Sv eg sv[iv.toNat]!.qC.qG.length Vp,Sv oZ sv[iv.toNat]!.qC.qF.length oG,Bv sv[iv.toNat]!.qC.qY,Sv iG sv[iv.toNat]!.qC.jA.length iH,Sv Gc sv[iv.toNat]!.qC.qU.length dJ,Sv es sv[iv.toNat]!.qC.jH.length eH,Sv kF sv[iv.toNat]!.qC.zM.length kC] sizeOf47 fun Sw H=>?_)
  dsimp only[List.set] at H
  refine zjcc<|sp (yI 0)<|zjn<|xg<|vk ((fun Z0 Z1 Z2 Z3 Z4 Z5 Z6 Z7 Z8 Z9 dU eC fe fR gB ij nc pN=>fun m' ρ w33=>∃(xR:Env) (c:Nat) (aB:yLL) (Xz:List Value) (Qq:yLN),ρ=upd (upd (upd xR 5<|pp b1<|0+(iv:Int).toNat*16) 7<|pp HX 0) 8 (yI c)/\aB=Va sv[iv.toNat]!.qC.qG sv[iv.toNat]!.qC.qU c/\((c:Int)<=sv[iv.toNat]!.qC.qG.length)/\m'=((sv[iv.toNat]!.qC.qG.length)-(c:Int)).toNat/\Fresh W0.heap.size (gX::pr::mS::bq::bg::Qq::Ns)/\St W0 w33 (Z0::(rr eg sv[iv.toNat]!.qC.qG.length Vp 24 1 Xz)::Z1::Z2::Z3::Z4::Z5::Z6::Z7::Z8::Z9::ps) ((qX true Qq Xz aB)::dU::eC::fe::fR::gB::ij::nc::pN::Γ)) _ _ _ _ _ _ _ _ _ _ _ _ _ _ _ _ _ _) (((sv[iv.toNat]!.qC.qG.length)-(0:Int)).toNat) ⟨_,0,sv[iv.toNat]!.qC.qG,OT,OB,uE3,(by exact advTo_zero _ _),qf,J,(N.xG 6 [1,2,3,4,5,0] xE),H.xG 11 15 (zR 0 11) (0::1::2::3::zR 10 5) xE xE⟩ ?_
  clear H N
  rintro m' ρ WG ⟨xR,c,aB,Xz,Qq,rfl,rfl,i0,rfl,N,H⟩
  have rE:=H.xf (α:=yLI) 1 J 0 J qj
  refine zcc<|sp (yI c)<|oF J<|oL J (H.cell 0 J J)<|oN J<|sq 1<|zjn<|cD J (fun Po=>?_)<|fun Po=>?_
  ·obtain⟨u1,u2,u3⟩:=sadv_row p0 y1.1 ql (c:=c) qf
   refine xe<|t_n<|xO<|xg ?_
   obtain⟨zv,rfl⟩:=H.jm 1 rfl qf
   obtain⟨b37,rfl⟩:=H.jm 4 rfl qf
   refine c_lateC 2 (fun ρ w40=>∃(xR:Env) (a38:yOA) (c39:Nat),ρ=upd (upd (upd (upd (upd (upd xR 5<|pp b1<|0+(iv:Int).toNat*16) 7<|pp HX 0) 8<|yI c) 59<|Sv (aa zv 0) sv[iv.toNat]!.qC.qG.length Vp) 60<|yI c) 71 (Sv a38 ((vX ((Va sv[iv.toNat]!.qC.qG sv[iv.toNat]!.qC.qU c)[c]!) ((sv[iv.toNat]!.qC.qU)[c]!) 1).length) c39)/\Fresh W0.heap.size (gX::pr::mS::bq::bg::Qq::Ns)/\St W0 w40 ((rr a38 ((vX ((Va sv[iv.toNat]!.qC.qG sv[iv.toNat]!.qC.qU c)[c]!) ((sv[iv.toNat]!.qC.qU)[c]!) 1).length) c39 2 1 ((vX ((Va sv[iv.toNat]!.qC.qG sv[iv.toNat]!.qC.qU c)[c]!) ((sv[iv.toNat]!.qC.qU)[c]!) 1).map<|Value.int .i64))::(.box HX [yI sv[iv.toNat]!.qC.qK,Sv (aa zv 0) sv[iv.toNat]!.qC.qG.length Vp,Sv oZ sv[iv.toNat]!.qC.qF.length oG,Bv sv[iv.toNat]!.qC.qY,Sv iG sv[iv.toNat]!.qC.jA.length iH,Sv (aa b37 0) sv[iv.toNat]!.qC.qU.length dJ,Sv es sv[iv.toNat]!.qC.jH.length eH,Sv kF sv[iv.toNat]!.qC.zM.length kC] 47)::(rr (aa zv 0) sv[iv.toNat]!.qC.qG.length Vp 24 1 Xz)::(rr oZ sv[iv.toNat]!.qC.qF.length oG 2 1 (sv[iv.toNat]!.qC.qF.map<|Value.int .i64))::(rr iG sv[iv.toNat]!.qC.jA.length iH 4 1 (sv[iv.toNat]!.qC.jA.map<|Value.bool))::(rr (aa b37 0) sv[iv.toNat]!.qC.qU.length dJ 24 1 vb)::(rr es sv[iv.toNat]!.qC.jH.length eH 29 1 Hb)::(rr kF sv[iv.toNat]!.qC.zM.length kC 29 1 D2)::(.box bk [pp sb 0,Sv ao own.length co,Sv (aa b1 0) sv.length bQ,Sv bS wi.length bo] 86)::(.box sb (yS s ap cp ar cr) 27)::(rr (aa b1 0) sv.length bQ 49 16 bB)::(rr bS wi.length bo 77 4 bu)::ps) ((qX true Qq Xz<|Va sv[iv.toNat]!.qC.qG sv[iv.toNat]!.qC.qU c)::(qX true gX vb sv[iv.toNat]!.qC.qU)::(qX true pr Hb sv[iv.toNat]!.qC.jH)::(qX true mS D2 sv[iv.toNat]!.qC.zM)::(sF false Fp ap cp s.qA)::(sF false Fr ar cr s.qB)::(sF false Fo ao co own)::(qX true bq bB sv)::(qX true bg bu wi)::Γ)) J H [0,1,2,3,4,5,6,7,8,9,10] [0,1,2,3,4,5,6,7,8] (fun H=>?_) ?_
   ·dsimp only[yu,yU]
    have S:=H.ve (zR 0 11)<|zR 0 9
    refine tF 0 J J S ?_
    refine tL 1 J J (fun _ h=>h.cell 0 J J) S ?_
    refine rtp 2 (yI c) S ?_
    refine tF 3 J J S ?_
    refine tL 4 J J (fun _ h=>h.cell 0 J J) S ?_
    refine rtp 5 (yI c) S ?_
    refine tI 6 J J J S ?_
    refine tF 8 J J S ?_
    refine tL 9 J J (fun _ h=>h.cell 0 J J) S ?_
    refine rtp 10 (yI c) S ?_
    refine tI 11 J J J S ?_
    refine jw [7,12] qh qm<|yl J ?_<|yl J ?_ jy
    ·obtain⟨a42,c43,G44,Tj,H⟩:=H.yE 1 rfl 0 rfl (iv:=c) c qf qf
     refine zx (Sv a42 (((Va sv[iv.toNat]!.qC.qG sv[iv.toNat]!.qC.qU c)[c]!).length) c43) isAgg24 rfl ((H.zD 1 rfl Tj qf))<|⟨H.pick (zR 0 11)<|zR 1 9,(ro 12 rfl ?_)⟩
     obtain⟨a46,c47,G48,T0,H⟩:=H.yE 4 rfl 2 rfl (iv:=c) c qf qf
     refine zx (Sv a46 (((sv[iv.toNat]!.qC.qU)[c]!).length) c47) isAgg24 rfl ((H.zD 4 rfl T0 qf))<|⟨H.pick (zR 0 11)<|zR 2 9,(ro 13 rfl ?_)⟩
     refine oc (QV _ ((Va sv[iv.toNat]!.qC.qG sv[iv.toNat]!.qC.qU c)[c]!) ((sv[iv.toNat]!.qC.qU)[c]!) 1 (H.get 1 J).1 (H.get 0 J).1 qg qg qg) ?_
     rintro v55 w53 r55 x54
     replace H:=H.zy x54 r55
     obtain⟨a56,c57,rfl,aP8,aLj⟩:=H.jB 0 rfl
     refine⟨H.pick (zR 1 11)<|zR 2 9,(xx qh ((meet ⟨_,a56,c57,uE6,N,H.xG 12 11 (zR 0 12) (zR 2 9) xE xE⟩)))⟩
    obtain⟨a60,c61,G62,ahi,H⟩:=H.yE 4 rfl 1 rfl (iv:=c) c qf qf
    refine zx (Sv a60 (((sv[iv.toNat]!.qC.qU)[c]!).length) c61) isAgg24 rfl ((H.zD 4 rfl ahi qf))<|⟨H.pick (zR 0 11)<|zR 1 9,(ro 7 rfl ?_)⟩
    obtain⟨a64,c65,G66,aCO,H⟩:=H.yE 1 rfl 1 rfl (iv:=c) c qf qf
    refine zx (Sv a64 (((Va sv[iv.toNat]!.qC.qG sv[iv.toNat]!.qC.qU c)[c]!).length) c65) isAgg24 rfl ((H.zD 1 rfl aCO qf))<|⟨H.pick (zR 0 11)<|zR 2 9,(ro 13 rfl ?_)⟩
    refine oc (QV _ ((Va sv[iv.toNat]!.qC.qG sv[iv.toNat]!.qC.qU c)[c]!) ((sv[iv.toNat]!.qC.qU)[c]!) 1 (H.get 0 J).1 (H.get 1 J).1 qg qg qg) ?_
    rintro v73 w71 r73 x72
    replace H:=H.zy x72 r73
    obtain⟨a74,c75,rfl,aJ8,aOM⟩:=H.jB 0 rfl
    refine⟨H.pick (zR 1 11)<|zR 2 9,(xx qh ((meet ⟨_,a74,c75,uE6,N,H.xG 12 11 (zR 0 12) (zR 2 9) xE xE⟩)))⟩
   clear H N
   rintro ρ w78 ⟨xR,a38,c39,rfl,N,H⟩
   refine oI J J ?_
   obtain⟨G80,N,aBW,H⟩:=H.vJ 0 rfl N<|H.awB [1,2,3,7,8,0] 9 K0
   dsimp only[List.set] at H
   refine sw<|jJ true H 2 J 1 J (Sv a38 ((vX ((Va sv[iv.toNat]!.qC.qG sv[iv.toNat]!.qC.qU c)[c]!) ((sv[iv.toNat]!.qC.qU)[c]!) 1).length) c39) 0 J J sizeOf24 J J (i:=c) qf qf qm fun w79 anN F83 acD H=>?_
   replace N:=(N.Xr 7 [6,0,1,2,3,4,5]).repl acD
   dsimp only[List.set] at H
   refine xX<|b_n<|t_n<|zf<|sp (yI c)<|sw<|zY c 1 J J qf<|sq 1<|xX<|xu (m':=((sv[iv.toNat]!.qC.qG.length)-((c+1):Int)).toNat) qf ⟨_,c+1,_,_,_,uE3,?_,?_,J,(N.xG 6 [1,2,3,4,5,0] xE),H.xG 12 11 (zR 1 11) (0::zR 3 8) xE xE⟩
   ·exact sadv_step qf
   ·omega
  obtain⟨u1,u2,u3⟩:=sadv_last p0 y1.1 ql
  refine zx4<|xO<|vW 3 J H [0,1,2,3,4,5,6,7,8,9,10] [0,1,2,3,4,5,6,7,8] fun H=>?_
  dsimp only[yu,yU]
  have S:=H.ve (zR 0 11)<|zR 0 9
  refine tF 0 J J S ?_
  refine tL 1 J J (fun _ h=>h.cell 0 J J) S ?_
  refine tF 2 J J S ?_
  refine tL 3 J J (fun _ h=>h.cell 0 J J) S ?_
  refine tF 4 J J S ?_
  refine tL 5 J J (fun _ h=>h.cell 0 J J) S ?_
  refine tN 6 J J S ?_
  obtain⟨b86,rfl⟩:=H.jm 4 rfl qf
  refine tI 7 J J J (H.pick (zR 0 11)<|zR 0 9)<|ro 8 J ?_
  obtain⟨a87,c88,G89,ax7,H⟩:=H.yE 4 rfl 1 rfl (iv:=sv[iv.toNat]!.qC.qG.length) sv[iv.toNat]!.qC.qG.length qf qf
  refine zx (Sv a87 (((sv[iv.toNat]!.qC.qU)[sv[iv.toNat]!.qC.qG.length]!).length) c88) isAgg24 rfl ((H.zD 4 rfl ax7 qf))<|⟨H.pick (zR 0 11)<|zR 1 9,(xx qh<|zg ?_)⟩
  obtain⟨G91,aK7,LS⟩:=H.Xv 2 rfl
  refine sw<|oc (QV _ sv[iv.toNat]!.qC.qF ((sv[iv.toNat]!.qC.qU)[sv[iv.toNat]!.qC.qG.length]!) 1 LS (H.get 0 J).1 qg qg qg) ?_
  rintro v99 w97 r99 x98
  replace H:=H.zy x98 r99
  obtain⟨CD,Bq,rfl,asM,aIA⟩:=H.jB 0 rfl
  refine oF J<|sw<|zn H 1 [yI sv[iv.toNat]!.qC.qK,Sv eg sv[iv.toNat]!.qC.qG.length Vp,Sv CD ((vX sv[iv.toNat]!.qC.qF ((sv[iv.toNat]!.qC.qU)[sv[iv.toNat]!.qC.qG.length]!) 1).length) Bq,Bv sv[iv.toNat]!.qC.qY,Sv iG sv[iv.toNat]!.qC.jA.length iH,Sv (aa b86 0) sv[iv.toNat]!.qC.qU.length dJ,Sv es sv[iv.toNat]!.qC.jH.length eH,Sv kF sv[iv.toNat]!.qC.zM.length kC] sizeOf24 fun Rd H=>?_
  dsimp only[List.set] at H
  refine zjcc<|oF J<|oL J (H.cell 1 J J) ?_
  obtain⟨ang,Mv,adV⟩:=H.Vd (α:=yLI) 2 rfl 1 rfl qj
  refine sw<|oq (VF (by rw[←Mv])<|l08Bags_ok _ (Va sv[iv.toNat]!.qC.qG sv[iv.toNat]!.qC.qU c)<|Mv▸adV) H fun akc H=>sp (Bv (!(dec<|yX (Va sv[iv.toNat]!.qC.qG sv[iv.toNat]!.qC.qU c) (Va sv[iv.toNat]!.qC.qG sv[iv.toNat]!.qC.qU c).length)))<|sp (Bv (!(dec<|yX (Va sv[iv.toNat]!.qC.qG sv[iv.toNat]!.qC.qU c) (Va sv[iv.toNat]!.qC.qG sv[iv.toNat]!.qC.qU c).length))) ?_
  cases z9:(!(dec (yX (Va sv[iv.toNat]!.qC.qG sv[iv.toNat]!.qC.qU c) (Va sv[iv.toNat]!.qC.qG sv[iv.toNat]!.qC.qU c).length)))
  ·replace z9:=xw z9
   replace z9:=Qy z9
   refine qP 88 J J<|oF J<|qP 88 J J<|oL J (H.cell 1 J J)<|qP 88 J J ?_
   obtain⟨aKa,aEk,aAn⟩:=H.Xv 0 rfl
   refine sw<|oq (l01Bag_ok _ (vX sv[iv.toNat]!.qC.qF ((sv[iv.toNat]!.qC.qU)[sv[iv.toNat]!.qC.qG.length]!) 1) aAn) H fun aAA H=>qP 88 J J<|sq 2<|zjn<|cQ J (fun Nc=>?_)<|fun Nc=>?_
   ·refine zcr (sp (yI 3)<|zjr<|t_r<|ret1 (yI 3) J J ⟨_,J,?_⟩)
    rw[sadv_3 rfl ql (fun j hj=>i1 j qf) ⟨by assumption,by assumption⟩ y5 (c:=c) qf<|by rintro⟨h1,h2⟩;contradiction]
    all_goals exact⟨bB,bq,bS,wi.length,bo,bu,bg,rfl,(N.xG 6 [3,4] xE),H.xG 12 10 (zR 8 4) (zR 5 5) xE xE⟩
   refine xe<|t_n<|zcr<|oF J<|oL J (H.cell 1 J J)<|sw<|zY sv[iv.toNat]!.qC.qK 1 J J qf<|oF J<|sw<|zn H 1 [yI (sv[iv.toNat]!.qC.qK+1),Sv eg sv[iv.toNat]!.qC.qG.length Vp,Sv CD ((vX sv[iv.toNat]!.qC.qF ((sv[iv.toNat]!.qC.qU)[sv[iv.toNat]!.qC.qG.length]!) 1).length) Bq,Bv sv[iv.toNat]!.qC.qY,Sv iG sv[iv.toNat]!.qC.jA.length iH,Sv (aa b86 0) sv[iv.toNat]!.qC.qU.length dJ,Sv es sv[iv.toNat]!.qC.jH.length eH,Sv kF sv[iv.toNat]!.qC.zM.length kC] sizeOf2 fun ao1 H=>?_
   dsimp only[List.set] at H
   refine zjc<|oF J<|sw<|zn H 1 [yI (sv[iv.toNat]!.qC.qK+1),Sv eg sv[iv.toNat]!.qC.qG.length Vp,Sv CD ((vX sv[iv.toNat]!.qC.qF ((sv[iv.toNat]!.qC.qU)[sv[iv.toNat]!.qC.qG.length]!) 1).length) Bq,Bv false,Sv iG sv[iv.toNat]!.qC.jA.length iH,Sv (aa b86 0) sv[iv.toNat]!.qC.qU.length dJ,Sv es sv[iv.toNat]!.qC.jH.length eH,Sv kF sv[iv.toNat]!.qC.zM.length kC] sizeOf4 fun aB6 H=>?_
   dsimp only[List.set] at H
   refine zjc<|oF J<|oL J (H.cell 1 J J)<|oF J<|sw<|zn H 1 [yI (sv[iv.toNat]!.qC.qK+1),Sv eg sv[iv.toNat]!.qC.qG.length Vp,Sv CD ((vX sv[iv.toNat]!.qC.qF ((sv[iv.toNat]!.qC.qU)[sv[iv.toNat]!.qC.qG.length]!) 1).length) Bq,Bv false,Sv iG sv[iv.toNat]!.qC.jA.length iH,Sv (aa b86 0) sv[iv.toNat]!.qC.qU.length dJ,Sv es sv[iv.toNat]!.qC.jH.length eH,Sv es sv[iv.toNat]!.qC.jH.length eH] sizeOf45 fun FQ H=>?_
   dsimp only[List.set] at H
   refine zjc<|sw<|jS H underlying45 ti29 fun Pc PG H=>oF J<|sw<|zn H 2 [yI (sv[iv.toNat]!.qC.qK+1),Sv eg sv[iv.toNat]!.qC.qG.length Vp,Sv CD ((vX sv[iv.toNat]!.qC.qF ((sv[iv.toNat]!.qC.qU)[sv[iv.toNat]!.qC.qG.length]!) 1).length) Bq,Bv false,Sv iG sv[iv.toNat]!.qC.jA.length iH,Sv (aa b86 0) sv[iv.toNat]!.qC.qU.length dJ,Sv (aa Pc 0) 0 0,Sv es sv[iv.toNat]!.qC.jH.length eH] sizeOf45 fun M5 H=>?_
   dsimp only[List.set] at H
   refine zjc<|sw<|jS H underlying28 ti4 fun T4 abL H=>oF J<|sw<|zn H 3 [yI (sv[iv.toNat]!.qC.qK+1),Sv eg sv[iv.toNat]!.qC.qG.length Vp,Sv CD ((vX sv[iv.toNat]!.qC.qF ((sv[iv.toNat]!.qC.qU)[sv[iv.toNat]!.qC.qG.length]!) 1).length) Bq,Bv false,Sv (aa T4 0) 0 0,Sv (aa b86 0) sv[iv.toNat]!.qC.qU.length dJ,Sv (aa Pc 0) 0 0,Sv es sv[iv.toNat]!.qC.jH.length eH] sizeOf28 fun adL H=>?_
   dsimp only[List.set] at H
   refine zjc<|sw<|jS H underlying29 ti24 fun acM TF H=>oF J<|sw<|zn H 4 [yI (sv[iv.toNat]!.qC.qK+1),Sv eg sv[iv.toNat]!.qC.qG.length Vp,Sv CD ((vX sv[iv.toNat]!.qC.qF ((sv[iv.toNat]!.qC.qU)[sv[iv.toNat]!.qC.qG.length]!) 1).length) Bq,Bv false,Sv (aa T4 0) 0 0,Sv (aa acM 0) 0 0,Sv (aa Pc 0) 0 0,Sv es sv[iv.toNat]!.qC.jH.length eH] sizeOf29 fun aAi H=>?_
   dsimp only[List.set] at H
   refine zjc<|sq 1<|sw<|xW [yI (sv[iv.toNat]!.qC.qK+1),Sv eg sv[iv.toNat]!.qC.qG.length Vp,Sv CD ((vX sv[iv.toNat]!.qC.qF ((sv[iv.toNat]!.qC.qU)[sv[iv.toNat]!.qC.qG.length]!) 1).length) Bq,Bv false,Sv (aa T4 0) 0 0,Sv (aa acM 0) 0 0,Sv (aa Pc 0) 0 0,Sv es sv[iv.toNat]!.qC.jH.length eH] isAgg47 sizeOf47 J (qH (H.cells 4 J) 0 8)<|sq 1<|oF J ?_
   have H0:=H
   obtain⟨apz,akL,aF6,H⟩:=H.ji (α:=yLI) 5 rfl 1 rfl qj
   replace N:=H0.iceB N 6 [5,0,1,2,3,4] 5 akL [2,3,4,8,9] 10 K0
   clear H0
   dsimp only[List.set] at H
   obtain⟨Sz,N,ajE,H⟩:=H.vJ 3 rfl N<|H.awB [0,3,4,5,9,10] 11 K0
   dsimp only[List.set] at H
   replace H:=H.boxRowB 1 [] 0
   dsimp only[List.set] at H
   obtain⟨adp,N,PH,H⟩:=H.freezeB 1 rfl N<|H.awB [0,1,4,5,6,10,11] 12 K0
   dsimp only[List.set] at H
   replace H:=H.boxRow 0 J 1 0 J qj
   dsimp only[List.set] at H
   replace H:=H.yF (α:=yLI)
   have H0:=H
   obtain⟨Sf,YK,ajT,H⟩:=H.ji (α:=yLI) 0 rfl 0 rfl qj
   replace N:Fresh W0.heap.size (Sf::adp::Sz::apz::gX::pr::mS::bq::bg::Ns):=Fresh.ice N.emp H0 0 YK.1 YK.2<|H0.awB [1,2,3,6,7,8,12,13] 14 K0
   clear H0
   dsimp only[List.set] at H
   replace H:=H.boxRow 2 J 1 0 J qj
   dsimp only[List.set] at H
   replace H:=H.yF (α:=yLL)
   have H0:=H
   obtain⟨ayc,ZL,aIl,H⟩:=H.ji (α:=yLL) 2 rfl 0 rfl qj
   replace N:Fresh W0.heap.size (ayc::Sf::adp::Sz::apz::gX::pr::mS::bq::bg::Ns):=Fresh.ice N.emp H0 2 ZL.1 ZL.2<|H0.awB [1,3,4,5,8,9,10,14,15] 16 K0
   clear H0
   dsimp only[List.set] at H
   have H0:=H
   obtain⟨aJD,al3,aGR,H⟩:=H.ji (α:=yLL) 9 rfl 10 rfl qj
   replace N:=H0.iceB N 10 [6,0,1,2,3,4,5,7,8,9] 9 al3 [0,2,4,5,6,9,11,15,16] 17 K0
   clear H0
   dsimp only[List.set] at H
   replace H:=H.mk_DeskD (sv[iv.toNat]!.qC.qK+1) 7 J 6 J false 5 J 3 J 1 J 0 J
   replace N:=(N.Xr 10 [5,4,3,2,1,0,6,7,8,9]).join.join.join.join.join
   obtain⟨aEF,Y5⟩:∃z,z=(sv.set iv.toNat { sv[iv.toNat]! with qC:=(⟨sv[iv.toNat]!.qC.qK+1,(Va sv[iv.toNat]!.qC.qG sv[iv.toNat]!.qC.qU c),vX sv[iv.toNat]!.qC.qF ((sv[iv.toNat]!.qC.qU)[sv[iv.toNat]!.qC.qG.length]!) 1,false,([]:List Bool),([]:yLL),([]:List yLL),sv[iv.toNat]!.qC.jH⟩:zG)}):=⟨_,rfl⟩
   refine sw<|Ve (v:=.agg #[yI (sv[iv.toNat]!.qC.qK+1),Sv eg sv[iv.toNat]!.qC.qG.length Vp,Sv CD ((vX sv[iv.toNat]!.qC.qF ((sv[iv.toNat]!.qC.qU)[sv[iv.toNat]!.qC.qG.length]!) 1).length) Bq,Bv false,Sv (aa T4 0) 0 0,Sv (aa acM 0) 0 0,Sv (aa Pc 0) 0 0,Sv es sv[iv.toNat]!.qC.jH.length eH]) zV H 13 J 17 J 0 J J sizeOf47 J J J iv.toNat qf qf Y5 fun abM NL ac4 WD H=>?_
   dsimp only[List.set] at H
   replace N:=(N.Xr 5 [3,0,1,2,4]).repl WD
   refine zjc<|sp (yI 0)<|zjr<|ret1 (yI 0) J J ⟨_,J,?_⟩
   rw[sadv_0 J ql (fun j hj=>i1 j qf) ⟨by assumption,by assumption⟩ y5 (c:=c) qf ql ql Y5]
   all_goals exact⟨NL,ac4,bS,wi.length,bo,bu,bg,rfl,(N.xG 4 [0,3] xE),H.xG 15 20 (zR 11 4) [15,16,17,0,19] xE xE⟩
  replace z9:=xF z9
  replace z9:=vS z9
  refine zk (zR 89 4)<|sp (Bv true)<|zjn<|cTr J<|zcr<|sp (yI 3)<|zjr<|t_r<|ret1 (yI 3) J J ⟨_,J,?_⟩
  rw[sadv_3 rfl ql (fun j hj=>i1 j qf) ⟨by assumption,by assumption⟩ y5 (c:=c) qf<|by rintro⟨h1,h2⟩;contradiction]
  all_goals exact⟨bB,bq,bS,wi.length,bo,bu,bg,rfl,(N.xG 6 [3,4] xE),H.xG 12 10 (zR 8 4) (zR 5 5) xE xE⟩
 replace h4:=xF h4
 refine zk (zR 23 4)<|sp (Bv true)<|zjn<|cTr J<|zcr<|sp (yI 4)<|zjr<|t_r<|ret1 (yI 4) J J ⟨_,J,?_⟩
 rw[sadv_w ql]
 all_goals exact⟨bB,bq,bS,wi.length,bo,bu,bg,rfl,N,H.xG 4 11 (zR 0 4) (zR 6 5) xE xE⟩
end
section
theorem l08Puts_ok(w:World)(s:qJ)(t:qV)(cell:Int){bs os:Nat}{qM:yOA}{qL:Nat}{xN:yLN}{xm:yOA}{xh:Nat}{zN:yLN}{bt ot:Nat}{xK:yOA}{xI:Nat}{vV:yLN}{zB:yOA}{zq:Nat}{jM:yLN}{xC:yOA}{xy:Nat}{zZ:yLN}(hs:jO w bs os [.int .i64 s.qQ,Sv qM s.qA.length qL,Sv xm s.qB.length xh])(qZ:zP w xN qM qL s.qA)(xM:zP w zN xm xh s.qB)(ht:jO w bt ot [Sv xK t.qO.length xI,Sv zB t.qG.length zq,Sv xC t.qF.length xy])(zS:zP w vV xK xI t.qO)(vK:zP w jM zB zq t.qG)(zi:zP w zZ xC xy t.qF)(k1:jW s)(k2:zA s t)(kw:Whole t)(kc:0<=cell/\cell<s.qA.length):Calls Tryz.prog 154 #[.pointer<|some ⟨bs,os,none⟩,.pointer<|some ⟨bt,ot,none⟩,.int .i64 cell] w (Ret (fun v w'=>∃(ra0:yOA) (rn0:Nat) (rc0:Nat) (ra1:yOA) (rn1:Nat) (P0:Nat) (rx1:List Value) (rF1:yLN),v=.tuple #[Sv ra0 rn0 rc0,Sv ra1 rn1 P0]/\Fresh w.heap.size [rF1]/\St w w' [rr ra0 rn0 rc0 2 1 ((yV s (xq s t) cell s.qB.length).map<|Value.int .i64),rr ra1 rn1 P0 24 1 rx1] [qX true rF1 rx1<|jX s t (xq s t) cell]) w):=by
 refine en Tryz.func154 Tryz.ntmps154 ?_
 have H:=(((((((St.start w).arg zi).arg vK).arg zS).argAt ht).arg xM).arg qZ).argAt hs
 have jP:=qN xM
 have QM:=qN zS
 have Xt:=qN vK
 have Qe:=qN zi
 clear hs qZ xM ht zS vK zi
 have N:=Fresh.nil w.heap.size
 have p0:=k1
 have p1:=k2
 have p2:=XY k1 k2
 have p3:=k1.2.1
 have p6:=p2.1
 have p7:=k2.2.1
 have p8:=X8 k1
 have p9:=k1.1.2.1
 have CS:=k2.1
 have RN:=k1.1
 have p16:=k1.1.1
 refine zcr<|sq 2<|zjc<|sq 2<|sw<|oc (l03First_ok _ s t (qH (H.get 0 J) 0 3) (H.get 1 J).1 (H.get 2 J).1 (qH (H.get 3 J) 0 3) (H.get 4 J).1 (H.get 5 J).1 (H.get 6 J).1 qg qg) ?_
 rintro _ w2 ⟨ra1,rn1,P0,rfl,M,K⟩ _
 replace H:=H.merge K M
 obtain rfl:=H.yt 0 rfl
 refine sq 1<|zjc<|sq 2<|oF J<|oL J (H.zU 0 J 0 J)<|sw<|jQ H underlying24 ti2 s.qQ.toNat J J qf qf qf fun b7 w8 H=>sq 1<|zjc<|sq 1 ?_
 have ahA:=H.base.size
 refine sw<|oc (l08Zeros_ok _ s (qH (H.get 0 J) 0 3) (H.get 1 J).1 (H.get 2 J).1 qg) ?_
 rintro _ sr ⟨Ic,rn9,lV,L9,rF9,rfl,M,K⟩ _
 replace N:=N.merge ahA qm M
 replace H:=H.merge K M
 obtain rfl:=H.xf (α:=yLI) 0 rfl 0 rfl qj
 refine sq 1<|zjcc<|sp (.int .i64 0)<|zjn<|xg<|vk ((fun Z0 Z1 Z2 Z3=>fun m' ρ IR=>∃(xR:Env) (vy:yOA) (wJ:Nat) (ww:Nat) (Fz:yLI) (i:Nat) (out:yLL) (Q4:List Value) (QJ:yLN),ρ=upd (upd (upd (upd (upd (upd xR 0<|.pointer<|some ⟨bs,os,none⟩) 2<|.int .i64 cell) 8<|Sv ra1 ((xq s t).length) P0) 9<|Sv vy wJ ww) 10<|Sv Ic ((jG s<|s.qA.length+1).length) lV) 11 (.int .i64 i)/\((i:Int)<=((xq s t).length))/\(Ent (s.qA.length+1) (vG s) (fun p q=>Xa s t (xq s t) cell i p q) (1000+6000000*i) out)/\(out.length=s.qA.length+1)/\(TookOk s Fz i)/\(Fz=(yV s (xq s t) cell i))/\m'=(((xq s t).length)-(i:Int)).toNat/\Fresh w.heap.size [QJ]/\St w IR [rr Ic ((jG s<|s.qA.length+1).length) lV 24 1 Q4,rr vy wJ ww 2 1<|Fz.map<|Value.int .i64,Z0] [qX true QJ Q4 out,Z1,Z2,Z3]) _ _ _ _) ((((xq s t).length)-(0:Int)).toNat) ⟨_,(some ⟨b7,0,none⟩),s.qQ.toNat,s.qQ.toNat,(List.replicate s.qQ.toNat (0:Int)),0,jG s<|s.qA.length+1,L9,rF9,uE6,qf,(by exact(zeros_ent (B:=0) qf).to (fun _ _=>rfl) qf),(by rw[zeros_len]),(by exact TookOk.zero s),(by rfl),J,N,H.pick [0,1,2]<|zR 0 4⟩ ?_
 clear H N
 rintro m' ρ Kj ⟨xR,vy,wJ,ww,Fz,i,out,Q4,QJ,rfl,i0,AD,aET,tk,MM,rfl,N,H⟩
 have aud:=H.yt 1 J
 have VS:=H.xf (α:=yLI) 0 J 0 J qj
 refine zcc<|sp (.int .i64 i)<|sq 1<|oN J<|sq 1<|zjn<|cD J (fun CV=>?_)<|fun CV=>?_
 ·have q:=p0.rule (i:=i) qf
  have qc:=q.1
  have Jx:=q.2.2.2.2.1
  have LX:=q.2.2.2.2.2.2.2.1
  have EV:=q.2.2.2.2.2.2.2.2.1
  have ln1:=Jx.len
  have ln2:=LX.len
  have ln3:=EV.len
  have p10:=p2.bd (i:=i) qf
  have qn:=q.2.2.2.1
  refine xe<|t_n<|xO<|xg<|zcr<|sq 2<|oF J<|oL J (H.zU 1 J 2 J)<|sp (.int .i64 i) ?_
  have q_:=H.addr 3 J qf
  obtain⟨W4,o19,rfl⟩:=q_
  have q_:=H.Xd 3 J i i qf qf qf
  obtain⟨aqT,amO,alb,arY,ajy,ams,ag7,ah2,aoc,anY,ajv,ale,au9,avD,atK,atp,am5,am4,H⟩:=q_
  refine oI J J<|sq 1<|zjcc<|sq 2<|oF J<|oL J (H.zU 6 J 0 J)<|sq 1<|sp (Bv ((s.qB[i]!.qW:Int) != cell))<|sp (Bv ((s.qB[i]!.qW:Int) != cell)) ?_
  cases CY:((s.qB[i]!.qW:Int) != cell)
  ·replace CY:=zo CY
   refine qP 44 J J<|sq 1<|qP 44 J J<|sp (.int .i64 i)<|qP 44 J J ?_
   have q_:=H.jm 2 J qf
   obtain⟨tQ,rfl⟩:=q_
   refine oI J J<|qP 44 J J<|oL J (H.Vx 2 J (iv:=i) (i:=i) qf qf)<|qP 44 J J<|sp (Bv (((xq s t)[i]! :Int) == 0))<|sp (Bv (((xq s t)[i]! :Int) == 0))<|zjn<|cE J (fun CW=>?_)<|fun CW=>?_
   ·refine c_exit (t_x<|b_x<|t_n<|zf<|sp (.int .i64 i)<|sw<|zY i 1 J J qf<|sq 1<|xX<|xu (m':=(((xq s t).length)-((i+1):Int)).toNat) qf ⟨_,_,_,_,_,i+1,_,_,_,uE6,?_,?_,?_,?_,?_,J,N,H.pick [0,1,2]<|zR 7 4⟩)
    ·omega
    ·exact AD.to (fun p q=>by rw[puts_zero (i:=i) ql]) qf
    ·omega
    ·exact tk.keep
    ·exact MM.trans (took_no<|by exact fun h=>h.2 ql).symm
   ·refine xe (t_n<|xO<|QY J H fun H=>rtl 0 H ?_)
    refine rtl 1 H ?_
    refine rtl 2 H ?_
    refine tF 3 J J H ?_
    refine tL 4 J J (fun _ h=>h.zU 6 J 2 J) H ?_
    refine rtl 5 H ?_
    refine rtp 6 (.int .i64 i) H ?_
    refine tI 7 J J J H ?_
    refine tL 8 J J (fun _ h=>h.Vx 2 J (iv:=i) (i:=i) qf qf) H ?_
    refine ro 9 J ?_
    have q_:=H.Xv 1 J
    obtain⟨G26,ajA,L8⟩:=q_
    have q_:=tk.mid qf p8
    obtain⟨u1,u2⟩:=q_
    have u4:=Jx.jT (t:=(xq s t)[i]!) qf
    refine oc (VF (by rw[←ajA])<|QV _ Fz s.qB[i]!.vg ((xq s t)[i]!) (ajA▸L8) (H.get 0 J).1 qg qg qg) ?_
    rintro v34 Sw r34 x33
    replace H:=H.zy x33 r34
    have q_:=H.jB 0 J
    obtain⟨a35,c36,rfl,aNl,aMs⟩:=q_
    refine⟨H.pick [1,2,3]<|zR 0 11,(rtl 10 (H.pick [1,2,3]<|zR 0 11) ?_)⟩
    refine xx qh<|t_n<|xO<|QG J H [0,2,3] fun H=>?_
    have S:=H.ve [0,2,3]<|zR 0 11
    refine rtl 0 S ?_
    refine rtl 1 S ?_
    refine rtl 2 S ?_
    refine rtl 3 S ?_
    have q_:=H.jm 1 J qf
    obtain⟨Ys,rfl⟩:=q_
    have S:=H.ve [0,2,3]<|zR 0 11
    refine tI 4 J J J S ?_
    refine rtl 6 S ?_
    refine rtl 7 S ?_
    refine tF 8 J J S ?_
    refine tL 9 J J (fun _ h=>h.zU 6 J 5 J) S ?_
    refine rtl 10 S ?_
    refine rtp 11 (.int .i64 i) S ?_
    refine tI 12 J J J S ?_
    refine tL 13 J J (fun _ h=>h.Vx 2 J (iv:=i) (i:=i) qf qf) S ?_
    refine ro 5 J ?_
    have q_:=H.Qa 1 J 7 J (iv:=cell) cell.toNat qf qf
    obtain⟨a41,c42,G43,s44,BC,H⟩:=q_
    refine zx (Sv a41 out[cell.toNat]!.length c42) isAgg24 rfl (BC)<|⟨H.pick [0,2,3]<|zR 1 11,(ro 14 rfl ?_)⟩
    have q_:=AD.sh.row (c:=cell.toNat) qf p8 qf
    obtain⟨u1,u2⟩:=q_
    have u4:=(by exact LX.jT qf:XG s.qB[i]!.jq ((xq s t)[i]!))
    refine oc (QV _ out[cell.toNat]! s.qB[i]!.jq ((xq s t)[i]!) (H.get 0 J).1 (H.get 4 J).1 qg qg qg) ?_
    rintro v51 w49 r51 x50
    replace H:=H.zy x50 r51
    have q_:=H.jB 0 J
    obtain⟨a52,c53,rfl,aI8,aM0⟩:=q_
    refine⟨H.pick [1,3,4]<|zR 1 11,(tI 15 J J J (H.pick [1,3,4]<|zR 1 11) ?_)⟩
    refine ro 16 J ?_
    have q_:=H.vJ 0 J N<|H.XE [8]
    obtain⟨LH,N,ahP,H⟩:=q_
    refine jJ true H 2 J 9 J (Sv a52 ((vX out[cell.toNat]! s.qB[i]!.jq ((xq s t)[i]!)).length) c53) 0 J J sizeOf24 J J (i:=cell.toNat) qf qf qm fun R7 aKn F60 azX H=>?_
    replace N:Fresh w.heap.size [F60]:=(N.pick [1,0]).repl azX
    refine⟨H.pick [1,3,4]<|zR 3 11,(xx qh<|t_n<|zcr<|sq 2<|oF J<|oL J (H.zU 11 J 1 J)<|oN J<|sq 1<|zjcc<|sq 1<|sp (Bv<|decide ((cell:Int)>0))<|zjn<|cD J (fun h62=>?_)<|fun h62=>?_)⟩
    ·have q_:∃z,z=(out.set cell.toNat<|vX out[cell.toNat]! s.qB[i]!.jq ((xq s t)[i]!)):=⟨_,rfl⟩
     obtain⟨PQ,OZ⟩:=q_
     rw[←OZ] at H
     have Fj:=Ent.add (D:=1000000) AD OZ qf (by exact LX.mul qf) qf
     have aCD:=Fj.sh.1
     have pu:=RN.up (c:=cell) qf qf
     have po:outPl s t s.qB[i]! =s.qA[cell.toNat]!.toNat:=by rw[outPl_up qf,(by assumption:s.qB[i]!.qW=cell),whole_parent kw RN CS qf qf]
     refine zf<|sq 2<|oF J<|oL J (H.zU 11 J 1 J)<|sq 1 ?_
     have q_:=H.addr 12 J qf
     obtain⟨b64,o65,rfl⟩:=q_
     refine oI J J<|oL J (H.elemInt 12 J cell qf qf)<|sq 1<|zjn<|xO<|QG J H [0,1,3,4] fun H=>?_
     have S:=H.ve [0,1,3,4]<|zR 0 14
     refine rtl 0 S ?_
     refine rtl 1 S ?_
     refine rtl 2 S ?_
     refine rtl 3 S ?_
     refine tI 4 J J J S ?_
     refine rtl 6 S ?_
     refine rtl 7 S ?_
     refine tF 8 J J S ?_
     refine tL 9 J J (fun _ h=>h.zU 9 J 6 J) S ?_
     refine rtl 10 S ?_
     refine rtp 11 (.int .i64 i) S ?_
     refine tI 12 J J J S ?_
     refine tL 13 J J (fun _ h=>h.Vx 3 J (iv:=i) (i:=i) qf qf) S ?_
     refine ro 5 J ?_
     have q_:=H.Qa 2 J 0 J (iv:=s.qA[cell.toNat]!) s.qA[cell.toNat]!.toNat qf qf
     obtain⟨a68,c69,G70,s71,h72,H⟩:=q_
     refine zx (Sv a68 ((PQ[s.qA[cell.toNat]!.toNat]!).length) c69) isAgg24 rfl (h72)<|⟨H.pick [0,1,3,4]<|zR 1 14,(ro 14 rfl ?_)⟩
     have q_:=Fj.sh.row (c:=s.qA[cell.toNat]!.toNat) qf p8 qf
     obtain⟨u1,u2⟩:=q_
     have u4:=(by exact EV.jT qf:XG s.qB[i]!.Qz ((xq s t)[i]!))
     refine oc (QV _ (PQ[s.qA[cell.toNat]!.toNat]!) s.qB[i]!.Qz ((xq s t)[i]!) (H.get 0 J).1 (H.get 8 J).1 qg qg qg) ?_
     rintro v78 w76 r78 x77
     replace H:=H.zy x77 r78
     have q_:=H.jB 0 J
     obtain⟨a79,c80,rfl,aN1,aNa⟩:=q_
     refine⟨H.pick [1,2,4,5]<|zR 1 14,(tI 15 J J J (H.pick [1,2,4,5]<|zR 1 14) ?_)⟩
     refine ro 16 J ?_
     have q_:=H.vJ 0 J N<|H.XE [1]
     obtain⟨G84,N,aMG,H⟩:=q_
     refine jJ true H 3 J 2 J (Sv a79 ((vX (PQ[s.qA[cell.toNat]!.toNat]!) s.qB[i]!.Qz ((xq s t)[i]!)).length) c80) 0 J J sizeOf24 J J (i:=s.qA[cell.toNat]!.toNat) qf qf qm fun w83 aCl F87 aDh H=>?_
     replace N:Fresh w.heap.size [F87]:=(N.pick [1,0]).repl aDh
     refine⟨H.pick [1,2,4,5]<|zR 3 14,(xx qh<|t_n<|zcr<|sp (.int .i64 0)<|zjn<|xg ?_)⟩
     have q_:∃z,z=(PQ.set s.qA[cell.toNat]!.toNat<|vX (PQ[s.qA[cell.toNat]!.toNat]!) s.qB[i]!.Qz ((xq s t)[i]!)):=⟨_,rfl⟩
     obtain⟨aB0,NJ⟩:=q_
     rw[←NJ] at H
     have Ng:=Ent.add (D:=1000000) Fj NJ qf (by exact EV.mul qf) qf
     have azl:=Ng.sh.1
     have ed:=Ng
     refine vk ((fun Z0 Z1 Z2 Z3 Z4 Z5 Z6 Z7 Z8 Z9 dU eC fe=>fun m' ρ ZH=>∃(xR:Env) (k:Nat) (eh:yLL) (kV:List Value) (lj:yLN),ρ=upd (upd (upd (upd (upd (upd (upd (upd (upd (upd (upd (upd (upd xR 0<|.pointer<|some ⟨bs,os,none⟩) 2<|.int .i64 cell) 8<|Sv (some ⟨tQ,0,none⟩) ((xq s t).length) P0) 9<|Sv a35 ((vX Fz s.qB[i]!.vg ((xq s t)[i]!)).length) c36) 10<|Sv (some ⟨Ys,0,none⟩) ((jG s<|s.qA.length+1).length) lV) 11<|.int .i64 i) 12<|.pointer<|some ⟨W4,o19+(i:Int).toNat*9,none⟩) 14<|.int .i64 k) 45<|Sv (some ⟨tQ,0,none⟩) ((xq s t).length) P0) 46<|.int .i64 i) 47<|.pointer<|some ⟨tQ,0+(i:Int).toNat*1,none⟩) 48<|.int .i64 ((xq s t)[i]!)) 49 (Bv (((xq s t)[i]! :Int) == 0))/\((k:Int)<=s.qB[i]!.xn.length)/\(Ent (s.qA.length+1) (vG s) (fun p q=>Xa s t (xq s t) cell i p q+at' p s.qB[i]!.qW.toNat ((((xq s t))[i]!)*(s.qB[i]!.jq)[q]!)+at' p (outPl s t<|s.qB[i]!) ((((xq s t))[i]!)*(s.qB[i]!.Qz)[q]!)+intoF s.qB[i]! (((xq s t))[i]!) k p q) (3000000+6000000*i+1000000*k) eh)/\(eh.length=s.qA.length+1)/\m'=((s.qB[i]!.xn.length)-(k:Int)).toNat/\Fresh w.heap.size [lj]/\St w ZH [Z0,rr (some ⟨Ys,0,none⟩) ((jG s<|s.qA.length+1).length) lV 24 1 kV,Z1,Z2] [qX true lj kV eh,Z3,Z4,Z5,Z6,Z7,Z8,Z9,dU,eC,fe]) _ _ _ _ _ _ _ _ _ _ _ _ _) (((s.qB[i]!.xn.length)-(0:Int)).toNat) ⟨_,0,aB0,aCl,F87,uE13,qf,(by exact ed.to (fun p q=>by rw[po,(by assumption:s.qB[i]!.qW=cell)];simp only[intoF];omega) qf),qf,J,N,H.pick (zR 2 4) [0,6,7,8,9,10,11,12,14,15,16]⟩ ?_
     clear H N
     rintro m' ρ w91 ⟨xR,k,eh,kV,lj,rfl,i0,kS,Tf,rfl,N,H⟩
     have VS:=H.xf (α:=yLI) 1 J 0 J qj
     refine zcc<|sp (.int .i64 k)<|sq 2<|oF J<|oL J (H.zU 7 J 7 J)<|oN J<|sq 1<|zjn<|cD J (fun h92=>?_)<|fun h92=>?_
     ·have qi:=q.2.2.2.2.2.2.2.2.2.2 k qf
      have qi1:=qi.1
      have un:=qi.2.2.1
      have ln4:=un.len
      refine xe<|t_n<|xO<|xg<|zcr<|sq 2<|oF J<|oL J (H.zU 7 J 7 J)<|sp (.int .i64 k) ?_
      have q_:=H.addr 6 J qf
      obtain⟨b93,o94,rfl⟩:=q_
      have q_:=H.Qr 6 J k k qf qf qf
      obtain⟨atY,avS,auX,H⟩:=q_
      refine oI J J<|oF J<|oL J (H.zU 1 J 0 J)<|sq 1<|zjn<|QG J H [0,2,3] fun H=>?_
      have S:=H.ve [0,2,3]<|zR 0 13
      refine rtl 0 S ?_
      refine rtl 1 S ?_
      refine rtl 2 S ?_
      refine rtl 3 S ?_
      refine tI 4 J J J S ?_
      refine rtl 6 S ?_
      refine rtl 7 S ?_
      refine tF 8 J J S ?_
      refine tL 9 J J (fun _ h=>h.zU 9 J 7 J) S ?_
      refine rtp 10 (.int .i64 k) S ?_
      refine tI 11 J J J S ?_
      refine tF 12 J J S ?_
      refine tL 13 J J (fun _ h=>h.zU 1 J 1 J) S ?_
      refine rtl 14 S ?_
      refine rtp 15 (.int .i64 i) S ?_
      refine tI 16 J J J S ?_
      refine tL 17 J J (fun _ h=>h.Vx 2 J (iv:=i) (i:=i) qf qf) S ?_
      refine ro 5 J ?_
      have q_:=H.Qa 1 J 2 J (iv:=((s.qB[i]!.xn)[k]!).qW) ((((s.qB[i]!.xn)[k]!).qW).toNat) qf qf
      obtain⟨a98,c99,ak9,aJb,ax1,H⟩:=q_
      refine zx (Sv a98 ((eh[(((s.qB[i]!.xn)[k]!).qW).toNat]!).length) c99) isAgg24 rfl (ax1)<|⟨H.pick [0,2,3]<|zR 1 13,(ro 18 rfl ?_)⟩
      have q_:=kS.sh.row (c:=(((s.qB[i]!.xn)[k]!).qW).toNat) qf p8 qf
      obtain⟨u1,u2⟩:=q_
      have u4:=(by exact un.jT qf:XG (((s.qB[i]!.xn)[k]!).Xc) ((xq s t)[i]!))
      refine oc (QV _ (eh[(((s.qB[i]!.xn)[k]!).qW).toNat]!) (((s.qB[i]!.xn)[k]!).Xc) ((xq s t)[i]!) (H.get 0 J).1 (H.get 1 J).1 qg qg qg) ?_
      rintro aLJ R1 azC aAE
      replace H:=H.zy aAE azC
      have q_:=H.jB 0 J
      obtain⟨adx,adj,rfl,aHv,aEK⟩:=q_
      refine⟨H.pick [1,3,4]<|zR 1 13,(tI 19 J J J (H.pick [1,3,4]<|zR 1 13) ?_)⟩
      refine ro 20 J ?_
      have q_:=H.vJ 0 J N<|H.XE [3]
      obtain⟨adf,N,arz,H⟩:=q_
      refine jJ true H 2 J 4 J (Sv adx ((vX (eh[(((s.qB[i]!.xn)[k]!).qW).toNat]!) (((s.qB[i]!.xn)[k]!).Xc) ((xq s t)[i]!)).length) adj) 0 J J sizeOf24 J J (i:=((((s.qB[i]!.xn)[k]!).qW).toNat)) qf qf qm fun OE aHZ aBd amU H=>?_
      replace N:Fresh w.heap.size [aBd]:=(N.pick [1,0]).repl amU
      refine⟨H.pick [1,3,4]<|zR 3 13,(xx qh<|b_n<|t_n<|zf<|sp (.int .i64 k)<|sw<|zY k 1 J J qf<|sq 1<|xX ?_)⟩
      have q_:∃z,z=(eh.set ((((s.qB[i]!.xn)[k]!).qW).toNat)<|vX (eh[(((s.qB[i]!.xn)[k]!).qW).toNat]!) (((s.qB[i]!.xn)[k]!).Xc) ((xq s t)[i]!)):=⟨_,rfl⟩
      obtain⟨aED,HF⟩:=q_
      rw[←HF] at H
      have H6:=Ent.add (D:=1000000) kS HF qf (by exact un.mul qf) qf
      have ave:=H6.sh.1
      have ed:=H6
      refine xu (m':=((s.qB[i]!.xn.length)-((k+1):Int)).toNat) qf ⟨_,k+1,_,_,_,uE13,?_,?_,?_,J,N,H.pick (zR 1 4) (0::zR 6 10)⟩
      ·omega
      ·exact ed.to (fun p q=>by simp only[intoF];omega) qf
      ·omega
     ·refine c_exit (t_x<|t_x<|b_x<|b_n<|t_n<|zf<|sp (.int .i64 i)<|sw<|zY i 1 J J qf<|sq 1<|xX<|xu (m':=(((xq s t).length)-((i+1):Int)).toNat) qf ⟨_,_,_,_,_,i+1,_,_,_,uE6,?_,?_,?_,?_,?_,J,N,H.pick [1,0,3] [0,8,9,10]⟩)
      ·omega
      ·exact kS.to (fun p q=>by rw[show k=s.qB[i]!.xn.length by omega,puts_yes (i:=i) ql];simp only[putF];omega) qf
      ·omega
      ·exact tk.plus Jx qf
      ·exact(congrArg (fun z=>vX z _ _) MM).trans (took_yes ql ql).symm
    ·have q_:∃z,z=(out.set cell.toNat<|vX out[cell.toNat]! s.qB[i]!.jq ((xq s t)[i]!)):=⟨_,rfl⟩
     obtain⟨DQ,Il⟩:=q_
     rw[←Il] at H
     have Cq:=Ent.add (D:=1000000) AD Il qf (by exact LX.mul qf) qf
     have at2:=Cq.sh.1
     have po:outPl s t s.qB[i]! =s.qA.length:=outPl_root qf
     refine xe<|t_n<|xO<|QG J H [0,1,3,4] fun H=>?_
     have S:=H.ve [0,1,3,4]<|zR 0 14
     refine rtl 0 S ?_
     refine rtl 1 S ?_
     refine rtl 2 S ?_
     refine rtl 3 S ?_
     refine tI 4 J J J S ?_
     refine rtl 6 S ?_
     refine rtl 7 S ?_
     refine tF 8 J J S ?_
     refine tL 9 J J (fun _ h=>h.zU 9 J 6 J) S ?_
     refine rtl 10 S ?_
     refine rtp 11 (.int .i64 i) S ?_
     refine tI 12 J J J S ?_
     refine tL 13 J J (fun _ h=>h.Vx 3 J (iv:=i) (i:=i) qf qf) S ?_
     refine ro 5 J ?_
     have q_:=H.Qa 2 J 0 J (iv:=s.qA.length) s.qA.length qf qf
     obtain⟨awq,aCN,aBz,aOq,K6,H⟩:=q_
     refine zx (Sv awq DQ[s.qA.length]!.length aCN) isAgg24 rfl (K6)<|⟨H.pick [0,1,3,4]<|zR 1 14,(ro 14 rfl ?_)⟩
     have q_:=Cq.sh.row (c:=s.qA.length) qf p8 qf
     obtain⟨u1,u2⟩:=q_
     have u4:=(by exact EV.jT qf:XG s.qB[i]!.Qz ((xq s t)[i]!))
     refine oc (QV _ DQ[s.qA.length]! s.qB[i]!.Qz ((xq s t)[i]!) (H.get 0 J).1 (H.get 8 J).1 qg qg qg) ?_
     rintro aPd abM ays ayF
     replace H:=H.zy ayF ays
     have q_:=H.jB 0 J
     obtain⟨ah6,alo,rfl,aHd,aFl⟩:=q_
     refine⟨H.pick [1,2,4,5]<|zR 1 14,(tI 15 J J J (H.pick [1,2,4,5]<|zR 1 14) ?_)⟩
     refine ro 16 J ?_
     have q_:=H.vJ 0 J N<|H.XE [1]
     obtain⟨akk,N,anV,H⟩:=q_
     refine jJ true H 3 J 2 J (Sv ah6 ((vX DQ[s.qA.length]! s.qB[i]!.Qz ((xq s t)[i]!)).length) alo) 0 J J sizeOf24 J J (i:=s.qA.length) qf qf qm fun LD aqh ahv anb H=>?_
     replace N:Fresh w.heap.size [ahv]:=(N.pick [1,0]).repl anb
     refine⟨H.pick [1,2,4,5]<|zR 3 14,(xx qh<|t_n<|zcr<|sp (.int .i64 0)<|zjn<|xg ?_)⟩
     have q_:∃z,z=(DQ.set s.qA.length<|vX DQ[s.qA.length]! s.qB[i]!.Qz ((xq s t)[i]!)):=⟨_,rfl⟩
     obtain⟨amY,Hx⟩:=q_
     rw[←Hx] at H
     have IM:=Ent.add (D:=1000000) Cq Hx qf (by exact EV.mul qf) qf
     have aua:=IM.sh.1
     have ed:=IM
     refine vk ((fun Z0 Z1 Z2 Z3 Z4 Z5 Z6 Z7 Z8 Z9 dU eC fe=>fun m' ρ acn=>∃(xR:Env) (k:Nat) (eh:yLL) (kV:List Value) (lj:yLN),ρ=upd (upd (upd (upd (upd (upd (upd (upd (upd (upd (upd (upd (upd xR 0<|.pointer<|some ⟨bs,os,none⟩) 2<|.int .i64 cell) 8<|Sv (some ⟨tQ,0,none⟩) ((xq s t).length) P0) 9<|Sv a35 ((vX Fz s.qB[i]!.vg ((xq s t)[i]!)).length) c36) 10<|Sv (some ⟨Ys,0,none⟩) ((jG s<|s.qA.length+1).length) lV) 11<|.int .i64 i) 12<|.pointer<|some ⟨W4,o19+(i:Int).toNat*9,none⟩) 14<|.int .i64 k) 45<|Sv (some ⟨tQ,0,none⟩) ((xq s t).length) P0) 46<|.int .i64 i) 47<|.pointer<|some ⟨tQ,0+(i:Int).toNat*1,none⟩) 48<|.int .i64 ((xq s t)[i]!)) 49 (Bv (((xq s t)[i]! :Int) == 0))/\((k:Int)<=s.qB[i]!.xn.length)/\(Ent (s.qA.length+1) (vG s) (fun p q=>Xa s t (xq s t) cell i p q+at' p s.qB[i]!.qW.toNat ((((xq s t))[i]!)*(s.qB[i]!.jq)[q]!)+at' p (outPl s t<|s.qB[i]!) ((((xq s t))[i]!)*(s.qB[i]!.Qz)[q]!)+intoF s.qB[i]! (((xq s t))[i]!) k p q) (3000000+6000000*i+1000000*k) eh)/\(eh.length=s.qA.length+1)/\m'=((s.qB[i]!.xn.length)-(k:Int)).toNat/\Fresh w.heap.size [lj]/\St w acn [Z0,rr (some ⟨Ys,0,none⟩) ((jG s<|s.qA.length+1).length) lV 24 1 kV,Z1,Z2] [qX true lj kV eh,Z3,Z4,Z5,Z6,Z7,Z8,Z9,dU,eC,fe]) _ _ _ _ _ _ _ _ _ _ _ _ _) (((s.qB[i]!.xn.length)-(0:Int)).toNat) ⟨_,0,amY,aqh,ahv,uE13,qf,(by exact ed.to (fun p q=>by rw[po,(by assumption:s.qB[i]!.qW=cell)];simp only[intoF];omega) qf),qf,J,N,H.pick (zR 2 4) [0,6,7,8,9,10,11,12,14,15,16]⟩ ?_
     clear H N
     rintro m' ρ aaY ⟨xR,k,eh,kV,lj,rfl,i0,kS,Tf,rfl,N,H⟩
     have VS:=H.xf (α:=yLI) 1 J 0 J qj
     refine zcc<|sp (.int .i64 k)<|sq 2<|oF J<|oL J (H.zU 7 J 7 J)<|oN J<|sq 1<|zjn<|cD J (fun aDA=>?_)<|fun aDA=>?_
     ·have qi:=q.2.2.2.2.2.2.2.2.2.2 k qf
      have qi1:=qi.1
      have un:=qi.2.2.1
      have ln4:=un.len
      refine xe<|t_n<|xO<|xg<|zcr<|sq 2<|oF J<|oL J (H.zU 7 J 7 J)<|sp (.int .i64 k) ?_
      have q_:=H.addr 6 J qf
      obtain⟨aJW,aKD,rfl⟩:=q_
      have q_:=H.Qr 6 J k k qf qf qf
      obtain⟨am2,ali,ahk,H⟩:=q_
      refine oI J J<|oF J<|oL J (H.zU 1 J 0 J)<|sq 1<|zjn<|QG J H [0,2,3] fun H=>?_
      have S:=H.ve [0,2,3]<|zR 0 13
      refine rtl 0 S ?_
      refine rtl 1 S ?_
      refine rtl 2 S ?_
      refine rtl 3 S ?_
      refine tI 4 J J J S ?_
      refine rtl 6 S ?_
      refine rtl 7 S ?_
      refine tF 8 J J S ?_
      refine tL 9 J J (fun _ h=>h.zU 9 J 7 J) S ?_
      refine rtp 10 (.int .i64 k) S ?_
      refine tI 11 J J J S ?_
      refine tF 12 J J S ?_
      refine tL 13 J J (fun _ h=>h.zU 1 J 1 J) S ?_
      refine rtl 14 S ?_
      refine rtp 15 (.int .i64 i) S ?_
      refine tI 16 J J J S ?_
      refine tL 17 J J (fun _ h=>h.Vx 2 J (iv:=i) (i:=i) qf qf) S ?_
      refine ro 5 J ?_
      have q_:=H.Qa 1 J 2 J (iv:=((s.qB[i]!.xn)[k]!).qW) ((((s.qB[i]!.xn)[k]!).qW).toNat) qf qf
      obtain⟨TH,Tw,aOR,aL7,azS,H⟩:=q_
      refine zx (Sv TH ((eh[(((s.qB[i]!.xn)[k]!).qW).toNat]!).length) Tw) isAgg24 rfl (azS)<|⟨H.pick [0,2,3]<|zR 1 13,(ro 18 rfl ?_)⟩
      have q_:=kS.sh.row (c:=(((s.qB[i]!.xn)[k]!).qW).toNat) qf p8 qf
      obtain⟨u1,u2⟩:=q_
      have u4:=(by exact un.jT qf:XG (((s.qB[i]!.xn)[k]!).Xc) ((xq s t)[i]!))
      refine oc (QV _ (eh[(((s.qB[i]!.xn)[k]!).qW).toNat]!) (((s.qB[i]!.xn)[k]!).Xc) ((xq s t)[i]!) (H.get 0 J).1 (H.get 1 J).1 qg qg qg) ?_
      rintro aDm RR adJ adT
      replace H:=H.zy adT adJ
      have q_:=H.jB 0 J
      obtain⟨RU,R5,rfl,aic,al4⟩:=q_
      refine⟨H.pick [1,3,4]<|zR 1 13,(tI 19 J J J (H.pick [1,3,4]<|zR 1 13) ?_)⟩
      refine ro 20 J ?_
      have q_:=H.vJ 0 J N<|H.XE [3]
      obtain⟨aQf,N,aDZ,H⟩:=q_
      refine jJ true H 2 J 4 J (Sv RU ((vX (eh[(((s.qB[i]!.xn)[k]!).qW).toNat]!) (((s.qB[i]!.xn)[k]!).Xc) ((xq s t)[i]!)).length) R5) 0 J J sizeOf24 J J (i:=((((s.qB[i]!.xn)[k]!).qW).toNat)) qf qf qm fun aBZ aFB axh asV H=>?_
      replace N:Fresh w.heap.size [axh]:=(N.pick [1,0]).repl asV
      refine⟨H.pick [1,3,4]<|zR 3 13,(xx qh<|b_n<|t_n<|zf<|sp (.int .i64 k)<|sw<|zY k 1 J J qf<|sq 1<|xX ?_)⟩
      have q_:∃z,z=(eh.set ((((s.qB[i]!.xn)[k]!).qW).toNat)<|vX (eh[(((s.qB[i]!.xn)[k]!).qW).toNat]!) (((s.qB[i]!.xn)[k]!).Xc) ((xq s t)[i]!)):=⟨_,rfl⟩
      obtain⟨aGj,Hv⟩:=q_
      rw[←Hv] at H
      have IQ:=Ent.add (D:=1000000) kS Hv qf (by exact un.mul qf) qf
      have avd:=IQ.sh.1
      have ed:=IQ
      refine xu (m':=((s.qB[i]!.xn.length)-((k+1):Int)).toNat) qf ⟨_,k+1,_,_,_,uE13,?_,?_,?_,J,N,H.pick (zR 1 4) (0::zR 6 10)⟩
      ·omega
      ·exact ed.to (fun p q=>by simp only[intoF];omega) qf
      ·omega
     ·refine c_exit (t_x<|t_x<|b_x<|b_n<|t_n<|zf<|sp (.int .i64 i)<|sw<|zY i 1 J J qf<|sq 1<|xX<|xu (m':=(((xq s t).length)-((i+1):Int)).toNat) qf ⟨_,_,_,_,_,i+1,_,_,_,uE6,?_,?_,?_,?_,?_,J,N,H.pick [1,0,3] [0,8,9,10]⟩)
      ·omega
      ·exact kS.to (fun p q=>by rw[show k=s.qB[i]!.xn.length by omega,puts_yes (i:=i) ql];simp only[putF];omega) qf
      ·omega
      ·exact tk.plus Jx qf
      ·exact(congrArg (fun z=>vX z _ _) MM).trans (took_yes ql ql).symm
  ·replace CY:=bne_iff_ne.1 CY
   refine zk (zR 45 5)<|sp (Bv true)<|zjn<|cTr J<|c_exit<|t_x<|b_x<|t_n<|zf<|sp (.int .i64 i)<|sw<|zY i 1 J J qf<|sq 1<|xX<|xu (m':=(((xq s t).length)-((i+1):Int)).toNat) qf ⟨_,_,_,_,_,i+1,_,_,_,uE6,?_,?_,?_,?_,?_,J,N,H.pick [0,1,2]<|zR 7 4⟩
   ·omega
   ·exact AD.to (fun p q=>by rw[puts_no (i:=i) ql]) qf
   ·omega
   ·exact tk.keep
   ·exact MM.trans (took_no<|by exact fun h=>absurd h.1 ql).symm
 ·refine zx4 (zcr<|sq 4<|zjr<|ret2 (Sv vy wJ ww) (Sv Ic ((jG s<|s.qA.length+1).length) lV) J J J ⟨_,J,?_,H.base⟩)
  obtain rfl:i=s.qB.length:=by omega
  subst MM
  obtain rfl:out=jX s t (xq s t) cell:=AD.tab
  exact⟨vy,wJ,ww,Ic,(jG s<|s.qA.length+1).length,lV,Q4,QJ,J,N,H.pick [1,0] [0]⟩
theorem sowner_ok(own:yLI)(ao:yOA)(co:Nat)(Fo:yLN)(sb:Nat)(bk:Nat)(dN:yOA)(dC:Nat)(bQ:Nat)(bS:yOA)(ix:Nat)(bo:Nat)(xv:Nat)(H:St W0 w ((.box bk [.pointer<|some ⟨sb,0,none⟩,Sv ao own.length co,Sv dN dC bQ,Sv bS ix bo] 86)::ps) ((sF false Fo ao co own)::Γ))(N:Fresh W0.heap.size (Ns))(K0:Kept Ns Γ)(p0:xv<=own.length)(p1:0<own.length):Calls Tryz.prog 156 #[.pointer<|some ⟨bk,0,none⟩,.int .i64 xv] w (fun e w'=>∃v,e=.returned v/\v=.int .i64 (vY own xv)/\Fresh W0.heap.size (Ns)/\St W0 w' ((.box bk [.pointer<|some ⟨sb,0,none⟩,Sv ao own.length co,Sv dN dC bQ,Sv bS ix bo] 86)::ps) ((sF false Fo ao co own)::Γ)):=by
 refine en Tryz.func156 Tryz.ntmps156 ?_
 have KE:=qN (H.get 0 J).1
 refine zcr<|sp (.int .i64 0)<|zjcc<|sp (.int .i64 xv)<|sq 2<|oF J<|oL J (H.cell 0 J J)<|oN J<|sq 1<|zjn<|cE J (fun h1=>?_)<|fun h1=>?_
 ·refine zcr (sq 2<|oF J<|oL J (H.cell 0 J J) ?_)
  obtain⟨b2,o3,rfl⟩:=H.addr 0 rfl qf
  refine oI J J<|oL J (H.vM 0 J 0 qf)<|sq 1<|zjr<|t_r<|ret1 (.int .i64<|own[0]!) J J ⟨_,J,?_⟩
  rw[ownAt_e qf]
  exact⟨J,N,H.xG 1 1 [0] [0] xE xE⟩
 ·refine xe (t_n<|zcr<|sq 2<|oF J<|oL J (H.cell 0 J J)<|sp (.int .i64 xv) ?_)
  obtain⟨b5,o6,rfl⟩:=H.addr 0 rfl qf
  refine oI J J<|oL J (H.vM 0 J xv qf)<|sq 1<|zjr<|ret1 (.int .i64<|own[xv]!) J J ⟨_,J,?_⟩
  rw[ownAt_n qf]
  exact⟨J,N,H.xG 1 1 [0] [0] xE xE⟩
theorem swork_ok(s:qJ)(own:yLI)(ap:yOA)(cp:Nat)(Fp:yLN)(ar:yOA)(cr:Nat)(Fr:yLN)(ao:yOA)(co:Nat)(Fo:yLN)(sb:Nat)(sv:List zI)(wi:List zC)(bk:Nat)(n:Nat)(dN:yOA)(dC:Nat)(bQ:Nat)(bB:List Value)(bq:yLN)(bS:yOA)(ix:Nat)(bo:Nat)(bu:List Value)(bg:yLN)(iv:Int)(H:St W0 w ((.box bk [.pointer<|some ⟨sb,0,none⟩,Sv ao own.length co,Sv dN dC bQ,Sv bS ix bo] 86)::(.box sb [.int .i64 s.qQ,Sv ap s.qA.length cp,Sv ar s.qB.length cr] 27)::(rr dN dC bQ 49 16 bB)::(rr bS ix bo 77 4 bu)::ps) ((sF false Fp ap cp s.qA)::(sF false Fr ar cr s.qB)::(sF false Fo ao co own)::(qX true bq bB sv)::(qX true bg bu wi)::Γ))(N:Fresh W0.heap.size (bq::bg::Ns))(K0:Kept Ns Γ)(p0:Giv s own n)(p1:Vo s own n (⟨sv,wi⟩:zO))(p2:0<=iv/\iv<n)(OL:∀f∈(sF false Fp ap cp s.qA::sF false Fr ar cr s.qB::sF false Fo ao co own::Γ),∀b∈f.F,b<W0.heap.size):Calls Tryz.prog 108 #[.pointer<|some ⟨bk,0,none⟩,.int .i64 iv] w (fun e w'=>∃v,e=.returned v/\∃(qa:List Value) (pD:yLN) (rq:yOA) (pX:Nat) (pb:Nat) (pt:List Value) (pV:yLN),v=.int .i64 ((workM s own (⟨sv,wi⟩:zO) iv.toNat).2)/\Fresh W0.heap.size (pD::pV::Ns)/\St W0 w' ((.box bk [.pointer<|some ⟨sb,0,none⟩,Sv ao own.length co,Sv dN dC bQ,Sv rq pX pb] 86)::(.box sb [.int .i64 s.qQ,Sv ap s.qA.length cp,Sv ar s.qB.length cr] 27)::(rr dN dC bQ 49 16 qa)::(rr rq pX pb 77 4 pt)::ps) ((sF false Fp ap cp s.qA)::(sF false Fr ar cr s.qB)::(sF false Fo ao co own)::(qX true pD qa ((workM s own (⟨sv,wi⟩:zO) iv.toNat).1.qE))::(qX true pV pt ((workM s own (⟨sv,wi⟩:zO) iv.toNat).1.vz))::Γ)):=by
 refine en Tryz.func108 Tryz.ntmps108 ?_
 have KE:=qN (H.get 2 J).1
 obtain rfl:=H.xf (α:=zI) 2 rfl 3 rfl qj
 obtain rfl:=H.xf (α:=zC) 3 rfl 4 rfl qj
 have g1:=p0.sys
 have g2:=p0.len
 have g3:=p0.own
 have g4:=p0.few
 have l1:sv.length=n:=p1.len
 have y1:jk s own n iv.toNat sv[iv.toNat]!.qC/\jk s own n iv.toNat sv[iv.toNat]!.qR:=p1.srv iv.toNat qf
 have y2:=y1.1.small p0
 have y4:=y2.bags
 have y5:=y2.around
 subst l1
 have p5:=p0.sys.1
 have p6:own.length=s.qA.length:=p0.len
 have p7:=p0.sys.1.2.1
 have v1:=sview_ok p0 y1.1
 have v2:=sview_w s sv[iv.toNat]!.qC
 obtain⟨vs,Fe⟩:∃z,(⟨List.replicate s.qA.length true,sv[iv.toNat]!.qC.qG,sv[iv.toNat]!.qC.qF⟩:qV)=z:=⟨_,rfl⟩
 have v3:=v1
 rw[Fe] at v3
 refine zcr<|sp (.int .i64 0)<|zjcc<|sq 2<|oF J<|oF J<|oL J (H.cell 0 J J)<|sp (.int .i64 iv) ?_
 obtain⟨b1,rfl⟩:=H.jm 2 rfl qf
 refine oI J J<|oF J<|oF J ?_
 obtain⟨X0,XZ,lf,QB,QA,fE,Cg,BG,CK,nI,nK,nD,Bs,Bw,B7,t9,t6,uf,Aa,H⟩:=H.jV zV 2 rfl 3 rfl rfl iv.toNat qf
 refine oL J (H.zD 2 J (Aa 3 _ J) qf)<|zjn<|vP _ J (fun h4=>?_)<|fun h4=>?_
 ·refine zcr (sp (.int .i64 4)<|zjr<|t_r<|ret1 (.int .i64 4) J J ⟨_,J,?_⟩)
  rw[workR_4 ql]
  exact⟨bB,bq,bS,wi.length,bo,bu,bg,J,N,H.xG 4 11 (zR 0 4) (zR 6 5) xE xE⟩
 ·refine xe (t_n<|zcc<|sq 2<|oF J<|oF J<|oL J (H.cell 0 J J)<|sp (.int .i64 iv)<|oI J J<|oF J<|oF J<|oL J (H.zD 2 J (Aa 0 _ J) qf)<|sp (Bv ((sv[iv.toNat]!.qC.qK:Int) == 100))<|zjn<|cE J (fun h5=>?_)<|fun h5=>?_)
  ·refine zcr (sp (.int .i64 3)<|zjr<|t_r<|ret1 (.int .i64 3) J J ⟨_,J,?_⟩)
   subst Fe
   rw[workR_3 ql ql]
   exact⟨bB,bq,bS,wi.length,bo,bu,bg,J,N,H.xG 4 11 (zR 0 4) (zR 6 5) xE xE⟩
  ·refine xe (t_n<|zcr<|sq 2<|oF J<|oF J<|oL J (H.cell 0 J J)<|sp (.int .i64 iv)<|oI J J<|oF J<|sw<|oc (l08Copy_ok _ sv[iv.toNat]!.qC (fun r v hv=>H.zD (off:=0+(iv:Int).toNat*16+0+r) 2 J (Aa r v hv) qf) (H.get 0 J).1 (H.get 1 J).1 (H.get 2 J).1 (H.get 3 J).1 (H.get 4 J).1 (H.get 5 J).1 qg) ?_)
   rintro _ w7 ⟨fg,avw,QT,B3,nH,yO,afl,yM,Cb,aBp,Ce,bA,afn,bC,bK,a6,dz,ayh,dy,dD,ct,bT,aus,bU,cV,bJ,rfl,M,K⟩ _
   obtain⟨N,H⟩:=H.both K M N [9,10] 11 K0
   obtain rfl:=H.xf (α:=yLI) 0 rfl 0 rfl qj
   obtain rfl:=H.yt 1 rfl
   obtain rfl:=H.Vt 2 rfl
   obtain rfl:=H.xf (α:=yLI) 3 rfl 1 rfl qj
   obtain rfl:=H.xf (α:=yLL) 4 rfl 2 rfl qj
   obtain rfl:=H.xf (α:=yLL) 5 rfl 3 rfl qj
   refine sw<|x8 H ti47 [.int .i64 0,Sv none 0 0,Sv none 0 0,Bv false,Sv none 0 0,Sv none 0 0,Sv none 0 0,Sv none 0 0] fun lF w18 H=>(sw<|xZ H 0 [.int .i64 sv[iv.toNat]!.qC.qK,Sv fg sv[iv.toNat]!.qC.qG.length QT,Sv yO sv[iv.toNat]!.qC.qF.length yM,Bv sv[iv.toNat]!.qC.qY,Sv Cb sv[iv.toNat]!.qC.jA.length Ce,Sv bA sv[iv.toNat]!.qC.qU.length bC,Sv dz sv[iv.toNat]!.qC.jH.length dy,Sv bT sv[iv.toNat]!.qC.zM.length bU] sizeOf47 fun LP H=>?_)
   dsimp only[List.set] at H
   refine zjc<|sq 1<|sw<|vF #[.pointer<|some ⟨bk,0,none⟩,.pointer<|some ⟨lF,0,none⟩] J J call152<|en Tryz.func152 Tryz.ntmps152 ?_
   refine zcr<|sw<|x8 H ti31 [Sv none 0 0,Sv none 0 0,Sv none 0 0] fun JN NH H=>zjn<|xO<|c_lateC 1 (fun ρ Iu=>∃(xR:Env) (eN:yOA) (fW:Nat) (nE:yOA) (nM:Nat) (IC:Nat) (i9:List Value) (dY:yLN),ρ=upd (upd (upd (upd xR 0<|.pointer<|some ⟨bk,0,none⟩) 4<|.pointer<|some ⟨JN,0,none⟩) 5<|.pointer<|some ⟨IC,0,none⟩) 17 (.agg #[Sv none 0 0,Sv eN sv[iv.toNat]!.qC.qG.length fW,Sv nE sv[iv.toNat]!.qC.qF.length nM])/\Fresh W0.heap.size (dY::nH::a6::ct::bJ::bq::bg::Ns)/\St W0 Iu ((.box IC [Sv none 0 0,Sv none 0 0,Sv none 0 0] 31)::(rr nE sv[iv.toNat]!.qC.qF.length nM 2 1 (sv[iv.toNat]!.qC.qF.map<|Value.int .i64))::(rr eN sv[iv.toNat]!.qC.qG.length fW 24 1 i9)::(.box JN [Sv none 0 0,Sv none 0 0,Sv none 0 0] 31)::(.box lF [.int .i64 sv[iv.toNat]!.qC.qK,Sv fg sv[iv.toNat]!.qC.qG.length QT,Sv yO sv[iv.toNat]!.qC.qF.length yM,Bv sv[iv.toNat]!.qC.qY,Sv Cb sv[iv.toNat]!.qC.jA.length Ce,Sv bA sv[iv.toNat]!.qC.qU.length bC,Sv dz sv[iv.toNat]!.qC.jH.length dy,Sv bT sv[iv.toNat]!.qC.zM.length bU] 47)::(rr fg sv[iv.toNat]!.qC.qG.length QT 24 1 B3)::(rr yO sv[iv.toNat]!.qC.qF.length yM 2 1 (sv[iv.toNat]!.qC.qF.map<|Value.int .i64))::(rr Cb sv[iv.toNat]!.qC.jA.length Ce 4 1 (sv[iv.toNat]!.qC.jA.map<|Value.bool))::(rr bA sv[iv.toNat]!.qC.qU.length bC 24 1 bK)::(rr dz sv[iv.toNat]!.qC.jH.length dy 29 1 dD)::(rr bT sv[iv.toNat]!.qC.zM.length bU 29 1 cV)::(.box bk [.pointer<|some ⟨sb,0,none⟩,Sv ao own.length co,Sv (some ⟨b1,0,none⟩) sv.length bQ,Sv bS wi.length bo] 86)::(.box sb [.int .i64 s.qQ,Sv ap s.qA.length cp,Sv ar s.qB.length cr] 27)::(rr (some ⟨b1,0,none⟩) sv.length bQ 49 16 bB)::(rr bS wi.length bo 77 4 bu)::ps) ((qX true dY i9 sv[iv.toNat]!.qC.qG)::(qX true nH B3 sv[iv.toNat]!.qC.qG)::(qX true a6 bK sv[iv.toNat]!.qC.qU)::(qX true ct dD sv[iv.toNat]!.qC.jH)::(qX true bJ cV sv[iv.toNat]!.qC.zM)::(sF false Fp ap cp s.qA)::(sF false Fr ar cr s.qB)::(sF false Fo ao co own)::(qX true bq bB sv)::(qX true bg bu wi)::Γ)) J H [0,1,2,3,4,5,6,7,8,9,10,11] [0,1,2,3,4,5,6,7,8,9,10,11,12,13,14] (fun H=>?_) ?_
   ·dsimp only[yu,yU]
    have S:=H.ve (zR 0 12)<|zR 0 15
    refine rtl 0 S ?_
    refine rtl 1 S ?_
    refine tF 2 J J S ?_
    refine tL 3 J J (fun _ h=>h.cell 1 J J) S ?_
    refine rtl 5 S ?_
    refine rtl 6 S ?_
    refine tF 7 J J S ?_
    refine tL 8 J J (fun _ h=>h.cell 1 J J) S ?_
    refine jw [4,11] qh qm<|yl J ?_<|yl J ?_ jy
    ·obtain⟨G31,awc,S8⟩:=H.Vd (α:=yLI) 2 rfl 0 rfl qj
     refine oc (QN _ sv[iv.toNat]!.qC.qG S8 qg) ?_
     rintro _ KW ⟨Ck,awA,rX,abc,acK,rfl,M,K⟩ _
     obtain⟨N,H⟩:=H.both K M N [0,1,2,3,13,14] 15 K0
     obtain rfl:=H.xf (α:=yLI) 0 rfl 0 rfl qj
     refine⟨H.pick (zR 1 12)<|zR 1 15,(jw [9,11] qh qm<|yl J ?_<|yl J ?_ jy)⟩
     ·obtain⟨G40,aKy,h42⟩:=H.Xv 4 rfl
      refine oc (VV _ sv[iv.toNat]!.qC.qF h42 qg) ?_
      rintro v48 O7 r48 x47
      replace H:=H.zy x47 r48
      obtain⟨WZ,Wb,rfl,aLS,aJr⟩:=H.jB 0 rfl
      refine⟨H.pick (zR 2 12)<|zR 1 15,(jw [10,11] qh qm<|yl J ?_<|yl J ?_ jy)⟩
      ·refine vZ [Sv none 0 0,Sv Ck sv[iv.toNat]!.qC.qG.length rX,Sv WZ sv[iv.toNat]!.qC.qF.length Wb] [(1,Sv Ck sv[iv.toNat]!.qC.qG.length rX),(2,Sv WZ sv[iv.toNat]!.qC.qF.length Wb)] (⟨H.pick (zR 2 12)<|zR 1 15,(ro 11 J<|x8 H ti31 [Sv none 0 0,Sv none 0 0,Sv none 0 0] fun b53 w54 H=>⟨H.pick (zR 3 12)<|zR 1 15,(xx qh<|?_)⟩)⟩)
       exact meet ⟨_,Ck,rX,WZ,Wb,b53,abc,acK,uE4,N,H.xG 15 16 (zR 0 15) (0::1::2::3::4::zR 11 5) xE xE⟩
      ·refine x8 H ti31 [Sv none 0 0,Sv none 0 0,Sv none 0 0] fun RB R7 H=>⟨H.pick (zR 3 12)<|zR 1 15,(ro 10 rfl<|vZ [Sv none 0 0,Sv Ck sv[iv.toNat]!.qC.qG.length rX,Sv WZ sv[iv.toNat]!.qC.qF.length Wb] [(1,Sv Ck sv[iv.toNat]!.qC.qG.length rX),(2,Sv WZ sv[iv.toNat]!.qC.qF.length Wb)]<|⟨H.pick (zR 3 12)<|zR 1 15,(xx qh<|?_)⟩)⟩
       exact meet ⟨_,Ck,rX,WZ,Wb,RB,abc,acK,uE4,N,H.xG 15 16 (zR 0 15) (0::1::2::3::4::zR 11 5) xE xE⟩
     ·refine x8 H ti31 [Sv none 0 0,Sv none 0 0,Sv none 0 0] fun b57 w58 H=>⟨H.pick (zR 2 12)<|zR 1 15,(ro 9 J ?_)⟩
      obtain⟨G59,aDD,E1⟩:=H.Xv 5 rfl
      refine oc (VV _ sv[iv.toNat]!.qC.qF E1 qg) ?_
      rintro v67 w65 r67 x66
      replace H:=H.zy x66 r67
      obtain⟨a68,c69,rfl,aMn,aMq⟩:=H.jB 0 rfl
      refine⟨H.pick (zR 3 12)<|zR 1 15,(ro 10 rfl<|vZ [Sv none 0 0,Sv Ck sv[iv.toNat]!.qC.qG.length rX,Sv a68 sv[iv.toNat]!.qC.qF.length c69] [(1,Sv Ck sv[iv.toNat]!.qC.qG.length rX),(2,Sv a68 sv[iv.toNat]!.qC.qF.length c69)]<|⟨H.pick (zR 3 12)<|zR 1 15,(xx qh<|?_)⟩)⟩
      exact meet ⟨_,Ck,rX,a68,c69,b57,abc,acK,uE4,N,H.xG 15 16 (1::0::zR 2 13) (0::1::2::3::4::zR 11 5) xE xE⟩
    ·refine x8 H ti31 [Sv none 0 0,Sv none 0 0,Sv none 0 0] fun b72 w73 H=>⟨H.pick (zR 1 12)<|zR 0 15,(ro 4 J ?_)⟩
     obtain⟨G74,ao9,h76⟩:=H.Vd (α:=yLI) 3 rfl 0 rfl qj
     refine oc (QN _ sv[iv.toNat]!.qC.qG h76 qg) ?_
     rintro _ w78 ⟨abk,aIH,adF,azx,aA3,rfl,M,K⟩ _
     obtain⟨N,H⟩:=H.both K M N [0,1,2,3,13,14] 15 K0
     obtain rfl:=H.xf (α:=yLI) 0 rfl 0 rfl qj
     refine⟨H.pick (zR 2 12)<|zR 1 15,(ro 9 J ?_)⟩
     obtain⟨G83,aLV,h85⟩:=H.Xv 5 rfl
     refine oc (VV _ sv[iv.toNat]!.qC.qF h85 qg) ?_
     rintro v91 w89 r91 x90
     replace H:=H.zy x90 r91
     obtain⟨a92,c93,rfl,aMa,aJR⟩:=H.jB 0 rfl
     refine⟨H.pick (zR 3 12)<|zR 1 15,(ro 10 rfl<|vZ [Sv none 0 0,Sv abk sv[iv.toNat]!.qC.qG.length adF,Sv a92 sv[iv.toNat]!.qC.qF.length c93] [(1,Sv abk sv[iv.toNat]!.qC.qG.length adF),(2,Sv a92 sv[iv.toNat]!.qC.qF.length c93)]<|⟨H.pick (zR 3 12)<|zR 1 15,(xx qh<|?_)⟩)⟩
     exact meet ⟨_,abk,adF,a92,c93,b72,azx,aA3,uE4,N,H.xG 15 16 (2::0::1::zR 3 12) (0::1::2::3::4::zR 11 5) xE xE⟩
   ·clear H N
    rintro ρ w96 ⟨xR,eN,fW,nE,nM,IC,i9,dY,rfl,N,H⟩
    refine sw<|xZ H 0 [Sv none 0 0,Sv eN sv[iv.toNat]!.qC.qG.length fW,Sv nE sv[iv.toNat]!.qC.qF.length nM] sizeOf31 fun w97 H=>?_
    dsimp only[List.set] at H
    refine zjcc<|sp (.int .i64 0)<|zjn<|xg ?_
    replace H:=H.nilRowB 4
    refine vk ((fun Z0 Z1 Z2 Z3 Z4 Z5 Z6 Z7 Z8 Z9 dU eC fe fR gB ij nc pN rN wk wd Bm Bl FF=>fun m' ρ w98=>∃(xR:Env) (c:Nat) (yj:yOA) (jC:Nat) (yh:Nat) (fQ:List Bool),ρ=upd (upd (upd (upd xR 0<|.pointer<|some ⟨bk,0,none⟩) 4<|.pointer<|some ⟨JN,0,none⟩) 5<|.pointer<|some ⟨IC,0,none⟩) 6 (.int .i64 c)/\fQ=List.replicate c true/\((c:Int)<=own.length)/\m'=(own.length-(c:Int)).toNat/\Fresh W0.heap.size (dY::nH::a6::ct::bJ::bq::bg::Ns)/\St W0 w98 ((rr yj jC yh 4 1<|fQ.map<|Value.bool)::(.box IC [Sv yj jC yh,Sv eN sv[iv.toNat]!.qC.qG.length fW,Sv nE sv[iv.toNat]!.qC.qF.length nM] 31)::Z0::Z1::Z2::Z3::Z4::Z5::Z6::Z7::Z8::Z9::dU::eC::fe::fR::ps) (gB::ij::nc::pN::rN::wk::wd::Bm::Bl::FF::Γ)) _ _ _ _ _ _ _ _ _ _ _ _ _ _ _ _ _ _ _ _ _ _ _ _) ((own.length-(0:Int)).toNat) ⟨_,0,none,0,0,[],uE4,(by rfl),qf,J,N,H⟩ ?_
    clear H N
    rintro m' ρ w99 ⟨xR,c,yj,jC,yh,fQ,rfl,rfl,i0,rfl,N,H⟩
    have E6:=H.Vt 0 J
    have rl:(List.replicate c true).length=c:=List.length_replicate
    refine zcc<|sp (.int .i64 c)<|sq 2<|oF J<|oL J (H.cell 12 J J)<|oN J<|sq 1<|zjn<|cD J (fun FX=>?_)<|fun FX=>?_
    ·refine xe (t_n<|xO<|xg<|zf<|oF J<|oL J (H.cell 1 J J)<|sw<|zH H underlying28 ti4 [Bv true] fun Mq Tg H=>sw<|zQ H 1 J 0 J underlying28 ti4 J qj J J J qw qp qf fun aDc aBm Tk H=>?_)
     rw[snocB] at H
     dsimp only[List.set] at H
     refine oF J<|sw<|zn H 2 [Sv aDc (jC+1) aBm,Sv eN sv[iv.toNat]!.qC.qG.length fW,Sv nE sv[iv.toNat]!.qC.qF.length nM] sizeOf28 fun R1 H=>?_
     dsimp only[List.set] at H
     refine xX<|b_n<|t_n<|zf<|sp (.int .i64 c)<|sw<|zY c 1 J J qf<|sq 1<|xX<|xu (m':=(own.length-((c+1):Int)).toNat) qf ⟨_,c+1,_,_,_,_,uE4,?_,?_,J,N,H.xG 17 10 (zR 1 16) (zR 0 10) xE xE⟩
     ·exact(List.replicate_succ' ..).symm
     ·omega
    ·obtain rfl:c=s.qA.length:=by omega
     refine zx4<|zcr<|sw<|xW [Sv yj jC yh,Sv eN sv[iv.toNat]!.qC.qG.length fW,Sv nE sv[iv.toNat]!.qC.qF.length nM] isAgg31 sizeOf31 J (qH (H.cells 1 J) 0 3)<|sw<|xZ H 4 [Sv yj jC yh,Sv eN sv[iv.toNat]!.qC.qG.length fW,Sv nE sv[iv.toNat]!.qC.qF.length nM] sizeOf31 fun anS H=>?_
     dsimp only[List.set] at H
     refine zjr<|retC H 4 J J isAgg31 sizeOf31 J ⟨_,J,?_⟩
     replace H:=H.erases [4,1]
     dsimp only[zL,List.eraseIdx,List.set] at H
     refine sw<|x8 H ti31 [Sv none 0 0,Sv none 0 0,Sv none 0 0] fun dT akc H=>sw<|xZ H 0 [Sv yj jC yh,Sv eN sv[iv.toNat]!.qC.qG.length fW,Sv nE sv[iv.toNat]!.qC.qF.length nM] sizeOf31 fun abm H=>?_
     dsimp only[List.set] at H
     refine zjc<|sw<|jS H underlying45 ti29 fun Gt Sl H=>sq 1<|zjcc<|sp (.int .i64 0)<|zjn<|xg ?_
     replace H:=H.boxRow 0 J 1 0 J qj
     dsimp only[List.set] at H
     replace H:=H.yF (α:=yLL)
     refine vk ((fun Z0 Z1 Z2 Z3 Z4 Z5 Z6 Z7 Z8 Z9 dU eC fe fR gB ij nc pN rN wk wd Bm Bl=>fun m' ρ OE=>∃(xR:Env) (eR:yOA) (Xe:Nat) (XL:Nat) (now:List yLL) (pz:List Value) (mi:yLN) (nN:Nat) (Xo:yOA) (Xf:Nat) (Xm:Nat) (MV:List Bool),ρ=upd (upd (upd (upd (upd (upd xR 0<|.pointer<|some ⟨bk,0,none⟩) 1<|.int .i64 iv) 5<|.pointer<|some ⟨lF,0,none⟩) 6<|.pointer<|some ⟨dT,0,none⟩) 7<|Sv eR Xe XL) 8 (.int .i64 nN)/\now=List.replicate nN (jG s<|s.qA.length+1)/\MV=gotTo iv nN/\((nN:Int)<=sv.length)/\m'=(sv.length-(nN:Int)).toNat/\Fresh W0.heap.size (dY::nH::a6::ct::bJ::bq::bg::mi::Ns)/\St W0 OE ((rr eR Xe XL 29 1 pz)::Z0::Z1::Z2::Z3::(.box lF [.int .i64 sv[iv.toNat]!.qC.qK,Sv fg sv[iv.toNat]!.qC.qG.length QT,Sv yO sv[iv.toNat]!.qC.qF.length yM,Bv sv[iv.toNat]!.qC.qY,Sv Xo Xf Xm,Sv bA sv[iv.toNat]!.qC.qU.length bC,Sv dz sv[iv.toNat]!.qC.jH.length dy,Sv bT sv[iv.toNat]!.qC.zM.length bU] 47)::Z4::Z5::(rr Xo Xf Xm 4 1<|MV.map<|Value.bool)::Z6::Z7::Z8::Z9::dU::eC::fe::ps) ((qX true mi pz now)::fR::gB::ij::nc::pN::rN::wk::wd::Bm::Bl::Γ)) _ _ _ _ _ _ _ _ _ _ _ _ _ _ _ _ _ _ _ _ _ _ _) ((sv.length-(0:Int)).toNat) ⟨_,(some ⟨Gt,0,none⟩),0,0,([]:List yLL),[],[],0,Cb,sv[iv.toNat]!.qC.jA.length,Ce,sv[iv.toNat]!.qC.jA,uE6,(by rfl),(by exact(y1.1.rest ql).1),qf,J,(N.emp.xG 8 [1,2,3,4,5,6,7,0] xE),H⟩ ?_
     clear H N
     rintro m' ρ Rc ⟨xR,eR,Xe,XL,now,pz,mi,nN,Xo,Xf,Xm,MV,rfl,rfl,rfl,i0,rfl,N,H⟩
     have uT:=H.xf (α:=yLL) 0 J 0 J qj
     have asb:=H.Vt 8 J
     have zl:(List.replicate nN<|jG s<|s.qA.length+1).length=nN:=List.length_replicate
     have gl:=gotTo_len iv nN
     refine zcc<|sq 3<|oF J<|oF J<|oL J (H.cell 12 J J)<|oN J<|sq 1<|zjn<|cD J (fun adN=>?_)<|fun adN=>?_
     ·refine xe (t_n<|xO<|xg<|zcr<|sq 3<|oF J<|oL J (H.cell 12 J J)<|sw<|oc (l08Zeros_ok _ s (qH (H.cells 13 J) 0 3) (H.get 6 J).1 (H.get 7 J).1 qg) ?_)
      rintro _ ac0 ⟨PJ,amZ,Ps,MK,x5,rfl,M,K⟩ _
      obtain⟨N,H⟩:=H.both K M N [1,2,3,4,5,9,10,0] 11 K0
      obtain rfl:=H.xf (α:=yLI) 0 rfl 0 rfl qj
      refine sw<|zH H underlying45 ti29 [Sv PJ ((jG s<|s.qA.length+1).length) Ps] fun aJe M5 H=>?_
      have H0:=H
      obtain⟨aoy,Zp,Q0,H⟩:=H.ji (α:=yLI) 1 rfl 0 rfl qj
      replace N:Fresh W0.heap.size (aoy::dY::nH::a6::ct::bJ::bq::bg::mi::Ns):=Fresh.ice N H0 1 Zp.1 Zp.2<|H0.awB [2,3,4,5,6,10,11,1] 12 K0
      clear H0
      dsimp only[List.set] at H
      refine sw<|zQ H 2 J 0 J underlying45 ti29 J qj J J J qw qp qf fun Uw R2 adL H=>?_
      dsimp only[List.set] at H
      replace H:=H.QK 2 J 0 J
      replace N:=(N.Xr 9 [8,0,1,2,3,4,5,6,7]).join
      refine sq 1<|zjn<|zf<|oF J<|oL J (H.cell 7 J J)<|sq 1<|sp (.int .i64 iv)<|sq 1<|sw<|zH H underlying28 ti4 [Bv ((nN:Int) == iv)] fun azw az4 H=>sw<|zQ H 11 J 0 J underlying28 ti4 J qj J J J qw qp qf fun aDK aBr aoX H=>?_
      rw[snocB] at H
      dsimp only[List.set] at H
      refine oF J<|sw<|zn H 8 [.int .i64 sv[iv.toNat]!.qC.qK,Sv fg sv[iv.toNat]!.qC.qG.length QT,Sv yO sv[iv.toNat]!.qC.qF.length yM,Bv sv[iv.toNat]!.qC.qY,Sv aDK (Xf+1) aBr,Sv bA sv[iv.toNat]!.qC.qU.length bC,Sv dz sv[iv.toNat]!.qC.jH.length dy,Sv bT sv[iv.toNat]!.qC.zM.length bU] sizeOf28 fun aoS H=>?_
      dsimp only[List.set] at H
      refine xX<|b_n<|t_n<|zf<|sq 1<|sw<|zY nN 1 J J qf<|sq 1<|xX<|xu (m':=(sv.length-((nN+1):Int)).toNat) qf ⟨_,_,_,_,_,_,_,nN+1,_,_,_,_,uE6,?_,?_,?_,J,(N.xG 8 [1,2,3,4,5,6,7,0] xE),H.xG 19 14 (zR 3 16) (0::zR 4 10) xE xE⟩
      ·exact(List.replicate_succ' ..).symm
      ·exact gotTo_snoc _ _
      ·omega
     ·refine zx4 (zcc<|sp (.int .i64 0)<|zjn<|xg<|vk ((fun Z0 Z1 Z2 Z3 Z4 Z5 Z6 Z7 Z8 Z9 dU eC fe fR gB ij nc pN rN wk wd Bm Bl=>fun m' ρ PA=>∃(xR:Env) (a9:Nat) (dB:List yLL) (gM:List Value) (eS:yLN) (aB:yLL) (Xz:List Value) (Qq:yLN),ρ=upd (upd (upd (upd (upd (upd xR 0<|.pointer<|some ⟨bk,0,none⟩) 1<|.int .i64 iv) 5<|.pointer<|some ⟨lF,0,none⟩) 6<|.pointer<|some ⟨dT,0,none⟩) 7<|Sv eR Xe XL) 9 (.int .i64 a9)/\aB=jU s own sv[iv.toNat]!.qC iv a9/\((a9:Int)<=own.length)/\(dB=Vl s vs own iv sv.length a9)/\m'=(own.length-(a9:Int)).toNat/\Fresh W0.heap.size (dY::a6::ct::bJ::bq::bg::eS::Qq::Ns)/\St W0 PA ((rr eR Xe XL 29 1 gM)::Z0::Z1::Z2::Z3::Z4::(rr fg sv[iv.toNat]!.qC.qG.length QT 24 1 Xz)::Z5::Z6::Z7::Z8::Z9::dU::eC::fe::fR::ps) ((qX true eS gM dB)::gB::(qX true Qq Xz aB)::ij::nc::pN::rN::wk::wd::Bm::Bl::Γ)) _ _ _ _ _ _ _ _ _ _ _ _ _ _ _ _ _ _ _ _ _ _ _) ((own.length-(0:Int)).toNat) ⟨_,0,(List.replicate nN<|jG s<|s.qA.length+1),pz,mi,sv[iv.toNat]!.qC.qG,B3,nH,uE6,(by rfl),qf,(by exact rep_zero qf),J,(N.xG 8 [0,2,3,4,5,6,7,1] xE),H⟩ ?_)
      clear H N
      rintro m' ρ LD ⟨xR,a9,dB,gM,eS,aB,Xz,Qq,rfl,rfl,i0,i2,rfl,N,H⟩
      have uT:=H.xf (α:=yLL) 0 J 0 J qj
      have rE:=H.xf (α:=yLI) 6 J 2 J qj
      refine zcc<|sq 3<|oF J<|oL J (H.cell 12 J J)<|oN J<|sq 1<|zjn<|cD J (fun abl=>?_)<|fun abl=>?_
      ·obtain⟨u1,u2⟩:=sb_row p0 p2.1 y1.1 (c:=a9) qf
       obtain⟨u3,u4⟩:=sb_took p0 y1.1 a9
       have sl:=sb_len (iv:=iv) y1.1 a9
       rw[Fe] at u3 u4
       have pl:=puts_len p0 v3 a9
       refine xe<|t_n<|xO<|xg<|zcc<|sq 2<|oF J<|oL J (H.cell 12 J J)<|sq 1 ?_
       obtain⟨lZ,l7,rfl⟩:=H.addr 8 rfl qf
       refine oI J J<|oL J (H.vM 8 J a9 qf)<|sp (.int .i64 iv)<|sq 1<|zjn<|vP _ J (fun Gs=>?_)<|fun Gs=>?_
       ·replace Gs:=bne_iff_ne.1 Gs
        refine c_exit<|t_x<|b_x<|t_n<|zf<|sq 1<|sw<|zY a9 1 J J qf<|sq 1<|xX<|xu (m':=(own.length-((a9+1):Int)).toNat) qf ⟨_,a9+1,_,_,_,_,_,_,uE6,?_,?_,?_,J,N,H⟩
        ·exact(sBags_no ql).symm
        ·omega
        ·exact i2.trans (nowTo_no ‹_›).symm
       ·replace Gs:=zo Gs
        refine xe<|t_n<|zcr<|sq 2<|oF J<|oL J (H.cell 12 J J)<|sq 1 ?_
        obtain⟨aeO,IT,aaX⟩:=H.rowIsB 2 rfl
        obtain⟨aes,Zk,xc⟩:=H.Vd (α:=yLI) 4 rfl 1 rfl qj
        obtain⟨aP5,aHU,azG⟩:=H.Xv 3 rfl
        refine sw<|oc (l08Puts_ok _ s (⟨(List.replicate s.qA.length true),sv[iv.toNat]!.qC.qG,sv[iv.toNat]!.qC.qF⟩:qV) a9 (qH (H.cells 13 J) 0 3) (H.get 6 J).1 (H.get 7 J).1 (by have hz:=(qH (H.cells 1 J) 0 3);rw[IT] at hz;exact hz) (IT▸aaX) xc azG qg qg qg qg) ?_
        rintro _ acN ⟨mf,aC6,nt,ady,aCe,dZ,di,dr,rfl,M,K⟩ _
        obtain⟨N,H⟩:=H.both K M N [1,3,4,5,9,10,0,2] 11 K0
        obtain rfl:=H.yt 0 rfl
        obtain rfl:=H.xf (α:=yLI) 1 rfl 0 rfl qj
        refine sq 5<|zjn<|xO ?_
        rw[Fe] at H ⊢
        refine vW 2 J H [0,1,2,3,4,5,6,7,8,9,10,11,12,13,14,15,16,17] [0,1,2,3,4,5,6,7,8,9,10,11] fun H=>?_
        dsimp only[yu,yU]
        have S:=H.ve (zR 0 18)<|zR 0 12
        refine tF 0 J J S ?_
        refine tL 1 J J (fun _ h=>h.cell 7 J J) S ?_
        refine rtl 2 S ?_
        refine tF 3 J J S ?_
        refine tL 4 J J (fun _ h=>h.cell 7 J J) S ?_
        refine rtl 5 S ?_
        obtain⟨m4,rfl⟩:=H.jm 8 rfl qf
        have S:=H.ve (zR 0 18)<|zR 0 12
        refine tI 6 J J J S ?_
        refine rtl 8 S ?_
        refine ro 7 J ?_
        obtain⟨aB3,aCg,SC,arV,H⟩:=H.yE 8 rfl 3 rfl (iv:=a9) a9 qf qf
        refine zx (Sv aB3 (((jU s own sv[iv.toNat]!.qC iv a9)[a9]!).length) aCg) isAgg24 rfl ((H.zD 8 rfl arV qf))<|⟨H.pick (zR 0 18)<|zR 1 12,(ro 9 rfl ?_)⟩
        obtain⟨apC,arM,ada⟩:=H.Xv 0 rfl
        refine oc (QV _ ((jU s own sv[iv.toNat]!.qC iv a9)[a9]!) (yV s (xq s vs) a9 s.qB.length) (-1) (H.get 0 J).1 ada qg qg qg) ?_
        rintro aPQ asd ayk aCI
        replace H:=H.zy aCI ayk
        obtain⟨awe,awu,rfl,aFm,aIr⟩:=H.jB 0 rfl
        refine⟨H.pick (zR 1 18)<|zR 1 12,(xx qh<|zg<|oI J J ?_)⟩
        obtain⟨aL6,N,aGg,H⟩:=H.vJ 0 rfl N<|H.awB [1,3,5,6,7,11,12,2,4] 13 K0
        dsimp only[List.set] at H
        refine sw<|jJ true H 9 J 5 J (Sv awe ((vX ((jU s own sv[iv.toNat]!.qC iv a9)[a9]!) (yV s (xq s vs) a9 s.qB.length) (-1)).length) awu) 0 J J sizeOf24 J J (i:=a9) qf qf qm fun aLm fv iy ate H=>?_
        replace N:=(N.Xr 10 [9,0,1,2,3,4,5,6,7,8]).repl ate
        dsimp only[List.set] at H
        refine zjc<|sp (.int .i64 0)<|zjn<|xg<|vk ((fun Z0 Z1 Z2 Z3 Z4 Z5 Z6 Z7 Z8 Z9 dU eC fe fR gB ij nc pN rN wk wd Bm Bl FF Lm TW Z26 Z27=>fun m' ρ adB=>∃(xR:Env) (x:Nat) (av:List yLL) (yQ:List Value) (yx:yLN),ρ=upd (upd (upd (upd (upd (upd (upd (upd xR 0<|.pointer<|some ⟨bk,0,none⟩) 1<|.int .i64 iv) 5<|.pointer<|some ⟨lF,0,none⟩) 6<|.pointer<|some ⟨dT,0,none⟩) 7<|Sv eR Xe XL) 9<|.int .i64 a9) 11<|Sv ady ((jX s vs (xq s vs) a9).length) dZ) 12 (.int .i64 x)/\((x:Int)<=((jX s vs (xq s vs) a9).length))/\(av=addTo own (jX s vs (xq s vs) a9) (Vl s vs own iv sv.length a9) x)/\m'=(((jX s vs (xq s vs) a9).length)-(x:Int)).toNat/\Fresh W0.heap.size (iy::dr::dY::a6::ct::bJ::bq::bg::yx::Ns)/\St W0 adB (Z0::Z1::(rr eR Xe XL 29 1 yQ)::Z2::Z3::Z4::Z5::Z6::Z7::Z8::Z9::dU::eC::fe::fR::gB::ij::nc::ps) (pN::rN::(qX true yx yQ av)::wk::wd::Bm::Bl::FF::Lm::TW::Z26::Z27::Γ)) _ _ _ _ _ _ _ _ _ _ _ _ _ _ _ _ _ _ _ _ _ _ _ _ _ _ _ _) ((((jX s vs (xq s vs) a9).length)-(0:Int)).toNat) ⟨_,0,dB,gM,eS,uE8,qf,(by exact i2),J,N,H.xG 19 15 (zR 1 18) (0::3::4::5::zR 7 8) xE xE⟩ ?_
        clear H N
        rintro m' ρ az6 ⟨xR,x,av,yQ,yx,rfl,i0,i3,rfl,N,H⟩
        have uT:=H.xf (α:=yLL) 2 J 2 J qj
        refine zcc<|sp (.int .i64 x)<|sq 1<|oN J<|sq 1<|zjn<|cD J (fun aCQ=>?_)<|fun aCQ=>?_
        ·have o1:=p0.own.at (p:=x) qf
         refine xe<|t_n<|xO<|xg<|zcr<|sq 1<|sp (.int .i64 x) ?_
         have H1:=H.yD 18 12 [14,0,1,2,3,4,5,6,7,8,9,10,11,12,13,15,16,17] [9,0,1,2,3,4,5,6,7,8,10,11] xE xE
         have N1:Fresh _ (iy::dr::dY::a6::ct::bJ::bq::bg::yx::Ns):=N
         have K1:Kept (Ns) ((qX true iy fv ((jU s own sv[iv.toNat]!.qC iv a9).set a9<|vX ((jU s own sv[iv.toNat]!.qC iv a9)[a9]!) (yV s (xq s vs) a9 s.qB.length) (-1)))::(qX true dr di<|jX s vs (xq s vs) a9)::(qX true yx yQ av)::(qX true dY i9 sv[iv.toNat]!.qC.qG)::(qX true a6 bK sv[iv.toNat]!.qC.qU)::(qX true ct dD sv[iv.toNat]!.qC.jH)::(qX true bJ cV sv[iv.toNat]!.qC.zM)::(sF false Fp ap cp s.qA)::(sF false Fr ar cr s.qB)::(qX true bq bB sv)::(qX true bg bu wi)::Γ):=K0.behind 11 J
         replace K1:=K1.cons (F:=yx) 2 J J
         replace K1:=K1.cons (F:=bg) 10 J J
         replace K1:=K1.cons (F:=bq) 9 J J
         replace K1:=K1.cons (F:=bJ) 6 J J
         replace K1:=K1.cons (F:=ct) 5 J J
         replace K1:=K1.cons (F:=a6) 4 J J
         replace K1:=K1.cons (F:=dY) 3 J J
         replace K1:=K1.cons (F:=dr) 1 J J
         replace K1:=K1.cons (F:=iy) 0 J J
         refine sw<|zT #[.pointer<|some ⟨bk,0,none⟩,.int .i64 x] J J call156 (sowner_ok own (some ⟨lZ,l7,none⟩) co Fo sb bk (some ⟨b1,0,none⟩) sv.length bQ bS wi.length bo x H1 N1 K1 qg qg) ?_
         clear H H1 N1 K1
         rintro _ aBk ⟨rfl,N,H⟩
         obtain⟨n1,n2,n3,n4,n5⟩:=now_pre p0 v3 (c:=a9) (bv:=x) qf qf (j:=(vY own x).toNat) qf i3
         refine sq 1<|zjn ?_
         obtain⟨iZ,rfl⟩:=H.jm 3 rfl qf
         obtain⟨l6,rfl⟩:=H.jm 2 rfl qf
         refine c_lateC 2 (fun ρ aer=>∃(xR:Env) (Tt:yOA) (SR:Nat) (Ud:yOA) (SK:Nat) (aeB:yLN),ρ=upd (upd (upd (upd (upd (upd (upd (upd (upd (upd (upd xR 0<|.pointer<|some ⟨bk,0,none⟩) 1<|.int .i64 iv) 5<|.pointer<|some ⟨lF,0,none⟩) 6<|.pointer<|some ⟨dT,0,none⟩) 7<|Sv (some ⟨iZ,0,none⟩) Xe XL) 9<|.int .i64 a9) 11<|Sv (some ⟨l6,0,none⟩) ((jX s vs (xq s vs) a9).length) dZ) 12<|.int .i64 x) 124<|Sv Tt ((av[(vY own x:Int).toNat]!).length) SR) 125<|.int .i64 x) 137 (Sv Ud ((vX ((av[(vY own x:Int).toNat]!)[x]!) ((jX s vs (xq s vs) a9)[x]!) 1).length) SK)/\(yQ[((vY own x:Int).toNat)*1+0]? =some (Sv Tt ((av[(vY own x:Int).toNat]!).length) SR))/\Fresh W0.heap.size (iy::dr::dY::a6::ct::bJ::bq::bg::yx::Ns)/\St W0 aer ((rr Ud ((vX ((av[(vY own x:Int).toNat]!)[x]!) ((jX s vs (xq s vs) a9)[x]!) 1).length) SK 2 1 ((vX ((av[(vY own x:Int).toNat]!)[x]!) ((jX s vs (xq s vs) a9)[x]!) 1).map<|Value.int .i64))::(.box bk [.pointer<|some ⟨sb,0,none⟩,Sv (some ⟨lZ,l7,none⟩) own.length co,Sv (some ⟨b1,0,none⟩) sv.length bQ,Sv bS wi.length bo] 86)::(rr mf ((yV s (xq s vs) a9 s.qB.length).length) nt 2 1 ((yV s (xq s vs) a9 s.qB.length).map<|Value.int .i64))::(rr (some ⟨l6,0,none⟩) ((jX s vs (xq s vs) a9).length) dZ 24 1 di)::(rr (some ⟨iZ,0,none⟩) Xe XL 29 1 yQ)::(.box dT [Sv yj jC yh,Sv eN sv[iv.toNat]!.qC.qG.length fW,Sv nE sv[iv.toNat]!.qC.qF.length nM] 31)::(rr yj jC yh 4 1 ((List.replicate s.qA.length true).map<|Value.bool))::(rr nE sv[iv.toNat]!.qC.qF.length nM 2 1 (sv[iv.toNat]!.qC.qF.map<|Value.int .i64))::(rr eN sv[iv.toNat]!.qC.qG.length fW 24 1 i9)::(.box lF [.int .i64 sv[iv.toNat]!.qC.qK,Sv (some ⟨m4,0,none⟩) sv[iv.toNat]!.qC.qG.length QT,Sv yO sv[iv.toNat]!.qC.qF.length yM,Bv sv[iv.toNat]!.qC.qY,Sv Xo Xf Xm,Sv bA sv[iv.toNat]!.qC.qU.length bC,Sv dz sv[iv.toNat]!.qC.jH.length dy,Sv bT sv[iv.toNat]!.qC.zM.length bU] 47)::(rr (some ⟨m4,0,none⟩) sv[iv.toNat]!.qC.qG.length QT 24 1 fv)::(rr yO sv[iv.toNat]!.qC.qF.length yM 2 1 (sv[iv.toNat]!.qC.qF.map<|Value.int .i64))::(rr Xo Xf Xm 4 1 ((gotTo iv nN).map<|Value.bool))::(rr bA sv[iv.toNat]!.qC.qU.length bC 24 1 bK)::(rr dz sv[iv.toNat]!.qC.jH.length dy 29 1 dD)::(rr bT sv[iv.toNat]!.qC.zM.length bU 29 1 cV)::(.box sb [.int .i64 s.qQ,Sv ap s.qA.length cp,Sv ar s.qB.length cr] 27)::(rr (some ⟨b1,0,none⟩) sv.length bQ 49 16 bB)::(rr bS wi.length bo 77 4 bu)::ps) ((sF true aeB Tt SR<|av[(vY own x:Int).toNat]!)::(sF false Fo (some ⟨lZ,l7,none⟩) co own)::(qX true iy fv ((jU s own sv[iv.toNat]!.qC iv a9).set a9<|vX ((jU s own sv[iv.toNat]!.qC iv a9)[a9]!) (yV s (xq s vs) a9 s.qB.length) (-1)))::(qX true dr di<|jX s vs (xq s vs) a9)::(qX true yx yQ av)::(qX true dY i9 sv[iv.toNat]!.qC.qG)::(qX true a6 bK sv[iv.toNat]!.qC.qU)::(qX true ct dD sv[iv.toNat]!.qC.jH)::(qX true bJ cV sv[iv.toNat]!.qC.zM)::(sF false Fp ap cp s.qA)::(sF false Fr ar cr s.qB)::(qX true bq bB sv)::(qX true bg bu wi)::Γ)) J H [0,1,2,3,4,5,6,7,8,9,10,11,12,13,14,15,16,17] [0,1,2,3,4,5,6,7,8,9,10,11] (fun H=>?_) ?_
         ·dsimp only[yu,yU]
          refine Q3 (fun ρ Ub=>∃(xR:Env) (Pe:yOA) (MW:Nat) (TU:yOA) (UF:Nat) (aeL:yOA) (aa5:Nat) (Cp:yLN) (aji:yLN) (acp:yLN),ρ=upd (upd (upd (upd (upd (upd (upd (upd (upd (upd (upd (upd xR 0<|.pointer<|some ⟨bk,0,none⟩) 1<|.int .i64 iv) 5<|.pointer<|some ⟨lF,0,none⟩) 6<|.pointer<|some ⟨dT,0,none⟩) 7<|Sv (some ⟨iZ,0,none⟩) Xe XL) 9<|.int .i64 a9) 11<|Sv (some ⟨l6,0,none⟩) ((jX s vs (xq s vs) a9).length) dZ) 12<|.int .i64 x) 124<|Sv Pe ((av[(vY own x:Int).toNat]!).length) MW) 125<|.int .i64 x) 132<|Sv aeL (((av[(vY own x:Int).toNat]!)[x]!).length) aa5) 136 (Sv TU (((jX s vs (xq s vs) a9)[x]!).length) UF)/\(yQ[((vY own x:Int).toNat)*1+0]? =some (Sv Pe ((av[(vY own x:Int).toNat]!).length) MW))/\(di[x*1+0]? =some (Sv TU (((jX s vs (xq s vs) a9)[x]!).length) UF))/\Fresh W0.heap.size (iy::dr::dY::a6::ct::bJ::bq::bg::yx::Ns)/\St W0 Ub ((.box bk [.pointer<|some ⟨sb,0,none⟩,Sv (some ⟨lZ,l7,none⟩) own.length co,Sv (some ⟨b1,0,none⟩) sv.length bQ,Sv bS wi.length bo] 86)::(rr mf ((yV s (xq s vs) a9 s.qB.length).length) nt 2 1 ((yV s (xq s vs) a9 s.qB.length).map<|Value.int .i64))::(rr (some ⟨l6,0,none⟩) ((jX s vs (xq s vs) a9).length) dZ 24 1 di)::(rr (some ⟨iZ,0,none⟩) Xe XL 29 1 yQ)::(.box dT [Sv yj jC yh,Sv eN sv[iv.toNat]!.qC.qG.length fW,Sv nE sv[iv.toNat]!.qC.qF.length nM] 31)::(rr yj jC yh 4 1 ((List.replicate s.qA.length true).map<|Value.bool))::(rr nE sv[iv.toNat]!.qC.qF.length nM 2 1 (sv[iv.toNat]!.qC.qF.map<|Value.int .i64))::(rr eN sv[iv.toNat]!.qC.qG.length fW 24 1 i9)::(.box lF [.int .i64 sv[iv.toNat]!.qC.qK,Sv (some ⟨m4,0,none⟩) sv[iv.toNat]!.qC.qG.length QT,Sv yO sv[iv.toNat]!.qC.qF.length yM,Bv sv[iv.toNat]!.qC.qY,Sv Xo Xf Xm,Sv bA sv[iv.toNat]!.qC.qU.length bC,Sv dz sv[iv.toNat]!.qC.jH.length dy,Sv bT sv[iv.toNat]!.qC.zM.length bU] 47)::(rr (some ⟨m4,0,none⟩) sv[iv.toNat]!.qC.qG.length QT 24 1 fv)::(rr yO sv[iv.toNat]!.qC.qF.length yM 2 1 (sv[iv.toNat]!.qC.qF.map<|Value.int .i64))::(rr Xo Xf Xm 4 1 ((gotTo iv nN).map<|Value.bool))::(rr bA sv[iv.toNat]!.qC.qU.length bC 24 1 bK)::(rr dz sv[iv.toNat]!.qC.jH.length dy 29 1 dD)::(rr bT sv[iv.toNat]!.qC.zM.length bU 29 1 cV)::(.box sb [.int .i64 s.qQ,Sv ap s.qA.length cp,Sv ar s.qB.length cr] 27)::(rr (some ⟨b1,0,none⟩) sv.length bQ 49 16 bB)::(rr bS wi.length bo 77 4 bu)::ps) ((sF true Cp TU UF ((jX s vs (xq s vs) a9)[x]!))::(sF true aji aeL aa5 ((av[(vY own x:Int).toNat]!)[x]!))::(sF true acp Pe MW<|av[(vY own x:Int).toNat]!)::(sF false Fo (some ⟨lZ,l7,none⟩) co own)::(qX true iy fv ((jU s own sv[iv.toNat]!.qC iv a9).set a9<|vX ((jU s own sv[iv.toNat]!.qC iv a9)[a9]!) (yV s (xq s vs) a9 s.qB.length) (-1)))::(qX true dr di<|jX s vs (xq s vs) a9)::(qX true yx yQ av)::(qX true dY i9 sv[iv.toNat]!.qC.qG)::(qX true a6 bK sv[iv.toNat]!.qC.qU)::(qX true ct dD sv[iv.toNat]!.qC.jH)::(qX true bJ cV sv[iv.toNat]!.qC.zM)::(sF false Fp ap cp s.qA)::(sF false Fr ar cr s.qB)::(qX true bq bB sv)::(qX true bg bu wi)::Γ)) 1 #[true,true,true,true,true,true,true,true,true,true,true,true,true,true,true,true,false] ?_ fun adX=>?_
          ·rintro ρ ay9 ⟨xR,Pe,MW,TU,UF,aeL,aa5,Cp,aji,acp,rfl,apN,aHF,N,H⟩
           refine ro 16 J<|oc (QV _ ((av[(vY own x:Int).toNat]!)[x]!) ((jX s vs (xq s vs) a9)[x]!) 1 (H.get 1 J).1 (H.get 0 J).1 qg qg qg) ?_
           rintro aOH alq azY aCW
           replace H:=H.zy aCW azY
           obtain⟨Te,RZ,rfl,aHY,aFP⟩:=H.jB 0 rfl
           refine⟨H.pick (zR 1 18)<|zR 3 12,(xx qh ((meet ⟨_,Pe,MW,Te,RZ,acp,uE11,apN,N,H.xG 19 15 (zR 0 19) (zR 2 13) xE xE⟩)))⟩
          refine Q3 (fun ρ w229=>∃(xR:Env) (PZ:yOA) (Md:Nat) (Le:yOA) (Kp:Nat) (ab7:yLN) (rS:yLN),ρ=upd (upd (upd (upd (upd (upd (upd (upd (upd (upd (upd (upd xR 0<|.pointer<|some ⟨bk,0,none⟩) 1<|.int .i64 iv) 5<|.pointer<|some ⟨lF,0,none⟩) 6<|.pointer<|some ⟨dT,0,none⟩) 7<|Sv (some ⟨iZ,0,none⟩) Xe XL) 9<|.int .i64 a9) 11<|Sv (some ⟨l6,0,none⟩) ((jX s vs (xq s vs) a9).length) dZ) 12<|.int .i64 x) 124<|Sv PZ ((av[(vY own x:Int).toNat]!).length) Md) 125<|.int .i64 x) 132<|Sv Le (((av[(vY own x:Int).toNat]!)[x]!).length) Kp) 135 (.pointer<|some ⟨l6,0+(x:Int).toNat*1,none⟩)/\(yQ[((vY own x:Int).toNat)*1+0]? =some (Sv PZ ((av[(vY own x:Int).toNat]!).length) Md))/\Fresh W0.heap.size (iy::dr::dY::a6::ct::bJ::bq::bg::yx::Ns)/\St W0 w229 ((.box bk [.pointer<|some ⟨sb,0,none⟩,Sv (some ⟨lZ,l7,none⟩) own.length co,Sv (some ⟨b1,0,none⟩) sv.length bQ,Sv bS wi.length bo] 86)::(rr mf ((yV s (xq s vs) a9 s.qB.length).length) nt 2 1 ((yV s (xq s vs) a9 s.qB.length).map<|Value.int .i64))::(rr (some ⟨l6,0,none⟩) ((jX s vs (xq s vs) a9).length) dZ 24 1 di)::(rr (some ⟨iZ,0,none⟩) Xe XL 29 1 yQ)::(.box dT [Sv yj jC yh,Sv eN sv[iv.toNat]!.qC.qG.length fW,Sv nE sv[iv.toNat]!.qC.qF.length nM] 31)::(rr yj jC yh 4 1 ((List.replicate s.qA.length true).map<|Value.bool))::(rr nE sv[iv.toNat]!.qC.qF.length nM 2 1 (sv[iv.toNat]!.qC.qF.map<|Value.int .i64))::(rr eN sv[iv.toNat]!.qC.qG.length fW 24 1 i9)::(.box lF [.int .i64 sv[iv.toNat]!.qC.qK,Sv (some ⟨m4,0,none⟩) sv[iv.toNat]!.qC.qG.length QT,Sv yO sv[iv.toNat]!.qC.qF.length yM,Bv sv[iv.toNat]!.qC.qY,Sv Xo Xf Xm,Sv bA sv[iv.toNat]!.qC.qU.length bC,Sv dz sv[iv.toNat]!.qC.jH.length dy,Sv bT sv[iv.toNat]!.qC.zM.length bU] 47)::(rr (some ⟨m4,0,none⟩) sv[iv.toNat]!.qC.qG.length QT 24 1 fv)::(rr yO sv[iv.toNat]!.qC.qF.length yM 2 1 (sv[iv.toNat]!.qC.qF.map<|Value.int .i64))::(rr Xo Xf Xm 4 1 ((gotTo iv nN).map<|Value.bool))::(rr bA sv[iv.toNat]!.qC.qU.length bC 24 1 bK)::(rr dz sv[iv.toNat]!.qC.jH.length dy 29 1 dD)::(rr bT sv[iv.toNat]!.qC.zM.length bU 29 1 cV)::(.box sb [.int .i64 s.qQ,Sv ap s.qA.length cp,Sv ar s.qB.length cr] 27)::(rr (some ⟨b1,0,none⟩) sv.length bQ 49 16 bB)::(rr bS wi.length bo 77 4 bu)::ps) ((sF true ab7 Le Kp ((av[(vY own x:Int).toNat]!)[x]!))::(sF true rS PZ Md<|av[(vY own x:Int).toNat]!)::(sF false Fo (some ⟨lZ,l7,none⟩) co own)::(qX true iy fv ((jU s own sv[iv.toNat]!.qC iv a9).set a9<|vX ((jU s own sv[iv.toNat]!.qC iv a9)[a9]!) (yV s (xq s vs) a9 s.qB.length) (-1)))::(qX true dr di<|jX s vs (xq s vs) a9)::(qX true yx yQ av)::(qX true dY i9 sv[iv.toNat]!.qC.qG)::(qX true a6 bK sv[iv.toNat]!.qC.qU)::(qX true ct dD sv[iv.toNat]!.qC.jH)::(qX true bJ cV sv[iv.toNat]!.qC.zM)::(sF false Fp ap cp s.qA)::(sF false Fr ar cr s.qB)::(qX true bq bB sv)::(qX true bg bu wi)::Γ)) 2 #[true,true,true,true,true,true,true,true,true,true,true,true,true,true,true,false,false] ?_ fun ak2=>?_
          ·rintro ρ ax5 ⟨xR,PZ,Md,Le,Kp,ab7,rS,rfl,ahU,N,H⟩
           refine ro 15 J ?_
           obtain⟨R0,TM,awo,Wg,H⟩:=H.yE 2 rfl 4 rfl (iv:=x) x qf qf
           refine zx (Sv R0 (((jX s vs (xq s vs) a9)[x]!).length) TM) isAgg24 rfl ((H.zD 2 rfl Wg qf))<|⟨H.pick (zR 0 18)<|zR 3 12,(yG adX ⟨_,PZ,Md,R0,TM,Le,Kp,awo,ab7,rS,uE12,ahU,Wg,N,H⟩)⟩
          refine Q3 (fun ρ Ut=>∃(xR:Env) (Pr:yOA) (PI:Nat) (JF:yOA) (JD:Nat) (rI:Nat) (Uk:Nat) (PC:yLN) (aeA:yLN) (Nn:yOA) (Mi:Nat) (SX:yLN) (alC:Nat) (Nz:yLN),ρ=upd (upd (upd (upd (upd (upd (upd (upd (upd (upd (upd (upd xR 0<|.pointer<|some ⟨bk,0,none⟩) 1<|.int .i64 iv) 5<|.pointer<|some ⟨lF,0,none⟩) 6<|.pointer<|some ⟨dT,0,none⟩) 7<|Sv (some ⟨iZ,0,none⟩) Xe XL) 9<|.int .i64 a9) 11<|Sv (some ⟨l6,0,none⟩) ((jX s vs (xq s vs) a9).length) dZ) 12<|.int .i64 x) 124<|Sv Pr ((av[(vY own x:Int).toNat]!).length) PI) 125<|.int .i64 x) 131<|.pointer<|some ⟨rI,Uk+(x:Int).toNat*1,none⟩) 136 (Sv JF (((jX s vs (xq s vs) a9)[x]!).length) JD)/\(yQ[((vY own x:Int).toNat)*1+0]? =some (Sv Pr ((av[(vY own x:Int).toNat]!).length) PI))/\(di[x*1+0]? =some (Sv JF (((jX s vs (xq s vs) a9)[x]!).length) JD))/\Fresh W0.heap.size (iy::dr::dY::a6::ct::bJ::bq::bg::yx::Ns)/\St W0 Ut ((.box bk [.pointer<|some ⟨sb,0,none⟩,Sv (some ⟨lZ,l7,none⟩) own.length co,Sv (some ⟨b1,0,none⟩) sv.length bQ,Sv bS wi.length bo] 86)::(rr mf ((yV s (xq s vs) a9 s.qB.length).length) nt 2 1 ((yV s (xq s vs) a9 s.qB.length).map<|Value.int .i64))::(rr (some ⟨l6,0,none⟩) ((jX s vs (xq s vs) a9).length) dZ 24 1 di)::(rr (some ⟨iZ,0,none⟩) Xe XL 29 1 yQ)::(.box dT [Sv yj jC yh,Sv eN sv[iv.toNat]!.qC.qG.length fW,Sv nE sv[iv.toNat]!.qC.qF.length nM] 31)::(rr yj jC yh 4 1 ((List.replicate s.qA.length true).map<|Value.bool))::(rr nE sv[iv.toNat]!.qC.qF.length nM 2 1 (sv[iv.toNat]!.qC.qF.map<|Value.int .i64))::(rr eN sv[iv.toNat]!.qC.qG.length fW 24 1 i9)::(.box lF [.int .i64 sv[iv.toNat]!.qC.qK,Sv (some ⟨m4,0,none⟩) sv[iv.toNat]!.qC.qG.length QT,Sv yO sv[iv.toNat]!.qC.qF.length yM,Bv sv[iv.toNat]!.qC.qY,Sv Xo Xf Xm,Sv bA sv[iv.toNat]!.qC.qU.length bC,Sv dz sv[iv.toNat]!.qC.jH.length dy,Sv bT sv[iv.toNat]!.qC.zM.length bU] 47)::(rr (some ⟨m4,0,none⟩) sv[iv.toNat]!.qC.qG.length QT 24 1 fv)::(rr yO sv[iv.toNat]!.qC.qF.length yM 2 1 (sv[iv.toNat]!.qC.qF.map<|Value.int .i64))::(rr Xo Xf Xm 4 1 ((gotTo iv nN).map<|Value.bool))::(rr bA sv[iv.toNat]!.qC.qU.length bC 24 1 bK)::(rr dz sv[iv.toNat]!.qC.jH.length dy 29 1 dD)::(rr bT sv[iv.toNat]!.qC.zM.length bU 29 1 cV)::(.box sb [.int .i64 s.qQ,Sv ap s.qA.length cp,Sv ar s.qB.length cr] 27)::(rr (some ⟨b1,0,none⟩) sv.length bQ 49 16 bB)::(rr bS wi.length bo 77 4 bu)::ps) ((sF true PC JF JD ((jX s vs (xq s vs) a9)[x]!))::(sF true aeA Nn Mi ((av[(vY own x:Int).toNat]!)[x]!))::(atF rI (Uk+(x:Int).toNat*1) [Sv Nn (((av[(vY own x:Int).toNat]!)[x]!).length) Mi])::(sF true SX (some ⟨rI,Uk,none⟩) alC<|av[(vY own x:Int).toNat]!)::(sF true Nz Pr PI<|av[(vY own x:Int).toNat]!)::(sF false Fo (some ⟨lZ,l7,none⟩) co own)::(qX true iy fv ((jU s own sv[iv.toNat]!.qC iv a9).set a9<|vX ((jU s own sv[iv.toNat]!.qC iv a9)[a9]!) (yV s (xq s vs) a9 s.qB.length) (-1)))::(qX true dr di<|jX s vs (xq s vs) a9)::(qX true yx yQ av)::(qX true dY i9 sv[iv.toNat]!.qC.qG)::(qX true a6 bK sv[iv.toNat]!.qC.qU)::(qX true ct dD sv[iv.toNat]!.qC.jH)::(qX true bJ cV sv[iv.toNat]!.qC.zM)::(sF false Fp ap cp s.qA)::(sF false Fr ar cr s.qB)::(qX true bq bB sv)::(qX true bg bu wi)::Γ)) 2 #[true,true,true,true,true,true,true,true,true,true,true,false,true,true,true,true,false] ?_ fun ach=>?_
          ·rintro ρ ai7 ⟨xR,Pr,PI,JF,JD,rI,Uk,PC,aeA,Nn,Mi,SX,alC,Nz,rfl,Ze,aqt,N,H⟩
           refine ro 11 rfl<|zx (Sv Nn (((av[(vY own x:Int).toNat]!)[x]!).length) Mi) isAgg24 rfl (H.zU 2 rfl 0 rfl)<|⟨H.pick (zR 0 18)<|zR 5 12,(yG adX ⟨_,Pr,PI,JF,JD,Nn,Mi,PC,aeA,Nz,uE12,Ze,aqt,N,H.xG 18 17 (zR 0 18) (0::1::zR 4 13) xE xE⟩)⟩
          refine Q3 (fun ρ aed=>∃(xR:Env) (rV:yOA) (Qf:Nat) (Sb:yOA) (Tz:Nat) (adm:yLN) (acF:yLN),ρ=upd (upd (upd (upd (upd (upd (upd (upd (upd (upd (upd (upd xR 0<|.pointer<|some ⟨bk,0,none⟩) 1<|.int .i64 iv) 5<|.pointer<|some ⟨lF,0,none⟩) 6<|.pointer<|some ⟨dT,0,none⟩) 7<|Sv (some ⟨iZ,0,none⟩) Xe XL) 9<|.int .i64 a9) 11<|Sv (some ⟨l6,0,none⟩) ((jX s vs (xq s vs) a9).length) dZ) 12<|.int .i64 x) 123<|.pointer<|some ⟨iZ,0+(vY own x:Int).toNat*1,none⟩) 125<|.int .i64 x) 132<|Sv Sb (((av[(vY own x:Int).toNat]!)[x]!).length) Tz) 136 (Sv rV (((jX s vs (xq s vs) a9)[x]!).length) Qf)/\(di[x*1+0]? =some (Sv rV (((jX s vs (xq s vs) a9)[x]!).length) Qf))/\Fresh W0.heap.size (iy::dr::dY::a6::ct::bJ::bq::bg::yx::Ns)/\St W0 aed ((.box bk [.pointer<|some ⟨sb,0,none⟩,Sv (some ⟨lZ,l7,none⟩) own.length co,Sv (some ⟨b1,0,none⟩) sv.length bQ,Sv bS wi.length bo] 86)::(rr mf ((yV s (xq s vs) a9 s.qB.length).length) nt 2 1 ((yV s (xq s vs) a9 s.qB.length).map<|Value.int .i64))::(rr (some ⟨l6,0,none⟩) ((jX s vs (xq s vs) a9).length) dZ 24 1 di)::(rr (some ⟨iZ,0,none⟩) Xe XL 29 1 yQ)::(.box dT [Sv yj jC yh,Sv eN sv[iv.toNat]!.qC.qG.length fW,Sv nE sv[iv.toNat]!.qC.qF.length nM] 31)::(rr yj jC yh 4 1 ((List.replicate s.qA.length true).map<|Value.bool))::(rr nE sv[iv.toNat]!.qC.qF.length nM 2 1 (sv[iv.toNat]!.qC.qF.map<|Value.int .i64))::(rr eN sv[iv.toNat]!.qC.qG.length fW 24 1 i9)::(.box lF [.int .i64 sv[iv.toNat]!.qC.qK,Sv (some ⟨m4,0,none⟩) sv[iv.toNat]!.qC.qG.length QT,Sv yO sv[iv.toNat]!.qC.qF.length yM,Bv sv[iv.toNat]!.qC.qY,Sv Xo Xf Xm,Sv bA sv[iv.toNat]!.qC.qU.length bC,Sv dz sv[iv.toNat]!.qC.jH.length dy,Sv bT sv[iv.toNat]!.qC.zM.length bU] 47)::(rr (some ⟨m4,0,none⟩) sv[iv.toNat]!.qC.qG.length QT 24 1 fv)::(rr yO sv[iv.toNat]!.qC.qF.length yM 2 1 (sv[iv.toNat]!.qC.qF.map<|Value.int .i64))::(rr Xo Xf Xm 4 1 ((gotTo iv nN).map<|Value.bool))::(rr bA sv[iv.toNat]!.qC.qU.length bC 24 1 bK)::(rr dz sv[iv.toNat]!.qC.jH.length dy 29 1 dD)::(rr bT sv[iv.toNat]!.qC.zM.length bU 29 1 cV)::(.box sb [.int .i64 s.qQ,Sv ap s.qA.length cp,Sv ar s.qB.length cr] 27)::(rr (some ⟨b1,0,none⟩) sv.length bQ 49 16 bB)::(rr bS wi.length bo 77 4 bu)::ps) ((sF true adm rV Qf ((jX s vs (xq s vs) a9)[x]!))::(sF true acF Sb Tz ((av[(vY own x:Int).toNat]!)[x]!))::(sF false Fo (some ⟨lZ,l7,none⟩) co own)::(qX true iy fv ((jU s own sv[iv.toNat]!.qC iv a9).set a9<|vX ((jU s own sv[iv.toNat]!.qC iv a9)[a9]!) (yV s (xq s vs) a9 s.qB.length) (-1)))::(qX true dr di<|jX s vs (xq s vs) a9)::(qX true yx yQ av)::(qX true dY i9 sv[iv.toNat]!.qC.qG)::(qX true a6 bK sv[iv.toNat]!.qC.qU)::(qX true ct dD sv[iv.toNat]!.qC.jH)::(qX true bJ cV sv[iv.toNat]!.qC.zM)::(sF false Fp ap cp s.qA)::(sF false Fr ar cr s.qB)::(qX true bq bB sv)::(qX true bg bu wi)::Γ)) 2 #[true,true,true,false,true,true,true,true,true,true,true,true,true,true,true,true,false] ?_ fun anU=>?_
          ·rintro ρ alB ⟨xR,rV,Qf,Sb,Tz,adm,acF,rfl,G9,N,H⟩
           refine jw [3,16] qh qm<|yl J ?_<|yl J ?_ jy
           ·obtain⟨aq2,alQ,aDe,Wq,H⟩:=H.yE 3 rfl 5 rfl (iv:=vY own x) ((vY own x:Int).toNat) qf qf
            refine zx (Sv aq2 ((av[(vY own x:Int).toNat]!).length) alQ) isAgg29 rfl ((H.zD 3 rfl Wq qf))<|⟨H.pick (zR 0 18)<|zR 3 12,(yG adX ⟨_,aq2,alQ,rV,Qf,Sb,Tz,adm,acF,aDe,uE12,Wq,G9,N,H.xG 18 15 (zR 0 18) (1::2::0::zR 3 12) xE xE⟩)⟩
           ·refine oc (QV _ ((av[(vY own x:Int).toNat]!)[x]!) ((jX s vs (xq s vs) a9)[x]!) 1 (H.get 1 J).1 (H.get 0 J).1 qg qg qg) ?_
            rintro aL8 aQQ azk azf
            replace H:=H.zy azf azk
            obtain⟨aBQ,aB9,rfl,aGG,aHw⟩:=H.jB 0 rfl
            refine⟨H.pick (zR 1 18)<|zR 2 12,(ro 3 J ?_)⟩
            obtain⟨apx,ahw,azj,UU,H⟩:=H.yE 4 rfl 5 rfl (iv:=vY own x) ((vY own x:Int).toNat) qf qf
            refine zx (Sv apx ((av[(vY own x:Int).toNat]!).length) ahw) isAgg29 rfl ((H.zD 4 rfl UU qf))<|⟨H.pick (zR 1 18)<|zR 3 12,(xx qh ((meet ⟨_,apx,ahw,aBQ,aB9,azj,uE11,UU,N,H.xG 19 15 (zR 0 19) (0::zR 3 12) xE xE⟩)))⟩
          refine Q3 (fun ρ ath=>∃(xR:Env) (Kw:yOA) (J3:Nat) (Mw:Nat) (ME:Nat) (Lp:yLN) (KC:yOA) (Lw:Nat) (abB:yLN) (aet:Nat) (Rg:yLN),ρ=upd (upd (upd (upd (upd (upd (upd (upd (upd (upd (upd (upd xR 0<|.pointer<|some ⟨bk,0,none⟩) 1<|.int .i64 iv) 5<|.pointer<|some ⟨lF,0,none⟩) 6<|.pointer<|some ⟨dT,0,none⟩) 7<|Sv (some ⟨iZ,0,none⟩) Xe XL) 9<|.int .i64 a9) 11<|Sv (some ⟨l6,0,none⟩) ((jX s vs (xq s vs) a9).length) dZ) 12<|.int .i64 x) 124<|Sv Kw ((av[(vY own x:Int).toNat]!).length) J3) 125<|.int .i64 x) 131<|.pointer<|some ⟨Mw,ME+(x:Int).toNat*1,none⟩) 135 (.pointer<|some ⟨l6,0+(x:Int).toNat*1,none⟩)/\(yQ[((vY own x:Int).toNat)*1+0]? =some (Sv Kw ((av[(vY own x:Int).toNat]!).length) J3))/\Fresh W0.heap.size (iy::dr::dY::a6::ct::bJ::bq::bg::yx::Ns)/\St W0 ath ((.box bk [.pointer<|some ⟨sb,0,none⟩,Sv (some ⟨lZ,l7,none⟩) own.length co,Sv (some ⟨b1,0,none⟩) sv.length bQ,Sv bS wi.length bo] 86)::(rr mf ((yV s (xq s vs) a9 s.qB.length).length) nt 2 1 ((yV s (xq s vs) a9 s.qB.length).map<|Value.int .i64))::(rr (some ⟨l6,0,none⟩) ((jX s vs (xq s vs) a9).length) dZ 24 1 di)::(rr (some ⟨iZ,0,none⟩) Xe XL 29 1 yQ)::(.box dT [Sv yj jC yh,Sv eN sv[iv.toNat]!.qC.qG.length fW,Sv nE sv[iv.toNat]!.qC.qF.length nM] 31)::(rr yj jC yh 4 1 ((List.replicate s.qA.length true).map<|Value.bool))::(rr nE sv[iv.toNat]!.qC.qF.length nM 2 1 (sv[iv.toNat]!.qC.qF.map<|Value.int .i64))::(rr eN sv[iv.toNat]!.qC.qG.length fW 24 1 i9)::(.box lF [.int .i64 sv[iv.toNat]!.qC.qK,Sv (some ⟨m4,0,none⟩) sv[iv.toNat]!.qC.qG.length QT,Sv yO sv[iv.toNat]!.qC.qF.length yM,Bv sv[iv.toNat]!.qC.qY,Sv Xo Xf Xm,Sv bA sv[iv.toNat]!.qC.qU.length bC,Sv dz sv[iv.toNat]!.qC.jH.length dy,Sv bT sv[iv.toNat]!.qC.zM.length bU] 47)::(rr (some ⟨m4,0,none⟩) sv[iv.toNat]!.qC.qG.length QT 24 1 fv)::(rr yO sv[iv.toNat]!.qC.qF.length yM 2 1 (sv[iv.toNat]!.qC.qF.map<|Value.int .i64))::(rr Xo Xf Xm 4 1 ((gotTo iv nN).map<|Value.bool))::(rr bA sv[iv.toNat]!.qC.qU.length bC 24 1 bK)::(rr dz sv[iv.toNat]!.qC.jH.length dy 29 1 dD)::(rr bT sv[iv.toNat]!.qC.zM.length bU 29 1 cV)::(.box sb [.int .i64 s.qQ,Sv ap s.qA.length cp,Sv ar s.qB.length cr] 27)::(rr (some ⟨b1,0,none⟩) sv.length bQ 49 16 bB)::(rr bS wi.length bo 77 4 bu)::ps) ((sF true Lp KC Lw ((av[(vY own x:Int).toNat]!)[x]!))::(atF Mw (ME+(x:Int).toNat*1) [Sv KC (((av[(vY own x:Int).toNat]!)[x]!).length) Lw])::(sF true abB (some ⟨Mw,ME,none⟩) aet<|av[(vY own x:Int).toNat]!)::(sF true Rg Kw J3<|av[(vY own x:Int).toNat]!)::(sF false Fo (some ⟨lZ,l7,none⟩) co own)::(qX true iy fv ((jU s own sv[iv.toNat]!.qC iv a9).set a9<|vX ((jU s own sv[iv.toNat]!.qC iv a9)[a9]!) (yV s (xq s vs) a9 s.qB.length) (-1)))::(qX true dr di<|jX s vs (xq s vs) a9)::(qX true yx yQ av)::(qX true dY i9 sv[iv.toNat]!.qC.qG)::(qX true a6 bK sv[iv.toNat]!.qC.qU)::(qX true ct dD sv[iv.toNat]!.qC.jH)::(qX true bJ cV sv[iv.toNat]!.qC.zM)::(sF false Fp ap cp s.qA)::(sF false Fr ar cr s.qB)::(qX true bq bB sv)::(qX true bg bu wi)::Γ)) 3 #[true,true,true,true,true,true,true,true,true,true,true,false,true,true,true,false,false] ?_ fun ajj=>?_
          ·rintro ρ aBT ⟨xR,Kw,J3,Mw,ME,Lp,KC,Lw,abB,aet,Rg,rfl,X2,N,H⟩
           refine jw [11,15] qh qm<|yl J ?_<|yl J ?_ jy
           ·refine zx (Sv KC (((av[(vY own x:Int).toNat]!)[x]!).length) Lw) isAgg24 rfl (H.zU 1 rfl 0 rfl)<|⟨H.pick (zR 0 18)<|zR 4 12,(yG ak2 ⟨_,Kw,J3,KC,Lw,Lp,Rg,uE12,X2,N,H.xG 18 16 (zR 0 18) (0::zR 3 13) xE xE⟩)⟩
           ·obtain⟨arS,ar2,apO,U1,H⟩:=H.yE 2 rfl 6 rfl (iv:=x) x qf qf
            refine zx (Sv arS (((jX s vs (xq s vs) a9)[x]!).length) ar2) isAgg24 rfl ((H.zD 2 rfl U1 qf))<|⟨H.pick (zR 0 18)<|zR 5 12,(yG ach ⟨_,Kw,J3,arS,ar2,Mw,ME,apO,Lp,KC,Lw,abB,aet,Rg,uE12,X2,U1,N,H⟩)⟩
          refine Q3 (fun ρ arO=>∃(xR:Env) (Km:yOA) (Lf:Nat) (P7:Nat) (NU:Nat) (SU:yLN) (T7:yLN) (JQ:yOA) (KI:Nat) (ac3:yLN) (ad6:Nat),ρ=upd (upd (upd (upd (upd (upd (upd (upd (upd (upd (upd (upd xR 0<|.pointer<|some ⟨bk,0,none⟩) 1<|.int .i64 iv) 5<|.pointer<|some ⟨lF,0,none⟩) 6<|.pointer<|some ⟨dT,0,none⟩) 7<|Sv (some ⟨iZ,0,none⟩) Xe XL) 9<|.int .i64 a9) 11<|Sv (some ⟨l6,0,none⟩) ((jX s vs (xq s vs) a9).length) dZ) 12<|.int .i64 x) 123<|.pointer<|some ⟨iZ,0+(vY own x:Int).toNat*1,none⟩) 125<|.int .i64 x) 131<|.pointer<|some ⟨P7,NU+(x:Int).toNat*1,none⟩) 136 (Sv Km (((jX s vs (xq s vs) a9)[x]!).length) Lf)/\(di[x*1+0]? =some (Sv Km (((jX s vs (xq s vs) a9)[x]!).length) Lf))/\Fresh W0.heap.size (iy::dr::dY::a6::ct::bJ::bq::bg::yx::Ns)/\St W0 arO ((.box bk [.pointer<|some ⟨sb,0,none⟩,Sv (some ⟨lZ,l7,none⟩) own.length co,Sv (some ⟨b1,0,none⟩) sv.length bQ,Sv bS wi.length bo] 86)::(rr mf ((yV s (xq s vs) a9 s.qB.length).length) nt 2 1 ((yV s (xq s vs) a9 s.qB.length).map<|Value.int .i64))::(rr (some ⟨l6,0,none⟩) ((jX s vs (xq s vs) a9).length) dZ 24 1 di)::(rr (some ⟨iZ,0,none⟩) Xe XL 29 1 yQ)::(.box dT [Sv yj jC yh,Sv eN sv[iv.toNat]!.qC.qG.length fW,Sv nE sv[iv.toNat]!.qC.qF.length nM] 31)::(rr yj jC yh 4 1 ((List.replicate s.qA.length true).map<|Value.bool))::(rr nE sv[iv.toNat]!.qC.qF.length nM 2 1 (sv[iv.toNat]!.qC.qF.map<|Value.int .i64))::(rr eN sv[iv.toNat]!.qC.qG.length fW 24 1 i9)::(.box lF [.int .i64 sv[iv.toNat]!.qC.qK,Sv (some ⟨m4,0,none⟩) sv[iv.toNat]!.qC.qG.length QT,Sv yO sv[iv.toNat]!.qC.qF.length yM,Bv sv[iv.toNat]!.qC.qY,Sv Xo Xf Xm,Sv bA sv[iv.toNat]!.qC.qU.length bC,Sv dz sv[iv.toNat]!.qC.jH.length dy,Sv bT sv[iv.toNat]!.qC.zM.length bU] 47)::(rr (some ⟨m4,0,none⟩) sv[iv.toNat]!.qC.qG.length QT 24 1 fv)::(rr yO sv[iv.toNat]!.qC.qF.length yM 2 1 (sv[iv.toNat]!.qC.qF.map<|Value.int .i64))::(rr Xo Xf Xm 4 1 ((gotTo iv nN).map<|Value.bool))::(rr bA sv[iv.toNat]!.qC.qU.length bC 24 1 bK)::(rr dz sv[iv.toNat]!.qC.jH.length dy 29 1 dD)::(rr bT sv[iv.toNat]!.qC.zM.length bU 29 1 cV)::(.box sb [.int .i64 s.qQ,Sv ap s.qA.length cp,Sv ar s.qB.length cr] 27)::(rr (some ⟨b1,0,none⟩) sv.length bQ 49 16 bB)::(rr bS wi.length bo 77 4 bu)::ps) ((sF true SU Km Lf ((jX s vs (xq s vs) a9)[x]!))::(sF true T7 JQ KI ((av[(vY own x:Int).toNat]!)[x]!))::(atF P7 (NU+(x:Int).toNat*1) [Sv JQ (((av[(vY own x:Int).toNat]!)[x]!).length) KI])::(sF true ac3 (some ⟨P7,NU,none⟩) ad6<|av[(vY own x:Int).toNat]!)::(sF false Fo (some ⟨lZ,l7,none⟩) co own)::(qX true iy fv ((jU s own sv[iv.toNat]!.qC iv a9).set a9<|vX ((jU s own sv[iv.toNat]!.qC iv a9)[a9]!) (yV s (xq s vs) a9 s.qB.length) (-1)))::(qX true dr di<|jX s vs (xq s vs) a9)::(qX true yx yQ av)::(qX true dY i9 sv[iv.toNat]!.qC.qG)::(qX true a6 bK sv[iv.toNat]!.qC.qU)::(qX true ct dD sv[iv.toNat]!.qC.jH)::(qX true bJ cV sv[iv.toNat]!.qC.zM)::(sF false Fp ap cp s.qA)::(sF false Fr ar cr s.qB)::(qX true bq bB sv)::(qX true bg bu wi)::Γ)) 3 #[true,true,true,false,true,true,true,true,true,true,true,false,true,true,true,true,false] ?_ fun anl=>?_
          ·rintro ρ aMR ⟨xR,Km,Lf,P7,NU,SU,T7,JQ,KI,ac3,ad6,rfl,aaJ,N,H⟩
           refine jw [3,11] qh qm<|yl J ?_<|yl J ?_ jy
           ·obtain⟨amX,ahn,awL,aaP,H⟩:=H.yE 3 rfl 7 rfl (iv:=vY own x) ((vY own x:Int).toNat) qf qf
            refine zx (Sv amX ((av[(vY own x:Int).toNat]!).length) ahn) isAgg29 rfl ((H.zD 3 rfl aaP qf))<|⟨H.pick (zR 0 18)<|zR 5 12,(yG ach ⟨_,amX,ahn,Km,Lf,P7,NU,SU,T7,JQ,KI,ac3,ad6,awL,uE12,aaP,aaJ,N,H.xG 18 17 (zR 0 18) (1::2::3::4::0::zR 5 12) xE xE⟩)⟩
           ·refine zx (Sv JQ (((av[(vY own x:Int).toNat]!)[x]!).length) KI) isAgg24 rfl (H.zU 2 rfl 0 rfl)<|⟨H.pick (zR 0 18)<|zR 4 12,(yG anU ⟨_,Km,Lf,JQ,KI,SU,T7,uE12,aaJ,N,H.xG 18 16 (zR 0 18) (0::1::zR 4 12) xE xE⟩)⟩
          refine Q3 (fun ρ aqf=>∃(xR:Env) (PO:yOA) (PK:Nat) (NF:yOA) (OA:Nat) (T3:yLN) (O4:yLN),ρ=upd (upd (upd (upd (upd (upd (upd (upd (upd (upd (upd (upd (upd xR 0<|.pointer<|some ⟨bk,0,none⟩) 1<|.int .i64 iv) 5<|.pointer<|some ⟨lF,0,none⟩) 6<|.pointer<|some ⟨dT,0,none⟩) 7<|Sv (some ⟨iZ,0,none⟩) Xe XL) 9<|.int .i64 a9) 11<|Sv (some ⟨l6,0,none⟩) ((jX s vs (xq s vs) a9).length) dZ) 12<|.int .i64 x) 124<|Sv PO ((av[(vY own x:Int).toNat]!).length) PK) 125<|.int .i64 x) 128<|.pointer<|some ⟨iZ,0+(vY own x:Int).toNat*1,none⟩) 130<|.int .i64 x) 136 (Sv NF (((jX s vs (xq s vs) a9)[x]!).length) OA)/\(yQ[((vY own x:Int).toNat)*1+0]? =some (Sv PO ((av[(vY own x:Int).toNat]!).length) PK))/\(di[x*1+0]? =some (Sv NF (((jX s vs (xq s vs) a9)[x]!).length) OA))/\Fresh W0.heap.size (iy::dr::dY::a6::ct::bJ::bq::bg::yx::Ns)/\St W0 aqf ((.box bk [.pointer<|some ⟨sb,0,none⟩,Sv (some ⟨lZ,l7,none⟩) own.length co,Sv (some ⟨b1,0,none⟩) sv.length bQ,Sv bS wi.length bo] 86)::(rr mf ((yV s (xq s vs) a9 s.qB.length).length) nt 2 1 ((yV s (xq s vs) a9 s.qB.length).map<|Value.int .i64))::(rr (some ⟨l6,0,none⟩) ((jX s vs (xq s vs) a9).length) dZ 24 1 di)::(rr (some ⟨iZ,0,none⟩) Xe XL 29 1 yQ)::(.box dT [Sv yj jC yh,Sv eN sv[iv.toNat]!.qC.qG.length fW,Sv nE sv[iv.toNat]!.qC.qF.length nM] 31)::(rr yj jC yh 4 1 ((List.replicate s.qA.length true).map<|Value.bool))::(rr nE sv[iv.toNat]!.qC.qF.length nM 2 1 (sv[iv.toNat]!.qC.qF.map<|Value.int .i64))::(rr eN sv[iv.toNat]!.qC.qG.length fW 24 1 i9)::(.box lF [.int .i64 sv[iv.toNat]!.qC.qK,Sv (some ⟨m4,0,none⟩) sv[iv.toNat]!.qC.qG.length QT,Sv yO sv[iv.toNat]!.qC.qF.length yM,Bv sv[iv.toNat]!.qC.qY,Sv Xo Xf Xm,Sv bA sv[iv.toNat]!.qC.qU.length bC,Sv dz sv[iv.toNat]!.qC.jH.length dy,Sv bT sv[iv.toNat]!.qC.zM.length bU] 47)::(rr (some ⟨m4,0,none⟩) sv[iv.toNat]!.qC.qG.length QT 24 1 fv)::(rr yO sv[iv.toNat]!.qC.qF.length yM 2 1 (sv[iv.toNat]!.qC.qF.map<|Value.int .i64))::(rr Xo Xf Xm 4 1 ((gotTo iv nN).map<|Value.bool))::(rr bA sv[iv.toNat]!.qC.qU.length bC 24 1 bK)::(rr dz sv[iv.toNat]!.qC.jH.length dy 29 1 dD)::(rr bT sv[iv.toNat]!.qC.zM.length bU 29 1 cV)::(.box sb [.int .i64 s.qQ,Sv ap s.qA.length cp,Sv ar s.qB.length cr] 27)::(rr (some ⟨b1,0,none⟩) sv.length bQ 49 16 bB)::(rr bS wi.length bo 77 4 bu)::ps) ((sF true T3 NF OA ((jX s vs (xq s vs) a9)[x]!))::(sF true O4 PO PK<|av[(vY own x:Int).toNat]!)::(sF false Fo (some ⟨lZ,l7,none⟩) co own)::(qX true iy fv ((jU s own sv[iv.toNat]!.qC iv a9).set a9<|vX ((jU s own sv[iv.toNat]!.qC iv a9)[a9]!) (yV s (xq s vs) a9 s.qB.length) (-1)))::(qX true dr di<|jX s vs (xq s vs) a9)::(qX true yx yQ av)::(qX true dY i9 sv[iv.toNat]!.qC.qG)::(qX true a6 bK sv[iv.toNat]!.qC.qU)::(qX true ct dD sv[iv.toNat]!.qC.jH)::(qX true bJ cV sv[iv.toNat]!.qC.zM)::(sF false Fp ap cp s.qA)::(sF false Fr ar cr s.qB)::(qX true bq bB sv)::(qX true bg bu wi)::Γ)) 4 #[true,true,true,true,true,true,true,true,false,true,false,false,true,true,true,true,false] ?_ fun alM=>?_
          ·rintro ρ aCs ⟨xR,PO,PK,NF,OA,T3,O4,rfl,anH,N4,N,H⟩
           refine ro 8 J ?_
           obtain⟨awn,ahS,aDO,agL,H⟩:=H.yE 3 rfl 5 rfl (iv:=vY own x) ((vY own x:Int).toNat) qf qf
           refine zx (Sv awn ((av[(vY own x:Int).toNat]!).length) ahS) isAgg29 rfl ((H.zD 3 rfl agL qf))<|⟨H.pick (zR 0 18)<|zR 3 12,?_⟩
           obtain⟨aw0,aCx,rfl⟩:=H.addr 0 rfl qf
           obtain⟨apj,ahy,ahO,H⟩:=H.yg 0 rfl x x qf qf qf
           refine tI 10 J J J (H.pick (zR 0 18)<|zR 5 12) ?_
           exact yG ach ⟨_,PO,PK,NF,OA,aw0,aCx,T3,ahO,apj,ahy,aDO,ahS,O4,uE12,anH,N4,N,H.xG 18 17 (zR 0 18) (3::0::1::2::zR 4 13) xE xE⟩
          have S:=H.ve (zR 0 18)<|zR 0 12
          refine rtl 0 S ?_
          refine rtl 1 S ?_
          refine tI 2 J J J S ?_
          refine rtp 4 (.int .i64 x) S ?_
          refine rtl 5 S ?_
          refine rtl 6 S ?_
          refine tI 7 J J J S ?_
          refine rtp 9 (.int .i64 x) S ?_
          refine rtl 12 S ?_
          refine rtp 13 (.int .i64 x) S ?_
          refine tI 14 J J J S ?_
          refine jw [3,8,15] qh qm<|yl J ?_<|yl J ?_<|yl J ?_ jy
          ·obtain⟨Gq,GM,adg,Mg,H⟩:=H.yE 3 rfl 3 rfl (iv:=vY own x) ((vY own x:Int).toNat) qf qf
           refine zx (Sv Gq ((av[(vY own x:Int).toNat]!).length) GM) isAgg29 rfl ((H.zD 3 rfl Mg qf))<|⟨H.pick (zR 0 18)<|zR 1 12,(jw [8,15] qh qm<|yl rfl ?_<|yl rfl ?_ jy)⟩
           ·obtain⟨av3,akO,avU,ao8,H⟩:=H.yE 3 rfl 4 rfl (iv:=vY own x) ((vY own x:Int).toNat) qf qf
            refine zx (Sv av3 ((av[(vY own x:Int).toNat]!).length) akO) isAgg29 rfl ((H.zD 3 rfl ao8 qf))<|⟨H.pick (zR 0 18)<|zR 2 12,?_⟩
            obtain⟨Fu,aBj,rfl⟩:=H.addr 0 rfl qf
            obtain⟨anB,ah3,ahW,H⟩:=H.yg 0 rfl x x qf qf qf
            refine tI 10 J J J (H.pick (zR 0 18)<|zR 4 12) ?_
            exact yG ajj ⟨_,Gq,GM,Fu,aBj,ahW,anB,ah3,avU,akO,adg,uE12,Mg,N,H⟩
           ·obtain⟨asK,akP,aAx,I2,H⟩:=H.yE 2 rfl 3 rfl (iv:=x) x qf qf
            refine zx (Sv asK (((jX s vs (xq s vs) a9)[x]!).length) akP) isAgg24 rfl ((H.zD 2 rfl I2 qf))<|⟨H.pick (zR 0 18)<|zR 2 12,(yG alM ⟨_,Gq,GM,asK,akP,aAx,adg,uE13,Mg,I2,N,H⟩)⟩
          ·obtain⟨awi,abu,ajt,amM,H⟩:=H.yE 3 rfl 3 rfl (iv:=vY own x) ((vY own x:Int).toNat) qf qf
           refine zx (Sv awi ((av[(vY own x:Int).toNat]!).length) abu) isAgg29 rfl ((H.zD 3 rfl amM qf))<|⟨H.pick (zR 0 18)<|zR 1 12,?_⟩
           obtain⟨aj8,amI,rfl⟩:=H.addr 0 rfl qf
           obtain⟨DX,ED,IZ,H⟩:=H.yg 0 rfl x x qf qf qf
           refine tI 10 J J J (H.pick (zR 0 18)<|zR 3 12)<|jw [3,11,15] qh qm<|yl J ?_<|yl J ?_<|yl J ?_ jy
           ·obtain⟨amB,aja,anp,Wl,H⟩:=H.yE 3 rfl 6 rfl (iv:=vY own x) ((vY own x:Int).toNat) qf qf
            refine zx (Sv amB ((av[(vY own x:Int).toNat]!).length) aja) isAgg29 rfl ((H.zD 3 rfl Wl qf))<|⟨H.pick (zR 0 18)<|zR 4 12,(yG ajj ⟨_,amB,aja,aj8,amI,IZ,DX,ED,ajt,abu,anp,uE12,Wl,N,H.xG 18 16 (zR 0 18) (1::2::3::0::zR 4 12) xE xE⟩)⟩
           ·refine zx (Sv DX (((av[(vY own x:Int).toNat]!)[x]!).length) ED) isAgg24 J (H.zU 1 J 0 J) (⟨H.pick (zR 0 18)<|zR 3 12,(jw [3,15] qh qm<|yl J ?_<|yl J ?_ jy)⟩)
            ·obtain⟨akv,asO,aos,G7,H⟩:=H.yE 3 rfl 6 rfl (iv:=vY own x) ((vY own x:Int).toNat) qf qf
             refine zx (Sv akv ((av[(vY own x:Int).toNat]!).length) asO) isAgg29 rfl ((H.zD 3 rfl G7 qf))<|⟨H.pick (zR 0 18)<|zR 4 12,(yG ak2 ⟨_,akv,asO,DX,ED,IZ,aos,uE12,G7,N,H.xG 18 16 (zR 0 18) (1::0::zR 4 12) xE xE⟩)⟩
            ·obtain⟨ajM,aqp,awy,U5,H⟩:=H.yE 2 rfl 5 rfl (iv:=x) x qf qf
             refine zx (Sv ajM (((jX s vs (xq s vs) a9)[x]!).length) aqp) isAgg24 rfl ((H.zD 2 rfl U5 qf))<|⟨H.pick (zR 0 18)<|zR 4 12,(yG anU ⟨_,ajM,aqp,DX,ED,awy,IZ,uE12,U5,N,H.xG 18 16 (zR 0 18) (0::1::zR 4 12) xE xE⟩)⟩
           ·obtain⟨aog,amr,aAf,ZT,H⟩:=H.yE 2 rfl 5 rfl (iv:=x) x qf qf
            refine zx (Sv aog (((jX s vs (xq s vs) a9)[x]!).length) amr) isAgg24 rfl ((H.zD 2 rfl ZT qf))<|⟨H.pick (zR 0 18)<|zR 4 12,(yG anl ⟨_,aog,amr,aj8,amI,aAf,IZ,DX,ED,ajt,abu,uE12,ZT,N,H⟩)⟩
          ·obtain⟨adE,abR,aiX,M3,H⟩:=H.yE 2 rfl 2 rfl (iv:=x) x qf qf
           refine zx (Sv adE (((jX s vs (xq s vs) a9)[x]!).length) abR) isAgg24 rfl ((H.zD 2 rfl M3 qf))<|⟨H.pick (zR 0 18)<|zR 1 12,(jw [3,8] qh qm<|yl rfl ?_<|yl rfl ?_ jy)⟩
           ·obtain⟨an5,asR,ayE,aaB,H⟩:=H.yE 3 rfl 4 rfl (iv:=vY own x) ((vY own x:Int).toNat) qf qf
            refine zx (Sv an5 ((av[(vY own x:Int).toNat]!).length) asR) isAgg29 rfl ((H.zD 3 rfl aaB qf))<|⟨H.pick (zR 0 18)<|zR 2 12,(yG alM ⟨_,an5,asR,adE,abR,aiX,ayE,uE13,aaB,M3,N,H.xG 18 14 (zR 0 18) (1::0::zR 2 12) xE xE⟩)⟩
           ·obtain⟨ayR,amo,axm,arj,H⟩:=H.yE 3 rfl 4 rfl (iv:=vY own x) ((vY own x:Int).toNat) qf qf
            refine zx (Sv ayR ((av[(vY own x:Int).toNat]!).length) amo) isAgg29 rfl ((H.zD 3 rfl arj qf))<|⟨H.pick (zR 0 18)<|zR 2 12,?_⟩
            obtain⟨aAr,azt,rfl⟩:=H.addr 0 rfl qf
            obtain⟨aoG,aqg,amN,H⟩:=H.yg 0 rfl x x qf qf qf
            refine tI 10 J J J (H.pick (zR 0 18)<|zR 4 12) ?_
            exact yG anl ⟨_,adE,abR,aAr,azt,aiX,amN,aoG,aqg,axm,amo,uE12,M3,N,H.xG 18 16 (zR 0 18) (3::0::1::2::zR 4 12) xE xE⟩
         ·clear H N
          rintro ρ aMg ⟨xR,Tt,SR,Ud,SK,aeB,rfl,aiA,N,H⟩
          obtain⟨aj6,aK5,rfl⟩:=H.addr 0 rfl qf
          obtain⟨aGM,aFD,aIp,H⟩:=H.yg 0 rfl x x qf qf qf
          refine oI J J ?_
          obtain⟨ak3,N,aGx,H⟩:=H.vJ 0 rfl N<|H.awB [4,5,7,8,9,10,13,14,6] 15 K0
          dsimp only[List.set] at H
          have N0:Fresh W0.heap.size (yx::ak3::iy::dr::dY::a6::ct::bJ::bq::bg::Ns):=(N.xG 10 (9::zR 0 9) xE)
          obtain⟨aEZ,aoP⟩:∃z,z=(av.set ((vY own x:Int).toNat) ((av[(vY own x:Int).toNat]!).set x (vX ((av[(vY own x:Int).toNat]!)[x]!) ((jX s vs (xq s vs) a9)[x]!) 1))):=⟨_,rfl⟩
          refine sw<|o_pokePart QI.refl H 7 J 0 J N0 ((sF true ak3 Ud SK<|vX ((av[(vY own x:Int).toNat]!)[x]!) ((jX s vs (xq s vs) a9)[x]!) 1)::(sF false Fo (some ⟨lZ,l7,none⟩) co own)::(qX true iy fv ((jU s own sv[iv.toNat]!.qC iv a9).set a9<|vX ((jU s own sv[iv.toNat]!.qC iv a9)[a9]!) (yV s (xq s vs) a9 s.qB.length) (-1)))::(qX true dr di<|jX s vs (xq s vs) a9)::(qX true dY i9 sv[iv.toNat]!.qC.qG)::(qX true a6 bK sv[iv.toNat]!.qC.qU)::(qX true ct dD sv[iv.toNat]!.qC.jH)::(qX true bJ cV sv[iv.toNat]!.qC.zM)::(sF false Fp ap cp s.qA)::(sF false Fr ar cr s.qB)::(qX true bq bB sv)::(qX true bg bu wi)::Γ) (jf (kept 0 J<|Xn N0 0 J)<|jf (kept 4 J<|X6 OL 2 J N0)<|jf (kept 5 J<|Xn N0 1 J)<|jf (kept 6 J<|Xn N0 2 J)<|jf (kept 8 J<|Xn N0 3 J)<|jf (kept 9 J<|Xn N0 4 J)<|jf (kept 10 J<|Xn N0 5 J)<|jf (kept 11 J<|Xn N0 6 J)<|jf (kept 12 J<|X6 OL 0 J N0)<|jf (kept 13 J<|X6 OL 1 J N0)<|jf (kept 14 J<|Xn N0 7 J)<|jf (kept 15 J<|Xn N0 8 J)<|keeps_old 16 J OL 3 J N0) ((vY own x:Int).toNat) qf J aiA x qf J sizeOf24 J qf J aoP fun aKu aMx N H=>(xX<|b_n<|t_n<|zf<|sp (.int .i64 x)<|sw<|zY x 1 J J qf<|sq 1<|xX<|xu (m':=(((jX s vs (xq s vs) a9).length)-((x+1):Int)).toNat) qf ⟨_,x+1,_,_,_,uE8,?_,?_,J,(N.xG 9 [1,2,3,4,5,6,7,8,0] xE),H.xG 19 13 [2,3,4,5,6,7,8,9,10,11,12,13,14,15,1,16,17,18] [3,4,0,5,6,7,8,9,10,2,11,12] xE xE⟩)
          ·omega
          ·exact add_step i3 J ql
        ·have e3:x=s.qA.length+1:=by omega
         refine c_exit<|t_x<|t_x<|b_x<|b_n<|t_n<|zf<|sq 1<|sw<|zY a9 1 J J qf<|sq 1<|xX<|xu (m':=(own.length-((a9+1):Int)).toNat) qf ⟨_,a9+1,_,_,_,_,_,_,uE6,?_,?_,?_,J,(N.xG 9 [2,3,4,5,6,7,8,0] xE),H.xG 18 12 (zR 2 16) (2::3::0::zR 4 8) xE xE⟩
         ·(subst Fe;exact(sBags_yes ql).symm)
         ·omega
         ·exact now_end i3 e3 ‹_›
      ·have e2:a9=s.qA.length:=by omega
       obtain⟨n6,n7⟩:=now_ok p0 v3 qf (j:=iv.toNat) qf i2
       refine zx4<|zcc<|sp (.int .i64 0)<|zjn<|xg<|vk ((fun Z0 Z1 Z2 Z3 Z4 Z5 Z6 Z7 Z8 Z9 dU eC fe fR gB ij nc pN rN wk wd Bm Bl FF Lm TW Z26=>fun m' ρ aly=>∃(xR:Env) (tP:Nat),ρ=upd (upd (upd (upd (upd xR 0<|.pointer<|some ⟨bk,0,none⟩) 1<|.int .i64 iv) 5<|.pointer<|some ⟨lF,0,none⟩) 7<|Sv eR Xe XL) 14 (.int .i64 tP)/\((tP:Int)<=Xe)/\(AllB3 dB tP)/\m'=(Xe-(tP:Int)).toNat/\Fresh W0.heap.size (dY::a6::ct::bJ::bq::bg::eS::Qq::Ns)/\St W0 aly (Z0::Z1::Z2::Z3::Z4::Z5::Z6::Z7::Z8::Z9::dU::eC::fe::fR::gB::ij::ps) (nc::pN::rN::wk::wd::Bm::Bl::FF::Lm::TW::Z26::Γ)) _ _ _ _ _ _ _ _ _ _ _ _ _ _ _ _ _ _ _ _ _ _ _ _ _ _ _) ((Xe-(0:Int)).toNat) ⟨_,0,uE5,qf,qx,J,N,H⟩ ?_
       clear H N
       rintro m' ρ awd ⟨xR,tP,rfl,i0,i5,rfl,N,H⟩
       refine zcc<|sq 2<|oN J<|sq 1<|zjn<|cD J (fun azB=>?_)<|fun azB=>?_
       ·refine xe (t_n<|xO<|xg<|zcr<|sq 2 ?_)
        obtain⟨aJj,rfl⟩:=H.jm 0 rfl qf
        refine oI J J ?_
        obtain⟨aLo,aIT,aM8,ahz,H⟩:=H.yE 0 rfl 0 rfl (iv:=tP) tP qf qf
        refine oL J ((H.zD 0 J ahz qf))<|sw<|oq (l08Bags_ok _ dB[tP]! (H.get 0 J).1) H fun aLv H=>sq 1<|zjn<|cQ J (fun aBN=>?_)<|fun aBN=>?_
        ·refine zcr (sp (.int .i64 3)<|zjr<|zr5<|ret1 (.int .i64 3) J J ⟨_,J,?_⟩)
         subst Fe
         rw[workR_no p2.1 ql ql e2 i2 (j:=tP) qf ql]
         exact⟨bB,bq,bS,wi.length,bo,bu,bg,J,(N.xG 8 [4,5] xE),H.xG 16 12 (zR 12 4) (zR 7 5) xE xE⟩
        ·refine xe (b_n<|t_n<|zf<|sq 1<|sw<|zY tP 1 J J qf<|sq 1<|xX<|xu (m':=(Xe-((tP+1):Int)).toNat) qf ⟨_,tP+1,uE5,?_,?_,J,N,H.xG 16 12 (zR 0 16) (zR 1 11) xE xE⟩)
         ·omega
         ·exact i5.succ ql
       ·refine zx4 (zcr<|sq 1<|oF J<|sw<|zn H 5 [.int .i64 sv[iv.toNat]!.qC.qK,Sv fg sv[iv.toNat]!.qC.qG.length QT,Sv yO sv[iv.toNat]!.qC.qF.length yM,Bv sv[iv.toNat]!.qC.qY,Sv Xo Xf Xm,Sv bA sv[iv.toNat]!.qC.qU.length bC,Sv eR Xe XL,Sv bT sv[iv.toNat]!.qC.zM.length bU] sizeOf45 fun azb H=>?_)
        dsimp only[List.set] at H
        refine zjc<|sq 1<|sp (.int .i64 iv) ?_
        obtain⟨Ed,rfl⟩:=H.jm 0 rfl qf
        refine oI J J ?_
        obtain⟨aLq,aQE,aPD,Rb,H⟩:=H.yE 0 rfl 0 rfl (iv:=iv) iv.toNat qf qf
        refine oL J ((H.zD 0 J Rb qf))<|sw<|oc (QN _ dB[iv.toNat]! (H.get 0 J).1 qg) ?_
        rintro _ aIW ⟨H7,aGL,Ho,aIw,aGP,rfl,M,K⟩ _
        obtain⟨N,H⟩:=H.both K M N [2,4,5,6,10,11,1,3] 12 K0
        obtain rfl:=H.xf (α:=yLI) 0 rfl 0 rfl qj
        refine oF J<|sw<|zn H 6 [.int .i64 sv[iv.toNat]!.qC.qK,Sv fg sv[iv.toNat]!.qC.qG.length QT,Sv yO sv[iv.toNat]!.qC.qF.length yM,Bv sv[iv.toNat]!.qC.qY,Sv Xo Xf Xm,Sv H7 dB[iv.toNat]!.length Ho,Sv (some ⟨Ed,0,none⟩) Xe XL,Sv bT sv[iv.toNat]!.qC.zM.length bU] sizeOf29 fun aOO H=>?_
        dsimp only[List.set] at H
        refine zjc<|oF J<|sw<|zn H 6 [.int .i64 sv[iv.toNat]!.qC.qK,Sv fg sv[iv.toNat]!.qC.qG.length QT,Sv yO sv[iv.toNat]!.qC.qF.length yM,Bv true,Sv Xo Xf Xm,Sv H7 dB[iv.toNat]!.length Ho,Sv (some ⟨Ed,0,none⟩) Xe XL,Sv bT sv[iv.toNat]!.qC.zM.length bU] sizeOf4 fun aCA H=>?_
        dsimp only[List.set] at H
        refine zjn<|xO<|vW 3 J H [0,1,2,3,4,5,6,7,8,9,10,11,12,13,14,15,16] [0,1,2,3,4,5,6,7,8,9,10,11,12] fun H=>?_
        dsimp only[yu,yU]
        have S:=H.ve (zR 0 17)<|zR 0 13
        refine rtl 0 S ?_
        refine rtl 1 S ?_
        refine tF 2 J J S ?_
        refine tF 3 J J S ?_
        refine tL 4 J J (fun _ h=>h.cell 13 J J) S ?_
        refine rtp 5 (.int .i64 iv) S ?_
        refine rt 6 _ (yP (cs:=[.int .i64 sv[iv.toNat]!.qC.qK,Sv fg sv[iv.toNat]!.qC.qG.length QT,Sv yO sv[iv.toNat]!.qC.qF.length yM,Bv true,Sv Xo Xf Xm,Sv H7 dB[iv.toNat]!.length Ho,Sv (some ⟨Ed,0,none⟩) Xe XL,Sv bT sv[iv.toNat]!.qC.zM.length bU]) isAgg47 sizeOf47 J<|fun _ h=>qH (h.cells 6 J) 0 8) S ?_
        refine xx qh<|zg<|oI J J<|oF J ?_
        have H0:=H
        obtain⟨aQR,aoN,aFY,H⟩:=H.ji (α:=yLI) 7 rfl 4 rfl qj
        replace N:=H0.iceB N 9 [8,0,1,2,3,4,5,6,7] 7 aoN [0,3,5,6,7,11,12,2] 13 K0
        clear H0
        dsimp only[List.set] at H
        obtain⟨aM2,N,aHx,H⟩:=H.vJ 8 rfl N<|H.awB [0,1,4,6,7,8,12,13,3] 14 K0
        dsimp only[List.set] at H
        obtain⟨aJo,N,aH9,H⟩:=H.freezeB 9 rfl N<|H.awB [0,1,2,5,7,8,9,13,14,4] 15 K0
        dsimp only[List.set] at H
        have H0:=H
        obtain⟨axr,YG,ahY,H⟩:=H.ji (α:=yLI) 0 rfl 3 rfl qj
        replace N:=H0.iceB N 11 [3,0,1,2,4,5,6,7,8,9,10] 0 YG [0,1,2,6,8,9,10,14,15,5] 16 K0
        clear H0
        dsimp only[List.set] at H
        have H0:=H
        obtain⟨aJG,aoB,aFw,H⟩:=H.ji (α:=yLL) 1 rfl 6 rfl qj
        replace N:=H0.iceB N 11 [10,0,1,2,3,4,5,6,7,8,9] 1 aoB [0,1,2,3,7,9,10,11,15,16] 17 K0
        clear H0
        dsimp only[List.set] at H
        have H0:=H
        obtain⟨aKs,ajY,aGv,H⟩:=H.ji (α:=yLL) 12 rfl 12 rfl qj
        replace N:=H0.iceB N 11 [8,0,1,2,3,4,5,6,7,9,10] 12 ajY [0,1,2,3,4,8,10,11,16,17] 18 K0
        clear H0
        dsimp only[List.set] at H
        replace H:=H.mk_DeskD sv[iv.toNat]!.qC.qK 5 J 4 J true 3 J 2 J 1 J 0 J
        replace N:=(N.Xr 11 [5,4,3,2,1,0,6,7,8,9,10]).join.join.join.join.join
        obtain⟨aEy,ZR⟩:∃z,z=(sv.set iv.toNat { sv[iv.toNat]! with qC:=(⟨sv[iv.toNat]!.qC.qK,(jU s own sv[iv.toNat]!.qC iv a9),sv[iv.toNat]!.qC.qF,true,(gotTo iv nN),dB[iv.toNat]!,dB,sv[iv.toNat]!.qC.zM⟩:zG)}):=⟨_,rfl⟩
        refine sw<|Ve (v:=.agg #[.int .i64 sv[iv.toNat]!.qC.qK,Sv fg sv[iv.toNat]!.qC.qG.length QT,Sv yO sv[iv.toNat]!.qC.qF.length yM,Bv true,Sv Xo Xf Xm,Sv H7 dB[iv.toNat]!.length Ho,Sv (some ⟨Ed,0,none⟩) Xe XL,Sv bT sv[iv.toNat]!.qC.zM.length bU]) zV H 15 J 18 J 0 J J sizeOf47 J J J iv.toNat qf qf ZR fun ayq agN azJ akq H=>?_
        dsimp only[List.set] at H
        replace N:=(N.Xr 6 [4,0,1,2,3,5]).repl akq
        refine zjc<|sp (.int .i64 0)<|zjr<|ret1 (.int .i64 0) J J ⟨_,J,?_⟩
        subst Fe
        rw[swork_0 p2.1 J ql ql e2 i2 (fun j hj=>i5 j qf) (sb_end p0 p2.1 y1.1 e2) (gotTo_all p2.1 qf) ZR]
        exact⟨agN,azJ,bS,wi.length,bo,bu,bg,J,(N.xG 5 [0,4] xE),H.xG 17 21 (zR 13 4) [16,17,18,0,20] xE xE⟩
end
end Go.Proofs.YtghikkinnchndaaGreat
