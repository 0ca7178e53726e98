/- Walks and laws, printed by program and by hand: what each function comes to, for all arguments, part 4. -/
import Derived.Test.YtghikkinnchndaaGreatA3
namespace Go.Proofs.YtghikkinnchndaaGreat
open Go.Proofs.Tryz
set_option linter.unusedVariables false
set_option linter.unusedSimpArgs false
set_option maxRecDepth 100000
set_option maxHeartbeats 4000000
open Go.RowKit
open Go.Proofs.Tryz
open Go.Proofs.YtghikkinnchndaaGreat.Tot (tot)
open Go.Proofs.YtghikkinnchndaaGreat.Mark (dN mrk mkd mkd_mark cnt_mark)
variable{F Fa Fb CL MA B5 Wf Lr Un Fl Cx G Qe jY je xY zX:yLN}{L L' sv:List zu}{Ns:List yLN}{W0 w:World}{a ab ln vR gK u9 kA pR al ju qU vC xC zK zg:yOA}{alive:List Bool}{b fx c c' c2 i id j m n n2 nn off sz:Nat}{ag:List UInt8}{d:zA}{e t:TypeId}{fr:Bool}{iv k:Int}{l:List xn}{ae:Array Bool}{pY:yLI}{p:zk}{ps:List Prv}{s y y1 y2:Operand}{u:xn}{v z:Value}{vs xs ys:List Value}{x:zu}{Γ:List Fact}
section
theorem dSystem_ok(ag:List UInt8)(ip:Int)(sd:Int)(bs:Nat)(ac:yOA)(cc:Nat)(Fc:yLN)(H:St W0 w ((.box bs [Sv ac ag.length cc,yI ip,.int .u64 sd] 116)::ps) ((sF false Fc ac cc ag)::Γ))(N:Fresh W0.heap.size (Ns))(K0:Kept Ns Γ)(q0:0<=ip/\ip<=50000):Calls Tryz.prog 57 #[pp bs 0] w (fun e w'=>∃v,e=.returned v/\∃(lQ:Int) (Ar:Int) (PE:Int) (sQ:yLI) (gV:List yu) (Yr:yOA) (T6:Nat) (Uz:Nat) (eB:yOA) (ee:Nat) (cz:Nat) (bV:List Value) (aC:yLN),(ip<=lQ/\lQ<=ip+2000)/\(SysDr PE sQ gV)/\v=.agg #[yI PE,Sv Yr T6 Uz,Sv eB ee cz]/\Fresh W0.heap.size (aC::Ns)/\St W0 w' ((.box bs [Sv ac ag.length cc,yI lQ,.int .u64 Ar] 116)::(rr Yr T6 Uz 2 1<|sQ.map<|Value.int .i64)::(rr eB ee cz 110 9 bV)::ps) ((sF false Fc ac cc ag)::(qQ true aC bV gV)::Γ)):=by
 refine en func57 ntmps57 ?_
 refine zcr<|sw<|zn H ti27 [yI 0,yN,yN] fun b1 w2 H=>zjc<|sq 1 ?_
 have H1:=H.yt 2 1 [1,0] [0] (by simp only[List.length_cons,List.length_append];omega)<|by simp only[List.length_cons,List.length_append];omega
 have N1:Fresh _ (Ns):=N
 have K1:Kept (Ns) (Γ):=K0.behind 0 rfl
 refine sw<|zD #[pp bs 0,yI 3] rfl rfl call59 (yR ag ip sd bs ac cc Fc (3:Int) H1 N1 K1 qg) ?_
 clear H H1 N1 K1
 rintro _ w3 ⟨JU,FZ,fh,hx5,hx6,rfl,N,H⟩
 refine sw<|zS 1 fh rfl rfl qf<|sw<|zy H underlying24 ti2 [yI (-1)] fun wS BF H=>sw<|jE [yI<|1+fh,Sv (aa wS 0) 1 1,yN] [(0,yI<|1+fh),(1,Sv (aa wS 0) 1 1)]<|sw<|zn H ti27 [yI 0,yN,yN] fun rK Dv H=>sw<|zF H 0 [yI<|1+fh,Sv (aa wS 0) 1 1,yN] sizeOf27 fun Um H=>?_
 dsimp only[List.set] at H
 refine zjcc<|sq 1 ?_
 have H1:=H.yt 4 1 [2,0,1,3] [0] (by simp only[List.length_cons,List.length_append];omega)<|by simp only[List.length_cons,List.length_append];omega
 have N1:Fresh _ (Ns):=N
 have K1:Kept (Ns) (Γ):=K0.behind 0 rfl
 refine sw<|zD #[pp bs 0,yI 3] rfl rfl call59 (yR ag JU FZ bs ac cc Fc (3:Int) H1 N1 K1 qg) ?_
 clear H H1 N1 K1
 rintro _ H7 ⟨DN,RL,EL,aIq,IT,rfl,N,H⟩
 refine sq 1<|zjn<|xe ?_
 replace H:=H.boxRowI 2 [(-1)] 1
 dsimp only[List.set] at H
 refine zT ((fun Z0 Z1=>fun m' ρ Ke=>∃(xP:Env) (c:Int) (eF:Int) (dB:Int) (yl:yOA) (vw:Nat) (yj:Nat) (dJ:yLI),ρ=upd (upd (upd (upd xP 0<|pp bs 0) 2<|pp b1 0) 3<|pp rK 0) 4 (yI c)/\(ip<=eF/\eF+2*c<=ip+8)/\(0<=c/\(dJ.length:Int)+c<=3)/\(ParDr dJ)/\m'=c.toNat/\Fresh W0.heap.size (Ns)/\St W0 Ke ((.box bs [Sv ac ag.length cc,yI eF,.int .u64 dB] 116)::(.box rK [yI<|1+fh,Sv yl vw yj,yN] 27)::(rr yl vw yj 2 1<|dJ.map<|Value.int .i64)::Z0::ps) (Z1::Γ)) _ _) (EL.toNat) ⟨_,EL,DN,RL,(aa wS 0),1,1,[(-1)],uE4,qf,qy,(by exact ParDr.one),rfl,N,H⟩ ?_
 clear H N
 rintro m' ρ Kf ⟨xP,c,eF,dB,yl,vw,yj,dJ,rfl,i1,i2,i3,rfl,N,H⟩
 have Ra:=H.Qc 2 rfl
 have i4:=i3.1
 refine zcc<|sp (yI c)<|sp (Bv<|decide ((c:Int)>0))<|zjn<|cD rfl (fun BH=>?_)<|fun BH=>?_
 ·refine qW (t_n<|xM<|xe<|c_cut (fun ρ ZP=>∃(xP:Env) (RR:Int) (OF:Int) (ajd:Int) (a28:yOA) (c29:Nat),ρ=upd (upd (upd (upd xP 0<|pp bs 0) 2<|pp b1 0) 3<|pp rK 0) 4 (yI c)/\(eF<=RR/\RR<=eF+2)/\(0<=OF/\(OF<vw\/OF=0))/\Fresh W0.heap.size (Ns)/\St W0 ZP ((.box bs [Sv ac ag.length cc,yI RR,.int .u64 ajd] 116)::(.box rK [yI<|1+fh,Sv a28 (vw+1) c29,yN] 27)::(rr a28 (vw+1) c29 2 1 ((dJ++[OF]).map<|Value.int .i64))::(.box b1 [yI 0,yN,yN] 27)::ps) ((sF false Fc ac cc ag)::Γ)) ?_ ?_)
  ·refine c_drawK2 rfl H [3] [0] fun H=>?_
   have S:=H.zW [3] [0]
   refine tF 0 rfl rfl S ?_
   refine rtl 2 S ?_
   refine tF 3 rfl rfl S ?_
   refine jC [1,4] qh qm<|yV rfl ?_<|yV rfl ?_ jD
   ·refine zJ (Sv yl vw yj) isAgg24 rfl (H.cell 1 rfl rfl) (⟨H.pick [3] [0],(ro 4 rfl<|zJ (Sv yl vw yj) isAgg24 rfl (H.cell 1 rfl rfl)<|⟨H.pick [3] [0],(tN 5 rfl rfl (H.pick [3] [0]) ?_)⟩)⟩)
    refine ro 6 rfl ?_
    have H1:=H.yt 4 1 [0,1,2,3] [0] (by simp only[List.length_cons,List.length_append];omega)<|by simp only[List.length_cons,List.length_append];omega
    have N1:Fresh _ (Ns):=N
    have K1:Kept (Ns) (Γ):=K0.behind 0 rfl
    refine zD #[pp bs 0,yI vw] rfl rfl call59 (yR ag eF dB bs ac cc Fc vw H1 N1 K1 qg) ?_
    clear H H1 N1 K1
    rintro _ Pn ⟨avU,xt,q7,ays,avA,rfl,N,H⟩
    refine⟨H.pick [3] [0],(ro 7 rfl<|zy H underlying24 ti2 [yI q7] fun TB w40 H=>⟨H.pick [4] [0],(ro 8 rfl<|zH H 3 rfl 0 rfl underlying24 ti2 rfl qj rfl rfl rfl qw qp qf fun a41 c42 UM H=>?_)⟩)⟩
    rw[snocI] at H
    dsimp only[List.set] at H
    refine⟨H.pick [4] [0],(tF 9 rfl rfl (H.pick [4] [0]) ?_)⟩
    refine ro 10 rfl<|zh H 2 [yI<|1+fh,Sv a41 (vw+1) c42,yN] sizeOf24 fun Pr H=>?_
    dsimp only[List.set] at H
    refine⟨H.pick [4] [0],(xy qh ((meet ⟨_,avU,q7,xt,a41,c42,uE4,ays,avA,N,H.xm 5 1 (zR 1 4) [0] (by simp only[List.length_cons,List.length_append];omega)<|by simp only[List.length_cons,List.length_append];omega⟩)))⟩
   refine zJ (Sv yl vw yj) isAgg24 rfl (H.cell 1 rfl rfl)<|⟨H.pick [3] [0],(tN 5 rfl rfl (H.pick [3] [0]) ?_)⟩
   refine jC [1,6] qh qm<|yV rfl ?_<|yV rfl ?_ jD
   ·refine zJ (Sv yl vw yj) isAgg24 rfl (H.cell 1 rfl rfl) (⟨H.pick [3] [0],(ro 6 rfl ?_)⟩)
    have H1:=H.yt 4 1 [0,1,2,3] [0] (by simp only[List.length_cons,List.length_append];omega)<|by simp only[List.length_cons,List.length_append];omega
    have N1:Fresh _ (Ns):=N
    have K1:Kept (Ns) (Γ):=K0.behind 0 rfl
    refine zD #[pp bs 0,yI vw] rfl rfl call59 (yR ag eF dB bs ac cc Fc vw H1 N1 K1 qg) ?_
    clear H H1 N1 K1
    rintro _ w45 ⟨YX,abP,EU,MW,AE,rfl,N,H⟩
    refine⟨H.pick [3] [0],(ro 7 rfl<|zy H underlying24 ti2 [yI EU] fun b52 w53 H=>⟨H.pick [4] [0],(ro 8 rfl<|zH H 3 rfl 0 rfl underlying24 ti2 rfl qj rfl rfl rfl qw qp qf fun a54 c55 w56 H=>?_)⟩)⟩
    rw[snocI] at H
    dsimp only[List.set] at H
    refine⟨H.pick [4] [0],(tF 9 rfl rfl (H.pick [4] [0]) ?_)⟩
    refine ro 10 rfl<|zh H 2 [yI<|1+fh,Sv a54 (vw+1) c55,yN] sizeOf24 fun w57 H=>?_
    dsimp only[List.set] at H
    refine⟨H.pick [4] [0],(xy qh ((meet ⟨_,YX,EU,abP,a54,c55,uE4,MW,AE,N,H.xm 5 1 (zR 1 4) [0] (by simp only[List.length_cons,List.length_append];omega)<|by simp only[List.length_cons,List.length_append];omega⟩)))⟩
   have H1:=H.yt 4 1 [0,1,2,3] [0] (by simp only[List.length_cons,List.length_append];omega)<|by simp only[List.length_cons,List.length_append];omega
   have N1:Fresh _ (Ns):=N
   have K1:Kept (Ns) (Γ):=K0.behind 0 rfl
   refine zD #[pp bs 0,yI vw] rfl rfl call59 (yR ag eF dB bs ac cc Fc vw H1 N1 K1 qg) ?_
   clear H H1 N1 K1
   rintro _ w58 ⟨pT,agp,SA,amg,ZZ,rfl,N,H⟩
   refine⟨H.pick [3] [0],(jC [1,7] qh qm<|yV rfl ?_<|yV rfl ?_ jD)⟩
   ·refine zJ (Sv yl vw yj) isAgg24 rfl (H.cell 1 rfl rfl) (⟨H.pick [3] [0],(ro 7 rfl<|zy H underlying24 ti2 [yI SA] fun KN w66 H=>⟨H.pick [4] [0],(ro 8 rfl<|zH H 3 rfl 0 rfl underlying24 ti2 rfl qj rfl rfl rfl qw qp qf fun VQ YH w69 H=>?_)⟩)⟩)
    rw[snocI] at H
    dsimp only[List.set] at H
    refine⟨H.pick [4] [0],(tF 9 rfl rfl (H.pick [4] [0]) ?_)⟩
    refine ro 10 rfl<|zh H 2 [yI<|1+fh,Sv VQ (vw+1) YH,yN] sizeOf24 fun w70 H=>?_
    dsimp only[List.set] at H
    refine⟨H.pick [4] [0],(xy qh ((meet ⟨_,pT,SA,agp,VQ,YH,uE4,amg,ZZ,N,H.xm 5 1 (zR 1 4) [0] (by simp only[List.length_cons,List.length_append];omega)<|by simp only[List.length_cons,List.length_append];omega⟩)))⟩
   refine zy H underlying24 ti2 [yI SA] fun b71 Kc H=>⟨H.pick [4] [0],(ro 1 rfl<|zJ (Sv yl vw yj) isAgg24 rfl (H.cell 2 rfl rfl)<|⟨H.pick [4] [0],(ro 8 rfl<|zH H 3 rfl 0 rfl underlying24 ti2 rfl qj rfl rfl rfl qw qp qf fun a73 c74 w75 H=>?_)⟩)⟩
   rw[snocI] at H
   dsimp only[List.set] at H
   refine⟨H.pick [4] [0],(tF 9 rfl rfl (H.pick [4] [0]) ?_)⟩
   refine ro 10 rfl<|zh H 2 [yI<|1+fh,Sv a73 (vw+1) c74,yN] sizeOf24 fun w76 H=>?_
   dsimp only[List.set] at H
   refine⟨H.pick [4] [0],(xy qh ((meet ⟨_,pT,SA,agp,a73,c74,uE4,amg,ZZ,N,H.xm 5 1 (zR 1 4) [0] (by simp only[List.length_cons,List.length_append];omega)<|by simp only[List.length_cons,List.length_append];omega⟩)))⟩
  clear H N
  rintro ρ w77 ⟨xP,RR,OF,ajd,a28,c29,rfl,aGr,aCI,N,H⟩
  refine b_n<|t_n<|xX<|sp (yI c)<|sw<|o_sub c 1 rfl rfl qf<|sq 1<|xU<|xu (m':=(c-1).toNat) qf ⟨_,_,_,_,_,_,_,_,uE4,?_,?_,?_,rfl,N,H⟩
  ·omega
  ·simp;omega
  ·exact i3.snoc (by have:=i3.1;omega)
 refine zx4<|zcc<|sq 1 ?_
 have H1:=H.yt 4 1 [0,1,2,3] [0] (by simp only[List.length_cons,List.length_append];omega)<|by simp only[List.length_cons,List.length_append];omega
 have N1:Fresh _ (Ns):=N
 have K1:Kept (Ns) (Γ):=K0.behind 0 rfl
 refine sw<|zD #[pp bs 0,yI 6] rfl rfl call59 (yR ag eF dB bs ac cc Fc (6:Int) H1 N1 K1 qg) ?_
 clear H H1 N1 K1
 rintro _ Te ⟨avC,ayI,alz,aEd,aIl,rfl,N,H⟩
 refine sq 1<|zjn<|xe ?_
 replace H:=H.nilRow 110 9
 replace H:=H.yD (α:=yu)
 refine zT ((fun Z0 Z1 Z2=>fun m' ρ w87=>∃(xP:Env) (k:Int) (df:Int) (di:Int) (X6:yOA) (QR:Nat) (X0:Nat) (ak:List yu) (yw:List Value) (zx:yLN),ρ=upd (upd (upd (upd xP 0<|pp bs 0) 2<|pp b1 0) 3<|pp rK 0) 5 (yI k)/\(ip<=df/\df+300*k<=ip+1600)/\(0<=k/\(ak.length:Int)+k<=5)/\(Qn (1+fh) dJ ak)/\m'=k.toNat/\Fresh W0.heap.size (zx::Ns)/\St W0 w87 ((rr X6 QR X0 110 9 yw)::(.box bs [Sv ac ag.length cc,yI df,.int .u64 di] 116)::(.box rK [yI<|1+fh,Sv yl vw yj,Sv X6 QR X0] 27)::Z0::Z1::ps) ((qQ true zx yw ak)::Z2::Γ)) _ _ _) (alz.toNat) ⟨_,alz,avC,ayI,none,0,0,([]:List yu),[],[],uE4,qf,qy,(by exact Qn.nil _ _),rfl,N.emp,H⟩ ?_
 clear H N
 rintro m' ρ w88 ⟨xP,k,df,di,X6,QR,X0,ak,yw,zx,rfl,j1,j2,j3,rfl,N,H⟩
 have Ff:=H.xk (α:=yu) 0 rfl 0 rfl qj
 refine zcc<|sp (yI k)<|sp (Bv<|decide ((k:Int)>0))<|zjn<|cD rfl (fun h89=>?_)<|fun h89=>?_
 ·refine qW (t_n<|xM<|xe<|c_cut (fun ρ anI=>∃(xP:Env) (Nc:Int) (Fj:Int) (E4:Int) (Jq:yLI) (I4:yLI) (Jz:yLI) (JN:yLI) (Jd:yLI) (IH:List IntoD) (LU:Bool) (Tx:Int) (Zg:yOA) (acf:Nat) (Ho:yOA) (Gz:Nat) (yv:yOA) (BM:Nat) (HY:yOA) (GE:Nat) (yq:yOA) (FM:Nat) (HL:yOA) (GN:Nat) (Gt:yOA) (Hb:Nat) (Mt:yLN) (KD:yLN) (RY:yLN) (P8:yLN) (xr:yLN) (Rh:yLN),ρ=upd (upd (upd (upd xP 0<|pp bs 0) 2<|pp b1 0) 3<|pp rK 0) 5 (yI k)/\(df<=Nc/\Nc<=df+300)/\(RuleDr (1+fh) dJ ⟨Fj,E4,Jq,I4,Jz,JN,Jd,IH,LU⟩)/\Fresh W0.heap.size ((zx++(Mt++KD++RY++P8++xr++Rh))::Ns)/\St W0 anI ((.box bs [Sv ac ag.length cc,yI Nc,.int .u64 Tx] 116)::(.box rK [yI<|1+fh,Sv yl vw yj,Sv Zg (QR+1) acf] 27)::(rr yl vw yj 2 1<|dJ.map<|Value.int .i64)::(rr Zg (QR+1) acf 110 9<|yw++[yI Fj,yI E4,Sv Ho Jq.length Gz,Sv yv I4.length BM,Sv HY Jz.length GE,Sv yq JN.length FM,Sv HL Jd.length GN,Sv Gt IH.length Hb,Bv LU])::(.box b1 [yI 0,yN,yN] 27)::ps) ((qQ true (zx++(Mt++KD++RY++P8++xr++Rh)) (yw++[yI Fj,yI E4,Sv Ho Jq.length Gz,Sv yv I4.length BM,Sv HY Jz.length GE,Sv yq JN.length FM,Sv HL Jd.length GN,Sv Gt IH.length Hb,Bv LU])<|ak++[(⟨Fj,E4,Jq,I4,Jz,JN,Jd,IH,LU⟩:yu)])::(sF true Rh Gt Hb IH)::(sF true xr HL GN Jd)::(sF true P8 yq FM JN)::(sF true RY HY GE Jz)::(sF true KD yv BM I4)::(sF true Mt Ho Gz Jq)::(sF false Fc ac cc ag)::Γ)) ?_ ?_)
  ·refine c_drawK2 rfl H [3,4] [0,1] fun H=>?_
   have S:=H.zW [3,4] [0,1]
   refine tF 0 rfl rfl S ?_
   refine rtl 2 S ?_
   refine jC [1,3] qh qm<|yV rfl ?_<|yV rfl ?_ jD
   ·refine zJ (Sv X6 QR X0) isAgg25 rfl (H.cell 2 rfl rfl) (⟨H.pick [3,4] [0,1],(ro 3 rfl ?_)⟩)
    have f0:jZ (⟨1+fh,dJ,ak⟩:qO):=frame_of i3 qf qf
    have H1:=H.yt 5 2 [1,2,3,0,4] [1,0] (by simp only[List.length_cons,List.length_append];omega)<|by simp only[List.length_cons,List.length_append];omega
    have N1:Fresh _ (zx::Ns):=N
    have K1:Kept (Ns) (Γ):=K0.behind 0 rfl
    refine zD #[pp bs 0,pp rK 0] rfl rfl call99 (dRule_ok ag df di bs ac cc Fc (1+fh) dJ ak rK yl vw yj X6 QR X0 yw zx H1 N1 K1 qg qg) ?_
    clear H H1 N1 K1
    rintro _ MB ⟨Ow,ahG,Nj,Nf,V1,Tr,Tl,t6,Ym,V9,O0,TX,UF,TT,Th,aBt,YF,Ug,apS,Wo,vc,alx,vv,Wi,aBz,UB,Wr,azI,Ya,azH,ov,NP,ael,rfl,N,H⟩
    obtain rfl:=H.Qc 4 rfl
    obtain rfl:=H.Qc 5 rfl
    obtain rfl:=H.Qc 6 rfl
    obtain rfl:=H.Qc 7 rfl
    obtain rfl:=H.Qc 8 rfl
    obtain rfl:=H.xk (α:=IntoD) 9 rfl 2 rfl qj
    refine⟨H.pick [2,10] [1,0],(ro 4 rfl<|zy H underlying25 ti110 [yI Nj,yI Nf,Sv TX V1.length TT,Sv Th Tr.length YF,Sv Ug Tl.length Wo,Sv vc t6.length vv,Sv Wi Ym.length UB,Sv Wr V9.length Ya,Bv O0] fun ayp aas H=>⟨H.pick [3,11] [1,0],(ro 5 rfl ?_)⟩)⟩
    obtain⟨nu,N,agq,H⟩:=H.vJ 5 rfl N<|fun F hF b hb=>(List.mem_append.1<|show F∈[zx,ov]++Ns from hF).elim (fun h=>(H.vV (L:=[zx,ov]) [1,2]) F h b hb) fun h=>H.jT (K0.behind 3 rfl) F h b hb
    dsimp only[List.set] at H
    obtain⟨sM,N,amX,H⟩:=H.vJ 6 rfl N<|fun F hF b hb=>(List.mem_append.1<|show F∈[nu,zx,ov]++Ns from hF).elim (fun h=>(H.vV (L:=[nu,zx,ov]) [0,2,3]) F h b hb) fun h=>H.jT (K0.behind 4 rfl) F h b hb
    dsimp only[List.set] at H
    obtain⟨AM,N,aBo,H⟩:=H.vJ 7 rfl N<|fun F hF b hb=>(List.mem_append.1<|show F∈[sM,nu,zx,ov]++Ns from hF).elim (fun h=>(H.vV (L:=[sM,nu,zx,ov]) [0,1,3,4]) F h b hb) fun h=>H.jT (K0.behind 5 rfl) F h b hb
    dsimp only[List.set] at H
    obtain⟨D6,N,ayV,H⟩:=H.vJ 8 rfl N<|fun F hF b hb=>(List.mem_append.1<|show F∈[AM,sM,nu,zx,ov]++Ns from hF).elim (fun h=>(H.vV (L:=[AM,sM,nu,zx,ov]) [0,1,2,4,5]) F h b hb) fun h=>H.jT (K0.behind 6 rfl) F h b hb
    dsimp only[List.set] at H
    obtain⟨LJ,N,azR,H⟩:=H.vJ 9 rfl N<|fun F hF b hb=>(List.mem_append.1<|show F∈[D6,AM,sM,nu,zx,ov]++Ns from hF).elim (fun h=>(H.vV (L:=[D6,AM,sM,nu,zx,ov]) [0,1,2,3,5,6]) F h b hb) fun h=>H.jT (K0.behind 7 rfl) F h b hb
    dsimp only[List.set] at H
    have H0:=H
    obtain⟨Ix,Uf,Ys,H⟩:=H.jA (α:=IntoD) 10 rfl 7 rfl qj
    replace N:Fresh W0.heap.size (Ix::LJ::D6::AM::sM::nu::zx::Ns):=Fresh.ice (N.xm 7 (6::zR 0 6)<|by simp only[List.length_cons,List.length_append];omega) H0 10 Uf.1 Uf.2<|fun F hF b hb=>(List.mem_append.1<|show F∈[LJ,D6,AM,sM,nu,zx]++Ns from hF).elim (fun h=>(H0.vV (L:=[LJ,D6,AM,sM,nu,zx]) [0,1,2,3,4,6]) F h b hb) fun h=>H0.jT (K0.behind 8 rfl) F h b hb
    clear H0
    dsimp only[List.set] at H
    refine zH H 4 rfl 0 rfl underlying25 ti110 rfl qj rfl rfl rfl qw qp qf fun Lz L7 akm H=>?_
    dsimp only[List.set] at H
    replace H:=H.snoc_RuleD 7 rfl Nj Nf 5 rfl 4 rfl 3 rfl 2 rfl 1 rfl 0 rfl O0
    replace N:Fresh W0.heap.size ((zx++(nu++sM++AM++D6++LJ++Ix))::Ns):=(N.xm 7 [5,4,3,2,1,0,6]<|by simp only[List.length_cons,List.length_append];omega).join.join.join.join.join.swap.join
    refine⟨H.pick [3,11] [8,7],(tF 6 rfl rfl (H.pick [3,11] [8,7]) ?_)⟩
    refine ro 7 rfl<|zh H 2 [yI<|1+fh,Sv yl vw yj,Sv Lz (QR+1) L7] sizeOf25 fun aw4 H=>?_
    dsimp only[List.set] at H
    refine⟨H.pick [3,11] [8,7],(xy qh ((meet ⟨_,Ow,Nj,Nf,V1,Tr,Tl,t6,Ym,V9,O0,ahG,Lz,L7,TX,TT,Th,YF,Ug,Wo,vc,vv,Wi,UB,Wr,Ya,nu,sM,AM,D6,LJ,Ix,uE4,NP,ael,N,H.xm 12 10 [1,2,3,4,11] (zR 0 8) (by simp only[List.length_cons,List.length_append];omega)<|by simp only[List.length_cons,List.length_append];omega⟩)))⟩
   have f0:jZ (⟨1+fh,dJ,ak⟩:qO):=frame_of i3 qf qf
   have H1:=H.yt 5 2 [1,2,3,0,4] [1,0] (by simp only[List.length_cons,List.length_append];omega)<|by simp only[List.length_cons,List.length_append];omega
   have N1:Fresh _ (zx::Ns):=N
   have K1:Kept (Ns) (Γ):=K0.behind 0 rfl
   refine zD #[pp bs 0,pp rK 0] rfl rfl call99 (dRule_ok ag df di bs ac cc Fc (1+fh) dJ ak rK yl vw yj X6 QR X0 yw zx H1 N1 K1 qg qg) ?_
   clear H H1 N1 K1
   rintro _ awl ⟨VV,UU,ym,zm,Fs,HG,Hu,GV,HU,Ha,yn,pD,aha,pZ,G9,azK,G4,Hq,aBa,GQ,F8,aAX,Hv,Hp,aj5,GU,nC,akE,pw,aCi,fF,UT,T4,rfl,N,H⟩
   obtain rfl:=H.Qc 4 rfl
   obtain rfl:=H.Qc 5 rfl
   obtain rfl:=H.Qc 6 rfl
   obtain rfl:=H.Qc 7 rfl
   obtain rfl:=H.Qc 8 rfl
   obtain rfl:=H.xk (α:=IntoD) 9 rfl 2 rfl qj
   refine⟨H.pick [2,10] [1,0],(jC [1,4] qh qm<|yV rfl ?_<|yV rfl ?_ jD)⟩
   ·refine zJ (Sv X6 QR X0) isAgg25 rfl (H.cell 1 rfl rfl) (⟨H.pick [2,10] [1,0],(ro 4 rfl<|zy H underlying25 ti110 [yI ym,yI zm,Sv pD Fs.length pZ,Sv G9 HG.length G4,Sv Hq Hu.length GQ,Sv F8 GV.length Hv,Sv Hp HU.length GU,Sv nC Ha.length pw,Bv yn] fun aDJ awk H=>⟨H.pick [3,11] [1,0],(ro 5 rfl ?_)⟩)⟩)
    obtain⟨oH,N,apu,H⟩:=H.vJ 5 rfl N<|fun F hF b hb=>(List.mem_append.1<|show F∈[zx,fF]++Ns from hF).elim (fun h=>(H.vV (L:=[zx,fF]) [1,2]) F h b hb) fun h=>H.jT (K0.behind 3 rfl) F h b hb
    dsimp only[List.set] at H
    obtain⟨uv,N,ayL,H⟩:=H.vJ 6 rfl N<|fun F hF b hb=>(List.mem_append.1<|show F∈[oH,zx,fF]++Ns from hF).elim (fun h=>(H.vV (L:=[oH,zx,fF]) [0,2,3]) F h b hb) fun h=>H.jT (K0.behind 4 rfl) F h b hb
    dsimp only[List.set] at H
    obtain⟨At,N,aAs,H⟩:=H.vJ 7 rfl N<|fun F hF b hb=>(List.mem_append.1<|show F∈[uv,oH,zx,fF]++Ns from hF).elim (fun h=>(H.vV (L:=[uv,oH,zx,fF]) [0,1,3,4]) F h b hb) fun h=>H.jT (K0.behind 5 rfl) F h b hb
    dsimp only[List.set] at H
    obtain⟨EQ,N,aAR,H⟩:=H.vJ 8 rfl N<|fun F hF b hb=>(List.mem_append.1<|show F∈[At,uv,oH,zx,fF]++Ns from hF).elim (fun h=>(H.vV (L:=[At,uv,oH,zx,fF]) [0,1,2,4,5]) F h b hb) fun h=>H.jT (K0.behind 6 rfl) F h b hb
    dsimp only[List.set] at H
    obtain⟨OZ,N,azy,H⟩:=H.vJ 9 rfl N<|fun F hF b hb=>(List.mem_append.1<|show F∈[EQ,At,uv,oH,zx,fF]++Ns from hF).elim (fun h=>(H.vV (L:=[EQ,At,uv,oH,zx,fF]) [0,1,2,3,5,6]) F h b hb) fun h=>H.jT (K0.behind 7 rfl) F h b hb
    dsimp only[List.set] at H
    have H0:=H
    obtain⟨m5,CM,afp,H⟩:=H.jA (α:=IntoD) 10 rfl 7 rfl qj
    replace N:Fresh W0.heap.size (m5::OZ::EQ::At::uv::oH::zx::Ns):=Fresh.ice (N.xm 7 (6::zR 0 6)<|by simp only[List.length_cons,List.length_append];omega) H0 10 CM.1 CM.2<|fun F hF b hb=>(List.mem_append.1<|show F∈[OZ,EQ,At,uv,oH,zx]++Ns from hF).elim (fun h=>(H0.vV (L:=[OZ,EQ,At,uv,oH,zx]) [0,1,2,3,4,6]) F h b hb) fun h=>H0.jT (K0.behind 8 rfl) F h b hb
    clear H0
    dsimp only[List.set] at H
    refine zH H 4 rfl 0 rfl underlying25 ti110 rfl qj rfl rfl rfl qw qp qf fun aeT afC anb H=>?_
    dsimp only[List.set] at H
    replace H:=H.snoc_RuleD 7 rfl ym zm 5 rfl 4 rfl 3 rfl 2 rfl 1 rfl 0 rfl yn
    replace N:Fresh W0.heap.size ((zx++(oH++uv++At++EQ++OZ++m5))::Ns):=(N.xm 7 [5,4,3,2,1,0,6]<|by simp only[List.length_cons,List.length_append];omega).join.join.join.join.join.swap.join
    refine⟨H.pick [3,11] [8,7],(tF 6 rfl rfl (H.pick [3,11] [8,7]) ?_)⟩
    refine ro 7 rfl<|zh H 2 [yI<|1+fh,Sv yl vw yj,Sv aeT (QR+1) afC] sizeOf25 fun ayE H=>?_
    dsimp only[List.set] at H
    refine⟨H.pick [3,11] [8,7],(xy qh ((meet ⟨_,VV,ym,zm,Fs,HG,Hu,GV,HU,Ha,yn,UU,aeT,afC,pD,pZ,G9,G4,Hq,GQ,F8,Hv,Hp,GU,nC,pw,oH,uv,At,EQ,OZ,m5,uE4,UT,T4,N,H.xm 12 10 [1,2,3,4,11] (zR 0 8) (by simp only[List.length_cons,List.length_append];omega)<|by simp only[List.length_cons,List.length_append];omega⟩)))⟩
   refine zy H underlying25 ti110 [yI ym,yI zm,Sv pD Fs.length pZ,Sv G9 HG.length G4,Sv Hq Hu.length GQ,Sv F8 GV.length Hv,Sv Hp HU.length GU,Sv nC Ha.length pw,Bv yn] fun aFu aE0 H=>⟨H.pick [3,11] [1,0],(ro 1 rfl<|zJ (Sv X6 QR X0) isAgg25 rfl (H.cell 2 rfl rfl)<|⟨H.pick [3,11] [1,0],(ro 5 rfl ?_)⟩)⟩
   obtain⟨r6,N,azr,H⟩:=H.vJ 5 rfl N<|fun F hF b hb=>(List.mem_append.1<|show F∈[zx,fF]++Ns from hF).elim (fun h=>(H.vV (L:=[zx,fF]) [1,2]) F h b hb) fun h=>H.jT (K0.behind 3 rfl) F h b hb
   dsimp only[List.set] at H
   obtain⟨sS,N,an9,H⟩:=H.vJ 6 rfl N<|fun F hF b hb=>(List.mem_append.1<|show F∈[r6,zx,fF]++Ns from hF).elim (fun h=>(H.vV (L:=[r6,zx,fF]) [0,2,3]) F h b hb) fun h=>H.jT (K0.behind 4 rfl) F h b hb
   dsimp only[List.set] at H
   obtain⟨xd,N,aoZ,H⟩:=H.vJ 7 rfl N<|fun F hF b hb=>(List.mem_append.1<|show F∈[sS,r6,zx,fF]++Ns from hF).elim (fun h=>(H.vV (L:=[sS,r6,zx,fF]) [0,1,3,4]) F h b hb) fun h=>H.jT (K0.behind 5 rfl) F h b hb
   dsimp only[List.set] at H
   obtain⟨tv,N,azM,H⟩:=H.vJ 8 rfl N<|fun F hF b hb=>(List.mem_append.1<|show F∈[xd,sS,r6,zx,fF]++Ns from hF).elim (fun h=>(H.vV (L:=[xd,sS,r6,zx,fF]) [0,1,2,4,5]) F h b hb) fun h=>H.jT (K0.behind 6 rfl) F h b hb
   dsimp only[List.set] at H
   obtain⟨NV,N,azf,H⟩:=H.vJ 9 rfl N<|fun F hF b hb=>(List.mem_append.1<|show F∈[tv,xd,sS,r6,zx,fF]++Ns from hF).elim (fun h=>(H.vV (L:=[tv,xd,sS,r6,zx,fF]) [0,1,2,3,5,6]) F h b hb) fun h=>H.jT (K0.behind 7 rfl) F h b hb
   dsimp only[List.set] at H
   have H0:=H
   obtain⟨I6,T7,azQ,H⟩:=H.jA (α:=IntoD) 10 rfl 7 rfl qj
   replace N:Fresh W0.heap.size (I6::NV::tv::xd::sS::r6::zx::Ns):=Fresh.ice (N.xm 7 (6::zR 0 6)<|by simp only[List.length_cons,List.length_append];omega) H0 10 T7.1 T7.2<|fun F hF b hb=>(List.mem_append.1<|show F∈[NV,tv,xd,sS,r6,zx]++Ns from hF).elim (fun h=>(H0.vV (L:=[NV,tv,xd,sS,r6,zx]) [0,1,2,3,4,6]) F h b hb) fun h=>H0.jT (K0.behind 8 rfl) F h b hb
   clear H0
   dsimp only[List.set] at H
   refine zH H 4 rfl 0 rfl underlying25 ti110 rfl qj rfl rfl rfl qw qp qf fun aeL af1 ayw H=>?_
   dsimp only[List.set] at H
   replace H:=H.snoc_RuleD 7 rfl ym zm 5 rfl 4 rfl 3 rfl 2 rfl 1 rfl 0 rfl yn
   replace N:Fresh W0.heap.size ((zx++(r6++sS++xd++tv++NV++I6))::Ns):=(N.xm 7 [5,4,3,2,1,0,6]<|by simp only[List.length_cons,List.length_append];omega).join.join.join.join.join.swap.join
   refine⟨H.pick [3,11] [8,7],(tF 6 rfl rfl (H.pick [3,11] [8,7]) ?_)⟩
   refine ro 7 rfl<|zh H 2 [yI<|1+fh,Sv yl vw yj,Sv aeL (QR+1) af1] sizeOf25 fun aw5 H=>?_
   dsimp only[List.set] at H
   refine⟨H.pick [3,11] [8,7],(xy qh ((meet ⟨_,VV,ym,zm,Fs,HG,Hu,GV,HU,Ha,yn,UU,aeL,af1,pD,pZ,G9,G4,Hq,GQ,F8,Hv,Hp,GU,nC,pw,r6,sS,xd,tv,NV,I6,uE4,UT,T4,N,H.xm 12 10 [1,2,3,4,11] (zR 0 8) (by simp only[List.length_cons,List.length_append];omega)<|by simp only[List.length_cons,List.length_append];omega⟩)))⟩
  clear H N
  rintro ρ aiw ⟨xP,Nc,Fj,E4,Jq,I4,Jz,JN,Jd,IH,LU,Tx,Zg,acf,Ho,Gz,yv,BM,HY,GE,yq,FM,HL,GN,Gt,Hb,Mt,KD,RY,P8,xr,Rh,rfl,aAE,Wv,N,H⟩
  refine b_n<|t_n<|xX<|sp (yI k)<|sw<|o_sub k 1 rfl rfl qf<|sq 1<|xU<|xu (m':=(k-1).toNat) qf ⟨_,_,_,_,_,_,_,_,_,_,uE4,?_,?_,?_,rfl,N,H.xm 5 8 [3,0,1,2,4] [0,7] (by simp only[List.length_cons,List.length_append];omega)<|by simp only[List.length_cons,List.length_append];omega⟩
  ·omega
  ·simp;omega
  ·exact j3.snoc ql
 refine zx4<|zcr<|sw<|xW [yI<|1+fh,Sv yl vw yj,Sv X6 QR X0] isAgg27 sizeOf27 rfl (qH (H.cells 2 rfl) 0 3)<|sw<|zF H 4 [yI<|1+fh,Sv yl vw yj,Sv X6 QR X0] sizeOf27 fun aFI H=>?_
 dsimp only[List.set] at H
 refine zjr<|retC H 4 rfl rfl isAgg27 sizeOf27 rfl ⟨_,rfl,(⟨df,di,1+fh,dJ,ak,yl,vw,yj,X6,QR,X0,yw,zx,qf,(by exact sysDr_of i3 qf qf qf j3),rfl,N,H.xm 5 2 [1,3,0] [1,0] (by simp only[List.length_cons,List.length_append];omega)<|by simp only[List.length_cons,List.length_append];omega⟩)⟩
end
section
def atV(ag:List UInt8)(i n:Int):Int:=if i>=ag.length\/n<1 then 0 else (((ag[i.toNat]!).toNat:Nat):Int) % n
theorem atV_no{i n:Int}(h:i>=ag.length\/n<1):atV ag i n=0:=by rw[atV,if_pos h]
theorem atV_yes{i n:Int}(h:¬i>=ag.length)(h1:¬n<1):atV ag i n=(((ag[i.toNat]!).toNat:Nat):Int) % n:=by rw[atV,if_neg qf]
theorem atV_bd(ag:List UInt8)(i:Int){n:Int}(h:1<=n):0<=atV ag i n/\atV ag i n<=n-1:=by
 rw[atV]
 split
 ·omega
 ·have h1:=Int.emod_nonneg (((ag[i.toNat]!).toNat:Nat):Int) (show n≠0 by omega)
  have h2:=Int.emod_lt_of_pos (((ag[i.toNat]!).toNat:Nat):Int)<|show 0<n by omega
  omega
def CodeBad(s:qO)(t:xn)(cs:yLL)(k:Nat):Prop:=(stepBy s t<|cs[k]!).2≠0
def NoBad(s:qO)(t:xn)(cs:yLL)(k:Nat):Prop:=∀j,j<k->¬CodeBad s t cs j
theorem NoBad.succ{s:qO}{t:xn}{cs:yLL}{k:Nat}(h:NoBad s t cs k)(h1:(stepBy s t<|cs[k]!).2=0):NoBad s t cs (k+1):=fun j hj=>by
 by_cases e:j=k
 ·subst e;exact fun x=>x h1
 ·exact h j qf
def NotIn(l:List xn)(u:xn)(k:Nat):Prop:=∀j,j<k->l[j]! ≠u
theorem NotIn.succ{k:Nat}(h:NotIn l u k)(h1:l[k]! ≠u):NotIn l u (k+1):=fun j hj=>by
 by_cases e:j=k
 ·subst e;exact h1
 ·exact h j qf
theorem NotIn.out(h:NotIn l u l.length):¬u∈l:=fun hm=>by
 obtain⟨k,hk,e⟩:=List.mem_iff_getElem.1 hm
 exact h k hk<|by rw[getElem!_pos l k hk];exact e
end
section
theorem a2At_ok(w:World)(ag:List UInt8)(q:Int)(n:Int){j5:yOA}{iZ:Nat}{m8:yLN}(xL:zP w m8 j5 iZ ag)(p0:0<=q):Calls Tryz.prog 11 #[Sv j5 ag.length iZ,yI q,yI n] w (Ret (fun v w'=>v=yI (atV ag q n)) w):=by
 refine en func11 ntmps11 ?_
 have H:=(St.start w).arg xL
 have ayi:=qM xL
 clear xL
 refine zcr<|sp (yI 0)<|zjcc<|sp (yI q)<|sq 1<|oN rfl<|sp (Bv<|decide ((q:Int)>=ag.length))<|sp (Bv<|decide ((q:Int)>=ag.length)) ?_
 cases h1:(decide ((q:Int)>=ag.length))
 ·replace h1:=of_decide_eq_false h1
  refine qJ 11 rfl rfl<|sp (yI n)<|qJ 11 rfl rfl<|sp (Bv<|decide ((n:Int)<1))<|sp (Bv<|decide ((n:Int)<1))<|zjn<|cD rfl (fun h2=>?_)<|fun h2=>?_
  ·refine zcr (sp (yI 0)<|zjr<|t_r<|rH1 (yI 0) H ?_)
   rw[atV_no qf]
  refine qW<|t_n<|zcr<|sq 1<|sp (yI q) ?_
  obtain⟨b3,o4,rfl⟩:=H.addr 0 rfl qf
  refine oI rfl rfl ?_
  have hb6:=byte_lt<|ag[q.toNat]!
  refine oL rfl (H.elemByte 0 rfl q q.toNat qf qf qf)<|sw<|o_convI (((ag[q.toNat]!).toNat:Nat):Int) underlying5 underlying2 rfl qf<|sp (yI n)<|sw<|o_rem (((ag[q.toNat]!).toNat:Nat):Int) n rfl rfl qf qf qf<|sq 1<|zjr<|rH1 (yI ((((ag[q.toNat]!).toNat:Nat):Int) % n)) H ?_
  rw[atV_yes ‹_› ‹_›]
 replace h1:=of_decide_eq_true h1
 refine xO [12,13]<|sp (Bv true)<|zjn<|cTr rfl<|zcr<|sp (yI 0)<|zjr<|t_r<|rH1 (yI 0) H ?_
 rw[atV_no qf]
theorem l00Same_ok(w:World)(a:yLI)(b:yLI){aa:yOA}{ca:Nat}{cb:Nat}(ha:zP w Fa aa ca a)(hb:zP w Fb ab cb b):Calls Tryz.prog 30 #[Sv aa a.length ca,Sv ab b.length cb] w (Ret (fun v w'=>v=Bv (decide<|a=b)) w):=by
 refine en func30 ntmps30 ?_
 have H:=((St.start w).arg hb).arg ha
 have nha:=qM ha
 have nhb:=qM hb
 clear ha hb
 have N:=Fresh.nil w.heap.size
 refine zcr<|sp (Bv false)<|zjcc<|sq 1<|oN rfl<|sq 1<|oN rfl<|sq 1<|zjn<|vg _ rfl (fun h1=>?_)<|fun h1=>?_
 ·replace h1:=bne_iff_ne.1 h1
  refine zcr<|sp (Bv false)<|zjr<|t_r<|rH1 (Bv false) H ?_
  rw[decide_eq_false (fun e=>by subst e;omega)]
 replace h1:=xK h1
 refine qW<|t_n<|zcc<|sp (yI 0)<|zjn<|xe<|zT ((fun Z0 Z1=>fun m' ρ w2=>∃(xP:Env) (i:Nat),ρ=upd (upd (upd xP 0<|Sv aa a.length ca) 1<|Sv ab b.length cb) 5 (yI i)/\((i:Int)<=a.length)/\(a.take i=b.take i)/\m'=(a.length-(i:Int)).toNat/\Fresh w.heap.size []/\St w w2 [] [Z0,Z1]) _ _) ((a.length-(0:Int)).toNat) ⟨_,0,uE3,qf,(by rfl),rfl,N,H⟩ ?_
 clear H N
 rintro m' ρ w3 ⟨xP,i,rfl,i0,i1,rfl,N,H⟩
 refine zcc<|sp (yI i)<|sq 1<|oN rfl<|sq 1<|zjn<|cD rfl (fun h4=>?_)<|fun h4=>?_
 ·refine qW (t_n<|xM<|xe<|xM<|QE rfl H fun H=>rtl 0 H ?_)
  refine rtp 1 (yI i) H ?_
  obtain⟨b6,o7,rfl⟩:=H.addr 0 rfl qf
  refine tI 2 rfl rfl rfl H ?_
  refine tL 3 rfl rfl (fun _ h=>h.vG 0 rfl i qf) H ?_
  refine rtl 4 H ?_
  refine rtp 5 (yI i) H ?_
  obtain⟨b9,o10,rfl⟩:=H.addr 1 rfl qf
  refine tI 6 rfl rfl rfl H ?_
  refine tL 7 rfl rfl (fun _ h=>h.vG 1 rfl i qf) H ?_
  refine rtl 8 H ?_
  refine xy qh<|t_n<|vg _ rfl (fun lw=>?_)<|fun lw=>?_
  ·replace lw:=bne_iff_ne.1 lw
   refine zcr<|sp (Bv false)<|zjr<|zr5<|rH1 (Bv false) H ?_
   rw[decide_eq_false (fun e=>by subst e;omega)]
  replace lw:=xK lw
  refine qW<|b_n<|t_n<|xX<|sp (yI i)<|sw<|zS i 1 rfl rfl qf<|sq 1<|xU<|xu (m':=(a.length-((i+1):Int)).toNat) qf ⟨_,i+1,uE3,?_,?_,rfl,N,H⟩
  ·omega
  ·exact eqTo_succ qf qf i1 qg
 refine zx4<|zcr<|sp (Bv true)<|zjr<|rH1 (Bv true) H ?_
 rw[decide_eq_true<|XK (k:=i) qf qf i1]
end
section
@[irreducible] def LQ(P : Program)(o : Oper)(Q : Exit -> Act -> World -> Prop)(a : Act)(w : World) : Prop := o.wp P a w (fun a w => Q .normal a w) Q \/ (o.asks P a w /\ LetsOut Q)
def lateQ(P:Program)(o:Oper)(Q:Exit->Act->World->Prop):Exit->Act->World->Prop
 | .normal,a,w=>LQ P o Q a w
 |e,a,w=>Q e a w
def aft(l:List Oper)(i:Nat):List Edge:=match l[i]? with|some o=>o.after.toList|none=>[]
def lateOk(l:List Oper)(o:Oper):Bool:=
 o.guard.isNone && ((List.range<|l.length+1).all fun i=>(aft (l++[o]) i).all fun e=> !Region.binds .any e || Nat.blt e.on i) &&
 ((List.range l.length).all fun i=>(List.range<|l.length+1).any fun j=>Nat.blt i j && (aft (l++[o]) j).any fun e=>Region.binds .any e && Nat.beq e.on i)
section
variable{P : Program}{Q : Exit -> Act -> World -> Prop}{l : List Oper}{o : Oper}
structure LateP(l:List Oper)(o:Oper):Prop where
 gd:o.guard=none
 back:∀i e,i<=l.length->e∈aft (l++[o]) i->Region.binds .any e=true->e.on<i
 wait:∀i,i<l.length->∃j e,i<j/\j<=l.length/\e∈aft (l++[o]) j/\Region.binds .any e=true/\e.on=i
theorem lateP(h:lateOk l o=true):LateP l o:=by
 simp only[lateOk,Bool.and_eq_true,List.all_eq_true,List.any_eq_true,List.mem_range,Bool.or_eq_true,Bool.not_eq_true'] at h
 obtain⟨⟨h1,h2⟩,h3⟩:=h
 refine⟨Option.isNone_iff_eq_none.1 h1,fun i e hi he hb=>?_,fun i hi=>?_⟩
 ·rcases h2 i qf e he with h|h
  ·rw[hb] at h;cases h
  ·exact Nat.le_of_ble_eq_true h
 ·obtain⟨j,hj,hij,e,he,hb,ho⟩:=h3 i hi
  exact⟨j,e,Nat.le_of_ble_eq_true hij,by omega,he,hb,Nat.eq_of_beq_eq_true ho⟩
theorem Xt{fL:Array Oper}:i∈Region.ready .any fL ae<->ae.getD i true=false/\∃o,fL[i]? =some o/\∀e∈o.after,Region.binds .any e=true->ae.getD e.on false=true:=mem_ready
def Closed(l:List Oper)(ae:Array Bool):Prop:=∀i,i<l.length->ae.getD i false=true->∀e∈aft l i,Region.binds .any e=true->ae.getD e.on false=true
theorem aft_left(h:i<l.length):aft (l++[o]) i=aft l i:=by unfold aft;rw[List.getElem?_append_left h]
theorem aft_last:aft (l++[o]) l.length=o.after.toList:=by unfold aft;simp
theorem late_all(p:LateP l o)(hc:Closed l ae)(hr:∀e∈o.after,Region.binds .any e=true->ae.getD e.on false=true):∀k i,l.length-i=k->i<l.length->ae.getD i false=true:=by
 intro k
 induction k using Nat.strongRecOn with
 |_ k ih=>
  intro i hk hi
  obtain⟨j,e,hij,hj,he,hb,rfl⟩:=p.wait i hi
  by_cases hjl:j=l.length
  ·subst hjl
   rw[aft_last] at he
   exact hr e (by simpa using he) hb
  ·have hjl:j<l.length:=by omega
   rw[aft_left hjl] at he
   exact hc j hjl (ih (l.length-j) qf j rfl hjl) e he hb
theorem none_all(p:LateP l o)(hs:ae.size=l.length)(hr:Region.ready .any l.toArray ae=[]):∀i,i<l.length->ae.getD i false=true:=by
 intro i
 induction i using Nat.strongRecOn with
 |_ i ih=>
  intro hi
  by_cases h:ae.getD i false=true
  ·exact h
  ·exfalso
   have hm:i∈Region.ready .any l.toArray ae:=Xt.2 ⟨by
    simp only[Array.getD_eq_getD_getElem?] at h ⊢
    rw[Array.getElem?_eq_getElem qf] at h ⊢
    simpa using h,l[i],by simp[hi],fun e he hb=>by
     have h1:=p.back i e qf (by rw[aft_left hi];unfold aft;rw[List.getElem?_eq_getElem hi];simpa using he) hb
     exact ih e.on h1 qf⟩
   rw[hr] at hm;cases hm
theorem getD_push{a:Array Bool}(d:Bool)(h:i<a.size):(a.push false).getD i d=a.getD i d:=by
 simp[Array.getD_eq_getD_getElem?,Array.getElem?_push_lt h,Array.getElem?_eq_getElem h]
theorem ready_push(hs:ae.size=l.length)(p:LateP l o)(hi:i<l.length):i∈Region.ready .any (l++[o]).toArray (ae.push false)<->i∈Region.ready .any l.toArray ae:=by
 rw[Xt,Xt,getD_push true qf]
 have e1:(l++[o]).toArray[i]? =l.toArray[i]? :=by simp[List.getElem?_append_left hi]
 rw[e1]
 refine and_congr Iff.rfl<|exists_congr fun q=>and_congr_right fun hq=>forall_congr' fun e=>forall_congr' fun he=>forall_congr' fun hb=>?_
 have h1:=p.back i e qf (by rw[aft_left hi];unfold aft;rw[show l[i]? =some q by simpa using hq];simpa using he) hb
 rw[getD_push false qf]
theorem yield_push{tmps:Array Value}(hj:j<l.length):yielded (l++[o]).toArray tmps j=yielded l.toArray tmps j:=by
 unfold yielded
 rw[show (l++[o]).toArray[j]? =l.toArray[j]? by simp[List.getElem?_append_left hj]]
theorem lets_late:LetsOut (lateQ P o Q)->LetsOut Q:=fun⟨a,w,h⟩=>⟨a,w,h⟩
theorem wp_Q{Q':Exit->Act->World->Prop}(hq:∀c a w,Q' (.panic c) a w->Q (.panic c) a w)(ho:∀a w,Q' .outgrown a w->Q .outgrown a w){q:Oper}{a:Act}{K:Act->World->Prop}(h:q.wp P a w K Q'):q.wp P a w K Q:=by
 have hl:LetsOut Q' ->LetsOut Q:=fun⟨a,w,h⟩=>⟨a,w,ho a w h⟩
 unfold Oper.wp at *
 generalize (execOp a.eval q).run P w=r at *
 cases r with
 |ok n w'=>
  cases n <;> simp only[Oper.upon] at h ⊢ <;>
   first
    |exact h
    |exact Calls.mono h (fun e w'' he=>by cases e <;> first|exact he|exact hq _ _ _ he|exact hl he)
 |halt x w'=>cases x <;> simp only[Oper.upon] at h ⊢ <;> exact hq _ _ _ h
theorem wp_late{q:Oper}{a:Act}{K:Act->World->Prop}(h:q.wp P a w K (lateQ P o Q)):q.wp P a w K Q:=wp_Q (fun _ _ _ h=>h) (fun _ _ h=>h) h
theorem wpAny_Q{Q':Exit->Act->World->Prop}(hq:∀e a w,Q' e a w->Q e a w){fL:Array Oper}:∀(fuel:Nat) (ae:Array Bool) (a:Act) (w:World),wpAny P .any fL Q' fuel ae a w->wpAny P .any fL Q fuel ae a w
 |0,_,_,_,h=>⟨h.1,hq _ _ _ h.2⟩
 |fuel+1,ae,a,w,h=>⟨fun h0=>hq _ _ _<|h.1 h0,fun i hi=>by
  have h2:=h.2 i hi
  have h3:=wpOp_mono (wpAny_Q hq fuel<|ae.setIfInBounds i true) h2
  unfold wpOp at h3 ⊢
  split
  ·simp_all
  ·rename_i q hq2
   rw[hq2] at h3
   simp only at h3
   split
   ·rename_i hw
    rw[if_pos hw] at h3
    rcases h3 with h3|⟨h3,a',w',h4⟩
    ·exact .inl (wp_Q (fun _ _ _=>hq _ _ _) (fun _ _=>hq _ _ _) h3)
    ·exact .inr ⟨h3,a',w',hq _ _ _ h4⟩
   ·rename_i hw
    rw[if_neg hw] at h3
    exact h3⟩
theorem wpAny_late(p:LateP l o)(hg:∀(i:Nat) (q:Oper) (j:Nat) (b:Bool),l[i]? =some q->q.guard=some (j,b)->j<l.length):∀(fuel:Nat) (ae:Array Bool) (a:Act) (w:World),ae.size=l.length->Closed l ae→
 wpAny P .any l.toArray (lateQ P o Q) fuel ae a w->wpAny P .any (l++[o]).toArray Q (fuel+1) (ae.push false) a w:=by
 have last:∀(fuel:Nat) (ae:Array Bool) (a:Act) (w:World),ae.size=l.length->(∀i,i<l.length->ae.getD i false=true)->lateQ P o Q .normal a w->wpAny P .any (l++[o]).toArray Q (fuel+1) (ae.push false) a w:=by
  intro fuel ae a w hs Eg hq
  have hm:l.length∈Region.ready .any (l++[o]).toArray (ae.push false):=Xt.2 ⟨by rw[←hs];simp[Array.getD_eq_getD_getElem?],o,by simp,fun e he hb=>by
   have h1:=p.back l.length e (Nat.le_refl _) (by rw[aft_last];simpa using he) hb
   rw[getD_push false qf];exact Eg _ h1⟩
  have alg:∀i∈Region.ready .any (l++[o]).toArray (ae.push false),i=l.length:=fun i hi=>by
   obtain⟨h1,q,h2,_⟩:=Xt.1 hi
   have oe:i<(l++[o]).length:=by have:=(Array.getElem?_eq_some_iff.1 h2).1;simpa using this
   rw[List.length_append,List.length_singleton] at oe
   by_cases e:i=l.length
   ·exact e
   ·rw[getD_push true qf] at h1
    have h3:=Eg i qf
    simp only[Array.getD_eq_getD_getElem?] at h1 h3
    rw[Array.getElem?_eq_getElem qf] at h1 h3
    simp only[Option.getD_some] at h1 h3
    rw[h1] at h3;cases h3
  refine⟨fun h=>(by rw[h] at hm;cases hm),fun i hi=>?_⟩
  obtain rfl:=alg i hi
  have Yk:Region.ready .any (l++[o]).toArray ((ae.push false).setIfInBounds l.length true)=[]:=List.eq_nil_iff_forall_not_mem.2 fun i hi=>by
   obtain⟨h1,q,h2,_⟩:=Xt.1 hi
   have oe:i<(l++[o]).length:=by have:=(Array.getElem?_eq_some_iff.1 h2).1;simpa using this
   rw[List.length_append,List.length_singleton] at oe
   by_cases e:i=l.length
   ·subst e
    simp[Array.getD_eq_getD_getElem?,hs] at h1
   ·have h3:=Eg i qf
    simp only[Array.getD_eq_getD_getElem?] at h1 h3
    rw[Array.getElem?_setIfInBounds_ne<|Ne.symm e,Array.getElem?_push_lt qf] at h1
    rw[Array.getElem?_eq_getElem qf] at h3
    simp only[Option.getD_some] at h1 h3
    rw[h1] at h3;cases h3
  unfold wpOp
  rw[show (l++[o]).toArray[l.length]? =some o by simp]
  simp only[Region.wanted,p.gd,if_true]
  have hq:LQ P o Q a w:=hq
  unfold LQ at hq
  refine hq.imp (Oper.wp_mono fun a' w' h=>?_) id
  cases fuel with
  |zero=>exact⟨Yk,h⟩
  |succ f=>exact⟨fun _=>h,by rw[Yk];exact fun i hi=>by cases hi⟩
 intro fuel
 induction fuel with
 |zero=>intro ae a w hs hc h;exact last 0 ae a w hs (none_all p hs h.1) h.2
 |succ fuel ih=>
  intro ae a w hs hc h
  by_cases hr:Region.ready .any l.toArray ae=[]
  ·exact last (fuel+1) ae a w hs (none_all p hs hr)<|h.1 hr
  ·have hnl:l.length∉Region.ready .any (l++[o]).toArray (ae.push false):=fun hm=>by
    obtain⟨_,q,h2,h3⟩:=Xt.1 hm
    obtain rfl:o=q:=by simpa using h2
    have Eg:=late_all p hc (fun e he hb=>by
     have h1:=p.back l.length e (Nat.le_refl _) (by rw[aft_last];simpa using he) hb
     have h4:=h3 e he hb
     rwa [getD_push false qf] at h4)
    apply hr
    refine List.eq_nil_iff_forall_not_mem.2 fun i hi=>?_
    obtain⟨h5,q,h6,_⟩:=Xt.1 hi
    have oe:i<l.length:=by have:=(Array.getElem?_eq_some_iff.1 h6).1;simpa using this
    have h7:=Eg (l.length-i) i rfl oe
    simp only[Array.getD_eq_getD_getElem?] at h5 h7
    rw[Array.getElem?_eq_getElem qf] at h5 h7
    simp only[Option.getD_some] at h5 h7
    rw[h5] at h7;cases h7
   have hin:∀i∈Region.ready .any (l++[o]).toArray (ae.push false),i<l.length:=fun i hi=>by
    obtain⟨_,q,h2,_⟩:=Xt.1 hi
    have oe:i<(l++[o]).length:=by have:=(Array.getElem?_eq_some_iff.1 h2).1;simpa using this
    rw[List.length_append,List.length_singleton] at oe
    by_cases e:i=l.length
    ·subst e;exact absurd hi hnl
    ·omega
   refine⟨fun h0=>absurd (List.eq_nil_iff_forall_not_mem.2 fun i hi=>?_) hr,fun i hi=>?_⟩
   ·have oe:i<l.length:=by
     obtain⟨_,q,h2,_⟩:=Xt.1 hi
     have:=(Array.getElem?_eq_some_iff.1 h2).1;simpa using this
    have:=(ready_push hs p oe).2 hi
    rw[h0] at this;cases this
   ·have oe:=hin i hi
    have hi0:=(ready_push hs p oe).1 hi
    have h2:=h.2 i hi0
    obtain⟨_,q,h3,h4⟩:=Xt.1 hi0
    have h3':l[i]? =some q:=by simpa using h3
    unfold wpOp at h2 ⊢
    rw[show (l++[o]).toArray[i]? =some q by simp[List.getElem?_append_left oe,h3']]
    rw[h3] at h2
    simp only at h2 ⊢
    have hw:Region.wanted q (yielded (l++[o]).toArray a.tmps)=Region.wanted q (yielded l.toArray a.tmps):=by
     unfold Region.wanted
     split
     ·rfl
     ·rename_i j b hgd
      rw[yield_push<|hg i q j b h3' hgd]
    have hc':Closed l (ae.setIfInBounds i true):=fun j hj hlj e he hb=>by
     have oO:∀x,ae.getD x false=true->(ae.setIfInBounds i true).getD x false=true:=fun x hx=>by
      simp only[Array.getD_eq_getD_getElem?,Array.getElem?_setIfInBounds] at hx ⊢
      split
      ·rename_i e;subst e;split <;> simp_all
      ·exact hx
     by_cases hji:j=i
     ·subst hji
      exact oO _<|h4 e (by have he':=he;unfold aft at he';rw[h3'] at he';simpa using he') hb
     ·refine oO _ (hc j hj ?_ e he hb)
      simp only[Array.getD_eq_getD_getElem?,Array.getElem?_setIfInBounds_ne<|Ne.symm hji] at hlj ⊢
      exact hlj
    have step:∀a' w',wpAny P .any l.toArray (lateQ P o Q) fuel (ae.setIfInBounds i true) a' w' ->wpAny P .any (l++[o]).toArray Q (fuel+1) ((ae.push false).setIfInBounds i true) a' w':=fun a' w' h5=>by
     have h6:=ih (ae.setIfInBounds i true) a' w' (by simp[hs]) hc' h5
     have e1:(ae.push false).setIfInBounds i true=(ae.setIfInBounds i true).push false:=by
      apply Array.ext_getElem?
      intro x
      simp only[Array.getElem?_setIfInBounds,Array.getElem?_push,Array.size_push,Array.size_setIfInBounds]
      by_cases hx:i=x
      ·subst hx
       have:i<ae.size:=by omega
       simp[show i<ae.size+1 by omega,this,Nat.ne_of_lt this]
      ·simp[hx]
     rw[e1];exact h6
    rw[hw]
    split
    ·rename_i hwt
     rw[if_pos hwt] at h2
     rcases h2 with h2|⟨h2,h5⟩
     ·exact .inl<|Oper.wp_mono step<|wp_late h2
     ·exact .inr ⟨h2,lets_late h5⟩
    ·rename_i hwt
     rw[if_neg hwt] at h2
     exact step _ _ h2
end
theorem wpAnyH_Q{P:Program}{Q Q':Exit->Act->World->Prop}{S:World->Prop}(hq:∀e a w,Q' e a w->Q e a w){fL:Array Oper}:∀(fuel:Nat) (ae:Array Bool) (a:Act) (w:World),wpAnyH P .any fL Q' S fuel ae a w->wpAnyH P .any fL Q S fuel ae a w
 |0,_,_,_,h=>⟨h.1,hq _ _ _ h.2⟩
 |fuel+1,ae,a,w,h=>⟨fun h0=>hq _ _ _<|h.1 h0,fun i hi=>by
  have h2:=h.2 i hi
  have h3:=wpOp_mono (fun a' w' (h':S w' /\_)=>(⟨h'.1,wpAnyH_Q hq fuel (ae.setIfInBounds i true) a' w' h'.2⟩:S w' /\wpAnyH P .any fL Q S fuel (ae.setIfInBounds i true) a' w')) h2
  unfold wpOp at h3 ⊢
  split
  ·simp_all
  ·rename_i q hq2
   rw[hq2] at h3
   simp only at h3
   split
   ·rename_i hw
    rw[if_pos hw] at h3
    rcases h3 with h3|⟨h3,a',w',h4⟩
    ·exact .inl (wp_Q (fun _ _ _=>hq _ _ _) (fun _ _=>hq _ _ _) h3)
    ·exact .inr ⟨h3,a',w',hq _ _ _ h4⟩
   ·rename_i hw
    rw[if_neg hw] at h3
    exact h3⟩
def gdOk(l:List Oper):Bool:=l.all fun q=>match q.guard with|some (j,_)=>Nat.blt j l.length|none=>true
@[irreducible] def LL(P : Program)(fL : Array Oper)(os : List Oper)(Q : Exit -> Act -> World -> Prop)(a : Act)(w : World) : Prop := wpList P fL Q os a w
def latesQ(P:Program)(fL:Array Oper)(os:List Oper)(Q:Exit->Act->World->Prop):Exit->Act->World->Prop
 | .normal,a,w=>LL P fL os Q a w
 |e,a,w=>Q e a w
def latesOk(l:List Oper):List Oper->Bool
 | []=>true
 |o::os=>lateOk l o && latesOk (l++[o]) os
theorem wpAny_lates{P:Program}{fL:Array Oper}{Q:Exit->Act->World->Prop}:∀(os l:List Oper) (_:latesOk l os=true) (_:gdOk l=true) (fuel:Nat) (ae:Array Bool) (a:Act) (w:World) (_:ae.size=l.length) (_:Closed l ae) (_:wpAny P .any l.toArray (latesQ P fL os Q) fuel ae a w),
 wpAny P .any (l++os).toArray Q (fuel+os.length) (ae++Array.replicate os.length false) a w
 | [],l,_,_,fuel,ae,a,w,_,_,h=>by
  have h2:wpAny P .any l.toArray Q fuel ae a w:=wpAny_Q (fun e a w h=>by
   cases e with
   |normal=>have h:LL P fL [] Q a w:=h;unfold LL at h;exact h
   |_=>exact h) _ _ _ _ h
  simpa using h2
 |o::os,l,hk,hg,fuel,ae,a,w,hs,hc,h=>by
  rw[latesOk,Bool.and_eq_true] at hk
  have hgd:=(lateP hk.1).gd
  have h2:wpAny P .any l.toArray (lateQ P o<|latesQ P fL os Q) fuel ae a w:=wpAny_Q (fun e a w h=>by
   cases e with
   |normal=>
    have h:LL P fL (o::os) Q a w:=h
    unfold LL at h
    show LQ _ _ _ _ _
    unfold LQ
    unfold wpList at h
    rw[if_pos<|by simp[Region.wanted,hgd]] at h
    rcases h with h|⟨h,a',w',h3⟩
    ·refine .inl (wp_Q (fun _ _ _ h=>h) (fun _ _ h=>h)<|Oper.wp_mono (fun a w h=>?_) h)
     show LL _ _ _ _ _ _
     unfold LL;exact h
    ·exact .inr ⟨h,a',w',h3⟩
   |_=>exact h) _ _ _ _ h
  have hg1:∀(i:Nat) (q:Oper) (j:Nat) (b:Bool),l[i]? =some q->q.guard=some (j,b)->j<l.length:=fun i q j b hi hgd=>by
   have:=List.all_eq_true.1 hg q<|List.mem_of_getElem? hi
   rw[hgd] at this
   exact Nat.le_of_ble_eq_true this
  have h3:=wpAny_late (lateP hk.1) hg1 fuel ae a w hs hc h2
  have hc':Closed (l++[o]) (ae.push false):=fun i hi hl e he hb=>by
   rw[List.length_append,List.length_singleton] at hi
   by_cases ei:i=l.length
   ·subst ei;rw[←hs] at hl;simp[Array.getD_eq_getD_getElem?] at hl
   ·rw[getD_push false qf] at hl
    rw[aft_left qf] at he
    have h4:=hc i qf hl e he hb
    have h5:e.on<ae.size:=by
     by_cases hx:e.on<ae.size
     ·exact hx
     ·simp[Array.getD_eq_getD_getElem?,Array.getElem?_eq_none<|Nat.le_of_not_lt hx] at h4
    rw[getD_push false h5];exact h4
  have hg':gdOk (l++[o])=true:=by
   unfold gdOk at hg ⊢
   rw[List.all_eq_true] at hg ⊢
   intro q hq
   rcases List.mem_append.1 hq with hq|hq
   ·have:=hg q hq
    split at this
    ·rename_i j b hj
     have:=Nat.le_of_ble_eq_true this
     exact Nat.ble_eq_true_of_le<|by rw[List.length_append,List.length_singleton];omega
    ·rfl
   ·rw[List.mem_singleton] at hq
    subst hq;rw[hgd]
  have h6:=wpAny_lates os (l++[o]) hk.2 hg' (fuel+1) (ae.push false) a w (by simp[hs]) hc' h3
  have e1:(ae.push false)++Array.replicate os.length false=ae++Array.replicate (o::os).length false:=by
   rw[List.length_cons,show Array.replicate (os.length+1) false=#[false]++Array.replicate os.length false by rw[Nat.add_comm];exact(Array.replicate_append_replicate (n:=1)).symm,←Array.append_assoc]
   rfl
  rw[e1,List.append_assoc] at h6
  rw[List.length_cons,show fuel+(os.length+1)=fuel+1+os.length by omega]
  exact h6
section
variable{P : Program}{Q : Exit -> Act -> World -> Prop}{n : Nat}{ρ : Env}{W0 w : World}{ps : List Prv}{Γ : List Fact}{l : List Oper}
def yL{α:Type}:List α->List α
 | []=>[]
 | [_]=>[]
 |a::b::l=>a::yL (b::l)
def yg{α:Type}:Nat->List α->List α
 |0,l=>l
 |k+1,l=>yL<|yg k l
theorem c_late[Dfr]{L os:List Oper}{l:List Oper}(S:World->Prop)(hm:P.follows .mixedOrders=true)(hS:S w.drew)
 (h:RW P l (latesQ P L.toArray os Q) S n l.toArray.size (Array.replicate l.toArray.size false) ρ w.drew) (hL:L=l++os) (hk:latesOk l os=true) (hg:gdOk l=true):(Code.region id L.toArray true).wp P Q (mk n ρ) w:=by
 refine wp_region_any hm ?_
 unfold RW at h
 have h1:=wpAny_lates os l hk hg _ (Array.replicate l.toArray.size false) _ _ qm (fun i hi hl=>by simp[Array.getD_eq_getD_getElem?,hi] at hl)<|wpAny_of_held _ _ _ _ h
 rw[Array.replicate_append_replicate,←hL] at h1
 have e2:L.toArray.size=l.toArray.size+os.length:=by
  have:=congrArg List.length hL
  simpa using this
 rw[e2]
 exact h1
theorem vK[Dfr]{id:Nat}{L os:List Oper}(k:Nat)(hm:P.follows .mixedOrders=true)(H:St W0 w ps Γ)(is js:yLN)
 (kk:St W0 w.drew ps Γ->RW P (yg k L) (latesQ P L.toArray os Q) (fun w=>St W0 w (is.filterMap fun i=>ps[i]?)<|js.filterMap fun i=>Γ[i]?) n (yg k L).toArray.size (Array.replicate (yg k L).toArray.size false) ρ w.drew)
 (hL:L=yg k L++os:=by exact rfl) (hk:latesOk (yg k L) os=true:=by kernel_rfl) (hg:gdOk (yg k L)=true:=by kernel_rfl)
 (hi:is.all (fun i=>Nat.blt i ps.length)=true:=by simp) (hj:js.all (fun i=>Nat.blt i Γ.length)=true:=by simp) (hd:is.Nodup:=by decide):(Code.region id L.toArray true).wp P Q (mk n ρ) w:=by
 have H':=H.ext<|ext_drew _
 exact c_late (fun w=>St W0 w (is.filterMap fun i=>ps[i]?)<|js.filterMap fun i=>Γ[i]?) hm (H'.pick is js (XW ps is hi) (XW Γ js hj) hd) (kk H') hL hk hg
theorem c_lateC[Dfr]{id:Nat}{L os:List Oper}(k:Nat)(A:Env->World->Prop)(hm:P.follows .mixedOrders=true)(H:St W0 w ps Γ)(is js:yLN)
 (kk:St W0 w.drew ps Γ->RW P (yg k L) (Meet A n) (fun w=>St W0 w (is.filterMap fun i=>ps[i]?)<|js.filterMap fun i=>Γ[i]?) n (yg k L).toArray.size (Array.replicate (yg k L).toArray.size false) ρ w.drew)
 (h2:∀ρ w,A ρ w->WL P L.toArray Q n os ρ w)
 (hL:L=yg k L++os:=by exact rfl) (hk:latesOk (yg k L) os=true:=by kernel_rfl) (hg:gdOk (yg k L)=true:=by kernel_rfl)
 (hi:is.all (fun i=>Nat.blt i ps.length)=true:=by simp) (hj:js.all (fun i=>Nat.blt i Γ.length)=true:=by simp) (hd:is.Nodup:=by decide):(Code.region id L.toArray true).wp P Q (mk n ρ) w:=by
 have H':=H.ext<|ext_drew _
 have h:=kk H'
 refine c_late (fun w=>St W0 w (is.filterMap fun i=>ps[i]?)<|js.filterMap fun i=>Γ[i]?) hm (H'.pick is js (XW ps is hi) (XW Γ js hj) hd) ?_ hL hk hg
 unfold RW at h ⊢
 refine wpAnyH_Q (fun e a w h=>?_) _ _ _ _ h
 cases e with
 |normal=>
  obtain⟨ρ,rfl,hA⟩:=h
  show LL _ _ _ _ _ _
  unfold LL
  exact(h2 ρ w hA).out
 |exit _=>exact h.elim
 |goto _=>exact h.elim
 |ret=>exact h.elim
 |panic _=>exact h.elim
 |outgrown=>exact h.elim
theorem xZ[Dfr]{fL:Array Oper}{os:List Oper}(h:WL P fL Q n os ρ w):latesQ P fL os Q .normal (mk n ρ) w:=by
 show LL _ _ _ _ _ _
 unfold LL
 exact h.out
end
end
section
variable{i6 ug kM wa gO pO kr ca cb bs os qR xx zI vk zf cl : Nat}
theorem Xh(w:World)(cf:yLL)(fW:zP w Cx ju i6 cf)(p0:Sm2 cf):Calls Tryz.prog 29 #[Sv ju cf.length i6] w (Ret (fun v w'=>∃(ra:yOA) (rn:Nat) (rc:Nat) (rx:List Value) (rF:yLN),v=Sv ra rn rc/\Fresh w.heap.size [rF]/\St w w' [rr ra rn rc 24 1 rx] [qQ true rF rx cf]) w):=by
 refine en func29 ntmps29 ?_
 have H:=(St.start w).arg fW
 have E6:=qM fW
 clear fW
 have N:=Fresh.nil w.heap.size
 have p1:=p0.1
 refine zcr<|sq 1<|zjc<|sw<|jH H underlying29 ti24 fun b1 w2 H=>sq 1<|zjcc<|sq 1<|oN rfl<|sp (yI 0)<|zjn<|xe ?_
 replace H:=H.boxRow 0 rfl 1 0 rfl qj
 replace H:=H.yD (α:=yLI)
 refine zT ((fun Z0=>fun m' ρ w3=>∃(xP:Env) (yO:yOA) (yH:Nat) (yM:Nat) (out:yLL) (QF:List Value) (Qo:yLN) (k:Nat),ρ=upd (upd (upd (upd xP 3<|Sv yO yH yM) 7<|Sv ju cf.length i6) 8<|yI cf.length) 9 (yI k)/\out=cf.take k/\((k:Int)<=cf.length)/\m'=(cf.length-(k:Int)).toNat/\Fresh w.heap.size [Qo]/\St w w3 [rr yO yH yM 24 1 QF] [qQ true Qo QF out,Z0]) _) ((cf.length-(0:Int)).toNat) ⟨_,(aa b1 0),0,0,([]:yLL),[],[],0,uE4,(by rfl),qf,rfl,N.emp,H⟩ ?_
 clear H N
 rintro m' ρ w4 ⟨xP,yO,yH,yM,out,QF,Qo,k,rfl,rfl,i0,rfl,N,H⟩
 have Vm:=H.xk (α:=yLI) 0 rfl 0 rfl qj
 have p2:=p0.2 k
 rw[List.length_take_of_le qf] at Vm
 refine zcr<|sq 1<|zjn<|xM<|cD rfl (fun h5=>?_)<|fun h5=>?_
 ·refine qW (t_n<|xM<|xe<|zcr ?_)
  obtain⟨b6,o7,rfl⟩:=H.addr 1 rfl qf
  obtain⟨ae9,ce9,Fe9,H⟩:=H.yB 1 rfl k k qf qf qf
  refine oI rfl rfl<|oL rfl (H.zG 1 rfl 0 rfl)<|sq 1<|zjn<|xX<|sq 2 ?_
  have p3:=p2 qf
  refine sw<|oc (cloneI_ok _ (cf[k]!) (H.get 0 rfl).1 qg) ?_
  rintro v15 Dv r15 x14
  replace H:=H.zV x14 r15
  obtain⟨a16,c17,rfl,auX,axA⟩:=H.yf 0 rfl
  refine sw<|zy H underlying29 ti24 [Sv a16 ((cf[k]!).length) c17] fun I9 Pz H=>?_
  obtain⟨G25,N,aub,H⟩:=H.vJ 1 rfl N<|H.vV [2]
  refine sw<|zH H 2 rfl 0 rfl underlying29 ti24 rfl qj rfl rfl rfl qw qp qf fun a22 c23 D1 H=>?_
  replace H:=H.Q5 3 rfl 0 rfl
  replace N:Fresh w.heap.size [(Qo++G25)]:=(N.pick [1,0]).join
  refine sq 1<|xU<|b_n<|t_n<|xX<|sw<|zS k 1 rfl rfl qf<|sq 1<|xU<|xu (m':=(cf.length-((k+1):Int)).toNat) qf ⟨_,_,_,_,_,_,_,k+1,uE4,?_,?_,rfl,N,H.pick [2] [0,5]⟩
  ·exact take_snoc qf
  ·omega
 refine zx4<|zcr<|sq 2<|zjr<|rH1 (Sv yO yH yM) H ?_
 obtain rfl:k=cf.length:=by omega
 rw[List.take_length] at H
 exact⟨yO,yH,yM,QF,Qo,rfl,N,H.pick [0] [0]⟩
theorem Qq(w:World)(cf:yLL)(fW:zP w Cx ju i6 cf)(p0:Sm2 cf):Calls Tryz.prog 148 #[Sv ju cf.length i6] w (Ret (fun v w'=>∃(ra:yOA) (rn:Nat) (rc:Nat) (rx:List Value) (rF:yLN),v=Sv ra rn rc/\Fresh w.heap.size [rF]/\St w w' [rr ra rn rc 24 1 rx] [qQ true rF rx cf]) w):=by
 refine en func148 ntmps148 ?_
 have H:=(St.start w).arg fW
 have E6:=qM fW
 clear fW
 have N:=Fresh.nil w.heap.size
 have p1:=p0.1
 refine zcr<|sq 1<|zjc<|sw<|jH H underlying29 ti24 fun b1 w2 H=>sq 1<|zjcc<|sp (yI 0)<|zjn<|xe ?_
 replace H:=H.boxRow 0 rfl 1 0 rfl qj
 replace H:=H.yD (α:=yLI)
 refine zT ((fun Z0=>fun m' ρ w3=>∃(xP:Env) (yO:yOA) (yH:Nat) (yM:Nat) (out:yLL) (QF:List Value) (Qo:yLN) (i:Nat),ρ=upd (upd (upd xP 0<|Sv ju cf.length i6) 3<|Sv yO yH yM) 4 (yI i)/\out=cf.take i/\((i:Int)<=cf.length)/\m'=(cf.length-(i:Int)).toNat/\Fresh w.heap.size [Qo]/\St w w3 [rr yO yH yM 24 1 QF] [qQ true Qo QF out,Z0]) _) ((cf.length-(0:Int)).toNat) ⟨_,(aa b1 0),0,0,([]:yLL),[],[],0,uE3,(by rfl),qf,rfl,N.emp,H⟩ ?_
 clear H N
 rintro m' ρ w4 ⟨xP,yO,yH,yM,out,QF,Qo,i,rfl,rfl,i0,rfl,N,H⟩
 have Vm:=H.xk (α:=yLI) 0 rfl 0 rfl qj
 have p2:=p0.2 i
 rw[List.length_take_of_le qf] at Vm
 refine zcc<|sp (yI i)<|sq 1<|oN rfl<|sq 1<|zjn<|cD rfl (fun h5=>?_)<|fun h5=>?_
 ·refine qW (t_n<|xM<|xe<|xX<|sq 2<|sp (yI i) ?_)
  obtain⟨b6,o7,rfl⟩:=H.addr 1 rfl qf
  obtain⟨ae9,ce9,Fe9,H⟩:=H.yB 1 rfl i i qf qf qf
  refine oI rfl rfl<|oL rfl (H.zG 1 rfl 0 rfl) ?_
  have p3:=p2 qf
  refine sw<|oc (Vl _ (cf[i]!) (H.get 0 rfl).1 qg) ?_
  rintro v15 Dv r15 x14
  replace H:=H.zV x14 r15
  obtain⟨a16,c17,rfl,auX,axA⟩:=H.yf 0 rfl
  refine sw<|zy H underlying29 ti24 [Sv a16 ((cf[i]!).length) c17] fun I9 Pz H=>?_
  obtain⟨G25,N,aub,H⟩:=H.vJ 1 rfl N<|H.vV [2]
  refine sw<|zH H 2 rfl 0 rfl underlying29 ti24 rfl qj rfl rfl rfl qw qp qf fun a22 c23 D1 H=>?_
  replace H:=H.Q5 3 rfl 0 rfl
  replace N:Fresh w.heap.size [(Qo++G25)]:=(N.pick [1,0]).join
  refine sq 1<|xU<|b_n<|t_n<|xX<|sp (yI i)<|sw<|zS i 1 rfl rfl qf<|sq 1<|xU<|xu (m':=(cf.length-((i+1):Int)).toNat) qf ⟨_,_,_,_,_,_,_,i+1,uE3,?_,?_,rfl,N,H.pick [2] [0,5]⟩
  ·exact take_snoc qf
  ·omega
 refine zx4<|zcr<|sq 2<|zjr<|rH1 (Sv yO yH yM) H ?_
 obtain rfl:i=cf.length:=by omega
 rw[List.take_length] at H
 exact⟨yO,yH,yM,QF,Qo,rfl,N,H.pick [0] [0]⟩
theorem copyPuts_ok(w:World)(cf:List yLL)(fW:zP w Cx ju i6 cf)(p0:Sm3 cf):Calls Tryz.prog 72 #[Sv ju cf.length i6] w (Ret (fun v w'=>∃(ra:yOA) (rn:Nat) (rc:Nat) (rx:List Value) (rF:yLN),v=Sv ra rn rc/\Fresh w.heap.size [rF]/\St w w' [rr ra rn rc 29 1 rx] [qQ true rF rx cf]) w):=by
 refine en func72 ntmps72 ?_
 have H:=(St.start w).arg fW
 have E6:=qM fW
 clear fW
 have N:=Fresh.nil w.heap.size
 have p1:=p0.1
 refine zcr<|sq 1<|zjc<|sw<|jH H underlying45 ti29 fun b1 w2 H=>sq 1<|zjcc<|sq 1<|oN rfl<|sp (yI 0)<|zjn<|xe ?_
 replace H:=H.boxRow 0 rfl 1 0 rfl qj
 replace H:=H.yD (α:=yLL)
 refine zT ((fun Z0=>fun m' ρ w3=>∃(xP:Env) (yO:yOA) (yH:Nat) (yM:Nat) (out:List yLL) (QF:List Value) (Qo:yLN) (k:Nat),ρ=upd (upd (upd (upd xP 3<|Sv yO yH yM) 7<|Sv ju cf.length i6) 8<|yI cf.length) 9 (yI k)/\out=cf.take k/\((k:Int)<=cf.length)/\m'=(cf.length-(k:Int)).toNat/\Fresh w.heap.size [Qo]/\St w w3 [rr yO yH yM 29 1 QF] [qQ true Qo QF out,Z0]) _) ((cf.length-(0:Int)).toNat) ⟨_,(aa b1 0),0,0,([]:List yLL),[],[],0,uE4,(by rfl),qf,rfl,N.emp,H⟩ ?_
 clear H N
 rintro m' ρ w4 ⟨xP,yO,yH,yM,out,QF,Qo,k,rfl,rfl,i0,rfl,N,H⟩
 have Vm:=H.xk (α:=yLL) 0 rfl 0 rfl qj
 have p2:=p0.2 k
 rw[List.length_take_of_le qf] at Vm
 refine zcr<|sq 1<|zjn<|xM<|cD rfl (fun h5=>?_)<|fun h5=>?_
 ·refine qW (t_n<|xM<|xe<|zcr ?_)
  obtain⟨b6,o7,rfl⟩:=H.addr 1 rfl qf
  obtain⟨ae9,ce9,Fe9,H⟩:=H.yB 1 rfl k k qf qf qf
  refine oI rfl rfl<|oL rfl (H.zG 1 rfl 0 rfl)<|sq 1<|zjn<|xX<|sq 2 ?_
  have p3:=p2 qf
  have aaX:=H.base.size
  have acO:=H.ltN (L:=[Qo]) [2]
  refine sw<|oc (Xh _ (cf[k]!) (H.get 0 rfl).1 qg) ?_
  rintro _ BF ⟨wP,ao4,kB,au3,ES,rfl,M,K⟩ _
  replace N:=N.merge aaX acO M
  replace H:=H.merge K M
  obtain rfl:=H.xk (α:=yLI) 0 rfl 0 rfl qj
  refine sw<|zy H underlying45 ti29 [Sv wP ((cf[k]!).length) kB] fun VT J8 H=>?_
  have H0:=H
  obtain⟨G21,Mm,axH,H⟩:=H.jA (α:=yLI) 1 rfl 0 rfl qj
  replace N:Fresh w.heap.size [G21,Qo]:=Fresh.ice N H0 1 Mm.1 Mm.2<|H0.vV [3]
  clear H0
  refine sw<|zH H 2 rfl 0 rfl underlying45 ti29 rfl qj rfl rfl rfl qw qp qf fun Px Pv KA H=>?_
  replace H:=H.Q5 4 rfl 0 rfl
  replace N:Fresh w.heap.size [(Qo++G21)]:=(N.pick [1,0]).join
  refine sq 1<|xU<|b_n<|t_n<|xX<|sw<|zS k 1 rfl rfl qf<|sq 1<|xU<|xu (m':=(cf.length-((k+1):Int)).toNat) qf ⟨_,_,_,_,_,_,_,k+1,uE4,?_,?_,rfl,N,H.pick [2] [0,6]⟩
  ·exact take_snoc qf
  ·omega
 refine zx4<|zcr<|sq 2<|zjr<|rH1 (Sv yO yH yM) H ?_
 obtain rfl:k=cf.length:=by omega
 rw[List.take_length] at H
 exact⟨yO,yH,yM,QF,Qo,rfl,N,H.pick [0] [0]⟩
theorem XH(w:World)(cf:List yLL)(fW:zP w Cx ju i6 cf)(p0:Sm3 cf):Calls Tryz.prog 149 #[Sv ju cf.length i6] w (Ret (fun v w'=>∃(ra:yOA) (rn:Nat) (rc:Nat) (rx:List Value) (rF:yLN),v=Sv ra rn rc/\Fresh w.heap.size [rF]/\St w w' [rr ra rn rc 29 1 rx] [qQ true rF rx cf]) w):=by
 refine en func149 ntmps149 ?_
 have H:=(St.start w).arg fW
 have E6:=qM fW
 clear fW
 have N:=Fresh.nil w.heap.size
 have p1:=p0.1
 refine zcr<|sq 1<|zjc<|sw<|jH H underlying45 ti29 fun b1 w2 H=>sq 1<|zjcc<|sp (yI 0)<|zjn<|xe ?_
 replace H:=H.boxRow 0 rfl 1 0 rfl qj
 replace H:=H.yD (α:=yLL)
 refine zT ((fun Z0=>fun m' ρ w3=>∃(xP:Env) (yO:yOA) (yH:Nat) (yM:Nat) (out:List yLL) (QF:List Value) (Qo:yLN) (i:Nat),ρ=upd (upd (upd xP 0<|Sv ju cf.length i6) 3<|Sv yO yH yM) 4 (yI i)/\out=cf.take i/\((i:Int)<=cf.length)/\m'=(cf.length-(i:Int)).toNat/\Fresh w.heap.size [Qo]/\St w w3 [rr yO yH yM 29 1 QF] [qQ true Qo QF out,Z0]) _) ((cf.length-(0:Int)).toNat) ⟨_,(aa b1 0),0,0,([]:List yLL),[],[],0,uE3,(by rfl),qf,rfl,N.emp,H⟩ ?_
 clear H N
 rintro m' ρ w4 ⟨xP,yO,yH,yM,out,QF,Qo,i,rfl,rfl,i0,rfl,N,H⟩
 have Vm:=H.xk (α:=yLL) 0 rfl 0 rfl qj
 have p2:=p0.2 i
 rw[List.length_take_of_le qf] at Vm
 refine zcc<|sp (yI i)<|sq 1<|oN rfl<|sq 1<|zjn<|cD rfl (fun h5=>?_)<|fun h5=>?_
 ·refine qW (t_n<|xM<|xe<|xX<|sq 2<|sp (yI i) ?_)
  obtain⟨b6,o7,rfl⟩:=H.addr 1 rfl qf
  obtain⟨ae9,ce9,Fe9,H⟩:=H.yB 1 rfl i i qf qf qf
  refine oI rfl rfl<|oL rfl (H.zG 1 rfl 0 rfl) ?_
  have p3:=p2 qf
  have aaX:=H.base.size
  have acO:=H.ltN (L:=[Qo]) [2]
  refine sw<|oc (Qq _ (cf[i]!) (H.get 0 rfl).1 qg) ?_
  rintro _ BF ⟨wP,ao4,kB,au3,ES,rfl,M,K⟩ _
  replace N:=N.merge aaX acO M
  replace H:=H.merge K M
  obtain rfl:=H.xk (α:=yLI) 0 rfl 0 rfl qj
  refine sw<|zy H underlying45 ti29 [Sv wP ((cf[i]!).length) kB] fun VT J8 H=>?_
  have H0:=H
  obtain⟨G21,Mm,axH,H⟩:=H.jA (α:=yLI) 1 rfl 0 rfl qj
  replace N:Fresh w.heap.size [G21,Qo]:=Fresh.ice N H0 1 Mm.1 Mm.2<|H0.vV [3]
  clear H0
  refine sw<|zH H 2 rfl 0 rfl underlying45 ti29 rfl qj rfl rfl rfl qw qp qf fun Px Pv KA H=>?_
  replace H:=H.Q5 4 rfl 0 rfl
  replace N:Fresh w.heap.size [(Qo++G21)]:=(N.pick [1,0]).join
  refine sq 1<|xU<|b_n<|t_n<|xX<|sp (yI i)<|sw<|zS i 1 rfl rfl qf<|sq 1<|xU<|xu (m':=(cf.length-((i+1):Int)).toNat) qf ⟨_,_,_,_,_,_,_,i+1,uE3,?_,?_,rfl,N,H.pick [2] [0,6]⟩
  ·exact take_snoc qf
  ·omega
 refine zx4<|zcr<|sq 2<|zjr<|rH1 (Sv yO yH yM) H ?_
 obtain rfl:i=cf.length:=by omega
 rw[List.take_length] at H
 exact⟨yO,yH,yM,QF,Qo,rfl,N,H.pick [0] [0]⟩
theorem Vf(w:World)(d:zA)(vl:zP w MA vR ug d.qG)(nf:zP w CL ln kM d.qF)(zr:zP w Wf u9 wa d.vM)(m3:zP w B5 gK gO d.qL)(Dw:zP w Un pR pO d.vX)(vn:zP w Lr kA kr d.x8)(p0:SmD d):Calls Tryz.prog 28 #[.agg #[yI d.qP,Sv vR d.qG.length ug,Sv ln d.qF.length kM,Bv d.qV,Sv u9 d.vM.length wa,Sv gK d.qL.length gO,Sv pR d.vX.length pO,Sv kA d.x8.length kr]] w (Ret (fun v w'=>∃(uU:yOA) (uS:Nat) (va:yLN) (nG:yOA) (nF:Nat) (Co:yLN) (Cs:yOA) (Cl:Nat) (TD:yLN) (mX:yOA) (mE:Nat) (ny:yLN) (Ce:yOA) (DF:Nat) (DC:yLN) (vy:yOA) (wc:Nat) (wm:yLN),v=.agg #[yI d.qP,Sv uU d.qG.length uS,Sv nG d.qF.length nF,Bv d.qV,Sv Cs d.vM.length Cl,Sv mX d.qL.length mE,Sv Ce d.vX.length DF,Sv vy d.x8.length wc]/\Fresh w.heap.size [va,Co,TD,ny,DC,wm]/\St w w' [] [sF true va uU uS d.qG,sF true Co nG nF d.qF,sF true TD Cs Cl d.vM,sF true ny mX mE d.qL,sF true DC Ce DF d.vX,sF true wm vy wc d.x8]) w):=by
 refine en func28 ntmps28 ?_
 have H:=((((((St.start w).arg vn).arg Dw).arg m3).arg zr).arg nf).arg vl
 clear vl nf zr m3 Dw vn
 have N:=Fresh.nil w.heap.size
 have p1:=p0.bags
 have p2:=p0.around
 have p3:=p0.got
 have p4:=p0.coming
 have p5:=p0.now
 have p6:=p0.last
 refine zcr<|sw<|jq H [yI d.qP,Sv vR d.qG.length ug,Sv ln d.qF.length kM,Bv d.qV,Sv u9 d.vM.length wa,Sv gK d.qL.length gO,Sv pR d.vX.length pO,Sv kA d.x8.length kr] fun b1 w2 H=>sw<|zn H ti47 [yI 0,yN,yN,Bv false,yN,yN,yN,yN] fun b3 w4 H=>zjn<|xM<|vK 7 rfl H [0,1] [0,1,2,3,4,5] fun H=>?_
 dsimp only[yg,yL]
 refine tF 0 rfl rfl H ?_
 refine tL 1 rfl rfl (fun _ h=>h.cell 1 rfl rfl) H ?_
 refine tF 3 rfl rfl H ?_
 refine tL 4 rfl rfl (fun _ h=>h.cell 1 rfl rfl) H ?_
 refine tF 6 rfl rfl H ?_
 refine tL 7 rfl rfl (fun _ h=>h.cell 1 rfl rfl) H ?_
 refine tF 9 rfl rfl H ?_
 refine tL 10 rfl rfl (fun _ h=>h.cell 1 rfl rfl) H ?_
 refine ro 2 rfl ?_
 have sz9:=H.base.size
 refine oc (Xh _ d.qG (H.get 0 rfl).1 qg) ?_
 rintro _ w7 ⟨pq,rn6,FW,rx6,rF6,rfl,M,K⟩ _
 replace N:=N.merge sz9 qm M
 replace H:=H.merge K M
 obtain rfl:=H.xk (α:=yLI) 0 rfl 0 rfl qj
 refine⟨H.pick [1,2]<|zR 1 6,(tF 12 rfl rfl (H.pick [1,2]<|zR 1 6) ?_)⟩
 refine ro 5 rfl<|oc (cloneI_ok _ d.qF (H.get 2 rfl).1 qg) ?_
 rintro v17 H7 r17 x16
 replace H:=H.zV x16 r17
 obtain⟨Px,Pv,rfl,aF0,aGG⟩:=H.yf 0 rfl
 refine⟨H.pick [2,3]<|zR 1 6,(ro 8 rfl ?_)⟩
 refine oc (cloneB_ok _ d.vM (H.get 3 rfl).1 qg) ?_
 rintro _ Kf ⟨fb,aCH,eR,rfl,M,K⟩ _
 replace H:=H.merge K M
 obtain rfl:=H.rowNB 0 rfl
 refine⟨H.pick [3,4]<|zR 1 6,(ro 11 rfl ?_)⟩
 have aaM:=H.base.size
 have aaH:=H.ltN (L:=[rF6]) [0]
 refine oc (Xh _ d.qL (H.get 4 rfl).1 qg) ?_
 rintro _ JJ ⟨eh,acx,pI,auz,c7,rfl,M,K⟩ _
 replace N:=N.merge aaM aaH M
 replace H:=H.merge K M
 obtain rfl:=H.xk (α:=yLI) 0 rfl 0 rfl qj
 refine⟨H.pick [4,5]<|zR 2 6,(xy qh<|xZ<|sw<|zh H 5 [yI d.qP,Sv pq d.qG.length FW,Sv ln d.qF.length kM,Bv d.qV,Sv u9 d.vM.length wa,Sv gK d.qL.length gO,Sv pR d.vX.length pO,Sv kA d.x8.length kr] sizeOf29 fun w34 H=>oF rfl ?_)⟩
 refine sw<|zh H 5 [yI d.qP,Sv pq d.qG.length FW,Sv Px d.qF.length Pv,Bv d.qV,Sv u9 d.vM.length wa,Sv gK d.qL.length gO,Sv pR d.vX.length pO,Sv kA d.x8.length kr] sizeOf24 fun Na H=>oF rfl ?_
 refine sw<|zh H 5 [yI d.qP,Sv pq d.qG.length FW,Sv Px d.qF.length Pv,Bv d.qV,Sv fb d.vM.length eR,Sv gK d.qL.length gO,Sv pR d.vX.length pO,Sv kA d.x8.length kr] sizeOf28 fun FY H=>oF rfl ?_
 refine sw<|zh H 5 [yI d.qP,Sv pq d.qG.length FW,Sv Px d.qF.length Pv,Bv d.qV,Sv fb d.vM.length eR,Sv eh d.qL.length pI,Sv pR d.vX.length pO,Sv kA d.x8.length kr] sizeOf29 fun w37 H=>zjn<|xM<|vK 3 rfl H [0,1,2,3,4,5] [0,1,2,3,4,5,6,7] fun H=>?_
 dsimp only[yg,yL]
 refine tF 0 rfl rfl H ?_
 refine tL 1 rfl rfl (fun _ h=>h.cell 5 rfl rfl) H ?_
 refine tF 3 rfl rfl H ?_
 refine tL 4 rfl rfl (fun _ h=>h.cell 5 rfl rfl) H ?_
 refine ro 2 rfl ?_
 have as6:=H.base.size
 have at9:=H.ltN (L:=[c7,rF6]) [0,1]
 refine oc (copyPuts_ok _ d.vX (H.get 6 rfl).1 qg) ?_
 rintro _ w40 ⟨Pd,aCM,Li,aFB,Om,rfl,M,K⟩ _
 replace N:=N.merge as6 at9 M
 replace H:=H.merge K M
 obtain rfl:=H.xk (α:=yLL) 0 rfl 0 rfl qj
 refine⟨H.pick (zR 1 6)<|zR 1 8,(tF 6 rfl rfl (H.pick (zR 1 6)<|zR 1 8) ?_)⟩
 refine ro 5 rfl ?_
 have avQ:=H.base.size
 have atw:=H.ltN (L:=[Om,c7,rF6]) [0,1,2]
 refine oc (copyPuts_ok _ d.x8 (H.get 8 rfl).1 qg) ?_
 rintro _ SF ⟨Sw,aEx,Eq,aEG,aaW,rfl,M,K⟩ _
 replace N:=N.merge avQ atw M
 replace H:=H.merge K M
 obtain rfl:=H.xk (α:=yLL) 0 rfl 0 rfl qj
 refine⟨H.pick (zR 2 6)<|zR 2 8,(xy qh<|xZ<|sw<|zh H 7 [yI d.qP,Sv pq d.qG.length FW,Sv Px d.qF.length Pv,Bv d.qV,Sv fb d.vM.length eR,Sv eh d.qL.length pI,Sv Pd d.vX.length Li,Sv kA d.x8.length kr] sizeOf45 fun w51 H=>oF rfl ?_)⟩
 refine sw<|zh H 7 [yI d.qP,Sv pq d.qG.length FW,Sv Px d.qF.length Pv,Bv d.qV,Sv fb d.vM.length eR,Sv eh d.qL.length pI,Sv Pd d.vX.length Li,Sv Sw d.x8.length Eq] sizeOf45 fun T2 H=>zjc<|sw<|xW [yI d.qP,Sv pq d.qG.length FW,Sv Px d.qF.length Pv,Bv d.qV,Sv fb d.vM.length eR,Sv eh d.qL.length pI,Sv Pd d.vX.length Li,Sv Sw d.x8.length Eq] isAgg47 sizeOf47 rfl (qH (H.cells 7 rfl) 0 8)<|sw<|zF H 6 [yI d.qP,Sv pq d.qG.length FW,Sv Px d.qF.length Pv,Bv d.qV,Sv fb d.vM.length eR,Sv eh d.qL.length pI,Sv Pd d.vX.length Li,Sv Sw d.x8.length Eq] sizeOf47 fun w53 H=>zjr ?_
 have H0:=H
 obtain⟨Kd,abn,atg,H⟩:=H.jA (α:=yLI) 5 rfl 3 rfl qj
 replace N:Fresh w.heap.size [Kd,aaW,Om,c7]:=Fresh.ice (N.pick [3,0,1,2]) H0 5 abn.1 abn.2<|H0.vV [0,1,2]
 clear H0
 obtain⟨BK,N,alk,H⟩:=H.vJ 4 rfl N<|H.vV<|zR 0 4
 obtain⟨G59,N,at7,H⟩:=H.freezeB 3 rfl N<|H.vV<|zR 0 5
 have H0:=H
 obtain⟨G61,akK,aDV,H⟩:=H.jA (α:=yLI) 2 rfl 5 rfl qj
 replace N:Fresh w.heap.size [G61,G59,BK,Kd,aaW,Om]:=Fresh.ice (N.pick (5::zR 0 5)) H0 2 akK.1 akK.2<|H0.vV<|zR 0 5
 clear H0
 have H0:=H
 obtain⟨G64,alH,aGe,H⟩:=H.jA (α:=yLL) 1 rfl 5 rfl qj
 replace N:Fresh w.heap.size [G64,G61,G59,BK,Kd,aaW]:=Fresh.ice (N.pick (5::zR 0 5)) H0 1 alH.1 alH.2<|H0.vV<|zR 0 5
 clear H0
 have H0:=H
 obtain⟨G67,ahv,aF2,H⟩:=H.jA (α:=yLL) 0 rfl 5 rfl qj
 replace N:Fresh w.heap.size [G67,G64,G61,G59,BK,Kd]:=Fresh.ice (N.pick (5::zR 0 5)) H0 0 ahv.1 ahv.2<|H0.vV<|zR 0 5
 clear H0
 refine retC H 6 rfl rfl isAgg47 sizeOf47 rfl ⟨_,rfl,(⟨pq,FW,Kd,Px,Pv,BK,fb,eR,G59,eh,pI,G61,Pd,Li,G64,Sw,Eq,G67,rfl,(N.pick [5,4,3,2,1,0]),H.pick [] [5,4,3,2,1,0]⟩),H.base⟩
theorem l08Copy_ok(w:World)(d:zA){bd od:Nat}(hd:jI w bd od [yI d.qP,Sv vR d.qG.length ug,Sv ln d.qF.length kM,Bv d.qV,Sv u9 d.vM.length wa,Sv gK d.qL.length gO,Sv pR d.vX.length pO,Sv kA d.x8.length kr])(vl:zP w MA vR ug d.qG)(nf:zP w CL ln kM d.qF)(zr:zP w Wf u9 wa d.vM)(m3:zP w B5 gK gO d.qL)(Dw:zP w Un pR pO d.vX)(vn:zP w Lr kA kr d.x8)(p0:SmD d):Calls Tryz.prog 103 #[pp bd od] w (Ret (fun v w'=>∃(uU:yOA) (M3:Nat) (uS:Nat) (Nh:List Value) (va:yLN) (nG:yOA) (Cf:Nat) (nF:Nat) (Cs:yOA) (Yg:Nat) (Cl:Nat) (mX:yOA) (CO:Nat) (mE:Nat) (Cm:List Value) (ny:yLN) (Ce:yOA) (Uj:Nat) (DF:Nat) (T1:List Value) (DC:yLN) (vy:yOA) (Oy:Nat) (wc:Nat) (OI:List Value) (wm:yLN),v=.agg #[yI d.qP,Sv uU M3 uS,Sv nG Cf nF,Bv d.qV,Sv Cs Yg Cl,Sv mX CO mE,Sv Ce Uj DF,Sv vy Oy wc]/\Fresh w.heap.size [va,ny,DC,wm]/\St w w' [rr uU M3 uS 24 1 Nh,rr nG Cf nF 2 1<|d.qF.map<|Value.int .i64,rr Cs Yg Cl 4 1<|d.vM.map<|Value.bool,rr mX CO mE 24 1 Cm,rr Ce Uj DF 29 1 T1,rr vy Oy wc 29 1 OI] [qQ true va Nh d.qG,qQ true ny Cm d.qL,qQ true DC T1 d.vX,qQ true wm OI d.x8]) w):=by
 refine en func103 ntmps103 ?_
 have H:=(((((((St.start w).arg vn).arg Dw).arg m3).arg zr).arg nf).arg vl).argAt hd
 have ayD:=qM zr
 clear hd vl nf zr m3 Dw vn
 have N:=Fresh.nil w.heap.size
 have p1:=p0.bags
 have p2:=p0.around
 have p3:=p0.got
 have p4:=p0.coming
 have p5:=p0.now
 have p6:=p0.last
 refine zcr<|sw<|zn H ti47 [yI 0,yN,yN,Bv false,yN,yN,yN,yN] fun b1 w2 H=>zjn<|xM<|c_lateC 2 (fun ρ Kf=>∃(xP:Env) (ra3:yOA) (rc4:Nat) (a5:yOA) (c6:Nat) (a7:yOA) (c8:Nat) (Gf:yOA) (kB:Nat) (uW:yOA) (EV:Nat) (oP:yOA) (gE:Nat) (Ta:List Value) (Aa:List Value) (IM:List Value) (SY:List Value) (P1:yLN) (JF:yLN) (Ii:yLN) (nZ:yLN),ρ=upd (upd (upd (upd (upd (upd (upd (upd (upd xP 2<|pp b1 0) 6<|yI d.qP) 11<|Sv ra3 d.qG.length rc4) 16<|Sv a5 d.qF.length c6) 20<|Bv d.qV) 26<|Sv a7 (0+d.vM.length) c8) 31<|Sv Gf d.qL.length kB) 36<|Sv uW d.vX.length EV) 41 (Sv oP d.x8.length gE)/\Fresh w.heap.size [P1,JF,Ii,nZ]/\St w Kf [rr oP d.x8.length gE 29 1 Ta,rr uW d.vX.length EV 29 1 Aa,rr Gf d.qL.length kB 24 1 IM,rr a7 (0+d.vM.length) c8 4 1 ((([]:List Bool)++d.vM).map<|Value.bool),rr a5 d.qF.length c6 2 1<|d.qF.map<|Value.int .i64,rr ra3 d.qG.length rc4 24 1 SY,.box b1 [yI 0,yN,yN,Bv false,yN,yN,yN,yN] 47] [qQ true P1 Ta d.x8,qQ true JF Aa d.vX,qQ true Ii IM d.qL,qQ true nZ SY d.qG]) rfl H [0] [0,1,2,3,4,5,6] (fun H=>?_) ?_
 ·dsimp only[yg,yL]
  refine rtl 0 H ?_
  refine rtl 1 H ?_
  refine tF 2 rfl rfl H ?_
  refine tL 3 rfl rfl (fun _ h=>h.zG 0 rfl 0 rfl) H ?_
  refine rtl 4 H ?_
  refine rtl 5 H ?_
  refine tF 6 rfl rfl H ?_
  refine tL 7 rfl rfl (fun _ h=>h.zG 0 rfl 1 rfl) H ?_
  refine rtl 9 H ?_
  refine rtl 10 H ?_
  refine tF 11 rfl rfl H ?_
  refine tL 12 rfl rfl (fun _ h=>h.zG 0 rfl 2 rfl) H ?_
  refine rtl 14 H ?_
  refine rtl 15 H ?_
  refine tF 16 rfl rfl H ?_
  refine tL 17 rfl rfl (fun _ h=>h.zG 0 rfl 3 rfl) H ?_
  refine rtl 19 H ?_
  refine rtl 20 H ?_
  refine tF 21 rfl rfl H ?_
  refine tL 22 rfl rfl (fun _ h=>h.zG 0 rfl 4 rfl) H ?_
  refine rtl 24 H ?_
  refine rtl 25 H ?_
  refine tF 26 rfl rfl H ?_
  refine tL 27 rfl rfl (fun _ h=>h.zG 0 rfl 5 rfl) H ?_
  refine rtl 29 H ?_
  refine rtl 30 H ?_
  refine tF 31 rfl rfl H ?_
  refine tL 32 rfl rfl (fun _ h=>h.zG 0 rfl 6 rfl) H ?_
  refine rtl 34 H ?_
  refine rtl 35 H ?_
  refine tF 36 rfl rfl H ?_
  refine tL 37 rfl rfl (fun _ h=>h.zG 0 rfl 7 rfl) H ?_
  refine jC [8,18] qh qm<|yV rfl ?_<|yV rfl ?_ jD
  ·have axh:=H.base.size
   refine oc (Qq _ d.qG (H.get 1 rfl).1 qg) ?_
   rintro _ Fq ⟨fU,axT,Sy,aaf,Cu,rfl,M,K⟩ _
   replace N:=N.merge axh qm M
   replace H:=H.merge K M
   obtain rfl:=H.xk (α:=yLI) 0 rfl 0 rfl qj
   refine⟨H.pick [1]<|zR 1 7,(jC [13,18] qh qm<|yV rfl ?_<|yV rfl ?_ jD)⟩
   ·refine oc (Vl _ d.qF (H.get 3 rfl).1 qg) ?_
    rintro v36 w34 r36 x35
    replace H:=H.zV x35 r36
    obtain⟨a37,c38,rfl,aHu,aFe⟩:=H.yf 0 rfl
    refine⟨H.pick [2]<|zR 1 7,(ro 18 rfl<|jH H underlying28 ti4 fun GO Sh H=>⟨H.pick [3]<|zR 1 7,(ro 23 rfl ?_)⟩)⟩
    replace H:=H.boxRowB 0 [] 0
    refine VH H 0 rfl 4 rfl underlying28 ti4 rfl qj rfl rfl qp qf fun a43 c44 w45 aFJ IQ H aHY=>?_
    obtain⟨_,rfl⟩:=reps_bools (H.get 0 rfl).1
    replace H:=H.sub _ fun f hf=>List.mem_cons_of_mem _ hf
    rw[catB] at H
    refine⟨H.pick [3]<|zR 1 7,(ro 28 rfl ?_)⟩
    have aw9:=H.base.size
    have axr:=H.ltN (L:=[Cu]) [0]
    refine oc (Qq _ d.qL (H.get 5 rfl).1 qg) ?_
    rintro _ w50 ⟨awv,aGS,atp,atR,P7,rfl,M,K⟩ _
    replace N:=N.merge aw9 axr M
    replace H:=H.merge K M
    obtain rfl:=H.xk (α:=yLI) 0 rfl 0 rfl qj
    refine⟨H.pick [4]<|zR 2 7,(ro 33 rfl ?_)⟩
    have ab0:=H.base.size
    have abQ:=H.ltN (L:=[P7,Cu]) [0,1]
    refine oc (XH _ d.vX (H.get 7 rfl).1 qg) ?_
    rintro _ w56 ⟨A8,auM,AH,aeQ,aaQ,rfl,M,K⟩ _
    replace N:=N.merge ab0 abQ M
    replace H:=H.merge K M
    obtain rfl:=H.xk (α:=yLL) 0 rfl 0 rfl qj
    refine⟨H.pick [5]<|zR 3 7,(ro 38 rfl ?_)⟩
    have Zi:=H.base.size
    have acA:=H.ltN (L:=[aaQ,P7,Cu]) [0,1,2]
    refine oc (XH _ d.x8 (H.get 9 rfl).1 qg) ?_
    rintro _ w62 ⟨K8,aw0,MT,ant,ani,rfl,M,K⟩ _
    replace N:=N.merge Zi acA M
    replace H:=H.merge K M
    obtain rfl:=H.xk (α:=yLL) 0 rfl 0 rfl qj
    refine⟨H.pick [6]<|zR 4 7,(xy qh ((meet ⟨_,fU,Sy,a37,c38,a43,c44,awv,atp,A8,AH,K8,MT,ant,aeQ,atR,aaf,ani,aaQ,P7,Cu,uE9,N,H.pick (zR 0 7)<|zR 0 4⟩)))⟩
   refine jH H underlying28 ti4 fun b67 w68 H=>⟨H.pick [2]<|zR 1 7,(ro 13 rfl ?_)⟩
   refine oc (Vl _ d.qF (H.get 3 rfl).1 qg) ?_
   rintro v74 Kc r74 x73
   replace H:=H.zV x73 r74
   obtain⟨a75,c76,rfl,avp,avS⟩:=H.yf 0 rfl
   refine⟨H.pick [3]<|zR 1 7,(ro 23 rfl ?_)⟩
   replace H:=H.boxRowB 1 [] 0
   refine VH H 1 rfl 4 rfl underlying28 ti4 rfl qj rfl rfl qp qf fun a79 c80 w81 aIX G83 H aFg=>?_
   obtain⟨_,rfl⟩:=reps_bools (H.get 0 rfl).1
   replace H:=H.sub _ fun f hf=>List.mem_cons_of_mem _ hf
   rw[catB] at H
   refine⟨H.pick [3]<|zR 1 7,(ro 28 rfl ?_)⟩
   have ax9:=H.base.size
   have axG:=H.ltN (L:=[Cu]) [0]
   refine oc (Qq _ d.qL (H.get 5 rfl).1 qg) ?_
   rintro _ w86 ⟨rH,aHQ,awT,atL,Dy,rfl,M,K⟩ _
   replace N:=N.merge ax9 axG M
   replace H:=H.merge K M
   obtain rfl:=H.xk (α:=yLI) 0 rfl 0 rfl qj
   refine⟨H.pick [4]<|zR 2 7,(ro 33 rfl ?_)⟩
   have axW:=H.base.size
   have ayh:=H.ltN (L:=[Dy,Cu]) [0,1]
   refine oc (XH _ d.vX (H.get 7 rfl).1 qg) ?_
   rintro _ w92 ⟨awy,aGC,av5,av1,apL,rfl,M,K⟩ _
   replace N:=N.merge axW ayh M
   replace H:=H.merge K M
   obtain rfl:=H.xk (α:=yLL) 0 rfl 0 rfl qj
   refine⟨H.pick [5]<|zR 3 7,(ro 38 rfl ?_)⟩
   have ag4:=H.base.size
   have aoR:=H.ltN (L:=[apL,Dy,Cu]) [0,1,2]
   refine oc (XH _ d.x8 (H.get 9 rfl).1 qg) ?_
   rintro _ w98 ⟨ave,aDZ,Ju,asX,aww,rfl,M,K⟩ _
   replace N:=N.merge ag4 aoR M
   replace H:=H.merge K M
   obtain rfl:=H.xk (α:=yLL) 0 rfl 0 rfl qj
   refine⟨H.pick [6]<|zR 4 7,(xy qh ((meet ⟨_,fU,Sy,a75,c76,a79,c80,rH,awT,awy,av5,ave,Ju,asX,av1,atL,aaf,aww,apL,Dy,Cu,uE9,N,H.pick [0,1,2,4,3,5,6]<|zR 0 4⟩)))⟩
  refine jH H underlying28 ti4 fun Me MU H=>⟨H.pick [1]<|zR 0 7,(ro 8 rfl ?_)⟩
  have apI:=H.base.size
  refine oc (Qq _ d.qG (H.get 1 rfl).1 qg) ?_
  rintro _ abR ⟨yv,aeu,afy,am1,GC,rfl,M,K⟩ _
  replace N:=N.merge apI qm M
  replace H:=H.merge K M
  obtain rfl:=H.xk (α:=yLI) 0 rfl 0 rfl qj
  refine⟨H.pick [2]<|zR 1 7,(ro 13 rfl ?_)⟩
  refine oc (Vl _ d.qF (H.get 3 rfl).1 qg) ?_
  rintro aEi OT aug avB
  replace H:=H.zV avB aug
  obtain⟨ax5,asH,rfl,aCk,az4⟩:=H.yf 0 rfl
  refine⟨H.pick [3]<|zR 1 7,(ro 23 rfl ?_)⟩
  replace H:=H.boxRowB 2 [] 0
  refine VH H 2 rfl 4 rfl underlying28 ti4 rfl qj rfl rfl qp qf fun at1 as9 MB ayO aCV H azb=>?_
  obtain⟨_,rfl⟩:=reps_bools (H.get 0 rfl).1
  replace H:=H.sub _ fun f hf=>List.mem_cons_of_mem _ hf
  rw[catB] at H
  refine⟨H.pick [3]<|zR 1 7,(ro 28 rfl ?_)⟩
  have ahn:=H.base.size
  have amw:=H.ltN (L:=[GC]) [0]
  refine oc (Qq _ d.qL (H.get 5 rfl).1 qg) ?_
  rintro _ Rt ⟨akt,aAx,aom,aiu,Lc,rfl,M,K⟩ _
  replace N:=N.merge ahn amw M
  replace H:=H.merge K M
  obtain rfl:=H.xk (α:=yLI) 0 rfl 0 rfl qj
  refine⟨H.pick [4]<|zR 2 7,(ro 33 rfl ?_)⟩
  have aiW:=H.base.size
  have afN:=H.ltN (L:=[Lc,GC]) [0,1]
  refine oc (XH _ d.vX (H.get 7 rfl).1 qg) ?_
  rintro _ ans ⟨ah1,azt,amV,alU,To,rfl,M,K⟩ _
  replace N:=N.merge aiW afN M
  replace H:=H.merge K M
  obtain rfl:=H.xk (α:=yLL) 0 rfl 0 rfl qj
  refine⟨H.pick [5]<|zR 3 7,(ro 38 rfl ?_)⟩
  have Lb:=H.base.size
  have MV:=H.ltN (L:=[To,Lc,GC]) [0,1,2]
  refine oc (XH _ d.x8 (H.get 9 rfl).1 qg) ?_
  rintro _ anO ⟨M4,UF,MS,OV,No,rfl,M,K⟩ _
  replace N:=N.merge Lb MV M
  replace H:=H.merge K M
  obtain rfl:=H.xk (α:=yLL) 0 rfl 0 rfl qj
  refine⟨H.pick [6]<|zR 4 7,(xy qh ((meet ⟨_,yv,afy,ax5,asH,at1,as9,akt,aom,ah1,amV,M4,MS,OV,alU,aiu,am1,No,To,Lc,GC,uE9,N,H.pick [0,1,2,5,3,4,6]<|zR 0 4⟩)))⟩
 clear H N
 rintro ρ abE ⟨xP,ra3,rc4,a5,c6,a7,c8,Gf,kB,uW,EV,oP,gE,Ta,Aa,IM,SY,P1,JF,Ii,nZ,rfl,N,H⟩
 refine sw<|jE [yI d.qP,Sv ra3 d.qG.length rc4,Sv a5 d.qF.length c6,Bv d.qV,Sv a7 (0+d.vM.length) c8,Sv Gf d.qL.length kB,Sv uW d.vX.length EV,Sv oP d.x8.length gE] [(0,yI d.qP),(1,Sv ra3 d.qG.length rc4),(2,Sv a5 d.qF.length c6),(3,Bv d.qV),(4,Sv a7 (0+d.vM.length) c8),(5,Sv Gf d.qL.length kB),(6,Sv uW d.vX.length EV),(7,Sv oP d.x8.length gE)]<|sw<|zF H 6 [yI d.qP,Sv ra3 d.qG.length rc4,Sv a5 d.qF.length c6,Bv d.qV,Sv a7 (0+d.vM.length) c8,Sv Gf d.qL.length kB,Sv uW d.vX.length EV,Sv oP d.x8.length gE] sizeOf47 fun Mn H=>zjr<|retC H 6 rfl rfl isAgg47 sizeOf47 rfl ⟨_,rfl,(⟨ra3,d.qG.length,rc4,SY,nZ,a5,d.qF.length,c6,a7,0+d.vM.length,c8,Gf,d.qL.length,kB,IM,Ii,uW,d.vX.length,EV,Aa,JF,oP,d.x8.length,gE,Ta,P1,rfl,(N.pick [3,2,1,0]),H.pick [5,4,3,2,1,0] [3,2,1,0]⟩),H.base⟩
theorem added_ok(w:World)(cf:yLL)(more:yLL){ic:yOA}{hZ:Nat}{mw:yLN}(fW:zP w Cx ju i6 cf)(mJ:zP w mw ic hZ more)(p0:cf.length<=more.length/\cf.length<=1000000)(p1:∀k,k<cf.length->(cf[k]!).length<=(more[k]!).length/\Mid (cf[k]!)/\X8 (more[k]!) 1):Calls Tryz.prog 145 #[Sv ju cf.length i6,Sv ic more.length hZ] w (Ret (fun v w'=>∃(ra:yOA) (rn:Nat) (rc:Nat) (rx:List Value) (rF:yLN),v=Sv ra rn rc/\Fresh w.heap.size [rF]/\St w w' [rr ra rn rc 24 1 rx] [qQ true rF rx<|QB cf more]) w):=by
 refine en func145 ntmps145 ?_
 have H:=((St.start w).arg mJ).arg fW
 have avs:=qM mJ
 clear fW mJ
 have N:=Fresh.nil w.heap.size
 refine zcr<|sq 1<|zjc<|sw<|jH H underlying29 ti24 fun b1 w2 H=>sq 1<|zjcc<|sq 1<|oN rfl<|sp (yI 0)<|zjn<|xe ?_
 replace H:=H.boxRow 0 rfl 1 0 rfl qj
 replace H:=H.yD (α:=yLI)
 refine zT ((fun Z0 Z1=>fun m' ρ w3=>∃(xP:Env) (yO:yOA) (yH:Nat) (yM:Nat) (out:yLL) (QF:List Value) (Qo:yLN) (i:Nat),ρ=upd (upd (upd (upd (upd xP 1<|Sv ic more.length hZ) 5<|Sv yO yH yM) 9<|Sv ju cf.length i6) 10<|yI cf.length) 11 (yI i)/\out=Xo cf more i/\((i:Int)<=cf.length)/\m'=(cf.length-(i:Int)).toNat/\Fresh w.heap.size [Qo]/\St w w3 [rr yO yH yM 24 1 QF] [qQ true Qo QF out,Z0,Z1]) _ _) ((cf.length-(0:Int)).toNat) ⟨_,(aa b1 0),0,0,([]:yLL),[],[],0,uE5,(by rfl),qf,rfl,N.emp,H⟩ ?_
 clear H N
 rintro m' ρ w4 ⟨xP,yO,yH,yM,out,QF,Qo,i,rfl,rfl,i0,rfl,N,H⟩
 have Vm:=H.xk (α:=yLI) 0 rfl 0 rfl qj
 have q4:=VK cf more i
 refine zcr<|sq 1<|zjn<|xM<|cD rfl (fun h5=>?_)<|fun h5=>?_
 ·refine qW (t_n<|xM<|xe<|zcr<|sp (yI i) ?_)
  obtain⟨b6,o7,rfl⟩:=H.addr 1 rfl qf
  obtain⟨ae9,ce9,Fe9,H⟩:=H.yB 1 rfl i i qf qf qf
  refine oI rfl rfl<|oL rfl (H.zG 1 rfl 0 rfl)<|sp (yI i)<|sq 1<|zjn<|xX<|sq 3<|sp (yI i) ?_
  obtain⟨wS,o11,rfl⟩:=H.addr 4 rfl qf
  obtain⟨aDR,aDK,aCR,H⟩:=H.yB 4 rfl i i qf qf qf
  refine oI rfl rfl<|oL rfl (H.zG 1 rfl 0 rfl) ?_
  obtain⟨q1,q2,q3⟩:=p1 i qf
  refine sw<|oc (plus_ok _ (cf[i]!) (more[i]!) 1 (H.get 2 rfl).1 (H.get 0 rfl).1 qg qg qg) ?_
  rintro v19 J8 r19 x18
  replace H:=H.zV x18 r19
  obtain⟨a20,c21,rfl,aDq,aE2⟩:=H.yf 0 rfl
  refine sw<|zy H underlying29 ti24 [Sv a20 ((jc (cf[i]!) (more[i]!) 1).length) c21] fun Sg D0 H=>?_
  obtain⟨G29,N,aFY,H⟩:=H.vJ 1 rfl N<|H.vV [4]
  refine sw<|zH H 2 rfl 0 rfl underlying29 ti24 rfl qj rfl rfl rfl qw qp qf fun a26 c27 I8 H=>?_
  replace H:=H.Q5 5 rfl 0 rfl
  replace N:Fresh w.heap.size [(Qo++G29)]:=(N.pick [1,0]).join
  refine sq 1<|xU<|b_n<|t_n<|xX<|sw<|zS i 1 rfl rfl qf<|sq 1<|xU<|xu (m':=(cf.length-((i+1):Int)).toNat) qf ⟨_,_,_,_,_,_,_,i+1,uE5,?_,?_,rfl,N,H.pick [2] [0,7,8]⟩
  ·exact addTabTo_snoc _ _ _
  ·omega
 refine zx4<|zcr<|sq 2<|zjr<|rH1 (Sv yO yH yM) H ?_
 obtain rfl:i=cf.length:=by omega
 exact⟨yO,yH,yM,QF,Qo,rfl,N,H.pick [0] [0]⟩
theorem l21Bags_ok(w:World)(a:yLL)(b:yLL){aa:yOA}(ha:zP w Fa aa ca a)(hb:zP w Fb ab cb b):Calls Tryz.prog 31 #[Sv aa a.length ca,Sv ab b.length cb] w (Ret (fun v w'=>v=Bv (decide<|a=b)) w):=by
 refine en func31 ntmps31 ?_
 have H:=((St.start w).arg hb).arg ha
 have nha:=qM ha
 have nhb:=qM hb
 clear ha hb
 have N:=Fresh.nil w.heap.size
 refine zcr<|sp (Bv false)<|zjcc<|sq 1<|oN rfl<|sq 1<|oN rfl<|sq 1<|zjn<|vg _ rfl (fun h1=>?_)<|fun h1=>?_
 ·replace h1:=bne_iff_ne.1 h1
  refine zcr<|sp (Bv false)<|zjr<|t_r<|rH1 (Bv false) H ?_
  rw[decide_eq_false (fun e=>by subst e;omega)]
 replace h1:=xK h1
 refine qW<|t_n<|zcc<|sp (yI 0)<|zjn<|xe<|zT ((fun Z0 Z1=>fun m' ρ w2=>∃(xP:Env) (i:Nat),ρ=upd (upd (upd xP 0<|Sv aa a.length ca) 1<|Sv ab b.length cb) 5 (yI i)/\((i:Int)<=a.length)/\(a.take i=b.take i)/\m'=(a.length-(i:Int)).toNat/\Fresh w.heap.size []/\St w w2 [] [Z0,Z1]) _ _) ((a.length-(0:Int)).toNat) ⟨_,0,uE3,qf,(by rfl),rfl,N,H⟩ ?_
 clear H N
 rintro m' ρ w3 ⟨xP,i,rfl,i0,i1,rfl,N,H⟩
 refine zcc<|sp (yI i)<|sq 1<|oN rfl<|sq 1<|zjn<|cD rfl (fun h4=>?_)<|fun h4=>?_
 ·refine qW (t_n<|xM<|xe<|xM ?_)
  obtain⟨b5,o6,rfl⟩:=H.addr 0 rfl qf
  obtain⟨b8,o9,rfl⟩:=H.addr 1 rfl qf
  refine c_cut (fun ρ J8=>∃(xP:Env) (F11:yLN) (VR:yOA) (Wm:Nat) (F14:yLN) (PB:yOA) (YJ:Nat),ρ=upd (upd (upd (upd xP 0<|Sv (aa b5 o6) a.length ca) 1<|Sv (aa b8 o9) b.length cb) 5<|yI i) 26 (Bv (!(decide ((a[i]!)=(b[i]!)))))/\Fresh w.heap.size []/\St w J8 [] [sF false F11 VR Wm<|b[i]!,atF b8 (o9+(i:Int).toNat*1) [Sv VR ((b[i]!).length) Wm],sF false F14 PB YJ<|a[i]!,atF b5 (o6+(i:Int).toNat*1) [Sv PB ((a[i]!).length) YJ],sF false Fa (aa b5 o6) ca a,sF false Fb (aa b8 o9) cb b]) ?_ ?_
  ·refine QE rfl H fun H=>rtl 0 H ?_
   refine rtp 1 (yI i) H ?_
   obtain⟨Aq,Ay,KE,H⟩:=H.yB 0 rfl i i qf qf qf
   have S:=H.zW [] [2,3]
   refine tI 2 rfl rfl rfl S ?_
   refine rtl 4 S ?_
   refine rtp 5 (yI i) S ?_
   obtain⟨Bi,Bk,KK,H⟩:=H.yB 3 rfl i i qf qf qf
   refine tI 6 rfl rfl rfl (H.pick [] [4,5])<|jC [3,7] qh qm<|yV rfl ?_<|yV rfl ?_ jD
   ·refine zJ (Sv Aq ((a[i]!).length) Ay) isAgg24 rfl (H.zG 3 rfl 0 rfl) (⟨H.pick [] [4,5],(ro 7 rfl<|zJ (Sv Bi ((b[i]!).length) Bk) isAgg24 rfl (H.zG 1 rfl 0 rfl)<|⟨H.pick [] [4,5],(ro 8 rfl<|oq (l00Same_ok _ (a[i]!) (b[i]!) (H.get 2 rfl).1 (H.get 0 rfl).1) H fun Ke H=>⟨H.pick [] [4,5],(rtl 9 (H.pick [] [4,5]) ?_)⟩)⟩)⟩)
    refine xy qh ((meet ⟨_,KK,Bi,Bk,KE,Aq,Ay,uE4,N,H⟩))
   refine zJ (Sv Bi ((b[i]!).length) Bk) isAgg24 rfl (H.zG 1 rfl 0 rfl)<|⟨H.pick [] [4,5],(ro 3 rfl<|zJ (Sv Aq ((a[i]!).length) Ay) isAgg24 rfl (H.zG 3 rfl 0 rfl)<|⟨H.pick [] [4,5],(ro 8 rfl<|oq (l00Same_ok _ (a[i]!) (b[i]!) (H.get 2 rfl).1 (H.get 0 rfl).1) H fun D0 H=>⟨H.pick [] [4,5],(rtl 9 (H.pick [] [4,5]) ?_)⟩)⟩)⟩
   refine xy qh ((meet ⟨_,KK,Bi,Bk,KE,Aq,Ay,uE4,N,H⟩))
  clear H N
  rintro ρ Pp ⟨xP,F11,VR,Wm,F14,PB,YJ,rfl,N,H⟩
  refine t_n<|vg _ rfl (fun oi=>?_)<|fun oi=>?_
  ·replace oi:=xq oi
   replace oi:=of_decide_eq_false oi
   refine zcr<|sp (Bv false)<|zjr<|zr5<|rH1 (Bv false) H ?_
   rw[decide_eq_false<|Vk (k:=i) ‹_›]
  replace oi:=xf oi
  replace oi:=of_decide_eq_true oi
  refine qW<|b_n<|t_n<|xX<|sp (yI i)<|sw<|zS i 1 rfl rfl qf<|sq 1<|xU<|xu (m':=(a.length-((i+1):Int)).toNat) qf ⟨_,i+1,uE3,?_,?_,rfl,N,H.pick [] [4,5]⟩
  ·omega
  ·exact eqTo_succ qf qf ‹_› qg
 refine zx4<|zcr<|sp (Bv true)<|zjr<|rH1 (Bv true) H ?_
 rw[decide_eq_true<|XK (k:=i) qf qf ‹_›]
theorem l21Lists_ok(w:World)(a:List yLL)(b:List yLL){aa:yOA}(ha:zP w Fa aa ca a)(hb:zP w Fb ab cb b):Calls Tryz.prog 32 #[Sv aa a.length ca,Sv ab b.length cb] w (Ret (fun v w'=>v=Bv (decide<|a=b)) w):=by
 refine en func32 ntmps32 ?_
 have H:=((St.start w).arg hb).arg ha
 have nha:=qM ha
 have nhb:=qM hb
 clear ha hb
 have N:=Fresh.nil w.heap.size
 refine zcr<|sp (Bv false)<|zjcc<|sq 1<|oN rfl<|sq 1<|oN rfl<|sq 1<|zjn<|vg _ rfl (fun h1=>?_)<|fun h1=>?_
 ·replace h1:=bne_iff_ne.1 h1
  refine zcr<|sp (Bv false)<|zjr<|t_r<|rH1 (Bv false) H ?_
  rw[decide_eq_false (fun e=>by subst e;omega)]
 replace h1:=xK h1
 refine qW<|t_n<|zcc<|sp (yI 0)<|zjn<|xe<|zT ((fun Z0 Z1=>fun m' ρ w2=>∃(xP:Env) (i:Nat),ρ=upd (upd (upd xP 0<|Sv aa a.length ca) 1<|Sv ab b.length cb) 5 (yI i)/\((i:Int)<=a.length)/\(a.take i=b.take i)/\m'=(a.length-(i:Int)).toNat/\Fresh w.heap.size []/\St w w2 [] [Z0,Z1]) _ _) ((a.length-(0:Int)).toNat) ⟨_,0,uE3,qf,(by rfl),rfl,N,H⟩ ?_
 clear H N
 rintro m' ρ w3 ⟨xP,i,rfl,i0,i1,rfl,N,H⟩
 refine zcc<|sp (yI i)<|sq 1<|oN rfl<|sq 1<|zjn<|cD rfl (fun h4=>?_)<|fun h4=>?_
 ·refine qW (t_n<|xM<|xe<|xM ?_)
  obtain⟨b5,o6,rfl⟩:=H.addr 0 rfl qf
  obtain⟨b8,o9,rfl⟩:=H.addr 1 rfl qf
  refine c_cut (fun ρ J8=>∃(xP:Env) (F11:yLN) (VR:yOA) (Wm:Nat) (F14:yLN) (PB:yOA) (YJ:Nat),ρ=upd (upd (upd (upd xP 0<|Sv (aa b5 o6) a.length ca) 1<|Sv (aa b8 o9) b.length cb) 5<|yI i) 26 (Bv (!(decide ((a[i]!)=(b[i]!)))))/\Fresh w.heap.size []/\St w J8 [] [sF false F11 VR Wm<|b[i]!,atF b8 (o9+(i:Int).toNat*1) [Sv VR ((b[i]!).length) Wm],sF false F14 PB YJ<|a[i]!,atF b5 (o6+(i:Int).toNat*1) [Sv PB ((a[i]!).length) YJ],sF false Fa (aa b5 o6) ca a,sF false Fb (aa b8 o9) cb b]) ?_ ?_
  ·refine QE rfl H fun H=>rtl 0 H ?_
   refine rtp 1 (yI i) H ?_
   obtain⟨Aq,Ay,KE,H⟩:=H.yB 0 rfl i i qf qf qf
   have S:=H.zW [] [2,3]
   refine tI 2 rfl rfl rfl S ?_
   refine rtl 4 S ?_
   refine rtp 5 (yI i) S ?_
   obtain⟨Bi,Bk,KK,H⟩:=H.yB 3 rfl i i qf qf qf
   refine tI 6 rfl rfl rfl (H.pick [] [4,5])<|jC [3,7] qh qm<|yV rfl ?_<|yV rfl ?_ jD
   ·refine zJ (Sv Aq ((a[i]!).length) Ay) isAgg29 rfl (H.zG 3 rfl 0 rfl) (⟨H.pick [] [4,5],(ro 7 rfl<|zJ (Sv Bi ((b[i]!).length) Bk) isAgg29 rfl (H.zG 1 rfl 0 rfl)<|⟨H.pick [] [4,5],(ro 8 rfl<|oq (l21Bags_ok _ (a[i]!) (b[i]!) (H.get 2 rfl).1 (H.get 0 rfl).1) H fun Ke H=>⟨H.pick [] [4,5],(rtl 9 (H.pick [] [4,5]) ?_)⟩)⟩)⟩)
    refine xy qh ((meet ⟨_,KK,Bi,Bk,KE,Aq,Ay,uE4,N,H⟩))
   refine zJ (Sv Bi ((b[i]!).length) Bk) isAgg29 rfl (H.zG 1 rfl 0 rfl)<|⟨H.pick [] [4,5],(ro 3 rfl<|zJ (Sv Aq ((a[i]!).length) Ay) isAgg29 rfl (H.zG 3 rfl 0 rfl)<|⟨H.pick [] [4,5],(ro 8 rfl<|oq (l21Bags_ok _ (a[i]!) (b[i]!) (H.get 2 rfl).1 (H.get 0 rfl).1) H fun D0 H=>⟨H.pick [] [4,5],(rtl 9 (H.pick [] [4,5]) ?_)⟩)⟩)⟩
   refine xy qh ((meet ⟨_,KK,Bi,Bk,KE,Aq,Ay,uE4,N,H⟩))
  clear H N
  rintro ρ Pp ⟨xP,F11,VR,Wm,F14,PB,YJ,rfl,N,H⟩
  refine t_n<|vg _ rfl (fun oi=>?_)<|fun oi=>?_
  ·replace oi:=xq oi
   replace oi:=of_decide_eq_false oi
   refine zcr<|sp (Bv false)<|zjr<|zr5<|rH1 (Bv false) H ?_
   rw[decide_eq_false<|Vk (k:=i) ‹_›]
  replace oi:=xf oi
  replace oi:=of_decide_eq_true oi
  refine qW<|b_n<|t_n<|xX<|sp (yI i)<|sw<|zS i 1 rfl rfl qf<|sq 1<|xU<|xu (m':=(a.length-((i+1):Int)).toNat) qf ⟨_,i+1,uE3,?_,?_,rfl,N,H.pick [] [4,5]⟩
  ·omega
  ·exact eqTo_succ qf qf ‹_› qg
 refine zx4<|zcr<|sp (Bv true)<|zjr<|rH1 (Bv true) H ?_
 rw[decide_eq_true<|XK (k:=i) qf qf ‹_›]
theorem VD(w:World)(a:zA)(b:zA){EM:yOA}{Ef:Nat}{ZS:yLN}{uZ:yOA}{vQ:Nat}{Od:yLN}{K5:yOA}{Pb:Nat}{ahs:yLN}{wB:yOA}{wj:Nat}{LF:yLN}{LD:yOA}{NN:Nat}{am3:yLN}{D7:yOA}{Fe:Nat}{abz:yLN}{EW:yOA}{Ez:Nat}{ZK:yLN}{tT:yOA}{ut:Nat}{O9:yLN}{Mb:yOA}{Ms:Nat}{ags:yLN}{vB:yOA}{tw:Nat}{Kq:yLN}{KV:yOA}{La:Nat}{aij:yLN}{EX:yOA}{E5:Nat}{ab1:yLN}(OB:zP w ZS EM Ef a.qG)(BX:zP w Od uZ vQ a.qF)(YC:zP w ahs K5 Pb a.vM)(Dx:zP w LF wB wj a.qL)(Ti:zP w am3 LD NN a.vX)(Ky:zP w abz D7 Fe a.x8)(EP:zP w ZK EW Ez b.qG)(tG:zP w O9 tT ut b.qF)(Kx:zP w ags Mb Ms b.vM)(wI:zP w Kq vB tw b.qL)(Nm:zP w aij KV La b.vX)(Ea:zP w ab1 EX E5 b.x8):Calls Tryz.prog 12 #[.agg #[yI a.qP,Sv EM a.qG.length Ef,Sv uZ a.qF.length vQ,Bv a.qV,Sv K5 a.vM.length Pb,Sv wB a.qL.length wj,Sv LD a.vX.length NN,Sv D7 a.x8.length Fe],.agg #[yI b.qP,Sv EW b.qG.length Ez,Sv tT b.qF.length ut,Bv b.qV,Sv Mb b.vM.length Ms,Sv vB b.qL.length tw,Sv KV b.vX.length La,Sv EX b.x8.length E5]] w (Ret (fun v w'=>v=Bv (decide<|a=b)) w):=by
 refine en func12 ntmps12 ?_
 have H:=((((((((((((St.start w).arg Ea).arg Nm).arg wI).arg Kx).arg tG).arg EP).arg Ky).arg Ti).arg Dx).arg YC).arg BX).arg OB
 have ar7:=qM EP
 have adb:=qM tG
 have at6:=qM Kx
 have adP:=qM wI
 have at5:=qM Nm
 have ars:=qM Ea
 clear OB BX YC Dx Ti Ky EP tG Kx wI Nm Ea
 have N:=Fresh.nil w.heap.size
 refine zcr<|sw<|jq H [yI a.qP,Sv EM a.qG.length Ef,Sv uZ a.qF.length vQ,Bv a.qV,Sv K5 a.vM.length Pb,Sv wB a.qL.length wj,Sv LD a.vX.length NN,Sv D7 a.x8.length Fe] fun b1 w2 H=>sw<|jq H [yI b.qP,Sv EW b.qG.length Ez,Sv tT b.qF.length ut,Bv b.qV,Sv Mb b.vM.length Ms,Sv vB b.qL.length tw,Sv KV b.vX.length La,Sv EX b.x8.length E5] fun b3 w4 H=>sp (Bv false)<|zjcc<|oF rfl<|oL rfl (H.cell 1 rfl rfl)<|oF rfl<|oL rfl (H.cell 0 rfl rfl)<|sp (Bv ((a.qP:Int) != b.qP))<|sp (Bv ((a.qP:Int) != b.qP)) ?_
 cases h5:((a.qP:Int) != b.qP)
 ·replace h5:=xK h5
  refine qJ 11 rfl rfl<|oF rfl<|qJ 11 rfl rfl<|oL rfl (H.cell 1 rfl rfl)<|qJ 11 rfl rfl<|oF rfl<|qJ 11 rfl rfl<|oL rfl (H.cell 0 rfl rfl)<|qJ 11 rfl rfl<|sw<|o_neB underlying4 a.qV b.qV rfl rfl<|sp (Bv<|a.qV != b.qV)<|sp (Bv<|a.qV != b.qV) ?_
  cases h6:(a.qV != b.qV)
  ·replace h6:=xK h6
   refine qJ 18 rfl rfl<|oF rfl<|qJ 18 rfl rfl<|oL rfl (H.cell 1 rfl rfl)<|qJ 18 rfl rfl<|oN rfl<|qJ 18 rfl rfl<|oF rfl<|qJ 18 rfl rfl<|oL rfl (H.cell 0 rfl rfl)<|qJ 18 rfl rfl<|oN rfl<|qJ 18 rfl rfl<|sp (Bv ((a.vM.length:Int) != b.vM.length))<|sp (Bv ((a.vM.length:Int) != b.vM.length))<|sp (Bv ((a.vM.length:Int) != b.vM.length)) ?_
   cases h7:((a.vM.length:Int) != b.vM.length)
   ·replace h7:=xK h7
    refine qJ 27 rfl rfl<|oF rfl<|qJ 27 rfl rfl<|oL rfl (H.cell 1 rfl rfl)<|qJ 27 rfl rfl<|oF rfl<|qJ 27 rfl rfl<|oL rfl (H.cell 0 rfl rfl)<|qJ 27 rfl rfl<|sw<|oq (l00Same_ok _ a.qF b.qF (H.get 1 rfl).1 (H.get 7 rfl).1) H fun w9 H=>qJ 27 rfl rfl<|sq 2<|zjn<|vg _ rfl (fun cZ=>?_)<|fun cZ=>?_
    ·replace cZ:=xq cZ
     replace cZ:=of_decide_eq_false cZ
     refine zcr<|sp (Bv false)<|zjr<|t_r<|rH1 (Bv false) H ?_
     rw[decide_eq_false (fun e=>by subst e;contradiction)]
    replace cZ:=xf cZ
    replace cZ:=of_decide_eq_true cZ
    refine qW<|t_n<|zcc<|sp (yI 0)<|zjn<|xe<|zT ((fun Z0 Z1 Z2 Z3 Z4 Z5 Z6 Z7 Z8 Z9 fi fK gW ka=>fun m' ρ G7=>∃(xP:Env) (i:Nat),ρ=upd (upd (upd xP 2<|pp b1 0) 3<|pp b3 0) 5 (yI i)/\((i:Int)<=a.vM.length)/\(a.vM.take i=b.vM.take i)/\m'=(a.vM.length-(i:Int)).toNat/\Fresh w.heap.size []/\St w G7 [Z0,Z1] [Z2,Z3,Z4,Z5,Z6,Z7,Z8,Z9,fi,fK,gW,ka]) _ _ _ _ _ _ _ _ _ _ _ _ _ _) ((a.vM.length-(0:Int)).toNat) ⟨_,0,uE3,qf,(by rfl),rfl,N,H⟩ ?_
    clear H N
    rintro m' ρ Dv ⟨xP,i,rfl,i0,i1,rfl,N,H⟩
    refine zcc<|sp (yI i)<|oF rfl<|oL rfl (H.cell 1 rfl rfl)<|oN rfl<|sq 1<|zjn<|cD rfl (fun mo=>?_)<|fun mo=>?_
    ·refine qW (t_n<|xM<|xe<|xM<|QE rfl H fun H=>tF 0 rfl rfl H ?_)
     refine tL 1 rfl rfl (fun _ h=>h.cell 1 rfl rfl) H ?_
     refine rtp 2 (yI i) H ?_
     obtain⟨VT,o17,rfl⟩:=H.addr 2 rfl qf
     refine tI 3 rfl rfl rfl H ?_
     refine tL 4 rfl rfl (fun _ h=>h.XZ 2 rfl i qf) H ?_
     refine tF 5 rfl rfl H ?_
     refine tL 6 rfl rfl (fun _ h=>h.cell 0 rfl rfl) H ?_
     refine rtp 7 (yI i) H ?_
     obtain⟨Ki,o20,rfl⟩:=H.addr 8 rfl qf
     refine tI 8 rfl rfl rfl H ?_
     refine tL 9 rfl rfl (fun _ h=>h.XZ 8 rfl i qf) H ?_
     refine rt 10 _ (y_neB underlying4 (a.vM[i]!) (b.vM[i]!) rfl rfl) H ?_
     refine xy qh<|t_n<|vg _ rfl (fun oZ=>?_)<|fun oZ=>?_
     ·replace oZ:=bne_iff_ne.1 oZ
      refine zcr<|sp (Bv false)<|zjr<|zr5<|rH1 (Bv false) H ?_
      rw[decide_eq_false (fun e=>by subst e;contradiction)]
     replace oZ:=xK oZ
     refine qW<|b_n<|t_n<|xX<|sp (yI i)<|sw<|zS i 1 rfl rfl qf<|sq 1<|xU<|xu (m':=(a.vM.length-((i+1):Int)).toNat) qf ⟨_,i+1,uE3,?_,?_,rfl,N,H⟩
     ·omega
     ·exact eqTo_succ qf qf ‹_› qg
    refine zx4<|zcr<|oF rfl<|oL rfl (H.cell 1 rfl rfl)<|oF rfl<|oL rfl (H.cell 0 rfl rfl)<|sw<|oq (l21Bags_ok _ a.qG b.qG (H.get 0 rfl).1 (H.get 6 rfl).1) H fun D1 H=>sp (Bv<|decide<|a.qG=b.qG) ?_
    cases ze:(decide (a.qG=b.qG))
    ·replace ze:=of_decide_eq_false ze
     refine xO (zR 59 5)<|sp (Bv false)<|sp (Bv false)<|xO (zR 66 5)<|sp (Bv false)<|sp (Bv false)<|xO (zR 73 5)<|sp (Bv false)<|sp (Bv false)<|zjr<|rH1 (Bv false) H ?_
     rw[decide_eq_false (fun e=>by subst e;contradiction)]
    replace ze:=of_decide_eq_true ze
    refine qJ 58 rfl rfl<|oF rfl<|qJ 58 rfl rfl<|oL rfl (H.cell 1 rfl rfl)<|qJ 58 rfl rfl<|oF rfl<|qJ 58 rfl rfl<|oL rfl (H.cell 0 rfl rfl)<|qJ 58 rfl rfl<|sw<|oq (l21Bags_ok _ a.qL b.qL (H.get 3 rfl).1 (H.get 9 rfl).1) H fun I8 H=>sp (Bv<|decide<|a.qL=b.qL)<|sp (Bv<|decide<|a.qL=b.qL) ?_
    cases pn:(decide (a.qL=b.qL))
    ·replace pn:=of_decide_eq_false pn
     refine xO (zR 66 5)<|sp (Bv false)<|sp (Bv false)<|xO (zR 73 5)<|sp (Bv false)<|sp (Bv false)<|zjr<|rH1 (Bv false) H ?_
     rw[decide_eq_false (fun e=>by subst e;contradiction)]
    replace pn:=of_decide_eq_true pn
    refine qJ 65 rfl rfl<|oF rfl<|qJ 65 rfl rfl<|oL rfl (H.cell 1 rfl rfl)<|qJ 65 rfl rfl<|oF rfl<|qJ 65 rfl rfl<|oL rfl (H.cell 0 rfl rfl)<|qJ 65 rfl rfl<|sw<|oq (l21Lists_ok _ a.vX b.vX (H.get 4 rfl).1 (H.get 10 rfl).1) H fun Pn H=>sp (Bv<|decide<|a.vX=b.vX)<|sp (Bv<|decide<|a.vX=b.vX) ?_
    cases sE:(decide (a.vX=b.vX))
    ·replace sE:=of_decide_eq_false sE
     refine xO (zR 73 5)<|sp (Bv false)<|sp (Bv false)<|zjr<|rH1 (Bv false) H ?_
     rw[decide_eq_false (fun e=>by subst e;contradiction)]
    replace sE:=of_decide_eq_true sE
    refine qJ 72 rfl rfl<|oF rfl<|qJ 72 rfl rfl<|oL rfl (H.cell 1 rfl rfl)<|qJ 72 rfl rfl<|oF rfl<|qJ 72 rfl rfl<|oL rfl (H.cell 0 rfl rfl)<|qJ 72 rfl rfl<|sw<|oq (l21Lists_ok _ a.x8 b.x8 (H.get 5 rfl).1 (H.get 11 rfl).1) H fun FY H=>sq 2<|zjr<|rH1 (Bv<|decide<|a.x8=b.x8) H ?_
    rw[desk_last ql ql (XK (k:=i) qf qf i1) ql ql ql ql]
   replace h7:=bne_iff_ne.1 h7
   refine xO (zR 28 6)<|sp (Bv true)<|zjn<|cTr rfl<|zcr<|sp (Bv false)<|zjr<|t_r<|rH1 (Bv false) H ?_
   rw[decide_eq_false (fun e=>by subst e;omega)]
  replace h6:=bne_iff_ne.1 h6
  refine xO (zR 19 7)<|sp (Bv true)<|sp (Bv true)<|xO (zR 28 6)<|sp (Bv true)<|zjn<|cTr rfl<|zcr<|sp (Bv false)<|zjr<|t_r<|rH1 (Bv false) H ?_
  rw[decide_eq_false (fun e=>by subst e;contradiction)]
 replace h5:=bne_iff_ne.1 h5
 refine xO (zR 12 5)<|sp (Bv true)<|sp (Bv true)<|xO (zR 19 7)<|sp (Bv true)<|sp (Bv true)<|xO (zR 28 6)<|sp (Bv true)<|zjn<|cTr rfl<|zcr<|sp (Bv false)<|zjr<|t_r<|rH1 (Bv false) H ?_
 rw[decide_eq_false (fun e=>by subst e;omega)]
theorem l08Still_ok(w:World)(s:qO)(hs:jI w bs os (yS s qU qR xC xx))(xh:zP w xY qU qR s.qA)(xI:zP w zX xC xx s.qB):Calls Tryz.prog 116 #[pp bs os] w (Ret (fun v w'=>v=Bv (dec<|Still s)) w):=by
 refine en func116 ntmps116 ?_
 have H:=(((St.start w).arg xI).arg xh).argAt hs
 have jV:=qM xI
 clear hs xh xI
 have N:=Fresh.nil w.heap.size
 refine zcr<|sp (Bv false)<|zjcc<|sp (yI 0)<|zjn<|xe<|zT ((fun Z0 Z1 Z2=>fun m' ρ w1=>∃(xP:Env) (i:Nat),ρ=upd (upd xP 0<|pp bs os) 3 (yI i)/\((i:Int)<=s.qB.length)/\(StillTo s i)/\m'=(s.qB.length-(i:Int)).toNat/\Fresh w.heap.size []/\St w w1 [] [Z0,Z1,Z2]) _ _ _) ((s.qB.length-(0:Int)).toNat) ⟨_,0,uE2,qf,qx,rfl,N,H⟩ ?_
 clear H N
 rintro m' ρ w2 ⟨xP,i,rfl,i0,i1,rfl,N,H⟩
 refine zcc<|sp (yI i)<|sq 2<|oF rfl<|oL rfl (H.zG 0 rfl 2 rfl)<|oN rfl<|sq 1<|zjn<|cD rfl (fun h3=>?_)<|fun h3=>?_
 ·refine qW (t_n<|xM<|xe<|zcr<|sq 2<|oF rfl<|oL rfl (H.zG 0 rfl 2 rfl)<|sp (yI i) ?_)
  obtain⟨b4,o5,rfl⟩:=H.addr 2 rfl qf
  obtain⟨ar6,arB,arl,ass,aso,aqO,ase,aqi,aqR,aqQ,arv,aru,awV,ava,aul,aqI,asg,aqj,H⟩:=H.QY 2 rfl i i qf qf qf
  refine oI rfl rfl<|oF rfl<|oL rfl (H.zG 6 rfl 8 rfl)<|zjn<|vg _ rfl (fun h8=>?_)<|fun h8=>?_
  ·refine zcr (sp (Bv false)<|zjr<|zr5<|rH1 (Bv false) H ?_)
   rw[xE<|fun h=>ft (by assumption:(s.qB[i]!).jw=true)<|h i qf]
  refine qW<|b_n<|t_n<|xX<|sp (yI i)<|sw<|zS i 1 rfl rfl qf<|sq 1<|xU<|xu (m':=(s.qB.length-((i+1):Int)).toNat) qf ⟨_,i+1,uE2,?_,?_,rfl,N,H.pick [] [7,8,9]⟩
  ·omega
  ·exact i1.succ ql
 refine zx4<|zcr<|sp (Bv true)<|zjr<|rH1 (Bv true) H ?_
 rw[Qx<|show Still s from fun j hj=>i1 j qf]
theorem l08Whole_ok(w:World)(s:qO)(t:xn){bt ot:Nat}(hs:jI w bs os (yS s qU qR xC xx))(xh:zP w xY qU qR s.qA)(xI:zP w zX xC xx s.qB)(ht:jI w bt ot (yT t zK zI vC vk zg zf))(ve:zP w jY zK zI t.xF)(jd:zP w Qe vC vk t.qG)(zB:zP w je zg zf t.qF)(p0:jZ s):Calls Tryz.prog 74 #[pp bs os,pp bt ot] w (Ret (fun v w'=>v=Bv (dec<|vU s t/\Whole t)) w):=by
 refine en func74 ntmps74 ?_
 have H:=(((((((St.start w).arg zB).arg jd).arg ve).argAt ht).arg xI).arg xh).argAt hs
 have Q7:=qM ve
 clear hs xh xI ht ve jd zB
 have N:=Fresh.nil w.heap.size
 refine zcr<|sp (Bv false)<|zjcc<|sq 2<|sw<|oq (l02State_ok _ s t (qH (H.get 0 rfl) 0 3) (H.get 1 rfl).1 (H.get 2 rfl).1 (qH (H.get 3 rfl) 0 3) (H.get 4 rfl).1 (H.get 5 rfl).1 (H.get 6 rfl).1<|by assumption) H fun w1 H=>sq 1<|zjn<|cQ rfl (fun h3=>?_)<|fun h3=>?_
 ·refine zcr (sp (Bv false)<|zjr<|t_r<|rH1 (Bv false) H ?_)
  rw[xE<|fun h=>by exact absurd h.1 ql]
 refine qW<|t_n<|zcc<|sp (yI 0)<|zjn<|xe<|zT ((fun Z0 Z1 Z2 Z3=>fun m' ρ w4=>∃(xP:Env) (c:Nat),ρ=upd (upd xP 1<|pp bt ot) 5 (yI c)/\((c:Int)<=t.xF.length)/\(WholeTo t c)/\m'=(t.xF.length-(c:Int)).toNat/\Fresh w.heap.size []/\St w w4 [] [Z0,Z1,Z2,Z3]) _ _ _ _) ((t.xF.length-(0:Int)).toNat) ⟨_,0,uE2,qf,qx,rfl,N,H.pick []<|zR 3 4⟩ ?_
 clear H N
 rintro m' ρ w5 ⟨xP,c,rfl,i0,i1,rfl,N,H⟩
 refine zcc<|sp (yI c)<|sq 2<|oF rfl<|oL rfl (H.zG 0 rfl 0 rfl)<|oN rfl<|sq 1<|zjn<|cD rfl (fun h6=>?_)<|fun h6=>?_
 ·refine qW (t_n<|xM<|xe<|zcr<|sq 2<|oF rfl<|oL rfl (H.zG 0 rfl 0 rfl)<|sp (yI c) ?_)
  obtain⟨b7,o8,rfl⟩:=H.addr 1 rfl qf
  refine oI rfl rfl<|oL rfl (H.XZ 1 rfl c qf)<|sq 1<|zjn<|vg _ rfl (fun dD=>?_)<|fun dD=>?_
  ·replace dD:=xq dD
   refine zcr<|sp (Bv false)<|zjr<|zr5<|rH1 (Bv false) H ?_
   rw[xE<|fun h=>by exact ft (h.2 c qf) ql]
  replace dD:=xf dD
  refine qW<|b_n<|t_n<|xX<|sp (yI c)<|sw<|zS c 1 rfl rfl qf<|sq 1<|xU<|xu (m':=(t.xF.length-((c+1):Int)).toNat) qf ⟨_,c+1,uE2,?_,?_,rfl,N,H⟩
  ·omega
  ·exact i1.succ ql
 refine zx4<|zcr<|sp (Bv true)<|zjr<|rH1 (Bv true) H ?_
 rw[Qx ⟨by assumption,fun j hj=>i1 j qf⟩]
theorem l08Zeros_ok(w:World)(s:qO)(hs:jI w bs os (yS s qU qR xC xx))(xh:zP w xY qU qR s.qA)(xI:zP w zX xC xx s.qB)(p0:jZ s):Calls Tryz.prog 153 #[pp bs os] w (Ret (fun v w'=>∃(ra:yOA) (rn:Nat) (rc:Nat) (rx:List Value) (rF:yLN),v=Sv ra rn rc/\Fresh w.heap.size [rF]/\St w w' [rr ra rn rc 24 1 rx] [qQ true rF rx<|jG s<|s.qA.length+1]) w):=by
 refine en func153 ntmps153 ?_
 have H:=(((St.start w).arg xI).arg xh).argAt hs
 have vS:=qM xh
 clear hs xh xI
 have N:=Fresh.nil w.heap.size
 have p1:=p0.1
 have p2:=p0.2.1
 refine zcr<|sq 1<|zjc<|sw<|jH H underlying29 ti24 fun b1 w2 H=>sq 1<|zjcc<|sp (yI 0)<|zjn<|xe ?_
 replace H:=H.boxRow 0 rfl 1 0 rfl qj
 replace H:=H.yD (α:=yLI)
 refine zT ((fun Z0 Z1 Z2=>fun m' ρ w3=>∃(xP:Env) (yO:yOA) (yH:Nat) (yM:Nat) (out:yLL) (QF:List Value) (Qo:yLN) (c:Nat),ρ=upd (upd (upd xP 0<|pp bs os) 3<|Sv yO yH yM) 4 (yI c)/\out=jG s c/\(c<=s.qA.length+1)/\m'=(s.qA.length+1-c:Nat)/\Fresh w.heap.size [Qo]/\St w w3 [rr yO yH yM 24 1 QF] [qQ true Qo QF out,Z0,Z1,Z2]) _ _ _) ((s.qA.length+1-0:Nat)) ⟨_,(aa b1 0),0,0,([]:yLL),[],[],0,uE3,(by rfl),qf,rfl,N.emp,H⟩ ?_
 clear H N
 rintro m' ρ w4 ⟨xP,yO,yH,yM,out,QF,Qo,c,rfl,rfl,i1,rfl,N,H⟩
 have Vm:=H.xk (α:=yLI) 0 rfl 0 rfl qj
 have zl:=zeros_len s c
 refine zcc<|sp (yI c)<|sq 2<|oF rfl<|oL rfl (H.zG 1 rfl 1 rfl)<|oN rfl<|sq 1<|zjn<|cD rfl (fun h5=>?_)<|fun h5=>?_
 ·refine qW (t_n<|xM<|xe<|xX<|sq 3<|oF rfl<|oL rfl (H.zG 1 rfl 0 rfl)<|sw<|jP H underlying24 ti2 s.qN.toNat rfl rfl qf qf qf fun b6 w7 H=>sw<|zy H underlying29 ti24 [Sv (aa b6 0) s.qN.toNat s.qN.toNat] fun b8 w9 H=>?_)
  obtain⟨G13,N,aCD,H⟩:=H.vJ 1 rfl N<|H.vV [0]
  refine sw<|zH H 2 rfl 0 rfl underlying29 ti24 rfl qj rfl rfl rfl qw qp qf fun a10 c11 G7 H=>?_
  replace H:=H.Q5 1 rfl 0 rfl
  replace N:Fresh w.heap.size [(Qo++G13)]:=(N.pick [1,0]).join
  refine sq 1<|xU<|b_n<|t_n<|xX<|sp (yI c)<|sw<|zS c 1 rfl rfl qf<|sq 1<|xU<|xu (m':=(s.qA.length+1-(c+1):Nat)) qf ⟨_,_,_,_,_,_,_,c+1,uE3,?_,?_,rfl,N,H.pick [2] [0,3,4,5]⟩
  ·exact zeros_snoc s c
  ·omega
 refine zx4<|zcr<|sq 2<|zjr<|rH1 (Sv yO yH yM) H ?_
 obtain rfl:c=s.qA.length+1:=by omega
 exact⟨yO,yH,yM,QF,Qo,rfl,N,H.pick [0] [0]⟩
theorem l08Bags_ok(w:World)(l:yLL)(hl:zP w Fl al cl l):Calls Tryz.prog 157 #[Sv al l.length cl] w (Ret (fun v w'=>v=Bv (dec<|yF l l.length)) w):=by
 refine en func157 ntmps157 ?_
 have H:=(St.start w).arg hl
 have C5:=qM hl
 clear hl
 have N:=Fresh.nil w.heap.size
 refine zcr<|sp (Bv false)<|zjcc<|sp (yI 0)<|zjn<|xe<|zT ((fun Z0=>fun m' ρ w1=>∃(xP:Env) (i:Nat),ρ=upd (upd xP 0<|Sv al l.length cl) 3 (yI i)/\((i:Int)<=l.length)/\(yF l i)/\m'=(l.length-(i:Int)).toNat/\Fresh w.heap.size []/\St w w1 [] [Z0]) _) ((l.length-(0:Int)).toNat) ⟨_,0,uE2,qf,qx,rfl,N,H⟩ ?_
 clear H N
 rintro m' ρ w2 ⟨xP,i,rfl,i0,i1,rfl,N,H⟩
 refine zcc<|sp (yI i)<|sq 1<|oN rfl<|sq 1<|zjn<|cD rfl (fun h3=>?_)<|fun h3=>?_
 ·refine qW (t_n<|xM<|xe<|zcr<|sq 1<|sp (yI i) ?_)
  obtain⟨b4,o5,rfl⟩:=H.addr 0 rfl qf
  obtain⟨ae7,ce7,Fe7,H⟩:=H.yB 0 rfl i i qf qf qf
  refine oI rfl rfl<|oL rfl (H.zG 1 rfl 0 rfl)<|sw<|oq (l01Bag_ok _ (l[i]!) (H.get 0 rfl).1) H fun w8 H=>sq 1<|zjn<|cQ rfl (fun dD=>?_)<|fun dD=>?_
  ·refine zcr (sp (Bv false)<|zjr<|zr5<|rH1 (Bv false) H ?_)
   rw[xE<|fun h=>absurd (h i qf) ql]
  refine qW<|b_n<|t_n<|xX<|sp (yI i)<|sw<|zS i 1 rfl rfl qf<|sq 1<|xU<|xu (m':=(l.length-((i+1):Int)).toNat) qf ⟨_,i+1,uE2,?_,?_,rfl,N,H.pick [] [2]⟩
  ·omega
  ·exact i1.succ ql
 refine zx4<|zcr<|sp (Bv true)<|zjr<|rH1 (Bv true) H ?_
 rw[Qx<|show yF l l.length from fun j hj=>i1 j qf]
theorem indexB_ok(w:World)(l:List Bool)(x:Bool)(hl:zP w Fl al cl l):Calls Tryz.prog 169 #[Sv al l.length cl,Bv x] w (Ret (fun v w'=>v=yI (firstIdx (fun k=>x == l[k]!) l.length)) w):=by
 refine en func169 ntmps169 ?_
 have H:=(St.start w).arg hl
 have C5:=qM hl
 clear hl
 have N:=Fresh.nil w.heap.size
 refine zcr<|sp (yI 0)<|zjcc<|sq 1<|oN rfl<|sp (yI 0)<|zjn<|xe<|zT ((fun Z0=>fun m' ρ w1=>∃(xP:Env) (i:Nat),ρ=upd (upd (upd (upd xP 0<|Sv al l.length cl) 1<|Bv x) 7<|yI l.length) 8 (yI i)/\((i:Int)<=l.length)/\(noneTo (fun k=>x == l[k]!) i)/\m'=(l.length-(i:Int)).toNat/\Fresh w.heap.size []/\St w w1 [] [Z0]) _) ((l.length-(0:Int)).toNat) ⟨_,0,uE4,qf,qx,rfl,N,H⟩ ?_
 clear H N
 rintro m' ρ w2 ⟨xP,i,rfl,i0,i1,rfl,N,H⟩
 refine zcr<|sq 1<|zjn<|xM<|cD rfl (fun h3=>?_)<|fun h3=>?_
 ·refine qW (t_n<|xM<|xe<|zcr<|sp (yI i)<|sp (yI i)<|zjc<|sp (Bv x)<|sq 1<|sp (yI i) ?_)
  obtain⟨b4,o5,rfl⟩:=H.addr 0 rfl qf
  refine oI rfl rfl<|oL rfl (H.XZ 0 rfl i qf)<|sw<|o_eqB underlying4 x (l[i]!) rfl rfl<|zjn<|vg _ rfl (fun h7=>?_)<|fun h7=>?_
  ·replace h7:=(eq_of_beq h7)
   refine zcr<|sp (yI i)<|sp (yI i)<|zjr<|zr5<|rH1 (yI i) H ?_
   rw[firstIdx_some (k:=i) qf i1<|by simpa using ‹x=l[i]!›]
  replace h7:=(ne_of_beq_false h7)
  refine qW<|b_n<|t_n<|xX<|sw<|zS i 1 rfl rfl qf<|sq 1<|xU<|xu (m':=(l.length-((i+1):Int)).toNat) qf ⟨_,i+1,uE4,?_,?_,rfl,N,H⟩
  ·omega
  ·exact noneTo_succ i1<|by simpa using ‹x≠l[i]!›
 refine zx4<|zcr<|sq 1<|zjr<|rH1 (yI (-1)) H ?_
 rw[firstIdx_none<|fun j hj=>i1 j qf]
theorem containsB_ok(w:World)(l:List Bool)(x:Bool)(hl:zP w Fl al cl l):Calls Tryz.prog 144 #[Sv al l.length cl,Bv x] w (Ret (fun v w'=>v=Bv (anyTo (fun k=>x == l[k]!) l.length)) w):=by
 refine en func144 ntmps144 ?_
 have H:=(St.start w).arg hl
 clear hl
 refine zcr<|sp (Bv false)<|zjc<|sq 1<|sp (Bv x)<|sw<|oq (indexB_ok _ l x (H.get 0 rfl).1) H fun w2 H=>sp (Bv<|decide ((firstIdx (fun k=>x == l[k]!) l.length:Int)>=0))<|sp (Bv<|decide ((firstIdx (fun k=>x == l[k]!) l.length:Int)>=0))<|zjr<|rH1 (Bv<|decide ((firstIdx (fun k=>x == l[k]!) l.length:Int)>=0)) H ?_
 rw[anyTo_first]
theorem isWhole_ok(w:World)(s:qO)(t:xn)(xh:zP w xY qU qR s.qA)(xI:zP w zX xC xx s.qB)(ve:zP w jY zK zI t.xF)(jd:zP w Qe vC vk t.qG)(zB:zP w je zg zf t.qF):Calls Tryz.prog 111 #[.agg #[yI s.qN,Sv qU s.qA.length qR,Sv xC s.qB.length xx],.agg #[Sv zK t.xF.length zI,Sv vC t.qG.length vk,Sv zg t.qF.length zf]] w (Ret (fun v w'=>v=Bv (dec ((Qr s/\vU s t)/\Whole t))) w):=by
 refine en func111 ntmps111 ?_
 have H:=(((((St.start w).arg zB).arg jd).arg ve).arg xI).arg xh
 clear xh xI ve jd zB
 refine zcr<|sw<|jq H (yS s qU qR xC xx) fun b1 w2 H=>sw<|jq H (yT t zK zI vC vk zg zf) fun b3 w4 H=>sp (Bv false)<|zjc<|sw<|xW (yS s qU qR xC xx) isAgg27 sizeOf27 rfl (qH (H.cells 1 rfl) 0 3)<|sw<|xW (yT t zK zI vC vk zg zf) isAgg31 sizeOf31 rfl (qH (H.cells 0 rfl) 0 3)<|sw<|oq (validState_ok _ s t (H.get 0 rfl).1 (H.get 1 rfl).1 (H.get 2 rfl).1 (H.get 3 rfl).1 (H.get 4 rfl).1) H fun w6 H=>sp (Bv<|dec<|Qr s/\vU s t) ?_
 cases h8:(dec (Qr s/\vU s t))
 ·replace h8:=vF h8
  refine xO (zR 9 4)<|sp (Bv false)<|sp (Bv false)<|zjr<|rH1 (Bv false) H ?_
  rw[xE<|fun h=>absurd h.1 ql]
 replace h8:=Qz h8
 refine qJ 8 rfl rfl<|oF rfl<|qJ 8 rfl rfl<|oL rfl (H.cell 0 rfl rfl)<|qJ 8 rfl rfl<|sw<|oq (containsB_ok _ t.xF false (H.get 2 rfl).1) H fun sI H=>qJ 8 rfl rfl<|sq 3<|zjr<|rH1 (Bv (!(anyTo (fun k=>false == t.xF[k]!) t.xF.length))) H ?_
 rw[whole_any]
 refine congrArg Value.bool<|dec_eq ?_
 rw[Bool.not_eq_true']
 exact⟨fun h=>⟨by assumption,Classical.byContradiction fun x=>by rw[Qx x] at h;cases h⟩,fun h=>xE fun x=>x h.2⟩
theorem canMeltAny_ok(w:World)(s:qO)(xh:zP w xY qU qR s.qA)(xI:zP w zX xC xx s.qB):Calls Tryz.prog 158 #[.agg #[yI s.qN,Sv qU s.qA.length qR,Sv xC s.qB.length xx]] w (Ret (fun v w'=>v=Bv (dec (¬Still s))) w):=by
 refine en func158 ntmps158 ?_
 have H:=((St.start w).arg xI).arg xh
 have jV:=qM xI
 clear xh xI
 have N:=Fresh.nil w.heap.size
 refine zcr<|sw<|jq H (yS s qU qR xC xx) fun b1 w2 H=>sp (Bv false)<|zjc<|oF rfl<|oL rfl (H.cell 0 rfl rfl)<|sw<|vz #[Sv xC s.qB.length xx,.func (.func 172) #[] #[]] rfl rfl call171<|en func171 ntmps171 ?_
 refine zcr<|sp (Bv false)<|zjc<|sq 1<|sp (.func (.func 172) #[] #[])<|sw<|vz #[Sv xC s.qB.length xx,.func (.func 172) #[] #[]] rfl rfl call179<|en func179 ntmps179 ?_
 refine zcr<|sp (yI 0)<|zjcc<|sq 1<|oN rfl<|sp (yI 0)<|zjn<|xe<|zT ((fun Z0 Z1 Z2=>fun m' ρ w3=>∃(xP:Env) (i:Nat),ρ=upd (upd (upd (upd xP 0<|Sv xC s.qB.length xx) 1<|.func (.func 172) #[] #[]) 7<|yI s.qB.length) 8 (yI i)/\((i:Int)<=s.qB.length)/\(StillTo s i)/\m'=(s.qB.length-(i:Int)).toNat/\Fresh w.heap.size []/\St w w3 [Z0] [Z1,Z2]) _ _ _) ((s.qB.length-(0:Int)).toNat) ⟨_,0,uE4,qf,qx,rfl,N,H⟩ ?_
 clear H N
 rintro m' ρ w4 ⟨xP,i,rfl,i0,i1,rfl,N,H⟩
 refine zcr<|sq 1<|zjn<|xM<|cD rfl (fun h5=>?_)<|fun h5=>?_
 ·refine qW (t_n<|xM<|xe<|zcr<|sp (yI i)<|sp (yI i)<|zjc<|sp (.func (.func 172) #[] #[])<|sq 1<|sp (yI i) ?_)
  obtain⟨b6,o7,rfl⟩:=H.addr 1 rfl qf
  obtain⟨AS,zE,aq5,Ac,Bc,aqd,AD,A9,ar9,BA,Aw,aq6,EN,EI,avt,Bn,Aj,are,H⟩:=H.QY 1 rfl i i qf qf qf
  refine oI rfl rfl<|sw<|xW [yI ((s.qB[i]!).qZ),yI ((s.qB[i]!).yJ),Sv AS (((s.qB[i]!).zU).length) zE,Sv Ac (((s.qB[i]!).jJ).length) Bc,Sv AD (((s.qB[i]!).jK).length) A9,Sv BA (((s.qB[i]!).jF).length) Aw,Sv EN (((s.qB[i]!).QL).length) EI,Sv Bn (((s.qB[i]!).xw).length) Aj,Bv ((s.qB[i]!).jw)] isAgg110 sizeOf110 rfl (qH (H.get 6 rfl) 0 9)<|sw<|vz #[.agg #[yI ((s.qB[i]!).qZ),yI ((s.qB[i]!).yJ),Sv AS (((s.qB[i]!).zU).length) zE,Sv Ac (((s.qB[i]!).jJ).length) Bc,Sv AD (((s.qB[i]!).jK).length) A9,Sv BA (((s.qB[i]!).jF).length) Aw,Sv EN (((s.qB[i]!).QL).length) EI,Sv Bn (((s.qB[i]!).xw).length) Aj,Bv ((s.qB[i]!).jw)]] rfl rfl call172<|en func172 ntmps172 ?_
  refine zcr<|sw<|jq H [yI ((s.qB[i]!).qZ),yI ((s.qB[i]!).yJ),Sv AS (((s.qB[i]!).zU).length) zE,Sv Ac (((s.qB[i]!).jJ).length) Bc,Sv AD (((s.qB[i]!).jK).length) A9,Sv BA (((s.qB[i]!).jF).length) Aw,Sv EN (((s.qB[i]!).QL).length) EI,Sv Bn (((s.qB[i]!).xw).length) Aj,Bv ((s.qB[i]!).jw)] fun wS BF H=>sp (Bv false)<|zjc<|oF rfl<|oL rfl (H.cell 0 rfl rfl)<|sq 1<|zjr<|ret1 (Bv ((s.qB[i]!).jw)) rfl rfl ⟨_,rfl,?_⟩
  replace H:=H.erases [0]
  dsimp only[zL,List.eraseIdx,List.set] at H
  refine zjn<|vg _ rfl (fun lw=>?_)<|fun lw=>?_
  ·refine zcr (sp (yI i)<|sp (yI i)<|zjr<|zr5<|ret1 (yI i) rfl rfl ⟨_,rfl,(sw<|o_pure (Bv true) (by show some (Value.bool<|decide ((i:Int)>=0))=some (Value.bool true);rw[decide_eq_true qf])<|sp (Bv true)<|zjr<|ret1 (Bv true) rfl rfl ⟨_,rfl,(sp (Bv true)<|zjr<|rH1 (Bv true) H ?_)⟩)⟩)
   rw[Qx<|fun h=>ft (by assumption:(s.qB[i]!).jw=true)<|h i qf]
  refine qW<|b_n<|t_n<|xX<|sw<|zS i 1 rfl rfl qf<|sq 1<|xU<|xu (m':=(s.qB.length-((i+1):Int)).toNat) qf ⟨_,i+1,uE4,?_,?_,rfl,N,H.pick [0] [7,8]⟩
  ·omega
  ·exact i1.succ ql
 refine zx4<|zcr<|sq 1<|zjr<|ret1 (yI (-1)) rfl rfl ⟨_,rfl,(sp (Bv false)<|sp (Bv false)<|zjr<|ret1 (Bv false) rfl rfl ⟨_,rfl,(sp (Bv false)<|zjr<|rH1 (Bv false) H ?_)⟩)⟩
 rw[xE<|fun x=>x<|fun j hj=>i1 j qf]
theorem noBags_ok(w:World)(s:qO)(xh:zP w xY qU qR s.qA)(xI:zP w zX xC xx s.qB)(p0:jZ s):Calls Tryz.prog 115 #[.agg #[yI s.qN,Sv qU s.qA.length qR,Sv xC s.qB.length xx]] w (Ret (fun v w'=>∃(ra:yOA) (rn:Nat) (rc:Nat) (rx:List Value) (rF:yLN),v=Sv ra rn rc/\Fresh w.heap.size [rF]/\St w w' [rr ra rn rc 24 1 rx] [qQ true rF rx<|jG s<|s.qA.length+1]) w):=by
 refine en func115 ntmps115 ?_
 have H:=((St.start w).arg xI).arg xh
 have vS:=qM xh
 clear xh xI
 have N:=Fresh.nil w.heap.size
 have p1:=p0.1
 have p2:=p0.2.1
 refine zcr<|sw<|jq H (yS s qU qR xC xx) fun b1 w2 H=>sq 1<|zjc<|sw<|jH H underlying29 ti24 fun b3 w4 H=>sq 1<|zjcc<|sw<|xW (yS s qU qR xC xx) isAgg27 sizeOf27 rfl (qH (H.cells 1 rfl) 0 3)<|sw<|oq (around_ok _ s (H.get 0 rfl).1 (H.get 1 rfl).1) H fun w6 H=>sw<|zS s.qA.length 1 rfl rfl qf<|sp (yI 0)<|zjn<|xe ?_
 replace H:=H.boxRow 0 rfl 1 0 rfl qj
 replace H:=H.yD (α:=yLI)
 refine zT ((fun Z0 Z1 Z2=>fun m' ρ w8=>∃(xP:Env) (yO:yOA) (yH:Nat) (yM:Nat) (out:yLL) (QF:List Value) (Qo:yLN) (k:Nat),ρ=upd (upd (upd (upd xP 1<|pp b1 0) 3<|Sv yO yH yM) 7<|yI<|s.qA.length+1) 8 (yI k)/\out=jG s k/\((k:Int)<=(s.qA.length+1))/\m'=((s.qA.length+1)-(k:Int)).toNat/\Fresh w.heap.size [Qo]/\St w w8 [rr yO yH yM 24 1 QF,Z0] [qQ true Qo QF out,Z1,Z2]) _ _ _) (((s.qA.length+1)-(0:Int)).toNat) ⟨_,(aa b3 0),0,0,([]:yLL),[],[],0,uE4,(by rfl),qf,rfl,N.emp,H⟩ ?_
 clear H N
 rintro m' ρ w9 ⟨xP,yO,yH,yM,out,QF,Qo,k,rfl,rfl,i0,rfl,N,H⟩
 have Vm:=H.xk (α:=yLI) 0 rfl 0 rfl qj
 have zl:=zeros_len s k
 refine zcr<|sq 1<|zjn<|xM<|cD rfl (fun dD=>?_)<|fun dD=>?_
 ·refine qW (t_n<|xM<|xe<|xX<|sq 1<|oF rfl<|oL rfl (H.cell 1 rfl rfl)<|sw<|jP H underlying24 ti2 s.qN.toNat rfl rfl qf qf qf fun sT G7 H=>sw<|zy H underlying29 ti24 [Sv (aa sT 0) s.qN.toNat s.qN.toNat] fun xj Um H=>?_)
  obtain⟨G18,N,aIQ,H⟩:=H.vJ 1 rfl N<|H.vV [0]
  refine sw<|zH H 2 rfl 0 rfl underlying29 ti24 rfl qj rfl rfl rfl qw qp qf fun PB YJ J8 H=>?_
  replace H:=H.Q5 1 rfl 0 rfl
  replace N:Fresh w.heap.size [(Qo++G18)]:=(N.pick [1,0]).join
  refine sq 1<|xU<|b_n<|t_n<|xX<|sw<|zS k 1 rfl rfl qf<|sq 1<|xU<|xu (m':=((s.qA.length+1)-((k+1):Int)).toNat) qf ⟨_,_,_,_,_,_,_,k+1,uE4,?_,?_,rfl,N,H.pick [2,3] [0,3,4]⟩
  ·exact zeros_snoc s k
  ·omega
 refine zx4<|zcr<|sq 2<|zjr<|rH1 (Sv yO yH yM) H ?_
 obtain rfl:k=s.qA.length+1:=by omega
 exact⟨yO,yH,yM,QF,Qo,rfl,N,H.pick [0] [0]⟩
theorem isBag_ok(w:World)(l:yLI)(hl:zP w Fl al cl l):Calls Tryz.prog 168 #[Sv al l.length cl] w (Ret (fun v w'=>v=Bv (dec<|VM l)) w):=by
 refine en func168 ntmps168 ?_
 have H:=(St.start w).arg hl
 clear hl
 refine zcr<|sp (Bv false)<|zjc<|sq 1<|sw<|oq (sizeI_ok _ l (H.get 0 rfl).1) H fun w1 H=>sq 1<|sw<|oq (VC _ (l.length:Int) l (H.get 0 rfl).1) H fun w3 H=>sq 1<|zjr<|rH1 (Bv<|dec<|vW (l.length:Int) l) H ?_
 rw[dec_congr bagAny_ok]
theorem areBags_ok(w:World)(l:yLL)(hl:zP w Fl al cl l):Calls Tryz.prog 143 #[Sv al l.length cl] w (Ret (fun v w'=>v=Bv (dec<|yF l l.length)) w):=by
 refine en func143 ntmps143 ?_
 have H:=(St.start w).arg hl
 have C5:=qM hl
 clear hl
 have N:=Fresh.nil w.heap.size
 refine zcr<|sp (Bv false)<|zjc<|sq 1<|sw<|vz #[Sv al l.length cl,.func (.func 167) #[] #[]] rfl rfl call166<|en func166 ntmps166 ?_
 refine zcr<|sp (Bv false)<|zjc<|sq 1<|sp (.func (.func 167) #[] #[])<|sw<|vz #[Sv al l.length cl,.func (.func 167) #[] #[]] rfl rfl call176<|en func176 ntmps176 ?_
 refine zcr<|sp (yI 0)<|zjcc<|sq 1<|oN rfl<|sp (yI 0)<|zjn<|xe<|zT ((fun Z0=>fun m' ρ w1=>∃(xP:Env) (i:Nat),ρ=upd (upd (upd (upd xP 0<|Sv al l.length cl) 1<|.func (.func 167) #[] #[]) 7<|yI l.length) 8 (yI i)/\((i:Int)<=l.length)/\(yF l i)/\m'=(l.length-(i:Int)).toNat/\Fresh w.heap.size []/\St w w1 [] [Z0]) _) ((l.length-(0:Int)).toNat) ⟨_,0,uE4,qf,qx,rfl,N,H⟩ ?_
 clear H N
 rintro m' ρ w2 ⟨xP,i,rfl,i0,i1,rfl,N,H⟩
 refine zcr<|sq 1<|zjn<|xM<|cD rfl (fun h3=>?_)<|fun h3=>?_
 ·refine qW (t_n<|xM<|xe<|zcr<|sp (yI i)<|sp (yI i)<|zjc<|sp (.func (.func 167) #[] #[])<|sq 1<|sp (yI i) ?_)
  obtain⟨b4,o5,rfl⟩:=H.addr 0 rfl qf
  obtain⟨ae7,ce7,Fe7,H⟩:=H.yB 0 rfl i i qf qf qf
  refine oI rfl rfl<|oL rfl (H.zG 1 rfl 0 rfl)<|sw<|vz #[Sv ae7 ((l[i]!).length) ce7] rfl rfl call167<|en func167 ntmps167 ?_
  refine zcr<|sp (Bv false)<|zjc<|sq 1<|sw<|oq (isBag_ok _ (l[i]!) (H.get 0 rfl).1) H fun w9 H=>sq 2<|zjr<|ret1 (Bv (!(dec<|VM<|l[i]!))) rfl rfl ⟨_,rfl,(zjn<|cQ rfl (fun cZ=>?_)<|fun cZ=>?_)⟩
  ·refine zcr (sp (yI i)<|sp (yI i)<|zjr<|zr5<|ret1 (yI i) rfl rfl ⟨_,rfl,(sw<|o_pure (Bv true) (by show some (Value.bool<|decide ((i:Int)>=0))=some (Value.bool true);rw[decide_eq_true qf])<|sp (Bv true)<|zjr<|ret1 (Bv true) rfl rfl ⟨_,rfl,(sp (Bv false)<|sp (Bv false)<|zjr<|rH1 (Bv false) H ?_)⟩)⟩)
   rw[xE<|fun h=>absurd (h i qf) ql]
  refine qW<|b_n<|t_n<|xX<|sw<|zS i 1 rfl rfl qf<|sq 1<|xU<|xu (m':=(l.length-((i+1):Int)).toNat) qf ⟨_,i+1,uE4,?_,?_,rfl,N,H.pick [] [2]⟩
  ·omega
  ·exact i1.succ ql
 refine zx4<|zcr<|sq 1<|zjr<|ret1 (yI (-1)) rfl rfl ⟨_,rfl,(sp (Bv false)<|sp (Bv false)<|zjr<|ret1 (Bv false) rfl rfl ⟨_,rfl,(sp (Bv true)<|sp (Bv true)<|zjr<|rH1 (Bv true) H ?_)⟩)⟩
 rw[Qx<|show yF l l.length from fun j hj=>i1 j qf]
theorem puts_ok(w:World)(s:qO)(t:xn)(counts:yLI)(cell:Int){Bl:yOA}{By:Nat}{SI:yLN}(xh:zP w xY qU qR s.qA)(xI:zP w zX xC xx s.qB)(ve:zP w jY zK zI t.xF)(jd:zP w Qe vC vk t.qG)(zB:zP w je zg zf t.qF)(FX:zP w SI Bl By counts)(p0:Qr s)(p1:vU s t)(p2:CntOk s counts):Calls Tryz.prog 139 #[.agg #[yI s.qN,Sv qU s.qA.length qR,Sv xC s.qB.length xx],.agg #[Sv zK t.xF.length zI,Sv vC t.qG.length vk,Sv zg t.qF.length zf],Sv Bl counts.length By,yI cell] w (Ret (fun v w'=>∃(ra:yOA) (rn:Nat) (rc:Nat) (rx:List Value) (rF:yLN),v=Sv ra rn rc/\Fresh w.heap.size [rF]/\St w w' [rr ra rn rc 24 1 rx] [qQ true rF rx<|yc s t counts cell]) w):=by
 refine en func139 ntmps139 ?_
 have H:=((((((St.start w).arg FX).arg zB).arg jd).arg ve).arg xI).arg xh
 have jV:=qM xI
 have XM:=qM jd
 clear xh xI ve jd zB FX
 have N:=Fresh.nil w.heap.size
 have p5:=p0.2.1
 have p6:=p2.1
 have p7:=p1.2.1
 have p8:=XR p0
 have p9:=p0.1.2.1
 have UG:=p1.1
 have p15:=p0.1
 refine zcr<|sw<|jq H (yS s qU qR xC xx) fun b1 w2 H=>sw<|jq H (yT t zK zI vC vk zg zf) fun b3 w4 H=>sq 1<|zjc<|sw<|xW (yS s qU qR xC xx) isAgg27 sizeOf27 rfl (qH (H.cells 1 rfl) 0 3) ?_
 have sz8:=H.base.size
 refine sw<|oc (noBags_ok _ s (H.get 0 rfl).1 (H.get 1 rfl).1 qg) ?_
 rintro _ w6 ⟨ra5,rn5,Ue,rx5,rF5,rfl,M,K⟩ _
 replace N:=N.merge sz8 qm M
 replace H:=H.merge K M
 obtain rfl:=H.xk (α:=yLI) 0 rfl 0 rfl qj
 refine sq 1<|zjcc<|sq 1<|oN rfl<|sp (yI 0)<|zjn<|xe<|zT ((fun Z0 Z1 Z2 Z3 Z4 Z5 Z6 Z7=>fun m' ρ BF=>∃(xP:Env) (i:Nat) (bags:yLL) (mB:List Value) (g7:yLN),ρ=upd (upd (upd (upd (upd (upd (upd xP 3<|yI cell) 4<|pp b1 0) 5<|pp b3 0) 9<|Sv ra5 ((jG s<|s.qA.length+1).length) Ue) 15<|Sv Bl counts.length By) 16<|yI counts.length) 17 (yI i)/\((i:Int)<=counts.length)/\(Ent (s.qA.length+1) (jb s) (fun p q=>XV s t counts cell i p q) (1000+6000000*i) bags)/\(bags.length=s.qA.length+1)/\m'=(counts.length-(i:Int)).toNat/\Fresh w.heap.size [g7]/\St w BF [rr ra5 ((jG s<|s.qA.length+1).length) Ue 24 1 mB,Z0,Z1] [qQ true g7 mB bags,Z2,Z3,Z4,Z5,Z6,Z7]) _ _ _ _ _ _ _ _) ((counts.length-(0:Int)).toNat) ⟨_,0,jG s<|s.qA.length+1,rx5,rF5,uE7,qf,(by exact(zeros_ent (B:=0) qf).to (fun _ _=>rfl) qf),(by rw[zeros_len]),rfl,N,H⟩ ?_
 clear H N
 rintro m' ρ G7 ⟨xP,i,bags,mB,g7,rfl,i0,AX,atX,rfl,N,H⟩
 have Sm:=H.xk (α:=yLI) 0 rfl 0 rfl qj
 refine zcr<|sq 1<|zjn<|xM<|cD rfl (fun Ed=>?_)<|fun Ed=>?_
 ·have q:=p0.rule (i:=i) qf
  have qc:=q.1
  have Rb:=q.2.2.2.2.1
  have UY:=q.2.2.2.2.2.2.2.1
  have Pg:=q.2.2.2.2.2.2.2.2.1
  have ln1:=Rb.len
  have ln2:=UY.len
  have ln3:=Pg.len
  have p10:=p2.bd (i:=i) qf
  have qn:=q.2.2.2.1
  refine qW<|t_n<|xM<|xe<|zcr<|sp (yI i) ?_
  obtain⟨Kn,o15,rfl⟩:=H.addr 6 rfl qf
  refine oI rfl rfl<|oL rfl (H.vG 6 rfl i qf)<|sp (yI i)<|sq 1<|zjc<|oF rfl<|oL rfl (H.cell 2 rfl rfl)<|sp (yI i) ?_
  obtain⟨l7,o18,rfl⟩:=H.addr 2 rfl qf
  obtain⟨mO,nr,am0,nh,nK,apK,nP,m9,aez,kJ,kX,agv,lG,lS,asi,i9,jt,ahh,H⟩:=H.QY 2 rfl i i qf qf qf
  refine oI rfl rfl<|sw<|xW [yI ((s.qB[i]!).qZ),yI ((s.qB[i]!).yJ),Sv mO (((s.qB[i]!).zU).length) nr,Sv nh (((s.qB[i]!).jJ).length) nK,Sv nP (((s.qB[i]!).jK).length) m9,Sv kJ (((s.qB[i]!).jF).length) kX,Sv lG (((s.qB[i]!).QL).length) lS,Sv i9 (((s.qB[i]!).xw).length) jt,Bv ((s.qB[i]!).jw)] isAgg110 sizeOf110 rfl (qH (H.get 6 rfl) 0 9)<|sw<|zn H ti110 [yI 0,yI 0,yN,yN,yN,yN,yN,yN,Bv false] fun wK Ke H=>sw<|zF H 0 [yI ((s.qB[i]!).qZ),yI ((s.qB[i]!).yJ),Sv mO (((s.qB[i]!).zU).length) nr,Sv nh (((s.qB[i]!).jJ).length) nK,Sv nP (((s.qB[i]!).jK).length) m9,Sv kJ (((s.qB[i]!).jF).length) kX,Sv lG (((s.qB[i]!).QL).length) lS,Sv i9 (((s.qB[i]!).xw).length) jt,Bv ((s.qB[i]!).jw)] sizeOf110 fun Kf H=>(zjc<|oF rfl<|oL rfl (H.cell 0 rfl rfl)<|sq 2<|zjn<|cE rfl (fun BH=>?_)<|fun BH=>?_)
  ·refine xX (sw<|xW [yI s.qN,Sv qU s.qA.length qR,Sv (aa l7 o18) s.qB.length xx] isAgg27 sizeOf27 rfl (qH (H.cells 3 rfl) 0 3)<|sw<|xW (yT t zK zI vC vk zg zf) isAgg31 sizeOf31 rfl (qH (H.cells 2 rfl) 0 3)<|sq 1<|sw<|xW [yI ((s.qB[i]!).qZ),yI ((s.qB[i]!).yJ),Sv mO (((s.qB[i]!).zU).length) nr,Sv nh (((s.qB[i]!).jJ).length) nK,Sv nP (((s.qB[i]!).jK).length) m9,Sv kJ (((s.qB[i]!).jF).length) kX,Sv lG (((s.qB[i]!).QL).length) lS,Sv i9 (((s.qB[i]!).xw).length) jt,Bv ((s.qB[i]!).jw)] isAgg110 sizeOf110 rfl (qH (H.cells 0 rfl) 0 9)<|sq 1<|sw<|vz #[.agg #[yI s.qN,Sv qU s.qA.length qR,Sv (aa l7 o18) s.qB.length xx],.agg #[Sv zK t.xF.length zI,Sv vC t.qG.length vk,Sv zg t.qF.length zf],Sv ra5 ((jG s<|s.qA.length+1).length) Ue,.agg #[yI ((s.qB[i]!).qZ),yI ((s.qB[i]!).yJ),Sv mO (((s.qB[i]!).zU).length) nr,Sv nh (((s.qB[i]!).jJ).length) nK,Sv nP (((s.qB[i]!).jK).length) m9,Sv kJ (((s.qB[i]!).jF).length) kX,Sv lG (((s.qB[i]!).QL).length) lS,Sv i9 (((s.qB[i]!).xw).length) jt,Bv ((s.qB[i]!).jw)],yI<|counts[i]!] rfl rfl call82<|en func82 ntmps82 ?_)
   refine zcr<|sw<|jq H [yI s.qN,Sv qU s.qA.length qR,Sv (aa l7 o18) s.qB.length xx] fun YS Fq H=>sw<|jq H (yT t zK zI vC vk zg zf) fun b27 I8 H=>sw<|jq H [Sv ra5 ((jG s<|s.qA.length+1).length) Ue] fun DX ZP H=>(sw<|jq H [yI ((s.qB[i]!).qZ),yI ((s.qB[i]!).yJ),Sv mO (((s.qB[i]!).zU).length) nr,Sv nh (((s.qB[i]!).jJ).length) nK,Sv nP (((s.qB[i]!).jK).length) m9,Sv kJ (((s.qB[i]!).jF).length) kX,Sv lG (((s.qB[i]!).QL).length) lS,Sv i9 (((s.qB[i]!).xw).length) jt,Bv ((s.qB[i]!).jw)] fun b31 Pn H=>sw<|jq H [yI<|counts[i]!] fun Ag w34 H=>zjc<|sp (.func (.func 130) #[] #[pp DX 0,pp Ag 0])<|sp (.func (.func 130) #[] #[pp DX 0,pp Ag 0])<|zjc<|sp (.func (.func 130) #[] #[pp DX 0,pp Ag 0])<|oF rfl<|oL rfl (H.cell 1 rfl rfl)<|oF rfl<|oL rfl (H.cell 1 rfl rfl)<|sw<|vz #[yI ((s.qB[i]!).qZ),Sv kJ (((s.qB[i]!).jF).length) kX,pp DX 0,pp Ag 0] rfl rfl call130<|en func130 ntmps130 ?_)
   refine X4 rfl H [0,1,2,3,4,5,7,8] fun H=>?_
   have S:=H.zW [0,1,2,3,4,5,7,8]<|zR 0 14
   refine tL 0 rfl rfl (fun _ h=>h.cell 2 rfl rfl) S ?_
   refine rtl 1 S ?_
   refine tL 2 rfl rfl (fun _ h=>h.cell 2 rfl rfl) S ?_
   refine rtl 3 S ?_
   obtain⟨Zb,rfl⟩:=H.jB 6 rfl qf
   have S:=H.zW [0,1,2,3,4,5,7,8]<|zR 0 14
   refine tI 4 rfl rfl rfl S ?_
   refine rtl 6 S ?_
   refine tL 7 rfl rfl (fun _ h=>h.cell 0 rfl rfl) S ?_
   refine ro 5 rfl ?_
   obtain⟨a37,c38,G39,s40,th,H⟩:=H.Xl 6 rfl 7 rfl (iv:=(s.qB[i]!).qZ) (((s.qB[i]!).qZ).toNat) qf qf
   refine zJ (Sv a37 ((bags[((s.qB[i]!).qZ).toNat]!).length) c38) isAgg24 rfl (th)<|⟨H.pick [0,1,2,3,4,5,7,8]<|zR 1 14,(ro 8 rfl ?_)⟩
   obtain⟨u1,u2⟩:=AX.sh.row (c:=((s.qB[i]!).qZ).toNat) qf p8 qf
   have u4:=(by exact UY.Qp qf:X8 ((s.qB[i]!).jF) (counts[i]!))
   refine oc (plus_ok _ (bags[((s.qB[i]!).qZ).toNat]!) ((s.qB[i]!).jF) (counts[i]!) (H.get 0 rfl).1 (H.get 4 rfl).1 qg qg qg) ?_
   rintro v47 w45 r47 x46
   replace H:=H.zV x46 r47
   obtain⟨a48,c49,rfl,aFn,aDI⟩:=H.yf 0 rfl
   refine⟨H.pick [1,2,3,4,5,6,8,9]<|zR 1 14,(tI 9 rfl rfl rfl (H.pick [1,2,3,4,5,6,8,9]<|zR 1 14) ?_)⟩
   refine ro 10 rfl ?_
   obtain⟨G53,N,aIi,H⟩:=H.vJ 0 rfl N<|H.vV [8]
   refine Qd true H 7 rfl 9 rfl (Sv a48 ((jc (bags[((s.qB[i]!).qZ).toNat]!) ((s.qB[i]!).jF)<|counts[i]!).length) c49) 0 rfl rfl sizeOf24 rfl rfl (i:=(((s.qB[i]!).qZ).toNat)) qf qf qm fun T2 aDa F56 axw H=>?_
   replace N:Fresh w.heap.size [F56]:=(N.pick [1,0]).repl axw
   refine⟨H.pick [1,2,3,4,5,6,8,9]<|zR 3 14,(xy qh ((ret0 rfl ⟨_,rfl,?_⟩)))⟩
   replace H:=H.erases [0]
   dsimp only[zL,List.eraseIdx,List.set] at H
   obtain⟨xa,Nu⟩:∃z,z=(bags.set (((s.qB[i]!).qZ).toNat) (jc (bags[((s.qB[i]!).qZ).toNat]!) ((s.qB[i]!).jF) (counts[i]!))):=⟨_,rfl⟩
   rw[←Nu] at H
   have wx:=Ent.add (D:=1000000) AX Nu qf (by exact UY.mul qf) qf
   have axY:=wx.sh.1
   refine zjcc<|sw<|xW [yI s.qN,Sv qU s.qA.length qR,Sv (aa l7 o18) s.qB.length xx] isAgg27 sizeOf27 rfl (qH (H.cells 4 rfl) 0 3)<|sw<|xW (yT t zK zI vC vk zg zf) isAgg31 sizeOf31 rfl (qH (H.cells 3 rfl) 0 3)<|oF rfl<|oL rfl (H.cell 1 rfl rfl) ?_
   have qc':=qc
   refine sw<|oq (parentNow_ok _ s t ((s.qB[i]!).qZ) (H.get 11 rfl).1 (H.get 12 rfl).1 (H.get 13 rfl).1 (H.get 14 rfl).1 (H.get 15 rfl).1 qg qg qg) H fun w60 H=>?_
   have pl:=parentNow_lt p15 p1.2.2.1 qc
   refine sq 1<|zjc<|sq 1<|sp (Bv<|decide ((zO s t ((s.qB[i]!).qZ):Int)>=0))<|zjn<|cD rfl (fun PF=>?_)<|fun PF=>?_
   ·have po:=outPl_in (r:=s.qB[i]!) p15 ‹_›
    refine xX<|sp (.func (.func 130) #[] #[pp DX 0,pp Ag 0])<|sq 1<|oF rfl<|oL rfl (H.cell 1 rfl rfl)<|sw<|vz #[yI<|zO s t ((s.qB[i]!).qZ),Sv lG (((s.qB[i]!).QL).length) lS,pp DX 0,pp Ag 0] rfl rfl call130<|en func130 ntmps130 ?_
    refine X4 rfl H [0,1,2,3,4,5,7,8] fun H=>?_
    have S:=H.zW [0,1,2,3,4,5,7,8]<|zR 0 17
    refine tL 0 rfl rfl (fun _ h=>h.cell 2 rfl rfl) S ?_
    refine rtl 1 S ?_
    refine tL 2 rfl rfl (fun _ h=>h.cell 2 rfl rfl) S ?_
    refine rtl 3 S ?_
    refine tI 4 rfl rfl rfl S ?_
    refine rtl 6 S ?_
    refine tL 7 rfl rfl (fun _ h=>h.cell 0 rfl rfl) S ?_
    refine ro 5 rfl ?_
    obtain⟨a64,c65,G66,s67,h68,H⟩:=H.Xl 6 rfl 0 rfl (iv:=zO s t ((s.qB[i]!).qZ)) ((zO s t ((s.qB[i]!).qZ)).toNat) qf qf
    refine zJ (Sv a64 ((xa[(zO s t ((s.qB[i]!).qZ)).toNat]!).length) c65) isAgg24 rfl (h68)<|⟨H.pick [0,1,2,3,4,5,7,8]<|zR 1 17,(ro 8 rfl ?_)⟩
    obtain⟨u1,u2⟩:=wx.sh.row (c:=(zO s t ((s.qB[i]!).qZ)).toNat) qf p8 qf
    have u4:=(by exact Pg.Qp qf:X8 ((s.qB[i]!).QL) (counts[i]!))
    refine oc (plus_ok _ (xa[(zO s t ((s.qB[i]!).qZ)).toNat]!) ((s.qB[i]!).QL) (counts[i]!) (H.get 0 rfl).1 (H.get 8 rfl).1 qg qg qg) ?_
    rintro v74 Kc r74 x73
    replace H:=H.zV x73 r74
    obtain⟨a75,c76,rfl,avp,avS⟩:=H.yf 0 rfl
    refine⟨H.pick [1,2,3,4,5,6,8,9]<|zR 1 17,(tI 9 rfl rfl rfl (H.pick [1,2,3,4,5,6,8,9]<|zR 1 17) ?_)⟩
    refine ro 10 rfl ?_
    obtain⟨G80,N,ax2,H⟩:=H.vJ 0 rfl N<|H.vV [1]
    refine Qd true H 7 rfl 2 rfl (Sv a75 ((jc (xa[(zO s t ((s.qB[i]!).qZ)).toNat]!) ((s.qB[i]!).QL)<|counts[i]!).length) c76) 0 rfl rfl sizeOf24 rfl rfl (i:=((zO s t ((s.qB[i]!).qZ)).toNat)) qf qf qm fun w79 ai1 F83 abw H=>?_
    replace N:Fresh w.heap.size [F83]:=(N.pick [1,0]).repl abw
    refine⟨H.pick [1,2,3,4,5,6,8,9]<|zR 3 17,(xy qh ((ret0 rfl ⟨_,rfl,?_⟩)))⟩
    replace H:=H.erases [0]
    dsimp only[zL,List.eraseIdx,List.set] at H
    obtain⟨aw3,Ot⟩:∃z,z=(xa.set ((zO s t ((s.qB[i]!).qZ)).toNat) (jc (xa[(zO s t ((s.qB[i]!).qZ)).toNat]!) ((s.qB[i]!).QL) (counts[i]!))):=⟨_,rfl⟩
    rw[←Ot] at H
    have MY:=Ent.add (D:=1000000) wx Ot qf (by exact Pg.mul qf) qf
    have aua:=MY.sh.1
    have iP:=MY
    refine zjc<|oF rfl<|oL rfl (H.cell 1 rfl rfl)<|oN rfl<|sp (yI 0)<|zjn<|xe<|zT ((fun Z0 Z1 Z2 Z3 Z4 Z5 Z6 Z7 Z8 Z9 fi fK gW ka lc lN rj xo Ab EJ Ew=>fun m' ρ w86=>∃(xP:Env) (k:Nat) (ew:yLL) (iT:List Value) (jj:yLN),ρ=upd (upd (upd (upd xP 10<|.func (.func 130) #[] #[pp DX 0,pp Ag 0]) 40<|Sv i9 (((s.qB[i]!).xw).length) jt) 41<|yI (((s.qB[i]!).xw).length)) 42 (yI k)/\((k:Int)<=(((s.qB[i]!).xw).length))/\(Ent (s.qA.length+1) (jb s) (fun p q=>XV s t counts cell i p q+at' p (s.qB[i]!).qZ.toNat (((counts)[i]!)*((s.qB[i]!).jF)[q]!)+at' p (outPl s t<|s.qB[i]!) (((counts)[i]!)*((s.qB[i]!).QL)[q]!)+intoF (s.qB[i]!) ((counts)[i]!) k p q) (3000000+6000000*i+1000000*k) ew)/\(ew.length=s.qA.length+1)/\m'=((((s.qB[i]!).xw).length)-(k:Int)).toNat/\Fresh w.heap.size [jj]/\St w w86 [Z0,Z1,Z2,Z3,Z4,Z5,rr (aa Zb 0) ((jG s<|s.qA.length+1).length) Ue 24 1 iT,Z6,Z7] [qQ true jj iT ew,Z8,Z9,fi,fK,gW,ka,lc,lN,rj,xo,Ab,EJ,Ew]) _ _ _ _ _ _ _ _ _ _ _ _ _ _ _ _ _ _ _ _ _) (((((s.qB[i]!).xw).length)-(0:Int)).toNat) ⟨_,0,aw3,ai1,F83,uE4,qf,(by exact iP.to (fun p q=>by rw[po];simp only[intoF];omega) qf),qf,rfl,N,H.pick (zR 0 9) (0::6::7::8::9::10::11::12::zR 14 6)⟩ ?_
    clear H N
    rintro m' ρ w87 ⟨xP,k,ew,iT,jj,rfl,i0,iY,M6,rfl,N,H⟩
    refine zcr<|sq 1<|zjn<|xM<|cD rfl (fun h88=>?_)<|fun h88=>?_
    ·have qi:=q.2.2.2.2.2.2.2.2.2.2 k qf
     have qi1:=qi.1
     have D9:=qi.2.2.1
     have ln4:=D9.len
     refine qW<|t_n<|xM<|xe<|zcr ?_
     obtain⟨ye,o90,rfl⟩:=H.addr 6 rfl qf
     obtain⟨tn,tg,Re,H⟩:=H.Qw 6 rfl k k qf qf qf
     refine oI rfl rfl<|sw<|xW [yI ((((s.qB[i]!).xw)[k]!).qZ),Sv tn (((((s.qB[i]!).xw)[k]!).Xa).length) tg] isAgg161 sizeOf161 rfl (qH (H.get 1 rfl) 0 2)<|sw<|zn H ti161 [yI 0,yN] fun b93 w94 H=>sw<|zF H 0 [yI ((((s.qB[i]!).xw)[k]!).qZ),Sv tn (((((s.qB[i]!).xw)[k]!).Xa).length) tg] sizeOf161 fun w95 H=>zjn<|xX<|sp (.func (.func 130) #[] #[pp DX 0,pp Ag 0])<|oF rfl<|oL rfl (H.cell 0 rfl rfl)<|oF rfl<|oL rfl (H.cell 0 rfl rfl)<|sw<|vz #[yI ((((s.qB[i]!).xw)[k]!).qZ),Sv tn (((((s.qB[i]!).xw)[k]!).Xa).length) tg,pp DX 0,pp Ag 0] rfl rfl call130<|en func130 ntmps130 ?_
     refine X4 rfl H [0,1,2,3,4,5,6,8,9] fun H=>?_
     have S:=H.zW [0,1,2,3,4,5,6,8,9]<|zR 0 16
     refine tL 0 rfl rfl (fun _ h=>h.cell 3 rfl rfl) S ?_
     refine rtl 1 S ?_
     refine tL 2 rfl rfl (fun _ h=>h.cell 3 rfl rfl) S ?_
     refine rtl 3 S ?_
     refine tI 4 rfl rfl rfl S ?_
     refine rtl 6 S ?_
     refine tL 7 rfl rfl (fun _ h=>h.cell 1 rfl rfl) S ?_
     refine ro 5 rfl ?_
     obtain⟨a97,c98,G99,aGF,ry,H⟩:=H.Xl 7 rfl 2 rfl (iv:=(((s.qB[i]!).xw)[k]!).qZ) (((((s.qB[i]!).xw)[k]!).qZ).toNat) qf qf
     refine zJ (Sv a97 ((ew[((((s.qB[i]!).xw)[k]!).qZ).toNat]!).length) c98) isAgg24 rfl (ry)<|⟨H.pick [0,1,2,3,4,5,6,8,9]<|zR 1 16,(ro 8 rfl ?_)⟩
     obtain⟨u1,u2⟩:=iY.sh.row (c:=((((s.qB[i]!).xw)[k]!).qZ).toNat) qf p8 qf
     have u4:=(by exact D9.Qp qf:X8 ((((s.qB[i]!).xw)[k]!).Xa) (counts[i]!))
     refine oc (plus_ok _ (ew[((((s.qB[i]!).xw)[k]!).qZ).toNat]!) ((((s.qB[i]!).xw)[k]!).Xa) (counts[i]!) (H.get 0 rfl).1 (H.get 1 rfl).1 qg qg qg) ?_
     rintro aF8 ae1 atx atj
     replace H:=H.zV atj atx
     obtain⟨Cp,CC,rfl,aBD,aAW⟩:=H.yf 0 rfl
     refine⟨H.pick [1,2,3,4,5,6,7,9,10]<|zR 1 16,(tI 9 rfl rfl rfl (H.pick [1,2,3,4,5,6,7,9,10]<|zR 1 16) ?_)⟩
     refine ro 10 rfl ?_
     obtain⟨axn,N,aiJ,H⟩:=H.vJ 0 rfl N<|H.vV [3]
     refine Qd true H 8 rfl 4 rfl (Sv Cp ((jc (ew[((((s.qB[i]!).xw)[k]!).qZ).toNat]!) ((((s.qB[i]!).xw)[k]!).Xa)<|counts[i]!).length) CC) 0 rfl rfl sizeOf24 rfl rfl (i:=(((((s.qB[i]!).xw)[k]!).qZ).toNat)) qf qf qm fun Ru aBG atT ajb H=>?_
     replace N:Fresh w.heap.size [atT]:=(N.pick [1,0]).repl ajb
     refine⟨H.pick [1,2,3,4,5,6,7,9,10]<|zR 3 16,(xy qh ((ret0 rfl ⟨_,rfl,?_⟩)))⟩
     replace H:=H.erases [0]
     dsimp only[zL,List.eraseIdx,List.set] at H
     obtain⟨ay9,Gs⟩:∃z,z=(ew.set (((((s.qB[i]!).xw)[k]!).qZ).toNat) (jc (ew[((((s.qB[i]!).xw)[k]!).qZ).toNat]!) ((((s.qB[i]!).xw)[k]!).Xa) (counts[i]!))):=⟨_,rfl⟩
     rw[←Gs] at H
     have Gp:=Ent.add (D:=1000000) iY Gs qf (by exact D9.mul qf) qf
     have aqv:=Gp.sh.1
     have iP:=Gp
     refine xU<|b_n<|t_n<|xX<|sw<|zS k 1 rfl rfl qf<|sq 1<|xU<|xu (m':=((((s.qB[i]!).xw).length)-((k+1):Int)).toNat) qf ⟨_,k+1,_,_,_,uE4,?_,?_,?_,rfl,N,H.pick (zR 1 9) (0::zR 6 13)⟩
     ·omega
     ·exact iP.to (fun p q=>by simp only[intoF];omega) qf
     ·omega
    refine c_exit<|t_x<|t_x<|b_x<|ret0 rfl ⟨_,rfl,?_⟩
    replace H:=H.erases [4,3,2,1,0]
    dsimp only[zL,List.eraseIdx,List.set] at H
    refine xU<|b_n<|t_n<|xX<|sw<|zS i 1 rfl rfl qf<|sq 1<|xU<|xu (m':=(counts.length-((i+1):Int)).toNat) qf ⟨_,i+1,_,_,_,uE7,?_,?_,?_,rfl,N,H.pick [1,2,3] (0::zR 8 6)⟩
    ·omega
    ·exact iY.to (fun p q=>by rw[show k=((s.qB[i]!).xw).length by omega,puts_yes (i:=i) ql];simp only[putF];omega) qf
    ·omega
   have po:=outPl_out (r:=s.qB[i]!) p15 p1.2.2.1 qc qf
   refine X4 rfl H [0,1,2,3,4,5,7,8] fun H=>?_
   have S:=H.zW [0,1,2,3,4,5,7,8]<|zR 0 17
   refine rtp 0 (.func (.func 130) #[] #[pp DX 0,pp Ag 0]) S ?_
   refine rt 1 _ (Qg (cs:=[yI s.qN,Sv qU s.qA.length qR,Sv (aa l7 o18) s.qB.length xx]) isAgg27 sizeOf27 rfl<|fun _ h=>qH (h.cells 4 rfl) 0 3) S ?_
   refine tF 3 rfl rfl S ?_
   refine tL 4 rfl rfl (fun _ h=>h.cell 1 rfl rfl) S ?_
   refine ro 2 rfl<|oq (around_ok _ s (H.get 11 rfl).1 (H.get 12 rfl).1) H fun anI H=>⟨H.pick [0,1,2,3,4,5,7,8]<|zR 0 17,(ro 5 rfl<|vz #[yI s.qA.length,Sv lG (((s.qB[i]!).QL).length) lS,pp DX 0,pp Ag 0] rfl rfl call130<|en func130 ntmps130 ?_)⟩
   refine X4 rfl H [0,1,2,3,4,5,7,8] fun H=>?_
   have S:=H.zW [0,1,2,3,4,5,7,8]<|zR 0 17
   refine tL 0 rfl rfl (fun _ h=>h.cell 2 rfl rfl) S ?_
   refine rtl 1 S ?_
   refine tL 2 rfl rfl (fun _ h=>h.cell 2 rfl rfl) S ?_
   refine rtl 3 S ?_
   refine tI 4 rfl rfl rfl S ?_
   refine rtl 6 S ?_
   refine tL 7 rfl rfl (fun _ h=>h.cell 0 rfl rfl) S ?_
   refine ro 5 rfl ?_
   obtain⟨ajh,alN,ajF,aHO,awx,H⟩:=H.Xl 6 rfl 0 rfl (iv:=s.qA.length) s.qA.length qf qf
   refine zJ (Sv ajh ((xa[s.qA.length]!).length) alN) isAgg24 rfl (awx)<|⟨H.pick [0,1,2,3,4,5,7,8]<|zR 1 17,(ro 8 rfl ?_)⟩
   obtain⟨u1,u2⟩:=wx.sh.row (c:=s.qA.length) qf p8 qf
   have u4:=(by exact Pg.Qp qf:X8 ((s.qB[i]!).QL) (counts[i]!))
   refine oc (plus_ok _ (xa[s.qA.length]!) ((s.qB[i]!).QL) (counts[i]!) (H.get 0 rfl).1 (H.get 8 rfl).1 qg qg qg) ?_
   rintro aIT aIo avm aur
   replace H:=H.zV aur avm
   obtain⟨aag,Y6,rfl,ayM,azY⟩:=H.yf 0 rfl
   refine⟨H.pick [1,2,3,4,5,6,8,9]<|zR 1 17,(tI 9 rfl rfl rfl (H.pick [1,2,3,4,5,6,8,9]<|zR 1 17) ?_)⟩
   refine ro 10 rfl ?_
   obtain⟨aIH,N,az3,H⟩:=H.vJ 0 rfl N<|H.vV [1]
   refine Qd true H 7 rfl 2 rfl (Sv aag ((jc (xa[s.qA.length]!) ((s.qB[i]!).QL)<|counts[i]!).length) Y6) 0 rfl rfl sizeOf24 rfl rfl (i:=s.qA.length) qf qf qm fun asW agH apG akP H=>?_
   replace N:Fresh w.heap.size [apG]:=(N.pick [1,0]).repl akP
   refine⟨H.pick [1,2,3,4,5,6,8,9]<|zR 3 17,(xy qh ((ret0 rfl ⟨_,rfl,?_⟩)))⟩
   replace H:=H.erases [0]
   dsimp only[zL,List.eraseIdx,List.set] at H
   obtain⟨aeo,Gg⟩:∃z,z=(xa.set s.qA.length (jc (xa[s.qA.length]!) ((s.qB[i]!).QL) (counts[i]!))):=⟨_,rfl⟩
   rw[←Gg] at H
   have H5:=Ent.add (D:=1000000) wx Gg qf (by exact Pg.mul qf) qf
   have aqB:=H5.sh.1
   have iP:=H5
   refine⟨H.pick [0,1,2,3,4,5,7,8]<|zR 3 17,(xy qh<|t_n<|zcr<|oF rfl<|oL rfl (H.cell 1 rfl rfl)<|oN rfl<|sp (yI 0)<|zjn<|xe ?_)⟩
   refine zT ((fun Z0 Z1 Z2 Z3 Z4 Z5 Z6 Z7 Z8 Z9 fi fK gW ka lc lN rj xo Ab EJ Ew=>fun m' ρ Mn=>∃(xP:Env) (k:Nat) (ew:yLL) (iT:List Value) (jj:yLN),ρ=upd (upd (upd (upd xP 10<|.func (.func 130) #[] #[pp DX 0,pp Ag 0]) 40<|Sv i9 (((s.qB[i]!).xw).length) jt) 41<|yI (((s.qB[i]!).xw).length)) 42 (yI k)/\((k:Int)<=(((s.qB[i]!).xw).length))/\(Ent (s.qA.length+1) (jb s) (fun p q=>XV s t counts cell i p q+at' p (s.qB[i]!).qZ.toNat (((counts)[i]!)*((s.qB[i]!).jF)[q]!)+at' p (outPl s t<|s.qB[i]!) (((counts)[i]!)*((s.qB[i]!).QL)[q]!)+intoF (s.qB[i]!) ((counts)[i]!) k p q) (3000000+6000000*i+1000000*k) ew)/\(ew.length=s.qA.length+1)/\m'=((((s.qB[i]!).xw).length)-(k:Int)).toNat/\Fresh w.heap.size [jj]/\St w Mn [Z0,Z1,Z2,Z3,Z4,Z5,rr (aa Zb 0) ((jG s<|s.qA.length+1).length) Ue 24 1 iT,Z6,Z7] [qQ true jj iT ew,Z8,Z9,fi,fK,gW,ka,lc,lN,rj,xo,Ab,EJ,Ew]) _ _ _ _ _ _ _ _ _ _ _ _ _ _ _ _ _ _ _ _ _) (((((s.qB[i]!).xw).length)-(0:Int)).toNat) ⟨_,0,aeo,agH,apG,uE4,qf,(by exact iP.to (fun p q=>by rw[po];simp only[intoF];omega) qf),qf,rfl,N,H.pick (zR 0 9) (0::6::7::8::9::10::11::12::zR 14 6)⟩ ?_
   clear H N
   rintro m' ρ avn ⟨xP,k,ew,iT,jj,rfl,i0,iY,M6,rfl,N,H⟩
   refine zcr<|sq 1<|zjn<|xM<|cD rfl (fun Bg=>?_)<|fun Bg=>?_
   ·have qi:=q.2.2.2.2.2.2.2.2.2.2 k qf
    have qi1:=qi.1
    have D9:=qi.2.2.1
    have ln4:=D9.len
    refine qW<|t_n<|xM<|xe<|zcr ?_
    obtain⟨aDr,aE8,rfl⟩:=H.addr 6 rfl qf
    obtain⟨tV,vm,anw,H⟩:=H.Qw 6 rfl k k qf qf qf
    refine oI rfl rfl<|sw<|xW [yI ((((s.qB[i]!).xw)[k]!).qZ),Sv tV (((((s.qB[i]!).xw)[k]!).Xa).length) vm] isAgg161 sizeOf161 rfl (qH (H.get 1 rfl) 0 2)<|sw<|zn H ti161 [yI 0,yN] fun aG6 Y3 H=>sw<|zF H 0 [yI ((((s.qB[i]!).xw)[k]!).qZ),Sv tV (((((s.qB[i]!).xw)[k]!).Xa).length) vm] sizeOf161 fun aIM H=>zjn<|xX<|sp (.func (.func 130) #[] #[pp DX 0,pp Ag 0])<|oF rfl<|oL rfl (H.cell 0 rfl rfl)<|oF rfl<|oL rfl (H.cell 0 rfl rfl)<|sw<|vz #[yI ((((s.qB[i]!).xw)[k]!).qZ),Sv tV (((((s.qB[i]!).xw)[k]!).Xa).length) vm,pp DX 0,pp Ag 0] rfl rfl call130<|en func130 ntmps130 ?_
    refine X4 rfl H [0,1,2,3,4,5,6,8,9] fun H=>?_
    have S:=H.zW [0,1,2,3,4,5,6,8,9]<|zR 0 16
    refine tL 0 rfl rfl (fun _ h=>h.cell 3 rfl rfl) S ?_
    refine rtl 1 S ?_
    refine tL 2 rfl rfl (fun _ h=>h.cell 3 rfl rfl) S ?_
    refine rtl 3 S ?_
    refine tI 4 rfl rfl rfl S ?_
    refine rtl 6 S ?_
    refine tL 7 rfl rfl (fun _ h=>h.cell 1 rfl rfl) S ?_
    refine ro 5 rfl ?_
    obtain⟨axQ,ax0,aC9,aH3,asF,H⟩:=H.Xl 7 rfl 2 rfl (iv:=(((s.qB[i]!).xw)[k]!).qZ) (((((s.qB[i]!).xw)[k]!).qZ).toNat) qf qf
    refine zJ (Sv axQ ((ew[((((s.qB[i]!).xw)[k]!).qZ).toNat]!).length) ax0) isAgg24 rfl (asF)<|⟨H.pick [0,1,2,3,4,5,6,8,9]<|zR 1 16,(ro 8 rfl ?_)⟩
    obtain⟨u1,u2⟩:=iY.sh.row (c:=((((s.qB[i]!).xw)[k]!).qZ).toNat) qf p8 qf
    have u4:=(by exact D9.Qp qf:X8 ((((s.qB[i]!).xw)[k]!).Xa) (counts[i]!))
    refine oc (plus_ok _ (ew[((((s.qB[i]!).xw)[k]!).qZ).toNat]!) ((((s.qB[i]!).xw)[k]!).Xa) (counts[i]!) (H.get 0 rfl).1 (H.get 1 rfl).1 qg qg qg) ?_
    rintro aII akO auE auf
    replace H:=H.zV auf auE
    obtain⟨aya,auT,rfl,aAI,aBw⟩:=H.yf 0 rfl
    refine⟨H.pick [1,2,3,4,5,6,7,9,10]<|zR 1 16,(tI 9 rfl rfl rfl (H.pick [1,2,3,4,5,6,7,9,10]<|zR 1 16) ?_)⟩
    refine ro 10 rfl ?_
    obtain⟨Ix,N,Ys,H⟩:=H.vJ 0 rfl N<|H.vV [3]
    refine Qd true H 8 rfl 4 rfl (Sv aya ((jc (ew[((((s.qB[i]!).xw)[k]!).qZ).toNat]!) ((((s.qB[i]!).xw)[k]!).Xa)<|counts[i]!).length) auT) 0 rfl rfl sizeOf24 rfl rfl (i:=(((((s.qB[i]!).xw)[k]!).qZ).toNat)) qf qf qm fun abr aBJ au8 ajk H=>?_
    replace N:Fresh w.heap.size [au8]:=(N.pick [1,0]).repl ajk
    refine⟨H.pick [1,2,3,4,5,6,7,9,10]<|zR 3 16,(xy qh ((ret0 rfl ⟨_,rfl,?_⟩)))⟩
    replace H:=H.erases [0]
    dsimp only[zL,List.eraseIdx,List.set] at H
    obtain⟨aBi,G3⟩:∃z,z=(ew.set (((((s.qB[i]!).xw)[k]!).qZ).toNat) (jc (ew[((((s.qB[i]!).xw)[k]!).qZ).toNat]!) ((((s.qB[i]!).xw)[k]!).Xa) (counts[i]!))):=⟨_,rfl⟩
    rw[←G3] at H
    have HJ:=Ent.add (D:=1000000) iY G3 qf (by exact D9.mul qf) qf
    have arV:=HJ.sh.1
    have iP:=HJ
    refine xU<|b_n<|t_n<|xX<|sw<|zS k 1 rfl rfl qf<|sq 1<|xU<|xu (m':=((((s.qB[i]!).xw).length)-((k+1):Int)).toNat) qf ⟨_,k+1,_,_,_,uE4,?_,?_,?_,rfl,N,H.pick (zR 1 9) (0::zR 6 13)⟩
    ·omega
    ·exact iP.to (fun p q=>by simp only[intoF];omega) qf
    ·omega
   refine c_exit<|t_x<|t_x<|b_x<|ret0 rfl ⟨_,rfl,?_⟩
   replace H:=H.erases [4,3,2,1,0]
   dsimp only[zL,List.eraseIdx,List.set] at H
   refine xU<|b_n<|t_n<|xX<|sw<|zS i 1 rfl rfl qf<|sq 1<|xU<|xu (m':=(counts.length-((i+1):Int)).toNat) qf ⟨_,i+1,_,_,_,uE7,?_,?_,?_,rfl,N,H.pick [1,2,3] (0::zR 8 6)⟩
   ·omega
   ·exact iY.to (fun p q=>by rw[show k=((s.qB[i]!).xw).length by omega,puts_yes (i:=i) ql];simp only[putF];omega) qf
   ·omega
  refine qW<|b_n<|t_n<|xX<|sw<|zS i 1 rfl rfl qf<|sq 1<|xU<|xu (m':=(counts.length-((i+1):Int)).toNat) qf ⟨_,i+1,_,_,_,uE7,?_,?_,?_,rfl,N,H.pick [1,2,3]<|zR 7 7⟩
  ·omega
  ·exact AX.to (fun p q=>by rw[puts_no (i:=i) ql]) qf
  ·omega
 refine zx4<|zcr<|sq 2<|zjr<|rH1 (Sv ra5 ((jG s<|s.qA.length+1).length) Ue) H ?_
 rw[show yc s t counts cell=bags from(AX.to (fun p q=>by rw[show i=s.qB.length by omega])<|Int.le_refl _).tab.symm]
 exact⟨ra5,(jG s<|s.qA.length+1).length,Ue,mB,g7,rfl,N,H.pick [0] [0]⟩
end
section
theorem get_set{α:Type}[Inhabited α](l:List α)(i j:Nat)(v:α)(hi:i<l.length):(l.set i v)[j]! =if i=j then v else l[j]! :=by
 by_cases hj:j<l.length
 ·rw[getElem!_pos _ _<|by rw[List.length_set];exact hj,List.getElem_set,getElem!_pos l j hj]
 ·rw[getElem!_neg _ _<|by rw[List.length_set];exact hj,getElem!_neg l j hj,if_neg qf]
theorem plusL_get{l m:yLI}(h:j<l.length):(jc l m 1)[j]! =l[j]! +m[j]! :=by
 rw[getElem!_pos _ _<|by rw[Qy];exact h]
 simp[jc,plusTo]
theorem rep_get(n j:Nat):(List.replicate n (0:Int))[j]! =0:=by
 by_cases h:j<n
 ·rw[getElem!_pos _ _<|by simpa using h];simp
 ·rw[getElem!_neg _ _<|by simpa using h];rfl
def kidIn(s:qO)(t:xn)(k:Int)(j:Nat):Bool:=t.xF[j]! && (zO s t j == k)
def kidsTo(s:qO)(t:xn)(k:Int)(n:Nat):yLI:=((List.range n).filter<|kidIn s t k).map fun j:Nat=>(j:Int)
section
variable{s : qO}{t : xn}{c : Int}
structure X9(s:qO)(t:xn)(c:Int):Prop where
 frame:jZ s
 state:vU s t
 cell:CellIn s c
 skin:c≠0
 alive:t.xF[c.toNat]! =true
theorem X9.pos(h:X9 s t c):0<c:=by have:=h.cell.1;have:=h.skin;omega
theorem X9.par(h:X9 s t c):0<=zO s t c/\zO s t c<c/\t.xF[(zO s t c).toNat]! =true:=parentNow_in h.frame h.state.2.2.1 h.pos h.cell.2
theorem X9.alive'(h:X9 s t c)(j:Nat):(melted s t c).xF[j]! =if c.toNat=j then false else t.xF[j]! :=by
 have:=h.cell;have:=h.state.1
 exact get_set _ _ _ _ qf
theorem X9.bags'(h:X9 s t c)(j:Nat):(melted s t c).qG[j]! =if c.toNat=j then List.replicate s.qN.toNat 0 else if (zO s t c).toNat=j then jc (t.qG[(zO s t c).toNat]!) (t.qG[c.toNat]!) 1 else t.qG[j]! :=by
 have:=h.cell;have:=h.state.2.1;have hp:=h.par
 show ((t.qG.set _ _).set _ _)[j]! =_
 rw[get_set _ _ _ _<|by rw[List.length_set];omega,get_set _ _ _ _ qf]
def Few5(t:xn):Prop:=(∀k,k<t.qG.length->∀j,j<(t.qG[k]!).length->(t.qG[k]!)[j]! <=5)/\∀j,j<t.qF.length->t.qF[j]! <=5
def allTo(t:xn):Nat->yLI
 |0=>t.qF
 |k+1=>jc (allTo t k) (t.qG[k]!) 1
theorem allTo_len(t:xn):∀k,(allTo t k).length=t.qF.length
 |0=>rfl
 |k+1=>by rw[allTo,Qy,allTo_len t k]
def colTo(t:xn)(j:Nat):Nat->Int
 |0=>0
 |k+1=>colTo t j k+(t.qG[k]!)[j]!
theorem allTo_get(t:xn){j:Nat}(hj:j<t.qF.length):∀k,(allTo t k)[j]! =t.qF[j]! +colTo t j k
 |0=>by simp[allTo,colTo]
 |k+1=>by
  rw[allTo,plusL_get<|by rw[allTo_len];exact hj,allTo_get t hj k,colTo]
  omega
theorem X9.lens(h:X9 s t c){k:Nat}(hk:k<s.qA.length):(t.qG[k]!).length=s.qN.toNat:=by
 have:=(h.state.bagLen (k:=k)<|by rw[h.state.2.1];exact hk).2
 omega
theorem X9.col(h:X9 s t c){j:Nat}(hj:j<s.qN.toNat):∀k,colTo (melted s t c) j k=colTo t j k+(if (zO s t c).toNat<k then (t.qG[c.toNat]!)[j]! else 0)-(if c.toNat<k then (t.qG[c.toNat]!)[j]! else 0)
 |0=>by simp[colTo]
 |k+1=>by
  have hp:=h.par
  have hc:=h.cell
  rw[colTo,colTo,X9.col h hj k,h.bags']
  by_cases e1:c.toNat=k
  ·subst e1
   rw[if_pos rfl,rep_get,if_neg<|show ¬c.toNat<c.toNat by omega,if_pos<|show c.toNat<c.toNat+1 by omega,if_pos<|show (zO s t c).toNat<c.toNat by omega,if_pos<|show (zO s t c).toNat<c.toNat+1 by omega]
   omega
  ·rw[if_neg e1]
   by_cases e2:(zO s t c).toNat=k
   ·subst e2
    rw[if_pos rfl,plusL_get<|by rw[h.lens qf];exact hj,if_neg<|show ¬(zO s t c).toNat<(zO s t c).toNat by omega,if_pos<|show (zO s t c).toNat<(zO s t c).toNat+1 by omega,
     if_neg (show ¬c.toNat<(zO s t c).toNat by omega),if_neg<|show ¬c.toNat<(zO s t c).toNat+1 by omega]
    omega
   ·rw[if_neg e2]
    have a1:((zO s t c).toNat<k+1)=((zO s t c).toNat<k):=by apply propext;omega
    have a2:(c.toNat<k+1)=(c.toNat<k):=by apply propext;omega
    simp only[a1,a2]
    omega
theorem X9.total(h:X9 s t c):allTo (melted s t c) s.qA.length=allTo t s.qA.length:=by
 have hp:=h.par
 have hc:=h.cell
 have hl:(melted s t c).qF=t.qF:=rfl
 have hk:t.qF.length=s.qN.toNat:=by have:=h.state.2.2.2.1.2;omega
 apply List.ext_getElem
 ·rw[allTo_len,allTo_len,hl]
 ·intro j h1 h2
  rw[allTo_len] at h2
  rw[←getElem!_pos,←getElem!_pos,allTo_get _<|by rw[hl];exact h2,allTo_get _ h2,h.col qf,if_pos qf,if_pos qf,hl]
  omega
theorem X9.ok(h:X9 s t c)(hf:Few5 t):vU s (melted s t c):=by
 have hp:=h.par
 have hc:=h.cell
 have ht:=h.state
 have e1:(melted s t c).xF.length=t.xF.length:=by simp[melted]
 have e2:(melted s t c).qG.length=t.qG.length:=by simp[melted]
 refine⟨by rw[e1];exact ht.1,by rw[e2];exact ht.2.1,by rw[h.alive',if_neg (by have:=h.pos;omega)];exact ht.2.2.1,ht.2.2.2.1,fun k hk=>?_⟩
 rw[e2] at hk
 rw[h.bags',h.alive']
 have hkk:=ht.2.1
 by_cases g1:c.toNat=k
 ·rw[if_pos g1,if_pos g1]
  have hK:=h.frame.1
  refine⟨⟨⟨fun j hj=>by rw[rep_get];omega,by simp;omega,by simp;omega⟩,by simp;omega⟩,fun _=>?_⟩
  have hz:∀n,sumTo (List.replicate s.qN.toNat 0) n=0:=by
   intro n
   induction n with
   |zero=>simp[sumTo]
   |succ n ih=>simp only[sumTo,ih,rep_get];omega
  unfold VN
  rw[hz]
  omega
 ·rw[if_neg g1,if_neg g1]
  by_cases g2:(zO s t c).toNat=k
  ·rw[if_pos g2]
   subst g2
   have bp:=ht.bagLen hk
   have bc:=ht.bagLen (k:=c.toNat) qf
   refine⟨⟨⟨fun j hj=>?_,by rw[Qy];exact bp.1.2.1,by rw[Qy];exact bp.1.2.2⟩,by rw[Qy];exact bp.2⟩,fun hd=>?_⟩
   ·rw[Qy] at hj
    rw[plusL_get hj]
    have hj2:j<(t.qG[c.toNat]!).length:=by have:=bp.2;have:=bc.2;omega
    have a1:=bp.1.1 j hj
    have a2:=bc.1.1 j hj2
    have a3:=hf.1 _ hk j hj
    have a4:=hf.1 c.toNat qf j hj2
    omega
   ·rw[hp.2.2] at hd;cases hd
  ·rw[if_neg g2]
   exact ht.2.2.2.2 k hk
end
open Classical in
noncomputable def pnV(s:qO)(t:xn)(c:Int):Int:=if cellCodeOf s t c=0 then zO s t c else 0
open Classical in
noncomputable def kidsV(s:qO)(t:xn)(c:Int):yLI:=if cellCodeOf s t c=0 then kidsTo s t c s.qA.length else []
structure CanAdd(a b:yLI):Prop where
 one:VM a
 two:VM b
 len:a.length=b.length
 sum:VM (jc a b 1)
structure TreeAt(s:qO)(t:xn)(c:Int):Prop where
 ag:(meltRes s t c).2=0
 cc:cellCodeOf s t c=0
 ok:Qr s/\vU s (meltRes s t c).1
 dead:(meltRes s t c).1.xF[c.toNat]! =false
 par:0<=pnV s t c/\pnV s t c<s.qA.length
 kids:∀i,i<(kidsV s t c).length->cellCodeOf s (meltRes s t c).1 ((kidsV s t c)[i]!)=0/\pnV s (meltRes s t c).1 ((kidsV s t c)[i]!)=pnV s t c
 few:(kidsV s t c).length<=6
 total:allTo (meltRes s t c).1 s.qA.length=allTo t s.qA.length
 bag:VM (allTo t s.qA.length)
 add:CanAdd (t.qG[(pnV s t c).toNat]!) (t.qG[c.toNat]!)
 sum:jc (t.qG[(pnV s t c).toNat]!) (t.qG[c.toNat]!) 1=(meltRes s t c).1.qG[(pnV s t c).toNat]!
def MildTo(l:List yu)(n:Nat):Prop:=∀j,j<n->(l[j]!).jw=false
theorem MildTo.go{l:List yu}(h:MildTo l i)(hi:i<l.length):MildTo (l.set i { l[i]! with jw:=false }) (i+1):=fun j hj=>by
 rw[getElem!_pos (l.set i _) j<|by rw[List.length_set];omega,List.getElem_set]
 split
 ·rfl
 ·have:=h j qf
  rwa [getElem!_pos l j qf] at this
theorem MildTo.here{l:List yu}{b:yLI}(h:MildTo l n)(hi:i<l.length)(hn:n<=l.length):MildTo (l.set i { l[i]! with jF:=b }) n:=fun j hj=>by
 rw[getElem!_pos (l.set i _) j<|by rw[List.length_set];omega,List.getElem_set]
 have h1:=h j hj
 split
 ·rename_i e;subst e;exact h1
 ·rwa [getElem!_pos l j qf] at h1
def OwnDr(n:Nat)(own:yLI):Prop:=
 own.length=n/\∃m:Nat,1<=m/\m<=3/\m<=n/\(∀j,j<own.length->0<=own[j]! /\own[j]!<m)/\∀q:Nat,q<m->∃j,j<own.length/\own[j]! =q
def OwnTo(m:Int)(c:Nat)(own:yLI):Prop:=own.length=c/\∀j,j<c->(0<=own[j]! /\own[j]!<m)/\((j:Int)<m->own[j]! =j)
theorem OwnTo.nil(m:Int):OwnTo m 0 []:=⟨rfl,fun j hj=>by omega⟩
theorem OwnTo.snoc{m v:Int}{own:yLI}(h:OwnTo m c own)(hv:0<=v/\v<m)(hc:(c:Int)<m->v=c):OwnTo m (c+1) (own++[v]):=by
 have hl:=h.1
 refine⟨by simp[hl],fun j hj=>?_⟩
 rw[Vw]
 by_cases h1:j<c
 ·rw[if_pos qf];exact h.2 j h1
 ·have e:j=c:=by omega
  subst e
  rw[if_neg qf,if_pos qf]
  exact⟨hv,hc⟩
theorem OwnTo.ok{m:Int}{own:yLI}(h:OwnTo m n own)(hm:1<=m/\m<=3)(hn:m<=n):OwnDr n own:=by
 have hl:=h.1
 refine⟨hl,m.toNat,by omega,by omega,by omega,fun j hj=>?_,fun q hq=>⟨q,by omega,?_⟩⟩
 ·have:=(h.2 j qf).1;omega
 ·exact(h.2 q qf).2 qf
def TurnTo(m:Int)(c:Nat)(own pY :yLI):Prop:=pY.length=own.length/\∀j,j<own.length->pY[j]! =if j<c then m-1-own[j]! else own[j]!
theorem TurnTo.zero(m:Int)(own:yLI):TurnTo m 0 own own:=⟨rfl,fun j _=>by rw[if_neg qf]⟩
theorem TurnTo.at'{m:Int}{own:yLI}(h:TurnTo m c own pY)(hc:c<own.length):pY[c]! =own[c]! :=by rw[h.2 c hc,if_neg qf]
theorem TurnTo.go{m:Int}{own:yLI}(h:TurnTo m c own pY)(hc:c<own.length):TurnTo m (c+1) own (pY.set c<|m-1-pY[c]!):=by
 have hl:=h.1
 refine⟨by rw[List.length_set];exact hl,fun j hj=>?_⟩
 rw[getElem!_pos (pY.set c _) j<|by rw[List.length_set];omega,List.getElem_set]
 by_cases e:c=j
 ·subst e;rw[if_pos rfl,if_pos qf,h.at' hc]
 ·have h1:=h.2 j hj
  rw[getElem!_pos pY j qf] at h1
  rw[if_neg e,h1]
  by_cases h2:j<c
  ·rw[if_pos h2,if_pos qf]
  ·rw[if_neg h2,if_neg qf]
theorem TurnTo.ok{m:Int}{own:yLI}(t:TurnTo m n own pY)(h:OwnTo m n own)(hm:1<=m/\m<=3)(hn:m<=n):OwnDr n pY :=by
 have hl:=h.1
 have tl:=t.1
 refine⟨by omega,m.toNat,by omega,by omega,by omega,fun j hj=>?_,fun q hq=>⟨(m-1-q).toNat,by omega,?_⟩⟩
 ·have h1:=(h.2 j qf).1
  rw[t.2 j qf,if_pos qf]
  omega
 ·rw[t.2 _ qf,if_pos qf,(h.2 _ qf).2 qf]
  omega
theorem OwnTo.ok'{m:Int}{own:yLI}(h:OwnTo m c own)(e:c=n)(hm:1<=m/\m<=3)(hn:m<=n):OwnDr n own:=by subst e;exact h.ok hm hn
theorem TurnTo.ok'{m:Int}{d:Nat}{own:yLI}(t:TurnTo m d own pY)(h:OwnTo m c own)(e:c=n)(e':d=n)(hm:1<=m/\m<=3)(hn:m<=n):OwnDr n pY :=by subst e;subst e';exact t.ok h hm hn
def AllTo(alive:List Bool):Prop:=∀j,j<alive.length->alive[j]! =true
theorem AllTo.nil:AllTo []:=fun j hj=>by simp at hj
theorem AllTo.snoc(h:AllTo alive):AllTo (alive++[true]):=fun j hj=>by
 rw[Vw]
 by_cases h1:j<alive.length
 ·rw[if_pos h1];exact h j h1
 ·rw[if_neg h1,if_pos (by simp at hj;omega)]
theorem stDr_of{kk M:Int}{bags:yLL}(h:StTo kk M c alive bags)(e:c=n)(hn:0<n)(hk:0<=kk):StDr kk n M alive bags (List.replicate kk.toNat 0):=by
 subst e
 exact⟨h.la,h.lb,h.skin hn,jk.zero hk qf,h.bags⟩
end
section
theorem l00Min8_ok(w:World)(a:Int)(b:Int):Calls Tryz.prog 60 #[yI a,yI b] w (Ret (fun v w'=>v=yI (min a b)) w):=by
 refine en func60 ntmps60 ?_
 have H:=St.start w
 refine zcr<|sp (yI 0)<|zjcc<|sp (yI a)<|sp (yI b)<|sq 1<|zjn<|cD rfl (fun h1=>?_)<|fun h1=>?_
 ·refine zcr (sp (yI a)<|sp (yI a)<|zjr<|t_r<|rH1 (yI a) H ?_)
  rw[Int.min_eq_left qf]
 refine qW<|t_n<|zcr<|sp (yI b)<|sp (yI b)<|zjr<|rH1 (yI b) H ?_
 rw[Int.min_eq_right qf]
theorem dTissue_ok(ag:List UInt8)(ip:Int)(sd:Int)(bs:Nat)(ac:yOA)(cc:Nat)(Fc:yLN)(H:St W0 w ((.box bs [Sv ac ag.length cc,yI ip,.int .u64 sd] 116)::ps) ((sF false Fc ac cc ag)::Γ))(N:Fresh W0.heap.size (Ns))(K0:Kept Ns Γ)(q0:0<=ip/\ip<=30000):Calls Tryz.prog 23 #[pp bs 0] w (fun e w'=>∃v,e=.returned v/\∃(lQ:Int) (Ar:Int) (PE:Int) (sQ:yLI) (gV:List yu) (pd:List Bool) (Dk:yLL) (q9:yLI) (Ou:yLI) (Yr:yOA) (T6:Nat) (Uz:Nat) (eB:yOA) (ee:Nat) (cz:Nat) (bV:List Value) (aC:yLN) (raA:yOA) (rnA:Nat) (rcA:Nat) (raB:yOA) (rnB:Nat) (rcB:Nat) (rxB:List Value) (rFB:yLN) (raD:yOA) (rnD:Nat) (rcD:Nat) (KL:yOA) (Og:Nat) (MP:Nat),(ip<=lQ/\lQ<=ip+5000)/\(SysDr PE sQ gV)/\(StDr PE sQ.length 6 pd Dk q9)/\(AllTo pd)/\(MildTo gV gV.length)/\(OwnDr sQ.length Ou)/\v=.tuple #[.agg #[yI PE,Sv Yr T6 Uz,Sv eB ee cz],Sv KL Og MP,.agg #[Sv raA rnA rcA,Sv raB rnB rcB,Sv raD rnD rcD]]/\Fresh W0.heap.size (rFB::Ns)/\St W0 w' ((.box bs [Sv ac ag.length cc,yI lQ,.int .u64 Ar] 116)::(rr Yr T6 Uz 2 1<|sQ.map<|Value.int .i64)::(rr eB ee cz 110 9 bV)::(rr raA rnA rcA 4 1<|pd.map<|Value.bool)::(rr raB rnB rcB 24 1 rxB)::(rr raD rnD rcD 2 1<|q9.map<|Value.int .i64)::(rr KL Og MP 2 1<|Ou.map<|Value.int .i64)::ps) ((sF false Fc ac cc ag)::(qQ false aC bV gV)::(qQ true rFB rxB Dk)::Γ)):=by
 refine en func23 ntmps23 ?_
 refine zcr<|sw<|zn H ti27 [yI 0,yN,yN] fun b1 w2 H=>sq 1<|sw<|zn H ti31 [yN,yN,yN] fun b3 w4 H=>zjc<|sq 1 ?_
 have H1:=H.yt 3 1 [2,0,1] [0] (by simp only[List.length_cons,List.length_append];omega)<|by simp only[List.length_cons,List.length_append];omega
 have N1:Fresh _ (Ns):=N
 have K1:Kept (Ns) (Γ):=K0.behind 0 rfl
 refine sw<|zD #[pp bs 0] rfl rfl call57 (dSystem_ok ag ip sd bs ac cc Fc H1 N1 K1 qg) ?_
 clear H H1 N1 K1
 rintro _ w5 ⟨fh,OJ,dq,fM,pb,rz,atI,uY,eP,asD,eM,aar,Ii,hx7,hx8,rfl,N,H⟩
 obtain rfl:=H.Qc 1 rfl
 obtain rfl:=H.xk (α:=yu) 2 rfl 1 rfl qj
 have sd:=(‹SysDr _ _ _›)
 have k1:=sd.kinds
 have k3:=sd.few
 have k4:=sd.rules
 have k5:=sd.cells
 refine sw<|zn H ti27 [yI 0,yN,yN] fun wN Kf H=>sw<|zF H 0 [yI dq,Sv rz fM.length uY,Sv eP pb.length eM] sizeOf27 fun D1 H=>?_
 dsimp only[List.set] at H
 refine zjcc<|sp (yI 0)<|zjn<|xe ?_
 replace H:=H.unfree 1 rfl
 refine zT ((fun Z0 Z1 Z2 Z3 Z4=>fun m' ρ D0=>∃(xP:Env) (i:Nat) (eF:Int) (dB:Int) (ak:List yu) (yw:List Value) (zx:yLN),ρ=upd (upd (upd (upd (upd xP 0<|pp bs 0) 2<|pp b1 0) 4<|pp b3 0) 5<|pp wN 0) 6 (yI i)/\((i:Int)<=pb.length)/\(ip<=eF/\eF<=ip+(2000+2*i))/\(ak.length<=5)/\(Qn dq fM ak)/\(MildTo ak i)/\m'=(pb.length-(i:Int)).toNat/\Fresh W0.heap.size (Ns)/\St W0 D0 (Z0::(.box bs [Sv ac ag.length cc,yI eF,.int .u64 dB] 116)::Z1::(rr eP pb.length eM 110 9 yw)::Z2::Z3::ps) (Z4::(qQ false zx yw ak)::Γ)) _ _ _ _ _) ((pb.length-(0:Int)).toNat) ⟨_,0,fh,OJ,pb,aar,Ii,uE5,qf,qf,qf,(by exact k4),qx,rfl,(N.xm 1 []<|by simp only[List.length_cons,List.length_append];omega),H.xm 6 3 (zR 0 6) [1,0] (by simp only[List.length_cons,List.length_append];omega)<|by simp only[List.length_cons,List.length_append];omega⟩ ?_
 clear H N
 rintro m' ρ Fq ⟨xP,i,eF,dB,ak,yw,zx,rfl,i0,j1,j2,j3,j4,rfl,N,H⟩
 have Ff:=H.xk (α:=yu) 3 rfl 1 rfl qj
 refine zcc<|sp (yI i)<|oF rfl<|oL rfl (H.cell 0 rfl rfl)<|oN rfl<|sq 1<|zjn<|cD rfl (fun oz=>?_)<|fun oz=>?_
 ·refine qW (t_n<|xM<|xe<|zcr<|oF rfl<|oL rfl (H.cell 0 rfl rfl)<|sp (yI i) ?_)
  obtain⟨b28,rfl⟩:=H.jB 3 rfl qf
  obtain⟨uJ,tW,Ph,wk,tS,Np,uE,um,LZ,tD,ul,LY,Av,AL,R6,wr,ue,Lm,D2,H⟩:=H.rowel_RuleD 3 rfl 1 rfl (iv:=i) i qf qf
  refine oI rfl rfl<|oF rfl<|sw<|o_storePart H 3 rfl (Bv false) sizeOf4 rfl rfl rfl (part_lt<|D2 8 _ rfl) fun w31 H=>?_
  have afQ:=part_get (cells:=[yI ((ak[i]!).qZ),yI ((ak[i]!).yJ),Sv uJ (((ak[i]!).zU).length) tW,Sv wk (((ak[i]!).jJ).length) tS,Sv uE (((ak[i]!).jK).length) um,Sv tD (((ak[i]!).jF).length) ul,Sv Av (((ak[i]!).QL).length) AL,Sv wr (((ak[i]!).xw).length) ue,Bv ((ak[i]!).jw)]) D2 8 (Bv false)<|Nat.le_of_ble_eq_true rfl
  replace afQ:∀(q:Nat) (v:Value),([yI ((ak[i]!).qZ),yI ((ak[i]!).yJ),Sv uJ (((ak[i]!).zU).length) tW,Sv wk (((ak[i]!).jJ).length) tS,Sv uE (((ak[i]!).jK).length) um,Sv tD (((ak[i]!).jF).length) ul,Sv Av (((ak[i]!).QL).length) AL,Sv wr (((ak[i]!).xw).length) ue,Bv false]:List Value)[q]? =some v->(yw.set (0+(i:Int).toNat*9+8)<|Bv false)[0+(i:Int).toNat*9+q]? =some v:=afQ
  dsimp only[List.set] at H
  obtain⟨F33,H⟩:=H.part_8 7 rfl false (iv:=i) i qf<|by omega
  dsimp only[List.set] at H
  refine zjc<|sq 1 ?_
  have H1:=H.yt 6 9 [1,0,2,3,4,5] [7,0,1,2,3,4,5,6,8] (by simp only[List.length_cons,List.length_append];omega)<|by simp only[List.length_cons,List.length_append];omega
  have N1:Fresh _ (Ns):=N
  have K1:Kept (Ns) ((qQ false F33 (yw.set (0+(i:Int).toNat*9+8)<|Bv false)<|ak.set i { ak[i]! with jw:=false })::(sF false Ph uJ tW ((ak[i]!).zU))::(sF false Np wk tS ((ak[i]!).jJ))::(sF false LZ uE um ((ak[i]!).jK))::(sF false LY tD ul ((ak[i]!).jF))::(sF false R6 Av AL ((ak[i]!).QL))::(sF false Lm wr ue ((ak[i]!).xw))::(qQ false zx yw ak)::Γ):=K0.behind 8 rfl
  refine sw<|zD #[pp bs 0,yI 2] rfl rfl call58 (dOne_ok ag eF dB bs ac cc Fc (2:Int) H1 N1 K1 qg) ?_
  clear H H1 N1 K1
  rintro _ w34 ⟨xt,q7,aFK,aH1,rfl,N,H⟩
  refine zjn<|vg _ rfl (fun sG=>?_)<|fun sG=>?_
  ·refine c_drawK2 rfl H [0,1,2,4,5] [0,1,2,3,4,5,6,7,8] fun H=>?_
   have S:=H.zW [0,1,2,4,5]<|zR 0 9
   refine tF 0 rfl rfl S ?_
   refine tL 1 rfl rfl (fun _ h=>h.cell 1 rfl rfl) S ?_
   refine rtp 2 (yI i) S ?_
   refine tF 3 rfl rfl S ?_
   refine tL 4 rfl rfl (fun _ h=>h.cell 1 rfl rfl) S ?_
   refine ro 5 rfl<|jP H underlying24 ti2 dq.toNat rfl rfl qf qf qf fun RH UM H=>⟨H.pick [1,2,3,5,6]<|zR 0 9,?_⟩
   obtain⟨DR,B7,ams,CH,CI,akf,Cn,DU,ak4,O4,Nz,aoo,HI,HS,aq1,DA,CU,amc,Rg,H⟩:=H.rowel_RuleD 4 rfl 1 rfl (iv:=i) i qf qf
   have S:=H.zW [1,2,3,5,6]<|zR 6 9
   refine tI 6 rfl rfl rfl S ?_
   refine tF 7 rfl rfl S ?_
   refine ro 8 rfl<|o_storePart H 4 rfl (Sv (aa RH 0) dq.toNat dq.toNat) sizeOf24 rfl rfl rfl (part_lt<|Rg 5 _ rfl) fun SF H=>?_
   have MW:=part_get (cells:=[yI (((ak.set i { ak[i]! with jw:=false })[i]!).qZ),yI (((ak.set i { ak[i]! with jw:=false })[i]!).yJ),Sv DR ((((ak.set i { ak[i]! with jw:=false })[i]!).zU).length) B7,Sv CH ((((ak.set i { ak[i]! with jw:=false })[i]!).jJ).length) CI,Sv Cn ((((ak.set i { ak[i]! with jw:=false })[i]!).jK).length) DU,Sv O4 ((((ak.set i { ak[i]! with jw:=false })[i]!).jF).length) Nz,Sv HI ((((ak.set i { ak[i]! with jw:=false })[i]!).QL).length) HS,Sv DA ((((ak.set i { ak[i]! with jw:=false })[i]!).xw).length) CU,Bv (((ak.set i { ak[i]! with jw:=false })[i]!).jw)]) Rg 5 (Sv (aa RH 0) dq.toNat dq.toNat)<|Nat.le_of_ble_eq_true rfl
   replace MW:∀(q:Nat) (v:Value),([yI (((ak.set i { ak[i]! with jw:=false })[i]!).qZ),yI (((ak.set i { ak[i]! with jw:=false })[i]!).yJ),Sv DR ((((ak.set i { ak[i]! with jw:=false })[i]!).zU).length) B7,Sv CH ((((ak.set i { ak[i]! with jw:=false })[i]!).jJ).length) CI,Sv Cn ((((ak.set i { ak[i]! with jw:=false })[i]!).jK).length) DU,Sv (aa RH 0) dq.toNat dq.toNat,Sv HI ((((ak.set i { ak[i]! with jw:=false })[i]!).QL).length) HS,Sv DA ((((ak.set i { ak[i]! with jw:=false })[i]!).xw).length) CU,Bv (((ak.set i { ak[i]! with jw:=false })[i]!).jw)]:List Value)[q]? =some v->((yw.set (0+(i:Int).toNat*9+8)<|Bv false).set (0+(i:Int).toNat*9+5)<|Sv (aa RH 0) dq.toNat dq.toNat)[0+(i:Int).toNat*9+q]? =some v:=MW
   dsimp only[List.set] at H
   refine⟨H.pick [1,2,3,5,6]<|zR 6 9,(xy qh<|b_n<|t_n<|xX<|sp (yI i)<|sw<|zS i 1 rfl rfl (by(omega))<|sq 1<|xU ?_)⟩
   obtain⟨G48,N,aFs,H⟩:=H.vJ 0 rfl N<|fun F hF b hb=>(List.mem_append.1<|show F∈[]++Ns from hF).elim (fun h=>(H.vV (L:=[]) []) F h b hb) fun h=>H.jT (K0.behind 15 rfl) F h b hb
   dsimp only[List.set] at H
   obtain⟨F50,H⟩:=H.part_5 8 rfl 0 rfl (iv:=i) i qf<|by(simp only[List.length_set];omega)
   dsimp only[List.set] at H
   refine xu (m':=(pb.length-((i+1):Int)).toNat) qf ⟨_,i+1,_,_,_,_,_,uE5,?_,?_,?_,?_,?_,rfl,(N.xm 1 []<|by simp only[List.length_cons,List.length_append];omega),H.xm 7 17 [2,1,3,4,5,6] [8,0] (by simp only[List.length_cons,List.length_append];omega)<|by simp only[List.length_cons,List.length_append];omega⟩
   ·omega
   ·omega
   ·simp only[List.length_set];omega
   ·(repeat' (first|assumption|exact jk.zero qf qf|(simp only[List.length_set];omega)|omega|apply Qn.here|apply Qn.still))
   ·exact(j4.go qf).here (by simp only[List.length_set];omega)<|by simp only[List.length_set];omega
  refine qW<|b_n<|t_n<|xX<|sp (yI i)<|sw<|zS i 1 rfl rfl (by(omega))<|sq 1<|xU<|xu (m':=(pb.length-((i+1):Int)).toNat) qf ⟨_,i+1,_,_,_,_,_,uE5,?_,?_,?_,?_,?_,rfl,N,H.xm 6 9 [1,0,2,3,4,5] [0,1] (by simp only[List.length_cons,List.length_append];omega)<|by simp only[List.length_cons,List.length_append];omega⟩
  ·omega
  ·omega
  ·simp only[List.length_set];omega
  ·(repeat' (first|assumption|omega|apply Qn.still))
  ·exact j4.go qf
 refine zx4<|zcr<|sw<|jH H underlying24 ti2 fun b51 T2 H=>sq 1<|zjc<|sq 1<|oF rfl<|oL rfl (H.cell 1 rfl rfl)<|oN rfl<|sw<|oq (l00Min8_ok T2 3 fM.length) H fun w54 H=>?_
 have m1:(min 3 fM.length:Int)<=3:=Int.min_le_left _ _
 have m2:(min 3 fM.length:Int)<=fM.length:=Int.min_le_right _ _
 have m0:1<=(min 3 fM.length:Int):=Int.le_min.2 ⟨by omega,by omega⟩
 have H1:=H.yt 7 2 [2,0,1,3,4,5,6] [0,1] (by simp only[List.length_cons,List.length_append];omega)<|by simp only[List.length_cons,List.length_append];omega
 have N1:Fresh _ (Ns):=N
 have K1:Kept (Ns) ((qQ false zx yw ak)::Γ):=K0.behind 1 rfl
 refine sw<|zD #[pp bs 0,yI<|min 3 fM.length] rfl rfl call59 (yR ag eF dB bs ac cc Fc (min 3 fM.length) H1 N1 K1 qg) ?_
 clear H H1 N1 K1
 rintro _ w56 ⟨sV,Dq,pT,aGs,aHN,rfl,N,H⟩
 refine sw<|zS 1 pT rfl rfl (by(omega))<|sq 1<|zjcc<|sp (yI 0)<|zjn<|xe ?_
 replace H:=H.boxRowI 1 [] 0
 dsimp only[List.set] at H
 refine zT ((fun Z0 Z1 Z2 Z3 Z4 Z5 Z6=>fun m' ρ w63=>∃(xP:Env) (VA:yOA) (Xm:Nat) (Vx:Nat) (dR:yLI) (c:Nat) (df:Int) (di:Int),ρ=upd (upd (upd (upd (upd (upd (upd xP 0<|pp bs 0) 2<|pp b1 0) 4<|pp b3 0) 5<|pp wN 0) 7<|Sv VA Xm Vx) 8<|yI<|1+pT) 9 (yI c)/\((c:Int)<=fM.length)/\(ip<=df/\df<=ip+(2020+2*c))/\(OwnTo (1+pT) c dR)/\m'=(fM.length-(c:Int)).toNat/\Fresh W0.heap.size (Ns)/\St W0 w63 ((.box bs [Sv ac ag.length cc,yI df,.int .u64 di] 116)::(rr VA Xm Vx 2 1<|dR.map<|Value.int .i64)::Z0::Z1::Z2::Z3::Z4::ps) (Z5::Z6::Γ)) _ _ _ _ _ _ _) ((fM.length-(0:Int)).toNat) ⟨_,(aa b51 0),0,0,([]:yLI),0,sV,Dq,uE7,qf,qf,(by exact OwnTo.nil _),rfl,N,H⟩ ?_
 clear H N
 rintro m' ρ w64 ⟨xP,VA,Xm,Vx,dR,c,df,di,rfl,i0,o1,o2,rfl,N,H⟩
 have zj:=H.Qc 1 rfl
 have o9:=o2.1
 refine zcc<|sp (yI c)<|oF rfl<|oL rfl (H.cell 2 rfl rfl)<|oN rfl<|sq 1<|zjn<|cD rfl (fun h65=>?_)<|fun h65=>?_
 ·refine qW (t_n<|xM<|xe<|zcr<|sp (yI c)<|sq 1<|sp (Bv<|decide ((c:Int)<(1+pT)))<|zjn<|cD rfl (fun ND=>?_)<|fun ND=>?_)
  ·refine xX (sq 1<|sp (yI c)<|sw<|zy H underlying24 ti2 [yI c] fun b67 w68 H=>sw<|zH H 2 rfl 0 rfl underlying24 ti2 rfl qj rfl rfl rfl qw qp qf fun a69 c70 w71 H=>?_)
   rw[snocI] at H
   dsimp only[List.set] at H
   refine sq 1<|xU<|b_n<|t_n<|xX<|sp (yI c)<|sw<|zS c 1 rfl rfl (by(omega))<|sq 1<|xU<|xu (m':=(fM.length-((c+1):Int)).toNat) qf ⟨_,_,_,_,_,c+1,_,_,uE7,?_,?_,?_,rfl,N,H.xm 8 2 (zR 1 7) [0,1] (by simp only[List.length_cons,List.length_append];omega)<|by simp only[List.length_cons,List.length_append];omega⟩
   ·omega
   ·omega
   ·exact o2.snoc qf<|fun _=>rfl
  refine xX<|sq 3 ?_
  have H1:=H.yt 7 2 [0,1,2,3,4,5,6] [0,1] (by simp only[List.length_cons,List.length_append];omega)<|by simp only[List.length_cons,List.length_append];omega
  have N1:Fresh _ (Ns):=N
  have K1:Kept (Ns) ((qQ false zx yw ak)::Γ):=K0.behind 1 rfl
  refine sw<|zD #[pp bs 0,yI<|1+pT] rfl rfl call59 (yR ag df di bs ac cc Fc (1+pT) H1 N1 K1 qg) ?_
  clear H H1 N1 K1
  rintro _ Kc ⟨aGI,aCS,avG,aHA,aFC,rfl,N,H⟩
  refine sw<|zy H underlying24 ti2 [yI avG] fun Ia Te H=>sw<|zH H 2 rfl 0 rfl underlying24 ti2 rfl qj rfl rfl rfl qw qp qf fun a81 c82 w83 H=>?_
  rw[snocI] at H
  dsimp only[List.set] at H
  refine sq 1<|xU<|b_n<|t_n<|xX<|sp (yI c)<|sw<|zS c 1 rfl rfl (by(omega))<|sq 1<|xU<|xu (m':=(fM.length-((c+1):Int)).toNat) qf ⟨_,_,_,_,_,c+1,_,_,uE7,?_,?_,?_,rfl,N,H.xm 8 2 (zR 1 7) [0,1] (by simp only[List.length_cons,List.length_append];omega)<|by simp only[List.length_cons,List.length_append];omega⟩
  ·omega
  ·omega
  ·exact o2.snoc qf<|fun h=>by omega
 refine zx4<|zcc<|sq 1 ?_
 have H1:=H.yt 7 2 [0,1,2,3,4,5,6] [0,1] (by simp only[List.length_cons,List.length_append];omega)<|by simp only[List.length_cons,List.length_append];omega
 have N1:Fresh _ (Ns):=N
 have K1:Kept (Ns) ((qQ false zx yw ak)::Γ):=K0.behind 1 rfl
 refine sw<|zD #[pp bs 0,yI 3] rfl rfl call58 (dOne_ok ag df di bs ac cc Fc (3:Int) H1 N1 K1 qg) ?_
 clear H H1 N1 K1
 rintro _ w84 ⟨Sd,E7,aHW,aFd,rfl,N,H⟩
 refine zjn<|c_cut (fun ρ T0=>∃(xP:Env) (mQ:yLI),ρ=upd (upd (upd (upd (upd xP 0<|pp bs 0) 2<|pp b1 0) 4<|pp b3 0) 5<|pp wN 0) 7 (Sv VA Xm Vx)/\(OwnDr fM.length mQ)/\(ip<=Sd/\Sd<=ip+2112)/\Fresh W0.heap.size (Ns)/\St W0 T0 ((.box bs [Sv ac ag.length cc,yI Sd,.int .u64 E7] 116)::(rr VA Xm Vx 2 1<|mQ.map<|Value.int .i64)::(.box wN [yI dq,Sv rz fM.length uY,Sv eP pb.length eM] 27)::(rr rz fM.length uY 2 1<|fM.map<|Value.int .i64)::(rr eP pb.length eM 110 9 yw)::(.box b3 [yN,yN,yN] 31)::(.box b1 [yI 0,yN,yN] 27)::ps) ((sF false Fc ac cc ag)::(qQ false zx yw ak)::Γ)) ?_ ?_
 ·refine vg _ rfl (fun h91=>?_) (fun h91=>?_)
  ·refine zcr (sp (yI 0)<|zjn<|xe<|zT ((fun Z0 Z1 Z2 Z3 Z4 Z5 Z6 Z7=>fun m' ρ w92=>∃(xP:Env) (bw:Nat) (iJ:yLI),ρ=upd (upd (upd (upd (upd (upd (upd xP 0<|pp bs 0) 2<|pp b1 0) 4<|pp b3 0) 5<|pp wN 0) 7<|Sv VA Xm Vx) 8<|yI<|1+pT) 10 (yI bw)/\((bw:Int)<=Xm)/\(TurnTo (1+pT) bw dR iJ)/\m'=(Xm-(bw:Int)).toNat/\Fresh W0.heap.size (Ns)/\St W0 w92 (Z0::(rr VA Xm Vx 2 1<|iJ.map<|Value.int .i64)::Z1::Z2::Z3::Z4::Z5::ps) (Z6::Z7::Γ)) _ _ _ _ _ _ _ _) ((Xm-(0:Int)).toNat) ⟨_,0,dR,uE7,qf,(by exact TurnTo.zero _ _),rfl,N,H⟩ ?_)
   clear H N
   rintro m' ρ w93 ⟨xP,bw,iJ,rfl,i0,o3,rfl,N,H⟩
   have zj:=H.Qc 1 rfl
   have o5:=fun h=>o3.at' (c:=bw) h
   have o6:=o2.2 bw
   refine zcc<|sq 2<|oN rfl<|sq 1<|zjn<|cD rfl (fun Ps=>?_)<|fun Ps=>?_
   ·refine qW (t_n<|xM<|xe<|xX<|sq 3<|sw<|o_sub (1+pT) 1 rfl rfl (by(omega))<|sq 2 ?_)
    obtain⟨b95,rfl⟩:=H.jB 1 rfl qf
    refine oI rfl rfl<|oL rfl (H.rowInt 1 rfl (iv:=bw) (i:=bw) qf qf)<|sw<|o_sub ((1+pT)-1) (iJ[bw]!) rfl rfl (by(omega))<|oI rfl rfl<|sw<|o_storeInt H 1 rfl (((1+pT)-1)-(iJ[bw]!)) sizeOf2 rfl rfl (i:=bw) qf qf fun w96 H=>?_
    dsimp only[List.set] at H
    refine xU<|b_n<|t_n<|xX<|sq 1<|sw<|zS bw 1 rfl rfl (by(omega))<|sq 1<|xU<|xu (m':=(Xm-((bw+1):Int)).toNat) qf ⟨_,bw+1,_,uE7,?_,?_,rfl,N,H⟩
    ·omega
    ·exact o3.go qf
   refine c_exit<|t_x<|t_x<|b_x<|meet ⟨_,iJ,uE5,?_,?_,N,H⟩
   ·exact o3.ok' o2 qf qf qf qf
   ·omega
  refine qW<|meet ⟨_,dR,uE5,?_,?_,N,H⟩
  ·exact o2.ok' qf qf qf
  ·omega
 clear H N
 rintro ρ w97 ⟨xP,mQ,rfl,jo,jp,N,H⟩
 have zj:=H.Qc 1 rfl
 refine t_n<|zcr<|oF rfl<|oL rfl (H.cell 2 rfl rfl)<|sw<|jP H underlying24 ti2 dq.toNat rfl rfl qf qf qf fun ur w99 H=>sw<|jE [yN,yN,Sv (aa ur 0) dq.toNat dq.toNat] [(2,Sv (aa ur 0) dq.toNat dq.toNat)]<|sw<|zn H ti31 [yN,yN,yN] fun J0 atP H=>sw<|zF H 0 [yN,yN,Sv (aa ur 0) dq.toNat dq.toNat] sizeOf31 fun alL H=>?_
 dsimp only[List.set] at H
 refine zjcc<|sp (yI 0)<|zjn<|xe ?_
 replace H:=H.nilRowB 4
 replace H:=H.nilRow 24 1
 replace H:=H.yD (α:=yLI)
 refine zT ((fun Z0 Z1 Z2 Z3 Z4 Z5 Z6 Z7 Z8=>fun m' ρ Jb=>∃(xP:Env) (bw:Nat) (ey:Int) (eX:Int) (jX:yOA) (ji:Nat) (jW:Nat) (gy:List Bool) (fc:yOA) (XB:Nat) (fd:Nat) (oQ:yLL) (gC:List Value) (QK:yLN),ρ=upd (upd (upd (upd (upd (upd (upd xP 0<|pp bs 0) 2<|pp b1 0) 4<|pp b3 0) 5<|pp wN 0) 7<|Sv VA Xm Vx) 11<|pp J0 0) 12 (yI bw)/\((bw:Int)<=fM.length)/\(ip<=ey/\ey<=ip+(2120+20*bw))/\(StTo dq 6 bw gy oQ)/\(AllTo gy)/\m'=(fM.length-(bw:Int)).toNat/\Fresh W0.heap.size (QK::Ns)/\St W0 Jb ((rr fc XB fd 24 1 gC)::(rr jX ji jW 4 1<|gy.map<|Value.bool)::(.box J0 [Sv jX ji jW,Sv fc XB fd,Sv (aa ur 0) dq.toNat dq.toNat] 31)::Z0::(.box bs [Sv ac ag.length cc,yI ey,.int .u64 eX] 116)::Z1::Z2::Z3::Z4::Z5::Z6::ps) ((qQ true QK gC oQ)::Z7::Z8::Γ)) _ _ _ _ _ _ _ _ _) ((fM.length-(0:Int)).toNat) ⟨_,0,Sd,E7,none,0,0,[],none,0,0,([]:yLL),[],[],uE7,qf,qf,(by exact StTo.nil _ _),(by exact AllTo.nil),rfl,N.emp,H⟩ ?_
 clear H N
 rintro m' ρ MU ⟨xP,bw,ey,eX,jX,ji,jW,gy,fc,XB,fd,oQ,gC,QK,rfl,i0,t1,t2,t3,rfl,N,H⟩
 have ET:=H.rowNB 1 rfl
 have adI:=H.xk (α:=yLI) 0 rfl 0 rfl qj
 have t4:=t2.la
 have t5:=t2.lb
 refine zcc<|sq 1<|oF rfl<|oL rfl (H.cell 6 rfl rfl)<|oN rfl<|sq 1<|zjn<|cD rfl (fun ZX=>?_)<|fun ZX=>?_
 ·refine qW (t_n<|xM<|xe<|zcr<|oF rfl<|oL rfl (H.cell 2 rfl rfl)<|sw<|zy H underlying28 ti4 [Bv true] fun NW abe H=>sw<|zH H 2 rfl 0 rfl underlying28 ti4 rfl qj rfl rfl rfl qw qp qf fun Cp CC aj2 H=>?_)
  rw[snocB] at H
  dsimp only[List.set] at H
  refine oF rfl<|sw<|zh H 3 [Sv Cp (ji+1) CC,Sv fc XB fd,Sv (aa ur 0) dq.toNat dq.toNat] sizeOf28 fun axE H=>?_
  dsimp only[List.set] at H
  refine zjn<|c_cut (fun ρ NF=>∃(xP:Env) (GJ:Int) (xS:yLI) (Wz:Int) (Rd:yOA) (Sl:Nat) (Hh:yOA) (HN:Nat) (xr:yLN),ρ=upd (upd (upd (upd (upd (upd (upd xP 0<|pp bs 0) 2<|pp b1 0) 4<|pp b3 0) 5<|pp wN 0) 7<|Sv VA Xm Vx) 11<|pp J0 0) 12 (yI bw)/\(ey<=GJ/\GJ<=ey+20)/\(jk dq (6:Int) xS)/\Fresh W0.heap.size ((QK++xr)::Ns)/\St W0 NF ((.box bs [Sv ac ag.length cc,yI GJ,.int .u64 Wz] 116)::(.box NW [Bv true] 4)::(rr Rd (XB+1) Sl 24 1<|gC++[Sv Hh xS.length HN])::(rr Cp (ji+1) CC 4 1 ((gy++[true]).map<|Value.bool))::(.box J0 [Sv Cp (ji+1) CC,Sv Rd (XB+1) Sl,Sv (aa ur 0) dq.toNat dq.toNat] 31)::(rr (aa ur 0) dq.toNat dq.toNat 2 1 ((List.replicate dq.toNat (0:Int)).map<|Value.int .i64))::(rr VA Xm Vx 2 1<|mQ.map<|Value.int .i64)::(.box wN [yI dq,Sv rz fM.length uY,Sv eP pb.length eM] 27)::(rr rz fM.length uY 2 1<|fM.map<|Value.int .i64)::(rr eP pb.length eM 110 9 yw)::(.box b3 [yN,yN,yN] 31)::(.box b1 [yI 0,yN,yN] 27)::ps) ((qQ true (QK++xr) (gC++[Sv Hh xS.length HN])<|oQ++[xS])::(sF true xr Hh HN xS)::(sF false Fc ac cc ag)::(qQ false zx yw ak)::Γ)) ?_ ?_
  ·refine c_drawK2 rfl H [0,2,4,6,7,8,9,10,11] [0,1,2] fun H=>?_
   have S:=H.zW (0::2::4::zR 6 6) [0,1,2]
   refine tF 0 rfl rfl S ?_
   refine rtl 2 S ?_
   refine tF 3 rfl rfl S ?_
   refine tL 4 rfl rfl (fun _ h=>h.cell 4 rfl rfl) S ?_
   refine jC [1,5] qh qm<|yV rfl ?_<|yV rfl ?_ jD
   ·refine zJ (Sv fc XB fd) isAgg29 rfl (H.cell 3 rfl rfl) (⟨H.pick (0::2::4::zR 6 6) [0,1,2],(ro 5 rfl ?_)⟩)
    have H1:=H.yt 12 3 [5,0,1,2,3,4,6,7,8,9,10,11] [1,0,2] (by simp only[List.length_cons,List.length_append];omega)<|by simp only[List.length_cons,List.length_append];omega
    have N1:Fresh _ (QK::Ns):=N
    have K1:Kept (Ns) ((qQ true QK gC oQ)::(qQ false zx yw ak)::Γ):=K0.behind 2 rfl
    replace K1:=K1.cons (F:=QK) 0 rfl rfl
    refine zD #[pp bs 0,yI dq,yI 6] rfl rfl call61 (dFew_ok ag ey eX bs ac cc Fc dq (6:Int) H1 N1 K1 qg qg qg) ?_
    clear H H1 N1 K1
    rintro _ Nq ⟨afA,Ow,Uy,Wk,ayT,WP,afu,NP,rfl,N,H⟩
    obtain rfl:=H.Qc 1 rfl
    refine⟨H.pick (2::4::zR 6 7) [1,0,2],(ro 6 rfl<|zy H underlying29 ti24 [Sv Wk Uy.length WP] fun YU aix H=>⟨H.pick (3::5::zR 7 7) [1,0,2],(ro 7 rfl ?_)⟩)⟩
    obtain⟨oR,N,ahg,H⟩:=H.vJ 2 rfl N<|fun F hF b hb=>(List.mem_append.1<|show F∈[QK]++Ns from hF).elim (fun h=>(H.vV (L:=[QK]) [1]) F h b hb) fun h=>H.jT (K0.behind 3 rfl) F h b hb
    dsimp only[List.set] at H
    refine zH H 4 rfl 0 rfl underlying29 ti24 rfl qj rfl rfl rfl qw qp qf fun Ji IV R3 H=>?_
    dsimp only[List.set] at H
    replace H:=H.Q5 2 rfl 0 rfl
    replace N:Fresh W0.heap.size ((QK++oR)::Ns):=(N.xm 2 [1,0]<|by simp only[List.length_cons,List.length_append];omega).join
    refine⟨H.pick (3::5::zR 7 7) [3,2,4],(tF 8 rfl rfl (H.pick (3::5::zR 7 7) [3,2,4]) ?_)⟩
    refine ro 9 rfl<|zh H 6 [Sv Cp (ji+1) CC,Sv Ji (XB+1) IV,Sv (aa ur 0) dq.toNat dq.toNat] sizeOf29 fun asW H=>?_
    dsimp only[List.set] at H
    refine⟨H.pick (3::5::zR 7 7) [3,2,4],(xy qh ((meet ⟨_,afA,Uy,Ow,Ji,IV,Wk,WP,oR,uE7,afu,NP,N,H.xm 14 5 (1::zR 3 11) [0,1,2,4] (by simp only[List.length_cons,List.length_append];omega)<|by simp only[List.length_cons,List.length_append];omega⟩)))⟩
   have H1:=H.yt 12 3 [5,0,1,2,3,4,6,7,8,9,10,11] [1,0,2] (by simp only[List.length_cons,List.length_append];omega)<|by simp only[List.length_cons,List.length_append];omega
   have N1:Fresh _ (QK::Ns):=N
   have K1:Kept (Ns) ((qQ true QK gC oQ)::(qQ false zx yw ak)::Γ):=K0.behind 2 rfl
   replace K1:=K1.cons (F:=QK) 0 rfl rfl
   refine zD #[pp bs 0,yI dq,yI 6] rfl rfl call61 (dFew_ok ag ey eX bs ac cc Fc dq (6:Int) H1 N1 K1 qg qg qg) ?_
   clear H H1 N1 K1
   rintro _ anO ⟨WA,WJ,HO,vc,alx,vv,XS,Wj,rfl,N,H⟩
   obtain rfl:=H.Qc 1 rfl
   refine⟨H.pick (2::4::zR 6 7) [1,0,2],(jC [1,6] qh qm<|yV rfl ?_<|yV rfl ?_ jD)⟩
   ·refine zJ (Sv fc XB fd) isAgg29 rfl (H.cell 5 rfl rfl) (⟨H.pick (2::4::zR 6 7) [1,0,2],(ro 6 rfl<|zy H underlying29 ti24 [Sv vc HO.length vv] fun aEu aGq H=>⟨H.pick (3::5::zR 7 7) [1,0,2],(ro 7 rfl ?_)⟩)⟩)
    obtain⟨aaN,N,Lg,H⟩:=H.vJ 2 rfl N<|fun F hF b hb=>(List.mem_append.1<|show F∈[QK]++Ns from hF).elim (fun h=>(H.vV (L:=[QK]) [1]) F h b hb) fun h=>H.jT (K0.behind 3 rfl) F h b hb
    dsimp only[List.set] at H
    refine zH H 4 rfl 0 rfl underlying29 ti24 rfl qj rfl rfl rfl qw qp qf fun RP PR Y3 H=>?_
    dsimp only[List.set] at H
    replace H:=H.Q5 2 rfl 0 rfl
    replace N:Fresh W0.heap.size ((QK++aaN)::Ns):=(N.xm 2 [1,0]<|by simp only[List.length_cons,List.length_append];omega).join
    refine⟨H.pick (3::5::zR 7 7) [3,2,4],(tF 8 rfl rfl (H.pick (3::5::zR 7 7) [3,2,4]) ?_)⟩
    refine ro 9 rfl<|zh H 6 [Sv Cp (ji+1) CC,Sv RP (XB+1) PR,Sv (aa ur 0) dq.toNat dq.toNat] sizeOf29 fun Y4 H=>?_
    dsimp only[List.set] at H
    refine⟨H.pick (3::5::zR 7 7) [3,2,4],(xy qh ((meet ⟨_,WA,HO,WJ,RP,PR,vc,vv,aaN,uE7,XS,Wj,N,H.xm 14 5 (1::zR 3 11) [0,1,2,4] (by simp only[List.length_cons,List.length_append];omega)<|by simp only[List.length_cons,List.length_append];omega⟩)))⟩
   refine zy H underlying29 ti24 [Sv vc HO.length vv] fun ayp aas H=>⟨H.pick (3::5::zR 7 7) [1,0,2],(ro 1 rfl<|zJ (Sv fc XB fd) isAgg29 rfl (H.cell 6 rfl rfl)<|⟨H.pick (3::5::zR 7 7) [1,0,2],(ro 7 rfl ?_)⟩)⟩
   obtain⟨nu,N,agq,H⟩:=H.vJ 2 rfl N<|fun F hF b hb=>(List.mem_append.1<|show F∈[QK]++Ns from hF).elim (fun h=>(H.vV (L:=[QK]) [1]) F h b hb) fun h=>H.jT (K0.behind 3 rfl) F h b hb
   dsimp only[List.set] at H
   refine zH H 4 rfl 0 rfl underlying29 ti24 rfl qj rfl rfl rfl qw qp qf fun Lz L7 akm H=>?_
   dsimp only[List.set] at H
   replace H:=H.Q5 2 rfl 0 rfl
   replace N:Fresh W0.heap.size ((QK++nu)::Ns):=(N.xm 2 [1,0]<|by simp only[List.length_cons,List.length_append];omega).join
   refine⟨H.pick (3::5::zR 7 7) [3,2,4],(tF 8 rfl rfl (H.pick (3::5::zR 7 7) [3,2,4]) ?_)⟩
   refine ro 9 rfl<|zh H 6 [Sv Cp (ji+1) CC,Sv Lz (XB+1) L7,Sv (aa ur 0) dq.toNat dq.toNat] sizeOf29 fun akO H=>?_
   dsimp only[List.set] at H
   refine⟨H.pick (3::5::zR 7 7) [3,2,4],(xy qh ((meet ⟨_,WA,HO,WJ,Lz,L7,vc,vv,nu,uE7,XS,Wj,N,H.xm 14 5 (1::zR 3 11) [0,1,2,4] (by simp only[List.length_cons,List.length_append];omega)<|by simp only[List.length_cons,List.length_append];omega⟩)))⟩
  clear H N
  rintro ρ aaO ⟨xP,GJ,xS,Wz,Rd,Sl,Hh,HN,xr,rfl,Wa,azk,N,H⟩
  refine b_n<|t_n<|xX<|sq 1<|sw<|zS bw 1 rfl rfl (by(omega))<|sq 1<|xU<|xu (m':=(fM.length-((bw+1):Int)).toNat) qf ⟨_,bw+1,_,_,_,_,_,_,_,_,_,_,_,_,uE7,?_,?_,?_,?_,rfl,N,H.xm 12 4 (2::3::4::5::0::zR 6 6) [0,2,3] (by simp only[List.length_cons,List.length_append];omega)<|by simp only[List.length_cons,List.length_append];omega⟩
  ·omega
  ·omega
  ·exact t2.snoc (fun _=>rfl) ql<|fun h=>by cases h
  ·exact t3.snoc
 refine zx4<|xM<|c_drawK2 rfl H [0,1,2,3,4,5,6,7,8] [0,1,2] fun H=>?_
 have S:=H.zW (zR 0 9) [0,1,2]
 refine rt 0 _ (Qg (cs:=[yI dq,Sv rz fM.length uY,Sv eP pb.length eM]) isAgg27 sizeOf27 rfl<|fun _ h=>qH (h.cells 6 rfl) 0 3) S ?_
 refine rtl 1 S ?_
 refine rt 2 _ (Qg (cs:=[Sv jX ji jW,Sv fc XB fd,Sv (aa ur 0) dq.toNat dq.toNat]) isAgg31 sizeOf31 rfl<|fun _ h=>qH (h.cells 2 rfl) 0 3) S ?_
 refine ro 3 rfl<|zF H 10 [yI dq,Sv rz fM.length uY,Sv eP pb.length eM] sizeOf27 fun aiP H=>?_
 dsimp only[List.set] at H
 refine⟨H.pick (zR 0 9) [0,1,2],(rtl 4 (H.pick (zR 0 9) [0,1,2]) ?_)⟩
 refine ro 5 rfl<|zF H 9 [Sv jX ji jW,Sv fc XB fd,Sv (aa ur 0) dq.toNat dq.toNat] sizeOf31 fun axg H=>?_
 dsimp only[List.set] at H
 refine⟨H.pick (zR 0 9) [0,1,2],(xy qh<|t_n<|c_ret<|retCTC H 10 rfl (Sv VA Xm Vx) 9 rfl rfl isAgg27 sizeOf27 isAgg31 sizeOf31 rfl rfl rfl ⟨_,rfl,?_⟩)⟩
 exact⟨ey,eX,dq,fM,ak,gy,oQ,(List.replicate dq.toNat (0:Int)),mQ,rz,fM.length,uY,eP,pb.length,eM,yw,zx,jX,ji,jW,fc,XB,fd,gC,QK,(aa ur 0),dq.toNat,dq.toNat,VA,Xm,Vx,qf,(by exact sd.with j2 j3),(by exact stDr_of t2 qf qf qf),(by exact t3),(by exact fun j hj=>j4 j qf),(by exact jo),rfl,N,H.xm 11 3 [4,7,8,1,0,3,5] [1,2,0] (by simp only[List.length_cons,List.length_append];omega)<|by simp only[List.length_cons,List.length_append];omega⟩
theorem a2Tissue_ok(ag:List UInt8)(ac:yOA)(cc:Nat)(Fc:yLN)(H:St W0 w (ps) ((sF false Fc ac cc ag)::Γ))(N:Fresh W0.heap.size (Ns))(K0:Kept Ns Γ):Calls Tryz.prog 8 #[Sv ac ag.length cc] w (fun e w'=>∃v,e=.returned v/\∃(PE:Int) (sQ:yLI) (gV:List yu) (pd:List Bool) (Dk:yLL) (q9:yLI) (Ou:yLI) (Yr:yOA) (T6:Nat) (Uz:Nat) (eB:yOA) (ee:Nat) (cz:Nat) (bV:List Value) (aC:yLN) (raA:yOA) (rnA:Nat) (rcA:Nat) (raB:yOA) (rnB:Nat) (rcB:Nat) (rxB:List Value) (rFB:yLN) (raD:yOA) (rnD:Nat) (rcD:Nat) (KL:yOA) (Og:Nat) (MP:Nat),(SysDr PE sQ gV)/\(StDr PE sQ.length 6 pd Dk q9)/\(AllTo pd)/\(MildTo gV gV.length)/\(OwnDr sQ.length Ou)/\v=.tuple #[.agg #[yI PE,Sv Yr T6 Uz,Sv eB ee cz],Sv KL Og MP,.agg #[Sv raA rnA rcA,Sv raB rnB rcB,Sv raD rnD rcD]]/\Fresh W0.heap.size (rFB::Ns)/\St W0 w' ((rr Yr T6 Uz 2 1<|sQ.map<|Value.int .i64)::(rr eB ee cz 110 9 bV)::(rr raA rnA rcA 4 1<|pd.map<|Value.bool)::(rr raB rnB rcB 24 1 rxB)::(rr raD rnD rcD 2 1<|q9.map<|Value.int .i64)::(rr KL Og MP 2 1<|Ou.map<|Value.int .i64)::ps) ((sF false Fc ac cc ag)::(qQ false aC bV gV)::(qQ true rFB rxB Dk)::Γ)):=by
 refine en func8 ntmps8 ?_
 refine zcr<|sw<|zn H ti27 [yI 0,yN,yN] fun b1 w2 H=>sq 1<|sw<|zn H ti31 [yN,yN,yN] fun b3 w4 H=>zjc<|sq 1<|sw<|vz #[Sv ac ag.length cc] rfl rfl call24<|en func24 ntmps24 ?_
 refine zcr<|sq 1<|zjc<|sq 1<|sw<|jE [Sv ac ag.length cc,yI 0,.int .u64 0] [(0,Sv ac ag.length cc)]<|sw<|jq H [Sv ac ag.length cc,yI 0,.int .u64 0] fun b5 w6 H=>sq 1<|zjr<|ret1 (pp b5 0) rfl rfl ⟨_,rfl,?_⟩
 have H1:=H.yt 3 1 [0,1,2] [0] (by simp only[List.length_cons,List.length_append];omega)<|by simp only[List.length_cons,List.length_append];omega
 have N1:Fresh _ (Ns):=N
 have K1:Kept (Ns) (Γ):=K0.behind 0 rfl
 refine sw<|zD #[pp b5 0] rfl rfl call23 (dTissue_ok ag (0:Int) 0 b5 ac cc Fc H1 N1 K1 qg) ?_
 clear H H1 N1 K1
 rintro _ w7 ⟨wU,gB,nq,mu,abF,acq,aam,aaI,aac,afR,axT,anM,acM,acx,KF,aaK,ZD,ZC,avY,rp,PY,aFj,aoj,asG,Om,ahB,aIA,uM,aoc,axq,Eq,hx9,awa,aHR,axj,Dp,awZ,rfl,N,H⟩
 obtain rfl:=H.Qc 1 rfl
 obtain rfl:=H.xk (α:=yu) 2 rfl 1 rfl qj
 obtain rfl:=H.rowNB 3 rfl
 obtain rfl:=H.xk (α:=yLI) 4 rfl 2 rfl qj
 obtain rfl:=H.Qc 5 rfl
 obtain rfl:=H.Qc 6 rfl
 refine sq 3<|sw<|zF H 8 [yI nq,Sv afR mu.length anM,Sv acM abF.length KF] sizeOf27 fun SF H=>?_
 dsimp only[List.set] at H
 refine sq 1<|sw<|zF H 7 [Sv ZC acq.length rp,Sv PY aam.length aoj,Sv ahB aaI.length uM] sizeOf31 fun w47 H=>?_
 dsimp only[List.set] at H
 refine zjr<|retCTC H 8 rfl (Sv aoc aac.length Eq) 7 rfl rfl isAgg27 sizeOf27 isAgg31 sizeOf31 rfl rfl rfl ⟨_,rfl,(⟨nq,mu,abF,acq,aam,aaI,aac,afR,mu.length,anM,acM,abF.length,KF,aaK,ZD,ZC,acq.length,rp,PY,aam.length,aoj,asG,Om,ahB,aaI.length,uM,aoc,aac.length,Eq,ql,ql,ql,ql,ql,rfl,N,H.xm 9 3 (zR 1 6) [0,1,2] (by simp only[List.length_cons,List.length_append];omega)<|by simp only[List.length_cons,List.length_append];omega⟩)⟩
end
section
section
variable{s : qO}{own : yLI}{n : Nat}{sv L L1 L2 : List zu}{wi : List zk}{d : xH}
abbrev InS(sv:List zu)(i:Int):Prop:=0<=i/\i<=(sv.length:Int)-1
theorem Vr(hk:d.xJ=1\/d.xJ=2\/d.xJ=5\/d.xJ=9)(h:¬InS sv d.fA):doM s own ⟨sv,wi⟩ d=(⟨sv,wi⟩,2):=do_range qf qf h
theorem Vq(hk:d.xJ=3\/d.xJ=4)(h:¬InS sv d.fA\/¬InS sv d.fB\/d.fA=d.fB):doM s own ⟨sv,wi⟩ d=(⟨sv,wi⟩,2):=(do_send hk).trans<|send_range h
theorem doR_post4(hk:d.xJ=3)(h:InS sv d.fA/\InS sv d.fB/\d.fA≠d.fB)(h2:¬Q3 (sv[d.fA.toNat]!)):doM s own ⟨sv,wi⟩ d=(⟨sv,wi⟩,4):=(do_send<|.inl hk).trans<|send_post0 h hk h2
theorem doR_post3(hk:d.xJ=3)(h:InS sv d.fA/\InS sv d.fB/\d.fA≠d.fB)(h2:Q3 (sv[d.fA.toNat]!))(h3:wi.length=12):doM s own ⟨sv,wi⟩ d=(⟨sv,wi⟩,3):=(do_send<|.inl hk).trans<|send_post1 h hk h2 h3
theorem doR_post0(hk:d.xJ=3)(h:InS sv d.fA/\InS sv d.fB/\d.fA≠d.fB)(h2:Q3 (sv[d.fA.toNat]!))(h3:wi.length≠12):doM s own ⟨sv,wi⟩ d=(⟨sv,wi++[⟨(sv[d.fA.toNat]!).qC.qP,d.fA,d.fB,((sv[d.fA.toNat]!).qI.vX)[d.fB.toNat]!⟩]⟩,0):=(do_send<|.inl hk).trans<|send_post2 h hk h2 h3
theorem doR_back4(hk:d.xJ=4)(h:InS sv d.fA/\InS sv d.fB/\d.fA≠d.fB)(h2:(sv[d.fA.toNat]!).qC.qP=0):doM s own ⟨sv,wi⟩ d=(⟨sv,wi⟩,4):=(do_send<|.inr hk).trans<|send_back0 h qf h2
theorem doR_back3(hk:d.xJ=4)(h:InS sv d.fA/\InS sv d.fB/\d.fA≠d.fB)(h2:(sv[d.fA.toNat]!).qC.qP≠0)(h3:wi.length=12):doM s own ⟨sv,wi⟩ d=(⟨sv,wi⟩,3):=(do_send<|.inr hk).trans<|send_back1 h qf h2 h3
theorem doR_back0(hk:d.xJ=4)(h:InS sv d.fA/\InS sv d.fB/\d.fA≠d.fB)(h2:(sv[d.fA.toNat]!).qC.qP≠0)(h3:wi.length≠12):doM s own ⟨sv,wi⟩ d=(⟨sv,wi++[⟨(sv[d.fA.toNat]!).qC.qP-1,d.fA,d.fB,((sv[d.fA.toNat]!).qC.x8)[d.fB.toNat]!⟩]⟩,0):=(do_send<|.inr hk).trans<|send_back2 h qf h2 h3
theorem Vp(hk:d.xJ=6\/d.xJ=7\/d.xJ=8)(h:(wi.length:Int)<=d.fA):doM s own ⟨sv,wi⟩ d=(⟨sv,wi⟩,2):=(do_wire hk).trans<|wire_2 h
theorem doR_drop(hk:d.xJ=8)(h:d.fA<wi.length):doM s own ⟨sv,wi⟩ d=(⟨sv,wi.eraseIdx d.fA.toNat⟩,0):=(do_wire qf).trans<|wire_drop (by show ¬(wi.length:Int)<=d.fA;omega) hk
def Stale(sv:List zu)(p:zk):Prop:=(sv[p.fTo.toNat]!).qC.qV=false\/(sv[p.fTo.toNat]!).qC.qP≠p.qP\/((sv[p.fTo.toNat]!).qC.vM)[p.QO.toNat]! =true
theorem stale_or(h:(sv[p.fTo.toNat]!).qC.qV=false\/(sv[p.fTo.toNat]!).qC.qP≠p.qP\/((sv[p.fTo.toNat]!).qC.vM)[p.QO.toNat]! =true):Stale sv p:=h
theorem fresh_and(h1:(sv[p.fTo.toNat]!).qC.qV=true)(h2:(sv[p.fTo.toNat]!).qC.qP=p.qP)(h3:((sv[p.fTo.toNat]!).qC.vM)[p.QO.toNat]! =false):¬Stale sv p:=by
 rintro(h|h|h)
 ·rw[h1] at h;cases h
 ·exact h h2
 ·rw[h3] at h;cases h
theorem VI(hk:d.xJ=7)(h:d.fA<wi.length)(h1:Stale sv (wi[d.fA.toNat]!)):doM s own ⟨sv,wi⟩ d=(⟨sv,wi⟩,0):=(do_wire qf).trans ((wire_copy (by show ¬(wi.length:Int)<=d.fA;omega) hk).trans<|come_0 h1)
theorem doR_stale6(hk:d.xJ=6)(h:d.fA<wi.length)(h1:Stale sv (wi[d.fA.toNat]!)):doM s own ⟨sv,wi⟩ d=(⟨sv,wi.eraseIdx d.fA.toNat⟩,0):=by
 have e:comeM ⟨sv,wi⟩ (wi[d.fA.toNat]!)=(⟨sv,wi⟩,0):=come_0 h1
 rw[do_wire qf,wire_in (by show ¬(wi.length:Int)<=d.fA;omega) qf qf<|by show (comeM ⟨sv,wi⟩<|wi[d.fA.toNat]!).2=0;rw[e]]
 show (({ (comeM ⟨sv,wi⟩<|wi[d.fA.toNat]!).1 with x9:=(comeM ⟨sv,wi⟩<|wi[d.fA.toNat]!).1.x9.eraseIdx d.fA.toNat }:zN),(0:Int))=_
 rw[e]
abbrev sumC(sv:List zu)(p:zk):yLL:=QB (sv[p.fTo.toNat]!).qC.qL p.qG
theorem doR_come3(hk:d.xJ=6\/d.xJ=7)(h:d.fA<wi.length)(h1:¬Stale sv (wi[d.fA.toNat]!))(h2:¬yF (sumC sv<|wi[d.fA.toNat]!) (sumC sv<|wi[d.fA.toNat]!).length):doM s own ⟨sv,wi⟩ d=(⟨sv,wi⟩,3):=by
 have e:comeM ⟨sv,wi⟩ (wi[d.fA.toNat]!)=(⟨sv,wi⟩,3):=come_3 h1 h2
 rw[do_wire qf,wire_no (by show ¬(wi.length:Int)<=d.fA;omega) qf<|by show (comeM ⟨sv,wi⟩<|wi[d.fA.toNat]!).2≠0;rw[e];exact fun h=>by cases h]
 exact e
theorem srv_set(hi:i<sv.length)(e:L1=sv.set i x):L1[i]! =x:=by rw[e,getset hi,if_pos rfl]
theorem got_sets(hi:p.fTo.toNat<sv.length)(e1:L1=sv.set p.fTo.toNat { sv[p.fTo.toNat]! with qC:={ (sv[p.fTo.toNat]!).qC with qL:=sumC sv p }})
 (e2:L2=L1.set p.fTo.toNat { L1[p.fTo.toNat]! with qC:={ (L1[p.fTo.toNat]!).qC with vM:=((L1[p.fTo.toNat]!).qC.vM).set p.QO.toNat true }}):(Xy ⟨sv,wi⟩ p.fTo.toNat<|gotD (sv[p.fTo.toNat]!).qC p)=⟨L2,wi⟩:=by
 rw[e2,srv_set hi e1,e1,List.set_set];rfl
theorem doR_come7(hk:d.xJ=7)(h:d.fA<wi.length)(h1:¬Stale sv (wi[d.fA.toNat]!))(h2:yF (sumC sv<|wi[d.fA.toNat]!) (sumC sv<|wi[d.fA.toNat]!).length)(e:(Xy ⟨sv,wi⟩ (wi[d.fA.toNat]!).fTo.toNat<|gotD (sv[(wi[d.fA.toNat]!).fTo.toNat]!).qC<|wi[d.fA.toNat]!)=⟨L,wi⟩):doM s own ⟨sv,wi⟩ d=(⟨L,wi⟩,0):=by
 rw[do_wire qf,wire_copy (by show ¬(wi.length:Int)<=d.fA;omega) hk]
 exact(come_1 (v:=⟨sv,wi⟩) (p:=wi[d.fA.toNat]!) h1 h2).trans<|by rw[←e]
theorem doR_come6(hk:d.xJ=6)(h:d.fA<wi.length)(h1:¬Stale sv (wi[d.fA.toNat]!))(h2:yF (sumC sv<|wi[d.fA.toNat]!) (sumC sv<|wi[d.fA.toNat]!).length)(e:(Xy ⟨sv,wi⟩ (wi[d.fA.toNat]!).fTo.toNat<|gotD (sv[(wi[d.fA.toNat]!).fTo.toNat]!).qC<|wi[d.fA.toNat]!)=⟨L,wi⟩):doM s own ⟨sv,wi⟩ d=(⟨L,wi.eraseIdx d.fA.toNat⟩,0):=by
 have e1:comeM ⟨sv,wi⟩ (wi[d.fA.toNat]!)=(⟨L,wi⟩,0):=(come_1 (v:=⟨sv,wi⟩) (p:=wi[d.fA.toNat]!) h1 h2).trans<|by rw[←e]
 rw[do_wire qf,wire_in (by show ¬(wi.length:Int)<=d.fA;omega) qf qf<|by show (comeM ⟨sv,wi⟩<|wi[d.fA.toNat]!).2=0;rw[e1]]
 show (({ (comeM ⟨sv,wi⟩<|wi[d.fA.toNat]!).1 with x9:=(comeM ⟨sv,wi⟩<|wi[d.fA.toNat]!).1.x9.eraseIdx d.fA.toNat }:zN),(0:Int))=_
 rw[e1]
theorem doR_work(hk:d.xJ=1)(h:InS sv d.fA):doM s own ⟨sv,wi⟩ d=workM s own ⟨sv,wi⟩ d.fA.toNat:=do_work hk h
theorem doR_save(hk:d.xJ=2)(h:InS sv d.fA)(e:L=sv.set d.fA.toNat { sv[d.fA.toNat]! with qI:=(sv[d.fA.toNat]!).qC }):doM s own ⟨sv,wi⟩ d=(⟨L,wi⟩,0):=(do_save (v:=⟨sv,wi⟩) hk h).trans<|by rw[e];rfl
theorem doR_crash(hk:d.xJ=9)(h:InS sv d.fA)(e:L=sv.set d.fA.toNat { sv[d.fA.toNat]! with qC:=(sv[d.fA.toNat]!).qI }):doM s own ⟨sv,wi⟩ d=(⟨L,wi⟩,0):=(do_crash (v:=⟨sv,wi⟩) hk h).trans<|by rw[e];rfl
def Ready(x:zu):Prop:=x.qC.qV=true/\AllGot x.qC.vM x.qC.vM.length/\Q3 x
theorem doR_adv4(hk:d.xJ=5)(h:InS sv d.fA)(h1:¬Ready (sv[d.fA.toNat]!)):doM s own ⟨sv,wi⟩ d=(⟨sv,wi⟩,4):=(do_advance (v:=⟨sv,wi⟩) hk h).trans<|adv_4 (v:=⟨sv,wi⟩) (i:=d.fA.toNat) h1
theorem doR_adv3(hk:d.xJ=5)(h:InS sv d.fA)(h1:Ready (sv[d.fA.toNat]!))(h2:¬yF (sumD (sv[d.fA.toNat]!).qC) (sumD (sv[d.fA.toNat]!).qC).length):doM s own ⟨sv,wi⟩ d=(⟨sv,wi⟩,3):=(do_advance (v:=⟨sv,wi⟩) hk h).trans<|adv_3 (v:=⟨sv,wi⟩) (i:=d.fA.toNat) h1 h2
theorem doR_adv0(hk:d.xJ=5)(h:InS sv d.fA)(h1:Ready (sv[d.fA.toNat]!))(h2:yF (sumD (sv[d.fA.toNat]!).qC) (sumD (sv[d.fA.toNat]!).qC).length)(e:(Xy ⟨sv,wi⟩ d.fA.toNat<|nextD s (sv[d.fA.toNat]!).qC)=⟨L,wi⟩):doM s own ⟨sv,wi⟩ d=(⟨L,wi⟩,0):=(do_advance (v:=⟨sv,wi⟩) hk h).trans ((adv_0 (v:=⟨sv,wi⟩) (i:=d.fA.toNat) h1 h2).trans<|by rw[←e])
theorem adv_sets(hi:i<sv.length){z:zA}{alc:zA}(hz:z=nextD s (sv[i]!).qC)
 (e:L=(sv.set i { sv[i]! with qC:=alc }).set i { (sv.set i { sv[i]! with qC:=alc })[i]! with qC:=z }):(Xy ⟨sv,wi⟩ i<|nextD s (sv[i]!).qC)=⟨L,wi⟩:=by
 rw[e,srv_set hi rfl,List.set_set,hz];rfl
theorem work_sets{m:Nat}{L3 L4 L5 L6:List zu}(hi:i<sv.length){b:yLL}{nw:List yLL}
 (e1:L1=sv.set i { sv[i]! with qC:={ (sv[i]!).qC with qG:=b }})
 (e2:L2=L1.set i { L1[i]! with qC:={ (L1[i]!).qC with vX:=nw }})
 (e3:L3=L2.set i { L2[i]! with qC:={ (L2[i]!).qC with qL:=nw[i]! }})
 (e4:L4=L3.set i { L3[i]! with qC:={ (L3[i]!).qC with qV:=true }})
 (e5:L5=L4.set i { L4[i]! with qC:={ (L4[i]!).qC with vM:=List.replicate m false }})
 (e6:L6=L5.set i { L5[i]! with qC:={ (L5[i]!).qC with vM:=((L5[i]!).qC.vM).set i true }})
 (hb:b=bagsD s (sv[i]!).qC) (hn:nw=nowD s own sv.length i (sv[i]!).qC) (hm:m=sv.length):(Xy ⟨sv,wi⟩ i<|workD s own sv.length i (sv[i]!).qC)=⟨L6,wi⟩:=by
 have l1:L1.length=sv.length:=by rw[e1,List.length_set]
 have l2:L2.length=sv.length:=by rw[e2,List.length_set,l1]
 have l3:L3.length=sv.length:=by rw[e3,List.length_set,l2]
 have l4:L4.length=sv.length:=by rw[e4,List.length_set,l3]
 have l5:L5.length=sv.length:=by rw[e5,List.length_set,l4]
 rw[e6,srv_set qf e5,e5,List.set_set,srv_set qf e4,e4,List.set_set,srv_set qf e3,e3,List.set_set,srv_set qf e2,e2,List.set_set,srv_set hi e1,e1,List.set_set,hb,hn,hm];rfl
def Sav(b:Bool)(k:Int)(x:zu):Prop:=(b=true->(k=3/\¬Q3 x)\/(k=4/\x.qC.qP=0))/\(b=false->(k=3->Q3 x)/\(k=4->x.qC.qP≠0))
theorem sav_t3(hk:k=3)(h:¬Q3 x):Sav true k x:=⟨fun _=>.inl ⟨hk,h⟩,fun h=>by cases h⟩
theorem sav_t4(hk:k=4)(h:x.qC.qP=0):Sav true k x:=⟨fun _=>.inr ⟨hk,h⟩,fun h=>by cases h⟩
theorem sav_f3(hk:k=3)(h:Q3 x):Sav false k x:=⟨(fun h=>by cases h),fun _=>⟨fun _=>h,fun h=>by omega⟩⟩
theorem sav_f4(hk:k=4)(h:x.qC.qP≠0):Sav false k x:=⟨(fun h=>by cases h),fun _=>⟨(fun h=>by omega),fun _=>h⟩⟩
theorem sav_b4(hk:k=4):Sav (x.qC.qP == 0) k x:=by
 by_cases h:x.qC.qP=0
 ·rw[beq_iff_eq.2 h];exact sav_t4 hk h
 ·rw[beq_eq_false_iff_ne.2 h];exact sav_f4 hk h
def Sav7(b:Bool)(k:Int)(x:zu):Prop:=(k=3/\(b=true<->¬Q3 x))\/(k=4/\b=false)
theorem sav7_1{b:Bool}(hk:k=3)(h1:x.qI.qP=x.qC.qP)(hb:b= !x.qI.qV):Sav7 b k x:=by
 subst hb
 refine .inl ⟨hk,?_⟩
 cases e:x.qI.qV with
 |true=>exact⟨(fun h=>by simp at h),fun h=>absurd ⟨h1,e⟩ h⟩
 |false=>exact⟨(fun _ h=>by rw[h.2] at e;cases e),fun _=>rfl⟩
theorem sav7_2(hk:k=3)(h1:x.qI.qP≠x.qC.qP):Sav7 true k x:=.inl ⟨hk,fun _ h=>h1 h.1,fun _=>rfl⟩
theorem sav7_3(hk:k=4):Sav7 false k x:=.inr ⟨hk,rfl⟩
theorem sav7_t{b:Bool}(j:Sav7 b k x)(h:b=true):Sav true k x:=by
 rcases j with ⟨h1,h2⟩|⟨h1,h2⟩
 ·exact sav_t3 h1<|h2.1 h
 ·rw[h] at h2;cases h2
theorem sav7_tb{b:Bool}(j:Sav7 b k x)(h:b=true):Sav b k x:=by
 have:=sav7_t j h
 rw[h];exact this
theorem sav7_f{b:Bool}(j:Sav7 b k x)(h:b=false)(hk:k≠4):Sav false k x:=by
 rcases j with ⟨h1,h2⟩|⟨h1,h2⟩
 ·exact sav_f3 h1 (Classical.byContradiction fun x=>by rw[h2.2 x] at h;cases h)
 ·exact absurd h1 hk
end
end
section
section
variable{P : Program}{Q : Exit -> Act -> World -> Prop}{n : Nat}{ρ : Env}{W0 w : World}{ps : List Prv}{Γ : List Fact}
 {d:Nat} {ty:TypeId} {pos:String} {af:Array Edge} {K:Env->World->Prop}
theorem o_over[Dfr]{x:Operand}{A:Addr}{kY:List Value}(H:St W0 w ps Γ)(k:Nat)(hp:ps[k]? =some (.row (Sv (some ⟨b,0,none⟩) nn c) e sz nn xs))
 (hu:P.underlying t=some (.slice e)) (he:TI P e z sz fx) (hs:ev n ρ s=Sv (some ⟨b,0,none⟩) i c) (hx:ev n ρ x=Sv (some A) m c2)
 (hl:kY.length=m*sz) (hn:∀q u,kY[q]? =some u->w.cell? (A.add q)=some u) (h1:∀u∈kY,u.oneCell'=true) (ho:i*sz+kY.length<=xs.length) (hc:i+m<=c)
 (kk:∀w',St W0 w' (ps.set k<|.row (Sv (some ⟨b,0,none⟩) nn c) e sz nn<|xs.take (i*sz)++kY++xs.drop (i*sz+kY.length)) Γ->K (upd ρ d<|Sv (some ⟨b,0,none⟩) (i+m) c) w'):
 OW P Q ⟨some d,.call ⟨.builtin .append,#[s,x],#[t,t]⟩,ty,pos,af,none⟩ n ρ w K:=by
 obtain⟨i',hi,S9,NI,SR⟩:=info_parts he
 obtain⟨w',hr,H'⟩:=H.rowSet k hp (i*sz) kY ho h1 (P:=P)
 have hz:i'.size=sz:=by exact NI
 have hfc:=run_firstCells_some (P:=P) w sz m A m c2 kY hl hn
 refine Q8 _ ?_<|kk w' H'
 simp[execOp,resolve,invoke,builtin,hs,hx,Builtin.append_,run_underlying hu,sizeOf,typeInfo,hi,hz,Builtin.lenOf,hc,hfc,Addr.add_lit,hr]
theorem o_noneV[Dfr]{op:Op}{w':World}(v:Value)(h:(execOp (ev n ρ) ⟨none,op,ty,pos,af,none⟩).run P w=.ok (.value v) w')(k:K ρ w'):OW P Q ⟨none,op,ty,pos,af,none⟩ n ρ w K:=by
 unfold OW
 intro K' hK
 unfold Oper.wp
 rw[XN,h]
 exact hK _ _ k
theorem o_clear[Dfr]{x:Operand}{zs:List Value}(H:St W0 w ps Γ)(k:Nat)(hp:ps[k]? =some (.row (Sv (some ⟨b,0,none⟩) nn c) e sz nn xs))
 (hu:P.underlying t=some (.slice e)) (hz:∀w,(zeroValue e).run P w=.ok z w) (hx:ev n ρ x=Sv (some ⟨b,i*sz,none⟩) m c2) (hm:0<m)
 (wL:(Builtin.zeroCells z.cells m).toList=zs) (h1:∀u∈zs,u.oneCell'=true) (ho:i*sz+zs.length<=xs.length)
 (kk:∀w',St W0 w' (ps.set k<|.row (Sv (some ⟨b,0,none⟩) nn c) e sz nn<|xs.take (i*sz)++zs++xs.drop (i*sz+zs.length)) Γ->K ρ w'):
 OW P Q ⟨none,.call ⟨.builtin .clear,#[x],#[t]⟩,ty,pos,af,none⟩ n ρ w K:=by
 obtain⟨w',hr,H'⟩:=H.rowSet k hp (i*sz) zs ho h1 (P:=P)
 obtain⟨m,rfl⟩:∃q,m=q+1:=⟨m-1,by omega⟩
 refine o_noneV (.tuple #[]) ?_<|kk w' H'
 simp[execOp,resolve,invoke,builtin,hx,Builtin.clear_,run_underlying hu,hz,wL,hr]
end
end
section
section
variable{P : Program}{Q : Exit -> Act -> World -> Prop}{n : Nat}{ρ : Env}{W0 w : World}{ps : List Prv}{Γ : List Fact}
 {d:Nat} {op:Op} {ty:TypeId} {pos:String} {af:Array Edge} {K:Env->World->Prop}
theorem St.rowCutN(H:St W0 w ps Γ)(k:Nat)(hp:ps[k]? =some (.row (Sv (some ⟨b,0,none⟩) nn c) e sz nn xs))(m:Nat)(hm:m<=nn):
 St W0 w (ps.set k<|.row (Sv (some ⟨b,0,none⟩) m c) e sz m<|xs.take<|m*sz) Γ:=
 H.turn k hp (fun h=>by
  have h:w.ownsRow W0.heap.size e sz (Sv (some ⟨b,0,none⟩) nn c) nn xs:=h
  obtain⟨hl,h|⟨g,ib,ij,hv,hB,hg,hn,hmx,Ka,ht⟩⟩:=h
  ·simp at h
  ·simp only[Value.slice.injEq] at hv
   obtain⟨DZ,_,hv3⟩:=hv
   have hle:m*sz<=nn*sz:=Nat.mul_le_mul_right _ hm
   refine⟨by rw[List.length_take];omega,Or.inr ⟨g,ib,ij,by rw[DZ,hv3],hB,hg,by omega,hmx,Ka,?_⟩⟩
   rw[←ht,List.take_take];congr 1;omega) rfl
theorem St.rowCap(H:St W0 w ps Γ)(k:Nat)(hp:ps[k]? =some (.row (Sv a nn c) e sz nn xs)):nn<=c:=by
 have h:w.ownsRow W0.heap.size e sz (Sv a nn c) nn xs:=H.has _<|List.mem_of_getElem? hp
 obtain⟨hl,h|⟨g,ib,ij,hv,hB,hg,hn,hmx,Ka,ht⟩⟩:=h
 ·simp only[Value.slice.injEq] at h;omega
 ·simp only[Value.slice.injEq] at hv;omega
theorem St.isCap{α:Type}[qK α](H:St W0 w ps Γ)(k:Nat){l:List α}(hf:Γ[k]? =some (isF fr F (Sv a m c) l)):l.length<=c:=by
 obtain⟨⟨a',c',hc,hl,_⟩,_⟩:=H.get k hf
 simp only[List.cons.injEq,Value.slice.injEq,and_true] at hc
 omega
theorem o_up[Dfr]{x:Operand}(kk:Nat)(hu:P.underlying t=some (.slice e))(he:TI P e z sz fx)(hx:ev n ρ x=Sv a m c)(hy:ev n ρ y=.int .i64 (kk:Int))(hk:kk<=c)(k:K (upd ρ d<|Sv a kk c) w):
 OW P Q ⟨some d,.slice t x none (some y) none,ty,pos,af,none⟩ n ρ w K:=Q8 _ (by
 cases a <;> by_cases h0:c=0 <;> simp[execOp,hx,hy,Instr.sliceAt,Instr.slice,Instr.sliceBounds,Instr.sliceBound,asIntOf,run_underlying hu,he.sizeOf,hk,h0,Addr.add] <;> intro h <;> omega) k
theorem y_up{x:Operand}(kk:Nat)(hu:P.underlying t=some (.slice e))(he:TI P e z sz fx)(hx:ev n ρ x=Sv a m c)(hy:ev n ρ y=.int .i64 (kk:Int))(hk:kk<=c):
 (execOp (ev n ρ) ⟨some d,.slice t x none (some y) none,ty,pos,af,none⟩).run P w=.ok (.value<|Sv a kk c) w:=by
 cases a <;> by_cases h0:c=0 <;> simp[execOp,hx,hy,Instr.sliceAt,Instr.slice,Instr.sliceBounds,Instr.sliceBound,asIntOf,run_underlying hu,he.sizeOf,hk,h0,Addr.add] <;> intro h <;> omega
theorem y_from{x:Operand}(kk:Nat)(hu:P.underlying t=some (.slice e))(he:TI P e z sz fx)(hx:ev n ρ x=Sv (some ⟨b,off,none⟩) m c)(hy:ev n ρ y=.int .i64 (kk:Int))(hk:kk<=m)(hm:m<=c):
 (execOp (ev n ρ) ⟨some d,.slice t x (some y) none none,ty,pos,af,none⟩).run P w=.ok (.value<|Sv (some ⟨b,if c=kk then off else off+kk*sz,none⟩) (m-kk)<|c-kk) w:=by
 by_cases h0:c=kk <;> simp[execOp,hx,hy,Instr.sliceAt,Instr.slice,Instr.sliceBounds,Instr.sliceBound,asIntOf,run_underlying hu,he.sizeOf,hk,h0,Addr.add]
theorem y_3{x y3:Operand}(k1 k2 k3:Nat)(hu:P.underlying t=some (.slice e))(he:TI P e z sz fx)(hx:ev n ρ x=Sv (some ⟨b,off,none⟩) m c)
 (h1:ev n ρ y1=.int .i64 (k1:Int)) (h2:ev n ρ y2=.int .i64 (k2:Int)) (h3:ev n ρ y3=.int .i64 (k3:Int)) (hk:k1<=k2) (hk2:k2<=k3) (hm:k3<=c):
 (execOp (ev n ρ) ⟨some d,.slice t x (some y1) (some y2)<|some y3,ty,pos,af,none⟩).run P w=.ok (.value<|Sv (some ⟨b,if k3=k1 then off else off+k1*sz,none⟩) (k2-k1)<|k3-k1) w:=by
 by_cases h0:k3=k1
 ·subst h0
  obtain rfl:k2=k3:=by omega
  simp[execOp,hx,h1,h2,h3,Instr.sliceAt,Instr.slice,Instr.sliceBounds,Instr.sliceBound,asIntOf,run_underlying hu,he.sizeOf,hm,Addr.add]
 ·simp[execOp,hx,h1,h2,h3,Instr.sliceAt,Instr.slice,Instr.sliceBounds,Instr.sliceBound,asIntOf,run_underlying hu,he.sizeOf,hk,hk2,hm,h0,Addr.add]
theorem y_hiLo{x:Operand}(k1 k2:Nat)(hu:P.underlying t=some (.slice e))(he:TI P e z sz fx)(hx:ev n ρ x=Sv (some ⟨b,off,none⟩) m c)
 (h1:ev n ρ y1=.int .i64 (k1:Int)) (h2:ev n ρ y2=.int .i64 (k2:Int)) (hk:k1<=k2) (hm:k2<=c) (hc:k1<c):
 (execOp (ev n ρ) ⟨some d,.slice t x (some y1) (some y2) none,ty,pos,af,none⟩).run P w=.ok (.value<|Sv (some ⟨b,off+k1*sz,none⟩) (k2-k1)<|c-k1) w:=by
 have h0:¬c=k1:=by omega
 simp[execOp,hx,h1,h2,Instr.sliceAt,Instr.slice,Instr.sliceBounds,Instr.sliceBound,asIntOf,run_underlying hu,he.sizeOf,hk,hm,h0,Addr.add]
end
theorem reps_oneU{α:Type}[qK α]{w:World}:∀ {F:yLN} {vs:List Value} {l:List α},reps w F vs l->∀u∈vs,u.oneCell'=true
 |_,_,[],⟨_,hv⟩,u,hu=>by rw[hv] at hu;cases hu
 |_,_,x::l,⟨F1,F2,c1,c2,_,hv,h1,h2⟩,u,hu=>by
  rw[hv] at hu
  rcases List.mem_append.1 hu with h|h
  ·exact qK.one h1 u h
  ·exact reps_oneU h2 u h
theorem o_clearAt[Dfr]{P:Program}{Q:Exit->Act->World->Prop}{ρ:Env}{ty:TypeId}{pos:String}{af:Array Edge}{K:Env->World->Prop}
 {t e:TypeId} {x:Operand} {z:Value} {sz b c c2 nn i m off:Nat} {xs zs:List Value} (H:St W0 w ps Γ) (k:Nat) (hp:ps[k]? =some (.row (Sv (some ⟨b,0,none⟩) nn c) e sz nn xs))
 (hu:P.underlying t=some (.slice e)) (hz:∀w,(zeroValue e).run P w=.ok z w) (hx:ev n ρ x=Sv (some ⟨b,off,none⟩) m c2) (ho':off=i*sz) (hm:0<m)
 (wL:(Builtin.zeroCells z.cells m).toList=zs) (h1:∀u∈zs,u.oneCell'=true) (ho:i*sz+zs.length<=xs.length)
 (kk:∀w',St W0 w' (ps.set k<|.row (Sv (some ⟨b,0,none⟩) nn c) e sz nn<|xs.take (i*sz)++zs++xs.drop (i*sz+zs.length)) Γ->K ρ w'):
 OW P Q ⟨none,.call ⟨.builtin .clear,#[x],#[t]⟩,ty,pos,af,none⟩ n ρ w K:=o_clear H k hp hu hz (by rw[hx,ho']) hm wL h1 ho kk
theorem reps_head{α:Type}[qK α]{l:List α}(h:reps w F vs l)(k:Nat)(hk:k<=l.length):∃F',((∀b∈F',b∈F)/\(F.Nodup->F'.Nodup))/\reps w F' (vs.take<|k*qK.size α) (l.take k):=by
 by_cases e:k=l.length
 ·subst e
  refine⟨F,⟨fun _ h=>h,fun h=>h⟩,?_⟩
  rw[List.take_length,List.take_of_length_le<|by rw[reps_len h];exact Nat.le_refl _]
  exact h
 ·obtain⟨G1,Gk,G2,v1,cs,v2,rfl,rfl,m1,m2,_,s1,s2⟩:=reps_get h k qf
  refine⟨G1,⟨fun b hb=>by simp[hb],fun hn=>?_⟩,?_⟩
  ·rw[List.append_assoc,List.nodup_append] at hn
   exact hn.1
  ·rw[←m1,List.append_assoc,List.take_left]
   exact s1
theorem St.rowHead{α:Type}[qK α](H:St W0 w ps Γ)(k:Nat)(hp:ps[k]? =some (.row (Sv (some ⟨b,0,none⟩) nn c) e (qK.size α) nn xs))(j:Nat){l:List α}(hf:Γ[j]? =some (qQ true F xs l))(m:Nat)(hm:m<=l.length)(hn:m<=nn):
 ∃yr F',((∀q∈F',q∈F)/\(F.Nodup->F'.Nodup))/\St W0 w (ps.set k<|.row (Sv (some ⟨b,0,none⟩) m c) e (qK.size α) m yr) (qQ true F' yr (l.take m)::Γ):=by
 obtain⟨F',hs,hr⟩:=reps_head (H.get j hf).1 m hm
 have H':=H.rowCutN k hp m hn
 exact⟨_,F',hs,H'.vT j hf (qQ true F' (xs.take<|m*qK.size α)<|l.take m) ⟨hr,fun e=>((H.get j hf).2 e).sub hs.1⟩ hs.1⟩
theorem getset_self{α:Type}{l:List α}{k:Nat}{x y:α}(h:l[k]? =some x):(l.set k y)[k]? =some y:=by
 have hk:k<l.length:=(List.getElem?_eq_some_iff.1 h).1
 rw[List.getElem?_set_self hk]
theorem delP(H:St W0 w ps Γ)(k:Nat)(hp:ps[k]? =some (.row (Sv (some ⟨b,0,none⟩) nn c) 77 4 nn xs))(j:Nat){l:List zk}(hf:Γ[j]? =some (qQ true F xs l))
 (i:Nat) {iv jv:Int} (h1:iv=i) (h2:jv=i+1) (h3:i<nn):Calls Tryz.prog 136 #[Sv (some ⟨b,0,none⟩) nn c,.int .i64 iv,.int .i64 jv] w fun e' w'=>∃v,e'=.returned v∧
  ∃yr F',v=Sv (some ⟨b,0,none⟩) (l.eraseIdx i).length c/\((∀q∈F',q∈F)/\(F.Nodup->F'.Nodup))∧
  St W0 w' (ps.set k<|.row (Sv (some ⟨b,0,none⟩) (l.eraseIdx i).length c) 77 4 (l.eraseIdx i).length yr) (qQ true F' yr (l.eraseIdx i)::Γ):=by
 subst h1
 subst h2
 have hc:=H.rowCap k hp
 have hn:=H.xk (α:=zk) k hp j hf qj
 refine en Tryz.func136 Tryz.ntmps136 ?_
 refine xM<|xX<|sp (Sv none 0 0)<|xU<|t_n<|xM<|xX<|sps [Sv (some ⟨b,0,none⟩) nn c,.int .i64 i,.int .i64<|i+1,Sv (some ⟨b,0,none⟩) nn c]<|sw<|o_len underlying37 (some ⟨b,0,none⟩) nn c rfl<|sw<|Q8 _ (y_3 i (i+1) nn underlying37 ti77 rfl rfl rfl rfl qf qf qf)<|xU<|t_n<|xM<|xM<|xX<|sps [.int .i64 i,.int .i64<|i+1,Bv ((i:Int) == i+1)]<|xU<|t_n<|vg ((i:Int) == i+1) rfl (fun h=>?_)<|fun h=>?_
 ·have:=eq_of_beq h;omega
 refine qW<|t_n<|xM<|xX<|sp (Sv (some ⟨b,0,none⟩) nn c)<|sw<|o_len underlying37 (some ⟨b,0,none⟩) nn c rfl<|sp (.int .i64 nn)<|xU<|t_n<|xM<|vK 2 rfl H [] [] fun H=>?_
 dsimp only[yg,yL]
 refine rtl 0 (H.pick [] []) ?_
 refine rtl 1 (H.pick [] []) ?_
 refine rt 2 (Sv (some ⟨b,0,none⟩) i c) (fun _ _=>y_up i underlying37 ti77 rfl rfl qf) (H.pick [] []) ?_
 refine rtl 3 (H.pick [] []) ?_
 refine rtl 4 (H.pick [] []) ?_
 refine rt 5 (Sv (some ⟨b,if c=i+1 then 0 else 0+(i+1)*4,none⟩) (nn-(i+1))<|c-(i+1)) (fun _ _=>y_from (i+1) underlying37 ti77 rfl rfl qf qf) (H.pick [] []) ?_
 refine xy qh<|xZ ?_
 have hr:=(H.get j hf).1
 have hxl:=H.rowLen k hp
 obtain⟨G1,Gk,G2,v1,cs,v2,rfl,rfl,DW,hl2,YP,hr1,hr2⟩:=reps_get hr i qf
 obtain⟨p,rfl⟩:∃p,nn=p+1:=⟨nn-1,by omega⟩
 have DW:v1.length=i*4:=DW
 have hl2:cs.length=4:=hl2
 have hl3:v1.length+cs.length+v2.length=(p+1)*4:=by simpa [Nat.add_assoc] using hxl
 have ei:i+(p+1-(i+1))=p:=by omega
 have atA:=fun q u h=>H.rowGet (i:=q) (v:=u) k hp h
 refine sw<|o_over (i:=i) (m:=p+1-(i+1)) (kY:=v2) H k hp underlying37 ti77 rfl rfl qf (fun q u hu=>?_) (reps_oneU hr2) qy qf fun w1 H=>?_
 ·have h:=atA (v1.length+cs.length+q) u (by rw[List.getElem?_append_right qm,List.length_append,Nat.add_sub_cancel_left];exact hu)
  have hq:q<v2.length:=(List.getElem?_eq_some_iff.1 hu).1
  have hci:¬c=i+1:=by omega
  rw[if_neg hci]
  rw[DW,hl2] at h
  rw[show (⟨b,0+(i+1)*4,none⟩:Addr).add q=⟨b,i*4+4+q,none⟩ from by rw[Addr.add_lit,show i*4+4+q=0+(i+1)*4+q from by omega]]
  exact h
 rw[ei]
 refine sp (Sv (some ⟨b,0,none⟩) p c)<|xU<|t_n<|xM<|xX<|sps [Sv (some ⟨b,0,none⟩) p c,Sv (some ⟨b,0,none⟩) p c]<|sw<|o_len underlying37 (some ⟨b,0,none⟩) p c rfl<|sp (.int .i64 (p+1:Nat))<|sw<|Q8 _ (y_hiLo p (p+1) underlying37 ti77 rfl rfl rfl qf qf qf)<|sw<|o_clearAt (i:=p) H k (by exact getset_self hp) underlying37 (zs:=[.int .i64 0,.int .i64 0,.int .i64 0,Sv none 0 0]) (z:=.agg #[.int .i64 0,.int .i64 0,.int .i64 0,Sv none 0 0]) ?_ rfl qf qf ?_ ?_ ?_ fun w2 H=>?_
 ·exact fun w=>TI.zero ti77 w
 ·rw[show p+1-p=1 from by omega];kernel_rfl
 ·intro u hu
  simp only[List.mem_cons,List.not_mem_nil,or_false] at hu
  rcases hu with rfl|rfl|rfl|rfl <;> rfl
 ·simp;omega
 refine xU<|t_n<|xM<|xX<|sps [Sv (some ⟨b,0,none⟩) p c,Sv (some ⟨b,0,none⟩) p c]<|zjr<|ret1 (Sv (some ⟨b,0,none⟩) p c) rfl rfl ⟨_,rfl,?_⟩
 have el:l.eraseIdx i=l.take i++l.drop (i+1):=List.eraseIdx_eq_take_drop_succ ..
 have ell:(l.eraseIdx i).length=p:=by rw[List.length_eraseIdx_of_lt qf];omega
 obtain⟨g1,gk,g2,u1,JW,u2,hF,hv,m1,m2,_,s1,s2⟩:=reps_get (H.get j hf).1 i qf
 obtain⟨DZ,hv2⟩:=List.append_inj hv<|by simp only[List.length_append];omega
 obtain⟨rfl,_⟩:=List.append_inj DZ qf
 subst hv2
 refine⟨v1++v2,g1++g2,by rw[ell],⟨fun q hq=>?_,fun Oe=>?_⟩,?_⟩
 ·rw[hF]
  simp only[List.mem_append] at hq ⊢
  rcases hq with h|h <;> simp[h]
 ·rw[hF,List.append_assoc,List.nodup_append,List.nodup_append] at Oe
  rw[List.nodup_append]
  exact⟨Oe.1,Oe.2.1.2.1,fun x hx y hy=>Oe.2.2 x hx y<|List.mem_append.2<|.inr hy⟩
 have H3:=H.rowCutN k (getset_self<|getset_self hp) p qf
 rw[List.set_set,List.set_set] at H3
 rw[ell]
 have e2:((List.take (p*4) (List.take (i*4) (v1++cs++v2)++v2++List.drop (i*4+v2.length) (v1++cs++v2))++[Value.int .i64 0,.int .i64 0,.int .i64 0,Sv none 0 0]++
  List.drop (p*4+4) (List.take (i*4) (v1++cs++v2)++v2++List.drop (i*4+v2.length) (v1++cs++v2))).take (p*4))=v1++v2:=by
  rw[←DW,List.append_assoc v1 cs v2,List.take_left]
  have hpl:p*4=(v1++v2).length:=by simp;omega
  rw[hpl,List.take_left,List.append_assoc,List.take_left]
 have H4:=H3.vT j hf (qQ true (g1++g2) (v1++v2)<|l.eraseIdx i) ⟨by rw[el];exact yU s1 s2,fun _=>((H3.get j hf).2 rfl).sub fun q hq=>by
  rw[hF]
  simp only[List.mem_append] at hq ⊢
  rcases hq with h|h <;> simp[h]⟩ (fun q hq=>by
  have hq:q∈g1++g2:=hq
  show q∈G1++Gk++G2
  rw[hF]
  simp only[List.mem_append] at hq ⊢
  rcases hq with h|h <;> simp[h])
 have e3:∀x y:List Value,x=y->St W0 w2 (ps.set k<|.row (Sv (some ⟨b,0,none⟩) p c) 77 4 p x) (qQ true (g1++g2) (v1++v2) (l.eraseIdx i)::Γ)->St W0 w2 (ps.set k<|.row (Sv (some ⟨b,0,none⟩) p c) 77 4 p y) (qQ true (g1++g2) (v1++v2) (l.eraseIdx i)::Γ):=fun _ _ e h=>e▸h
 exact e3 _ _ e2 H4
end
section
section
variable{s : qO}{own : yLI}{n : Nat}
theorem jy.nowIn(hg:Giv s own n)(h:jy s own n i d)(hw:d.qV=true)(hj:j<n):d.vX.length=n/\Sm2 (d.vX[j]!)/\PutOk s own j (d.vX[j]!):=
 have h1:=(h.got hw).2.2.2
 ⟨h1.1,(h1.2 j hj).small hg.sys,h1.2 j hj⟩
theorem jy.lastIn(hg:Giv s own n)(h:jy s own n i d)(hr:d.qP≠0)(hj:j<n):d.x8.length=n/\Sm2 (d.x8[j]!)/\PutOk s own j (d.x8[j]!):=
 have h1:=h.last (by have:=h.rnd;omega)
 ⟨h1.1,(h1.2 j hj).small hg.sys,h1.2 j hj⟩
theorem plusPre(hs:Qr s){a b:yLL}(h1:PutOk s own j a)(h2:PutOk s own j b):(a.length<=b.length/\a.length<=1000000)/\∀k,k<a.length->(a[k]!).length<=(b[k]!).length/\Mid (a[k]!)/\X8 (b[k]!) 1:=by
 have s1:=h1.small hs
 have e1:=h1.len
 have e2:=h2.len
 refine⟨⟨by omega,s1.1⟩,fun k hk=>?_⟩
 have b1:=h1.bag k qf
 have b2:=h2.bag k qf
 have l1:=b1.2
 have l2:=b2.2
 refine⟨by omega,(vP b1).mid,fun q hq=>?_⟩
 have:=(vP b2).2 q hq
 omega
theorem jy.sumLen(h:jy s own n i d):(QB (d.qG++[d.qF]) d.qL).length=s.qA.length+1:=by
 rw[QB,VK]
 exact h.all.len
theorem allGot_of{l:List Bool}(h:anyTo (fun k=>false == l[k]!) l.length=false):AllGot l l.length:=fun j hj=>by
 have:=anyTo_false.1 h j hj
 cases e:l[j]! with
 |true=>rfl
 |false=>rw[e] at this;cases this
theorem notGot_of{l:List Bool}(h:anyTo (fun k=>false == l[k]!) l.length=true):¬AllGot l l.length:=fun h1=>by
 have h2:anyTo (fun k=>false == l[k]!) l.length=false:=anyTo_false.2 fun j hj=>by rw[h1 j hj];rfl
 rw[h2] at h;cases h
theorem come_len{b:yLL}(hi:i<sv.length)(e:L=sv.set i { sv[i]! with qC:={ (sv[i]!).qC with qL:=b }})(h:(sv[i]!).qC.vM.length=m):L.length=sv.length/\(L[i]!).qC.vM.length=m:=by
 refine⟨by rw[e,List.length_set],?_⟩
 rw[srv_set hi e]
 exact h
theorem set_len(e:L'=L.set i x):L'.length=L.length:=by rw[e,List.length_set]
theorem set_got{g:List Bool}(hi:i<L.length)(e:L'=L.set i { L[i]! with qC:={ (L[i]!).qC with vM:=g }}):(L'[i]!).qC.vM.length=g.length:=by rw[srv_set hi e]
def ja(x:List Bool)(k:Int):List Bool:=List.replicate k.toNat<|x[0]!
theorem view_ok(hg:Giv s own n)(h:jy s own n i d):vU s (⟨ja [true] s.qA.length,d.qG,d.qF⟩:xn):=h.view hg.sys.1
variable{t : xn}{i : Int}{c bP j : Nat}{L L': List yLL}
theorem ownAt_e{own:yLI}{p:Nat}(h:p=own.length):vZ own p=own[0]! :=by rw[vZ,if_pos h]
theorem ownAt_n{own:yLI}{p:Nat}(h:p≠own.length):vZ own p=own[p]! :=by rw[vZ,if_neg h]
theorem now_pre(hg:Giv s own n)(ht:vU s t)(hc:c<s.qA.length)(hp:bP<=s.qA.length)(hj:j<n)(e:L=addTo own (yc s t (xG s t) c) (nowTo s t own i n c) bP):
 L.length=n/\(L[j]!).length=s.qA.length+1/\((L[j]!)[bP]!).length<=((yc s t (xG s t) c)[bP]!).length/\Mid ((L[j]!)[bP]!)/\X8 ((yc s t (xG s t) c)[bP]!) 1:=by
 have hl:zM s=s.qA.length:=rfl
 have sh:=puts_shape (t:=t) (cell:=(c:Int)) hg.sys<|Vo hg.sys ht
 have a:=addTo_at (nowTo_cube (i:=i) hg.sys ht hg.own hg.len c) sh hg.own (by rw[hg.len]) qf bP qf
 rw[←e] at a
 have kl:=XR hg.sys
 have c1:=hg.sys.1.2.1
 have r:=a.2 j hj
 have r2:=r.2 bP qf
 have p2:=sh.2 bP qf
 refine⟨a.1,r.1,by omega,⟨by omega,fun k hk=>?_⟩,fun k hk=>?_⟩
 ·have:=(r2.2 k qf).1
  omega
 ·have:=p2.2 k qf
  omega
theorem now_ok(hg:Giv s own n)(ht:vU s t)(hc:c<=s.qA.length)(hj:j<n)(e:L=nowTo s t own i n c):L.length=n/\Sm2 (L[j]!):=by
 have hl:zM s=s.qA.length:=rfl
 have a:=nowTo_cube (i:=i) hg.sys ht hg.own hg.len c
 rw[←e] at a
 have kl:=XR hg.sys
 have c1:=hg.sys.1.2.1
 have r:=a.2 j hj
 exact⟨a.1,⟨by have:=r.1;omega,fun k hk=>by have:=(r.2 k (by have:=r.1;omega)).1;omega⟩⟩
theorem puts_len(hg:Giv s own n)(ht:vU s t)(c:Int):(yc s t (xG s t) c).length=s.qA.length+1:=(puts_shape (t:=t) c hg.sys<|Vo hg.sys ht).1
theorem add_step{mY:yLL}{amG:List yLL}{o:Int}(e:L=addTo own mY amG bP)(ho:vZ own bP=o)(eL:L'=L.set o.toNat ((L[o.toNat]!).set bP<|jc ((L[o.toNat]!)[bP]!) (mY[bP]!) 1)):L'=addTo own mY amG (bP+1):=by
 subst e
 rw[addTo,ho,eL]
theorem now_end(e:L=addTo own (yc s t (xG s t) c) (nowTo s t own i n c) bP)(hp:bP=s.qA.length+1)(ho:own[c]! =i):L=nowTo s t own i n (c+1):=by
 rw[nowTo_yes ho,show zM s+1=bP from hp.symm]
 exact e
theorem rep_zero{k:Nat}(h:k=m):List.replicate k (jG s<|s.qA.length+1)=nowTo s t own i m 0:=by rw[h];rfl
variable{sv : List zu}{wi : List zk}{iv : Int}{SL : List zu}
theorem workR_4(h:(sv[iv.toNat]!).qC.qV=true):workM s own ⟨sv,wi⟩ iv.toNat=(⟨sv,wi⟩,4):=work_4 (v:=⟨sv,wi⟩) h
theorem workR_3(h:(sv[iv.toNat]!).qC.qV=false)(h1:(sv[iv.toNat]!).qC.qP=100):workM s own ⟨sv,wi⟩ iv.toNat=(⟨sv,wi⟩,3):=work_3 (v:=⟨sv,wi⟩) (by rw[show ((⟨sv,wi⟩:zN).qE[iv.toNat]!).qC.qV=false from h];exact Bool.false_ne_true) h1
theorem now_is(hi:0<=iv)(hc:c=s.qA.length)(e:L=nowTo s (⟨ja [true] s.qA.length,d.qG,d.qF⟩:xn) own iv n c):L=nowD s own n iv.toNat d:=by
 rw[e,hc,nowD,Int.toNat_of_nonneg hi]
 rfl
theorem workR_no(hi:0<=iv)(h:(sv[iv.toNat]!).qC.qV=false)(h1:(sv[iv.toNat]!).qC.qP≠100)(hc:c=s.qA.length)(e:L=nowTo s (⟨ja [true] s.qA.length,((sv[iv.toNat]!).qC).qG,((sv[iv.toNat]!).qC).qF⟩:xn) own iv sv.length c)
 (hj:j<sv.length) (h2:¬yF (L[j]!) (L[j]!).length):workM s own ⟨sv,wi⟩ iv.toNat=(⟨sv,wi⟩,3):=
 work_no (v:=⟨sv,wi⟩) (by rw[show ((⟨sv,wi⟩:zN).qE[iv.toNat]!).qC.qV=false from h];exact Bool.false_ne_true) h1 (fun x=>h2 (by
  have:=x j hj
  rw[←now_is hi hc e] at this
  exact this))
theorem workR_0(hi:0<=iv)(h:(sv[iv.toNat]!).qC.qV=false)(h1:(sv[iv.toNat]!).qC.qP≠100)(hc:c=s.qA.length)(e:L=nowTo s (⟨ja [true] s.qA.length,((sv[iv.toNat]!).qC).qG,((sv[iv.toNat]!).qC).qF⟩:xn) own iv sv.length c)
 (h2:AllB3 L sv.length) (e2:L=nowD s own sv.length iv.toNat (sv[iv.toNat]!).qC->Xy ⟨sv,wi⟩ iv.toNat (workD s own sv.length iv.toNat (sv[iv.toNat]!).qC)=⟨SL,wi⟩):workM s own ⟨sv,wi⟩ iv.toNat=(⟨SL,wi⟩,0):=
 (work_0 (v:=⟨sv,wi⟩) (by rw[show ((⟨sv,wi⟩:zN).qE[iv.toNat]!).qC.qV=false from h];exact Bool.false_ne_true) h1 (by
  have h3:=h2
  rw[now_is hi hc e] at h3
  exact h3)).trans (by rw[←e2<|now_is hi hc e])
end
end
section
theorem reps_cut{α:Type}[qK α]{l:List α}(h:reps w F vs l)(i:Nat)(hi:i<l.length):
 ∃GA GB,((∀b∈GA++GB,b∈F)/\(F.Nodup->(GA++GB).Nodup))/\reps w GA (vs.take<|i*qK.size α) (l.take i)/\reps w GB (vs.drop ((i+1)*qK.size α)) (l.drop<|i+1):=by
 obtain⟨G1,Gk,G2,v1,cs,v2,rfl,rfl,m1,m2,_,s1,s2⟩:=reps_get h i hi
 refine⟨G1,G2,⟨fun b hb=>?_,fun hn=>?_⟩,?_,?_⟩
 ·simp only[List.mem_append] at hb ⊢
  rcases hb with h|h <;> simp[h]
 ·rw[List.append_assoc,List.nodup_append,List.nodup_append] at hn
  rw[List.nodup_append]
  exact⟨hn.1,hn.2.1.2.1,fun x hx y hy=>hn.2.2 x hx y<|List.mem_append.2<|.inr hy⟩
 ·rw[←m1,List.append_assoc,List.take_left]
  exact s1
 ·have e:(i+1)*qK.size α=(v1++cs).length:=by rw[List.length_append,m1,m2,Nat.add_mul,Nat.one_mul]
  rw[e,List.drop_left]
  exact s2
section
variable{P : Program}{Q : Exit -> Act -> World -> Prop}{n : Nat}{ρ : Env}{W0 w : World}{ps : List Prv}{Γ : List Fact}
 {d:Nat} {ty:TypeId} {pos:String} {af:Array Edge} {K:Env->World->Prop}
theorem y_upI{x:Operand}(kk:Nat)(hu:P.underlying t=some (.slice e))(he:TI P e z sz fx)(hx:ev n ρ x=Sv a m c)(hy:ev n ρ y=.int .i64 iv)(hi:iv=(kk:Int))(hk:kk<=c):
 (execOp (ev n ρ) ⟨some d,.slice t x none (some y) none,ty,pos,af,none⟩).run P w=.ok (.value<|Sv a kk c) w:=by
 subst hi;exact y_up kk hu he hx hy hk
theorem y_fromI{x:Operand}(kk:Nat)(hu:P.underlying t=some (.slice e))(he:TI P e z sz fx)(hx:ev n ρ x=Sv (some ⟨b,0,none⟩) m c)(hy:ev n ρ y=.int .i64 iv)(hi:iv=(kk:Int))(hk:kk<=m)(hm:m<=c):
 (execOp (ev n ρ) ⟨some d,.slice t x (some y) none none,ty,pos,af,none⟩).run P w=.ok (.value<|Sv (some ⟨b,if c=kk then 0 else 0+kk*sz,none⟩) (m-kk)<|c-kk) w:=by
 subst hi;exact y_from kk hu he hx hy hk hm
theorem St.cutRow{α:Type}[qK α](H:St W0 w ps Γ)(j:Nat){l:List α}(hf:Γ[j]? =some (qQ true F xs l))(i:Nat)(hi:i<l.length):
 ∃GA GB,((∀b∈GA++GB,b∈F)/\(F.Nodup->(GA++GB).Nodup))/\St W0 w ps (qQ true GA (xs.take<|i*qK.size α) (l.take i)::qQ true GB (xs.drop ((i+1)*qK.size α)) (l.drop<|i+1)::Γ):=by
 obtain⟨GA,GB,hs,h1,h2⟩:=reps_cut (H.get j hf).1 i hi
 have hA:∀b∈GA,b∈F:=fun b hb=>hs.1 b<|List.mem_append.2<|.inl hb
 have hB:∀b∈GB,b∈F:=fun b hb=>hs.1 b<|List.mem_append.2<|.inr hb
 have H1:=H.vT j hf (qQ true GB (xs.drop ((i+1)*qK.size α))<|l.drop<|i+1) ⟨h2,fun e=>((H.get j hf).2 e).sub hB⟩ hB
 exact⟨GA,GB,hs,H1.vT (j+1) hf (qQ true GA (xs.take<|i*qK.size α)<|l.take i) ⟨h1,fun e=>((H.get j hf).2 e).sub hA⟩ hA⟩
theorem o_appendV[Dfr]{x:Operand}{cs:List Value}(H:St W0 w ps Γ)(i:Nat)(hp:ps[i]? =some (.row v e sz nn xs))(k:Nat)(hk:ps[k]? =some (.row (Sv (some ⟨b,0,none⟩) n2 c2) e sz n2 ys))
 (hu:P.underlying t=some (.slice e)) (he:TI P e z sz fx) (wL:z.cells.size=sz) (h0:0<sz) (hs:ev n ρ s=v) (hx:ev n ρ x=Sv (some ⟨b,off,none⟩) m c') (hl:cs.length=m*sz)
 (hc:∀q u,cs[q]? =some u->ys[off+q]? =some u) (h1:∀u∈cs,u.oneCell'=true) (hm:nn+m<=maxLen) (hb:(nn+m)*fx <=140737488355328)
 (kk:∀a c w',St W0 w' (ps.set i<|.row (Sv a (nn+m) c) e sz (nn+m)<|xs++cs) Γ->K (upd ρ d<|Sv a (nn+m) c) w'):
 OW P Q ⟨some d,.call ⟨.builtin .append,#[s,x],#[t,t]⟩,ty,pos,af,none⟩ n ρ w K:=by
 obtain⟨i',hi,S9,NI,SR⟩:=info_parts he
 have ff:w.ownsRow W0.heap.size e sz v nn xs:=H.has _<|List.mem_of_getElem? hp
 obtain⟨v',w',hr,ho,hg,_,hbl⟩:=run_append_own_at (P:=P) w W0.heap.size t ty e i' z sz fx hu hi S9 NI SR wL h0 v nn xs ff ⟨b,off,none⟩ m c' cs hl
  (fun k' u BJ =>by rw[Addr.add_lit];exact H.rowGet k hk<|hc k' u BJ) h1 hm hb H.base.size
 have H':St W0 w' (ps.set i<|.row v' e sz (nn+m)<|xs++cs) Γ:=H.change i hp hg.os hg.tape hg.output hg.size (fun c hc pt=>hg.block c hc<|fun e'=>pt e'.symm) ho (by
  rcases hbl with h|h
  ·exact Or.inl h
  ·exact Or.inr<|Or.inr ⟨_,h,Nat.le_refl _⟩)
 obtain⟨a,c,rfl,_⟩:=H'.yf i<|set_at hp
 exact Q8 _ (by simp[execOp,resolve,invoke,builtin,hs,hx,hr])<|kk a c w' H'
theorem o_appendHd[Dfr]{α:Type}[qK α]{x:Operand}{l:List α}(H:St W0 w ps Γ)(i:Nat)(hp:ps[i]? =some (.row v e (qK.size α) nn xs))(k:Nat)(hk:ps[k]? =some (.row (Sv (some ⟨b,0,none⟩) n2 c2) e (qK.size α) n2 ys))
 (j:Nat) (hf:Γ[j]? =some (qQ fr G (ys.take<|m*qK.size α) l))
 (hu:P.underlying t=some (.slice e)) (he:TI P e z (qK.size α) fx) (wL:z.cells.size=qK.size α) (h0:0<qK.size α) (hs:ev n ρ s=v) (hx:ev n ρ x=Sv (some ⟨b,0,none⟩) m c') (hm2:m<=n2) (hm:nn+m<=maxLen) (hb:(nn+m)*fx <=140737488355328)
 (kk:∀a c w',St W0 w' (ps.set i<|.row (Sv a (nn+m) c) e (qK.size α) (nn+m)<|xs++ys.take (m*qK.size α)) Γ->K (upd ρ d<|Sv a (nn+m) c) w'):
 OW P Q ⟨some d,.call ⟨.builtin .append,#[s,x],#[t,t]⟩,ty,pos,af,none⟩ n ρ w K:=by
 have hl:=H.rowLen k hk
 have hle:m*qK.size α<=n2*qK.size α:=Nat.mul_le_mul_right _ hm2
 refine o_appendV H i hp k hk hu he wL h0 hs hx (by rw[List.length_take];omega) (fun q u h=>?_) (reps_oneU (H.get j hf).1) hm hb kk
 have hq:q<(ys.take<|m*qK.size α).length:=(List.getElem?_eq_some_iff.1 h).1
 rw[List.length_take] at hq
 rw[List.getElem?_take_of_lt qf] at h
 rw[Nat.zero_add];exact h
theorem o_appendTl[Dfr]{α:Type}[qK α]{x:Operand}{p:Nat}{l:List α}(H:St W0 w ps Γ)(i:Nat)(hp:ps[i]? =some (.row v e (qK.size α) nn xs))(k:Nat)(hk:ps[k]? =some (.row (Sv (some ⟨b,0,none⟩) n2 c2) e (qK.size α) n2 ys))
 (j:Nat) (hf:Γ[j]? =some (qQ fr G (ys.drop<|p*qK.size α) l))
 (hu:P.underlying t=some (.slice e)) (he:TI P e z (qK.size α) fx) (wL:z.cells.size=qK.size α) (h0:0<qK.size α) (hs:ev n ρ s=v) (hx:ev n ρ x=Sv (some ⟨b,if c2=p then 0 else 0+p*qK.size α,none⟩) (n2-p) c') (hm2:p<=n2) (hn2:n2<=c2) (hm:nn+(n2-p)<=maxLen) (hb:(nn+(n2-p))*fx <=140737488355328)
 (kk:∀a c w',St W0 w' (ps.set i<|.row (Sv a (nn+(n2-p)) c) e (qK.size α) (nn+(n2-p))<|xs++ys.drop (p*qK.size α)) Γ->K (upd ρ d<|Sv a (nn+(n2-p)) c) w'):
 OW P Q ⟨some d,.call ⟨.builtin .append,#[s,x],#[t,t]⟩,ty,pos,af,none⟩ n ρ w K:=by
 have hl:=H.rowLen k hk
 have hle:p*qK.size α<=n2*qK.size α:=Nat.mul_le_mul_right _ hm2
 refine o_appendV H i hp k hk hu he wL h0 hs hx (by rw[List.length_drop,Nat.sub_mul];omega) (fun q u h=>?_) (reps_oneU (H.get j hf).1) hm hb kk
 have hq:q<(ys.drop<|p*qK.size α).length:=(List.getElem?_eq_some_iff.1 h).1
 rw[List.length_drop,hl] at hq
 have pt:¬c2=p:=fun e=>by
  have:n2=p:=by omega
  subst this;omega
 rw[if_neg pt,Nat.zero_add]
 rw[List.getElem?_drop] at h
 exact h
theorem o_appendAl[Dfr]{α:Type}[qK α]{x:Operand}{a0:yOA}{l:List α}(H:St W0 w ps Γ)(i:Nat)(hp:ps[i]? =some (.row v e (qK.size α) nn xs))(k:Nat)(hk:ps[k]? =some (.row (Sv a0 n2 c2) e (qK.size α) n2 ys))
 (j:Nat) (hf:Γ[j]? =some (qQ fr G ys l))
 (hu:P.underlying t=some (.slice e)) (he:TI P e z (qK.size α) fx) (wL:z.cells.size=qK.size α) (h0:0<qK.size α) (hs:ev n ρ s=v) (hx:ev n ρ x=Sv a0 n2 c2) (hm:nn+n2<=maxLen) (hb:(nn+n2)*fx <=140737488355328)
 (kk:∀a c w',St W0 w' (ps.set i<|.row (Sv a (nn+n2) c) e (qK.size α) (nn+n2)<|xs++ys) Γ->K (upd ρ d<|Sv a (nn+n2) c) w'):
 OW P Q ⟨some d,.call ⟨.builtin .append,#[s,x],#[t,t]⟩,ty,pos,af,none⟩ n ρ w K:=by
 have hl:=H.rowLen k hk
 obtain⟨i',hi,S9,NI,SR⟩:=info_parts he
 rcases a0 with _|⟨b,off,sp⟩
 ·have ff:w.ownsRow W0.heap.size e (qK.size α) (Sv none n2 c2) n2 ys:=H.has _ (List.mem_of_getElem? hk)
  obtain⟨_,h|⟨g,ib,ij,hv,_⟩⟩:=ff
  ·have he0:n2=0/\c2=0:=by simp only[Value.slice.injEq] at h;omega
   obtain⟨rfl,rfl⟩:=he0
   have hy:ys=[]:=List.length_eq_zero_iff.1<|by rw[hl];simp
   subst hy
   obtain⟨a1,c1,rfl,ZH,_⟩:=H.yf i hp
   refine Q8 (w':=w) (Sv a1 nn c1) (by simp[execOp,resolve,invoke,builtin,hs,hx,run_append_none hu hi ZH]) ?_
   have H':=kk a1 c1 w
   simp only[Nat.add_zero,List.append_nil] at H'
   refine H' ?_
   have:ps.set i (.row (Sv a1 nn c1) e (qK.size α) nn xs)=ps:=by
    apply List.ext_getElem?
    intro j'
    by_cases hj:i=j'
    ·subst hj
     rw[hp]
     have BG :i<ps.length:=(List.getElem?_eq_some_iff.1 hp).1
     rw[List.getElem?_set_self BG]
    ·rw[List.getElem?_set_ne hj]
   rw[this];exact H
  ·cases hv
 ·have ff:w.ownsRow W0.heap.size e (qK.size α) (Sv (some ⟨b,off,sp⟩) n2 c2) n2 ys:=H.has _ (List.mem_of_getElem? hk)
  have ho:off=0/\sp=none:=by
   obtain⟨_,h|⟨g,ib,ij,hv,_⟩⟩:=ff
   ·simp at h
   ·simp only[Value.slice.injEq,Option.some.injEq,Addr.mk.injEq] at hv;exact⟨hv.1.2.1,hv.1.2.2⟩
  obtain⟨rfl,rfl⟩:=ho
  exact o_appendV H i hp k hk hu he wL h0 hs hx hl (fun q u h=>by rw[Nat.zero_add];exact h) (reps_oneU (H.get j hf).1) hm hb kk
theorem erase_cut{α:Type}{l:List α}(hi:i<l.length):(([]++l.take i)++([]++l.drop (i+1)))=l.eraseIdx i:=(List.eraseIdx_eq_take_drop_succ ..).symm
end
end
section
section
variable{s : qO}{own : yLI}{n i : Nat}{sv L : List zu}{wi : List zk}
theorem sadv_4(h:¬((sv[i]!).qC.qV=true/\AllGot (sv[i]!).qC.vM (sv[i]!).qC.vM.length/\Q3 (sv[i]!))):QI s ⟨sv,wi⟩ i=(⟨sv,wi⟩,4):=adv_4 (v:=⟨sv,wi⟩) h
theorem sadv_w(h:(sv[i]!).qC.qV=false):QI s ⟨sv,wi⟩ i=(⟨sv,wi⟩,4):=sadv_4 fun x=>by rw[h] at x;exact absurd x.1 Bool.false_ne_true
theorem sadv_g(hb:b<(sv[i]!).qC.vM.length)(h:((sv[i]!).qC.vM)[b]! =false):QI s ⟨sv,wi⟩ i=(⟨sv,wi⟩,4):=sadv_4 fun x=>by
 have:=x.2.1 b hb
 rw[h] at this
 exact absurd this Bool.false_ne_true
theorem sadv_s(h:¬Q3 (sv[i]!)):QI s ⟨sv,wi⟩ i=(⟨sv,wi⟩,4):=sadv_4 fun x=>h x.2.2
theorem sadv_3(hd:d=(sv[i]!).qC)(h1:d.qV=true)(h2:AllGot d.vM d.vM.length)(h3:Q3 (sv[i]!))(hb:d.qG.length=zM s)(hc:c=d.qG.length)
 (h:¬(yF (XE d.qG d.qL c) (XE d.qG d.qL c).length/\VM (jc d.qF (d.qL[d.qG.length]!) 1))):QI s ⟨sv,wi⟩ i=(⟨sv,wi⟩,3):=by
 subst hd
 subst hc
 rw[hb] at h
 refine adv_3 (v:=⟨sv,wi⟩) ⟨h1,h2,h3⟩ fun x=>h ?_
 have x:yF (sumD (sv[i]!).qC) (sumD (sv[i]!).qC).length:=x
 rw[sum_adv hb] at x
 exact allBags_cat.1 x
theorem sadv_0(hd:d=(sv[i]!).qC)(h1:d.qV=true)(h2:AllGot d.vM d.vM.length)(h3:Q3 (sv[i]!))(hb:d.qG.length=zM s)(hc:c=d.qG.length)
 (h:yF (XE d.qG d.qL c) (XE d.qG d.qL c).length) (h4:VM (jc d.qF (d.qL[d.qG.length]!) 1))
 (e:L=sv.set i { sv[i]! with qC:=⟨d.qP+1,XE d.qG d.qL c,jc d.qF (d.qL[d.qG.length]!) 1,false,[],[],[],d.vX⟩}):QI s ⟨sv,wi⟩ i=(⟨L,wi⟩,0):=by
 subst hd
 subst hc
 rw[hb] at h h4 e
 have x:yF (sumD (sv[i]!).qC) (sumD (sv[i]!).qC).length:=by rw[sum_adv hb];exact allBags_cat.2 ⟨h,h4⟩
 have:=adv_0 (s:=s) (v:=⟨sv,wi⟩) (i:=i) ⟨h1,h2,h3⟩ x
 rw[this,e,show nextD s ((⟨sv,wi⟩:zN).qE[i]!).qC=_ from nextD_adv hb]
 rfl
theorem sadv_cat{p:Nat}(hp:p<d.qG.length):(d.qG++[d.qF])[p]! =d.qG[p]! :=by
 rw[getElem!_pos (d.qG++[d.qF]) p qy,getElem!_pos d.qG p hp,List.getElem_append_left hp]
theorem sadv_end:(d.qG++[d.qF])[d.qG.length]! =d.qF:=by
 rw[getElem!_pos (d.qG++[d.qF]) d.qG.length qm];simp
theorem sadv_row(hg:Giv s own n)(h:jy s own n i d)(hw:d.qV=true)(hc:c<d.qG.length):
 ((XE d.qG d.qL c)[c]!).length<=(d.qL[c]!).length/\Mid ((XE d.qG d.qL c)[c]!)/\X8 (d.qL[c]!) 1:=by
 have h1:=(plusPre hg.sys h.all (h.got hw).2.2.1).2 c qy
 rw[sadv_cat hc] at h1
 rw[advTo_get hc,if_neg qf]
 exact h1
theorem sadv_last(hg:Giv s own n)(h:jy s own n i d)(hw:d.qV=true):
 d.qF.length<=(d.qL[d.qG.length]!).length/\Mid d.qF/\X8 (d.qL[d.qG.length]!) 1:=by
 have h1:=(plusPre hg.sys h.all (h.got hw).2.2.1).2 d.qG.length qm
 rw[sadv_end] at h1
 exact h1
theorem sadv_len(h:jy s own n i d)(hw:d.qV=true):d.qG.length=zM s/\d.qL.length=d.qG.length+1:=by
 have h1:=h.all.len
 have h2:=(h.got hw).2.2.1.len
 rw[List.length_append,List.length_singleton] at h1
 omega
theorem sadv_step(hc:c<d.qG.length):(XE d.qG d.qL c).set c (jc ((XE d.qG d.qL c)[c]!) (d.qL[c]!) 1)=XE d.qG d.qL (c+1):=
 advTo_set hc (by rw[advTo_get hc,if_neg qf])
variable{iv : Int}{c : Nat}{d : zA}{LN : List yLL}{SL : List zu}{B : yLL}{G : List Bool}
def gotTo(iv:Int)(k:Nat):List Bool:=(List.range k).map fun(j:Nat)=>((j:Int) == iv)
theorem gotTo_snoc(iv:Int)(k:Nat):gotTo iv k++[((k:Int) == iv)]=gotTo iv (k+1):=by simp[gotTo,List.range_succ]
theorem gotTo_len(iv:Int)(k:Nat):(gotTo iv k).length=k:=by simp[gotTo]
theorem gotTo_all(hi:0<=iv){k:Nat}(hk:k=n):gotTo iv k=(List.replicate n false).set iv.toNat true:=by
 subst hk
 apply List.ext_getElem (by simp[gotTo])
 intro j h1 h2
 simp only[gotTo,List.getElem_map,List.getElem_range,List.getElem_set,List.getElem_replicate]
 split
 ·simp;omega
 ·simp;omega
theorem sview_ok(hg:Giv s own n)(h:jy s own n i d):vU s (⟨List.replicate s.qA.length true,d.qG,d.qF⟩:xn):=h.view hg.sys.1
theorem sview_w(s:qO)(d:zA):Whole (⟨List.replicate s.qA.length true,d.qG,d.qF⟩:xn):=view_whole (s:=s) d
theorem sb_row(hg:Giv s own n)(hi:0<=iv)(h:jy s own n iv.toNat d)(hc:c<s.qA.length):((jO s own d iv c)[c]!).length=jb s/\Mid ((jO s own d iv c)[c]!):=by
 have:=sBags_row hg h hc
 rwa [Int.toNat_of_nonneg hi] at this
theorem sb_took(hg:Giv s own n)(h:jy s own n i d)(c:Nat):(yK s (xG s (⟨List.replicate s.qA.length true,d.qG,d.qF⟩:xn)) (c:Int) s.qB.length).length=jb s/\X8 (yK s (xG s (⟨List.replicate s.qA.length true,d.qG,d.qF⟩:xn)) (c:Int) s.qB.length) (-1):=
 ⟨took_len _ _ _,tookOk hg h c⟩
theorem sb_len(h:jy s own n i d)(c:Nat):(jO s own d iv c).length=s.qA.length:=by
 rw[sBags_len]
 have:=h.all.len
 rw[List.length_append,List.length_singleton] at this
 have e:zM s=s.qA.length:=rfl
 omega
theorem sb_end(hg:Giv s own n)(hi:0<=iv)(h:jy s own n iv.toNat d)(hc:c=s.qA.length):jO s own d iv c=bagsD s d:=by
 have:=sBags_end hg h
 rw[Int.toNat_of_nonneg hi] at this
 rw[hc];exact this
theorem swork_0(hi:0<=iv)(hd:d=(sv[iv.toNat]!).qC)(h:d.qV=false)(h1:d.qP≠100)(hc:c=s.qA.length)(e:LN=nowTo s (⟨List.replicate s.qA.length true,d.qG,d.qF⟩:xn) own iv sv.length c)
 (h2:AllB3 LN sv.length) (hB:B=bagsD s d) (hG:G=(List.replicate sv.length false).set iv.toNat true)
 (eL:SL=sv.set iv.toNat { sv[iv.toNat]! with qC:=⟨d.qP,B,d.qF,true,G,LN[iv.toNat]!,LN,d.x8⟩}):workM s own ⟨sv,wi⟩ iv.toNat=(⟨SL,wi⟩,0):=by
 subst hd
 refine workR_0 hi h h1 hc e h2 fun z=>?_
 rw[eL,hB,hG]
 subst z
 rfl
variable{d : xH}{p : zk}{L1 L2 : List zu}
theorem doR_advance{d:xH}(hk:d.xJ=5)(h:InS sv d.fA):doM s own ⟨sv,wi⟩ d=QI s ⟨sv,wi⟩ d.fA.toNat:=do_advance hk h
theorem stale_w(h:(sv[p.fTo.toNat]!).qC.qV=false):true=true<->Stale sv p:=iff_of_true rfl<|.inl h
theorem stale_r(h:(sv[p.fTo.toNat]!).qC.qP≠p.qP):true=true<->Stale sv p:=iff_of_true rfl<|.inr<|.inl h
theorem stale_g(h1:(sv[p.fTo.toNat]!).qC.qV=true)(h2:(sv[p.fTo.toNat]!).qC.qP=p.qP):((sv[p.fTo.toNat]!).qC.vM)[p.QO.toNat]! =true<->Stale sv p:=
 ⟨fun h=>.inr<|.inr h,fun h=>by
  rcases h with h|h|h
  ·rw[h1] at h;cases h
  ·exact absurd h2 h
  ·exact h⟩
theorem fresh_of(h:¬Stale sv p):(sv[p.fTo.toNat]!).qC.qV=true:=by
 cases e:(sv[p.fTo.toNat]!).qC.qV with
 |true=>rfl
 |false=>exact absurd (.inl e) h
theorem sumC_eq(hc:c=(sv[p.fTo.toNat]!).qC.qL.length):Xo (sv[p.fTo.toNat]!).qC.qL p.qG c=sumC sv p:=by rw[hc];rfl
theorem sgot_sets(hc:c=(sv[p.fTo.toNat]!).qC.qL.length)(hi:p.fTo.toNat<sv.length)(e1:L1=sv.set p.fTo.toNat { sv[p.fTo.toNat]! with qC:={ (sv[p.fTo.toNat]!).qC with qL:=Xo (sv[p.fTo.toNat]!).qC.qL p.qG c }})
 (e2:L2=L1.set p.fTo.toNat { L1[p.fTo.toNat]! with qC:={ (L1[p.fTo.toNat]!).qC with vM:=((L1[p.fTo.toNat]!).qC.vM).set p.QO.toNat true }}):(Xy ⟨sv,wi⟩ p.fTo.toNat<|gotD (sv[p.fTo.toNat]!).qC p)=⟨L2,wi⟩:=
 got_sets hi (by rw[e1,sumC_eq hc]) e2
theorem sdoR_post0{d:xH}(hk:d.xJ=3)(h:InS sv d.fA/\InS sv d.fB/\d.fA≠d.fB)(h2:Q3 (sv[d.fA.toNat]!))(h3:wi.length≠12):doM s own ⟨sv,wi⟩ d=(⟨sv,wi++[⟨(sv[d.fA.toNat]!).qI.qP,d.fA,d.fB,((sv[d.fA.toNat]!).qI.vX)[d.fB.toNat]!⟩]⟩,0):=by
 rw[doR_post0 hk h h2 h3,h2.1]
end
end
end Go.Proofs.YtghikkinnchndaaGreat
