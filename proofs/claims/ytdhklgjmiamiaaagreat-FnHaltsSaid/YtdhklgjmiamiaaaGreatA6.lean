/- Walks and laws, printed by program and by hand: what each function comes to, for all arguments, part 6. -/
import Derived.Test.YtdhklgjmiamiaaaGreatA5
import Derived.Shelf.SlicesE.Reverse
import Derived.Ground.SlgnProg
namespace Go.Proofs.YtdhklgjmiamiaaaGreat
open Go.Proofs.Tryz
set_option linter.unusedVariables false
set_option linter.unusedSimpArgs false
set_option maxRecDepth 100000
set_option maxHeartbeats 4000000
open Go.RowKit
open Go.Proofs.Tryz
open Go.Proofs.YtdhklgjmiamiaaaGreat.Tot (tot)
open Go.Proofs.YtdhklgjmiamiaaaGreat.Mark (cnt mrk mkd mkd_mark cnt_mark)
variable{B F G P xJ xW xu zF zk:yLN}{Ns:List yLN}{R ch cs:yLL}{S l':List qG}{W0 w:World}{X xs:List Value}{a b c f i j k k0 lo m nn o q qE qL qN qU xk:Nat}{code:List UInt8}{e:TypeId}{fr Jq:Bool}{iv kk n:Int}{l:List yH}{ps:List Prv}{qF qM qO qV xm:yOA}{s:qH}{t u:qG}{v:Value}{z:yLI}{Γ:List Fact}
section
theorem dSystem_ok(code:List UInt8)(ip:Int)(sd:Int)(bs:Nat)(ac:yOA)(cc:Nat)(Fc:yLN)(H:St W0 w ((.box bs [Sv ac code.length cc,yI ip,.int .u64 sd] 115)::ps) ((sF false Fc ac cc code)::Γ))(N:Fresh W0.heap.size (Ns))(K0:Kept Ns Γ)(q0:0<=ip/\ip<=50000):Calls Tryz.prog 87 #[pp bs 0] w (fun e w'=>∃v,e=.returned v/\∃(kV:Int) (Aa:Int) (KT:Int) (uJ:yLI) (kX:List yH) (Nr:yOA) (PX:Nat) (Qt:Nat) (PR:yOA) (Oo:Nat) (Ok:Nat) (Pd:List Value) (U6:yLN),(ip<=kV/\kV<=ip+2000)/\(SysDr KT uJ kX)/\v=.agg #[yI KT,Sv Nr PX Qt,Sv PR Oo Ok]/\Fresh W0.heap.size (U6::Ns)/\St W0 w' ((.box bs [Sv ac code.length cc,yI kV,.int .u64 Aa] 115)::(rr Nr PX Qt 2 1<|uJ.map<|Value.int .i64)::(rr PR Oo Ok 70 9 Pd)::ps) ((sF false Fc ac cc code)::(xG true U6 Pd kX)::Γ)):=by
 refine en func87 ntmps87 ?_
 refine zcr<|sw<|xg H ti27 [yI 0,yN,yN] fun b1 w2 H=>zjc<|sq 1 ?_
 have H1:=H.y9 2 1 [1,0] [0] qo qo
 have N1:Fresh _ (Ns):=N
 have K1:Kept (Ns) (Γ):=K0.behind 0 rfl
 refine sw<|ve #[pp bs 0,yI 3] rfl rfl call43 (Qp code ip sd bs ac cc Fc (3:Int) H1 N1 K1 qg) ?_
 clear H H1 N1 K1
 rintro _ w3 ⟨BW,GN,m5,hx5,hx6,rfl,N,H⟩
 refine sw<|zC 1 m5 rfl rfl qf<|sw<|zl H underlying24 ti2 [yI (-1)] fun g9 rL H=>sw<|vg [yI<|1+m5,Sv (aa g9 0) 1 1,yN] [(0,yI<|1+m5),(1,Sv (aa g9 0) 1 1)]<|sw<|xg H ti27 [yI 0,yN,yN] fun uG xp H=>sw<|xx H 0 [yI<|1+m5,Sv (aa g9 0) 1 1,yN] sizeOf27 fun O5 H=>?_
 dsimp only[List.set] at H
 refine zjcc<|sq 1 ?_
 have H1:=H.y9 4 1 [2,0,1,3] [0] qo qo
 have N1:Fresh _ (Ns):=N
 have K1:Kept (Ns) (Γ):=K0.behind 0 rfl
 refine sw<|ve #[pp bs 0,yI 3] rfl rfl call43 (Qp code BW GN bs ac cc Fc (3:Int) H1 N1 K1 qg) ?_
 clear H H1 N1 K1
 rintro _ uK ⟨Bd,al8,MD,awT,avg,rfl,N,H⟩
 refine sq 1<|zjn<|xf ?_
 replace H:=H.boxRowI 2 [(-1)] 1
 dsimp only[List.set] at H
 refine zD ((fun Z0 Z1=>fun m' ρ GP=>∃(xN:Env) (c:Int) (bT:Int) (bh:Int) (yx:yOA) (vS:Nat) (yw:Nat) (bw:yLI),ρ=upd (upd (upd (upd xN 0<|pp bs 0) 2<|pp b1 0) 3<|pp uG 0) 4 (yI c)/\(ip<=bT/\bT+2*c<=ip+8)/\(0<=c/\(bw.length:Int)+c<=3)/\(ParDr bw)/\m'=c.toNat/\Fresh W0.heap.size (Ns)/\St W0 GP ((.box bs [Sv ac code.length cc,yI bT,.int .u64 bh] 115)::(.box uG [yI<|1+m5,Sv yx vS yw,yN] 27)::(rr yx vS yw 2 1<|bw.map<|Value.int .i64)::Z0::ps) (Z1::Γ)) _ _) (MD.toNat) ⟨_,MD,Bd,al8,(aa g9 0),1,1,[(-1)],uE4,qf,qy,(by exact ParDr.one),rfl,N,H⟩ ?_
 clear H N
 rintro m' ρ Cz ⟨xN,c,bT,bh,yx,vS,yw,bw,rfl,i1,i2,i3,rfl,N,H⟩
 have MN:=H.jy 2 rfl
 have i4:=i3.1
 refine zcc<|sp (yI c)<|sp (Bv<|decide ((c:Int)>0))<|zjn<|cD rfl (fun mU=>?_)<|fun mU=>?_
 ·refine qZ (t_n<|xU<|xf<|VD (fun ρ BB=>∃(xN:Env) (Ho:Int) (Fv:Int) (aal:Int) (ZG:yOA) (c29:Nat),ρ=upd (upd (upd (upd xN 0<|pp bs 0) 2<|pp b1 0) 3<|pp uG 0) 4 (yI c)/\(bT<=Ho/\Ho<=bT+2)/\(0<=Fv/\(Fv<vS\/Fv=0))/\Fresh W0.heap.size (Ns)/\St W0 BB ((.box bs [Sv ac code.length cc,yI Ho,.int .u64 aal] 115)::(.box uG [yI<|1+m5,Sv ZG (vS+1) c29,yN] 27)::(rr ZG (vS+1) c29 2 1 ((bw++[Fv]).map<|Value.int .i64))::(.box b1 [yI 0,yN,yN] 27)::ps) ((sF false Fc ac cc code)::Γ)) ?_ ?_)
  ·refine XT rfl H [3] [0] fun H=>?_
   have S:=H.jF [3] [0]
   refine tF 0 rfl rfl S ?_
   refine rtl 2 S ?_
   refine tF 3 rfl rfl S ?_
   refine zY [1,4] qh qm<|vG rfl ?_<|vG rfl ?_ zZ
   ·refine zB (Sv yx vS yw) isAgg24 rfl (H.cell 1 rfl rfl) (⟨H.pick [3] [0],(ro 4 rfl<|zB (Sv yx vS yw) isAgg24 rfl (H.cell 1 rfl rfl)<|⟨H.pick [3] [0],(tN 5 rfl rfl (H.pick [3] [0]) ?_)⟩)⟩)
    refine ro 6 rfl ?_
    have H1:=H.y9 4 1 [0,1,2,3] [0] qo qo
    have N1:Fresh _ (Ns):=N
    have K1:Kept (Ns) (Γ):=K0.behind 0 rfl
    refine ve #[pp bs 0,yI vS] rfl rfl call43 (Qp code bT bh bs ac cc Fc vS H1 N1 K1 qg) ?_
    clear H H1 N1 K1
    rintro _ G6 ⟨akt,wM,pF,ajW,anM,rfl,N,H⟩
    refine⟨H.pick [3] [0],(ro 7 rfl<|zl H underlying24 ti2 [yI pF] fun b39 Y0 H=>⟨H.pick [4] [0],(ro 8 rfl<|zt H 3 rfl 0 rfl underlying24 ti2 rfl qj rfl rfl rfl qw qp qf fun a41 c42 KQ H=>?_)⟩)⟩
    rw[snocI] at H
    dsimp only[List.set] at H
    refine⟨H.pick [4] [0],(tF 9 rfl rfl (H.pick [4] [0]) ?_)⟩
    refine ro 10 rfl<|xn H 2 [yI<|1+m5,Sv a41 (vS+1) c42,yN] sizeOf24 fun JC H=>?_
    dsimp only[List.set] at H
    refine⟨H.pick [4] [0],(xC qh ((meet ⟨_,akt,pF,wM,a41,c42,uE4,ajW,anM,N,H.vU 5 1 (zR 1 4) [0] qo qo⟩)))⟩
   refine zB (Sv yx vS yw) isAgg24 rfl (H.cell 1 rfl rfl)<|⟨H.pick [3] [0],(tN 5 rfl rfl (H.pick [3] [0]) ?_)⟩
   refine zY [1,6] qh qm<|vG rfl ?_<|vG rfl ?_ zZ
   ·refine zB (Sv yx vS yw) isAgg24 rfl (H.cell 1 rfl rfl) (⟨H.pick [3] [0],(ro 6 rfl ?_)⟩)
    have H1:=H.y9 4 1 [0,1,2,3] [0] qo qo
    have N1:Fresh _ (Ns):=N
    have K1:Kept (Ns) (Γ):=K0.behind 0 rfl
    refine ve #[pp bs 0,yI vS] rfl rfl call43 (Qp code bT bh bs ac cc Fc vS H1 N1 K1 qg) ?_
    clear H H1 N1 K1
    rintro _ LQ ⟨ajG,ang,ZO,alz,F8,rfl,N,H⟩
    refine⟨H.pick [3] [0],(ro 7 rfl<|zl H underlying24 ti2 [yI ZO] fun Tc LJ H=>⟨H.pick [4] [0],(ro 8 rfl<|zt H 3 rfl 0 rfl underlying24 ti2 rfl qj rfl rfl rfl qw qp qf fun a54 c55 G3 H=>?_)⟩)⟩
    rw[snocI] at H
    dsimp only[List.set] at H
    refine⟨H.pick [4] [0],(tF 9 rfl rfl (H.pick [4] [0]) ?_)⟩
    refine ro 10 rfl<|xn H 2 [yI<|1+m5,Sv a54 (vS+1) c55,yN] sizeOf24 fun Lf H=>?_
    dsimp only[List.set] at H
    refine⟨H.pick [4] [0],(xC qh ((meet ⟨_,ajG,ZO,ang,a54,c55,uE4,alz,F8,N,H.vU 5 1 (zR 1 4) [0] qo qo⟩)))⟩
   have H1:=H.y9 4 1 [0,1,2,3] [0] qo qo
   have N1:Fresh _ (Ns):=N
   have K1:Kept (Ns) (Γ):=K0.behind 0 rfl
   refine ve #[pp bs 0,yI vS] rfl rfl call43 (Qp code bT bh bs ac cc Fc vS H1 N1 K1 qg) ?_
   clear H H1 N1 K1
   rintro _ Ny ⟨afF,ad4,Mr,adS,aaw,rfl,N,H⟩
   refine⟨H.pick [3] [0],(zY [1,7] qh qm<|vG rfl ?_<|vG rfl ?_ zZ)⟩
   ·refine zB (Sv yx vS yw) isAgg24 rfl (H.cell 1 rfl rfl) (⟨H.pick [3] [0],(ro 7 rfl<|zl H underlying24 ti2 [yI Mr] fun BE Hl H=>⟨H.pick [4] [0],(ro 8 rfl<|zt H 3 rfl 0 rfl underlying24 ti2 rfl qj rfl rfl rfl qw qp qf fun a67 c68 KF H=>?_)⟩)⟩)
    rw[snocI] at H
    dsimp only[List.set] at H
    refine⟨H.pick [4] [0],(tF 9 rfl rfl (H.pick [4] [0]) ?_)⟩
    refine ro 10 rfl<|xn H 2 [yI<|1+m5,Sv a67 (vS+1) c68,yN] sizeOf24 fun UU H=>?_
    dsimp only[List.set] at H
    refine⟨H.pick [4] [0],(xC qh ((meet ⟨_,afF,Mr,ad4,a67,c68,uE4,adS,aaw,N,H.vU 5 1 (zR 1 4) [0] qo qo⟩)))⟩
   refine zl H underlying24 ti2 [yI Mr] fun b71 I4 H=>⟨H.pick [4] [0],(ro 1 rfl<|zB (Sv yx vS yw) isAgg24 rfl (H.cell 2 rfl rfl)<|⟨H.pick [4] [0],(ro 8 rfl<|zt H 3 rfl 0 rfl underlying24 ti2 rfl qj rfl rfl rfl qw qp qf fun ZX Y6 V2 H=>?_)⟩)⟩
   rw[snocI] at H
   dsimp only[List.set] at H
   refine⟨H.pick [4] [0],(tF 9 rfl rfl (H.pick [4] [0]) ?_)⟩
   refine ro 10 rfl<|xn H 2 [yI<|1+m5,Sv ZX (vS+1) Y6,yN] sizeOf24 fun w76 H=>?_
   dsimp only[List.set] at H
   refine⟨H.pick [4] [0],(xC qh ((meet ⟨_,afF,Mr,ad4,ZX,Y6,uE4,adS,aaw,N,H.vU 5 1 (zR 1 4) [0] qo qo⟩)))⟩
  clear H N
  rintro ρ w77 ⟨xN,Ho,Fv,aal,ZG,c29,rfl,akI,aju,N,H⟩
  refine b_n<|t_n<|xX<|sp (yI c)<|sw<|o_sub c 1 rfl rfl qf<|sq 1<|xZ<|xh (m':=(c-1).toNat) qf ⟨_,_,_,_,_,_,_,_,uE4,?_,?_,?_,rfl,N,H⟩
  ·omega
  ·simp;omega
  ·exact i3.snoc (by have:=i3.1;omega)
 refine zx4<|zcc<|sq 1 ?_
 have H1:=H.y9 4 1 [0,1,2,3] [0] qo qo
 have N1:Fresh _ (Ns):=N
 have K1:Kept (Ns) (Γ):=K0.behind 0 rfl
 refine sw<|ve #[pp bs 0,yI 6] rfl rfl call43 (Qp code bT bh bs ac cc Fc (6:Int) H1 N1 K1 qg) ?_
 clear H H1 N1 K1
 rintro _ TX ⟨Nh,amF,aaR,aoI,awo,rfl,N,H⟩
 refine sq 1<|zjn<|xf ?_
 replace H:=H.nilRow 70 9
 replace H:=H.vP (α:=yH)
 refine zD ((fun Z0 Z1 Z2=>fun m' ρ UV=>∃(xN:Env) (k:Int) (bC:Int) (bF:Int) (Vu:yOA) (QN:Nat) (Vs:Nat) (ah:List yH) (jE:List Value) (zG:yLN),ρ=upd (upd (upd (upd xN 0<|pp bs 0) 2<|pp b1 0) 3<|pp uG 0) 5 (yI k)/\(ip<=bC/\bC+300*k<=ip+1600)/\(0<=k/\(ah.length:Int)+k<=5)/\(yz (1+m5) bw ah)/\m'=k.toNat/\Fresh W0.heap.size (zG::Ns)/\St W0 UV ((rr Vu QN Vs 70 9 jE)::(.box bs [Sv ac code.length cc,yI bC,.int .u64 bF] 115)::(.box uG [yI<|1+m5,Sv yx vS yw,Sv Vu QN Vs] 27)::Z0::Z1::ps) ((xG true zG jE ah)::Z2::Γ)) _ _ _) (aaR.toNat) ⟨_,aaR,Nh,amF,none,0,0,([]:List yH),[],[],uE4,qf,qy,(by exact yz.nil _ _),rfl,N.emp,H⟩ ?_
 clear H N
 rintro m' ρ OM ⟨xN,k,bC,bF,Vu,QN,Vs,ah,jE,zG,rfl,j1,j2,j3,rfl,N,H⟩
 have Cb:=H.xQ (α:=yH) 0 rfl 0 rfl qj
 refine zcc<|sp (yI k)<|sp (Bv<|decide ((k:Int)>0))<|zjn<|cD rfl (fun y2=>?_)<|fun y2=>?_
 ·refine qZ (t_n<|xU<|xf<|VD (fun ρ Fg=>∃(xN:Env) (K9:Int) (H5:Int) (JN:Int) (Fx:yLI) (AM:yLI) (FK:yLI) (GG:yLI) (FP:yLI) (Gr:List Vw) (Fn:Bool) (NN:Int) (IS:yOA) (JK:Nat) (Ej:yOA) (DR:Nat) (D8:yOA) (DB:Nat) (DE:yOA) (Ec:Nat) (Ed:yOA) (Dc:Nat) (Ek:yOA) (Dl:Nat) (DC:yOA) (Em:Nat) (wO:yLN) (MO:yLN) (Mp:yLN) (B8:yLN) (LC:yLN) (sB:yLN),ρ=upd (upd (upd (upd xN 0<|pp bs 0) 2<|pp b1 0) 3<|pp uG 0) 5 (yI k)/\(bC<=K9/\K9<=bC+300)/\(RuleDr (1+m5) bw ⟨H5,JN,Fx,AM,FK,GG,FP,Gr,Fn⟩)/\Fresh W0.heap.size ((zG++(wO++MO++Mp++B8++LC++sB))::Ns)/\St W0 Fg ((.box bs [Sv ac code.length cc,yI K9,.int .u64 NN] 115)::(.box uG [yI<|1+m5,Sv yx vS yw,Sv IS (QN+1) JK] 27)::(rr yx vS yw 2 1<|bw.map<|Value.int .i64)::(rr IS (QN+1) JK 70 9<|jE++[yI H5,yI JN,Sv Ej Fx.length DR,Sv D8 AM.length DB,Sv DE FK.length Ec,Sv Ed GG.length Dc,Sv Ek FP.length Dl,Sv DC Gr.length Em,Bv Fn])::(.box b1 [yI 0,yN,yN] 27)::ps) ((xG true (zG++(wO++MO++Mp++B8++LC++sB)) (jE++[yI H5,yI JN,Sv Ej Fx.length DR,Sv D8 AM.length DB,Sv DE FK.length Ec,Sv Ed GG.length Dc,Sv Ek FP.length Dl,Sv DC Gr.length Em,Bv Fn])<|ah++[(⟨H5,JN,Fx,AM,FK,GG,FP,Gr,Fn⟩:yH)])::(sF true sB DC Em Gr)::(sF true LC Ek Dl FP)::(sF true B8 Ed Dc GG)::(sF true Mp DE Ec FK)::(sF true MO D8 DB AM)::(sF true wO Ej DR Fx)::(sF false Fc ac cc code)::Γ)) ?_ ?_)
  ·refine XT rfl H [3,4] [0,1] fun H=>?_
   have S:=H.jF [3,4] [0,1]
   refine tF 0 rfl rfl S ?_
   refine rtl 2 S ?_
   refine zY [1,3] qh qm<|vG rfl ?_<|vG rfl ?_ zZ
   ·refine zB (Sv Vu QN Vs) isAgg25 rfl (H.cell 2 rfl rfl) (⟨H.pick [3,4] [0,1],(ro 3 rfl ?_)⟩)
    have f0:yP (⟨1+m5,bw,ah⟩:qH):=frame_of i3 qf qf
    have H1:=H.y9 5 2 [1,2,3,0,4] [1,0] qo qo
    have N1:Fresh _ (zG::Ns):=N
    have K1:Kept (Ns) (Γ):=K0.behind 0 rfl
    refine ve #[pp bs 0,pp uG 0] rfl rfl call140 (dRule_ok code bC bF bs ac cc Fc (1+m5) bw ah uG yx vS yw Vu QN Vs jE zG H1 N1 K1 qg qg) ?_
    clear H H1 N1 K1
    rintro _ EM ⟨afV,aeZ,HU,IE,OJ,Ot,Oh,ud,Pc,NJ,IG,Nz,aqV,Nt,Rf,ard,Rb,PC,ath,N8,Pj,arE,Rh,P6,atw,P3,O8,asK,Om,arj,mp,aeL,adF,rfl,N,H⟩
    obtain rfl:=H.jy 4 rfl
    obtain rfl:=H.jy 5 rfl
    obtain rfl:=H.jy 6 rfl
    obtain rfl:=H.jy 7 rfl
    obtain rfl:=H.jy 8 rfl
    obtain rfl:=H.xQ (α:=Vw) 9 rfl 2 rfl qj
    refine⟨H.pick [2,10] [1,0],(ro 4 rfl<|zl H underlying25 ti70 [yI HU,yI IE,Sv Nz OJ.length Nt,Sv Rf Ot.length Rb,Sv PC Oh.length N8,Sv Pj ud.length Rh,Sv P6 Pc.length P3,Sv O8 NJ.length Om,Bv IG] fun Sm KY H=>⟨H.pick [3,11] [1,0],(ro 5 rfl ?_)⟩)⟩
    obtain⟨pf,N,atM,H⟩:=H.zQ 5 rfl N<|fun F hF b hb=>(List.mem_append.1<|show F∈[zG,mp]++Ns from hF).elim (fun h=>(H.vX (L:=[zG,mp]) [1,2]) F h b hb) fun h=>H.XI (K0.behind 3 rfl) F h b hb
    dsimp only[List.set] at H
    obtain⟨sQ,N,arD,H⟩:=H.zQ 6 rfl N<|fun F hF b hb=>(List.mem_append.1<|show F∈[pf,zG,mp]++Ns from hF).elim (fun h=>(H.vX (L:=[pf,zG,mp]) [0,2,3]) F h b hb) fun h=>H.XI (K0.behind 4 rfl) F h b hb
    dsimp only[List.set] at H
    obtain⟨uP,N,arl,H⟩:=H.zQ 7 rfl N<|fun F hF b hb=>(List.mem_append.1<|show F∈[sQ,pf,zG,mp]++Ns from hF).elim (fun h=>(H.vX (L:=[sQ,pf,zG,mp]) [0,1,3,4]) F h b hb) fun h=>H.XI (K0.behind 5 rfl) F h b hb
    dsimp only[List.set] at H
    obtain⟨BM,N,asx,H⟩:=H.zQ 8 rfl N<|fun F hF b hb=>(List.mem_append.1<|show F∈[uP,sQ,pf,zG,mp]++Ns from hF).elim (fun h=>(H.vX (L:=[uP,sQ,pf,zG,mp]) [0,1,2,4,5]) F h b hb) fun h=>H.XI (K0.behind 6 rfl) F h b hb
    dsimp only[List.set] at H
    obtain⟨IY,N,at0,H⟩:=H.zQ 9 rfl N<|fun F hF b hb=>(List.mem_append.1<|show F∈[BM,uP,sQ,pf,zG,mp]++Ns from hF).elim (fun h=>(H.vX (L:=[BM,uP,sQ,pf,zG,mp]) [0,1,2,3,5,6]) F h b hb) fun h=>H.XI (K0.behind 7 rfl) F h b hb
    dsimp only[List.set] at H
    have H0:=H
    obtain⟨Tz,Oa,at1,H⟩:=H.yC (α:=Vw) 10 rfl 7 rfl qj
    replace N:Fresh W0.heap.size (Tz::IY::BM::uP::sQ::pf::zG::Ns):=Fresh.ice (N.vU 7 (6::zR 0 6) qo) H0 10 Oa.1 Oa.2<|fun F hF b hb=>(List.mem_append.1<|show F∈[IY,BM,uP,sQ,pf,zG]++Ns from hF).elim (fun h=>(H0.vX (L:=[IY,BM,uP,sQ,pf,zG]) [0,1,2,3,4,6]) F h b hb) fun h=>H0.XI (K0.behind 8 rfl) F h b hb
    clear H0
    dsimp only[List.set] at H
    refine zt H 4 rfl 0 rfl underlying25 ti70 rfl qj rfl rfl rfl qw qp qf fun abc agX Ai H=>?_
    dsimp only[List.set] at H
    replace H:=H.snoc_RuleD 7 rfl HU IE 5 rfl 4 rfl 3 rfl 2 rfl 1 rfl 0 rfl IG
    replace N:Fresh W0.heap.size ((zG++(pf++sQ++uP++BM++IY++Tz))::Ns):=(N.vU 7 [5,4,3,2,1,0,6] qo).join.join.join.join.join.swap.join
    refine⟨H.pick [3,11] [8,7],(tF 6 rfl rfl (H.pick [3,11] [8,7]) ?_)⟩
    refine ro 7 rfl<|xn H 2 [yI<|1+m5,Sv yx vS yw,Sv abc (QN+1) agX] sizeOf25 fun Tq H=>?_
    dsimp only[List.set] at H
    refine⟨H.pick [3,11] [8,7],(xC qh ((meet ⟨_,afV,HU,IE,OJ,Ot,Oh,ud,Pc,NJ,IG,aeZ,abc,agX,Nz,Nt,Rf,Rb,PC,N8,Pj,Rh,P6,P3,O8,Om,pf,sQ,uP,BM,IY,Tz,uE4,aeL,adF,N,H.vU 12 10 [1,2,3,4,11] (zR 0 8) qo qo⟩)))⟩
   have f0:yP (⟨1+m5,bw,ah⟩:qH):=frame_of i3 qf qf
   have H1:=H.y9 5 2 [1,2,3,0,4] [1,0] qo qo
   have N1:Fresh _ (zG::Ns):=N
   have K1:Kept (Ns) (Γ):=K0.behind 0 rfl
   refine ve #[pp bs 0,pp uG 0] rfl rfl call140 (dRule_ok code bC bF bs ac cc Fc (1+m5) bw ah uG yx vS yw Vu QN Vs jE zG H1 N1 K1 qg qg) ?_
   clear H H1 N1 K1
   rintro _ adR ⟨Pw,ND,wg,vr,Dx,DO,DT,De,Es,D4,wE,nW,aen,nb,Eg,arL,DH,Ei,aqx,ED,Dy,asO,EF,Dd,ar0,Eo,nq,Zr,oj,aq7,dx,Og,Ra,rfl,N,H⟩
   obtain rfl:=H.jy 4 rfl
   obtain rfl:=H.jy 5 rfl
   obtain rfl:=H.jy 6 rfl
   obtain rfl:=H.jy 7 rfl
   obtain rfl:=H.jy 8 rfl
   obtain rfl:=H.xQ (α:=Vw) 9 rfl 2 rfl qj
   refine⟨H.pick [2,10] [1,0],(zY [1,4] qh qm<|vG rfl ?_<|vG rfl ?_ zZ)⟩
   ·refine zB (Sv Vu QN Vs) isAgg25 rfl (H.cell 1 rfl rfl) (⟨H.pick [2,10] [1,0],(ro 4 rfl<|zl H underlying25 ti70 [yI wg,yI vr,Sv nW Dx.length nb,Sv Eg DO.length DH,Sv Ei DT.length ED,Sv Dy De.length EF,Sv Dd Es.length Eo,Sv nq D4.length oj,Bv wE] fun MA GD H=>⟨H.pick [3,11] [1,0],(ro 5 rfl ?_)⟩)⟩)
    obtain⟨nJ,N,atQ,H⟩:=H.zQ 5 rfl N<|fun F hF b hb=>(List.mem_append.1<|show F∈[zG,dx]++Ns from hF).elim (fun h=>(H.vX (L:=[zG,dx]) [1,2]) F h b hb) fun h=>H.XI (K0.behind 3 rfl) F h b hb
    dsimp only[List.set] at H
    obtain⟨sA,N,aqZ,H⟩:=H.zQ 6 rfl N<|fun F hF b hb=>(List.mem_append.1<|show F∈[nJ,zG,dx]++Ns from hF).elim (fun h=>(H.vX (L:=[nJ,zG,dx]) [0,2,3]) F h b hb) fun h=>H.XI (K0.behind 4 rfl) F h b hb
    dsimp only[List.set] at H
    obtain⟨uO,N,as6,H⟩:=H.zQ 7 rfl N<|fun F hF b hb=>(List.mem_append.1<|show F∈[sA,nJ,zG,dx]++Ns from hF).elim (fun h=>(H.vX (L:=[sA,nJ,zG,dx]) [0,1,3,4]) F h b hb) fun h=>H.XI (K0.behind 5 rfl) F h b hb
    dsimp only[List.set] at H
    obtain⟨Ci,N,aqM,H⟩:=H.zQ 8 rfl N<|fun F hF b hb=>(List.mem_append.1<|show F∈[uO,sA,nJ,zG,dx]++Ns from hF).elim (fun h=>(H.vX (L:=[uO,sA,nJ,zG,dx]) [0,1,2,4,5]) F h b hb) fun h=>H.XI (K0.behind 6 rfl) F h b hb
    dsimp only[List.set] at H
    obtain⟨Hp,N,ari,H⟩:=H.zQ 9 rfl N<|fun F hF b hb=>(List.mem_append.1<|show F∈[Ci,uO,sA,nJ,zG,dx]++Ns from hF).elim (fun h=>(H.vX (L:=[Ci,uO,sA,nJ,zG,dx]) [0,1,2,3,5,6]) F h b hb) fun h=>H.XI (K0.behind 7 rfl) F h b hb
    dsimp only[List.set] at H
    have H0:=H
    obtain⟨Rn,Pa,asq,H⟩:=H.yC (α:=Vw) 10 rfl 7 rfl qj
    replace N:Fresh W0.heap.size (Rn::Hp::Ci::uO::sA::nJ::zG::Ns):=Fresh.ice (N.vU 7 (6::zR 0 6) qo) H0 10 Pa.1 Pa.2<|fun F hF b hb=>(List.mem_append.1<|show F∈[Hp,Ci,uO,sA,nJ,zG]++Ns from hF).elim (fun h=>(H0.vX (L:=[Hp,Ci,uO,sA,nJ,zG]) [0,1,2,3,4,6]) F h b hb) fun h=>H0.XI (K0.behind 8 rfl) F h b hb
    clear H0
    dsimp only[List.set] at H
    refine zt H 4 rfl 0 rfl underlying25 ti70 rfl qj rfl rfl rfl qw qp qf fun adB aes Mu H=>?_
    dsimp only[List.set] at H
    replace H:=H.snoc_RuleD 7 rfl wg vr 5 rfl 4 rfl 3 rfl 2 rfl 1 rfl 0 rfl wE
    replace N:Fresh W0.heap.size ((zG++(nJ++sA++uO++Ci++Hp++Rn))::Ns):=(N.vU 7 [5,4,3,2,1,0,6] qo).join.join.join.join.join.swap.join
    refine⟨H.pick [3,11] [8,7],(tF 6 rfl rfl (H.pick [3,11] [8,7]) ?_)⟩
    refine ro 7 rfl<|xn H 2 [yI<|1+m5,Sv yx vS yw,Sv adB (QN+1) aes] sizeOf25 fun IJ H=>?_
    dsimp only[List.set] at H
    refine⟨H.pick [3,11] [8,7],(xC qh ((meet ⟨_,Pw,wg,vr,Dx,DO,DT,De,Es,D4,wE,ND,adB,aes,nW,nb,Eg,DH,Ei,ED,Dy,EF,Dd,Eo,nq,oj,nJ,sA,uO,Ci,Hp,Rn,uE4,Og,Ra,N,H.vU 12 10 [1,2,3,4,11] (zR 0 8) qo qo⟩)))⟩
   refine zl H underlying25 ti70 [yI wg,yI vr,Sv nW Dx.length nb,Sv Eg DO.length DH,Sv Ei DT.length ED,Sv Dy De.length EF,Sv Dd Es.length Eo,Sv nq D4.length oj,Bv wE] fun aAE ajq H=>⟨H.pick [3,11] [1,0],(ro 1 rfl<|zB (Sv Vu QN Vs) isAgg25 rfl (H.cell 2 rfl rfl)<|⟨H.pick [3,11] [1,0],(ro 5 rfl ?_)⟩)⟩
   obtain⟨oH,N,aq3,H⟩:=H.zQ 5 rfl N<|fun F hF b hb=>(List.mem_append.1<|show F∈[zG,dx]++Ns from hF).elim (fun h=>(H.vX (L:=[zG,dx]) [1,2]) F h b hb) fun h=>H.XI (K0.behind 3 rfl) F h b hb
   dsimp only[List.set] at H
   obtain⟨sj,N,aqw,H⟩:=H.zQ 6 rfl N<|fun F hF b hb=>(List.mem_append.1<|show F∈[oH,zG,dx]++Ns from hF).elim (fun h=>(H.vX (L:=[oH,zG,dx]) [0,2,3]) F h b hb) fun h=>H.XI (K0.behind 4 rfl) F h b hb
   dsimp only[List.set] at H
   obtain⟨uL,N,ahO,H⟩:=H.zQ 7 rfl N<|fun F hF b hb=>(List.mem_append.1<|show F∈[sj,oH,zG,dx]++Ns from hF).elim (fun h=>(H.vX (L:=[sj,oH,zG,dx]) [0,1,3,4]) F h b hb) fun h=>H.XI (K0.behind 5 rfl) F h b hb
   dsimp only[List.set] at H
   obtain⟨CT,N,atd,H⟩:=H.zQ 8 rfl N<|fun F hF b hb=>(List.mem_append.1<|show F∈[uL,sj,oH,zG,dx]++Ns from hF).elim (fun h=>(H.vX (L:=[uL,sj,oH,zG,dx]) [0,1,2,4,5]) F h b hb) fun h=>H.XI (K0.behind 6 rfl) F h b hb
   dsimp only[List.set] at H
   obtain⟨IV,N,asf,H⟩:=H.zQ 9 rfl N<|fun F hF b hb=>(List.mem_append.1<|show F∈[CT,uL,sj,oH,zG,dx]++Ns from hF).elim (fun h=>(H.vX (L:=[CT,uL,sj,oH,zG,dx]) [0,1,2,3,5,6]) F h b hb) fun h=>H.XI (K0.behind 7 rfl) F h b hb
   dsimp only[List.set] at H
   have H0:=H
   obtain⟨Uf,OK,asn,H⟩:=H.yC (α:=Vw) 10 rfl 7 rfl qj
   replace N:Fresh W0.heap.size (Uf::IV::CT::uL::sj::oH::zG::Ns):=Fresh.ice (N.vU 7 (6::zR 0 6) qo) H0 10 OK.1 OK.2<|fun F hF b hb=>(List.mem_append.1<|show F∈[IV,CT,uL,sj,oH,zG]++Ns from hF).elim (fun h=>(H0.vX (L:=[IV,CT,uL,sj,oH,zG]) [0,1,2,3,4,6]) F h b hb) fun h=>H0.XI (K0.behind 8 rfl) F h b hb
   clear H0
   dsimp only[List.set] at H
   refine zt H 4 rfl 0 rfl underlying25 ti70 rfl qj rfl rfl rfl qw qp qf fun abG adw afK H=>?_
   dsimp only[List.set] at H
   replace H:=H.snoc_RuleD 7 rfl wg vr 5 rfl 4 rfl 3 rfl 2 rfl 1 rfl 0 rfl wE
   replace N:Fresh W0.heap.size ((zG++(oH++sj++uL++CT++IV++Uf))::Ns):=(N.vU 7 [5,4,3,2,1,0,6] qo).join.join.join.join.join.swap.join
   refine⟨H.pick [3,11] [8,7],(tF 6 rfl rfl (H.pick [3,11] [8,7]) ?_)⟩
   refine ro 7 rfl<|xn H 2 [yI<|1+m5,Sv yx vS yw,Sv abG (QN+1) adw] sizeOf25 fun Ue H=>?_
   dsimp only[List.set] at H
   refine⟨H.pick [3,11] [8,7],(xC qh ((meet ⟨_,Pw,wg,vr,Dx,DO,DT,De,Es,D4,wE,ND,abG,adw,nW,nb,Eg,DH,Ei,ED,Dy,EF,Dd,Eo,nq,oj,oH,sj,uL,CT,IV,Uf,uE4,Og,Ra,N,H.vU 12 10 [1,2,3,4,11] (zR 0 8) qo qo⟩)))⟩
  clear H N
  rintro ρ afX ⟨xN,K9,H5,JN,Fx,AM,FK,GG,FP,Gr,Fn,NN,IS,JK,Ej,DR,D8,DB,DE,Ec,Ed,Dc,Ek,Dl,DC,Em,wO,MO,Mp,B8,LC,sB,rfl,asI,aq8,N,H⟩
  refine b_n<|t_n<|xX<|sp (yI k)<|sw<|o_sub k 1 rfl rfl qf<|sq 1<|xZ<|xh (m':=(k-1).toNat) qf ⟨_,_,_,_,_,_,_,_,_,_,uE4,?_,?_,?_,rfl,N,H.vU 5 8 [3,0,1,2,4] [0,7] qo qo⟩
  ·omega
  ·simp;omega
  ·exact j3.snoc ql
 refine zx4<|zcr<|sw<|xy [yI<|1+m5,Sv yx vS yw,Sv Vu QN Vs] isAgg27 sizeOf27 rfl (qC (H.cells 2 rfl) 0 3)<|sw<|xx H 4 [yI<|1+m5,Sv yx vS yw,Sv Vu QN Vs] sizeOf27 fun ag3 H=>?_
 dsimp only[List.set] at H
 refine zjr<|retC H 4 rfl rfl isAgg27 sizeOf27 rfl ⟨_,rfl,(⟨bC,bF,1+m5,bw,ah,yx,vS,yw,Vu,QN,Vs,jE,zG,qf,(by exact sysDr_of i3 qf qf qf j3),rfl,N,H.vU 5 2 [1,3,0] [1,0] qo qo⟩)⟩
theorem dState_ok(code:List UInt8)(ip:Int)(sd:Int)(bs:Nat)(ac:yOA)(cc:Nat)(Fc:yLN)(kk:Int)(par:yLI)(rules:List yH)(bY:Nat)(gu:yOA)(ME:Nat)(gk:Nat)(gq:yOA)(Mx:Nat)(gw:Nat)(bH:List Value)(aG:yLN)(Sd:Bool)(most:Int)(H:St W0 w ((.box bs [Sv ac code.length cc,yI ip,.int .u64 sd] 115)::(.box bY [yI kk,Sv gu ME gk,Sv gq Mx gw] 27)::(rr gu ME gk 2 1<|par.map<|Value.int .i64)::(rr gq Mx gw 70 9 bH)::ps) ((sF false Fc ac cc code)::(xG Sd aG bH rules)::Γ))(N:Fresh W0.heap.size (Ns))(K0:Kept Ns Γ)(q0:0<=ip/\ip<=40000)(f0:yP (⟨kk,par,rules⟩:qH))(q2:1<=most/\most<=6):Calls Tryz.prog 88 #[pp bs 0,pp bY 0,yI most] w (fun e w'=>∃v,e=.returned v/\∃(kV:Int) (Aa:Int) (lk:List Bool) (rb:yLL) (gD:yLI) (NZ:yOA) (OF:Nat) (Ri:Nat) (Oj:yOA) (Nx:Nat) (Pu:Nat) (OO:List Value) (PV:yLN) (PP:yOA) (O9:Nat) (NK:Nat),(ip<=kV/\kV<=ip+200)/\(StDr kk par.length most lk rb gD)/\v=.agg #[Sv NZ OF Ri,Sv Oj Nx Pu,Sv PP O9 NK]/\Fresh W0.heap.size (PV::Ns)/\St W0 w' ((.box bs [Sv ac code.length cc,yI kV,.int .u64 Aa] 115)::(.box bY [yI kk,Sv gu ME gk,Sv gq Mx gw] 27)::(rr gu ME gk 2 1<|par.map<|Value.int .i64)::(rr gq Mx gw 70 9 bH)::(rr NZ OF Ri 4 1<|lk.map<|Value.bool)::(rr Oj Nx Pu 24 1 OO)::(rr PP O9 NK 2 1<|gD.map<|Value.int .i64)::ps) ((sF false Fc ac cc code)::(xG Sd aG bH rules)::(xG true PV OO rb)::Γ)):=by
 refine en func88 ntmps88 ?_
 obtain rfl:=H.jy 2 rfl
 obtain rfl:=H.xQ (α:=yH) 3 rfl 1 rfl qj
 have f1:1<=kk/\kk<=8:=f0.1
 have f2:1<=par.length/\par.length<=6:=f0.2.1
 refine zcr<|sw<|xg H ti31 [yN,yN,yN] fun b1 w2 H=>zjc<|sq 2<|oF rfl<|oL rfl (H.cell 2 rfl rfl)<|sw<|zq H underlying24 ti2 kk.toNat rfl rfl qf qf qf fun b3 w4 H=>sw<|vg [yN,yN,Sv (aa b3 0) kk.toNat kk.toNat] [(2,Sv (aa b3 0) kk.toNat kk.toNat)]<|sw<|xg H ti31 [yN,yN,yN] fun b5 w6 H=>(sw<|xx H 0 [yN,yN,Sv (aa b3 0) kk.toNat kk.toNat] sizeOf31 fun w7 H=>?_)
 dsimp only[List.set] at H
 refine zjcc<|sp (yI 0)<|zjn<|xf ?_
 replace H:=H.nilRowB 4
 replace H:=H.nilRow 24 1
 replace H:=H.vP (α:=yLI)
 refine zD ((fun Z0 Z1 Z2 Z3 Z4 Z5 Z6=>fun m' ρ w8=>∃(xN:Env) (c:Nat) (bT:Int) (bh:Int) (VU:yOA) (QO:Nat) (VQ:Nat) (nG:List Bool) (VG:yOA) (Xx:Nat) (VB:Nat) (g0:yLL) (dc:List Value) (yU:yLN),ρ=upd (upd (upd (upd (upd (upd xN 0<|pp bs 0) 1<|pp bY 0) 2<|yI most) 6<|pp b1 0) 7<|pp b5 0) 8 (yI c)/\((c:Int)<=par.length)/\(ip<=bT/\bT<=ip+22*c)/\(StTo kk most c nG g0)/\m'=(par.length-(c:Int)).toNat/\Fresh W0.heap.size (yU::Ns)/\St W0 w8 ((rr VG Xx VB 24 1 dc)::(rr VU QO VQ 4 1<|nG.map<|Value.bool)::(.box b5 [Sv VU QO VQ,Sv VG Xx VB,Sv (aa b3 0) kk.toNat kk.toNat] 31)::Z0::Z1::(.box bs [Sv ac code.length cc,yI bT,.int .u64 bh] 115)::Z2::Z3::Z4::ps) ((xG true yU dc g0)::Z5::Z6::Γ)) _ _ _ _ _ _ _) ((par.length-(0:Int)).toNat) ⟨_,0,ip,sd,none,0,0,[],none,0,0,([]:yLL),[],[],uE6,qf,qf,(by exact StTo.nil _ _),rfl,N.emp,H⟩ ?_
 clear H N
 rintro m' ρ w9 ⟨xN,c,bT,bh,VU,QO,VQ,nG,VG,Xx,VB,g0,dc,yU,rfl,i0,i1,i2,rfl,N,H⟩
 have SQ:=H.Xg 1 rfl
 have U1:=H.xQ (α:=yLI) 0 rfl 0 rfl qj
 have i3:=i2.la
 have i4:=i2.lb
 refine zcc<|sp (yI c)<|sq 2<|oF rfl<|oL rfl (H.cell 6 rfl rfl)<|oN rfl<|sq 1<|zjn<|cD rfl (fun bx=>?_)<|fun bx=>?_
 ·refine qZ (t_n<|xU<|xf<|zcr<|sp (yI c)<|sp (Bv ((c:Int) == 0))<|sp (Bv ((c:Int) == 0)) ?_)
  cases aV:((c:Int) == 0)
  ·replace aV:=ne_of_beq_false aV
   refine qP 28 rfl rfl<|sq 1<|qP 28 rfl rfl ?_
   have H1:=H.y9 9 3 [5,0,1,2,3,4,6,7,8] [1,0,2] qo qo
   have N1:Fresh _ (yU::Ns):=N
   have K1:Kept (Ns) ((xG true yU dc g0)::(xG Sd aG bH rules)::Γ):=K0.behind 2 rfl
   replace K1:=K1.cons (F:=yU) 0 rfl rfl
   refine sw<|ve #[pp bs 0,yI 8] rfl rfl call41 (dOne_ok code bT bh bs ac cc Fc (8:Int) H1 N1 K1 qg) ?_
   clear H H1 N1 K1
   rintro _ we ⟨sR,iw,Ax,axA,rfl,N,H⟩
   refine qP 28 rfl rfl<|sp (Bv !Ax)<|sp (Bv !Ax)<|sp (Bv !Ax)<|zjc<|sq 2<|oF rfl<|oL rfl (H.cell 6 rfl rfl)<|sw<|zq H underlying24 ti2 kk.toNat rfl rfl qf qf qf fun Gn y6 H=>sq 1<|zjcc<|sp (Bv !Ax)<|zjn<|zX _ rfl (fun wx=>?_)<|fun wx=>?_
   ·replace wx:=x8 wx
    refine xX<|sq 3<|oF rfl<|oL rfl (H.cell 7 rfl rfl)<|sq 1 ?_
    have H1:=H.y9 10 3 [1,0,2,3,4,5,6,7,8,9] [0,1,2] qo qo
    have N1:Fresh _ (yU::Ns):=N
    have K1:Kept (Ns) ((xG true yU dc g0)::(xG Sd aG bH rules)::Γ):=K0.behind 2 rfl
    replace K1:=K1.cons (F:=yU) 0 rfl rfl
    refine sw<|ve #[pp bs 0,yI kk,yI most] rfl rfl call141 (dFew_ok code sR iw bs ac cc Fc kk most H1 N1 K1 qg qg qg) ?_
    clear H H1 N1 K1
    rintro _ G4 ⟨Ho,Fv,iG,Nf,aaP,Na,apu,aoR,rfl,N,H⟩
    obtain rfl:=H.jy 1 rfl
    refine sq 1<|zjc<|oF rfl<|oL rfl (H.cell 5 rfl rfl)<|sp (Bv !Ax)<|sw<|zl H underlying28 ti4 [Bv !Ax] fun BD G6 H=>sw<|zt H 5 rfl 0 rfl underlying28 ti4 rfl qj rfl rfl rfl qw qp qf fun a33 c34 Ao H=>?_
    rw[snocB] at H
    dsimp only[List.set] at H
    refine oF rfl<|sw<|xn H 6 [Sv a33 (QO+1) c34,Sv VG Xx VB,Sv (aa b3 0) kk.toNat kk.toNat] sizeOf28 fun Gy H=>?_
    dsimp only[List.set] at H
    refine zjn<|xX<|oF rfl<|oL rfl (H.cell 6 rfl rfl)<|sq 1<|sw<|zl H underlying29 ti24 [Sv Nf iG.length Na] fun GQ Jz H=>?_
    obtain⟨G42,N,aAX,H⟩:=H.zQ 3 rfl N<|fun F hF b hb=>(List.mem_append.1<|show F∈[yU]++Ns from hF).elim (fun h=>(H.vX (L:=[yU]) [1]) F h b hb) fun h=>H.XI (K0.behind 3 rfl) F h b hb
    dsimp only[List.set] at H
    refine sw<|zt H 5 rfl 0 rfl underlying29 ti24 rfl qj rfl rfl rfl qw qp qf fun a39 c40 SB H=>?_
    dsimp only[List.set] at H
    replace H:=H.yh 2 rfl 0 rfl
    replace N:Fresh W0.heap.size ((yU++G42)::Ns):=(N.vU 2 [1,0] qo).join
    refine oF rfl<|sw<|xn H 7 [Sv a33 (QO+1) c34,Sv a39 (Xx+1) c40,Sv (aa b3 0) kk.toNat kk.toNat] sizeOf29 fun JC H=>?_
    dsimp only[List.set] at H
    refine xZ<|b_n<|t_n<|xX<|sp (yI c)<|sw<|zC c 1 rfl rfl qf<|sq 1<|xZ<|xh (m':=(par.length-((c+1):Int)).toNat) qf ⟨_,c+1,_,_,_,_,_,_,_,_,_,_,_,_,uE6,?_,?_,?_,rfl,N,H.vU 13 5 [5,6,7,8,9,2,10,11,12] [0,2,4] qo qo⟩
    ·omega
    ·omega
    ·exact i2.snoc (fun h=>by omega) ql<|fun h=>by simp_all
   replace wx:=xO wx
   refine qZ<|t_n<|zcr<|oF rfl<|oL rfl (H.cell 4 rfl rfl)<|sp (Bv !Ax)<|sw<|zl H underlying28 ti4 [Bv !Ax] fun KC Dz H=>sw<|zt H 4 rfl 0 rfl underlying28 ti4 rfl qj rfl rfl rfl qw qp qf fun a47 W5 OV H=>?_
   rw[snocB] at H
   dsimp only[List.set] at H
   refine oF rfl<|sw<|xn H 5 [Sv a47 (QO+1) W5,Sv VG Xx VB,Sv (aa b3 0) kk.toNat kk.toNat] sizeOf28 fun Pt H=>?_
   dsimp only[List.set] at H
   refine zjn<|xX<|oF rfl<|oL rfl (H.cell 5 rfl rfl)<|sq 1<|sw<|zl H underlying29 ti24 [Sv (aa Gn 0) kk.toNat kk.toNat] fun KA w52 H=>?_
   obtain⟨G56,N,agh,H⟩:=H.zQ 2 rfl N<|fun F hF b hb=>(List.mem_append.1<|show F∈[yU]++Ns from hF).elim (fun h=>(H.vX (L:=[yU]) [1]) F h b hb) fun h=>H.XI (K0.behind 3 rfl) F h b hb
   dsimp only[List.set] at H
   refine sw<|zt H 4 rfl 0 rfl underlying29 ti24 rfl qj rfl rfl rfl qw qp qf fun a53 c54 UR H=>?_
   dsimp only[List.set] at H
   replace H:=H.yh 2 rfl 0 rfl
   replace N:Fresh W0.heap.size ((yU++G56)::Ns):=(N.vU 2 [1,0] qo).join
   refine oF rfl<|sw<|xn H 6 [Sv a47 (QO+1) W5,Sv a53 (Xx+1) c54,Sv (aa b3 0) kk.toNat kk.toNat] sizeOf29 fun Ny H=>?_
   dsimp only[List.set] at H
   refine xZ<|b_n<|t_n<|xX<|sp (yI c)<|sw<|zC c 1 rfl rfl qf<|sq 1<|xZ<|xh (m':=(par.length-((c+1):Int)).toNat) qf ⟨_,c+1,_,_,_,_,_,_,_,_,_,_,_,_,uE6,?_,?_,?_,rfl,N,H.vU 12 5 [4,5,6,7,8,3,9,10,11] [0,2,4] qo qo⟩
   ·omega
   ·omega
   ·exact i2.snoc (fun h=>by omega) (vZ.zero qf qf)<|fun _=>sum_zeros _
  replace aV:=eq_of_beq aV
  refine xY [29,30,31]<|sp (Bv true)<|sp (Bv true)<|zjc<|sq 2<|oF rfl<|oL rfl (H.cell 6 rfl rfl)<|sw<|zq H underlying24 ti2 kk.toNat rfl rfl qf qf qf fun b59 Sj H=>sq 1<|zjcc<|sp (Bv true)<|zjn<|cTr rfl<|xX<|sq 3<|oF rfl<|oL rfl (H.cell 7 rfl rfl)<|sq 1 ?_
  have H1:=H.y9 10 3 [6,0,1,2,3,4,5,7,8,9] [1,0,2] qo qo
  have N1:Fresh _ (yU::Ns):=N
  have K1:Kept (Ns) ((xG true yU dc g0)::(xG Sd aG bH rules)::Γ):=K0.behind 2 rfl
  replace K1:=K1.cons (F:=yU) 0 rfl rfl
  refine sw<|ve #[pp bs 0,yI kk,yI most] rfl rfl call141 (dFew_ok code bT bh bs ac cc Fc kk most H1 N1 K1 qg qg qg) ?_
  clear H H1 N1 K1
  rintro _ Sq ⟨Yr,Cg,aoa,akK,awr,aj5,adC,agk,rfl,N,H⟩
  obtain rfl:=H.jy 1 rfl
  refine sq 1<|zjc<|oF rfl<|oL rfl (H.cell 5 rfl rfl)<|sp (Bv true)<|sw<|zl H underlying28 ti4 [Bv true] fun b71 I4 H=>sw<|zt H 5 rfl 0 rfl underlying28 ti4 rfl qj rfl rfl rfl qw qp qf fun ZX Y6 V2 H=>?_
  rw[snocB] at H
  dsimp only[List.set] at H
  refine oF rfl<|sw<|xn H 6 [Sv ZX (QO+1) Y6,Sv VG Xx VB,Sv (aa b3 0) kk.toNat kk.toNat] sizeOf28 fun w76 H=>?_
  dsimp only[List.set] at H
  refine zjn<|xX<|oF rfl<|oL rfl (H.cell 6 rfl rfl)<|sq 1<|sw<|zl H underlying29 ti24 [Sv akK aoa.length aj5] fun Bt RH H=>?_
  obtain⟨G82,N,ann,H⟩:=H.zQ 3 rfl N<|fun F hF b hb=>(List.mem_append.1<|show F∈[yU]++Ns from hF).elim (fun h=>(H.vX (L:=[yU]) [1]) F h b hb) fun h=>H.XI (K0.behind 3 rfl) F h b hb
  dsimp only[List.set] at H
  refine sw<|zt H 5 rfl 0 rfl underlying29 ti24 rfl qj rfl rfl rfl qw qp qf fun a79 c80 w81 H=>?_
  dsimp only[List.set] at H
  replace H:=H.yh 2 rfl 0 rfl
  replace N:Fresh W0.heap.size ((yU++G82)::Ns):=(N.vU 2 [1,0] qo).join
  refine oF rfl<|sw<|xn H 7 [Sv ZX (QO+1) Y6,Sv a79 (Xx+1) c80,Sv (aa b3 0) kk.toNat kk.toNat] sizeOf29 fun KD H=>?_
  dsimp only[List.set] at H
  refine xZ<|b_n<|t_n<|xX<|sp (yI c)<|sw<|zC c 1 rfl rfl qf<|sq 1<|xZ<|xh (m':=(par.length-((c+1):Int)).toNat) qf ⟨_,c+1,_,_,_,_,_,_,_,_,_,_,_,_,uE6,?_,?_,?_,rfl,N,H.vU 13 5 [5,6,7,8,9,2,10,11,12] [0,2,4] qo qo⟩
  ·omega
  ·omega
  ·exact i2.snoc (fun _=>rfl) ql<|fun h=>by cases h
 refine zx4<|zcc<|sq 1 ?_
 have H1:=H.y9 9 3 [5,0,1,2,3,4,6,7,8] [1,0,2] qo qo
 have N1:Fresh _ (yU::Ns):=N
 have K1:Kept (Ns) ((xG true yU dc g0)::(xG Sd aG bH rules)::Γ):=K0.behind 2 rfl
 replace K1:=K1.cons (F:=yU) 0 rfl rfl
 refine sw<|ve #[pp bs 0,yI 3] rfl rfl call41 (dOne_ok code bT bh bs ac cc Fc (3:Int) H1 N1 K1 qg) ?_
 clear H H1 N1 K1
 rintro _ w85 ⟨Cc,aat,au7,auA,rfl,N,H⟩
 refine zjn<|zX _ rfl (fun UX=>?_)<|fun UX=>?_
 ·refine xX (sq 3<|oF rfl<|oL rfl (H.cell 6 rfl rfl) ?_)
  have H1:=H.y9 9 3 [0,1,2,3,4,5,6,7,8] [0,1,2] qo qo
  have N1:Fresh _ (yU::Ns):=N
  have K1:Kept (Ns) ((xG true yU dc g0)::(xG Sd aG bH rules)::Γ):=K0.behind 2 rfl
  replace K1:=K1.cons (F:=yU) 0 rfl rfl
  refine sw<|ve #[pp bs 0,yI kk,yI 2] rfl rfl call141 (dFew_ok code Cc aat bs ac cc Fc kk (2:Int) H1 N1 K1 qg qg qg) ?_
  clear H H1 N1 K1
  rintro _ w92 ⟨akA,Um,IW,Mh,Zo,DY,UE,Un,rfl,N,H⟩
  obtain rfl:=H.jy 1 rfl
  refine oF rfl<|sw<|xn H 4 [Sv VU QO VQ,Sv VG Xx VB,Sv Mh IW.length DY] sizeOf24 fun xc H=>?_
  dsimp only[List.set] at H
  refine zjc<|sw<|xy [Sv VU QO VQ,Sv VG Xx VB,Sv Mh IW.length DY] isAgg31 sizeOf31 rfl (qC (H.cells 4 rfl) 0 3)<|sw<|xx H 6 [Sv VU QO VQ,Sv VG Xx VB,Sv Mh IW.length DY] sizeOf31 fun Iz H=>?_
  dsimp only[List.set] at H
  refine zjr<|retC H 6 rfl rfl isAgg31 sizeOf31 rfl ⟨_,rfl,?_⟩
  obtain rfl:c=par.length:=by omega
  exact⟨akA,Um,nG,g0,IW,VU,QO,VQ,VG,Xx,VB,dc,yU,Mh,IW.length,DY,qf,(by exact⟨i2.la,i2.lb,i2.skin qf,by assumption,i2.bags⟩),rfl,N,H.vU 10 3 [0,7,8,9,3,2,1] [0,2,1] qo qo⟩
 refine qZ<|t_n<|zcr<|sw<|xy [Sv VU QO VQ,Sv VG Xx VB,Sv (aa b3 0) kk.toNat kk.toNat] isAgg31 sizeOf31 rfl (qC (H.cells 3 rfl) 0 3)<|sw<|xx H 5 [Sv VU QO VQ,Sv VG Xx VB,Sv (aa b3 0) kk.toNat kk.toNat] sizeOf31 fun zv H=>?_
 dsimp only[List.set] at H
 refine zjr<|retC H 5 rfl rfl isAgg31 sizeOf31 rfl ⟨_,rfl,?_⟩
 obtain rfl:c=par.length:=by omega
 exact⟨Cc,aat,nG,g0,(List.replicate kk.toNat (0:Int)),VU,QO,VQ,VG,Xx,VB,dc,yU,(aa b3 0),kk.toNat,kk.toNat,qf,(by exact⟨i2.la,i2.lb,i2.skin qf,vZ.zero qf qf,i2.bags⟩),rfl,N,H.vU 9 3 [0,6,7,8,2,1,4] [0,2,1] qo qo⟩
end
section
theorem St.rowel_RuleD(H:St W0 w ps Γ)(k:Nat)(hp:ps[k]? =some (.row (Sv (some ⟨b,0,none⟩) nn c) e 9 nn xs))(j:Nat)
 (hf:Γ[j]? =some (xG fr F xs l)) {iv:Int} (i:Nat) (h:iv.toNat=i) (h1:i<nn):
 ∃(aN:yOA) (cN:Nat) (FN:yLN) (aH:yOA) (cH:Nat) (FH:yLN) (aL:yOA) (cL:Nat) (FL:yLN) (aE:yOA) (cE:Nat) (FE:yLN) (aO:yOA) (cO:Nat) (FO:yLN) (aI:yOA) (cI:Nat) (FI:yLN),
  (∀(q:Nat) (v:Value),([.int .i64 (l[i]!).qY,.int .i64 (l[i]!).yK,Sv aN ((l[i]!).zJ.length) cN,Sv aH ((l[i]!).jB.length) cH,Sv aL ((l[i]!).jD.length) cL,Sv aE ((l[i]!).jJ.length) cE,Sv aO ((l[i]!).Qq.length) cO,Sv aI ((l[i]!).xF.length) cI,Bv (l[i]!).jY]:List Value)[q]? =some v->xs[0+iv.toNat*9+q]? =some v)∧
  St W0 w ps (isF fr FN (Sv aN ((l[i]!).zJ.length) cN) ((l[i]!).zJ)::isF fr FH (Sv aH ((l[i]!).jB.length) cH) ((l[i]!).jB)::isF fr FL (Sv aL ((l[i]!).jD.length) cL) ((l[i]!).jD) ::
   isF fr FE (Sv aE ((l[i]!).jJ.length) cE) ((l[i]!).jJ)::isF fr FO (Sv aO ((l[i]!).Qq.length) cO) ((l[i]!).Qq)::isF fr FI (Sv aI ((l[i]!).xF.length) cI) ((l[i]!).xF)::Γ):=by
 obtain⟨cs,G,hc,hr,aJ,dq,v1,v2,hv,uD⟩:=St.rowElem (α:=yH) H k hp j hf qj h h1
 obtain⟨vN,vH,vL,vE,vO,vI,FN,FH,FL,FE,FO,FI,rfl,eV,hN,hH,hL,hE,hO,hI⟩:=id hr
 obtain⟨aN,cN,rfl⟩:=slice_form hN
 obtain⟨aH,cH,rfl⟩:=slice_form hH
 obtain⟨aL,cL,rfl⟩:=slice_form hL
 obtain⟨aE,cE,rfl⟩:=slice_form hE
 obtain⟨aO,cO,rfl⟩:=slice_form hO
 obtain⟨aI,cI,rfl⟩:=slice_form hI
 refine⟨aN,cN,FN,aH,cH,FH,aL,cL,FL,aE,cE,FE,aO,cO,FO,aI,cI,FI,fun q v hq=>?_,?_⟩
 ·have uD:v1.length=i*9:=uD
  have Bp:q<9:=by
   rcases Nat.lt_or_ge q 9 with h|h
   ·exact h
   ·rw[List.getElem?_eq_none<|by simpa using h] at hq;cases hq
  rw[hv,List.append_assoc,Nat.zero_add,h,←uD,List.getElem?_append_right qf,Nat.add_sub_cancel_left,List.getElem?_append_left<|by simpa using Bp]
  exact hq
 ·have hs:∀ {x:Nat} {X:yLN},x∈X->(∀y∈X,y∈G)->x∈G:=fun h h'=>h' _ h
  have s6:=H.jO j hf (isF fr FI (Sv aI ((l[i]!).xF.length) cI) ((l[i]!).xF)) ⟨hI,fun e=>(dq e).sub<|by rw[eV];intro x hx;simp[hx]⟩<|fun x hx=>aJ x (by rw[eV];have hx:x∈FI:=hx;simp[hx])
  have s5:=s6.jO (j+1) hf (isF fr FO (Sv aO ((l[i]!).Qq.length) cO) ((l[i]!).Qq)) ⟨hO,fun e=>(dq e).sub<|by rw[eV];intro x hx;simp[hx]⟩<|fun x hx=>aJ x (by rw[eV];have hx:x∈FO:=hx;simp[hx])
  have s4:=s5.jO (j+2) hf (isF fr FE (Sv aE ((l[i]!).jJ.length) cE) ((l[i]!).jJ)) ⟨hE,fun e=>(dq e).sub<|by rw[eV];intro x hx;simp[hx]⟩<|fun x hx=>aJ x (by rw[eV];have hx:x∈FE:=hx;simp[hx])
  have s3:=s4.jO (j+3) hf (isF fr FL (Sv aL ((l[i]!).jD.length) cL) ((l[i]!).jD)) ⟨hL,fun e=>(dq e).sub<|by rw[eV];intro x hx;simp[hx]⟩<|fun x hx=>aJ x (by rw[eV];have hx:x∈FL:=hx;simp[hx])
  have s2:=s3.jO (j+4) hf (isF fr FH (Sv aH ((l[i]!).jB.length) cH) ((l[i]!).jB)) ⟨hH,fun e=>(dq e).sub<|by rw[eV];intro x hx;simp[hx]⟩<|fun x hx=>aJ x (by rw[eV];have hx:x∈FH:=hx;simp[hx])
  exact s2.jO (j+5) hf (isF fr FN (Sv aN ((l[i]!).zJ.length) cN) ((l[i]!).zJ)) ⟨hN,fun e=>(dq e).sub<|by rw[eV];intro x hx;simp[hx]⟩<|fun x hx=>aJ x (by rw[eV];have hx:x∈FN:=hx;simp[hx])
theorem part_lt(h:xs[q]? =some v):q<xs.length:=(List.getElem?_eq_some_iff.1 h).1
theorem part_get{cells:List Value}{B:Nat}(hx:∀(q:Nat) (v:Value),cells[q]? =some v->xs[B+q]? =some v)(j:Nat)(u:Value)(hj:j<cells.length):
 ∀(q:Nat) (v:Value),(cells.set j u)[q]? =some v->(xs.set (B+j) u)[B+q]? =some v:=fun q v h=>by
 have hl:=part_lt<|hx j _<|List.getElem?_eq_getElem hj
 by_cases e:q=j
 ·subst e
  rw[List.getElem?_set_self hj] at h
  rw[List.getElem?_set_self hl]
  exact h
 ·rw[List.getElem?_set_ne<|fun h=>e h.symm] at h
  rw[List.getElem?_set_ne qf]
  exact hx q v h
section
variable{P : Program}{kE : Array Oper}{Q : Exit -> Act -> World -> Prop}{n : Nat}{ρ : Env}{W0 w : World}{ai : List Oper}{ps : List Prv}{Γ : List Fact}
 {d:Nat} {ty:TypeId} {pos:String} {af:Array Edge} {K:Env->World->Prop}
theorem o_storePart{t:TypeId}{x y:Operand}{aF:Nat}{sz:Nat}(H:St W0 w ps Γ)(k:Nat)(hp:ps[k]? =some (.row (Sv (some ⟨b,0,none⟩) nn c) e sz nn xs))(v:Value)
 (hs:∀w,(Go.sizeOf t).run P w=.ok 1 w) (hx:ev n ρ x=.pointer (some ⟨b,aF,none⟩)) (hy:ev n ρ y=v) (h1:v.oneCell'=true) (h2:aF<xs.length)
 (kk:∀w',St W0 w' (ps.set k<|.row (Sv (some ⟨b,0,none⟩) nn c) e sz nn<|xs.set aF v) Γ->K ρ w'):
 OW P Q ⟨none,.store t x y,ty,pos,af,none⟩ n ρ w K:=by
 have hc:v.cells=#[v]:=by cases v <;> first|rfl|(simp[Value.oneCell'] at h1)
 refine o_storeRow H k hp v (by simpa [hc] using hs) hx hy (by simp[hc,h1]) (by simp[hc];omega) ?_
 simp only[hc,List.size_toArray,List.length_cons,List.length_nil,Nat.zero_add]
 rw[show xs.take aF++[v]++xs.drop (aF+1)=xs.set aF v by rw[List.set_eq_take_append_cons_drop,if_pos qf];simp]
 exact kk
end
theorem reps_part{α:Type}[qX α][Inhabited α]{l:List α}{f:α}(i q:Nat)(hi:i<l.length)(hq:q<qX.size α)
 (hr:∀Fk ck,qX.rep w Fk ck (l[i]!)->∃F',qX.rep w F' (ck.set q v) f/\∀b∈F',b∈Fk\/b∈G) (h:reps w F X l):
 ∃F',reps w F' (X.set (i*qX.size α+q) v) (l.set i f)/\∀b∈F',b∈F\/b∈G:=by
 obtain⟨F1,Fk,F2,v1,cs,v2,hF,hv,Me,hlc,h1,h2,h3⟩:=reps_get h i hi
 obtain⟨F',IC,hs⟩:=hr Fk cs<|by rw[getElem!_pos l i hi];exact h1
 refine⟨F1++F' ++F2,?_,fun b hb=>?_⟩
 ·rw[hv,←Me,List.append_assoc v1,List.set_append_right _ _ qf,Nat.add_sub_cancel_left,List.set_append_left _ _ qf,List.set_eq_take_append_cons_drop (l:=l),if_pos hi,←List.append_assoc]
  have:=Qw (Qw h2<|reps_one IC) h3
  simpa using this
 ·simp only[List.mem_append] at hb
  rw[hF]
  rcases hb with (hb|hb)|hb
  ·exact .inl<|by simp[hb]
  ·rcases hs b hb with h|h
   ·exact .inl<|by simp[h]
   ·exact .inr h
  ·exact .inl<|by simp[hb]
section
variable{W0 w : World}{ps : List Prv}{Γ : List Fact}
theorem St.part{β:Type}[qX β](H:St W0 w ps Γ)(j:Nat)(hf:Γ[j]? =some (xG fr F X l))(m:Nat){z:β}(hg:Γ[m]? =some (isF Jq G v z))
 {iv:Int} (i:Nat) (hi:iv.toNat=i) (h1:i<l.length) (q:Nat) (hq:q<9) (f:yH) (hr:∀Fk ck,qX.rep w Fk ck (l[i]!)->∃F',qX.rep w F' (ck.set q v) f/\∀b∈F',b∈Fk\/b∈G):
 ∃F',St W0 w ps (xG false F' (X.set (0+iv.toNat*9+q) v) (l.set i f)::Γ):=by
 subst hi
 obtain⟨F',h2,h3⟩:=reps_part (α:=yH) iv.toNat q h1 hq hr (H.get j hf).1
 refine⟨F',H.add _ ⟨by rw[Nat.zero_add];exact h2,by simp⟩ fun b hb=>?_⟩
 rcases h3 b hb with h|h
 ·exact(H.facts _<|List.mem_of_getElem? hf).2 b h
 ·exact(H.facts _<|List.mem_of_getElem? hg).2 b h
theorem St.part_5(H:St W0 w ps Γ)(j:Nat)(hf:Γ[j]? =some (xG fr F X l))(m:Nat)(hg:Γ[m]? =some (isF Jq G v z))(i:Nat)(hi:iv.toNat=i)(h1:i<l.length):
 ∃F',St W0 w ps (xG false F' (X.set (0+iv.toNat*9+5) v) (l.set i { l[i]! with jJ:=z })::Γ):=by
 refine H.part j hf m hg i hi h1 5 qj _ fun Fk ck hk=>?_
 obtain⟨v1,v2,v3,v4,v5,v6,F1,F2,F3,F4,F5,F6,rfl,rfl,k1,k2,k3,k4,k5,k6⟩:=hk
 refine⟨_,⟨v1,v2,v3,v,v5,v6,F1,F2,F3,G,F5,F6,rfl,rfl,k1,k2,k3,(H.get m hg).1,k5,k6⟩,fun b hb=>?_⟩
 simp only[List.mem_append] at hb
 rcases hb with ((((hb|hb)|hb)|hb)|hb)|hb <;> simp[hb]
theorem St.part_6(H:St W0 w ps Γ)(j:Nat)(hf:Γ[j]? =some (xG fr F X l))(m:Nat)(hg:Γ[m]? =some (isF Jq G v z))(i:Nat)(hi:iv.toNat=i)(h1:i<l.length):
 ∃F',St W0 w ps (xG false F' (X.set (0+iv.toNat*9+6) v) (l.set i { l[i]! with Qq:=z })::Γ):=by
 refine H.part j hf m hg i hi h1 6 qj _ fun Fk ck hk=>?_
 obtain⟨v1,v2,v3,v4,v5,v6,F1,F2,F3,F4,F5,F6,rfl,rfl,k1,k2,k3,k4,k5,k6⟩:=hk
 refine⟨_,⟨v1,v2,v3,v4,v,v6,F1,F2,F3,F4,G,F6,rfl,rfl,k1,k2,k3,k4,(H.get m hg).1,k6⟩,fun b hb=>?_⟩
 simp only[List.mem_append] at hb
 rcases hb with ((((hb|hb)|hb)|hb)|hb)|hb <;> simp[hb]
theorem St.part_7(H:St W0 w ps Γ)(j:Nat)(hf:Γ[j]? =some (xG fr F X l))(m:Nat){z:List Vw}(hg:Γ[m]? =some (isF Jq G v z))(i:Nat)(hi:iv.toNat=i)(h1:i<l.length):
 ∃F',St W0 w ps (xG false F' (X.set (0+iv.toNat*9+7) v) (l.set i { l[i]! with xF:=z })::Γ):=by
 refine H.part j hf m hg i hi h1 7 qj _ fun Fk ck hk=>?_
 obtain⟨v1,v2,v3,v4,v5,v6,F1,F2,F3,F4,F5,F6,rfl,rfl,k1,k2,k3,k4,k5,k6⟩:=hk
 refine⟨_,⟨v1,v2,v3,v4,v5,v,F1,F2,F3,F4,F5,G,rfl,rfl,k1,k2,k3,k4,k5,(H.get m hg).1⟩,fun b hb=>?_⟩
 simp only[List.mem_append] at hb
 rcases hb with ((((hb|hb)|hb)|hb)|hb)|hb <;> simp[hb]
end
theorem yz.here{par:yLI}{b:yLI}(h:yz kk par l)(hi:i<l.length)(hb:vZ kk 2 b):yz kk par (l.set i { l[i]! with jJ:=b }):=
 h.set (let r:=h i hi;⟨r.cell,r.rank,r.melts,r.need,r.hav,r.lack,hb,r.out,r.many,r.into⟩)
theorem yz.out{par:yLI}{b:yLI}(h:yz kk par l)(hi:i<l.length)(hb:vZ kk 2 b):yz kk par (l.set i { l[i]! with Qq:=b }):=
 h.set (let r:=h i hi;⟨r.cell,r.rank,r.melts,r.need,r.hav,r.lack,r.here,hb,r.many,r.into⟩)
theorem yz.into{par:yLI}(h:yz kk par l)(hi:i<l.length):yz kk par (l.set i { l[i]! with xF:=[]}):=
 h.set (let r:=h i hi;⟨r.cell,r.rank,r.melts,r.need,r.hav,r.lack,r.here,r.out,by simp,IntoDr.nil _ _ _ _⟩)
theorem yz.still{par:yLI}(h:yz kk par l)(hi:i<l.length):yz kk par (l.set i { l[i]! with jY:=false }):=
 h.set (let r:=h i hi;⟨r.cell,r.rank,(fun e=>Bool.noConfusion e.1),r.need,r.hav,r.lack,r.here,r.out,r.many,r.into⟩)
theorem SysDr.with{par:yLI}{rules BQ :List yH}(h:SysDr kk par rules)(h1:BQ.length<=5)(h2:yz kk par BQ):SysDr kk par BQ :=⟨h.kinds,h.cells,h.skin,h.up,h1,h2⟩
def HereTo(kk:Int)(k:Nat)(l:yLI):Prop:=vZ kk 2 l/\∀j,j<l.length->k<=j+1->l[j]! =0
theorem HereTo.zero{kk:Int}(h0:0<=kk):HereTo kk 1 (List.replicate kk.toNat 0):=⟨vZ.zero h0 qf,fun j hj _=>by rw[getElem!_pos (List.replicate kk.toNat (0:Int)) j hj,List.getElem_replicate]⟩
theorem HereTo.go{l:yLI}(h:HereTo kk k l):HereTo kk (k+1) l:=⟨h.1,fun j hj hk=>h.2 j hj qf⟩
theorem HereTo.put{kk:Int}{k i:Nat}{l:yLI}{v:Int}(h:HereTo kk k l)(hi:i<l.length)(hk:i+1=k)(hv:0<=v/\v<=2):HereTo kk (k+1) (l.set i<|l[i]! +v):=by
 have h0:=h.2 i hi qf
 refine⟨h.1.put qf,fun j hj za =>?_⟩
 rw[List.length_set] at hj
 rw[getElem!_pos (l.set i _) j<|by rw[List.length_set];exact hj,List.getElem_set,if_neg qf]
 have:=h.2 j hj qf
 rwa [getElem!_pos l j hj] at this
end
section
theorem dShrink_ok(code:List UInt8)(ip:Int)(sd:Int)(bs:Nat)(ac:yOA)(cc:Nat)(Fc:yLN)(H:St W0 w ((.box bs [Sv ac code.length cc,yI ip,.int .u64 sd] 115)::ps) ((sF false Fc ac cc code)::Γ))(N:Fresh W0.heap.size (Ns))(K0:Kept Ns Γ)(q0:0<=ip/\ip<=30000):Calls Tryz.prog 40 #[pp bs 0] w (fun e w'=>∃v,e=.returned v/\∃(kV:Int) (Aa:Int) (KT:Int) (uJ:yLI) (kX:List yH) (lk:List Bool) (rb:yLL) (gD:yLI) (Nr:yOA) (PX:Nat) (Qt:Nat) (PR:yOA) (Oo:Nat) (Ok:Nat) (Pd:List Value) (U6:yLN) (NZ:yOA) (OF:Nat) (Ri:Nat) (Oj:yOA) (Nx:Nat) (Pu:Nat) (OO:List Value) (PV:yLN) (PP:yOA) (O9:Nat) (NK:Nat),(ip<=kV/\kV<=ip+5000)/\(SysDr KT uJ kX)/\(StDr KT uJ.length 4 lk rb gD)/\v=.tuple #[.agg #[yI KT,Sv Nr PX Qt,Sv PR Oo Ok],.agg #[Sv NZ OF Ri,Sv Oj Nx Pu,Sv PP O9 NK]]/\Fresh W0.heap.size (PV::Ns)/\St W0 w' ((.box bs [Sv ac code.length cc,yI kV,.int .u64 Aa] 115)::(rr Nr PX Qt 2 1<|uJ.map<|Value.int .i64)::(rr PR Oo Ok 70 9 Pd)::(rr NZ OF Ri 4 1<|lk.map<|Value.bool)::(rr Oj Nx Pu 24 1 OO)::(rr PP O9 NK 2 1<|gD.map<|Value.int .i64)::ps) ((sF false Fc ac cc code)::(xG false U6 Pd kX)::(xG true PV OO rb)::Γ)):=by
 refine en func40 ntmps40 ?_
 refine zcr<|sw<|xg H ti27 [yI 0,yN,yN] fun b1 w2 H=>sw<|xg H ti31 [yN,yN,yN] fun b3 w4 H=>zjc<|sq 1 ?_
 have H1:=H.y9 3 1 [2,0,1] [0] qo qo
 have N1:Fresh _ (Ns):=N
 have K1:Kept (Ns) (Γ):=K0.behind 0 rfl
 refine sw<|ve #[pp bs 0] rfl rfl call87 (dSystem_ok code ip sd bs ac cc Fc H1 N1 K1 qg) ?_
 clear H H1 N1 K1
 rintro _ w5 ⟨m5,alo,aC,gm,gR,gZ,azl,sa,xL,auX,ry,RR,ajN,hx7,hx8,rfl,N,H⟩
 obtain rfl:=H.jy 1 rfl
 obtain rfl:=H.xQ (α:=yH) 2 rfl 1 rfl qj
 have k1:=(‹SysDr _ _ _›).kinds
 have k3:=(‹SysDr _ _ _›).few
 have k4:=(‹SysDr _ _ _›).rules
 refine sw<|xg H ti27 [yI 0,yN,yN] fun fj Cz H=>sw<|xx H 0 [yI aC,Sv gZ gm.length sa,Sv xL gR.length ry] sizeOf27 fun Ks H=>?_
 dsimp only[List.set] at H
 refine zjcc<|sp (yI 0)<|zjn<|xf ?_
 replace H:=H.unfree 1 rfl
 refine zD ((fun Z0 Z1 Z2 Z3 Z4=>fun m' ρ Ce=>∃(xN:Env) (i:Nat) (bT:Int) (bh:Int) (ah:List yH) (jE:List Value) (zG:yLN),ρ=upd (upd (upd (upd (upd xN 0<|pp bs 0) 2<|pp b1 0) 3<|pp b3 0) 4<|pp fj 0) 5 (yI i)/\((i:Int)<=gR.length)/\(ip<=bT/\bT<=ip+2000+100*i)/\(ah.length<=5/\yz aC gm ah)/\m'=(gR.length-(i:Int)).toNat/\Fresh W0.heap.size (Ns)/\St W0 Ce (Z0::(.box bs [Sv ac code.length cc,yI bT,.int .u64 bh] 115)::Z1::(rr xL gR.length ry 70 9 jE)::Z2::Z3::ps) (Z4::(xG false zG jE ah)::Γ)) _ _ _ _ _) ((gR.length-(0:Int)).toNat) ⟨_,0,m5,alo,gR,RR,ajN,uE5,qf,qf,(by exact⟨by omega,k4⟩),rfl,(N.vU 1 [] qo),H.vU 6 3 (zR 0 6) [1,0] qo qo⟩ ?_
 clear H N
 rintro m' ρ BP ⟨xN,i,bT,bh,ah,jE,zG,rfl,i0,j1,j2,rfl,N,H⟩
 have Cb:=H.xQ (α:=yH) 3 rfl 1 rfl qj
 refine zcc<|sp (yI i)<|oF rfl<|oL rfl (H.cell 0 rfl rfl)<|oN rfl<|sq 1<|zjn<|cD rfl (fun mg=>?_)<|fun mg=>?_
 ·refine qZ (t_n<|xU<|xf<|zcr<|oF rfl<|oL rfl (H.cell 0 rfl rfl)<|sp (yI i) ?_)
  obtain⟨rj,rfl⟩:=H.jR 3 rfl qf
  obtain⟨XU,QS,cT,QW,QU,cq,QV,QT,ct,tH,tK,zE,VO,VM,dG,Xo,Xm,cG,Im,H⟩:=H.rowel_RuleD 3 rfl 1 rfl (iv:=i) i qf qf
  refine oI rfl rfl<|sq 1<|zjcc<|sq 1 ?_
  have H1:=H.y9 6 8 [1,0,2,3,4,5] [6,0,1,2,3,4,5,7] qo qo
  have N1:Fresh _ (Ns):=N
  have K1:Kept (Ns) ((sF false cT XU QS ((ah[i]!).zJ))::(sF false cq QW QU ((ah[i]!).jB))::(sF false ct QV QT ((ah[i]!).jD))::(sF false zE tH tK ((ah[i]!).jJ))::(sF false dG VO VM ((ah[i]!).Qq))::(sF false cG Xo Xm ((ah[i]!).xF))::(xG false zG jE ah)::Γ):=K0.behind 7 rfl
  refine sw<|ve #[pp bs 0,yI 8] rfl rfl call41 (dOne_ok code bT bh bs ac cc Fc (8:Int) H1 N1 K1 qg) ?_
  clear H H1 N1 K1
  rintro _ UZ ⟨aoO,am8,au5,ayK,rfl,N,H⟩
  refine zjn<|zX _ rfl (fun By=>?_)<|fun By=>?_
  ·refine VR (t_x<|b_x<|t_n<|xX<|sp (yI i)<|sw<|zC i 1 rfl rfl qf<|sq 1<|xZ<|xh (m':=(gR.length-((i+1):Int)).toNat) qf ⟨_,i+1,_,_,_,_,_,uE5,?_,?_,?_,rfl,N,H.vU 6 8 [1,0,2,3,4,5] [0,7] qo qo⟩)
   ·omega
   ·omega
   ·exact⟨by(skip);omega,by have q2:=j2.2;(repeat' assumption)⟩
  refine qZ<|t_n<|zcr<|sq 1<|oF rfl<|oL rfl (H.cell 1 rfl rfl)<|sw<|zq H underlying24 ti2 aC.toNat rfl rfl qf qf qf fun ow BG H=>sq 1<|oF rfl<|sw<|o_storePart H 4 rfl (Sv (aa ow 0) aC.toNat aC.toNat) sizeOf24 rfl rfl rfl (part_lt<|Im 5 _ rfl) fun Y0 H=>?_
  have Af:=part_get (cells:=[yI ((ah[i]!).qY),yI ((ah[i]!).yK),Sv XU (((ah[i]!).zJ).length) QS,Sv QW (((ah[i]!).jB).length) QU,Sv QV (((ah[i]!).jD).length) QT,Sv tH (((ah[i]!).jJ).length) tK,Sv VO (((ah[i]!).Qq).length) VM,Sv Xo (((ah[i]!).xF).length) Xm,Bv ((ah[i]!).jY)]) Im 5 (Sv (aa ow 0) aC.toNat aC.toNat)<|Nat.le_of_ble_eq_true rfl
  replace Af:∀(q:Nat) (v:Value),([yI ((ah[i]!).qY),yI ((ah[i]!).yK),Sv XU (((ah[i]!).zJ).length) QS,Sv QW (((ah[i]!).jB).length) QU,Sv QV (((ah[i]!).jD).length) QT,Sv (aa ow 0) aC.toNat aC.toNat,Sv VO (((ah[i]!).Qq).length) VM,Sv Xo (((ah[i]!).xF).length) Xm,Bv ((ah[i]!).jY)]:List Value)[q]? =some v->(jE.set (0+(i:Int).toNat*9+5)<|Sv (aa ow 0) aC.toNat aC.toNat)[0+(i:Int).toNat*9+q]? =some v:=Af
  dsimp only[List.set] at H
  refine zjcc<|sp (yI 1)<|zjn<|xf ?_
  have k7:=(j2.2 i qf).need.1.len qf
  refine zD ((fun Z0 Z1 Z2 Z3 Z4 Z5 Z6 Z7 Z8 Z9 bG bX=>fun m' ρ KE=>∃(xN:Env) (k:Nat) (bC:Int) (bF:Int) (uR:yLI),ρ=upd (upd (upd (upd (upd (upd (upd xN 0<|pp bs 0) 2<|pp b1 0) 3<|pp b3 0) 4<|pp fj 0) 5<|yI i) 6<|pp rj<|0+(i:Int).toNat*9) 7 (yI k)/\((k:Int)<=aC)/\(ip<=bC/\bC<=ip+2002+100*i+4*k)/\(HereTo aC k uR)/\(1<=(k:Int))/\m'=(aC-(k:Int)).toNat/\Fresh W0.heap.size (Ns)/\St W0 KE ((rr (aa ow 0) aC.toNat aC.toNat 2 1<|uR.map<|Value.int .i64)::(.box bs [Sv ac code.length cc,yI bC,.int .u64 bF] 115)::Z0::Z1::Z2::Z3::Z4::ps) (Z5::Z6::Z7::Z8::Z9::bG::bX::Γ)) _ _ _ _ _ _ _ _ _ _ _ _) ((aC-(1:Int)).toNat) ⟨_,1,aoO,am8,(List.replicate aC.toNat (0:Int)),uE7,qf,qf,(by exact HereTo.zero qf),qf,rfl,N,H.vU 7 8 (zR 0 7) [0,1,2,3,5,6,7] qo qo⟩ ?_
  clear H N
  rintro m' ρ KQ ⟨xN,k,bC,bF,uR,rfl,i0,k0,k2,k6,rfl,N,H⟩
  have amC:=H.jy 0 rfl
  refine zcc<|sp (yI k)<|oF rfl<|oL rfl (H.cell 2 rfl rfl)<|sq 1<|zjn<|cD rfl (fun h44=>?_)<|fun h44=>?_
  ·refine qZ (t_n<|xU<|xf<|zcr<|sq 2<|oF rfl<|oL rfl (H.VI 4 rfl<|Af 2 _ rfl)<|sp (yI k) ?_)
   obtain⟨KC,o46,rfl⟩:=H.addr 1 rfl qf
   refine oI rfl rfl<|oL rfl (H.zS 1 rfl k qf)<|sp (Bv<|decide ((((ah[i]!).zJ)[k]! :Int)>0))<|sp (Bv<|decide ((((ah[i]!).zJ)[k]! :Int)>0)) ?_
   cases wu:(decide ((((ah[i]!).zJ)[k]! :Int)>0))
   ·replace wu:=of_decide_eq_false wu
    refine xY [44,45]<|sp (Bv false)<|zjn<|cFr rfl<|qZ<|b_n<|t_n<|xX<|sp (yI k)<|sw<|zC k 1 rfl rfl qf<|sq 1<|xZ<|xh (m':=(aC-((k+1):Int)).toNat) qf ⟨_,k+1,_,_,_,uE7,?_,?_,?_,?_,rfl,N,H⟩
    ·omega
    ·omega
    ·exact k2.go
    ·omega
   replace wu:=of_decide_eq_true wu
   refine qP 43 rfl rfl<|sq 1<|qP 43 rfl rfl ?_
   have H1:=H.y9 7 7 [1,0,2,3,4,5,6] [0,1,2,3,4,5,6] qo qo
   have N1:Fresh _ (Ns):=N
   have K1:Kept (Ns) ((sF false cT (aa KC o46) QS ((ah[i]!).zJ))::(sF false cq QW QU ((ah[i]!).jB))::(sF false ct QV QT ((ah[i]!).jD))::(sF false dG VO VM ((ah[i]!).Qq))::(sF false cG Xo Xm ((ah[i]!).xF))::(xG false zG jE ah)::Γ):=K0.behind 6 rfl
   refine sw<|ve #[pp bs 0,yI 2] rfl rfl call41 (dOne_ok code bC bF bs ac cc Fc (2:Int) H1 N1 K1 qg) ?_
   clear H H1 N1 K1
   rintro _ OV ⟨MY,aex,abK,Cj,rfl,N,H⟩
   refine sp (Bv abK)<|zjn<|zX _ rfl (fun Bs=>?_)<|fun Bs=>?_
   ·refine VD (fun ρ N9=>∃(xN:Env) (Le:Int) (Ka:Int) (ZC:Int),ρ=upd (upd (upd (upd (upd (upd (upd (upd (upd xN 0<|pp bs 0) 2<|pp b1 0) 3<|pp b3 0) 4<|pp fj 0) 5<|yI i) 6<|pp rj<|0+(i:Int).toNat*9) 7<|yI k) 44<|pp bs 0) 45 (Bv abK)/\(MY<=Le/\Le<=MY+2)/\(0<=Ka/\(Ka<(3:Int)\/Ka=0))/\Fresh W0.heap.size (Ns)/\St W0 N9 ((.box bs [Sv ac code.length cc,yI Le,.int .u64 ZC] 115)::(rr (aa ow 0) aC.toNat aC.toNat 2 1 ((uR.set ((k-1:Int).toNat) ((uR[(k-1:Int).toNat]!)+Ka)).map<|Value.int .i64))::(.box fj [yI aC,Sv gZ gm.length sa,Sv (aa rj 0) gR.length ry] 27)::(rr gZ gm.length sa 2 1<|gm.map<|Value.int .i64)::(rr (aa rj 0) gR.length ry 70 9<|jE.set (0+(i:Int).toNat*9+5)<|Sv (aa ow 0) aC.toNat aC.toNat)::(.box b3 [yN,yN,yN] 31)::(.box b1 [yI 0,yN,yN] 27)::ps) ((sF false Fc ac cc code)::(sF false cT (aa KC o46) QS ((ah[i]!).zJ))::(sF false cq QW QU ((ah[i]!).jB))::(sF false ct QV QT ((ah[i]!).jD))::(sF false dG VO VM ((ah[i]!).Qq))::(sF false cG Xo Xm ((ah[i]!).xF))::(xG false zG jE ah)::Γ)) ?_ ?_
    ·refine XT rfl H [2,3,4,5,6] [0,1,2,3,4,5,6] fun H=>?_
     have S:=H.jF (zR 2 5)<|zR 0 7
     refine rtl 0 S ?_
     refine rtl 1 S ?_
     refine tF 2 rfl rfl S ?_
     refine tL 3 rfl rfl (fun _ h=>h.VI 2 rfl<|Af 5 _ rfl) S ?_
     refine rtp 4 (yI k) S ?_
     refine rt 5 _ (y_sub k 1 rfl rfl qf) S ?_
     refine tI 6 rfl rfl rfl S ?_
     refine rtl 8 S ?_
     refine zY [7,9] qh qm<|vG rfl ?_<|vG rfl ?_ zZ
     ·refine zB (yI<|uR[(k-1:Int).toNat]!) isAgg2 rfl (H.Xb 1 rfl (iv:=k-1) (i:=((k-1:Int).toNat)) qf qf) (⟨H.pick (zR 2 5)<|zR 0 7,(ro 9 rfl ?_)⟩)
      have H1:=H.y9 7 7 [0,1,2,3,4,5,6] [0,1,2,3,4,5,6] qo qo
      have N1:Fresh _ (Ns):=N
      have K1:Kept (Ns) ((sF false cT (aa KC o46) QS ((ah[i]!).zJ))::(sF false cq QW QU ((ah[i]!).jB))::(sF false ct QV QT ((ah[i]!).jD))::(sF false dG VO VM ((ah[i]!).Qq))::(sF false cG Xo Xm ((ah[i]!).xF))::(xG false zG jE ah)::Γ):=K0.behind 6 rfl
      refine ve #[pp bs 0,yI 3] rfl rfl call43 (Qp code MY aex bs ac cc Fc (3:Int) H1 N1 K1 qg) ?_
      clear H H1 N1 K1
      rintro _ Sq ⟨Yr,Cg,Ug,adC,agk,rfl,N,H⟩
      have k5:=k2.2 (k-1:Int).toNat qf qf
      refine⟨H.pick (zR 2 5)<|zR 0 7,?_⟩
      have S:=H.jF (zR 2 5)<|zR 0 7
      refine rt 10 _ (y_add (uR[(k-1:Int).toNat]!) Ug rfl rfl qf) S ?_
      refine tI 11 rfl rfl rfl S ?_
      refine ro 12 rfl<|Qe H 1 rfl ((uR[(k-1:Int).toNat]!)+Ug) sizeOf2 rfl rfl (i:=((k-1:Int).toNat)) qf qf fun Sr H=>?_
      dsimp only[List.set] at H
      refine⟨H.pick (zR 2 5)<|zR 0 7,(xC qh ((meet ⟨_,Yr,Ug,Cg,uE9,adC,agk,N,H⟩)))⟩
     have H1:=H.y9 7 7 [0,1,2,3,4,5,6] [0,1,2,3,4,5,6] qo qo
     have N1:Fresh _ (Ns):=N
     have K1:Kept (Ns) ((sF false cT (aa KC o46) QS ((ah[i]!).zJ))::(sF false cq QW QU ((ah[i]!).jB))::(sF false ct QV QT ((ah[i]!).jD))::(sF false dG VO VM ((ah[i]!).Qq))::(sF false cG Xo Xm ((ah[i]!).xF))::(xG false zG jE ah)::Γ):=K0.behind 6 rfl
     refine ve #[pp bs 0,yI 3] rfl rfl call43 (Qp code MY aex bs ac cc Fc (3:Int) H1 N1 K1 qg) ?_
     clear H H1 N1 K1
     rintro _ KF ⟨anc,aj0,UD,MQ,Mw,rfl,N,H⟩
     have k5:=k2.2 (k-1:Int).toNat qf qf
     refine⟨H.pick (zR 2 5)<|zR 0 7,(ro 7 rfl<|zB (yI<|uR[(k-1:Int).toNat]!) isAgg2 rfl (H.Xb 1 rfl (iv:=k-1) (i:=((k-1:Int).toNat)) qf qf)<|⟨H.pick (zR 2 5)<|zR 0 7,?_⟩)⟩
     have S:=H.jF (zR 2 5)<|zR 0 7
     refine rt 10 _ (y_add (uR[(k-1:Int).toNat]!) UD rfl rfl qf) S ?_
     refine tI 11 rfl rfl rfl S ?_
     refine ro 12 rfl<|Qe H 1 rfl ((uR[(k-1:Int).toNat]!)+UD) sizeOf2 rfl rfl (i:=((k-1:Int).toNat)) qf qf fun w76 H=>?_
     dsimp only[List.set] at H
     refine⟨H.pick (zR 2 5)<|zR 0 7,(xC qh ((meet ⟨_,anc,UD,aj0,uE9,MQ,Mw,N,H⟩)))⟩
    clear H N
    rintro ρ w77 ⟨xN,Le,Ka,ZC,rfl,akI,aju,N,H⟩
    refine b_n<|t_n<|xX<|sp (yI k)<|sw<|zC k 1 rfl rfl qf<|sq 1<|xZ<|xh (m':=(aC-((k+1):Int)).toNat) qf ⟨_,k+1,_,_,_,uE7,?_,?_,?_,?_,rfl,N,H.vU 7 7 (1::0::zR 2 5) (zR 0 7) qo qo⟩
    ·omega
    ·omega
    ·exact k2.put qf qf qf
    ·omega
   refine qZ<|b_n<|t_n<|xX<|sp (yI k)<|sw<|zC k 1 rfl rfl qf<|sq 1<|xZ<|xh (m':=(aC-((k+1):Int)).toNat) qf ⟨_,k+1,_,_,_,uE7,?_,?_,?_,?_,rfl,N,H.vU 7 7 (1::0::zR 2 5) (zR 0 7) qo qo⟩
   ·omega
   ·omega
   ·exact k2.go
   ·omega
  refine zx4<|zcc<|sq 1 ?_
  have H1:=H.y9 7 7 [1,0,2,3,4,5,6] [0,1,2,3,4,5,6] qo qo
  have N1:Fresh _ (Ns):=N
  have K1:Kept (Ns) ((sF false cT XU QS ((ah[i]!).zJ))::(sF false cq QW QU ((ah[i]!).jB))::(sF false ct QV QT ((ah[i]!).jD))::(sF false dG VO VM ((ah[i]!).Qq))::(sF false cG Xo Xm ((ah[i]!).xF))::(xG false zG jE ah)::Γ):=K0.behind 6 rfl
  refine sw<|ve #[pp bs 0,yI 2] rfl rfl call41 (dOne_ok code bC bF bs ac cc Fc (2:Int) H1 N1 K1 qg) ?_
  clear H H1 N1 K1
  rintro _ TX ⟨wY,Nh,avW,aoI,rfl,N,H⟩
  refine zjn<|zX _ rfl (fun mY=>?_)<|fun mY=>?_
  ·refine xX (sq 1<|oF rfl<|oL rfl (H.cell 2 rfl rfl)<|sw<|zq H underlying24 ti2 aC.toNat rfl rfl qf qf qf fun xr OM H=>sq 1<|oF rfl ?_)
   obtain⟨J9,N,ayU,H⟩:=H.zQ 2 rfl N<|fun F hF b hb=>(List.mem_append.1<|show F∈[]++Ns from hF).elim (fun h=>(H.vX (L:=[]) []) F h b hb) fun h=>H.XI (K0.behind 7 rfl) F h b hb
   dsimp only[List.set] at H
   obtain⟨F91,H⟩:=H.part_5 7 rfl 0 rfl (iv:=i) i qf<|by omega
   dsimp only[List.set] at H
   refine sw<|o_storePart H 5 rfl (Sv (aa xr 0) aC.toNat aC.toNat) sizeOf24 rfl rfl rfl (part_lt<|Af 6 _ rfl) fun w92 H=>?_
   have A0:=part_get (cells:=[yI ((ah[i]!).qY),yI ((ah[i]!).yK),Sv XU (((ah[i]!).zJ).length) QS,Sv QW (((ah[i]!).jB).length) QU,Sv QV (((ah[i]!).jD).length) QT,Sv (aa ow 0) aC.toNat aC.toNat,Sv VO (((ah[i]!).Qq).length) VM,Sv Xo (((ah[i]!).xF).length) Xm,Bv ((ah[i]!).jY)]) Af 6 (Sv (aa xr 0) aC.toNat aC.toNat)<|Nat.le_of_ble_eq_true rfl
   replace A0:∀(q:Nat) (v:Value),([yI ((ah[i]!).qY),yI ((ah[i]!).yK),Sv XU (((ah[i]!).zJ).length) QS,Sv QW (((ah[i]!).jB).length) QU,Sv QV (((ah[i]!).jD).length) QT,Sv (aa ow 0) aC.toNat aC.toNat,Sv (aa xr 0) aC.toNat aC.toNat,Sv Xo (((ah[i]!).xF).length) Xm,Bv ((ah[i]!).jY)]:List Value)[q]? =some v->((jE.set (0+(i:Int).toNat*9+5)<|Sv (aa ow 0) aC.toNat aC.toNat).set (0+(i:Int).toNat*9+6)<|Sv (aa xr 0) aC.toNat aC.toNat)[0+(i:Int).toNat*9+q]? =some v:=A0
   dsimp only[List.set] at H
   refine zjc<|sq 1 ?_
   have H1:=H.y9 8 9 [1,0,2,3,4,5,6,7] [2,0,1,3,4,5,6,7,8] qo qo
   have N1:Fresh _ (J9::Ns):=N
   have K1:Kept (Ns) ((xG false F91 (jE.set (0+(i:Int).toNat*9+5)<|Sv (aa ow 0) aC.toNat aC.toNat)<|ah.set i { ah[i]! with jJ:=uR })::(isF true J9 (Sv (aa ow 0) aC.toNat aC.toNat) uR)::(sF false cT XU QS ((ah[i]!).zJ))::(sF false cq QW QU ((ah[i]!).jB))::(sF false ct QV QT ((ah[i]!).jD))::(sF false dG VO VM ((ah[i]!).Qq))::(sF false cG Xo Xm ((ah[i]!).xF))::(xG false zG jE ah)::Γ):=K0.behind 8 rfl
   replace K1:=K1.cons (F:=J9) 1 rfl rfl
   refine sw<|ve #[pp bs 0,yI 2] rfl rfl call41 (dOne_ok code wY Nh bs ac cc Fc (2:Int) H1 N1 K1 qg) ?_
   clear H H1 N1 K1
   rintro _ L8 ⟨Um,aoW,Fn,aA3,rfl,N,H⟩
   refine zjn<|zX _ rfl (fun Ch=>?_)<|fun Ch=>?_
   ·refine xX (sq 1<|sw<|ja H underlying68 ti128 fun i9 xc H=>sq 1<|oF rfl ?_)
    obtain⟨MX,N,asC,H⟩:=H.zQ 2 rfl N<|fun F hF b hb=>(List.mem_append.1<|show F∈[J9]++Ns from hF).elim (fun h=>(H.vX (L:=[J9]) [2]) F h b hb) fun h=>H.XI (K0.behind 9 rfl) F h b hb
    dsimp only[List.set] at H
    obtain⟨aa0,H⟩:=H.part_6 2 rfl 0 rfl (iv:=i) i qf<|by(simp only[List.length_set];omega)
    dsimp only[List.set] at H
    refine sw<|o_storePart H 6 rfl (Sv (aa i9 0) 0 0) sizeOf68 rfl rfl rfl (part_lt<|A0 7 _ rfl) fun RG H=>?_
    have P7:=part_get (cells:=[yI ((ah[i]!).qY),yI ((ah[i]!).yK),Sv XU (((ah[i]!).zJ).length) QS,Sv QW (((ah[i]!).jB).length) QU,Sv QV (((ah[i]!).jD).length) QT,Sv (aa ow 0) aC.toNat aC.toNat,Sv (aa xr 0) aC.toNat aC.toNat,Sv Xo (((ah[i]!).xF).length) Xm,Bv ((ah[i]!).jY)]) A0 7 (Sv (aa i9 0) 0 0)<|Nat.le_of_ble_eq_true rfl
    replace P7:∀(q:Nat) (v:Value),([yI ((ah[i]!).qY),yI ((ah[i]!).yK),Sv XU (((ah[i]!).zJ).length) QS,Sv QW (((ah[i]!).jB).length) QU,Sv QV (((ah[i]!).jD).length) QT,Sv (aa ow 0) aC.toNat aC.toNat,Sv (aa xr 0) aC.toNat aC.toNat,Sv (aa i9 0) 0 0,Bv ((ah[i]!).jY)]:List Value)[q]? =some v->(((jE.set (0+(i:Int).toNat*9+5)<|Sv (aa ow 0) aC.toNat aC.toNat).set (0+(i:Int).toNat*9+6)<|Sv (aa xr 0) aC.toNat aC.toNat).set (0+(i:Int).toNat*9+7)<|Sv (aa i9 0) 0 0)[0+(i:Int).toNat*9+q]? =some v:=P7
    dsimp only[List.set] at H
    refine xZ<|b_n<|t_n<|xX<|sp (yI i)<|sw<|zC i 1 rfl rfl qf<|sq 1<|xZ ?_
    replace H:=H.boxRow 0 rfl 2 0 rfl qj
    dsimp only[List.set] at H
    replace H:=H.vP (α:=Vw)
    replace H:St _ _ ((rr (aa i9 0) 0 0 128 2 [])::(.box bs [Sv ac code.length cc,yI Um,.int .u64 aoW] 115)::(rr none 0 0 0 1 [])::(rr none 0 0 0 1 [])::(.box fj [yI aC,Sv gZ gm.length sa,Sv (aa rj 0) gR.length ry] 27)::(rr gZ gm.length sa 2 1<|gm.map<|Value.int .i64)::(rr (aa rj 0) gR.length ry 70 9 (((jE.set (0+(i:Int).toNat*9+5)<|Sv (aa ow 0) aC.toNat aC.toNat).set (0+(i:Int).toNat*9+6)<|Sv (aa xr 0) aC.toNat aC.toNat).set (0+(i:Int).toNat*9+7)<|Sv (aa i9 0) 0 0))::(.box b3 [yN,yN,yN] 31)::(.box b1 [yI 0,yN,yN] 27)::ps) ((xG true [] [] ([]:List Vw))::(xG false aa0 ((jE.set (0+(i:Int).toNat*9+5)<|Sv (aa ow 0) aC.toNat aC.toNat).set (0+(i:Int).toNat*9+6)<|Sv (aa xr 0) aC.toNat aC.toNat) ((ah.set i { ah[i]! with jJ:=uR }).set i { (ah.set i { ah[i]! with jJ:=uR })[i]! with Qq:=(List.replicate aC.toNat (0:Int))}))::(isF true MX (Sv (aa xr 0) aC.toNat aC.toNat)<|List.replicate aC.toNat (0:Int))::(sF false Fc ac cc code)::(xG false F91 (jE.set (0+(i:Int).toNat*9+5)<|Sv (aa ow 0) aC.toNat aC.toNat)<|ah.set i { ah[i]! with jJ:=uR })::(isF true J9 (Sv (aa ow 0) aC.toNat aC.toNat) uR)::(sF false cT XU QS ((ah[i]!).zJ))::(sF false cq QW QU ((ah[i]!).jB))::(sF false ct QV QT ((ah[i]!).jD))::(sF false dG VO VM ((ah[i]!).Qq))::(sF false cG Xo Xm ((ah[i]!).xF))::(xG false zG jE ah)::Γ):=H
    have H0:=H
    obtain⟨Ym,N4,JH,H⟩:=H.yC (α:=Vw) 0 rfl 0 rfl qj
    replace N:Fresh W0.heap.size (Ym::MX::J9::Ns):=Fresh.ice N.emp H0 0 N4.1 N4.2<|fun F hF b hb=>(List.mem_append.1<|show F∈[MX,J9]++Ns from hF).elim (fun h=>(H0.vX (L:=[MX,J9]) [2,5]) F h b hb) fun h=>H0.XI (K0.behind 12 rfl) F h b hb
    clear H0
    dsimp only[List.set] at H
    obtain⟨awj,H⟩:=H.part_7 2 rfl 0 rfl (iv:=i) i qf<|by(simp only[List.length_set];omega)
    dsimp only[List.set] at H
    refine xh (m':=(gR.length-((i+1):Int)).toNat) qf ⟨_,i+1,_,_,_,_,_,uE5,?_,?_,?_,rfl,(N.vU 3 [] qo),H.vU 9 14 [4,1,5,6,7,8] [5,0] qo qo⟩
    ·omega
    ·omega
    ·exact⟨by(simp only[List.length_set]);omega,by have q2:=j2.2;(repeat' first|assumption|exact k2.1|exact vZ.zero qf qf|(simp only[List.length_set];omega)|omega|apply yz.here|apply yz.out|apply yz.into)⟩
   refine qZ<|b_n<|t_n<|xX<|sp (yI i)<|sw<|zC i 1 rfl rfl qf<|sq 1<|xZ ?_
   obtain⟨axH,N,at2,H⟩:=H.zQ 1 rfl N<|fun F hF b hb=>(List.mem_append.1<|show F∈[J9]++Ns from hF).elim (fun h=>(H.vX (L:=[J9]) [2]) F h b hb) fun h=>H.XI (K0.behind 9 rfl) F h b hb
   dsimp only[List.set] at H
   obtain⟨azc,H⟩:=H.part_6 2 rfl 0 rfl (iv:=i) i qf<|by(simp only[List.length_set];omega)
   dsimp only[List.set] at H
   refine xh (m':=(gR.length-((i+1):Int)).toNat) qf ⟨_,i+1,_,_,_,_,_,uE5,?_,?_,?_,rfl,(N.vU 2 [] qo),H.vU 8 11 [3,0,4,5,6,7] [2,0] qo qo⟩
   ·omega
   ·omega
   ·exact⟨by(simp only[List.length_set]);omega,by have q2:=j2.2;(repeat' first|assumption|exact k2.1|exact vZ.zero qf qf|(simp only[List.length_set];omega)|omega|apply yz.here|apply yz.out)⟩
  refine qZ<|t_n<|zcr<|sq 1 ?_
  have H1:=H.y9 7 7 [0,1,2,3,4,5,6] [0,1,2,3,4,5,6] qo qo
  have N1:Fresh _ (Ns):=N
  have K1:Kept (Ns) ((sF false cT XU QS ((ah[i]!).zJ))::(sF false cq QW QU ((ah[i]!).jB))::(sF false ct QV QT ((ah[i]!).jD))::(sF false dG VO VM ((ah[i]!).Qq))::(sF false cG Xo Xm ((ah[i]!).xF))::(xG false zG jE ah)::Γ):=K0.behind 6 rfl
  refine sw<|ve #[pp bs 0,yI 2] rfl rfl call41 (dOne_ok code wY Nh bs ac cc Fc (2:Int) H1 N1 K1 qg) ?_
  clear H H1 N1 K1
  rintro _ akq ⟨afP,aej,asW,as4,rfl,N,H⟩
  refine zjn<|zX _ rfl (fun uS=>?_)<|fun uS=>?_
  ·refine xX (sq 1<|sw<|ja H underlying68 ti128 fun yk EM H=>sq 1<|oF rfl ?_)
   obtain⟨nL,N,Ay,H⟩:=H.zQ 2 rfl N<|fun F hF b hb=>(List.mem_append.1<|show F∈[]++Ns from hF).elim (fun h=>(H.vX (L:=[]) []) F h b hb) fun h=>H.XI (K0.behind 7 rfl) F h b hb
   dsimp only[List.set] at H
   obtain⟨amK,H⟩:=H.part_5 7 rfl 0 rfl (iv:=i) i qf<|by omega
   dsimp only[List.set] at H
   refine sw<|o_storePart H 5 rfl (Sv (aa yk 0) 0 0) sizeOf68 rfl rfl rfl (part_lt<|Af 7 _ rfl) fun Ko H=>?_
   have NC:=part_get (cells:=[yI ((ah[i]!).qY),yI ((ah[i]!).yK),Sv XU (((ah[i]!).zJ).length) QS,Sv QW (((ah[i]!).jB).length) QU,Sv QV (((ah[i]!).jD).length) QT,Sv (aa ow 0) aC.toNat aC.toNat,Sv VO (((ah[i]!).Qq).length) VM,Sv Xo (((ah[i]!).xF).length) Xm,Bv ((ah[i]!).jY)]) Af 7 (Sv (aa yk 0) 0 0)<|Nat.le_of_ble_eq_true rfl
   replace NC:∀(q:Nat) (v:Value),([yI ((ah[i]!).qY),yI ((ah[i]!).yK),Sv XU (((ah[i]!).zJ).length) QS,Sv QW (((ah[i]!).jB).length) QU,Sv QV (((ah[i]!).jD).length) QT,Sv (aa ow 0) aC.toNat aC.toNat,Sv VO (((ah[i]!).Qq).length) VM,Sv (aa yk 0) 0 0,Bv ((ah[i]!).jY)]:List Value)[q]? =some v->((jE.set (0+(i:Int).toNat*9+5)<|Sv (aa ow 0) aC.toNat aC.toNat).set (0+(i:Int).toNat*9+7)<|Sv (aa yk 0) 0 0)[0+(i:Int).toNat*9+q]? =some v:=NC
   dsimp only[List.set] at H
   refine xZ<|b_n<|t_n<|xX<|sp (yI i)<|sw<|zC i 1 rfl rfl qf<|sq 1<|xZ ?_
   replace H:=H.boxRow 0 rfl 2 0 rfl qj
   dsimp only[List.set] at H
   replace H:=H.vP (α:=Vw)
   replace H:St _ _ ((rr (aa yk 0) 0 0 128 2 [])::(.box bs [Sv ac code.length cc,yI afP,.int .u64 aej] 115)::(rr none 0 0 0 1 [])::(.box fj [yI aC,Sv gZ gm.length sa,Sv (aa rj 0) gR.length ry] 27)::(rr gZ gm.length sa 2 1<|gm.map<|Value.int .i64)::(rr (aa rj 0) gR.length ry 70 9 ((jE.set (0+(i:Int).toNat*9+5)<|Sv (aa ow 0) aC.toNat aC.toNat).set (0+(i:Int).toNat*9+7)<|Sv (aa yk 0) 0 0))::(.box b3 [yN,yN,yN] 31)::(.box b1 [yI 0,yN,yN] 27)::ps) ((xG true [] [] ([]:List Vw))::(xG false amK (jE.set (0+(i:Int).toNat*9+5)<|Sv (aa ow 0) aC.toNat aC.toNat)<|ah.set i { ah[i]! with jJ:=uR })::(isF true nL (Sv (aa ow 0) aC.toNat aC.toNat) uR)::(sF false Fc ac cc code)::(sF false cT XU QS ((ah[i]!).zJ))::(sF false cq QW QU ((ah[i]!).jB))::(sF false ct QV QT ((ah[i]!).jD))::(sF false dG VO VM ((ah[i]!).Qq))::(sF false cG Xo Xm ((ah[i]!).xF))::(xG false zG jE ah)::Γ):=H
   have H0:=H
   obtain⟨Ul,Py,ahk,H⟩:=H.yC (α:=Vw) 0 rfl 0 rfl qj
   replace N:Fresh W0.heap.size (Ul::nL::Ns):=Fresh.ice N.emp H0 0 Py.1 Py.2<|fun F hF b hb=>(List.mem_append.1<|show F∈[nL]++Ns from hF).elim (fun h=>(H0.vX (L:=[nL]) [2]) F h b hb) fun h=>H0.XI (K0.behind 10 rfl) F h b hb
   clear H0
   dsimp only[List.set] at H
   obtain⟨ah8,H⟩:=H.part_7 2 rfl 0 rfl (iv:=i) i qf<|by(simp only[List.length_set];omega)
   dsimp only[List.set] at H
   refine xh (m':=(gR.length-((i+1):Int)).toNat) qf ⟨_,i+1,_,_,_,_,_,uE5,?_,?_,?_,rfl,(N.vU 2 [] qo),H.vU 8 12 [3,1,4,5,6,7] [5,0] qo qo⟩
   ·omega
   ·omega
   ·exact⟨by(simp only[List.length_set]);omega,by have q2:=j2.2;(repeat' first|assumption|exact k2.1|(simp only[List.length_set];omega)|omega|apply yz.here|apply yz.into)⟩
  refine qZ<|b_n<|t_n<|xX<|sp (yI i)<|sw<|zC i 1 rfl rfl qf<|sq 1<|xZ ?_
  obtain⟨axY,N,art,H⟩:=H.zQ 1 rfl N<|fun F hF b hb=>(List.mem_append.1<|show F∈[]++Ns from hF).elim (fun h=>(H.vX (L:=[]) []) F h b hb) fun h=>H.XI (K0.behind 7 rfl) F h b hb
  dsimp only[List.set] at H
  obtain⟨avo,H⟩:=H.part_5 7 rfl 0 rfl (iv:=i) i qf<|by omega
  dsimp only[List.set] at H
  refine xh (m':=(gR.length-((i+1):Int)).toNat) qf ⟨_,i+1,_,_,_,_,_,uE5,?_,?_,?_,rfl,(N.vU 1 [] qo),H.vU 7 9 [2,0,3,4,5,6] [2,0] qo qo⟩
  ·omega
  ·omega
  ·exact⟨by(simp only[List.length_set]);omega,by have q2:=j2.2;(repeat' first|assumption|exact k2.1|omega|apply yz.here)⟩
 refine zx4<|xU<|XT rfl H [0,2,3] [0,1] fun H=>?_
 have S:=H.jF [0,2,3] [0,1]
 refine rt 0 _ (yF (cs:=[yI aC,Sv gZ gm.length sa,Sv xL gR.length ry]) isAgg27 sizeOf27 rfl<|fun _ h=>qC (h.cells 0 rfl) 0 3) S ?_
 refine rtl 1 S ?_
 refine ro 2 rfl ?_
 have sd:=(‹SysDr _ _ _›).with j2.1 j2.2
 have f0:yP (⟨aC,gm,ah⟩:qH):=sd.frame
 have H1:=H.y9 6 2 [1,0,2,3,4,5] [0,1] qo qo
 have N1:Fresh _ (Ns):=N
 have K1:Kept (Ns) (Γ):=K0.behind 0 rfl
 refine ve #[pp bs 0,pp fj 0,yI 4] rfl rfl call88 (dState_ok code bT bh bs ac cc Fc aC gm ah fj gZ gm.length sa xL gR.length ry jE zG false (4:Int) H1 N1 K1 qg qg qg) ?_
 clear H H1 N1 K1
 rintro _ CW ⟨aho,aep,HD,In,HO,Pr,atp,OB,OG,aqH,O7,abP,acb,Nl,asb,NL,arv,asm,rfl,N,H⟩
 obtain rfl:=H.Xg 4 rfl
 obtain rfl:=H.xQ (α:=yLI) 5 rfl 2 rfl qj
 obtain rfl:=H.jy 6 rfl
 refine⟨H.pick [1,2,3] [0,1],(ro 3 rfl<|xx H 8 [yI aC,Sv gZ gm.length sa,Sv xL gR.length ry] sizeOf27 fun B2 H=>?_)⟩
 dsimp only[List.set] at H
 refine⟨H.pick [1,2,3] [0,1],(ro 4 rfl<|xx H 7 [Sv Pr HD.length OB,Sv OG In.length O7,Sv Nl HO.length NL] sizeOf31 fun Nb H=>?_)⟩
 dsimp only[List.set] at H
 refine⟨H.pick [1,2,3] [0,1],(xC qh<|t_n<|c_ret<|retCC H 8 rfl 7 rfl rfl isAgg27 sizeOf27 isAgg31 sizeOf31 rfl rfl ⟨_,rfl,(⟨aho,aep,aC,gm,ah,HD,In,HO,gZ,gm.length,sa,xL,gR.length,ry,jE,zG,Pr,HD.length,OB,OG,In.length,O7,abP,acb,Nl,HO.length,NL,qf,ql,ql,rfl,N,H.vU 9 3 (0::zR 2 5) [0,1,2] qo qo⟩)⟩)⟩
theorem a2Given_ok(code:List UInt8)(ac:yOA)(cc:Nat)(Fc:yLN)(H:St W0 w (ps) ((sF false Fc ac cc code)::Γ))(N:Fresh W0.heap.size (Ns))(K0:Kept Ns Γ):Calls Tryz.prog 19 #[Sv ac code.length cc] w (fun e w'=>∃v,e=.returned v/\∃(KT:Int) (uJ:yLI) (kX:List yH) (lk:List Bool) (rb:yLL) (gD:yLI) (Nr:yOA) (PX:Nat) (Qt:Nat) (PR:yOA) (Oo:Nat) (Ok:Nat) (Pd:List Value) (U6:yLN) (NZ:yOA) (OF:Nat) (Ri:Nat) (Oj:yOA) (Nx:Nat) (Pu:Nat) (OO:List Value) (PV:yLN) (PP:yOA) (O9:Nat) (NK:Nat),(SysDr KT uJ kX)/\(StDr KT uJ.length 4 lk rb gD)/\v=.tuple #[.agg #[yI KT,Sv Nr PX Qt,Sv PR Oo Ok],.agg #[Sv NZ OF Ri,Sv Oj Nx Pu,Sv PP O9 NK]]/\Fresh W0.heap.size (PV::Ns)/\St W0 w' ((rr Nr PX Qt 2 1<|uJ.map<|Value.int .i64)::(rr PR Oo Ok 70 9 Pd)::(rr NZ OF Ri 4 1<|lk.map<|Value.bool)::(rr Oj Nx Pu 24 1 OO)::(rr PP O9 NK 2 1<|gD.map<|Value.int .i64)::ps) ((sF false Fc ac cc code)::(xG false U6 Pd kX)::(xG true PV OO rb)::Γ)):=by
 refine en func19 ntmps19 ?_
 refine zcr<|sw<|xg H ti27 [yI 0,yN,yN] fun b1 w2 H=>sw<|xg H ti31 [yN,yN,yN] fun b3 w4 H=>zjc<|sq 1<|sw<|zW #[Sv ac code.length cc] rfl rfl call39<|en func39 ntmps39 ?_
 refine zcr<|sq 1<|zjc<|sq 1<|sw<|vg [Sv ac code.length cc,yI 0,.int .u64 0] [(0,Sv ac code.length cc)]<|sw<|zN H [Sv ac code.length cc,yI 0,.int .u64 0] fun b5 w6 H=>sq 1<|zjr<|ret1 (pp b5 0) rfl rfl ⟨_,rfl,?_⟩
 have H1:=H.y9 3 1 [0,1,2] [0] qo qo
 have N1:Fresh _ (Ns):=N
 have K1:Kept (Ns) (Γ):=K0.behind 0 rfl
 refine sw<|ve #[pp b5 0] rfl rfl call40 (dShrink_ok code (0:Int) 0 b5 ac cc Fc H1 N1 K1 qg) ?_
 clear H H1 N1 K1
 rintro _ w7 ⟨MC,avQ,Mc,Us,R6,Tj,T0,Rx,Gf,aAh,ad6,abB,axx,YP,RA,alk,Nf,aaP,Na,W6,axV,acL,apv,ama,abx,auG,YY,hx9,aAV,axD,rfl,N,H⟩
 obtain rfl:=H.jy 1 rfl
 obtain rfl:=H.xQ (α:=yH) 2 rfl 1 rfl qj
 obtain rfl:=H.Xg 3 rfl
 obtain rfl:=H.xQ (α:=yLI) 4 rfl 2 rfl qj
 obtain rfl:=H.jy 5 rfl
 refine sq 2<|sw<|xx H 7 [yI Mc,Sv Gf Us.length ad6,Sv abB R6.length YP] sizeOf27 fun BG H=>?_
 dsimp only[List.set] at H
 refine sw<|xx H 6 [Sv Nf Tj.length Na,Sv W6 T0.length acL,Sv abx Rx.length YY] sizeOf31 fun Y0 H=>?_
 dsimp only[List.set] at H
 refine zjr<|retCC H 7 rfl 6 rfl rfl isAgg27 sizeOf27 isAgg31 sizeOf31 rfl rfl ⟨_,rfl,(⟨Mc,Us,R6,Tj,T0,Rx,Gf,Us.length,ad6,abB,R6.length,YP,RA,alk,Nf,Tj.length,Na,W6,T0.length,acL,apv,ama,abx,Rx.length,YY,ql,ql,rfl,N,H.vU 8 3 (zR 1 5) [0,1,2] qo qo⟩)⟩
end
section
def atV(code:List UInt8)(i n:Int):Int:=if i>=code.length\/n<1 then 0 else (((code[i.toNat]!).toNat:Nat):Int) % n
theorem atV_no{i:Int}(h:i>=code.length\/n<1):atV code i n=0:=by rw[atV,if_pos h]
theorem atV_yes{i:Int}(h:¬i>=code.length)(h1:¬n<1):atV code i n=(((code[i.toNat]!).toNat:Nat):Int) % n:=by rw[atV,if_neg qf]
theorem atV_bd(code:List UInt8)(i:Int)(h:1<=n):0<=atV code i n/\atV code i n<=n-1:=by
 rw[atV]
 split
 ·omega
 ·have h1:=Int.emod_nonneg (((code[i.toNat]!).toNat:Nat):Int) (show n≠0 by omega)
  have h2:=Int.emod_lt_of_pos (((code[i.toNat]!).toNat:Nat):Int)<|show 0<n by omega
  omega
theorem halt_eq:((((appls s t).length:Nat):Int) == 0)=dec (Halted s t):=by
 by_cases h:Halted s t
 ·rw[jP h,Qy.2 h];rfl
 ·rw[xw h]
  have:(appls s t).length≠0:=fun e=>h<|Qy.1 e
  simpa using this
end
section
theorem a2At_ok(w:World)(code:List UInt8)(q:Int)(n:Int){m6:yOA}{m3:Nat}{Bj:yLN}(vm:zP w Bj m6 m3 code)(p0:0<=q):Calls Tryz.prog 23 #[Sv m6 code.length m3,yI q,yI n] w (Ret (fun v w'=>v=yI (atV code q n)) w):=by
 refine en func23 ntmps23 ?_
 have H:=(St.start w).arg vm
 have ajF:=qR vm
 clear vm
 refine zcr<|sp (yI 0)<|zjcc<|sp (yI q)<|sq 1<|oN rfl<|sp (Bv<|decide ((q:Int)>=code.length))<|sp (Bv<|decide ((q:Int)>=code.length)) ?_
 cases h1:(decide ((q:Int)>=code.length))
 ·replace h1:=of_decide_eq_false h1
  refine qP 11 rfl rfl<|sp (yI n)<|qP 11 rfl rfl<|sp (Bv<|decide ((n:Int)<1))<|sp (Bv<|decide ((n:Int)<1))<|zjn<|cD rfl (fun h2=>?_)<|fun h2=>?_
  ·refine zcr (sp (yI 0)<|zjr<|t_r<|rH1 (yI 0) H ?_)
   rw[atV_no qf]
  refine qZ<|t_n<|zcr<|sq 1<|sp (yI q) ?_
  obtain⟨b3,o4,rfl⟩:=H.addr 0 rfl qf
  refine oI rfl rfl ?_
  have hb6:=byte_lt<|code[q.toNat]!
  refine oL rfl (H.elemByte 0 rfl q q.toNat qf qf qf)<|sw<|o_convI (((code[q.toNat]!).toNat:Nat):Int) underlying5 underlying2 rfl qf<|sp (yI n)<|sw<|o_rem (((code[q.toNat]!).toNat:Nat):Int) n rfl rfl qf qf qf<|sq 1<|zjr<|rH1 (yI ((((code[q.toNat]!).toNat:Nat):Int) % n)) H ?_
  rw[atV_yes ‹_› ‹_›]
 replace h1:=of_decide_eq_true h1
 refine xY [12,13]<|sp (Bv true)<|zjn<|cTr rfl<|zcr<|sp (yI 0)<|zjr<|t_r<|rH1 (yI 0) H ?_
 rw[atV_no qf]
theorem a2Same_ok(w:World)(a:yLI)(b:yLI){aa:yOA}{ca:Nat}{Fa:yLN}{ab:yOA}{cb:Nat}{Fb:yLN}(ha:zP w Fa aa ca a)(hb:zP w Fb ab cb b):Calls Tryz.prog 84 #[Sv aa a.length ca,Sv ab b.length cb] w (Ret (fun v w'=>v=Bv (decide<|a=b)) w):=by
 refine en func84 ntmps84 ?_
 have H:=((St.start w).arg hb).arg ha
 have U4:=qR ha
 have nhb:=qR hb
 clear ha hb
 have N:=Fresh.nil w.heap.size
 refine zcr<|sp (Bv false)<|zjcc<|sq 1<|oN rfl<|sq 1<|oN rfl<|sq 1<|zjn<|zX _ rfl (fun h1=>?_)<|fun h1=>?_
 ·replace h1:=bne_iff_ne.1 h1
  refine zcr<|sp (Bv false)<|zjr<|t_r<|rH1 (Bv false) H ?_
  rw[decide_eq_false (fun e=>by subst e;omega)]
 replace h1:=xA h1
 refine qZ<|t_n<|zcc<|sp (yI 0)<|zjn<|xf<|zD ((fun Z0 Z1=>fun m' ρ w2=>∃(xN:Env) (i:Nat),ρ=upd (upd (upd xN 0<|Sv aa a.length ca) 1<|Sv ab b.length cb) 5 (yI i)/\((i:Int)<=a.length)/\(a.take i=b.take i)/\m'=(a.length-(i:Int)).toNat/\Fresh w.heap.size []/\St w w2 [] [Z0,Z1]) _ _) ((a.length-(0:Int)).toNat) ⟨_,0,uE3,qf,(by rfl),rfl,N,H⟩ ?_
 clear H N
 rintro m' ρ w3 ⟨xN,i,rfl,i0,i1,rfl,N,H⟩
 refine zcc<|sp (yI i)<|sq 1<|oN rfl<|sq 1<|zjn<|cD rfl (fun h4=>?_)<|fun h4=>?_
 ·refine qZ (t_n<|xU<|xf<|xU<|ji rfl H fun H=>rtl 0 H ?_)
  refine rtp 1 (yI i) H ?_
  obtain⟨b6,o7,rfl⟩:=H.addr 0 rfl qf
  refine tI 2 rfl rfl rfl H ?_
  refine tL 3 rfl rfl (fun _ h=>h.zS 0 rfl i qf) H ?_
  refine rtl 4 H ?_
  refine rtp 5 (yI i) H ?_
  obtain⟨b9,o10,rfl⟩:=H.addr 1 rfl qf
  refine tI 6 rfl rfl rfl H ?_
  refine tL 7 rfl rfl (fun _ h=>h.zS 1 rfl i qf) H ?_
  refine rtl 8 H ?_
  refine xC qh<|t_n<|zX _ rfl (fun cZ=>?_)<|fun cZ=>?_
  ·replace cZ:=bne_iff_ne.1 cZ
   refine zcr<|sp (Bv false)<|zjr<|zr5<|rH1 (Bv false) H ?_
   rw[decide_eq_false (fun e=>by subst e;omega)]
  replace cZ:=xA cZ
  refine qZ<|b_n<|t_n<|xX<|sp (yI i)<|sw<|zC i 1 rfl rfl qf<|sq 1<|xZ<|xh (m':=(a.length-((i+1):Int)).toNat) qf ⟨_,i+1,uE3,?_,?_,rfl,N,H⟩
  ·omega
  ·exact eqTo_succ qf qf i1 qg
 refine zx4<|zcr<|sp (Bv true)<|zjr<|rH1 (Bv true) H ?_
 rw[decide_eq_true<|eq_of_take (k:=i) qf qf i1]
theorem specSame_ok(w:World)(a:qG)(b:qG){dM:yOA}{dH:Nat}{ni:yLN}{fU:yOA}{ew:Nat}{tA:yLN}{V4:yOA}{VZ:Nat}{kR:yLN}{dC:yOA}{dJ:Nat}{oo:yLN}{fD:yOA}{dW:Nat}{tY:yLN}{V3:yOA}{VY:Nat}{lM:yLN}(gQ:zP w ni dM dH a.qK)(gT:zP w tA fU ew a.qQ)(eJ:zP w kR V4 VZ a.qJ)(eF:zP w oo dC dJ b.qK)(gU:zP w tY fD dW b.qQ)(df:zP w lM V3 VY b.qJ):Calls Tryz.prog 22 #[.agg #[Sv dM a.qK.length dH,Sv fU a.qQ.length ew,Sv V4 a.qJ.length VZ],.agg #[Sv dC b.qK.length dJ,Sv fD b.qQ.length dW,Sv V3 b.qJ.length VY]] w (Ret (fun v w'=>v=Bv (decide<|a=b)) w):=by
 refine en func22 ntmps22 ?_
 have H:=((((((St.start w).arg df).arg gU).arg eF).arg eJ).arg gT).arg gQ
 clear gQ gT eJ eF gU df
 refine zcr<|sw<|zN H (yT a dM dH fU ew V4 VZ) fun b1 w2 H=>sw<|zN H (yT b dC dJ fD dW V3 VY) fun b3 w4 H=>sp (Bv false)<|zjc<|sw<|oq (l02Same_ok _ a b (qC (H.cells 1 rfl) 0 3) (H.get 0 rfl).1 (H.get 1 rfl).1 (H.get 2 rfl).1 (qC (H.cells 0 rfl) 0 3) (H.get 3 rfl).1 (H.get 4 rfl).1 (H.get 5 rfl).1) H fun w6 H=>sq 1<|zjr<|rH1 (Bv<|decide<|a=b) H ?_
 rfl
theorem isHalted_ok(w:World)(s:qH)(t:qG)(xe:zP w xu qF qE s.qA)(xE:zP w xW qO qN s.qB)(xR:zP w zk qV qU t.qK)(zu:zP w zF xm xk t.qQ)(xB:zP w xJ qM qL t.qJ)(p0:vz s/\xK s t):Calls Tryz.prog 34 #[.agg #[yI s.zf,Sv qF s.qA.length qE,Sv qO s.qB.length qN],.agg #[Sv qV t.qK.length qU,Sv xm t.qQ.length xk,Sv qM t.qJ.length qL]] w (Ret (fun v w'=>v=.tuple #[Bv<|dec<|Halted s t,yI 0]) w):=by
 refine en func34 ntmps34 ?_
 have H:=(((((St.start w).arg xB).arg zu).arg xR).arg xE).arg xe
 clear xe xE xR zu xB
 have p1:=p0.1
 have p2:=p0.2
 refine zcr<|sw<|zN H (yS s qF qE qO qN) fun b1 w2 H=>sw<|zN H (yT t qV qU xm xk qM qL) fun b3 w4 H=>sp (Bv false)<|sp (yI 0)<|zjcc<|sw<|xy (yS s qF qE qO qN) isAgg27 sizeOf27 rfl (qC (H.cells 1 rfl) 0 3)<|sw<|xy (yT t qV qU xm xk qM qL) isAgg31 sizeOf31 rfl (qC (H.cells 0 rfl) 0 3)<|sw<|oq (QA _ s t (H.get 0 rfl).1 (H.get 1 rfl).1 (H.get 2 rfl).1 (H.get 3 rfl).1 (H.get 4 rfl).1) H fun w6 H=>sq 1<|zjn<|cQ rfl (fun h8=>?_)<|fun h8=>?_
 ·exact absurd p0 h8
 refine qZ<|t_n<|zcr<|sw<|xy (yS s qF qE qO qN) isAgg27 sizeOf27 rfl (qC (H.cells 1 rfl) 0 3)<|sw<|xy (yT t qV qU xm xk qM qL) isAgg31 sizeOf31 rfl (qC (H.cells 0 rfl) 0 3)<|sw<|oc (Xn _ s t (H.get 0 rfl).1 (H.get 1 rfl).1 (H.get 2 rfl).1 (H.get 3 rfl).1 (H.get 4 rfl).1 qg qg) ?_
 rintro _ ov ⟨ra9,rn9,mW,rfl,M,K⟩ _
 replace H:=H.merge K M
 obtain rfl:=H.jy 0 rfl
 refine oN rfl<|sp (Bv (((appls s t).length:Int) == 0))<|sp (Bv (((appls s t).length:Int) == 0))<|sp (yI 0)<|zjr<|ret2 (Bv (((appls s t).length:Int) == 0)) (yI 0) rfl rfl rfl ⟨_,rfl,?_,H.base⟩
 rw[halt_eq]
end
section
theorem get_set{α:Type}[Inhabited α](l:List α)(i j:Nat)(v:α)(hi:i<l.length):(l.set i v)[j]! =if i=j then v else l[j]! :=by
 by_cases hj:j<l.length
 ·rw[getElem!_pos _ _<|by rw[List.length_set];exact hj,List.getElem_set,getElem!_pos l j hj]
 ·rw[getElem!_neg _ _<|by rw[List.length_set];exact hj,getElem!_neg l j hj,if_neg qf]
theorem plusL_get{l m:yLI}(h:j<l.length):(jX l m 1)[j]! =l[j]! +m[j]! :=by
 rw[getElem!_pos _ _<|by rw[Xh];exact h]
 simp[jX,plusTo]
theorem rep_get(n j:Nat):(List.replicate n (0:Int))[j]! =0:=by
 by_cases h:j<n
 ·rw[getElem!_pos _ _<|by simpa using h];simp
 ·rw[getElem!_neg _ _<|by simpa using h];rfl
def kidIn(s:qH)(t:qG)(k:Int)(j:Nat):Bool:=t.qK[j]! && (x9 s t j == k)
def kidsTo(s:qH)(t:qG)(k:Int)(n:Nat):yLI:=((List.range n).filter<|kidIn s t k).map fun j:Nat=>(j:Int)
section
variable{s : qH}{t : qG}{c : Int}
structure Vx(s:qH)(t:qG)(c:Int):Prop where
 frame:yP s
 state:xK s t
 cell:CellIn s c
 skin:c≠0
 alive:t.qK[c.toNat]! =true
theorem Vx.pos(h:Vx s t c):0<c:=by have:=h.cell.1;have:=h.skin;omega
theorem Vx.par(h:Vx s t c):0<=x9 s t c/\x9 s t c<c/\t.qK[(x9 s t c).toNat]! =true:=Vk h.frame h.state.2.2.1 h.pos h.cell.2
theorem Vx.alive'(h:Vx s t c)(j:Nat):(melted s t c).qK[j]! =if c.toNat=j then false else t.qK[j]! :=by
 have:=h.cell;have:=h.state.1
 exact get_set _ _ _ _ qf
theorem Vx.bags'(h:Vx s t c)(j:Nat):(melted s t c).qQ[j]! =if c.toNat=j then List.replicate s.zf.toNat 0 else if (x9 s t c).toNat=j then jX (t.qQ[(x9 s t c).toNat]!) (t.qQ[c.toNat]!) 1 else t.qQ[j]! :=by
 have:=h.cell;have:=h.state.2.1;have hp:=h.par
 show ((t.qQ.set _ _).set _ _)[j]! =_
 rw[get_set _ _ _ _<|by rw[List.length_set];omega,get_set _ _ _ _ qf]
def Few5(t:qG):Prop:=(∀k,k<t.qQ.length->∀j,j<(t.qQ[k]!).length->(t.qQ[k]!)[j]! <=5)/\∀j,j<t.qJ.length->t.qJ[j]! <=5
def allTo(t:qG):Nat->yLI
 |0=>t.qJ
 |k+1=>jX (allTo t k) (t.qQ[k]!) 1
theorem allTo_len(t:qG):∀k,(allTo t k).length=t.qJ.length
 |0=>rfl
 |k+1=>by rw[allTo,Xh,allTo_len t k]
def colTo(t:qG)(j:Nat):Nat->Int
 |0=>0
 |k+1=>colTo t j k+(t.qQ[k]!)[j]!
theorem allTo_get(t:qG){j:Nat}(hj:j<t.qJ.length):∀k,(allTo t k)[j]! =t.qJ[j]! +colTo t j k
 |0=>by simp[allTo,colTo]
 |k+1=>by
  rw[allTo,plusL_get<|by rw[allTo_len];exact hj,allTo_get t hj k,colTo]
  omega
theorem Vx.lens(h:Vx s t c)(hk:k<s.qA.length):(t.qQ[k]!).length=s.zf.toNat:=by
 have:=(h.state.bagLen (k:=k)<|by rw[h.state.2.1];exact hk).2
 omega
theorem Vx.col(h:Vx s t c){j:Nat}(hj:j<s.zf.toNat):∀k,colTo (melted s t c) j k=colTo t j k+(if (x9 s t c).toNat<k then (t.qQ[c.toNat]!)[j]! else 0)-(if c.toNat<k then (t.qQ[c.toNat]!)[j]! else 0)
 |0=>by simp[colTo]
 |k+1=>by
  have hp:=h.par
  have hc:=h.cell
  rw[colTo,colTo,Vx.col h hj k,h.bags']
  by_cases e1:c.toNat=k
  ·subst e1
   rw[if_pos rfl,rep_get,if_neg<|show ¬c.toNat<c.toNat by omega,if_pos<|show c.toNat<c.toNat+1 by omega,if_pos<|show (x9 s t c).toNat<c.toNat by omega,if_pos<|show (x9 s t c).toNat<c.toNat+1 by omega]
   omega
  ·rw[if_neg e1]
   by_cases e2:(x9 s t c).toNat=k
   ·subst e2
    rw[if_pos rfl,plusL_get<|by rw[h.lens qf];exact hj,if_neg<|show ¬(x9 s t c).toNat<(x9 s t c).toNat by omega,if_pos<|show (x9 s t c).toNat<(x9 s t c).toNat+1 by omega,
     if_neg (show ¬c.toNat<(x9 s t c).toNat by omega),if_neg<|show ¬c.toNat<(x9 s t c).toNat+1 by omega]
    omega
   ·rw[if_neg e2]
    have a1:((x9 s t c).toNat<k+1)=((x9 s t c).toNat<k):=by apply propext;omega
    have a2:(c.toNat<k+1)=(c.toNat<k):=by apply propext;omega
    simp only[a1,a2]
    omega
theorem Vx.total(h:Vx s t c):allTo (melted s t c) s.qA.length=allTo t s.qA.length:=by
 have hp:=h.par
 have hc:=h.cell
 have hl:(melted s t c).qJ=t.qJ:=rfl
 have hk:t.qJ.length=s.zf.toNat:=by have:=h.state.2.2.2.1.2;omega
 apply List.ext_getElem
 ·rw[allTo_len,allTo_len,hl]
 ·intro j h1 h2
  rw[allTo_len] at h2
  rw[←getElem!_pos,←getElem!_pos,allTo_get _<|by rw[hl];exact h2,allTo_get _ h2,h.col qf,if_pos qf,if_pos qf,hl]
  omega
theorem Vx.ok(h:Vx s t c)(hf:Few5 t):xK s (melted s t c):=by
 have hp:=h.par
 have hc:=h.cell
 have ht:=h.state
 have e1:(melted s t c).qK.length=t.qK.length:=by simp[melted]
 have e2:(melted s t c).qQ.length=t.qQ.length:=by simp[melted]
 refine⟨by rw[e1];exact ht.1,by rw[e2];exact ht.2.1,by rw[h.alive',if_neg (by have:=h.pos;omega)];exact ht.2.2.1,ht.2.2.2.1,fun k hk=>?_⟩
 rw[e2] at hk
 rw[h.bags',h.alive']
 have hkk:=ht.2.1
 by_cases g1:c.toNat=k
 ·rw[if_pos g1,if_pos g1]
  have hK:=h.frame.1
  refine⟨⟨⟨fun j hj=>by rw[rep_get];omega,by simp;omega,by simp;omega⟩,by simp;omega⟩,fun _=>?_⟩
  have hz:∀n,sumTo (List.replicate s.zf.toNat 0) n=0:=by
   intro n
   induction n with
   |zero=>simp[sumTo]
   |succ n ih=>simp only[sumTo,ih,rep_get];omega
  unfold Xr
  rw[hz]
  omega
 ·rw[if_neg g1,if_neg g1]
  by_cases g2:(x9 s t c).toNat=k
  ·rw[if_pos g2]
   subst g2
   have bp:=ht.bagLen hk
   have bc:=ht.bagLen (k:=c.toNat) qf
   refine⟨⟨⟨fun j hj=>?_,by rw[Xh];exact bp.1.2.1,by rw[Xh];exact bp.1.2.2⟩,by rw[Xh];exact bp.2⟩,fun hd=>?_⟩
   ·rw[Xh] at hj
    rw[plusL_get hj]
    have Fq:j<(t.qQ[c.toNat]!).length:=by have:=bp.2;have:=bc.2;omega
    have a1:=bp.1.1 j hj
    have a2:=bc.1.1 j Fq
    have a3:=hf.1 _ hk j hj
    have a4:=hf.1 c.toNat qf j Fq
    omega
   ·rw[hp.2.2] at hd;cases hd
  ·rw[if_neg g2]
   exact ht.2.2.2.2 k hk
end
def StillTo(s:qH)(k:Nat):Prop:=∀i,i<k->(s.qB[i]!).jY=false
theorem StillTo.succ(h:StillTo s k)(h1:(s.qB[k]!).jY=false):StillTo s (k+1):=fun j hj=>by
 by_cases e:j=k
 ·subst e;exact h1
 ·exact h j qf
def WholeTo(t:qG)(k:Nat):Prop:=∀c,c<k->t.qK[c]! =true
theorem WholeTo.succ(h:WholeTo t k)(h1:t.qK[k]! =true):WholeTo t (k+1):=fun j hj=>by
 by_cases e:j=k
 ·subst e;exact h1
 ·exact h j qf
abbrev Whole(t:qG):Prop:=WholeTo t t.qK.length
def TookOk(s:qH)(l:yLI)(i:Nat):Prop:=l.length=yE s/\∀q,q<yE s-> -(1000000*(i:Int))<=l[q]! /\l[q]! <=1000000*(i:Int)
theorem TookOk.zero(s:qH):TookOk s (List.replicate s.zf.toNat 0) 0:=by
 refine⟨by simp[yE],fun k hk=>?_⟩
 rw[getElem!_pos (List.replicate s.zf.toNat (0:Int)) k<|by simpa [yE] using hk];simp
theorem TookOk.keep{l:yLI}(h:TookOk s l i):TookOk s l (i+1):=⟨h.1,fun q hq=>by have:=h.2 q hq;omega⟩
theorem TookOk.plus{l m:yLI}(h:TookOk s l i)(hm:jm s.zf m)(hn: -1000<=n/\n<=1000):TookOk s (jX l m n) (i+1):=by
 refine⟨by rw[Xh];exact h.1,fun q hq=>?_⟩
 rw[XM<|by rw[h.1];exact hq]
 have:=h.2 q hq
 have:=hm.mul hn q hq
 omega
theorem TookOk.mid{l:yLI}(h:TookOk s l i)(hi:i<=16)(hk:yE s<=8):l.length=yE s/\Mid l:=by
 refine⟨h.1,by have:=h.1;omega,fun q hq=>?_⟩
 have:=h.2 q (by have:=h.1;omega)
 omega
def AllBags(b:yLL)(k:Nat):Prop:=∀j,j<k->XZ (b[j]!)
theorem AllBags.succ{b:yLL}(h:AllBags b k)(h1:XZ (b[k]!)):AllBags b (k+1):=fun j hj=>by
 by_cases e:j=k
 ·subst e;exact h1
 ·exact h j qf
open Classical in
noncomputable def pnV(s:qH)(t:qG)(c:Int):Int:=if cellCodeOf s t c=0 then x9 s t c else 0
open Classical in
noncomputable def kidsV(s:qH)(t:qG)(c:Int):yLI:=if cellCodeOf s t c=0 then kidsTo s t c s.qA.length else []
structure CanAdd(a b:yLI):Prop where
 one:XZ a
 two:XZ b
 len:a.length=b.length
 sum:XZ (jX a b 1)
structure TreeAt(s:qH)(t:qG)(c:Int):Prop where
 code:(meltRes s t c).2=0
 cc:cellCodeOf s t c=0
 ok:vz s/\xK s (meltRes s t c).1
 dead:(meltRes s t c).1.qK[c.toNat]! =false
 par:0<=pnV s t c/\pnV s t c<s.qA.length
 kids:∀i,i<(kidsV s t c).length->cellCodeOf s (meltRes s t c).1 ((kidsV s t c)[i]!)=0/\pnV s (meltRes s t c).1 ((kidsV s t c)[i]!)=pnV s t c
 few:(kidsV s t c).length<=6
 total:allTo (meltRes s t c).1 s.qA.length=allTo t s.qA.length
 bag:XZ (allTo t s.qA.length)
 add:CanAdd (t.qQ[(pnV s t c).toNat]!) (t.qQ[c.toNat]!)
 sum:jX (t.qQ[(pnV s t c).toNat]!) (t.qQ[c.toNat]!) 1=(meltRes s t c).1.qQ[(pnV s t c).toNat]!
end
section
theorem specValid_ok(w:World)(s:qH)(t:qG)(xe:zP w xu qF qE s.qA)(xE:zP w xW qO qN s.qB)(xR:zP w zk qV qU t.qK)(zu:zP w zF xm xk t.qQ)(xB:zP w xJ qM qL t.qJ):Calls Tryz.prog 33 #[.agg #[yI s.zf,Sv qF s.qA.length qE,Sv qO s.qB.length qN],.agg #[Sv qV t.qK.length qU,Sv xm t.qQ.length xk,Sv qM t.qJ.length qL]] w (Ret (fun v w'=>v=Bv (dec<|vz s/\xK s t)) w):=by
 refine en func33 ntmps33 ?_
 have H:=(((((St.start w).arg xB).arg zu).arg xR).arg xE).arg xe
 clear xe xE xR zu xB
 refine zcr<|sw<|zN H (yS s qF qE qO qN) fun b1 w2 H=>sw<|zN H (yT t qV qU xm xk qM qL) fun b3 w4 H=>sp (Bv false)<|zjc<|sw<|oq (l02Ok_ok _ s (qC (H.cells 1 rfl) 0 3) (H.get 0 rfl).1 (H.get 1 rfl).1) H fun w5 H=>sp (Bv<|dec<|vz s) ?_
 cases h7:(dec (vz s))
 ·replace h7:=vF h7
  refine xY [7]<|sp (Bv false)<|sp (Bv false)<|zjr<|rH1 (Bv false) H ?_
  rw[xw<|fun h=>‹¬vz s› h.1]
 replace h7:=Qc h7
 refine qP 6 rfl rfl<|sw<|oq (l02State_ok _ s t (qC (H.cells 1 rfl) 0 3) (H.get 0 rfl).1 (H.get 1 rfl).1 (qC (H.cells 0 rfl) 0 3) (H.get 2 rfl).1 (H.get 3 rfl).1 (H.get 4 rfl).1<|by exact(And.left (by assumption:vz _))) H fun w8 H=>sq 2<|zjr<|rH1 (Bv<|dec<|xK s t) H ?_
 rw[dec_congr<|show xK s t<->vz s/\xK s t from⟨fun h=>⟨by assumption,h⟩,fun h=>h.2⟩]
end
section
noncomputable def saGo(s:qH):List qG->List qG->List qG×Int
 | [],out=>(out,0)
 |u::l,out=>if (qW s u).2≠0 then ([],(qW s u).2) else if (vC out (qW s u).1 (qW s u).1.length).1.length>300 then ([],3) else saGo s l (vC out (qW s u).1 (qW s u).1.length).1
noncomputable def saRun(s:qH):Nat->List qG->List qG×Int
 |0,l=>(l,0)
 |n+1,l=>if (saGo s l []).2≠0 then ([],(saGo s l []).2) else saRun s n (saGo s l []).1
open Classical in
noncomputable def Va(s:qH)(t:qG)(n:Int):List qG×Int:=if vz s/\xK s t then (if 0<=n/\n<=200 then saRun s n.toNat [t] else ([],2)) else ([],1)
theorem sa_cons{α:Type}[Inhabited α]{l:List α}(h:i<l.length):l.drop i=l[i]! :: l.drop (i+1):=by rw[getElem!_pos l i h];exact List.drop_eq_getElem_cons h
theorem sa_end{l out:List qG}(h:l.length<=i):saGo s (l.drop i) out=(out,0):=by rw[List.drop_of_length_le h];rfl
theorem sa_code{l out:List qG}(h:i<l.length)(h1:(qW s<|l[i]!).2≠0):saGo s (l.drop i) out=([],(qW s<|l[i]!).2):=by rw[sa_cons h,saGo,if_pos h1]
theorem sa_many{l out:List qG}(h:i<l.length)(h1:(qW s<|l[i]!).2=0)(hk:k=(qW s<|l[i]!).1.length)(h2:(vC out (qW s<|l[i]!).1 k).1.length>300):saGo s (l.drop i) out=([],3):=by
 subst hk;rw[sa_cons h,saGo,if_neg<|fun x=>x h1,if_pos h2]
theorem sa_go{l out:List qG}(h:i<l.length)(h1:(qW s<|l[i]!).2=0)(hk:k=(qW s<|l[i]!).1.length)(h2:¬(vC out (qW s<|l[i]!).1 k).1.length>300):
 saGo s (l.drop i) out=saGo s (l.drop<|i+1) (vC out (qW s<|l[i]!).1 k).1:=by
 subst hk;rw[sa_cons h,saGo,if_neg<|fun x=>x h1,if_neg h2]
theorem sr_nil{s:qH}:∀n,saRun s n []=([],0)
 |0=>rfl
 |n+1=>by rw[saRun,if_neg<|by simp[saGo]];exact sr_nil n
theorem sr_end{l:List qG}{n:Nat}(h:n=0\/l.length=0):saRun s n l=(l,0):=by
 rcases h with rfl|h
 ·rfl
 ·obtain rfl:=List.eq_nil_of_length_eq_zero h;exact sr_nil n
theorem sr_go{l:List qG}{n:Nat}(hn:0<n)(h:saGo s l []=(l',0)):saRun s n l=saRun s (n-1) l':=by
 obtain⟨n,rfl⟩:∃m,n=m+1:=⟨n-1,by omega⟩
 rw[saRun,h,if_neg qm];rfl
theorem sr_err{l:List qG}{c:Int}{n:Nat}(hn:0<n)(h:saGo s l []=(l',c))(hc:c≠0):saRun s n l=([],c):=by
 obtain⟨n,rfl⟩:∃m,n=m+1:=⟨n-1,by omega⟩
 rw[saRun,h,if_pos hc]
theorem sa_1(h:¬(vz s/\xK s t)):Va s t n=([],1):=by rw[Va,if_neg h]
theorem sa_2(h:vz s/\xK s t)(h1:¬(0<=n/\n<=200)):Va s t n=([],2):=by rw[Va,if_pos h,if_neg h1]
theorem sa_0(h:vz s/\xK s t)(h1:0<=n/\n<=200):Va s t n=saRun s n.toNat [t]:=by rw[Va,if_pos h,if_pos h1]
end
section
structure GraphD where
 xq:List qG
 fNext:yLL
 deriving DecidableEq
instance:Inhabited GraphD:=⟨⟨[],[]⟩⟩
instance:Tot GraphD:=⟨fun x=>tot x.xq+tot x.fNext⟩
instance:qX GraphD where
 size:=2
 rep:=fun w F cs x=>∃(l7 vR:Value) (l0 wF:yLN),cs=[l7,vR]/\F=l0++wF/\qX.rep w l0 [l7] x.xq/\qX.rep w wF [vR] x.fNext
 len:=by rintro w F cs x ⟨l7,vR,l0,wF,rfl,_,nX,Al⟩;rfl
 one:=by
  rintro w F cs x ⟨l7,vR,l0,wF,rfl,rfl,nX,Al⟩ u hu
  simp only[List.mem_cons,List.not_mem_nil,or_false] at hu
  rcases hu with rfl|rfl <;> exact one_of ql
 stay:=by
  rintro w w' F cs x ⟨l7,vR,l0,wF,rfl,rfl,nX,Al⟩ hs
  exact⟨_,_,_,_,rfl,rfl,qX.stay nX fun b hb=>hs b<|by simp[hb],qX.stay Al fun b hb=>hs b<|by simp[hb]⟩
 lt:=by
  rintro w F cs x ⟨l7,vR,l0,wF,rfl,rfl,nX,Al⟩ b hb
  simp only[List.mem_append] at hb
  rcases hb with (hb|hb)
  ·exact qX.lt nX b hb
  ·exact qX.lt Al b hb
end
section
theorem nextTo_pos:∀ {k:Nat},0<k->0<(yV s t cs k).length
 |0,h=>by omega
 |k+1,_=>by
  rw[yV]
  split
  ·next h=>exact List.length_pos_of_mem h
  ·simp
open Classical in
theorem next_pos(h0:0<cs.length)(hc:(Q5 s t cs).2=0):0<(Q5 s t cs).1.length:=by
 by_cases h:NoBad s t cs cs.length
 ·rw[next_ok h];exact nextTo_pos h0
 ·exfalso
  obtain⟨k,hk,hb⟩:∃k,k<cs.length/\CodeBad s t cs k:=Classical.byContradiction fun hx=>h fun k hk hb=>hx ⟨k,hk,hb⟩
  obtain⟨m,h1,h2,h3⟩:=least_of (g:=fun k=>decide<|CodeBad s t cs k) k<|decide_eq_true hb
  have h2:CodeBad s t cs m:=of_decide_eq_true h2
  rw[next_bad (fun j hj=>of_decide_eq_false<|h3 j hj) qf h2] at hc
  exact h2 hc
theorem cho_pos(hs:vz s)(ht:xK s t)(h:(zK s t).2=0):0<(zK s t).1.length:=by
 by_cases h1:GoodP s t s.qA.length
 ·by_cases h2:XK (zI s t s.qA.length) (zI s t s.qA.length).length>300
  ·rw[cho_3<|.inr h2] at h;exact absurd h qj
  ·have hp:0<XK (zI s t s.qA.length) (zI s t s.qA.length).length:=
    Nat.lt_of_lt_of_le Nat.one_pos (prod_mono (packsL_ne hs ht (by have:=ht.2.1;omega) h1) (Nat.zero_le _)<|Nat.le_refl _)
   unfold zK
   rw[if_neg<|fun h'=>h' h1,if_neg h2]
   show 0<(inOrder _).length
   unfold inOrder
   split
   ·next h=>rw[←(Classical.choose_spec h).1.length_eq,XF];exact hp
   ·rw[XF];exact hp
 ·rw[cho_3<|.inl h1] at h;exact absurd h qj
theorem succ_halt(hs:vz s)(ht:xK s t)(h:(qW s t).2=0):(qW s t).1.length=0<->Halted s t:=by
 constructor
 ·intro h1
  refine Classical.byContradiction fun hh=>?_
  by_cases h2:(zK s t).2=0
  ·rw[succ_0 hh h2] at h h1
   have:=next_pos (cho_pos hs ht h2) h
   omega
  ·rw[succ_c h2] at h;exact h2 h
 ·intro hh;rw[succ_h hh];rfl
theorem addSt_get{S nx:List qG}{j:Nat}(hj:j<S.length):∀k,(vC S nx k).1[j]! =S[j]!
 |0=>rfl
 |k+1=>by
  have ih:=addSt_get (nx:=nx) hj k
  have hl:=(Xp (S:=S) (nx:=nx) k).1
  rw[vC]
  split
  ·show ((vC S nx k).1++[_])[j]! =_
   rw[getElem!_pos _ j qy,List.getElem_append_left qf,←getElem!_pos _ j qf];exact ih
  ·exact ih
structure GrAll(s:qH)(S:List qG)(R:yLL):Prop where
 ok:GrOk S R
 len:R.length=S.length
 pos:0<S.length
 le:S.length<=300
 st:∀u∈S,xK s u
 ht:∀j,j<R.length->((R[j]!).length=0<->Halted s (S[j]!))
theorem grGo_all{s:qH}(hs:vz s):∀(f i:Nat) (S:List qG) (R:yLL),f+i=302->R.length=i->i<=S.length->0<S.length->S.length<=300->(∀u∈S,xK s u)->GrOk S R→
 (∀j,j<R.length->((R[j]!).length=0<->Halted s (S[j]!)))->(grGo s f i S R).2=0->GrAll s (grGo s f i S R).1.1 (grGo s f i S R).1.2
 |f,i,S,R,hf,hR,hi,hp,hl,ha,hk,hh,h=>by
  by_cases hx:S.length<=i
  ·rw[gr_end hx];show GrAll s S R;exact⟨hk,by omega,hp,hl,ha,hh⟩
  ·by_cases hc:(qW s<|S[i]!).2=0
   ·by_cases hm:(vC S (qW s<|S[i]!).1 (qW s<|S[i]!).1.length).1.length>300
    ·rw[gr_many qf qf hc rfl hm] at h;exact absurd h qj
    ·obtain⟨f,rfl⟩:∃g,f=g+1:=⟨f-1,by omega⟩
     have e:=gr_go (R:=R) (show 0<f+1 by omega) (show i<S.length by omega) hc rfl hm
     rw[show f+1-1=f from rfl] at e
     rw[e] at h ⊢
     obtain⟨l1,l2,l3⟩:=Xp (S:=S) (nx:=(qW s<|S[i]!).1) (qW s<|S[i]!).1.length
     have hsi:xK s (S[i]!):=ha _<|by rw[getElem!_pos S i qf];exact List.getElem_mem _
     refine grGo_all hs f (i+1) _ _ qf qy qf qf qf (addSt_mem ha succ_ok _<|Nat.le_refl _) (hk.next qf<|succ_len s _) (fun j hj=>?_) h
     rw[List.length_append,List.length_singleton] at hj
     rw[addSt_get qf]
     by_cases ej:j=i
     ·subst ej
      rw[getElem!_pos _ j qy,List.getElem_append_right qf]
      simp only[hR,Nat.sub_self,List.getElem_cons_zero,l3]
      exact succ_halt hs hsi hc
     ·rw[getElem!_pos _ j qy,List.getElem_append_left qf,←getElem!_pos R j qf]
      exact hh j qf
   ·rw[gr_code qf qf hc] at h;exact absurd h hc
theorem gr_all(hs:vz s)(ht:xK s t)(h:(Yf s t).2=0):GrAll s (Yf s t).1.1 (Yf s t).1.2:=
 grGo_all hs 302 0 [t] [] rfl rfl (Nat.zero_le _) qm qm (fun u hu=>by obtain rfl:=List.mem_singleton.1 hu;exact ht) (GrOk.start t) (fun j hj=>by simp at hj) h
open Classical in
noncomputable def yG(s:qH)(t:qG):(List qG×yLL)×Int:=if vz s/\xK s t then Yf s t else (([],[]),1)
noncomputable def exG(s:qH)(t:qG):GraphD:=⟨(yG s t).1.1,(yG s t).1.2⟩
theorem ex_1(h:¬(vz s/\xK s t)):yG s t=(([],[]),1):=by rw[yG,if_neg h]
theorem ex_0(h:vz s/\xK s t){x:(List qG×yLL)×Int}(hx:Yf s t=x):yG s t=x:=by rw[yG,if_pos h,hx]
theorem exG_of{c:Int}(h:yG s t=((S,R),c)):exG s t=⟨S,R⟩/\(yG s t).2=c:=by rw[exG,h];exact⟨rfl,rfl⟩
theorem VA(h:(yG s t).2=0):vz s/\xK s t:=Classical.byContradiction fun hx=>by rw[ex_1 hx] at h;exact absurd h qj
theorem ex_all(h:(yG s t).2=0):GrAll s (exG s t).xq (exG s t).fNext:=by
 have hv:=VA h
 have e:=ex_0 hv rfl
 rw[e] at h
 have:=gr_all hv.1 hv.2 h
 rw[←e] at this;exact this
noncomputable def endsL(s:qH)(S:List qG)(k:Nat):List qG:=(S.take k).filter fun u=>dec<|Halted s u
theorem ends_yes(hk:k<S.length)(h:Halted s (S[k]!)):endsL s S k++[S[k]!]=endsL s S (k+1):=by
 unfold endsL
 rw[←take_snoc hk,List.filter_append,List.filter_cons_of_pos<|by simpa using jP h,List.filter_nil]
theorem ends_no(hk:k<S.length)(h:¬Halted s (S[k]!)):endsL s S k=endsL s S (k+1):=by
 unfold endsL
 rw[←take_snoc hk,List.filter_append,List.filter_cons_of_neg<|by rw[xw h];decide,List.filter_nil,List.append_nil]
theorem ends_len(s:qH)(S:List qG)(k:Nat):(endsL s S k).length<=S.length:=Nat.le_trans (List.length_filter_le _ _)<|by rw[List.length_take];omega
def idxL(R:yLL)(k:Nat):yLI:=((List.range k).filter fun i=>decide ((R[i]!).length=0)).map fun(i:Nat)=>(i:Int)
theorem idx_yes(h:(R[k]!).length=0):idxL R k++[(k:Int)]=idxL R (k+1):=by
 unfold idxL
 rw[List.range_succ,List.filter_append,List.filter_cons_of_pos<|by simpa using h,List.filter_nil,List.map_append];rfl
theorem idx_no(h:¬(R[k]!).length=0):idxL R k=idxL R (k+1):=by
 unfold idxL
 rw[List.range_succ,List.filter_append,List.filter_cons_of_neg<|by simpa using h,List.filter_nil,List.append_nil]
theorem idx_len(R:yLL)(k:Nat):(idxL R k).length<=k:=by
 unfold idxL;rw[List.length_map];exact Nat.le_trans (List.length_filter_le _ _) qm
theorem idx_at(hq:q<(idxL R k).length):0<=(idxL R k)[q]! /\((idxL R k)[q]!).toNat<k:=by
 have hm:(idxL R k)[q]! ∈idxL R k:=by rw[getElem!_pos _ q hq];exact List.getElem_mem hq
 unfold idxL at hm
 obtain⟨i,hi,e⟩:=List.mem_map.1 hm
 have:=List.mem_range.1 (List.mem_filter.1 hi).1
 unfold idxL
 omega
theorem idx_up{p:Nat}(hpq:p<q)(hq:q<(idxL R k).length):((idxL R k)[p]!).toNat<((idxL R k)[q]!).toNat:=by
 have h:=(List.pairwise_lt_range (n:=k)).filter<|fun i=>decide ((R[i]!).length=0)
 rw[getElem!_pos _ p qf,getElem!_pos _ q hq]
 unfold idxL at hq ⊢
 rw[List.length_map] at hq
 rw[List.getElem_map,List.getElem_map]
 have:=List.pairwise_iff_getElem.1 h p q qf hq hpq
 omega
theorem idx_ends{s:qH}{S:List qG}{R:yLL}(h:GrAll s S R):∀k,k<=R.length->(idxL R k).map (fun i=>S[i.toNat]!)=endsL s S k
 |0,_=>rfl
 |k+1,hk=>by
  have ih:=idx_ends h k qf
  have hl:=h.len
  by_cases e:(R[k]!).length=0
  ·rw[←idx_yes e,List.map_append,ih,←ends_yes qf ((h.ht k qf).1 e)];rfl
  ·rw[←idx_no e,ih,ends_no qf<|fun hh=>e ((h.ht k qf).2 hh)]
theorem map_snoc!{α β:Type}[Inhabited α]{f:α->β}{l:List α}(h:q<l.length):(l.take q).map f++[f<|l[q]!]=(l.take<|q+1).map f:=by
 rw[←take_snoc h,List.map_append];rfl
noncomputable def vK(s:qH)(t:qG):List qG×Int:=if (yG s t).2=0 then (endsL s (exG s t).xq (exG s t).xq.length,0) else ([],(yG s t).2)
theorem hs_c(h:(yG s t).2≠0):vK s t=([],(yG s t).2):=by rw[vK,if_neg h]
theorem hs_0(h:(yG s t).2=0):vK s t=(endsL s (exG s t).xq (exG s t).xq.length,0):=by rw[vK,if_pos h]
theorem hs_i(h:(yG s t).2=0)(hq:(idxL (exG s t).fNext (exG s t).fNext.length).length<=q):vK s t=(((idxL (exG s t).fNext (exG s t).fNext.length).take q).map<|fun i=>(exG s t).xq[i.toNat]!,0):=by
 have ga:=ex_all h
 rw[hs_0 h,List.take_of_length_le hq,idx_ends ga _<|Nat.le_refl _,ga.len]
open Classical in
noncomputable def icRes(s:qH)(t:qG):Bool×Int:=if (yG s t).2=0 then (if Halts (exG s t).fNext 0 then decide ((endsL s (exG s t).xq (exG s t).xq.length).length=1) else false,0) else (false,(yG s t).2)
theorem ic_c(h:(yG s t).2≠0):icRes s t=(false,(yG s t).2):=by rw[icRes,if_neg h]
theorem ic_n(h:(yG s t).2=0)(h1:¬Halts (exG s t).fNext 0):icRes s t=(false,0):=by rw[icRes,if_pos h,if_neg h1]
theorem ic_y(h:(yG s t).2=0)(h1:Halts (exG s t).fNext 0)(hi:i=(exG s t).xq.length):icRes s t=(decide ((endsL s (exG s t).xq i).length=1),0):=by rw[icRes,if_pos h,if_pos h1,hi]
theorem ic_i(h:(yG s t).2=0)(h1:Halts (exG s t).fNext 0)(hi:i=(exG s t).fNext.length):icRes s t=(decide ((idxL (exG s t).fNext i).length=1),0):=by
 have ga:=ex_all h
 rw[ic_y h h1 rfl,hi]
 have e:=congrArg List.length<|idx_ends ga _<|Nat.le_refl _
 rw[List.length_map,ga.len] at e
 rw[←e,ga.len]
theorem dec_one{n:Nat}(h:n=m):((decide<|m=1,(0:Int)):Bool×Int)=(((n:Int) == 1),0):=by
 subst h
 refine Prod.ext ?_ rfl
 show decide (n=1)=((n:Int) == 1)
 rw[Bool.eq_iff_iff];simp;omega
theorem firstIdx_get{g:Nat->Bool}{n:Nat}(h:0<=firstIdx g n):g (firstIdx g n).toNat=true:=by
 by_cases hx:∃k,k<n/\g k=true
 ·obtain⟨k,hk,h1⟩:=hx
  obtain⟨m,a,b,c⟩:=least_of k h1
  rw[Xj (show m<n by omega) c b];exact b
 ·rw[firstIdx_none (fun j hj=>by
   cases e:g j with
   |false=>rfl
   |true=>exact absurd ⟨j,hj,e⟩ hx)] at h
  omega
theorem snoc_lt{α:Type}[Inhabited α]{l:List α}{x:α}(h:q<l.length):(l++[x])[q]! =l[q]! :=by
 rw[getElem!_pos _ q qy,getElem!_pos _ q h,List.getElem_append_left]
theorem snoc_eq{α:Type}[Inhabited α]{l:List α}{x:α}:(l++[x])[l.length]! =x:=by
 rw[getElem!_pos _ l.length qm];simp
theorem addSt_nx{S nx:List qG}:∀k,∀q,q<k->(vC S nx k).1[((vC S nx k).2[q]!).toNat]! =nx[q]!
 |0,q,hq=>by omega
 |k+1,q,hq=>by
  have ih:=addSt_nx (S:=S) (nx:=nx) k
  obtain⟨h1,h2⟩:=addSt_rows (S:=S) (nx:=nx) k
  obtain⟨l1,l2,l3⟩:=Xp (S:=S) (nx:=nx) k
  rw[vC]
  split
  ·show ((vC S nx k).1++[_])[(((vC S nx k).2++[_])[q]!).toNat]! =_
   by_cases e:q=k
   ·subst e
    rw[show ((vC S nx q).2++[((vC S nx q).1.length:Int)])[q]! =((vC S nx q).1.length:Int) from by have:=snoc_eq (l:=(vC S nx q).2) (x:=((vC S nx q).1.length:Int));rwa [l3] at this]
    rw[Int.toNat_natCast];exact snoc_eq
   ·rw[show ((vC S nx k).2++[((vC S nx k).1.length:Int)])[q]! =(vC S nx k).2[q]! from snoc_lt qf,snoc_lt (h1 q qf).2];exact ih q qf
  ·next hn=>
   show (vC S nx k).1[(((vC S nx k).2++[_])[q]!).toNat]! =_
   by_cases e:q=k
   ·subst e
    have hx:=snoc_eq (l:=(vC S nx q).2) (x:=firstIdx (fun j=>decide ((vC S nx q).1[j]! =nx[q]!)) (vC S nx q).1.length)
    rw[l3] at hx
    rw[hx]
    exact of_decide_eq_true<|firstIdx_get (g:=fun j=>decide ((vC S nx q).1[j]! =nx[q]!)) qf
   ·rw[snoc_lt qf];exact ih q qf
theorem grGo_ind{s:qH}{p:List qG->yLL->Prop}
 (hs:∀S R,R.length<S.length->p S R->(qW s<|S[R.length]!).2=0->p (vC S (qW s<|S[R.length]!).1 (qW s<|S[R.length]!).1.length).1 (R++[(vC S (qW s<|S[R.length]!).1 (qW s<|S[R.length]!).1.length).2])):
 ∀(f:Nat) (S:List qG) (R:yLL),p S R->(grGo s f R.length S R).2=0->p (grGo s f R.length S R).1.1 (grGo s f R.length S R).1.2
 |0,S,R,hp,_=>hp
 |f+1,S,R,hp,h=>by
  rw[grGo] at h ⊢
  split
  ·exact hp
  ·next hx=>
   rw[if_neg hx] at h
   split
   ·next hy=>rw[if_pos hy] at h;exact absurd h hy
   ·next hy=>
    rw[if_neg hy] at h
    split
    ·next hz=>rw[if_pos hz] at h;exact absurd h qj
    ·next hz=>
     rw[if_neg hz] at h
     have e:R.length+1=(R++[(vC S (qW s<|S[R.length]!).1 (qW s<|S[R.length]!).1.length).2]).length:=by simp
     rw[e] at h ⊢
     exact grGo_ind hs f _ _ (hs S R qf hp<|Classical.byContradiction hy) h
def GrNx(s:qH)(S:List qG)(R:yLL):Prop:=∀i,i<R.length->(qW s<|S[i]!).2=0/\∀k,k<(R[i]!).length->k<(qW s<|S[i]!).1.length/\S[((R[i]!)[k]!).toNat]! =(qW s<|S[i]!).1[k]!
theorem gr_nx(h:(Yf s t).2=0):GrNx s (Yf s t).1.1 (Yf s t).1.2:=by
 refine(grGo_ind (s:=s) (p:=fun S R=>GrOk S R/\R.length<=S.length/\GrNx s S R) ?_ 302 [t] [] ⟨GrOk.start t,by simp,fun i hi=>by simp at hi⟩ h).2.2
 intro S R hl ⟨h1,h2,h3⟩ hc
 obtain⟨l1,l2,l3⟩:=Xp (S:=S) (nx:=(qW s<|S[R.length]!).1) (qW s<|S[R.length]!).1.length
 refine⟨h1.next hl<|succ_len s _,by rw[List.length_append,List.length_singleton];omega,fun i hi=>?_⟩
 rw[List.length_append,List.length_singleton] at hi
 rw[addSt_get qf]
 by_cases e:i=R.length
 ·subst e
  rw[snoc_eq]
  exact⟨hc,fun k hk=>⟨by omega,addSt_nx _ k qf⟩⟩
 ·rw[snoc_lt qf]
  obtain⟨a,b⟩:=h3 i qf
  exact⟨a,fun k hk=>⟨(b k hk).1,by rw[addSt_get (h1.rows i qf k hk).2];exact(b k hk).2⟩⟩
theorem ex_nx(h:(yG s t).2=0):GrNx s (exG s t).xq (exG s t).fNext:=by
 have e:=ex_0 (VA h) rfl
 rw[e] at h
 have:=gr_nx h
 rw[←e] at this;exact this
def InTo(R:yLL)(i j q:Nat):Prop:=∃k,k<q/\((R[i]!)[k]!).toNat=j
def InRow(R:yLL)(i j:Nat):Prop:=InTo R i j (R[i]!).length
def FromGe(R:yLL)(lo j i:Nat):Prop:=lo<=i/\i<R.length/\InRow R i j/\∀i',lo<=i' ->i'<i->¬InRow R i' j
open Classical in
noncomputable def frm(R:yLL)(j:Nat):Nat:=if h:∃i,FromGe R 0 j i then h.choose else 0
theorem FromGe.same{i':Nat}(h:FromGe R lo j i)(h':FromGe R lo j i'):i=i':=by
 rcases Nat.lt_trichotomy i i' with h1|h1|h1
 ·exact absurd h.2.2.1<|h'.2.2.2 i h.1 h1
 ·exact h1
 ·exact absurd h'.2.2.1<|h.2.2.2 i' h'.1 h1
theorem frm_of(h:FromGe R 0 j i):frm R j=i:=by
 have hx:∃i,FromGe R 0 j i:=⟨i,h⟩
 rw[frm,dif_pos hx];exact hx.choose_spec.same h
open Classical in
theorem frm_ok(h:GrOk S R)(h0:0<j)(hj:j<S.length):FromGe R 0 j (frm R j)/\frm R j<j:=by
 obtain⟨i,h1,h2,k,hk,he⟩:=h.from' j h0 hj
 obtain⟨m,a,b,c⟩:=least_of (g:=fun i=>decide<|InRow R i j) i<|decide_eq_true ⟨k,hk,by omega⟩
 have hf:FromGe R 0 j m:=⟨Nat.zero_le _,by omega,of_decide_eq_true b,fun i' _ ox =>of_decide_eq_false<|c i' ox⟩
 rw[frm_of hf];exact⟨hf,by omega⟩
def FGe(R:yLL)(F:yLI)(lo:Nat):Prop:=∀j,j<F.length->∀i,FromGe R lo j i->F[j]! =(i:Int)
def FMid(R:yLL)(F:yLI)(i q:Nat):Prop:=∀j,j<F.length->(InTo R i j q->F[j]! =(i:Int))/\(¬InTo R i j q->∀i',FromGe R (i+1) j i' ->F[j]! =(i':Int))
theorem FGe.start{F:yLI}(h:R.length<=lo):FGe R F lo:=fun j _ i hi=>by have:=hi.1;have:=hi.2.1;omega
theorem FMid.start{F:yLI}(h:FGe R F (i+1)):FMid R F i 0:=fun j hj=>⟨fun⟨k,hk,_⟩=>by omega,fun _=>h j hj⟩
theorem FMid.step{F:yLI}(h:FMid R F i q)(hc:((R[i]!)[q]!).toNat=c):FMid R (F.set c (i:Int)) i (q+1):=fun j hj=>by
 subst hc
 rw[List.length_set] at hj
 obtain⟨a,b⟩:=h j hj
 have hg:(F.set ((R[i]!)[q]!).toNat (i:Int))[j]! =if ((R[i]!)[q]!).toNat=j/\j<F.length then (i:Int) else F[j]! :=setAt0
 rw[hg]
 by_cases e:((R[i]!)[q]!).toNat=j
 ·rw[if_pos ⟨e,hj⟩];exact⟨fun _=>rfl,fun hn=>absurd ⟨q,by omega,e⟩ hn⟩
 ·rw[if_neg<|fun hx=>e hx.1]
  have hi:InTo R i j (q+1)<->InTo R i j q:=⟨fun⟨k,hk,he⟩=>⟨k,by
   by_cases ek:k=q
   ·subst ek;exact absurd he e
   ·omega,he⟩,fun⟨k,hk,he⟩=>⟨k,by omega,he⟩⟩
  rw[hi];exact⟨a,b⟩
theorem FMid.fin{F:yLI}(h:FMid R F i q)(hq:q=(R[i]!).length)(hi:i<R.length):FGe R F i:=fun j hj i' hf=>by
 subst hq
 obtain⟨a,b⟩:=h j hj
 by_cases e:InRow R i j
 ·rw[a e,hf.same ⟨Nat.le_refl _,hi,e,fun i'' h1 h2=>by omega⟩]
 ·refine b e i' ⟨?_,hf.2.1,hf.2.2.1,fun i'' h1 h2=>hf.2.2.2 i'' qf h2⟩
  rcases Nat.lt_or_ge i i' with h1|h1
  ·omega
  ·have:i=i':=by have:=hf.1;omega
   subst this;exact absurd hf.2.2.1 e
theorem FGe.at'{F:yLI}(h:FGe R F 0)(g:GrOk S R)(h0:0<j)(hj:j<S.length)(hl:F.length=S.length):F[j]! =(frm R j:Int):=h j qf _ (frm_ok g h0 hj).1
structure FromOk(S:List qG)(R:yLL)(F:yLI):Prop where
 len:F.length=S.length
 fst:F[0]! = -1
 all:∀j,0<j->j<S.length->0<=F[j]! /\FromGe R 0 j (F[j]!).toNat
theorem FromOk.start(t:qG):FromOk [t] [] [-1]:=⟨rfl,rfl,fun j h1 h2=>by simp at h2;omega⟩
theorem FromOk.next{F:yLI}(h:FromOk S R F)(g:GrOk S R){nx:List qG}(hp:0<S.length)(hi:i=R.length):FromOk (vC S nx k).1 (R++[(vC S nx k).2]) (F++List.replicate ((vC S nx k).1.length-S.length) (i:Int)):=by
 subst hi
 obtain⟨h1,h2⟩:=addSt_rows (S:=S) (nx:=nx) k
 obtain⟨l1,l2,l3⟩:=Xp (S:=S) (nx:=nx) k
 have hl:=h.len
 have abz:∀j,j<S.length->(F++List.replicate ((vC S nx k).1.length-S.length) (R.length:Int))[j]! =F[j]! :=fun j hj=>by
  rw[getElem!_pos _ j qy,getElem!_pos _ j qf,List.getElem_append_left]
 have uQ:∀i j,i<R.length->(InRow (R++[(vC S nx k).2]) i j<->InRow R i j):=fun i j hi=>by
  unfold InRow InTo;rw[snoc_lt hi]
 refine⟨by simp;omega,by rw[abz 0 hp];exact h.fst,fun j hj0 hj=>?_⟩
 by_cases e:j<S.length
 ·rw[abz j e]
  obtain⟨a,b,c,d,f⟩:=h.all j hj0 e
  exact⟨a,b,by rw[List.length_append,List.length_singleton];omega,(uQ _ _ c).2 d,fun i' h3 h4 hx=>f i' h3 h4 ((uQ _ _ qf).1 hx)⟩
 ·have hv:(F++List.replicate ((vC S nx k).1.length-S.length) (R.length:Int))[j]! =(R.length:Int):=by
   rw[getElem!_pos _ j qy,List.getElem_append_right qf,List.getElem_replicate]
  rw[hv,Int.toNat_natCast]
  refine⟨by omega,Nat.zero_le _,by simp,?_,fun i' _ h4 hx=>?_⟩
  ·obtain⟨q,hq,he⟩:=h2 j qf hj
   unfold InRow;rw[snoc_eq];exact⟨q,by omega,by rw[snoc_eq,he];omega⟩
  ·obtain⟨q,hq,he⟩:=(uQ _ _ h4).1 hx
   have:=(g.rows i' h4 q hq).2
   omega
theorem FromOk.at'{F:yLI}(h:FromOk S R F)(hj:j<S.length):(0<=F[j]! <->0<j)/\(0<j->F[j]! =(frm R j:Int)):=by
 by_cases e:j=0
 ·subst e;rw[h.fst];exact⟨by omega,by omega⟩
 ·obtain⟨a,b⟩:=h.all j qf hj
  rw[frm_of b];exact⟨by omega,by omega⟩
noncomputable def itF(R:yLL)(j:Nat):Nat->Nat
 |0=>j
 |k+1=>frm R<|itF R j k
theorem it_lt{S:List qG}{R:yLL}(g:GrOk S R){j:Nat}(hj:j<S.length):∀ {k:Nat},(∀q,q<k->itF R j q≠0)->itF R j k+k<=j
 |0,_=>by simp[itF]
 |k+1,h=>by
  have ih:=it_lt g hj (k:=k) fun q hq=>h q qf
  have h0:=h k qf
  have:=(frm_ok g (j:=itF R j k) qf qf).2
  rw[itF];omega
theorem it_ex(g:GrOk S R)(hj:j<S.length):∃m,itF R j m=0/\∀q,q<m->itF R j q≠0:=Classical.byContradiction fun hx=>by
 have D3:∀k,∀q,q<k->itF R j q≠0:=fun k=>by
  induction k with
  |zero=>intro q hq;omega
  |succ k ih=>
   intro q hq
   by_cases e:q=k
   ·subst e;exact fun h0=>hx ⟨q,h0,ih⟩
   ·exact ih q qf
 have:=it_lt g hj<|D3<|j+1
 omega
open Classical in
noncomputable def yt(R:yLL)(j:Nat):Nat:=if h:∃m,itF R j m=0/\∀q,q<m->itF R j q≠0 then h.choose else 0
theorem stepsOf_of(h0:itF R j m=0)(h1:∀q,q<m->itF R j q≠0):yt R j=m:=by
 have hx:∃m,itF R j m=0/\∀q,q<m->itF R j q≠0:=⟨m,h0,h1⟩
 rw[yt,dif_pos hx]
 obtain⟨a,b⟩:=hx.choose_spec
 rcases Nat.lt_trichotomy hx.choose m with h|h|h
 ·exact absurd a<|h1 _ h
 ·exact h
 ·exact absurd h0<|b _ h
noncomputable def betw(s:qH)(t u:qG):yLI:=(zK s t).1[X6 (fun k=>zA s t ((zK s t).1[k]!)=(u,0)) (zK s t).1.length]!
theorem betw_at(h:∀j,j<k->¬zA s t ((zK s t).1[j]!)=(u,0))(hk:k<(zK s t).1.length)(h1:zA s t ((zK s t).1[k]!)=(u,0)):betw s t u=(zK s t).1[k]! :=by
 rw[betw,stop_first h hk h1]
theorem nextTo_by{s:qH}{t:qG}{cs:yLL}:∀ {k:Nat} {u:qG},u∈yV s t cs k->∃q,q<k/\(zA s t<|cs[q]!).1=u
 |0,u,h=>by simp[yV] at h
 |k+1,u,h=>by
  rw[yV] at h
  split at h
  ·obtain⟨q,hq,e⟩:=nextTo_by h;exact⟨q,by omega,e⟩
  ·rcases List.mem_append.1 h with h|h
   ·obtain⟨q,hq,e⟩:=nextTo_by h;exact⟨q,by omega,e⟩
   ·exact⟨k,by omega,(List.mem_singleton.1 h).symm⟩
theorem succ_by(hc:(qW s t).2=0)(hk:k<(qW s t).1.length):(zK s t).2=0/\∃q,q<(zK s t).1.length/\zA s t ((zK s t).1[q]!)=((qW s t).1[k]!,0):=by
 have hm:(qW s t).1[k]! ∈(qW s t).1:=by rw[getElem!_pos _ k hk];exact List.getElem_mem hk
 generalize (qW s t).1[k]! =u at hm ⊢
 by_cases hh:Halted s t
 ·rw[succ_h hh] at hm;simp at hm
 ·by_cases h2:(zK s t).2=0
  ·refine⟨h2,?_⟩
   rw[succ_0 hh h2] at hc hm
   by_cases hb:NoBad s t (zK s t).1 (zK s t).1.length
   ·rw[next_ok hb] at hm
    obtain⟨q,hq,e⟩:=nextTo_by hm
    exact⟨q,hq,Prod.ext e<|Classical.byContradiction fun hx=>hb q hq hx⟩
   ·rw[Q5,if_neg hb] at hm;simp at hm
  ·rw[succ_c h2] at hc;exact absurd hc h2
theorem way_by(g:GrOk S R)(n:GrNx s S R)(h0:0<j)(hj:j<S.length):(zK s<|S[frm R j]!).2=0/\∃q,q<(zK s<|S[frm R j]!).1.length/\zA s (S[frm R j]!) ((zK s<|S[frm R j]!).1[q]!)=(S[j]!,0):=by
 obtain⟨⟨_,h1,⟨k,hk,he⟩,_⟩,_⟩:=frm_ok g h0 hj
 obtain⟨hc,hx⟩:=n _ h1
 obtain⟨a,b⟩:=hx k hk
 rw[he] at b
 have:=succ_by hc a
 rwa [←b] at this
noncomputable def wayTo(s:qH)(S:List qG)(R:yLL)(j m:Nat):Nat->yLL
 |0=>[]
 |q+1=>wayTo s S R j m q++[betw s (S[itF R j<|m-q]!)<|S[itF R j<|m-q-1]!]
noncomputable def wayL(s:qH)(S:List qG)(R:yLL)(j:Nat):yLL:=wayTo s S R j (yt R j)<|yt R j
noncomputable def backTo(s:qH)(S:List qG)(R:yLL)(j:Nat):Nat->yLL
 |0=>[]
 |q+1=>backTo s S R j q++[betw s (S[itF R j<|q+1]!)<|S[itF R j q]!]
theorem back_len{s:qH}{S:List qG}{R:yLL}{j:Nat}:∀q,(backTo s S R j q).length=q
 |0=>rfl
 |q+1=>by rw[backTo,List.length_append,back_len q];rfl
theorem wayTo_len{s:qH}{S:List qG}{R:yLL}{j m:Nat}:∀q,(wayTo s S R j m q).length=q
 |0=>rfl
 |q+1=>by rw[wayTo,List.length_append,wayTo_len q];rfl
theorem wayTo_cons{s:qH}{S:List qG}{R:yLL}{j m:Nat}:∀q,q<=m->wayTo s S R j (m+1) (q+1)=betw s (S[itF R j<|m+1]!) (S[itF R j m]!)::wayTo s S R j m q
 |0,_=>rfl
 |q+1,h=>by
  rw[wayTo,wayTo_cons q qf,wayTo,List.cons_append,show m+1-(q+1)=m-q by omega]
theorem back_way{s:qH}{S:List qG}{R:yLL}{j:Nat}:∀m,(backTo s S R j m).reverse=wayTo s S R j m m
 |0=>rfl
 |m+1=>by rw[backTo,List.reverse_append,back_way m,wayTo_cons m<|Nat.le_refl _];rfl
theorem betw_step(h:∀j,j<i->¬zA s t ((zK s t).1[j]!)=(u,0))(h1:¬(zA s t ((zK s t).1[i]!)).2=0\/¬(zA s t ((zK s t).1[i]!)).1=u):∀j,j<i+1->¬zA s t ((zK s t).1[j]!)=(u,0):=fun j hj=>by
 by_cases e:j=i
 ·subst e
  intro hx
  rcases h1 with h1|h1
  ·exact h1<|by rw[hx]
  ·exact h1<|by rw[hx]
 ·exact h j qf
theorem kz_step(h:∀x,x<q->itF R j x≠0)(h1:itF R j q≠0):∀x,x<q+1->itF R j x≠0:=fun x hx=>by
 by_cases e:x=q
 ·subst e;exact h1
 ·exact h x qf
theorem back_step(ha:a=itF R j (q+1))(h:∀x,x<k->¬zA s (S[a]!) ((zK s<|S[a]!).1[x]!)=(S[itF R j q]!,0))(hk:k<(zK s<|S[a]!).1.length)
 (h1:(zA s (S[a]!) ((zK s<|S[a]!).1[k]!)).2=0) (h2:(zA s (S[a]!) ((zK s<|S[a]!).1[k]!)).1=S[itF R j q]!):backTo s S R j q++[(zK s<|S[a]!).1[k]!]=backTo s S R j (q+1):=by
 rw[←betw_at h hk<|Prod.ext h2 h1];subst ha;rfl
theorem path_end(h0:itF R j q=0)(kz:∀x,x<q->itF R j x≠0):wayL s S R j=(backTo s S R j q).reverse:=by
 rw[back_way,wayL,stepsOf_of h0 kz]
theorem it_in(g:GrOk S R)(hj:j<S.length)(kz:∀x,x<q->itF R j x≠0):itF R j q<S.length/\q<=j:=by
 have:=it_lt g hj kz;omega
theorem steps_le(g:GrOk S R)(hj:j<S.length):yt R j<=j:=by
 obtain⟨m,a,b⟩:=it_ex g hj
 rw[stepsOf_of a b];exact(it_in g hj b).2
open Classical in
noncomputable def stRes(s:qH)(t u:qG):yLL×Int:=
 if vz s/\xK s u then (if (yG s t).2=0 then (if firstIdx (fun zz=>decide ((exG s t).xq[zz]! =u)) (exG s t).xq.length<0 then ([],6) else (wayL s (exG s t).xq (exG s t).fNext (firstIdx (fun zz=>decide ((exG s t).xq[zz]! =u)) (exG s t).xq.length).toNat,0)) else ([],(yG s t).2)) else ([],1)
theorem st_0(h:vz s/\xK s u)(h1:(yG s t).2=0)(h2:¬firstIdx (fun zz=>decide ((exG s t).xq[zz]! =u)) (exG s t).xq.length<0):
 stRes s t u=(wayL s (exG s t).xq (exG s t).fNext (firstIdx (fun zz=>decide ((exG s t).xq[zz]! =u)) (exG s t).xq.length).toNat,0):=by rw[stRes,if_pos h,if_pos h1,if_neg h2]
noncomputable def QK(s:qH)(t:qG):yLL×Int:=
 if (yG s t).2=0 then (if (idxL (exG s t).fNext (exG s t).fNext.length).length=0 then ([],6) else (wayL s (exG s t).xq (exG s t).fNext ((idxL (exG s t).fNext (exG s t).fNext.length)[0]!).toNat,0)) else ([],(yG s t).2)
theorem sh_c(h1:(yG s t).2≠0):QK s t=([],(yG s t).2):=by rw[QK,if_neg h1]
theorem sh_6(h1:(yG s t).2=0){n:Nat}(hn:n=(exG s t).fNext.length)(h2:(idxL (exG s t).fNext n).length=0):QK s t=([],6):=by subst hn;rw[QK,if_pos h1,if_pos h2]
theorem sh_0(h1:(yG s t).2=0){n:Nat}(hn:n=(exG s t).fNext.length)(h2:¬(idxL (exG s t).fNext n).length=0):QK s t=(wayL s (exG s t).xq (exG s t).fNext ((idxL (exG s t).fNext n)[0]!).toNat,0):=by subst hn;rw[QK,if_pos h1,if_neg h2]
end
section
def cellsF(B:yLN)(v:Value)(xs:List Value):Fact where
 F:=B
 φ:=fun w=>xs=[]\/∃b o m c,v=Sv (some ⟨b,o,none⟩) m c/\B=[b]/\jC w b o xs
 stay:=by
  rintro w w' (h|⟨b,o,m,c,h1,h2,h3⟩) hs
  ·exact Or.inl h
  ·exact Or.inr ⟨b,o,m,c,h1,h2,cellsAt_stay h3<|hs b<|by simp[h2]⟩
section
variable{W0 w : World}{ps : List Prv}{Γ : List Fact}{L : List yLN}
theorem St.pool{α:Type}[qX α](H:St W0 w ps Γ)(i:Nat){l:List α}(hf:Γ[i]? =some (isF true F v l))(N:Fresh W0.heap.size (F::L)):
 ∃(xs:List Value) (B P:yLN),Fresh W0.heap.size (P::L)/\St W0 w ps (xG true P (xs.drop<|0*qX.size α) (l.drop 0)::cellsF B v xs::Γ):=by
 obtain⟨⟨a,ed,hc,_,h⟩,dq⟩:=H.get i hf
 simp only[List.cons.injEq,and_true] at hc
 rcases h with ⟨hl,hF⟩|⟨b,o,F',vs,ha,hF,_,hr,mZ⟩
 ·refine⟨[],[],[],N.less qm qm,?_⟩
  subst hl
  exact(H.add (cellsF [] v []) (Or.inl rfl)<|by simp[cellsF]).add _ ⟨by simp[reps],fun _=>yf.nil _⟩<|by simp[xG]
 ·refine⟨vs,[b],F',N.less (fun x hx=>by rw[hF];simp[hx]) (fun hn=>by rw[hF] at hn;exact(List.nodup_cons.1 hn).2),?_⟩
  have h1:=H.jO i hf (cellsF [b] v vs) (Or.inr ⟨b,o,l.length,ed,by rw[hc,ha],rfl,mZ⟩) (fun x hx=>by have hx:x∈[b]:=hx;show x∈F;rw[hF];simp at hx;simp[hx])
  refine h1.jO (i+1) hf (xG true F' (vs.drop<|0*qX.size α)<|l.drop 0) ⟨?_,fun _=>(dq rfl).sub fun x hx=>by rw[hF];simp[hx]⟩ fun x hx=>by have hx:x∈F':=hx;show x∈F;rw[hF];simp[hx]
  rw[Nat.zero_mul];exact hr
theorem St.drain{α:Type}[qX α][Inhabited α](H:St W0 w ps Γ)(j:Nat)(hx:Γ[j]? =some (cellsF B (Sv (some ⟨b,o,none⟩) m c) xs))(i:Nat){l:List α}
 (hf:Γ[i]? =some (xG true P (xs.drop<|k0*qX.size α)<|l.drop k0)) (N:Fresh W0.heap.size (P::L)) (hz:0<qX.size α) (k:Nat) (h0:k0<=k) (hk:k<l.length):
 ∃cs G P',jC w b (o+k*qX.size α) cs/\qX.rep w G cs (l[k]!)/\yf w G/\(∀x∈G,x∈P)/\b∈B/\Fresh W0.heap.size (G::P'::L)/\(∀x∈P',x∈P)/\reps w P' (xs.drop ((k+1)*qX.size α)) (l.drop<|k+1)/\yf w P':=by
 obtain⟨d,rfl⟩:∃d,k=k0+d:=⟨k-k0,by omega⟩
 obtain⟨hr,dq⟩:=H.get i hf
 obtain⟨F1,Fk,F2,v1,cs,v2,hP,hv,uD,pn,mB,_,h2⟩:=reps_get hr d<|by rw[List.length_drop];omega
 have jj:=congrArg List.length hv
 simp only[List.length_append,List.length_drop] at jj
 have e1:(k0+d+1)*qX.size α=k0*qX.size α+(d*qX.size α+qX.size α):=by rw[Nat.add_mul,Nat.add_mul,Nat.one_mul];omega
 have e2:(k0+d)*qX.size α=k0*qX.size α+d*qX.size α:=Nat.add_mul ..
 have hxs:xs.take (k0*qX.size α)++v1++cs++v2=xs:=by rw[List.append_assoc,List.append_assoc,←List.append_assoc v1,←hv,List.take_append_drop]
 have hgl:(l.drop k0)[d]'(by rw[List.length_drop];omega)=l[k0+d]! :=by rw[List.getElem_drop,getElem!_pos l _ hk]
 rw[hgl] at mB
 obtain⟨m',c',hB,mZ⟩:∃m' c':Nat,B=[b]/\jC w b o xs:=by
  rcases H.get j hx with h|⟨b',o',m',c',h1,h2',h3⟩
  ·rw[h] at jj;simp at jj;omega
  ·simp only[Value.slice.injEq,Option.some.injEq,Addr.mk.injEq,and_true] at h1
   obtain⟨⟨rfl,rfl⟩,_⟩:=h1
   exact⟨m',c',h2',h3⟩
 have hd:(l.drop k0).drop (d+1)=l.drop (k0+d+1):=by rw[List.drop_drop];congr 1
 rw[hd] at h2
 have hv2:xs.drop ((k0+d+1)*qX.size α)=v2:=by
  rw[e1,←List.drop_drop,hv,List.drop_append,List.drop_of_length_le<|by simp only[List.length_append];omega,List.nil_append]
  simp only[List.length_append]
  rw[show d*qX.size α+qX.size α-(v1.length+cs.length)=0 by omega];rfl
 have aJ:∀x∈Fk++F2,x∈P:=fun x hx=>by
  rw[hP,List.append_assoc];exact List.mem_append_right _ hx
 refine⟨cs,Fk,F2,?_,mB,(dq rfl).sub fun x hx=>aJ x<|by simp[hx],fun x hx=>aJ x<|by simp[hx],by simp[hB],(N.less aJ fun hn=>?_).split,fun x hx=>aJ x<|by simp[hx],by rw[hv2];exact h2,(dq rfl).sub fun x hx=>aJ x<|by simp[hx]⟩
 ·rw[←hxs] at mZ
  have:=cells_mid mZ
  rw[List.length_append,uD,List.length_take_of_le qf,←e2] at this
  exact this
 ·rw[hP,List.append_assoc] at hn;exact(List.nodup_append.1 hn).2.1
theorem St.drainList{α:Type}[qX α](H:St W0 w ps Γ)(j:Nat)(hx:Γ[j]? =some (cellsF B (Sv (some ⟨b,o,none⟩) m c) xs))(i:Nat){l:List (List α)}
 (hf:Γ[i]? =some (xG true P (xs.drop<|k0*1)<|l.drop k0)) (N:Fresh W0.heap.size (P::L)) (iv:Int) (k:Nat) (hi:iv.toNat=k) (h0:k0<=k) (hk:k<l.length):
 ∃(a:yOA) (c':Nat) (G P':yLN),Fresh W0.heap.size (G::P'::L)/\St W0 w ps (isF true G (Sv a (l[k]!).length c') (l[k]!)::atF b (o+iv.toNat*1) [Sv a (l[k]!).length c']::xG true P' (xs.drop ((k+1)*1)) (l.drop<|k+1)::Γ):=by
 subst hi
 obtain⟨cs,G,P',hc,hr,dq,aJ,hB,N',T3,h2,hf2⟩:=St.drain (α:=List α) H j hx i hf N (show 0<1 by decide) iv.toNat h0 hk
 obtain⟨a,c',rfl,hh⟩:=id hr
 have s1:=H.jO i hf (xG true P' (xs.drop ((iv.toNat+1)*1))<|l.drop<|iv.toNat+1) ⟨h2,fun _=>hf2⟩ T3
 have s2:=s1.jO (j+1) hx (atF b (o+iv.toNat*1) [Sv a (l[iv.toNat]!).length c']) hc (fun x hx=>by have hx:x∈[b]:=hx;simp at hx;subst hx;exact hB)
 exact⟨a,c',G,P',N',s2.jO (i+2) hf (isF true G (Sv a (l[iv.toNat]!).length c')<|l[iv.toNat]!) ⟨hr,fun _=>dq⟩ aJ⟩
theorem St.drain_StateD(H:St W0 w ps Γ)(j:Nat)(hx:Γ[j]? =some (cellsF B (Sv (some ⟨b,o,none⟩) m c) xs))(i:Nat){l:List qG}
 (hf:Γ[i]? =some (xG true P (xs.drop<|k0*3)<|l.drop k0)) (N:Fresh W0.heap.size (P::L)) (iv:Int) (k:Nat) (hi:iv.toNat=k) (h0:k0<=k) (hk:k<l.length):
 ∃(aA:yOA) (cA:Nat) (FA:yLN) (aB:yOA) (cB:Nat) (FB:yLN) (aO:yOA) (cO:Nat) (FO P':yLN),Fresh W0.heap.size (FA::FB::FO::P'::L)∧
  St W0 w ps (isF true FA (Sv aA ((l[k]!).qK.length) cA) ((l[k]!).qK)::isF true FB (Sv aB ((l[k]!).qQ.length) cB) ((l[k]!).qQ)::isF true FO (Sv aO ((l[k]!).qJ.length) cO) ((l[k]!).qJ) ::
   atF b (o+iv.toNat*3) [Sv aA ((l[k]!).qK.length) cA,Sv aB ((l[k]!).qQ.length) cB,Sv aO ((l[k]!).qJ.length) cO]::xG true P' (xs.drop ((k+1)*3)) (l.drop<|k+1)::Γ):=by
 subst hi
 obtain⟨cs,G,P',hc,hr,dq,aJ,hB,N',T3,h2,hf2⟩:=St.drain (α:=qG) H j hx i hf N (show 0<3 by decide) iv.toNat h0 hk
 obtain⟨vA,vB,vO,FA,FB,FO,rfl,eV,hA,hBb,hO⟩:=id hr
 obtain⟨aA,cA,rfl⟩:=slice_form hA
 obtain⟨aB,cB,rfl⟩:=slice_form hBb
 obtain⟨aO,cO,rfl⟩:=slice_form hO
 subst eV
 have s1:=H.jO i hf (xG true P' (xs.drop ((iv.toNat+1)*3))<|l.drop<|iv.toNat+1) ⟨h2,fun _=>hf2⟩ T3
 have s2:=s1.jO (j+1) hx (atF b (o+iv.toNat*3) [Sv aA _ cA,Sv aB _ cB,Sv aO _ cO]) hc (fun x hx=>by have hx:x∈[b]:=hx;simp at hx;subst hx;exact hB)
 have s3:=s2.jO (i+2) hf (isF true FO _ ((l[iv.toNat]!).qJ)) ⟨hO,fun _=>dq.sub fun x hx=>by simp[hx]⟩<|fun x hx=>aJ x (by have hx:x∈FO:=hx;simp[hx])
 have s4:=s3.jO (i+3) hf (isF true FB _ ((l[iv.toNat]!).qQ)) ⟨hBb,fun _=>dq.sub fun x hx=>by simp[hx]⟩<|fun x hx=>aJ x (by have hx:x∈FB:=hx;simp[hx])
 exact⟨aA,cA,FA,aB,cB,FB,aO,cO,FO,P',N'.split.split,s4.jO (i+4) hf (isF true FA _ ((l[iv.toNat]!).qK)) ⟨hA,fun _=>dq.sub fun x hx=>by simp[hx]⟩<|fun x hx=>aJ x (by have hx:x∈FA:=hx;simp[hx])⟩
end
end
section
open Go.RowKit Go.Shelf Go.Lib Go.Sort
section
variable{W0 w : World}{ps : List Prv}{Γ : List Fact}
theorem revRow{P:Program}{ρ:Ren}(L:SlLaysE.n35 P ρ)(H:St W0 w ps Γ)(k:Nat){a:yOA}(hp:ps[k]? =some (.row (Sv a nn c) e 1 nn xs))(j:Nat){l:yLL}(hf:Γ[j]? =some (xG fr F xs l)):
 Calls P (ρ.f 35) #[Sv a nn c] w fun e' w'=>∃v,e'=.returned v/\∃F',v=.tuple #[]/\F'.Perm F/\St W0 w' (ps.set k<|.row (Sv a nn c) e 1 nn xs.reverse) (xG fr F' xs.reverse l.reverse::Γ):=by
 have ho:=(H.has _ (List.mem_of_getElem? hp):w.ownsRow W0.heap.size e 1 _ nn xs)
 obtain⟨hr,dq⟩:=H.get j hf
 have uH:xs.length=l.length:=by have:=X7 hr;simpa [qX.size] using this
 have hnn:nn=l.length:=by have:=ho.1;omega
 subst hnn
 by_cases h0:l.length=0
 ·obtain rfl:=List.eq_nil_of_length_eq_zero h0
  obtain rfl:=List.eq_nil_of_length_eq_zero<|uH.trans h0
  refine(AnyE.slices_Reverse_empty L a c w).mono fun e' w' ⟨he,hw⟩=>⟨_,he,F,rfl,.refl _,?_⟩
  subst hw
  have hs:ps.set k (.row (Sv a ([]:yLL).length c) e 1 ([]:yLL).length ([]:List Value).reverse)=ps:=by
   obtain⟨hk,he⟩:=List.getElem?_eq_some_iff.1 hp
   rw[List.reverse_nil,←he,List.set_getElem_self]
  rw[hs]
  exact H.jO j hf _ ⟨hr,dq⟩ fun _ h=>h
 obtain⟨hl,h|⟨b,ed,ee,hv,hB,hg,hn,hm,pn,ht⟩⟩:=ho
 ·exact absurd h.2 h0
 simp only[Value.slice.injEq] at hv
 obtain⟨rfl,_,rfl⟩:=hv
 have hF:=(H.facts _<|List.mem_of_getElem? hf).2
 have uX:∀x∈F,x≠b:=fun x hx e'=>(hF x hx).2 k<|by simp[yO,hp,Prv.blk,Value.ownBlock,e']
 let enc:Nat->Value:=fun i=>xs[i % l.length]!
 have BU:∀i,i % l.length<l.length:=fun i=>Nat.mod_lt _ qf
 have hO:OneCell enc:=fun i=>by
  have IOz :=reps_cells hr (xs[i % l.length]!)<|by rw[getElem!_pos xs _<|by rw[uH];exact BU i];exact List.getElem_mem _
  exact IOz
 have hcx:∀i,i<l.length->ee[i]? =some (enc i):=fun i hi=>by
  have h1:xs[i]? =some (enc i):=by
   show xs[i]? =some (xs[i % l.length]!)
   rw[Nat.mod_eq_of_lt hi,getElem!_pos xs i qf]
   exact List.getElem?_eq_getElem qf
  rw[←ht,List.getElem?_take,if_pos qf] at h1
  simpa using h1
 have hdi:∀i,i<l.length->(List.range l.length).toArray[i]! =i:=fun i hi=>by simp[hi]
 have hH:Holds enc w b 0 (List.range l.length).toArray:=fun i hi=>by
  have ox :i<l.length:=by simpa using hi
  rw[hdi i ox,Nat.zero_add]
  constructor
  ·rw[World.cell?,hg];exact hcx i ox
  ·rw[World.frozen?,hg];simp
 have hc:=AnyE.slices_Reverse L enc hO b 0 c (List.range l.length) w hH (by rw[List.length_range];have:c<=9223372036854775807:=hm;omega)
 rw[List.length_range] at hc
 refine hc.mono fun e' w' ⟨he,n,hw⟩=>⟨_,he,?_⟩
 replace hw:w'=sortWorld enc w b 0 n (List.range l.length).reverse.toArray #[]:=by rw[hw];unfold sortWorld;rw[grow_empty]
 have hz:(xs.zip l).Perm (xs.zip l).reverse:=(List.reverse_perm _).symm
 have IC :reps w F ((xs.zip l).map Prod.fst) ((xs.zip l).map Prod.snd):=by rw[zip_fst uH,zip_snd uH];exact hr
 obtain⟨F',sc,On⟩:=reps_perm rfl hz IC
 rw[List.map_reverse,List.map_reverse,zip_fst uH,zip_snd uH] at On
 refine⟨F',rfl,sc,?_⟩
 subst hw
 generalize hd:(List.range l.length).reverse.toArray=d'
 have KN :d'.size=l.length:=by rw[←hd];simp
 have hdq:∀q,q<l.length->d'[q]! =l.length-1-q:=fun q hq=>by
  rw[getElem!_pos d' q qf]
  subst hd
  simp
 have dp:∀q,q<l.length->(putCells enc 0 d' ee)[q]? =some (xs[l.length-1-q]!):=fun q hq=>by
  unfold putCells
  rw[Array.getElem?_mapIdx]
  have hcq:=hcx q hq
  rw[hcq]
  simp only[Option.map_some,Nat.zero_le,true_and,Nat.zero_add,KN,if_pos hq,Nat.sub_zero]
  show some (xs[d'[q]! % l.length]!)=_
  rw[hdq q hq,Nat.mod_eq_of_lt qf]
 have t8:(sortWorld enc w b 0 n d' #[]).ownsRow W0.heap.size e 1 (Sv (some ⟨b,0,none⟩) l.length c) l.length xs.reverse:=by
  refine⟨by simp[uH],Or.inr ⟨b,c,putCells enc 0 d' ee,rfl,hB,sw_row hg,hn,hm,by unfold putCells;rw[Array.size_mapIdx];exact pn,?_⟩⟩
  rw[Nat.mul_one]
  refine List.ext_getElem? fun q=>?_
  rw[List.getElem?_take]
  split
  ·next hq=>
   rw[Array.getElem?_toList,dp q hq,List.getElem?_reverse qf,uH,getElem!_pos xs _ qf]
   exact(List.getElem?_eq_getElem qf).symm
  ·next hq=>rw[List.getElem?_eq_none qy]
 have si:w.heap.size<=(sortWorld enc w b 0 n d' #[]).heap.size:=by
  unfold sortWorld putRow mapBlock grow
  show _<=((Sort.ahead w n).heap.modify b _++#[]).size
  rw[Array.size_append,Array.size_modify]
  exact Nat.le_add_right _ _
 have H1:=H.change k hp (w':=sortWorld enc w b 0 n d' #[]) (p':=.row (Sv (some ⟨b,0,none⟩) l.length c) e 1 l.length xs.reverse) rfl rfl rfl si (fun i hi iQ=>sw_block hi<|fun e2=>iQ<|by subst e2;rfl) t8<|Or.inl rfl
 refine H1.add _ ⟨?_,fun e2 x hx=>?_⟩ fun x hx=>?_
 ·exact reps_stay On fun z hz=>sw_block (hF z<|sc.subset hz).1<|uX z<|sc.subset hz
 ·have h2:=dq e2 x (sc.subset hx)
  obtain⟨o1,o2,ho⟩:=h2
  exact⟨o1,o2,(sw_block (hF x<|sc.subset hx).1<|uX x<|sc.subset hx).trans ho⟩
 ·refine⟨Nat.lt_of_lt_of_le (hF x<|sc.subset hx).1 si,fun i hi=>?_⟩
  have h3:=(hF x<|sc.subset hx).2
  by_cases e3:i=k
  ·subst e3
   have:(ps.set i<|Prv.row (Sv (some ⟨b,0,none⟩) l.length c) e 1 l.length xs.reverse)[i]? =some (Prv.row (Sv (some ⟨b,0,none⟩) l.length c) e 1 l.length xs.reverse):=set_at hp
   simp only[yO,this,Option.bind_some,Prv.blk,Value.ownBlock,Option.some.injEq] at hi
   exact uX x (sc.subset hx) hi.symm
  ·have:yO (ps.set k<|Prv.row (Sv (some ⟨b,0,none⟩) l.length c) e 1 l.length xs.reverse) i=yO ps i:=by unfold yO;rw[List.getElem?_set_ne<|Ne.symm e3]
   rw[this] at hi
   exact h3 i hi
end
end
section
variable{qE qN qU xk qL : Nat}
def revL_ren:Go.Shelf.Ren:=⟨fun|35=>118|n=>n,fun|22=>29|23=>24|3=>3|4=>4|0=>0|n=>n,fun|n=>n⟩
theorem revL:Go.Proofs.SlLaysE.n35 Tryz.prog revL_ren:={
 mixed:=by kernel_rfl
 f35:=⟨Tryz.f118.name,by decide,Tryz.func118.trans<|congrArg some<|by kernel_rfl⟩
 t0:=underlying0
 a0:=isAgg0
 z0:=sizeOf0
 v0:=zeroValue0
 t3:=underlying3
 a3:=isAgg3
 z3:=sizeOf3
 v3:=zeroValue3
 t4:=underlying4
 a4:=isAgg4
 z4:=sizeOf4
 v4:=zeroValue4
 t22:=underlying29
 a22:=isAgg29
 z22:=sizeOf29
 v22:=zeroValue29
 a23:=isAgg24
 z23:=sizeOf24 }
theorem path_ok(w:World)(s:qH)(g:GraphD)(z:Int){tJ:yOA}{lz:Nat}{A6:yLN}{sS:yOA}{un:Nat}{IU:yLN}(xe:zP w xu qF qE s.qA)(xE:zP w xW qO qN s.qB)(A7:zP w A6 tJ lz g.xq)(IN:zP w IU sS un g.fNext)(p0:vz s)(p1:GrOk g.xq g.fNext)(p2:GrNx s g.xq g.fNext)(p3:g.fNext.length=g.xq.length)(p4:0<=(z:Int)/\(z:Int).toNat<g.xq.length)(p5:∀u∈g.xq,xK s u)(p6:g.xq.length<=300):Calls Tryz.prog 69 #[.agg #[yI s.zf,Sv qF s.qA.length qE,Sv qO s.qB.length qN],.agg #[Sv tJ g.xq.length lz,Sv sS g.fNext.length un],yI z] w (Ret (fun v w'=>∃(iI:yOA) (iB:Nat) (iP:yLN),v=.tuple #[Sv iI ((wayL s g.xq g.fNext (z:Int).toNat).length) iB,yI 0]/\Fresh w.heap.size [iP]/\St w w' [] [sF true iP iI iB<|wayL s g.xq g.fNext (z:Int).toNat]) w):=by
 refine en func69 ntmps69 ?_
 have H:=((((St.start w).arg IN).arg A7).arg xE).arg xe
 clear xe xE A7 IN
 have N:=Fresh.nil w.heap.size
 obtain⟨p7,p8⟩:=p4
 refine zcr<|sw<|zN H (yS s qF qE qO qN) fun b1 w2 H=>sw<|zN H [Sv tJ g.xq.length lz,Sv sS g.fNext.length un] fun b3 w4 H=>sq 1<|sp (yI 0)<|zjc<|oF rfl<|oL rfl (H.cell 0 rfl rfl)<|oN rfl<|sw<|zq H underlying24 ti2 g.xq.length rfl rfl qf qf qf fun b5 w6 H=>sq 1<|zjcc<|oF rfl<|oL rfl (H.cell 1 rfl rfl)<|oN rfl<|sw<|o_sub g.fNext.length 1 rfl rfl qf<|sq 1<|zjn<|xf<|zD ((fun Z0 Z1 Z2 Z3 Z4 Z5=>fun m' ρ w7=>∃(xN:Env) (i:Int) (ar:yLI),ρ=upd (upd (upd (upd (upd xN 2<|yI z) 3<|pp b1 0) 4<|pp b3 0) 8<|Sv (aa b5 0) g.xq.length g.xq.length) 9 (yI i)/\(FGe g.fNext ar (i+1).toNat)/\(ar.length=g.xq.length)/\(-1<=i/\i<g.fNext.length)/\m'=((i:Int)+1).toNat/\Fresh w.heap.size []/\St w w7 [rr (aa b5 0) g.xq.length g.xq.length 2 1<|ar.map<|Value.int .i64,Z0,Z1] [Z2,Z3,Z4,Z5]) _ _ _ _ _ _) ((((g.fNext.length-1):Int)+1).toNat) ⟨_,g.fNext.length-1,(List.replicate g.xq.length (0:Int)),uE5,(by exact FGe.start qf),qm,qf,rfl,N,H⟩ ?_
 clear H N
 rintro m' ρ w8 ⟨xN,i,ar,rfl,f1,f2,f3,rfl,N,H⟩
 refine zcc<|sp (yI i)<|sp (Bv<|decide ((i:Int)>=0))<|zjn<|cD rfl (fun h9=>?_)<|fun h9=>?_
 ·refine qZ (t_n<|xU<|xf<|zcr<|oF rfl<|oL rfl (H.cell 1 rfl rfl)<|sp (yI i) ?_)
  obtain⟨g9,F7,rfl⟩:=H.addr 3 rfl qf
  obtain⟨Nd,MS,ad1,H⟩:=H.jo 3 rfl i i.toNat qf qf qf
  refine oI rfl rfl<|oL rfl (H.zo 1 rfl 0 rfl)<|oN rfl<|sp (yI 0)<|zjn<|xf<|zD ((fun Z0 Z1 Z2 Z3 Z4 Z5 Z6 Z7=>fun m' ρ O5=>∃(xN:Env) (k:Nat) (eY:yLI),ρ=upd (upd (upd (upd (upd (upd (upd (upd xN 2<|yI z) 3<|pp b1 0) 4<|pp b3 0) 8<|Sv (aa b5 0) g.xq.length g.xq.length) 9<|yI i) 36<|Sv Nd ((g.fNext[i.toNat]!).length) MS) 37<|yI ((g.fNext[i.toNat]!).length)) 38 (yI k)/\((k:Int)<=((g.fNext[i.toNat]!).length))/\(FMid g.fNext eY i.toNat k)/\(eY.length=g.xq.length)/\m'=(((g.fNext[i.toNat]!).length)-(k:Int)).toNat/\Fresh w.heap.size []/\St w O5 [rr (aa b5 0) g.xq.length g.xq.length 2 1<|eY.map<|Value.int .i64,Z0,Z1] [Z2,Z3,Z4,Z5,Z6,Z7]) _ _ _ _ _ _ _ _) ((((g.fNext[i.toNat]!).length)-(0:Int)).toNat) ⟨_,0,ar,uE8,qf,(by exact FMid.start<|by rw[show i.toNat+1=(i+1).toNat by omega];exact f1),qf,rfl,N,H⟩ ?_
  clear H N
  rintro m' ρ uK ⟨xN,k,eY,rfl,i0,f4,f5,rfl,N,H⟩
  refine zcr<|sq 1<|zjn<|xU<|cD rfl (fun FC=>?_)<|fun FC=>?_
  ·have rw1:=p1.rows i.toNat qf k qf
   have rl:=p1.lens i.toNat qf
   refine qZ<|t_n<|xU<|xf<|zcr ?_
   obtain⟨G5,o18,rfl⟩:=H.addr 0 rfl qf
   refine oI rfl rfl<|oL rfl (H.zS 0 rfl k qf)<|sq 1<|zjn<|xX<|sq 2<|sp (yI i)<|oI rfl rfl<|sw<|Qe H 0 rfl i sizeOf2 rfl rfl (i:=(((g.fNext[i.toNat]!)[k]!).toNat)) qf qf fun tr H=>xZ<|b_n<|t_n<|xX<|sw<|zC k 1 rfl rfl qf<|sq 1<|xZ<|xh (m':=(((g.fNext[i.toNat]!).length)-((k+1):Int)).toNat) qf ⟨_,k+1,_,uE8,?_,?_,?_,rfl,N,H⟩
   ·omega
   ·have h:=FMid.step f4 (c:=_) rfl;rwa [show ((i.toNat:Nat):Int)=i by omega] at h
   ·simp;omega
  refine VR<|t_x<|t_x<|b_x<|b_n<|t_n<|xX<|sp (yI i)<|sw<|o_sub i 1 rfl rfl qf<|sq 1<|xZ<|xh (m':=(((i-1):Int)+1).toNat) qf ⟨_,_,_,uE5,?_,?_,?_,rfl,N,H.pick [0,1,2]<|zR 2 4⟩
  ·rw[show (i-1+1).toNat=i.toNat by omega];exact f4.fin qf qf
  ·omega
  ·omega
 refine zx4<|zcr<|sw<|ja H underlying29 ti24 fun pg GP H=>sq 1<|zjn<|xU<|xf ?_
 replace H:=H.boxRow 0 rfl 1 0 rfl qj
 replace H:=H.vP (α:=yLI)
 refine zD ((fun Z0 Z1 Z2 Z3 Z4 Z5 Z6=>fun m' ρ Cz=>∃(xN:Env) (to:Int) (jZ:yOA) (vV:Nat) (jQ:Nat) (out:yLL) (Xf:List Value) (y8:yLN) (q:Nat),ρ=upd (upd (upd (upd (upd xN 2<|yI to) 3<|pp b1 0) 4<|pp b3 0) 8<|Sv (aa b5 0) g.xq.length g.xq.length) 12 (Sv jZ vV jQ)/\to=(((itF g.fNext z.toNat q):Nat):Int)/\out=(backTo s g.xq g.fNext z.toNat q)/\(∀x,x<q->(itF g.fNext z.toNat x)≠0)/\m'=(itF g.fNext z.toNat q)/\Fresh w.heap.size [y8]/\St w Cz [rr jZ vV jQ 24 1 Xf,Z0,Z1,Z2] [xG true y8 Xf out,Z3,Z4,Z5,Z6]) _ _ _ _ _ _ _) ((itF g.fNext z.toNat 0)) ⟨_,z,(aa pg 0),0,0,([]:yLL),[],[],0,uE5,(by exact(Int.toNat_of_nonneg p7).symm),(by rfl),(by exact fun x hx=>by omega),rfl,N.emp,H⟩ ?_
 clear H N
 rintro m' ρ Ks ⟨xN,to,jZ,vV,jQ,out,Xf,y8,q,rfl,rfl,rfl,kz,rfl,N,H⟩
 have bQ:=H.xQ (α:=yLI) 0 rfl 0 rfl qj
 have ki:=it_in p1 p8 kz
 have bl:=back_len (s:=s) (S:=g.xq) (R:=g.fNext) (j:=z.toNat) q
 refine zcc<|sq 1<|sp (Bv (((((itF g.fNext z.toNat q):Nat):Int):Int) != 0))<|zjn<|zX (((((itF g.fNext z.toNat q):Nat):Int):Int) != 0) rfl (fun x6=>?_)<|fun x6=>?_
 ·replace x6:=bne_iff_ne.1 x6
  have q0:(itF g.fNext z.toNat q)≠0:=by omega
  have f10:FGe g.fNext ar 0:=by rw[show (i+1).toNat=0 by omega] at f1;exact f1
  have fe:ar[((((itF g.fNext z.toNat q):Nat):Int)).toNat]! =(((itF g.fNext z.toNat<|q+1):Nat):Int):=f10.at' p1 (j:=(itF g.fNext z.toNat q)) qf ki.1 f2
  have fk:(itF g.fNext z.toNat<|q+1)<(itF g.fNext z.toNat q):=(frm_ok p1 (j:=(itF g.fNext z.toNat q)) qf ki.1).2
  have fa:((ar[((((itF g.fNext z.toNat q):Nat):Int)).toNat]!).toNat)=(itF g.fNext z.toNat<|q+1):=by omega
  have wb:=way_by p1 p2 (j:=(itF g.fNext z.toNat q)) qf ki.1
  rw[show frm g.fNext (itF g.fNext z.toNat q)=((ar[((((itF g.fNext z.toNat q):Nat):Int)).toNat]!).toNat) from fa.symm] at wb
  have ks1:=p5 (g.xq[((ar[((((itF g.fNext z.toNat q):Nat):Int)).toNat]!).toNat)]!)<|mem_at (l:=g.xq) (k:=((ar[((((itF g.fNext z.toNat q):Nat):Int)).toNat]!).toNat)) qf rfl
  have ln:=cho_len s<|g.xq[((ar[((((itF g.fNext z.toNat q):Nat):Int)).toNat]!).toNat)]!
  refine qZ<|t_n<|xf<|xU ?_
  obtain⟨yn,Nq,rfl⟩:=H.addr 3 rfl qf
  refine VD (fun ρ BG=>∃(xN:Env) (Bn:Nat) (PL:yOA) (PN:Nat) (GU:yOA) (G0:Nat) (WV:yOA) (WJ:Nat) (F36:yLN) (F37:yLN) (F38:yLN),ρ=upd (upd (upd (upd (upd (upd xN 2<|yI (((itF g.fNext z.toNat q):Nat):Int)) 3<|pp b1 0) 4<|pp b3 0) 8<|Sv (aa b5 0) g.xq.length g.xq.length) 12<|Sv jZ vV jQ) 13 (pp Bn 0)/\Fresh w.heap.size [y8]/\St w BG [.box Bn [Sv PL (((g.xq[(ar[(((itF g.fNext z.toNat q):Nat):Int).toNat]!).toNat]!).qK).length) PN,Sv GU (((g.xq[(ar[(((itF g.fNext z.toNat q):Nat):Int).toNat]!).toNat]!).qQ).length) G0,Sv WV (((g.xq[(ar[(((itF g.fNext z.toNat q):Nat):Int).toNat]!).toNat]!).qJ).length) WJ] 31,rr jZ vV jQ 24 1 Xf,rr (aa b5 0) g.xq.length g.xq.length 2 1<|ar.map<|Value.int .i64,.box b3 [Sv (aa yn Nq) g.xq.length lz,Sv sS g.fNext.length un] 46,.box b1 (yS s qF qE qO qN) 27] [sF false F36 PL PN ((g.xq[(ar[(((itF g.fNext z.toNat q):Nat):Int).toNat]!).toNat]!).qK),sF false F37 GU G0 ((g.xq[(ar[(((itF g.fNext z.toNat q):Nat):Int).toNat]!).toNat]!).qQ),sF false F38 WV WJ ((g.xq[(ar[(((itF g.fNext z.toNat q):Nat):Int).toNat]!).toNat]!).qJ),atF yn (Nq+(ar[(((itF g.fNext z.toNat q):Nat):Int).toNat]! :Int).toNat*3) [Sv PL (((g.xq[(ar[(((itF g.fNext z.toNat q):Nat):Int).toNat]!).toNat]!).qK).length) PN,Sv GU (((g.xq[(ar[(((itF g.fNext z.toNat q):Nat):Int).toNat]!).toNat]!).qQ).length) G0,Sv WV (((g.xq[(ar[(((itF g.fNext z.toNat q):Nat):Int).toNat]!).toNat]!).qJ).length) WJ],xG true y8 Xf<|backTo s g.xq g.fNext z.toNat q,sF false xu qF qE s.qA,sF false xW qO qN s.qB,sF false A6 (aa yn Nq) lz g.xq,sF false IU sS un g.fNext]) ?_ ?_
  ·refine ji rfl H fun H=>tF 0 rfl rfl H ?_
   refine tL 1 rfl rfl (fun _ h=>h.cell 2 rfl rfl) H ?_
   refine rtl 2 H ?_
   refine rtl 3 H ?_
   refine tI 4 rfl rfl rfl H ?_
   refine tL 5 rfl rfl (fun _ h=>h.Xb 1 rfl (iv:=(((itF g.fNext z.toNat q):Nat):Int)) (i:=((((itF g.fNext z.toNat q):Nat):Int).toNat)) qf qf) H ?_
   obtain⟨fb,e6,va,ir,iV,AE,ep,dY,tt,H⟩:=H.XO 3 rfl (ar[(((itF g.fNext z.toNat q):Nat):Int).toNat]!) ((ar[(((itF g.fNext z.toNat q):Nat):Int).toNat]!).toNat) qf qf qf
   refine tI 6 rfl rfl rfl (H.pick (zR 0 4)<|zR 4 5)<|zY [7,8] qh qm<|vG rfl ?_<|vG rfl ?_ zZ
   ·refine xy [Sv fb (((g.xq[(ar[(((itF g.fNext z.toNat q):Nat):Int).toNat]!).toNat]!).qK).length) e6,Sv ir (((g.xq[(ar[(((itF g.fNext z.toNat q):Nat):Int).toNat]!).toNat]!).qQ).length) iV,Sv ep (((g.xq[(ar[(((itF g.fNext z.toNat q):Nat):Int).toNat]!).toNat]!).qJ).length) dY] isAgg31 sizeOf31 rfl (qC (H.get 3 rfl) 0 3) (⟨H.pick (zR 0 4)<|zR 4 5,(ro 8 rfl<|xg H ti31 [yN,yN,yN] fun b42 KQ H=>⟨H.pick (zR 1 4)<|zR 4 5,(ro 9 rfl ?_)⟩)⟩)
    refine xx H 0 [Sv fb (((g.xq[(ar[(((itF g.fNext z.toNat q):Nat):Int).toNat]!).toNat]!).qK).length) e6,Sv ir (((g.xq[(ar[(((itF g.fNext z.toNat q):Nat):Int).toNat]!).toNat]!).qQ).length) iV,Sv ep (((g.xq[(ar[(((itF g.fNext z.toNat q):Nat):Int).toNat]!).toNat]!).qJ).length) dY] sizeOf31 fun JC H=>⟨H.pick (zR 1 4)<|zR 4 5,(xC qh ((meet ⟨_,b42,fb,e6,ir,iV,ep,dY,va,AE,tt,uE6,N,H⟩)))⟩
   refine xg H ti31 [yN,yN,yN] fun KC Dz H=>⟨H.pick (zR 1 4)<|zR 4 5,(ro 7 rfl<|xy [Sv fb (((g.xq[(ar[(((itF g.fNext z.toNat q):Nat):Int).toNat]!).toNat]!).qK).length) e6,Sv ir (((g.xq[(ar[(((itF g.fNext z.toNat q):Nat):Int).toNat]!).toNat]!).qQ).length) iV,Sv ep (((g.xq[(ar[(((itF g.fNext z.toNat q):Nat):Int).toNat]!).toNat]!).qJ).length) dY] isAgg31 sizeOf31 rfl (qC (H.get 3 rfl) 0 3)<|⟨H.pick (zR 1 4)<|zR 4 5,(ro 9 rfl ?_)⟩)⟩
   refine xx H 0 [Sv fb (((g.xq[(ar[(((itF g.fNext z.toNat q):Nat):Int).toNat]!).toNat]!).qK).length) e6,Sv ir (((g.xq[(ar[(((itF g.fNext z.toNat q):Nat):Int).toNat]!).toNat]!).qQ).length) iV,Sv ep (((g.xq[(ar[(((itF g.fNext z.toNat q):Nat):Int).toNat]!).toNat]!).qJ).length) dY] sizeOf31 fun Wc H=>⟨H.pick (zR 1 4)<|zR 4 5,(xC qh ((meet ⟨_,KC,fb,e6,ir,iV,ep,dY,va,AE,tt,uE6,N,H⟩)))⟩
  clear H N
  rintro ρ Lc ⟨xN,Bn,PL,PN,GU,G0,WV,WJ,F36,F37,F38,rfl,N,H⟩
  refine t_n<|zcr<|sw<|xy (yS s qF qE qO qN) isAgg27 sizeOf27 rfl (qC (H.cells 4 rfl) 0 3)<|sw<|xy [Sv PL (((g.xq[(ar[(((itF g.fNext z.toNat q):Nat):Int).toNat]!).toNat]!).qK).length) PN,Sv GU (((g.xq[(ar[(((itF g.fNext z.toNat q):Nat):Int).toNat]!).toNat]!).qQ).length) G0,Sv WV (((g.xq[(ar[(((itF g.fNext z.toNat q):Nat):Int).toNat]!).toNat]!).qJ).length) WJ] isAgg31 sizeOf31 rfl (qC (H.cells 0 rfl) 0 3) ?_
  have alU:=H.base.size
  have alN:=H.ltN (L:=[y8]) [4]
  refine sw<|oc (choices_ok _ s (g.xq[(ar[(((itF g.fNext z.toNat q):Nat):Int).toNat]!).toNat]!) (H.get 5 rfl).1 (H.get 6 rfl).1 (H.get 0 rfl).1 (H.get 1 rfl).1 (H.get 2 rfl).1 qg qg) ?_
  rintro _ Pt ⟨YG,aqI,agE,aqt,at6,rfl,M,K⟩ _
  replace N:=N.merge alU alN M
  replace H:=H.merge K M
  obtain rfl:=H.xQ (α:=yLI) 0 rfl 0 rfl qj
  refine sq 5<|zjcc<|sq 1<|sp (Bv (((zK s<|g.xq[(ar[(((itF g.fNext z.toNat q):Nat):Int).toNat]!).toNat]!).2:Int) != 0))<|zjn<|zX (((zK s<|g.xq[(ar[(((itF g.fNext z.toNat q):Nat):Int).toNat]!).toNat]!).2:Int) != 0) rfl (fun Bs=>?_)<|fun Bs=>?_
  ·replace Bs:=bne_iff_ne.1 Bs
   exact absurd wb.1 ql
  replace Bs:=xA Bs
  refine qZ<|t_n<|zcc<|sq 1<|oN rfl<|sp (yI 0)<|zjn<|xf ?_
  have H0:=H
  obtain⟨G56,It,agh,H⟩:=H.yC (α:=yLI) 0 rfl 0 rfl qj
  replace N:Fresh w.heap.size [G56,y8]:=Fresh.ice N H0 0 It.1 It.2<|H0.vX [5]
  clear H0
  obtain⟨T6,B60,P61,N,H⟩:=H.pool (α:=yLI) 0 rfl N
  refine zD ((fun Z0 Z1 Z2 Z3 Z4 Z5 Z6 Z7 Z8 Z9 bG bX eZ i8=>fun m' ρ GT=>∃(xN:Env) (cj:yOA) (QQ:Nat) (XR:Nat) (bL:yLL) (cW:List Value) (Xw:yLN) (k:Nat) (y1:yLN),ρ=upd (upd (upd (upd (upd (upd (upd (upd (upd xN 2<|yI (((itF g.fNext z.toNat q):Nat):Int)) 3<|pp b1 0) 4<|pp b3 0) 8<|Sv (aa b5 0) g.xq.length g.xq.length) 12<|Sv cj QQ XR) 13<|pp Bn 0) 67<|Sv YG (((zK s<|g.xq[(ar[(((itF g.fNext z.toNat q):Nat):Int).toNat]!).toNat]!).1).length) agE) 68<|yI (((zK s<|g.xq[(ar[(((itF g.fNext z.toNat q):Nat):Int).toNat]!).toNat]!).1).length)) 69 (yI k)/\bL=(backTo s g.xq g.fNext z.toNat q)/\((k:Int)<=(((zK s<|g.xq[(ar[(((itF g.fNext z.toNat q):Nat):Int).toNat]!).toNat]!).1).length))/\(∀j,j<k->¬zA s (g.xq[((ar[((((itF g.fNext z.toNat q):Nat):Int)).toNat]!).toNat)]!) ((zK s<|g.xq[((ar[((((itF g.fNext z.toNat q):Nat):Int)).toNat]!).toNat)]!).1[j]!)=(g.xq[(itF g.fNext z.toNat q)]!,0))/\m'=((((zK s<|g.xq[(ar[(((itF g.fNext z.toNat q):Nat):Int).toNat]!).toNat]!).1).length)-(k:Int)).toNat/\Fresh w.heap.size [Xw,y1]/\St w GT [Z0,rr cj QQ XR 24 1 cW,Z1,Z2,Z3] [xG true y1 (T6.drop<|k*1) (((zK s<|g.xq[(ar[(((itF g.fNext z.toNat q):Nat):Int).toNat]!).toNat]!).1).drop k),Z4,Z5,Z6,Z7,Z8,Z9,xG true Xw cW bL,bG,bX,eZ,i8]) _ _ _ _ _ _ _ _ _ _ _ _ _ _) (((((zK s<|g.xq[(ar[(((itF g.fNext z.toNat q):Nat):Int).toNat]!).toNat]!).1).length)-(0:Int)).toNat) ⟨_,jZ,vV,jQ,(backTo s g.xq g.fNext z.toNat q),Xf,y8,0,P61,uE9,(by rfl),qf,qx,rfl,(N.pick [1,0]),H.pick (zR 1 5) (0::1::2::zR 4 9)⟩ ?_
  clear H N
  rintro m' ρ Wo ⟨xN,cj,QQ,XR,bL,cW,Xw,k,y1,rfl,rfl,i0,b1,rfl,N,H⟩
  have bQ:=H.xQ (α:=yLI) 1 rfl 7 rfl qj
  refine zcr<|sq 1<|zjn<|xU<|cD rfl (fun wh=>?_)<|fun wh=>?_
  ·refine qZ (t_n<|xU<|xf<|zcr ?_)
   obtain⟨BE,o66,rfl⟩:=H.addr 2 rfl qf
   obtain⟨an7,akg,Zs,P69,N,H⟩:=H.drainList 1 rfl 0 rfl ((N.pick [1,0]):Fresh w.heap.size [y1,Xw]) k k qf qf qf
   refine oI rfl rfl<|oL rfl (H.zo 1 rfl 0 rfl)<|sq 1<|zjc<|sw<|xy (yS s qF qE qO qN) isAgg27 sizeOf27 rfl (qC (H.cells 4 rfl) 0 3)<|sw<|xy [Sv PL (((g.xq[(ar[(((itF g.fNext z.toNat q):Nat):Int).toNat]!).toNat]!).qK).length) PN,Sv GU (((g.xq[(ar[(((itF g.fNext z.toNat q):Nat):Int).toNat]!).toNat]!).qQ).length) G0,Sv WV (((g.xq[(ar[(((itF g.fNext z.toNat q):Nat):Int).toNat]!).toNat]!).qJ).length) WJ] isAgg31 sizeOf31 rfl (qC (H.cells 0 rfl) 0 3)<|sq 1 ?_
   obtain⟨cc1,cc2⟩:=cho_ok (k:=k) p0 ks1 qf
   have aoY:=H.base.size
   have apU:=H.ltN (L:=[Zs,P69,Xw]) [0,2,10]
   refine sw<|oc (step_ok _ s (g.xq[(ar[(((itF g.fNext z.toNat q):Nat):Int).toNat]!).toNat]!) (((zK s<|g.xq[(ar[(((itF g.fNext z.toNat q):Nat):Int).toNat]!).toNat]!).1)[k]!) (H.get 11 rfl).1 (H.get 12 rfl).1 (H.get 6 rfl).1 (H.get 7 rfl).1 (H.get 8 rfl).1 (H.get 0 rfl).1 qg qg qg qg) ?_
   rintro _ LL ⟨tT,R2,um,wv,Wg,wj,WR,Ge,qt,PA,qT,rfl,M,K⟩ _
   replace N:=N.merge aoY apU M
   replace H:=H.merge K M
   obtain rfl:=H.Xg 0 rfl
   obtain rfl:=H.xQ (α:=yLI) 1 rfl 0 rfl qj
   obtain rfl:=H.jy 2 rfl
   refine sq 3<|sw<|xg H ti31 [yN,yN,yN] fun b78 NB H=>(sw<|xx H 0 [Sv tT ((((zA s (g.xq[(ar[(((itF g.fNext z.toNat q):Nat):Int).toNat]!).toNat]!) (((zK s<|g.xq[(ar[(((itF g.fNext z.toNat q):Nat):Int).toNat]!).toNat]!).1)[k]!)).1).qK).length) um,Sv wv ((((zA s (g.xq[(ar[(((itF g.fNext z.toNat q):Nat):Int).toNat]!).toNat]!) (((zK s<|g.xq[(ar[(((itF g.fNext z.toNat q):Nat):Int).toNat]!).toNat]!).1)[k]!)).1).qQ).length) wj,Sv qt ((((zA s (g.xq[(ar[(((itF g.fNext z.toNat q):Nat):Int).toNat]!).toNat]!) (((zK s<|g.xq[(ar[(((itF g.fNext z.toNat q):Nat):Int).toNat]!).toNat]!).1)[k]!)).1).qJ).length) qT] sizeOf31 fun TX H=>(sq 1<|zjn<|xU<|ji rfl H fun H=>rtl 0 H ?_))
   refine rtp 1 (Bv (((zA s (g.xq[(ar[(((itF g.fNext z.toNat q):Nat):Int).toNat]!).toNat]!) (((zK s<|g.xq[(ar[(((itF g.fNext z.toNat q):Nat):Int).toNat]!).toNat]!).1)[k]!)).2:Int) == 0)) H ?_
   refine rtp 2 (Bv (((zA s (g.xq[(ar[(((itF g.fNext z.toNat q):Nat):Int).toNat]!).toNat]!) (((zK s<|g.xq[(ar[(((itF g.fNext z.toNat q):Nat):Int).toNat]!).toNat]!).1)[k]!)).2:Int) == 0)) H ?_
   cases Dw:(((zA s (g.xq[(ar[(((itF g.fNext z.toNat q):Nat):Int).toNat]!).toNat]!) (((zK s (g.xq[(ar[(((itF g.fNext z.toNat q):Nat):Int).toNat]!).toNat]!)).1)[k]!)).2:Int) == 0)
   ·replace Dw:=ne_of_beq_false Dw
    refine vJ (zR 3 7) 7 (H)<|rtp 10 (Bv false) H ?_
    refine xC qh<|t_n<|cFr rfl<|qZ<|b_n<|t_n<|xX<|sw<|zC k 1 rfl rfl qf<|sq 1<|xZ<|xh (m':=((((zK s<|g.xq[(ar[(((itF g.fNext z.toNat q):Nat):Int).toNat]!).toNat]!).1).length)-((k+1):Int)).toNat) qf ⟨_,_,_,_,_,_,_,k+1,_,uE9,?_,?_,?_,rfl,(N.pick [3,2]),H.pick (zR 4 5) (3::zR 5 11)⟩
    ·rfl
    ·omega
    ·exact betw_step b1<|.inl ql
   replace Dw:=eq_of_beq Dw
   refine rg 3 _ 82 (yF (cs:=[Sv tT ((((zA s (g.xq[(ar[(((itF g.fNext z.toNat q):Nat):Int).toNat]!).toNat]!) (((zK s<|g.xq[(ar[(((itF g.fNext z.toNat q):Nat):Int).toNat]!).toNat]!).1)[k]!)).1).qK).length) um,Sv wv ((((zA s (g.xq[(ar[(((itF g.fNext z.toNat q):Nat):Int).toNat]!).toNat]!) (((zK s<|g.xq[(ar[(((itF g.fNext z.toNat q):Nat):Int).toNat]!).toNat]!).1)[k]!)).1).qQ).length) wj,Sv qt ((((zA s (g.xq[(ar[(((itF g.fNext z.toNat q):Nat):Int).toNat]!).toNat]!) (((zK s<|g.xq[(ar[(((itF g.fNext z.toNat q):Nat):Int).toNat]!).toNat]!).1)[k]!)).1).qJ).length) qT]) isAgg31 sizeOf31 rfl<|fun _ h=>qC (h.cells 0 rfl) 0 3) H ?_
   refine gF 4 rfl rfl H ?_
   refine gL 5 rfl rfl (fun _ h=>h.cell 7 rfl rfl) H ?_
   refine rgl 6 82 H ?_
   obtain⟨GK,Fp,UI,J0,Ki,aha,BI,CO,RY,H⟩:=H.XO 14 rfl (((itF g.fNext z.toNat q):Nat):Int) ((((itF g.fNext z.toNat q):Nat):Int).toNat) qf qf qf
   refine gI 7 rfl rfl rfl (H.pick (zR 0 9)<|zR 4 16)<|zY [8] qh qm<|X4 rfl (e:=82) rfl rfl (xy [Sv GK (((g.xq[(((itF g.fNext z.toNat q):Nat):Int).toNat]!).qK).length) Fp,Sv J0 (((g.xq[(((itF g.fNext z.toNat q):Nat):Int).toNat]!).qQ).length) Ki,Sv BI (((g.xq[(((itF g.fNext z.toNat q):Nat):Int).toNat]!).qJ).length) CO] isAgg31 sizeOf31 rfl (qC (H.get 3 rfl) 0 3)<|⟨H.pick (zR 0 9)<|zR 4 16,(zY [9] qh qm<|X4 rfl (e:=82) rfl rfl ?_ zZ)⟩) zZ
   obtain⟨G84,az1,mY⟩:=H.rowIsB 1 rfl
   obtain⟨G87,EQ,y2⟩:=H.QL (α:=yLI) 2 rfl 4 rfl qj
   obtain⟨G90,avF,RU⟩:=H.XB 3 rfl
   refine oq (sameState_ok _ ((zA s (g.xq[(ar[(((itF g.fNext z.toNat q):Nat):Int).toNat]!).toNat]!) (((zK s<|g.xq[(ar[(((itF g.fNext z.toNat q):Nat):Int).toNat]!).toNat]!).1)[k]!)).1) (g.xq[(((itF g.fNext z.toNat q):Nat):Int).toNat]!) mY y2 RU (H.get 0 rfl).1 (H.get 1 rfl).1 (H.get 2 rfl).1) H fun L8 H=>⟨H.pick (zR 0 9)<|zR 4 16,?_⟩
   refine rtl 10 (H.pick (zR 0 9)<|zR 4 16) ?_
   refine xC qh<|t_n<|cD rfl (fun U7=>?_)<|fun U7=>?_
   ·refine zcr (sq 2<|sw<|zl H underlying29 ti24 [Sv an7 ((((zK s<|g.xq[(ar[(((itF g.fNext z.toNat q):Nat):Int).toNat]!).toNat]!).1)[k]!).length) akg] fun Nk S5 H=>sw<|zt H 6 rfl 0 rfl underlying29 ti24 rfl qj rfl rfl rfl qw qp qf fun a99 ak6 LO H=>?_)
    replace H:=H.yh 15 rfl 5 rfl
    replace N:Fresh w.heap.size [(Xw++Zs),Ge,P69]:=(N.pick [3,1,0,2]).join
    refine sq 1<|zjn<|VR<|b_o rfl<|t_x<|t_x<|b_x<|t_n<|xX<|sq 2<|oI rfl rfl<|oL rfl (H.Xb 7 rfl (iv:=(((itF g.fNext z.toNat q):Nat):Int)) (i:=((((itF g.fNext z.toNat q):Nat):Int).toNat)) qf qf)<|sq 1<|xZ<|b_n<|xh (m':=(itF g.fNext z.toNat<|q+1)) (by exact fk) ⟨_,_,_,_,_,_,_,_,q+1,uE5,?_,?_,?_,rfl,(N.pick [0]),H.pick (zR 6 4) (0::zR 17 4)⟩
    ·exact fe
    ·exact back_step fa b1 qf ql ql
    ·exact kz_step kz q0
   refine qZ<|b_n<|t_n<|xX<|sw<|zC k 1 rfl rfl qf<|sq 1<|xZ<|xh (m':=((((zK s<|g.xq[(ar[(((itF g.fNext z.toNat q):Nat):Int).toNat]!).toNat]!).1).length)-((k+1):Int)).toNat) qf ⟨_,_,_,_,_,_,_,k+1,_,uE9,?_,?_,?_,rfl,(N.pick [3,2]),H.pick (zR 4 5) (7::zR 9 11)⟩
   ·rfl
   ·omega
   ·exact betw_step b1<|.inr ql
  obtain⟨x,hx,he⟩:=wb.2
  exact absurd he<|b1 x qf
 replace x6:=xA x6
 refine zx4<|zcr<|sq 1<|sw<|ve #[Sv jZ vV jQ] rfl rfl call118 (revRow revL H 0 rfl 0 rfl) ?_
 rintro _ xc ⟨alE,rfl,Y9,H⟩
 replace N:Fresh w.heap.size [alE]:=Fresh.perm N Y9
 refine zjc<|sq 2<|sp (yI 0)<|zjr ?_
 have H0:=H
 obtain⟨Kf,AD,Yg,H⟩:=H.yC (α:=yLI) 0 rfl 0 rfl qj
 replace N:Fresh w.heap.size [Kf]:=Fresh.ice N H0 0 AD.1 AD.2<|H0.vX []
 clear H0
 obtain rfl:=H.isLen 0 rfl
 refine ret2 (Sv jZ (((backTo s g.xq g.fNext z.toNat q).reverse).length) jQ) (yI 0) rfl rfl rfl ⟨_,rfl,?_,H.base⟩
 rw[path_end qf kz]
 exact⟨jZ,jQ,Kf,rfl,N,H.pick [] [0]⟩
theorem implEx_ok(w:World)(s:qH)(t:qG)(xe:zP w xu qF qE s.qA)(xE:zP w xW qO qN s.qB)(xR:zP w zk qV qU t.qK)(zu:zP w zF xm xk t.qQ)(xB:zP w xJ qM qL t.qJ):Calls Tryz.prog 21 #[.agg #[yI s.zf,Sv qF s.qA.length qE,Sv qO s.qB.length qN],.agg #[Sv qV t.qK.length qU,Sv xm t.qQ.length xk,Sv qM t.qJ.length qL]] w (Ret (fun v w'=>∃(u9:yOA) (vx:Nat) (u7:yLN) (En:yOA) (C8:Nat) (D5:yLN),v=.tuple #[.agg #[Sv u9 (((exG s t).xq).length) vx,Sv En (((exG s t).fNext).length) C8],yI ((yG s t).2)]/\Fresh w.heap.size [u7,D5]/\St w w' [] [sF true u7 u9 vx ((exG s t).xq),sF true D5 En C8 ((exG s t).fNext)]) w):=by
 refine en func21 ntmps21 ?_
 have H:=(((((St.start w).arg xB).arg zu).arg xR).arg xE).arg xe
 have jT:=qR xR
 have yR:=qR zu
 have jv:=qR xB
 clear xe xE xR zu xB
 have N:=Fresh.nil w.heap.size
 refine zcr<|sw<|zN H (yS s qF qE qO qN) fun b1 w2 H=>sw<|zN H (yT t qV qU xm xk qM qL) fun b3 w4 H=>sw<|xg H ti46 [yN,yN] fun b5 w6 H=>sp (yI 0)<|zjcc<|sw<|xy (yS s qF qE qO qN) isAgg27 sizeOf27 rfl (qC (H.cells 2 rfl) 0 3)<|sw<|xy (yT t qV qU xm xk qM qL) isAgg31 sizeOf31 rfl (qC (H.cells 1 rfl) 0 3)<|sw<|oq (QA _ s t (H.get 0 rfl).1 (H.get 1 rfl).1 (H.get 2 rfl).1 (H.get 3 rfl).1 (H.get 4 rfl).1) H fun w8 H=>sq 1<|zjn<|cQ rfl (fun bx=>?_)<|fun bx=>?_
 ·refine zcr (sw<|vg [yN,yN] []<|sw<|xx H 0 [yN,yN] sizeOf46 fun rL H=>sp (yI 1)<|zjr<|t_r ?_)
  replace H:=H.addNil (α:=qG)
  replace H:=H.addNil (α:=yLI)
  refine XC H 0 rfl (yI 1) rfl isAgg46 sizeOf46 rfl rfl ⟨_,rfl,?_,H.base⟩
  obtain⟨z1,z2⟩:=exG_of<|ex_1 ‹_›
  rw[z1,z2]
  exact⟨none,0,[],none,0,[],rfl,N.emp.emp,H.pick [] [1,0]⟩
 have k0:=(‹vz s/\xK s t›:vz s/\xK s t)
 have k1:=k0.1
 have k2:=k0.2
 obtain⟨q7,q8,q9,Bz⟩:=k2.sizes k1.1
 have Uj:=fun k hk=>Nat.le_trans (Bz k hk) (by decide:8<=1000000)
 refine qZ<|t_n<|zcr<|sw<|xy (yS s qF qE qO qN) isAgg27 sizeOf27 rfl (qC (H.cells 2 rfl) 0 3)<|sw<|xy (yT t qV qU xm xk qM qL) isAgg31 sizeOf31 rfl (qC (H.cells 1 rfl) 0 3)<|sw<|zW #[.agg #[yI s.zf,Sv qF s.qA.length qE,Sv qO s.qB.length qN],.agg #[Sv qV t.qK.length qU,Sv xm t.qQ.length xk,Sv qM t.qJ.length qL]] rfl rfl call66<|en func66 ntmps66 ?_
 refine zcr<|sw<|zN H (yS s qF qE qO qN) fun uG xp H=>sw<|zN H (yT t qV qU xm xk qM qL) fun e9 uK H=>sw<|xg H ti46 [yN,yN] fun m1 GW H=>sp (yI 0)<|zjc<|sw<|xy (yT t qV qU xm xk qM qL) isAgg31 sizeOf31 rfl (qC (H.cells 1 rfl) 0 3) ?_
 have anU:=H.base.size
 refine sw<|oc (Q9 _ t (H.get 2 rfl).1 (H.get 3 rfl).1 (H.get 4 rfl).1 qg qg qg qg) ?_
 rintro _ y6 ⟨iW,WM,iN,ls,acp,lK,Jw,HJ,fN,TE,fS,rfl,M,K⟩ _
 replace N:=N.merge anU qm M
 replace H:=H.merge K M
 obtain rfl:=H.Xg 0 rfl
 obtain rfl:=H.xQ (α:=yLI) 1 rfl 0 rfl qj
 obtain rfl:=H.jy 2 rfl
 refine sw<|zl H underlying38 ti31 (yT t iW iN ls lK fN fS) fun yn BA H=>sw<|vg [Sv (aa yn 0) 1 1,yN] [(0,Sv (aa yn 0) 1 1)]<|sw<|xg H ti46 [yN,yN] fun rj GZ H=>sw<|xx H 0 [Sv (aa yn 0) 1 1,yN] sizeOf46 fun BB H=>zjcc<|sp (yI 0)<|zjn<|xf ?_
 replace H:=H.boxRow 1 rfl 3 1 rfl qj
 replace H:=H.vP (α:=qG)
 obtain⟨Th,N,ake,H⟩:=H.freezeB 2 rfl N<|H.vX [1]
 have H0:=H
 obtain⟨NI,YW,Hw,H⟩:=H.yC (α:=yLI) 3 rfl 2 rfl qj
 replace N:Fresh w.heap.size [NI,Th]:=Fresh.ice (N.pick [1,0]) H0 3 YW.1 YW.2<|H0.vX [0]
 clear H0
 obtain⟨Ip,N,Mq,H⟩:=H.zQ 4 rfl N<|H.vX [0,1]
 replace H:=H.Qo 3 rfl 2 rfl 1 rfl 0 rfl
 replace N:Fresh w.heap.size [([]++(Th++NI++Ip))]:=(N.emp.pick [3,2,1,0]).join.join.swap.join
 replace H:St _ _ [.box rj [Sv (aa yn 0) 1 1,yN] 46,rr (aa yn 0) 1 1 31 3<|yT t iW iN ls lK fN fS,rr none 0 0 0 1 [],rr none 0 0 0 1 [],rr none 0 0 0 1 [],.box m1 [yN,yN] 46,.box e9 (yT t qV qU xm xk qM qL) 31,.box uG (yS s qF qE qO qN) 27,.box b5 [yN,yN] 46,.box b3 (yT t qV qU xm xk qM qL) 31,.box b1 (yS s qF qE qO qN) 27] [xG true ([]++(Th++NI++Ip)) (yT t iW iN ls lK fN fS) [t],sF true Ip fN fS t.qJ,sF true NI ls lK t.qQ,sF true Th iW iN t.qK,xG true [] [] ([]:List qG),xG true HJ Jw t.qQ,sF false xu qF qE s.qA,sF false xW qO qN s.qB,sF false zk qV qU t.qK,sF false zF xm xk t.qQ,sF false xJ qM qL t.qJ]:=H
 replace H:=H.nilRow 24 1
 replace H:=H.vP (α:=yLI)
 refine zD ((fun Z0 Z1 Z2 Z3 Z4 Z5 Z6 Z7 Z8 Z9 bG=>fun m' ρ Jz=>∃(xN:Env) (i:Nat) (xM:yOA) (xH:Nat) (xI:Nat) (ag:List qG) (zH:List Value) (vM:yLN) (zh:yOA) (qI:Nat) (zg:Nat) (aj:yLL) (vT:List Value) (zL:yLN),ρ=upd (upd (upd (upd xN 2<|pp uG 0) 4<|pp m1 0) 6<|pp rj 0) 7 (yI i)/\(Yf s t=grGo s (302-i) i ag aj)/\(∀u∈ag,xK s u)/\(0<ag.length/\ag.length<=300)/\(aj.length=i)/\(i<=ag.length)/\(GrOk ag aj)/\m'=(301-i)/\Fresh w.heap.size [vM,zL]/\St w Jz [rr zh qI zg 24 1 vT,.box rj [Sv xM xH xI,Sv zh qI zg] 46,rr xM xH xI 31 3 zH,Z0,Z1,Z2,Z3,Z4,Z5] [xG true zL vT aj,xG true vM zH ag,Z6,Z7,Z8,Z9,bG]) _ _ _ _ _ _ _ _ _ _ _) ((301-0)) ⟨_,0,(aa yn 0),1,1,[t],(yT t iW iN ls lK fN fS),([]++(Th++NI++Ip)),none,0,0,([]:yLL),[],[],uE4,(by rfl),(by exact fun u hu=>by obtain rfl:=List.mem_singleton.1 hu;exact k2),qm,(by rfl),qm,(by exact GrOk.start t),rfl,(N.emp.pick [1,0]),H.pick (0::1::2::zR 6 6) (0::1::zR 7 5)⟩ ?_
 clear H N
 rintro m' ρ BG ⟨xN,i,xM,xH,xI,ag,zH,vM,zh,qI,zg,aj,vT,zL,rfl,kr,ka,kl,kn,ki,ko,rfl,N,H⟩
 have V9:=H.xQ (α:=qG) 2 rfl 1 rfl qj
 have oU:=H.xQ (α:=yLI) 0 rfl 0 rfl qj
 refine zcc<|sp (yI i)<|oF rfl<|oL rfl (H.cell 1 rfl rfl)<|oN rfl<|sq 1<|zjn<|cD rfl (fun Bo=>?_)<|fun Bo=>?_
 ·have ks:=ka (ag[i]!) (mem_at (k:=i) qf rfl)
  have nl:=succ_len s<|ag[i]!
  refine qZ<|t_n<|xU<|xf<|xU<|ji rfl H fun H=>rt 0 _ (yF (cs:=(yS s qF qE qO qN)) isAgg27 sizeOf27 rfl<|fun _ h=>qC (h.cells 5 rfl) 0 3) H ?_
  refine tF 1 rfl rfl H ?_
  refine tL 2 rfl rfl (fun _ h=>h.cell 1 rfl rfl) H ?_
  refine rtp 3 (yI i) H ?_
  obtain⟨b42,rfl⟩:=H.jR 2 rfl qf
  obtain⟨l9,lZ,ww,n7,nO,z6,j6,iY,sy,alx,H⟩:=H.Yd 2 rfl 1 rfl (iv:=i) i qf qf
  have S:=H.jF (zR 0 9)<|zR 3 7
  refine tI 4 rfl rfl rfl S ?_
  refine rt 5 _ (yF (cs:=[Sv l9 (((ag[i]!).qK).length) lZ,Sv n7 (((ag[i]!).qQ).length) nO,Sv j6 (((ag[i]!).qJ).length) iY]) isAgg31 sizeOf31 rfl<|fun _ h=>qC (fun j v hj=>h.VI 2 rfl<|alx j v hj) 0 3) S ?_
  refine ro 6 rfl ?_
  have ajx:=H.base.size
  have al6:=H.ltN (L:=[vM,zL]) [4,3]
  refine oc (nextStates_ok _ s (ag[i]!) (H.get 5 rfl).1 (H.get 6 rfl).1 (H.get 0 rfl).1 (H.get 1 rfl).1 (H.get 2 rfl).1 qg qg) ?_
  rintro _ Dz ⟨ahP,aq4,adL,atB,arV,rfl,M,K⟩ _
  replace N:=N.merge ajx al6 M
  replace H:=H.merge K M
  obtain rfl:=H.xQ (α:=qG) 0 rfl 0 rfl qj
  refine⟨H.pick (zR 1 9)<|zR 4 7,?_⟩
  have S:=H.jF (zR 1 9)<|zR 4 7
  refine rtl 7 S ?_
  refine rtl 8 S ?_
  refine rtl 9 S ?_
  refine rtl 10 S ?_
  refine rtl 11 S ?_
  refine xC qh<|t_n<|zcc<|sq 1<|sp (Bv (((qW s<|ag[i]!).2:Int) != 0))<|zjn<|zX (((qW s<|ag[i]!).2:Int) != 0) rfl (fun BV=>?_)<|fun BV=>?_
  ·replace BV:=bne_iff_ne.1 BV
   refine zcr<|sw<|vg [yN,yN] []<|sq 1<|sw<|xx H 4 [yN,yN] sizeOf46 fun w52 H=>sq 1<|zjr<|t_r<|zr5<|XC H 4 rfl (yI ((qW s<|ag[i]!).2)) rfl isAgg46 sizeOf46 rfl rfl ⟨_,rfl,?_⟩
   replace H:=H.erases [6,5,4,3,2,1,0]
   dsimp only[zU,List.eraseIdx] at H
   refine sq 2<|sw<|xx H 0 [yN,yN] sizeOf46 fun LJ H=>sq 1<|zjr ?_
   replace H:=H.addNil (α:=qG)
   replace H:=H.addNil (α:=yLI)
   refine XC H 0 rfl (yI ((qW s<|ag[i]!).2)) rfl isAgg46 sizeOf46 rfl rfl ⟨_,rfl,?_,H.base⟩
   obtain⟨z1,z2⟩:=exG_of<|ex_0 k0<|kr.trans<|gr_code qf qf ql
   rw[z1,z2]
   exact⟨none,0,[],none,0,[],rfl,(N.emp.emp.pick [0,1]),H.pick [] [1,0]⟩
  replace BV:=xA BV
  refine qZ<|t_n<|zcr<|sw<|ja H underlying24 ti2 fun Lm UR H=>sq 1<|zjcc<|sq 1<|oN rfl<|sp (yI 0)<|zjn<|xf ?_
  have H0:=H
  obtain⟨G56,It,agh,H⟩:=H.yC (α:=qG) 1 rfl 0 rfl qj
  replace N:Fresh w.heap.size [G56,vM,zL]:=Fresh.ice N H0 1 It.1 It.2<|H0.vX [5,4]
  clear H0
  obtain⟨T6,B60,P61,N,H⟩:=H.pool (α:=qG) 0 rfl N
  replace H:=H.boxRowI 0 [] 0
  refine zD ((fun Z0 Z1 Z2 Z3 Z4 Z5 Z6 Z7 Z8 Z9 bG bX eZ i8 mb=>fun m' ρ GT=>∃(xN:Env) (gB:yOA) (gH:Nat) (gE:Nat) (own:yLI) (k:Nat) (jM:yOA) (vk:Nat) (jL:Nat) (aU:List qG) (yD:List Value) (yQ:yLN) (y1:yLN),ρ=upd (upd (upd (upd (upd (upd (upd (upd xN 2<|pp uG 0) 4<|pp m1 0) 6<|pp rj 0) 7<|yI i) 10<|Sv gB gH gE) 40<|Sv ahP (((qW s<|ag[i]!).1).length) adL) 41<|yI (((qW s<|ag[i]!).1).length)) 42 (yI k)/\own=(vC ag (qW s<|ag[i]!).1 k).2/\aU=(vC ag (qW s<|ag[i]!).1 k).1/\((k:Int)<=(((qW s<|ag[i]!).1).length))/\m'=((((qW s<|ag[i]!).1).length)-(k:Int)).toNat/\Fresh w.heap.size [zL,yQ,y1]/\St w GT [rr gB gH gE 2 1<|own.map<|Value.int .i64,Z0,.box rj [Sv jM vk jL,Sv zh qI zg] 46,rr jM vk jL 31 3 yD,Z1,Z2,Z3,Z4,Z5,Z6] [xG true y1 (T6.drop<|k*3) (((qW s<|ag[i]!).1).drop k),Z7,Z8,Z9,xG true yQ yD aU,bG,bX,eZ,i8,mb]) _ _ _ _ _ _ _ _ _ _ _ _ _ _ _) (((((qW s<|ag[i]!).1).length)-(0:Int)).toNat) ⟨_,(aa Lm 0),0,0,([]:yLI),0,(aa b42 0),xH,xI,ag,zH,vM,P61,uE8,(by rfl),(by rfl),qf,rfl,(N.pick [2,1,0]),H.pick (0::zR 2 9) (0::1::2::zR 7 7)⟩ ?_
  clear H N
  rintro m' ρ Wo ⟨xN,gB,gH,gE,own,k,jM,vk,jL,aU,yD,yQ,y1,rfl,rfl,rfl,i0,rfl,N,H⟩
  have tB:=H.jy 0 rfl
  have V9:=H.xQ (α:=qG) 3 rfl 4 rfl qj
  obtain⟨al1,al2,al3⟩:=Xp (S:=ag) (nx:=(qW s<|ag[i]!).1) k
  refine zcr<|sq 1<|zjn<|xU<|cD rfl (fun wh=>?_)<|fun wh=>?_
  ·obtain⟨BE,o66,rfl⟩:=H.addr 2 rfl qf
   obtain⟨iS,iH,FZ,lD,lu,IB,fA,f9,B6,P69,N,H⟩:=H.drain_StateD 1 rfl 0 rfl ((N.pick [2,0,1]):Fresh w.heap.size [y1,zL,yQ]) k k qf qf qf
   refine qZ<|t_n<|xU<|xf<|zcr<|oI rfl rfl<|sw<|xy [Sv iS (((((qW s<|ag[i]!).1)[k]!).qK).length) iH,Sv lD (((((qW s<|ag[i]!).1)[k]!).qQ).length) lu,Sv fA (((((qW s<|ag[i]!).1)[k]!).qJ).length) f9] isAgg31 sizeOf31 rfl (qC (H.get 3 rfl) 0 3)<|sw<|xg H ti31 [yN,yN,yN] fun OE LL H=>(sw<|xx H 0 [Sv iS (((((qW s<|ag[i]!).1)[k]!).qK).length) iH,Sv lD (((((qW s<|ag[i]!).1)[k]!).qQ).length) lu,Sv fA (((((qW s<|ag[i]!).1)[k]!).qJ).length) f9] sizeOf31 fun I4 H=>zjc<|oF rfl<|oL rfl (H.cell 3 rfl rfl)<|sw<|xy [Sv iS (((((qW s<|ag[i]!).1)[k]!).qK).length) iH,Sv lD (((((qW s<|ag[i]!).1)[k]!).qQ).length) lu,Sv fA (((((qW s<|ag[i]!).1)[k]!).qJ).length) f9] isAgg31 sizeOf31 rfl (qC (H.cells 0 rfl) 0 3) ?_)
   obtain⟨G73,Gl,BR⟩:=H.QL (α:=qG) 4 rfl 9 rfl qj
   refine sw<|oq (Qu (by rw[←Gl])<|find_ok _ ((vC ag (qW s<|ag[i]!).1 k).1) (((qW s<|ag[i]!).1)[k]!) (Gl▸BR) (H.get 0 rfl).1 (H.get 1 rfl).1 (H.get 2 rfl).1) H fun w77 H=>sq 1<|zjcc<|sq 1<|sp (Bv<|decide ((firstIdx (fun zz=>decide (((vC ag (qW s<|ag[i]!).1 k).1)[zz]! =(((qW s<|ag[i]!).1)[k]!))) ((vC ag (qW s<|ag[i]!).1 k).1).length:Int)<0))<|zjn<|cD rfl (fun LG=>?_)<|fun LG=>?_
   ·refine zcr (oF rfl<|oL rfl (H.cell 3 rfl rfl) ?_)
    obtain⟨SN,my,Dw⟩:=H.QL (α:=qG) 4 rfl 9 rfl qj
    refine sw<|oq (Qu (by rw[←my])<|sizeS_ok _ ((vC ag (qW s<|ag[i]!).1 k).1)<|my▸Dw) H fun KD H=>sq 1<|zjn<|xX<|oF rfl<|oL rfl (H.cell 3 rfl rfl)<|sw<|xy [Sv iS (((((qW s<|ag[i]!).1)[k]!).qK).length) iH,Sv lD (((((qW s<|ag[i]!).1)[k]!).qQ).length) lu,Sv fA (((((qW s<|ag[i]!).1)[k]!).qJ).length) f9] isAgg31 sizeOf31 rfl (qC (H.cells 0 rfl) 0 3)<|sw<|zl H underlying38 ti31 [Sv iS (((((qW s<|ag[i]!).1)[k]!).qK).length) iH,Sv lD (((((qW s<|ag[i]!).1)[k]!).qQ).length) lu,Sv fA (((((qW s<|ag[i]!).1)[k]!).qJ).length) f9] fun b86 UV H=>sw<|zt H 5 rfl 0 rfl underlying38 ti31 rfl qj rfl rfl rfl qw qp qf fun W8 YK KV H=>?_
    replace H:=H.Qo 9 rfl 0 rfl 1 rfl 2 rfl
    replace N:Fresh w.heap.size [(yQ++(FZ++IB++B6)),P69,zL]:=(N.pick [0,1,2,5,3,4]).join.join.swap.join
    refine oF rfl<|sw<|xn H 4 [Sv W8 (vk+1) YK,Sv zh qI zg] sizeOf38 fun MV H=>zjn<|xX<|sq 2<|sw<|zl H underlying24 ti2 [yI (((vC ag (qW s<|ag[i]!).1 k).1).length)] fun b92 Vv H=>sw<|zt H 3 rfl 0 rfl underlying24 ti2 rfl qj rfl rfl rfl qw qp qf fun T5 UF WY H=>?_
    rw[snocI] at H
    refine sq 1<|xZ<|b_n<|t_n<|xX<|sw<|zC k 1 rfl rfl qf<|sq 1<|xZ<|xh (m':=((((qW s<|ag[i]!).1).length)-((k+1):Int)).toNat) qf ⟨_,_,_,_,_,k+1,_,_,_,_,_,_,_,uE8,?_,?_,?_,rfl,(N.pick [2,0,1]),H.pick (zR 3 10) (5::7::8::9::0::zR 11 5)⟩
    ·(refine Eq.trans ?_ (Qi (k:=k) ‹_›).2;congr 2 <;> omega)
    ·exact(Qi (k:=k) ‹_›).1
    ·omega
   refine qZ<|t_n<|xX<|sq 2<|sw<|zl H underlying24 ti2 [yI<|firstIdx (fun zz=>decide (((vC ag (qW s<|ag[i]!).1 k).1)[zz]! =(((qW s<|ag[i]!).1)[k]!))) ((vC ag (qW s<|ag[i]!).1 k).1).length] fun Nk S5 H=>(sw<|zt H 2 rfl 0 rfl underlying24 ti2 rfl qj rfl rfl rfl qw qp qf fun a99 ak6 LO H=>?_)
   rw[snocI] at H
   refine sq 1<|xZ<|b_n<|t_n<|xX<|sw<|zC k 1 rfl rfl qf<|sq 1<|xZ<|xh (m':=((((qW s<|ag[i]!).1).length)-((k+1):Int)).toNat) qf ⟨_,_,_,_,_,k+1,_,_,_,_,_,_,_,uE8,?_,?_,?_,rfl,(N.pick [4,5,3]),H.pick (zR 2 10) (4::zR 6 9)⟩
   ·exact(Qh (k:=k) ‹_›).2
   ·exact(Qh (k:=k) ‹_›).1
   ·omega
  refine zx4<|zcc<|oF rfl<|oL rfl (H.cell 2 rfl rfl)<|oN rfl<|sp (Bv<|decide ((vk:Int)>300))<|zjn<|cD rfl (fun aeT=>?_)<|fun aeT=>?_
  ·refine zcr (sw<|vg [yN,yN] []<|sw<|xx H 4 [yN,yN] sizeOf46 fun Iz H=>sp (yI 3)<|zjr<|t_r<|zr5<|XC H 4 rfl (yI 3) rfl isAgg46 sizeOf46 rfl rfl ⟨_,rfl,?_⟩)
   replace H:=H.erases [6,5,4,3,2,1,0]
   dsimp only[zU,List.eraseIdx] at H
   refine sq 1<|sp (yI 3)<|sw<|xx H 0 [yN,yN] sizeOf46 fun zv H=>sp (yI 3)<|zjr ?_
   replace H:=H.addNil (α:=qG)
   replace H:=H.addNil (α:=yLI)
   refine XC H 0 rfl (yI 3) rfl isAgg46 sizeOf46 rfl rfl ⟨_,rfl,?_,H.base⟩
   obtain⟨z1,z2⟩:=exG_of<|ex_0 k0<|kr.trans<|gr_many qf qf qf (k:=k) qf qf
   rw[z1,z2]
   exact⟨none,0,[],none,0,[],rfl,(N.emp.emp.pick [0,1]),H.pick [] [1,0]⟩
  refine qZ<|t_n<|xX<|oF rfl<|oL rfl (H.cell 2 rfl rfl)<|sq 1<|sw<|zl H underlying29 ti24 [Sv gB gH gE] fun M8 RG H=>?_
  obtain⟨Tv,N,atT,H⟩:=H.zQ 1 rfl N<|H.vX [3,4,0]
  refine sw<|zt H 2 rfl 0 rfl underlying29 ti24 rfl qj rfl rfl rfl qw qp qf fun E6 Gh Mf H=>?_
  replace H:=H.yh 4 rfl 0 rfl
  replace N:Fresh w.heap.size [(zL++Tv),yQ,y1]:=(N.pick [1,0,2,3]).join
  refine oF rfl<|sw<|xn H 3 [Sv jM vk jL,Sv E6 (qI+1) Gh] sizeOf29 fun II H=>xZ<|b_n<|t_n<|xX<|sp (yI i)<|sw<|zC i 1 rfl rfl qf<|sq 1<|xZ<|xh (m':=(301-(i+1))) qf ⟨_,i+1,_,_,_,_,_,_,_,_,_,_,_,_,uE4,?_,?_,?_,?_,?_,?_,rfl,(N.pick [1,0]),H.pick (zR 2 9) (0::zR 6 6)⟩
  ·exact kr.trans<|gr_go qf qf qf (k:=k) qf qf
  ·exact addSt_mem ka succ_ok k qf
  ·omega
  ·simp;omega
  ·omega
  ·exact ko.next qf qf
 refine zx4<|zcr<|sw<|xy [Sv xM xH xI,Sv zh qI zg] isAgg46 sizeOf46 rfl (qC (H.cells 1 rfl) 0 2)<|sw<|xx H 3 [Sv xM xH xI,Sv zh qI zg] sizeOf46 fun Aw H=>sp (yI 0)<|zjr<|XC H 3 rfl (yI 0) rfl isAgg46 sizeOf46 rfl rfl ⟨_,rfl,?_⟩
 replace H:=H.erases [5,4,3,1]
 dsimp only[zU,List.eraseIdx] at H
 refine sq 1<|sp (yI 0)<|sw<|xx H 2 [Sv xM xH xI,Sv zh qI zg] sizeOf46 fun Lz H=>sp (yI 0)<|zjr ?_
 have H0:=H
 obtain⟨wO,Of,ar1,H⟩:=H.yC (α:=qG) 1 rfl 1 rfl qj
 replace N:Fresh w.heap.size [wO,zL]:=Fresh.ice N H0 1 Of.1 Of.2<|H0.vX [0]
 clear H0
 obtain rfl:=H.isLen 0 rfl
 have H0:=H
 obtain⟨B8,Od,aqc,H⟩:=H.yC (α:=yLI) 0 rfl 1 rfl qj
 replace N:Fresh w.heap.size [B8,wO]:=Fresh.ice (N.pick [1,0]) H0 0 Od.1 Od.2<|H0.vX [0]
 clear H0
 obtain rfl:=H.isLen 0 rfl
 refine XC H 2 rfl (yI 0) rfl isAgg46 sizeOf46 rfl rfl ⟨_,rfl,?_,H.base⟩
 obtain⟨z1,z2⟩:=exG_of<|ex_0 k0<|kr.trans<|gr_end qf
 rw[z1,z2]
 exact⟨xM,xI,wO,zh,zg,B8,rfl,(N.pick [1,0]),H.pick [] [1,0]⟩
theorem implSA_ok(w:World)(s:qH)(t:qG)(aQ:Int)(xe:zP w xu qF qE s.qA)(xE:zP w xW qO qN s.qB)(xR:zP w zk qV qU t.qK)(zu:zP w zF xm xk t.qQ)(xB:zP w xJ qM qL t.qJ):Calls Tryz.prog 27 #[.agg #[yI s.zf,Sv qF s.qA.length qE,Sv qO s.qB.length qN],.agg #[Sv qV t.qK.length qU,Sv xm t.qQ.length xk,Sv qM t.qJ.length qL],yI aQ] w (Ret (fun v w'=>∃(iI:yOA) (iB:Nat) (iP:yLN),v=.tuple #[Sv iI (((Va s t aQ).1).length) iB,yI ((Va s t aQ).2)]/\Fresh w.heap.size [iP]/\St w w' [] [sF true iP iI iB ((Va s t aQ).1)]) w):=by
 refine en func27 ntmps27 ?_
 have H:=(((((St.start w).arg xB).arg zu).arg xR).arg xE).arg xe
 have jT:=qR xR
 have yR:=qR zu
 have jv:=qR xB
 clear xe xE xR zu xB
 have N:=Fresh.nil w.heap.size
 refine zcr<|sw<|zN H (yS s qF qE qO qN) fun b1 w2 H=>sw<|zN H (yT t qV qU xm xk qM qL) fun b3 w4 H=>sq 1<|sp (yI 0)<|zjcc<|sw<|xy (yS s qF qE qO qN) isAgg27 sizeOf27 rfl (qC (H.cells 1 rfl) 0 3)<|sw<|xy (yT t qV qU xm xk qM qL) isAgg31 sizeOf31 rfl (qC (H.cells 0 rfl) 0 3)<|sw<|oq (QA _ s t (H.get 0 rfl).1 (H.get 1 rfl).1 (H.get 2 rfl).1 (H.get 3 rfl).1 (H.get 4 rfl).1) H fun w6 H=>sq 1<|zjn<|cQ rfl (fun h8=>?_)<|fun h8=>?_
 ·refine zcr (sq 1<|sp (yI 1)<|zjr<|t_r ?_)
  replace H:=H.addNil (α:=qG)
  refine ret2 yN (yI 1) rfl rfl rfl ⟨_,rfl,?_,H.base⟩
  rw[sa_1 ‹_›]
  exact⟨none,0,[],rfl,N.emp,H.pick [] [0]⟩
 have k0:=(‹vz s/\xK s t›:vz s/\xK s t)
 have k1:=k0.1
 have k2:=k0.2
 obtain⟨q7,q8,q9,Bz⟩:=k2.sizes k1.1
 have Uj:=fun k hk=>Nat.le_trans (Bz k hk) (by decide:8<=1000000)
 refine qZ<|t_n<|zcc<|sq 1<|sw<|oq (Xe w6 aQ 0 200) H fun w9 H=>sq 1<|zjn<|zX _ rfl (fun aV=>?_)<|fun aV=>?_
 ·replace aV:=x8 aV
  replace aV:=XG aV
  refine zcr<|sq 1<|sp (yI 2)<|zjr<|t_r ?_
  replace H:=H.addNil (α:=qG)
  refine ret2 yN (yI 2) rfl rfl rfl ⟨_,rfl,?_,H.base⟩
  rw[sa_2 k0 ‹_›]
  exact⟨none,0,[],rfl,N.emp,H.pick [] [0]⟩
 replace aV:=xO aV
 replace aV:=Q8.1 aV
 refine qZ<|t_n<|zcr<|sw<|xy (yT t qV qU xm xk qM qL) isAgg31 sizeOf31 rfl (qC (H.cells 0 rfl) 0 3) ?_
 have al9:=H.base.size
 refine sw<|oc (Q9 _ t (H.get 2 rfl).1 (H.get 3 rfl).1 (H.get 4 rfl).1 qg qg qg qg) ?_
 rintro _ xp ⟨iE,WO,iC,kW,Zy,lA,Hu,IQ,f7,SW,fz,rfl,M,K⟩ _
 replace N:=N.merge al9 qm M
 replace H:=H.merge K M
 obtain rfl:=H.Xg 0 rfl
 obtain rfl:=H.xQ (α:=yLI) 1 rfl 0 rfl qj
 obtain rfl:=H.jy 2 rfl
 refine sw<|zl H underlying38 ti31 (yT t iE iC kW lA f7 fz) fun Kq G4 H=>sq 1<|zjcc<|sq 1<|sp (yI 0)<|zjn<|xf ?_
 replace H:=H.boxRow 0 rfl 3 1 rfl qj
 replace H:=H.vP (α:=qG)
 obtain⟨ZI,N,aAs,H⟩:=H.freezeB 1 rfl N<|H.vX [1]
 have H0:=H
 obtain⟨Ws,aeW,Tr,H⟩:=H.yC (α:=yLI) 2 rfl 2 rfl qj
 replace N:Fresh w.heap.size [Ws,ZI]:=Fresh.ice (N.pick [1,0]) H0 2 aeW.1 aeW.2<|H0.vX [0]
 clear H0
 obtain⟨G27,N,alf,H⟩:=H.zQ 3 rfl N<|H.vX [0,1]
 replace H:=H.Qo 3 rfl 2 rfl 1 rfl 0 rfl
 replace N:Fresh w.heap.size [([]++(ZI++Ws++G27))]:=(N.emp.pick [3,2,1,0]).join.join.swap.join
 replace H:St _ _ [rr (aa Kq 0) 1 1 31 3<|yT t iE iC kW lA f7 fz,rr none 0 0 0 1 [],rr none 0 0 0 1 [],rr none 0 0 0 1 [],.box b3 (yT t qV qU xm xk qM qL) 31,.box b1 (yS s qF qE qO qN) 27] [xG true ([]++(ZI++Ws++G27)) (yT t iE iC kW lA f7 fz) [t],sF true G27 f7 fz t.qJ,sF true Ws kW lA t.qQ,sF true ZI iE iC t.qK,xG true [] [] ([]:List qG),xG true IQ Hu t.qQ,sF false xu qF qE s.qA,sF false xW qO qN s.qB,sF false zk qV qU t.qK,sF false zF xm xk t.qQ,sF false xJ qM qL t.qJ]:=H
 refine zD ((fun Z0 Z1 Z2 Z3 Z4 Z5 Z6=>fun m' ρ GZ=>∃(xN:Env) (mA:yOA) (eS:Nat) (lh:Nat) (be:List qG) (sN:List Value) (gY:yLN) (k:Nat),ρ=upd (upd (upd (upd xN 3<|pp b1 0) 8<|Sv mA eS lh) 26<|yI aQ) 27 (yI k)/\((k:Int)<=aQ)/\(Va s t aQ=saRun s (aQ.toNat-k) be)/\(∀u∈be,xK s u)/\(be.length<=300)/\m'=(aQ-(k:Int)).toNat/\Fresh w.heap.size [gY]/\St w GZ [rr mA eS lh 31 3 sN,Z0,Z1] [xG true gY sN be,Z2,Z3,Z4,Z5,Z6]) _ _ _ _ _ _ _) ((aQ-(0:Int)).toNat) ⟨_,(aa Kq 0),1,1,[t],(yT t iE iC kW lA f7 fz),([]++(ZI++Ws++G27)),0,uE4,qf,(by exact sa_0 k0 qf),(by exact fun u hu=>by obtain rfl:=List.mem_singleton.1 hu;exact k2),qm,rfl,N,H.pick [0,4,5] (0::zR 6 5)⟩ ?_
 clear H N
 rintro m' ρ BB ⟨xN,mA,eS,lh,be,sN,gY,k,rfl,i0,kr,ka,kl,rfl,N,H⟩
 have aie:=H.xQ (α:=qG) 0 rfl 0 rfl qj
 refine zcr<|sq 1<|zjn<|xU<|cD rfl (fun WS=>?_)<|fun WS=>?_
 ·refine qZ (t_n<|xU<|xf<|zcr<|sw<|ja H underlying38 ti31 fun GC Ml H=>sq 1<|zjcc<|sq 1<|oN rfl<|sp (yI 0)<|zjn<|xf ?_)
  replace H:=H.boxRow 0 rfl 3 0 rfl qj
  replace H:=H.vP (α:=qG)
  replace H:St _ _ [rr (aa GC 0) 0 0 31 3 [],rr mA eS lh 31 3 sN,.box b3 (yT t qV qU xm xk qM qL) 31,.box b1 (yS s qF qE qO qN) 27] [xG true [] [] ([]:List qG),xG true gY sN be,sF false xu qF qE s.qA,sF false xW qO qN s.qB,sF false zk qV qU t.qK,sF false zF xm xk t.qQ,sF false xJ qM qL t.qJ]:=H
  refine zD ((fun Z0 Z1 Z2 Z3 Z4 Z5 Z6 Z7 Z8=>fun m' ρ Gj=>∃(xN:Env) (dB:yOA) (dN:Nat) (dR:Nat) (next:List qG) (dQ:List Value) (c6:yLN) (av:Nat),ρ=upd (upd (upd (upd (upd (upd (upd xN 3<|pp b1 0) 9<|Sv dB dN dR) 26<|yI aQ) 27<|yI k) 30<|Sv mA eS lh) 31<|yI eS) 32 (yI av)/\((av:Int)<=eS)/\(saGo s (be.drop av) next=saGo s be [])/\(∀u∈next,xK s u)/\(next.length<=300)/\m'=(eS-(av:Int)).toNat/\Fresh w.heap.size [gY,c6]/\St w Gj [rr dB dN dR 31 3 dQ,Z0,Z1,Z2] [xG true c6 dQ next,Z3,Z4,Z5,Z6,Z7,Z8]) _ _ _ _ _ _ _ _ _) ((eS-(0:Int)).toNat) ⟨_,(aa GC 0),0,0,([]:List qG),[],[],0,uE7,qf,(by rfl),qm,qm,rfl,(N.emp.pick [1,0]),H⟩ ?_
  clear H N
  rintro m' ρ Ao ⟨xN,dB,dN,dR,next,dQ,c6,av,rfl,i0,kg,kb,km,rfl,N,H⟩
  have rN:=H.xQ (α:=qG) 0 rfl 0 rfl qj
  refine zcr<|sq 1<|zjn<|xU<|cD rfl (fun ZK=>?_)<|fun ZK=>?_
  ·have ks:=ka (be[av]!) (mem_at (k:=av) qf rfl)
   have nl:=succ_len s<|be[av]!
   refine qZ<|t_n<|xU<|xf<|zcr ?_
   obtain⟨GQ,rfl⟩:=H.jR 1 rfl qf
   obtain⟨oE,pE,WQ,s8,uy,aeX,mK,mt,Rl,alq,H⟩:=H.Yd 1 rfl 1 rfl (iv:=av) av qf qf
   refine oI rfl rfl<|sw<|xy [Sv oE (((be[av]!).qK).length) pE,Sv s8 (((be[av]!).qQ).length) uy,Sv mK (((be[av]!).qJ).length) mt] isAgg31 sizeOf31 rfl (qC (fun j v hj=>H.VI 1 rfl<|alq j v hj) 0 3)<|sw<|xg H ti31 [yN,yN,yN] fun RJ SB H=>sw<|xx H 0 [Sv oE (((be[av]!).qK).length) pE,Sv s8 (((be[av]!).qQ).length) uy,Sv mK (((be[av]!).qJ).length) mt] sizeOf31 fun KE H=>zjc<|sw<|xy (yS s qF qE qO qN) isAgg27 sizeOf27 rfl (qC (H.cells 4 rfl) 0 3)<|sw<|xy [Sv oE (((be[av]!).qK).length) pE,Sv s8 (((be[av]!).qQ).length) uy,Sv mK (((be[av]!).qJ).length) mt] isAgg31 sizeOf31 rfl (qC (H.cells 0 rfl) 0 3) ?_
   have ajV:=H.base.size
   have akJ:=H.ltN (L:=[gY,c6]) [4,3]
   refine sw<|oc (nextStates_ok _ s (be[av]!) (H.get 5 rfl).1 (H.get 6 rfl).1 (H.get 0 rfl).1 (H.get 1 rfl).1 (H.get 2 rfl).1 qg qg) ?_
   rintro _ JC ⟨agm,ast,Yn,as3,atY,rfl,M,K⟩ _
   replace N:=N.merge ajV akJ M
   replace H:=H.merge K M
   obtain rfl:=H.xQ (α:=qG) 0 rfl 0 rfl qj
   refine sq 5<|zjcc<|sq 1<|sp (Bv (((qW s<|be[av]!).2:Int) != 0))<|zjn<|zX (((qW s<|be[av]!).2:Int) != 0) rfl (fun Fh=>?_)<|fun Fh=>?_
   ·replace Fh:=bne_iff_ne.1 Fh
    refine zcr<|sq 3<|zjr<|t_r<|zr5<|zr5 ?_
    replace H:=H.addNil (α:=qG)
    refine ret2 yN (yI ((qW s<|be[av]!).2)) rfl rfl rfl ⟨_,rfl,?_,H.base⟩
    rw[kr,sr_err qf (kg.symm.trans<|sa_code qf ql) ql]
    exact⟨none,0,[],rfl,(N.emp.pick [0]),H.pick [] [0]⟩
   replace Fh:=xA Fh
   refine qZ<|t_n<|zcc<|sq 1<|oN rfl<|sp (yI 0)<|zjn<|xf ?_
   have H0:=H
   obtain⟨Pm,Js,Jh,H⟩:=H.yC (α:=qG) 0 rfl 0 rfl qj
   replace N:Fresh w.heap.size [Pm,gY,c6]:=Fresh.ice N H0 0 Js.1 Js.2<|H0.vX [5,4]
   clear H0
   obtain⟨aoe,B54,P55,N,H⟩:=H.pool (α:=qG) 0 rfl N
   refine zD ((fun Z0 Z1 Z2 Z3 Z4 Z5 Z6 Z7 Z8 Z9 bG bX eZ i8 mb=>fun m' ρ G3=>∃(xN:Env) (VH:yOA) (XN:Nat) (VC:Nat) (fW:List qG) (cx:List Value) (QX:yLN) (aT:Nat) (wL:yLN),ρ=upd (upd (upd (upd (upd (upd (upd (upd (upd (upd xN 3<|pp b1 0) 9<|Sv VH XN VC) 26<|yI aQ) 27<|yI k) 30<|Sv (aa GQ 0) eS lh) 31<|yI eS) 32<|yI av) 45<|Sv agm (((qW s<|be[av]!).1).length) Yn) 46<|yI (((qW s<|be[av]!).1).length)) 47 (yI aT)/\fW=(vC next (qW s<|be[av]!).1 aT).1/\((aT:Int)<=(((qW s<|be[av]!).1).length))/\m'=((((qW s<|be[av]!).1).length)-(aT:Int)).toNat/\Fresh w.heap.size [gY,QX,wL]/\St w G3 [Z0,rr VH XN VC 31 3 cx,Z1,Z2,Z3] [xG true wL (aoe.drop<|aT*3) (((qW s<|be[av]!).1).drop aT),Z4,Z5,Z6,Z7,Z8,xG true QX cx fW,Z9,bG,bX,eZ,i8,mb]) _ _ _ _ _ _ _ _ _ _ _ _ _ _ _) (((((qW s<|be[av]!).1).length)-(0:Int)).toNat) ⟨_,dB,dN,dR,next,dQ,c6,0,P55,uE10,(by rfl),qf,rfl,(N.pick [1,2,0]),H.pick (zR 1 5) (0::1::2::zR 4 10)⟩ ?_
   clear H N
   rintro m' ρ Lf ⟨xN,VH,XN,VC,fW,cx,QX,aT,wL,rfl,rfl,i0,rfl,N,H⟩
   have rN:=H.xQ (α:=qG) 1 rfl 6 rfl qj
   obtain⟨al1,al2,al3⟩:=Xp (S:=next) (nx:=(qW s<|be[av]!).1) aT
   refine zcr<|sq 1<|zjn<|xU<|cD rfl (fun mi=>?_)<|fun mi=>?_
   ·obtain⟨b59,o60,rfl⟩:=H.addr 2 rfl qf
    obtain⟨ig,iK,Gg,lg,kZ,I0,ff,gg,BY,P63,N,H⟩:=H.drain_StateD 1 rfl 0 rfl ((N.pick [2,0,1]):Fresh w.heap.size [wL,gY,QX]) aT aT qf qf qf
    refine qZ<|t_n<|xU<|xf<|zcr<|oI rfl rfl<|sw<|xy [Sv ig (((((qW s<|be[av]!).1)[aT]!).qK).length) iK,Sv lg (((((qW s<|be[av]!).1)[aT]!).qQ).length) kZ,Sv ff (((((qW s<|be[av]!).1)[aT]!).qJ).length) gg] isAgg31 sizeOf31 rfl (qC (H.get 3 rfl) 0 3)<|sw<|xg H ti31 [yN,yN,yN] fun LH LE H=>(sw<|xx H 0 [Sv ig (((((qW s<|be[av]!).1)[aT]!).qK).length) iK,Sv lg (((((qW s<|be[av]!).1)[aT]!).qQ).length) kZ,Sv ff (((((qW s<|be[av]!).1)[aT]!).qJ).length) gg] sizeOf31 fun Hl H=>zjc<|sq 1<|sw<|xy [Sv ig (((((qW s<|be[av]!).1)[aT]!).qK).length) iK,Sv lg (((((qW s<|be[av]!).1)[aT]!).qQ).length) kZ,Sv ff (((((qW s<|be[av]!).1)[aT]!).qJ).length) gg] isAgg31 sizeOf31 rfl (qC (H.cells 0 rfl) 0 3) ?_)
    obtain⟨P2,K3,h69⟩:=H.QL (α:=qG) 2 rfl 11 rfl qj
    refine sw<|oq (Qu (by rw[←K3])<|find_ok _ ((vC next (qW s<|be[av]!).1 aT).1) (((qW s<|be[av]!).1)[aT]!) (K3▸h69) (H.get 0 rfl).1 (H.get 1 rfl).1 (H.get 2 rfl).1) H fun LL H=>sp (Bv<|decide ((firstIdx (fun zz=>decide (((vC next (qW s<|be[av]!).1 aT).1)[zz]! =(((qW s<|be[av]!).1)[aT]!))) ((vC next (qW s<|be[av]!).1 aT).1).length:Int)<0))<|zjn<|cD rfl (fun Re=>?_)<|fun Re=>?_
    ·refine xX (sq 1<|sw<|xy [Sv ig (((((qW s<|be[av]!).1)[aT]!).qK).length) iK,Sv lg (((((qW s<|be[av]!).1)[aT]!).qQ).length) kZ,Sv ff (((((qW s<|be[av]!).1)[aT]!).qJ).length) gg] isAgg31 sizeOf31 rfl (qC (H.cells 0 rfl) 0 3)<|sw<|zl H underlying38 ti31 [Sv ig (((((qW s<|be[av]!).1)[aT]!).qK).length) iK,Sv lg (((((qW s<|be[av]!).1)[aT]!).qQ).length) kZ,Sv ff (((((qW s<|be[av]!).1)[aT]!).qJ).length) gg] fun Wx V2 H=>sw<|zt H 3 rfl 0 rfl underlying38 ti31 rfl qj rfl rfl rfl qw qp qf fun a76 ZD RH H=>?_)
     replace H:=H.Qo 11 rfl 0 rfl 1 rfl 2 rfl
     replace N:Fresh w.heap.size [(QX++(Gg++I0++BY)),P63,gY]:=(N.pick [0,1,2,5,3,4]).join.join.swap.join
     refine sq 1<|xZ<|b_n<|t_n<|xX<|sw<|zC aT 1 rfl rfl qf<|sq 1<|xZ<|xh (m':=((((qW s<|be[av]!).1).length)-((aT+1):Int)).toNat) qf ⟨_,_,_,_,_,_,_,aT+1,_,uE10,?_,?_,rfl,(N.pick [2,0,1]),H.pick (zR 2 5) (5::7::8::9::10::11::0::zR 13 6)⟩
     ·exact(Qi (k:=aT) ‹_›).1
     ·omega
    refine qZ<|b_n<|t_n<|xX<|sw<|zC aT 1 rfl rfl qf<|sq 1<|xZ<|xh (m':=((((qW s<|be[av]!).1).length)-((aT+1):Int)).toNat) qf ⟨_,_,_,_,_,_,_,aT+1,_,uE10,?_,?_,rfl,(N.pick [4,5,3]),H.pick (zR 1 5) (4::zR 6 12)⟩
    ·exact(Qh (k:=aT) ‹_›).1
    ·omega
   refine zx4<|zcr<|sq 1<|oN rfl<|sp (Bv<|decide ((XN:Int)>300))<|zjn<|cD rfl (fun LG=>?_)<|fun LG=>?_
   ·refine zcr (sq 1<|sp (yI 3)<|zjr<|zr5<|zr5 ?_)
    replace H:=H.addNil (α:=qG)
    refine ret2 yN (yI 3) rfl rfl rfl ⟨_,rfl,?_,H.base⟩
    rw[kr,sr_err qf (kg.symm.trans<|sa_many qf qf (k:=aT) qf qf) qj]
    exact⟨none,0,[],rfl,(N.emp.pick [0]),H.pick [] [0]⟩
   refine qZ<|b_n<|t_n<|xX<|sw<|zC av 1 rfl rfl qf<|sq 1<|xZ<|xh (m':=(eS-((av+1):Int)).toNat) qf ⟨_,_,_,_,_,_,_,av+1,uE7,?_,?_,?_,?_,rfl,(N.pick [0,1]),H.pick (zR 1 4)<|zR 6 7⟩
   ·omega
   ·exact(sa_go qf qf qf qf).symm.trans kg
   ·exact addSt_mem kb succ_ok _ qf
   ·omega
  refine zx4<|xX<|sq 2<|xZ<|b_n<|t_n<|xX<|sw<|zC k 1 rfl rfl qf<|sq 1<|xZ<|xh (m':=(aQ-((k+1):Int)).toNat) qf ⟨_,_,_,_,_,_,_,k+1,uE4,?_,?_,?_,?_,rfl,(N.pick [1]),H.pick [0,2,3] (0::zR 2 5)⟩
  ·omega
  ·exact kr.trans<|sr_go qf<|kg.symm.trans<|sa_end qf
  ·assumption
  ·omega
 refine zx4<|zcr<|sq 2<|sp (yI 0)<|zjr ?_
 have H0:=H
 obtain⟨SN,aeP,my,H⟩:=H.yC (α:=qG) 0 rfl 0 rfl qj
 replace N:Fresh w.heap.size [SN]:=Fresh.ice N H0 0 aeP.1 aeP.2<|H0.vX []
 clear H0
 obtain rfl:=H.isLen 0 rfl
 refine ret2 (Sv mA be.length lh) (yI 0) rfl rfl rfl ⟨_,rfl,?_,H.base⟩
 rw[kr,sr_end qf]
 exact⟨mA,lh,SN,rfl,N,H.pick [] [0]⟩
end
section
theorem most_of{P:Nat->Prop}(h:∀q,q<(appls s t).length->P ((appls s t)[q]!).toNat):∀i,i<s.qB.length->Appl s t i->P i:=by
 intro i hi ha
 obtain⟨q,hq,e⟩:=List.mem_iff_getElem.1 ((mem_appls hi).2 ha)
 have:=h q hq
 rwa [getElem!_pos _ q hq,e] at this
theorem appls_in(hq:q<(appls s t).length):0<=(appls s t)[q]! /\((appls s t)[q]!).toNat<s.qB.length/\Appl s t ((appls s t)[q]!).toNat:=by
 have h:(appls s t)[q]! ∈appls s t:=by rw[getElem!_pos _ q hq];exact List.getElem_mem hq
 exact mem_applL.1 h
def MostTo(s:qH)(t:qG)(counts:yLI)(k:Nat):Prop:=∀i,i<k->Appl s t i->within (s.qB[i]!).zJ ((yB s t counts counts.length)[(s.qB[i]!).qY.toNat]!)=false
theorem MostTo.succ{counts:yLI}(h:MostTo s t counts k)(h1:Appl s t k->within (s.qB[k]!).zJ ((yB s t counts counts.length)[(s.qB[k]!).qY.toNat]!)=false):MostTo s t counts (k+1):=fun j hj=>by
 by_cases e:j=k
 ·subst e;exact h1
 ·exact h j qf
def MostL(s:qH)(t:qG)(counts:yLI)(k:Nat):Prop:=∀q,q<k->within (s.qB[((appls s t)[q]!).toNat]!).zJ ((yB s t counts counts.length)[(s.qB[((appls s t)[q]!).toNat]!).qY.toNat]!)=false
theorem MostL.succ{counts:yLI}(h:MostL s t counts k)(h1:within (s.qB[((appls s t)[k]!).toNat]!).zJ ((yB s t counts counts.length)[(s.qB[((appls s t)[k]!).toNat]!).qY.toNat]!)=false):MostL s t counts (k+1):=fun j hj=>by
 by_cases e:j=k
 ·subst e;exact h1
 ·exact h j qf
theorem MostL.most{counts:yLI}(h:MostL s t counts (appls s t).length)(hc:IsCh s t counts):VW s t counts:=
 ⟨hc,most_of (P:=fun i=>within (s.qB[i]!).zJ ((yB s t counts counts.length)[(s.qB[i]!).qY.toNat]!)=false) h⟩
open Classical in
noncomputable def X8(s:qH)(ch:yLL):Nat->qG->qG×Int
 |0,u=>(u,0)
 |f+1,u=>if Halted s u\/¬VW s u (ch[ch.length-(f+1)]!) then (default,4) else if (zA s u<|ch[ch.length-(f+1)]!).2≠0 then (default,(zA s u<|ch[ch.length-(f+1)]!).2) else X8 s ch f (zA s u<|ch[ch.length-(f+1)]!).1
theorem choose_end(h:f=0):X8 s ch f u=(u,0):=by subst h;rfl
theorem choose_4(hf:f=ch.length-k)(hk:k<ch.length)(h:Halted s u\/¬VW s u (ch[k]!)):X8 s ch f u=(default,4):=by
 obtain⟨g,rfl⟩:∃g,f=g+1:=⟨f-1,by omega⟩
 rw[X8,if_pos<|by rwa [show ch.length-(g+1)=k by omega]]
theorem choose_bad(hf:f=ch.length-k)(hk:k<ch.length)(h:¬Halted s u)(h1:VW s u (ch[k]!))(h2:(zA s u<|ch[k]!).2≠0):X8 s ch f u=(default,(zA s u<|ch[k]!).2):=by
 obtain⟨g,rfl⟩:∃g,f=g+1:=⟨f-1,by omega⟩
 have e:ch.length-(g+1)=k:=by omega
 rw[X8,e,if_neg<|fun x=>x.elim h fun y=>y h1,if_pos h2]
theorem choose_go{g:Nat}(hf:f=ch.length-k)(hk:k<ch.length)(hg:g=ch.length-(k+1))(h:¬Halted s u)(h1:VW s u (ch[k]!))(h2:(zA s u<|ch[k]!).2=0):X8 s ch f u=X8 s ch g (zA s u<|ch[k]!).1:=by
 obtain rfl:f=g+1:=by omega
 have e:ch.length-(g+1)=k:=by omega
 rw[X8,e,if_neg<|fun x=>x.elim h fun y=>y h1,if_neg<|fun x=>x h2]
def AllCnt(s:qH)(ch:yLL)(k:Nat):Prop:=∀j,j<k->CntOk s (ch[j]!)
theorem AllCnt.succ(h:AllCnt s ch k)(h1:CntOk s (ch[k]!)):AllCnt s ch (k+1):=fun j hj=>by
 by_cases e:j=k
 ·subst e;exact h1
 ·exact h j qf
open Classical in
noncomputable def XP(s:qH)(t:qG)(ch:yLL):qG×Int:=
 if ¬(vz s/\xK s t) then (default,1) else if 300<ch.length\/¬AllCnt s ch ch.length then (default,2) else X8 s ch ch.length t
theorem ch_1(h:¬(vz s/\xK s t)):XP s t ch=(default,1):=by rw[XP,if_pos h]
theorem ch_2(h:vz s/\xK s t)(h1:300<ch.length\/¬AllCnt s ch ch.length):XP s t ch=(default,2):=by rw[XP,if_neg<|by simpa using h,if_pos h1]
theorem ch_0(h:vz s/\xK s t)(h1:¬300<ch.length)(h2:AllCnt s ch ch.length):XP s t ch=X8 s ch ch.length t:=by rw[XP,if_neg<|by simpa using h,if_neg<|fun x=>x.elim h1 fun y=>y h2]
end
section
variable{qE qN qU xk qL : Nat}
theorem isMaximal_ok(w:World)(s:qH)(t:qG)(counts:yLI){aP:yOA}{aK:Nat}{bS:yLN}(xe:zP w xu qF qE s.qA)(xE:zP w xW qO qN s.qB)(xR:zP w zk qV qU t.qK)(zu:zP w zF xm xk t.qQ)(xB:zP w xJ qM qL t.qJ)(cg:zP w bS aP aK counts)(p0:vz s)(p1:xK s t)(p2:CntOk s counts):Calls Tryz.prog 72 #[.agg #[yI s.zf,Sv qF s.qA.length qE,Sv qO s.qB.length qN],.agg #[Sv qV t.qK.length qU,Sv xm t.qQ.length xk,Sv qM t.qJ.length qL],Sv aP counts.length aK] w (Ret (fun v w'=>v=.tuple #[Bv<|dec<|VW s t counts,yI 0]) w):=by
 refine en func72 ntmps72 ?_
 have H:=((((((St.start w).arg cg).arg xB).arg zu).arg xR).arg xE).arg xe
 have jb:=qR xE
 have yR:=qR zu
 clear xe xE xR zu xB cg
 have N:=Fresh.nil w.heap.size
 have k1:=p0
 have k2:=p1
 have k3:=p2
 have kl:=kinds_le p0
 refine zcr<|sw<|zN H (yS s qF qE qO qN) fun b1 w2 H=>sw<|zN H (yT t qV qU xm xk qM qL) fun b3 w4 H=>sp (Bv false)<|sp (yI 0)<|zjcc<|sw<|xy (yS s qF qE qO qN) isAgg27 sizeOf27 rfl (qC (H.cells 1 rfl) 0 3)<|sw<|xy (yT t qV qU xm xk qM qL) isAgg31 sizeOf31 rfl (qC (H.cells 0 rfl) 0 3)<|sq 1<|sw<|oq (countsCode_ok _ s t counts (H.get 0 rfl).1 (H.get 1 rfl).1 (H.get 2 rfl).1 (H.get 3 rfl).1 (H.get 4 rfl).1 (H.get 5 rfl).1) H fun w6 H=>sq 1<|zjc<|sq 1<|sp (Bv ((VN s t counts:Int) != 0))<|zjn<|zX ((VN s t counts:Int) != 0) rfl (fun h8=>?_)<|fun h8=>?_
 ·replace h8:=bne_iff_ne.1 h8
  exact absurd (ask_0 ⟨p0,p1⟩ p2) h8
 replace h8:=xA h8
 refine qZ<|t_n<|zcr<|sw<|xy (yS s qF qE qO qN) isAgg27 sizeOf27 rfl (qC (H.cells 1 rfl) 0 3)<|sw<|xy (yT t qV qU xm xk qM qL) isAgg31 sizeOf31 rfl (qC (H.cells 0 rfl) 0 3)<|sq 1 ?_
 have kn:1<=yE s:=by have:=k1.1.1.1;unfold yE;omega
 have k7:=k2.2.1
 have k8:=k1.2.1
 have k9:=k3.1
 have k10:=k1.1.2.1
 have k11:jK s=s.qA.length:=rfl
 refine sw<|zW #[.agg #[yI s.zf,Sv qF s.qA.length qE,Sv qO s.qB.length qN],.agg #[Sv qV t.qK.length qU,Sv xm t.qQ.length xk,Sv qM t.qJ.length qL],Sv aP counts.length aK] rfl rfl call122<|en func122 ntmps122 ?_
 refine zcr<|sw<|zN H (yS s qF qE qO qN) fun b9 ov H=>sw<|zN H (yT t qV qU xm xk qM qL) fun oO we H=>sq 1<|sp (Bv false)<|zjn<|xU<|ji rfl H fun H=>tF 0 rfl rfl H ?_
 refine tL 1 rfl rfl (fun _ h=>h.cell 0 rfl rfl) H ?_
 refine rt 3 _ (yF (cs:=(yS s qF qE qO qN)) isAgg27 sizeOf27 rfl<|fun _ h=>qC (h.cells 1 rfl) 0 3) H ?_
 refine rt 4 _ (yF (cs:=(yT t qV qU xm xk qM qL)) isAgg31 sizeOf31 rfl<|fun _ h=>qC (h.cells 0 rfl) 0 3) H ?_
 refine ro 2 rfl<|oc (cloneSS_ok _ t.qQ (H.get 3 rfl).1 qg) ?_
 rintro _ uK ⟨gZ,agS,pB,SZ,Su,rfl,TB,K⟩ _
 replace H:=H.mergeIn K 3 rfl TB
 obtain rfl:=H.xQ (α:=yLI) 0 rfl 0 rfl qj
 refine⟨H.pick (zR 1 4)<|zR 1 6,(ro 5 rfl ?_)⟩
 refine oc (Xn _ s t (H.get 1 rfl).1 (H.get 2 rfl).1 (H.get 3 rfl).1 (H.get 4 rfl).1 (H.get 5 rfl).1 qg qg) ?_
 rintro _ G4 ⟨Gf,alL,mF,rfl,M,K⟩ _
 replace H:=H.merge K M
 obtain rfl:=H.jy 0 rfl
 have al:(appls s t).length<=s.qB.length:=applL_le s t s.qB.length
 refine⟨H.pick (zR 2 4)<|zR 1 6,?_⟩
 have S:=H.jF (zR 2 4)<|zR 1 6
 refine rtl 6 S ?_
 refine rtl 7 S ?_
 refine xC qh<|t_n<|zcc<|sq 1<|oN rfl<|sp (yI 0)<|zjn<|xf<|zD ((fun Z0 Z1 Z2 Z3 Z4 Z5 Z6 Z7 Z8 Z9 bG=>fun m' ρ BP=>∃(xN:Env) (i:Nat) (ai:yLL) (bO:List Value) (co:yLN),ρ=upd (upd (upd (upd (upd (upd xN 3<|pp b9 0) 8<|Sv gZ t.qQ.length pB) 9<|Sv Gf ((appls s t).length) mF) 19<|Sv aP counts.length aK) 20<|yI counts.length) 21 (yI i)/\ai=yB s t counts i/\((i:Int)<=counts.length)/\(GoodTo s t counts i)/\m'=(counts.length-(i:Int)).toNat/\Fresh w.heap.size []/\St w BP [Z0,rr gZ t.qQ.length pB 24 1 bO,Z1,Z2,Z3,Z4] [xG false co bO ai,Z5,Z6,Z7,Z8,Z9,bG]) _ _ _ _ _ _ _ _ _ _ _) ((counts.length-(0:Int)).toNat) ⟨_,0,t.qQ,SZ,Su,uE6,(by rfl),qf,qx,rfl,N,H⟩ ?_
 clear H N
 rintro m' ρ BA ⟨xN,i,ai,bO,co,rfl,rfl,i0,i1,rfl,N,H⟩
 have nM:=H.xQ (α:=yLI) 1 rfl 0 rfl qj
 refine zcr<|sq 1<|zjn<|xU<|cD rfl (fun GY=>?_)<|fun GY=>?_
 ·have q:=k1.rule (i:=i) qf
  have qc:=q.1
  have qk:=q.cell
  have b1:=q.2.2.2.2.1
  have p10:=k3.bd (i:=i) qf
  refine qZ<|t_n<|xU<|xf<|zcr<|sp (yI i) ?_
  obtain⟨Bn,o30,rfl⟩:=H.addr 6 rfl qf
  refine oI rfl rfl<|oL rfl (H.zS 6 rfl i qf)<|sp (yI i)<|sq 1<|zjcc<|sq 1<|sp (Bv ((counts[i]! :Int) == 0))<|zjn<|cE rfl (fun LV=>?_)<|fun LV=>?_
  ·refine VR (t_x<|b_x<|t_n<|xX<|sw<|zC i 1 rfl rfl qf<|sq 1<|xZ<|xh (m':=(counts.length-((i+1):Int)).toNat) qf ⟨_,i+1,_,_,_,uE6,?_,?_,?_,rfl,N,H⟩)
   ·exact(restR_skip k1 k2 qf ‹_›).symm
   ·omega
   ·exact i1.succ (fun h=>by obtain⟨u,v⟩:=h;omega)
  refine qZ<|t_n<|zcc<|sq 1<|sp (yI i) ?_
  obtain⟨NI,Hw,UA⟩:=H.XB 0 rfl
  refine sw<|oq (containsI_ok _ (appls s t) i UA) H fun Jk H=>sq 1<|zjn<|cQ rfl (fun G7=>?_)<|fun G7=>?_
  ·refine zcr (sq 1<|sp (Bv false)<|zjr<|t_r<|zr5<|ret2 yN (Bv false) rfl rfl rfl ⟨_,rfl,?_⟩)
   replace H:=H.erases [3,2,1,0]
   dsimp only[zU,List.eraseIdx] at H
   refine sq 2<|sp (Bv false)<|sw<|xg H ti29 [yN] fun RJ SB H=>sw<|xn H 0 [yN] sizeOf29 fun KE H=>sp (Bv false)<|zjc<|sp (Bv false)<|sp (Bv false)<|xY (zR 27 6)<|sp (Bv false)<|sp (Bv false)<|sp (yI 0)<|zjr<|ret2 (Bv false) (yI 0) rfl rfl rfl ⟨_,rfl,?_,H.base⟩
   rw[xw<|fun h=>by exact(fun h=>by exact h.1 i qf ⟨by omega,fun a=>‹¬(i:Int)∈appls s t› ((mem_appls qf).2 a)⟩) h.1]
  refine qZ<|t_n<|zcr<|oF rfl<|oL rfl (H.cell 3 rfl rfl)<|sp (yI i) ?_
  obtain⟨GX,o44,rfl⟩:=H.addr 2 rfl qf
  obtain⟨Aj,A4,agf,AJ,Az,acJ,AY,Aq,ahg,Ak,zp,aas,C7,Ep,ai2,AH,Bi,agA,H⟩:=H.Qa 2 rfl i i qf qf qf
  refine oI rfl rfl<|sw<|xy [yI ((s.qB[i]!).qY),yI ((s.qB[i]!).yK),Sv Aj (((s.qB[i]!).zJ).length) A4,Sv AJ (((s.qB[i]!).jB).length) Az,Sv AY (((s.qB[i]!).jD).length) Aq,Sv Ak (((s.qB[i]!).jJ).length) zp,Sv C7 (((s.qB[i]!).Qq).length) Ep,Sv AH (((s.qB[i]!).xF).length) Bi,Bv ((s.qB[i]!).jY)] isAgg70 sizeOf70 rfl (qC (H.get 6 rfl) 0 9)<|sw<|xg H ti70 [yI 0,yI 0,yN,yN,yN,yN,yN,yN,Bv false] fun GS Lc H=>sw<|xx H 0 [yI ((s.qB[i]!).qY),yI ((s.qB[i]!).yK),Sv Aj (((s.qB[i]!).zJ).length) A4,Sv AJ (((s.qB[i]!).jB).length) Az,Sv AY (((s.qB[i]!).jD).length) Aq,Sv Ak (((s.qB[i]!).jJ).length) zp,Sv C7 (((s.qB[i]!).Qq).length) Ep,Sv AH (((s.qB[i]!).xF).length) Bi,Bv ((s.qB[i]!).jY)] sizeOf70 fun OV H=>zjn<|Qd rfl H [0,1,3,4,5,6] fun H=>?_
  have S:=H.jF [0,1,3,4,5,6]<|zR 0 14
  refine rtl 0 S ?_
  refine tF 1 rfl rfl S ?_
  refine tL 2 rfl rfl (fun _ h=>h.cell 0 rfl rfl) S ?_
  refine rtl 3 S ?_
  refine tF 4 rfl rfl S ?_
  refine tL 5 rfl rfl (fun _ h=>h.cell 0 rfl rfl) S ?_
  obtain⟨KA,rfl⟩:=H.jR 2 rfl qf
  have S:=H.jF [0,1,3,4,5,6]<|zR 0 14
  refine tI 6 rfl rfl rfl S ?_
  refine tF 8 rfl rfl S ?_
  refine tL 9 rfl rfl (fun _ h=>h.cell 0 rfl rfl) S ?_
  refine rtl 10 S ?_
  refine rt 11 _ (y_neg (counts[i]!) rfl qf) S ?_
  refine ro 7 rfl ?_
  obtain⟨a52,c53,U8,s55,Br,H⟩:=H.jS 2 rfl 7 rfl (iv:=(s.qB[i]!).qY) (((s.qB[i]!).qY).toNat) qf qf
  refine zB (Sv a52 (((yB s t counts i)[((s.qB[i]!).qY).toNat]!).length) c53) isAgg24 rfl (Br)<|⟨H.pick [0,1,3,4,5,6]<|zR 1 14,(ro 12 rfl ?_)⟩
  obtain⟨u1,u2⟩:=restR_row (c:=(s.qB[i]!).qY.toNat) k1 k2 k3 (show i<=_ by omega) qk
  have u3:=b1.len
  have u4:=b1.Qb (t:= -(counts[i]!)) qf
  refine oc (plus_ok _ ((yB s t counts i)[((s.qB[i]!).qY).toNat]!) ((s.qB[i]!).zJ) (-(counts[i]!)) (H.get 0 rfl).1 (H.get 1 rfl).1 qg qg qg) ?_
  rintro v62 Sj r62 x61
  replace H:=H.zO x61 r62
  obtain⟨a63,c64,rfl,auM,ayQ⟩:=H.yc 0 rfl
  refine⟨H.pick [1,2,4,5,6,7]<|zR 1 14,(tI 13 rfl rfl rfl (H.pick [1,2,4,5,6,7]<|zR 1 14) ?_)⟩
  refine ro 14 rfl ?_
  obtain⟨G68,N,axj,H⟩:=H.zQ 0 rfl N<|H.vX []
  refine yu false H 3 rfl 9 rfl (Sv a63 ((jX ((yB s t counts i)[((s.qB[i]!).qY).toNat]!) ((s.qB[i]!).zJ) (-(counts[i]!))).length) c64) 0 rfl rfl sizeOf24 rfl rfl (i:=(((s.qB[i]!).qY).toNat)) qf qf qm fun w67 aAK F71 azP H=>⟨H.pick [1,2,4,5,6,7]<|zR 3 14,(xC qh<|b_n<|t_n<|xX<|sw<|zC i 1 rfl rfl qf<|sq 1<|xZ<|xh (m':=(counts.length-((i+1):Int)).toNat) qf ⟨_,i+1,_,_,_,uE6,?_,?_,?_,rfl,(N.pick []),H.pick (zR 2 6) (0::zR 11 6)⟩)⟩
  ·rfl
  ·omega
  ·exact i1.succ (fun h=>by obtain⟨u,v⟩:=h;exact v ((mem_appls qf).1 ‹_›))
 refine zx4<|zcr<|sq 2<|sw<|zW #[Sv gZ t.qQ.length pB,.func (.func 164) #[] #[]] rfl rfl call97<|en func97 ntmps97 ?_
 refine zcr<|sp (Bv false)<|zjc<|sq 1<|sp (.func (.func 164) #[] #[])<|sw<|zW #[Sv gZ t.qQ.length pB,.func (.func 164) #[] #[]] rfl rfl call150<|en func150 ntmps150 ?_
 refine zcr<|sp (yI 0)<|zjcc<|sq 1<|oN rfl<|sp (yI 0)<|zjn<|xf<|zD ((fun Z0 Z1 Z2 Z3 Z4 Z5 Z6 Z7 Z8 Z9 bG bX eZ=>fun m' ρ N5=>∃(xN:Env) (az:Nat),ρ=upd (upd (upd (upd xN 0<|Sv gZ t.qQ.length pB) 1<|.func (.func 164) #[] #[]) 7<|yI t.qQ.length) 8 (yI az)/\((az:Int)<=t.qQ.length)/\(NonNeg (yB s t counts i) az)/\m'=(t.qQ.length-(az:Int)).toNat/\Fresh w.heap.size []/\St w N5 [Z0,Z1,Z2,Z3,Z4,Z5] [Z6,Z7,Z8,Z9,bG,bX,eZ]) _ _ _ _ _ _ _ _ _ _ _ _ _) ((t.qQ.length-(0:Int)).toNat) ⟨_,0,uE4,qf,qx,rfl,N,H⟩ ?_
 clear H N
 rintro m' ρ w74 ⟨xN,az,rfl,i0,i2,rfl,N,H⟩
 refine zcr<|sq 1<|zjn<|xU<|cD rfl (fun BR=>?_)<|fun BR=>?_
 ·refine qZ (t_n<|xU<|xf<|zcr<|sq 2<|zjc<|sp (.func (.func 164) #[] #[])<|sq 2 ?_)
  obtain⟨ER,rfl⟩:=H.jR 1 rfl qf
  refine oI rfl rfl ?_
  obtain⟨a77,c78,G79,s80,h81,H⟩:=H.jS 1 rfl 0 rfl (iv:=az) az qf qf
  refine oL rfl (h81)<|sw<|zW #[Sv a77 (((yB s t counts i)[az]!).length) c78] rfl rfl call164<|en func164 ntmps164 ?_
  refine zcr<|sp (Bv false)<|zjc<|sq 1 ?_
  obtain⟨u1,u2⟩:=restR_row (c:=az) k1 k2 k3 (show i<=_ by omega) qf
  refine sw<|oq (minI_ok _ ((yB s t counts i)[az]!) (H.get 0 rfl).1 qg) H fun w83 H=>sp (Bv<|decide ((minL ((yB s t counts i)[az]!):Int)<0))<|sp (Bv<|decide ((minL ((yB s t counts i)[az]!):Int)<0))<|zjr<|ret1 (Bv<|decide ((minL ((yB s t counts i)[az]!):Int)<0)) rfl rfl ⟨_,rfl,(zjn<|cD rfl (fun Oz=>?_)<|fun Oz=>?_)⟩
  ·refine zcr (sq 2<|zjr<|zr5<|ret1 (yI az) rfl rfl ⟨_,rfl,(sw<|o_pure (Bv true) (by show some (Value.bool<|decide ((az:Int)>=0))=some (Value.bool true);rw[decide_eq_true qf])<|sp (Bv true)<|zjr<|ret1 (Bv true) rfl rfl ⟨_,rfl,(sp (Bv false)<|sq 1<|sp (Bv false)<|zjr<|ret2 (Sv (aa ER 0) t.qQ.length pB) (Bv false) rfl rfl rfl ⟨_,rfl,?_⟩)⟩)⟩)
   replace H:=H.erases [3,2,0]
   dsimp only[zU,List.eraseIdx] at H
   refine sq 2<|sp (Bv false)<|sw<|xg H ti29 [yN] fun b86 UV H=>sw<|xn H 0 [Sv (aa ER 0) t.qQ.length pB] sizeOf29 fun OM H=>sp (Bv false)<|zjc<|sp (Bv false)<|sp (Bv false)<|xY (zR 27 6)<|sp (Bv false)<|sp (Bv false)<|sp (yI 0)<|zjr<|ret2 (Bv false) (yI 0) rfl rfl rfl ⟨_,rfl,?_,H.base⟩
   rw[xw<|fun h=>by exact(fun h=>by(have e:i=counts.length:=qf;have h2:=h.2;rw[←e] at h2;exact(minL_neg qf).1 ‹minL ((yB s t counts i)[az]!)<0› (h2 az qf))) h.1]
  refine qZ<|b_n<|t_n<|xX<|sw<|zC az 1 rfl rfl qf<|sq 1<|xZ<|xh (m':=(t.qQ.length-((az+1):Int)).toNat) qf ⟨_,az+1,uE4,?_,?_,rfl,N,H.pick (zR 0 6)<|zR 1 7⟩
  ·omega
  ·exact i2.succ<|Classical.byContradiction fun h=>‹¬minL ((yB s t counts i)[az]!)<0› ((minL_neg qf).2 h)
 refine zx4<|zcr<|sq 1<|zjr<|ret1 (yI (-1)) rfl rfl ⟨_,rfl,(sp (Bv false)<|sp (Bv false)<|zjr<|ret1 (Bv false) rfl rfl ⟨_,rfl,(sp (Bv true)<|sq 1<|sp (Bv true)<|zjr<|ret2 (Sv gZ t.qQ.length pB) (Bv true) rfl rfl rfl ⟨_,rfl,?_⟩)⟩)⟩
 replace H:=H.erases [3,2,0]
 dsimp only[zU,List.eraseIdx] at H
 refine sq 2<|sp (Bv true)<|sw<|xg H ti29 [yN] fun Ga KV H=>sw<|xn H 0 [Sv gZ t.qQ.length pB] sizeOf29 fun MV H=>sp (Bv true)<|zjc<|sp (Bv true)<|sp (Bv true)<|qP 26 rfl rfl<|sw<|xy (yS s qF qE qO qN) isAgg27 sizeOf27 rfl (qC (H.cells 3 rfl) 0 3)<|qP 26 rfl rfl<|sw<|xy (yT t qV qU xm xk qM qL) isAgg31 sizeOf31 rfl (qC (H.cells 2 rfl) 0 3)<|qP 26 rfl rfl<|sw<|oc (Xn _ s t (H.get 1 rfl).1 (H.get 2 rfl).1 (H.get 3 rfl).1 (H.get 4 rfl).1 (H.get 5 rfl).1 qg qg) ?_
 rintro _ Vv ⟨R0,aAD,Ly,rfl,M,K⟩ _
 replace H:=H.merge K M
 obtain rfl:=H.jy 0 rfl
 refine qP 26 rfl rfl<|sp (.func (.func 123) #[] #[pp b1 0,pp Ga 0])<|qP 26 rfl rfl<|sw<|zW #[Sv R0 ((appls s t).length) Ly,.func (.func 123) #[] #[pp b1 0,pp Ga 0]] rfl rfl call99<|en func99 ntmps99 ?_
 refine zcr<|sp (Bv false)<|zjc<|sq 1<|sp (.func (.func 123) #[] #[pp b1 0,pp Ga 0])<|sw<|zW #[Sv R0 ((appls s t).length) Ly,.func (.func 123) #[] #[pp b1 0,pp Ga 0]] rfl rfl call151<|en func151 ntmps151 ?_
 refine zcr<|sp (yI 0)<|zjcc<|sq 1<|oN rfl<|sp (yI 0)<|zjn<|xf<|zD ((fun Z0 Z1 Z2 Z3 Z4 Z5 Z6 Z7 Z8 Z9 bG bX=>fun m' ρ S5=>∃(xN:Env) (aY:Nat),ρ=upd (upd (upd (upd xN 0<|Sv R0 ((appls s t).length) Ly) 1<|.func (.func 123) #[] #[pp b1 0,pp Ga 0]) 7<|yI ((appls s t).length)) 8 (yI aY)/\((aY:Int)<=((appls s t).length))/\(MostL s t counts aY)/\m'=(((appls s t).length)-(aY:Int)).toNat/\Fresh w.heap.size []/\St w S5 [Z0,Z1,Z2,Z3,Z4] [Z5,Z6,Z7,Z8,Z9,bG,bX]) _ _ _ _ _ _ _ _ _ _ _ _) ((((appls s t).length)-(0:Int)).toNat) ⟨_,0,uE4,qf,qx,rfl,N,H⟩ ?_
 clear H N
 rintro m' ρ Lu ⟨xN,aY,rfl,i0,i3,rfl,N,H⟩
 refine zcr<|sq 1<|zjn<|xU<|cD rfl (fun Ch=>?_)<|fun Ch=>?_
 ·obtain⟨a0,a1,a2⟩:=appls_in (s:=s) (t:=t) (q:=aY) qf
  have q:=p0.rule (i:=((appls s t)[aY]!).toNat) qf
  have qc:=q.1
  have qk:=q.cell
  obtain⟨u1,u2⟩:=restR_row (c:=(s.qB[((appls s t)[aY]!).toNat]!).qY.toNat) p0 p1 p2 (show i<=_ by omega) qk
  have u3:=q.2.2.2.2.1.len
  refine qZ<|t_n<|xU<|xf<|zcr<|sq 2<|zjc<|sp (.func (.func 123) #[] #[pp b1 0,pp Ga 0])<|sq 2 ?_
  obtain⟨i9,rfl⟩:=H.jR 0 rfl qf
  refine oI rfl rfl<|oL rfl (H.Xb 0 rfl (iv:=aY) (i:=aY) qf qf)<|sw<|zW #[yI ((appls s t)[aY]!),pp b1 0,pp Ga 0] rfl rfl call123<|en func123 ntmps123 ?_
  refine zcr<|sp (Bv false)<|zjn<|xU ?_
  obtain⟨Uw,Tg,rfl⟩:=H.addr 2 rfl qf
  obtain⟨M8,rfl⟩:=H.jR 2 rfl qf
  refine VD (fun ρ GB=>∃(xN:Env) (aaK:yLN) (E6:yOA) (Gh:Nat) (ab7:yLN) (T7:yOA) (Ts:Nat) (afT:yLN) (I5:yOA) (JL:Nat) (acI:yLN) (UC:yOA) (Uv:Nat) (ag2:yLN) (AL:yOA) (Ap:Nat) (YO:yLN) (Kh:yOA) (IF:Nat),ρ=upd xN 4 (Bv<|within ((s.qB[((appls s t)[aY]!).toNat]!).zJ) ((yB s t counts i)[((s.qB[((appls s t)[aY]!).toNat]!).qY).toNat]!))/\Fresh w.heap.size []/\St w GB [rr (aa i9 0) ((appls s t).length) Ly 2 1 ((appls s t).map<|Value.int .i64),.box Ga [Sv (aa M8 0) t.qQ.length pB] 29,rr (aa M8 0) t.qQ.length pB 24 1 bO,.box b3 (yT t qV qU xm xk qM qL) 31,.box b1 [yI s.zf,Sv qF s.qA.length qE,Sv (aa Uw Tg) s.qB.length qN] 27] [sF false aaK E6 Gh ((s.qB[((appls s t)[aY]!).toNat]!).zJ),sF false ab7 T7 Ts ((s.qB[((appls s t)[aY]!).toNat]!).jB),sF false afT I5 JL ((s.qB[((appls s t)[aY]!).toNat]!).jD),sF false acI UC Uv ((s.qB[((appls s t)[aY]!).toNat]!).jJ),sF false ag2 AL Ap ((s.qB[((appls s t)[aY]!).toNat]!).Qq),sF false YO Kh IF ((s.qB[((appls s t)[aY]!).toNat]!).xF),atF Uw (Tg+((appls s t)[aY]! :Int).toNat*9) [yI ((s.qB[((appls s t)[aY]!).toNat]!).qY),yI ((s.qB[((appls s t)[aY]!).toNat]!).yK),Sv E6 (((s.qB[((appls s t)[aY]!).toNat]!).zJ).length) Gh,Sv T7 (((s.qB[((appls s t)[aY]!).toNat]!).jB).length) Ts,Sv I5 (((s.qB[((appls s t)[aY]!).toNat]!).jD).length) JL,Sv UC (((s.qB[((appls s t)[aY]!).toNat]!).jJ).length) Uv,Sv AL (((s.qB[((appls s t)[aY]!).toNat]!).Qq).length) Ap,Sv Kh (((s.qB[((appls s t)[aY]!).toNat]!).xF).length) IF,Bv ((s.qB[((appls s t)[aY]!).toNat]!).jY)],xG false co bO<|yB s t counts i,sF false xu qF qE s.qA,sF false xW (aa Uw Tg) qN s.qB,sF false zk qV qU t.qK,sF false zF xm xk t.qQ,sF false xJ qM qL t.qJ,sF false bS aP aK counts]) ?_ ?_
  ·refine ji rfl H fun H=>tF 0 rfl rfl H ?_
   refine tL 1 rfl rfl (fun _ h=>h.cell 4 rfl rfl) H ?_
   refine rtl 2 H ?_
   obtain⟨e8,e7,oB,oZ,pj,pz,oM,pu,pe,oD,pq,oS,ur,su,tn,pG,oR,pc,H⟩:=H.Qa 2 rfl ((appls s t)[aY]!) (((appls s t)[aY]!).toNat) qf qf qf
   have S:=H.jF (zR 0 5)<|zR 7 7
   refine tI 3 rfl rfl rfl S ?_
   refine tF 4 rfl rfl S ?_
   refine tL 6 rfl rfl (fun _ h=>h.cell 1 rfl rfl) S ?_
   refine tF 7 rfl rfl S ?_
   refine tL 8 rfl rfl (fun _ h=>h.cell 4 rfl rfl) S ?_
   refine rtl 9 S ?_
   refine tI 10 rfl rfl rfl S ?_
   refine tF 11 rfl rfl S ?_
   refine zY [5,12] qh qm<|vG rfl ?_<|vG rfl ?_ zZ
   ·refine zB (Sv e8 (((s.qB[((appls s t)[aY]!).toNat]!).zJ).length) e7) isAgg24 rfl (H.zo 6 rfl 2 rfl) (⟨H.pick (zR 0 5)<|zR 7 7,(ro 12 rfl<|zB (yI ((s.qB[((appls s t)[aY]!).toNat]!).qY)) isAgg2 rfl (H.zo 6 rfl 0 rfl)<|⟨H.pick (zR 0 5)<|zR 7 7,(tI 13 rfl rfl rfl (H.pick (zR 0 5)<|zR 7 7) ?_)⟩)⟩)
    refine ro 14 rfl ?_
    obtain⟨amI,amZ,Ul,aum,SE,H⟩:=H.jS 2 rfl 7 rfl (iv:=(s.qB[((appls s t)[aY]!).toNat]!).qY) (((s.qB[((appls s t)[aY]!).toNat]!).qY).toNat) qf qf
    refine zB (Sv amI (((yB s t counts i)[((s.qB[((appls s t)[aY]!).toNat]!).qY).toNat]!).length) amZ) isAgg24 rfl (SE)<|⟨H.pick (zR 0 5)<|zR 8 7,(ro 15 rfl<|oq (V7 _ ((s.qB[((appls s t)[aY]!).toNat]!).zJ) ((yB s t counts i)[((s.qB[((appls s t)[aY]!).toNat]!).qY).toNat]!) (H.get 1 rfl).1 (H.get 0 rfl).1 qg qg) H fun Zk H=>⟨H.pick (zR 0 5)<|zR 8 7,?_⟩)⟩
    refine rtl 16 (H.pick (zR 0 5)<|zR 8 7) ?_
    refine xC qh ((meet ⟨_,oB,e8,e7,pz,oZ,pj,pe,oM,pu,oS,oD,pq,tn,ur,su,pc,pG,oR,uE1,N,H.pick (zR 0 5)<|zR 1 14⟩))
   refine zB (yI ((s.qB[((appls s t)[aY]!).toNat]!).qY)) isAgg2 rfl (H.zo 6 rfl 0 rfl)<|⟨H.pick (zR 0 5)<|zR 7 7,(tI 13 rfl rfl rfl (H.pick (zR 0 5)<|zR 7 7) ?_)⟩
   refine zY [5,14] qh qm<|vG rfl ?_<|vG rfl ?_ zZ
   ·refine zB (Sv e8 (((s.qB[((appls s t)[aY]!).toNat]!).zJ).length) e7) isAgg24 rfl (H.zo 6 rfl 2 rfl) (⟨H.pick (zR 0 5)<|zR 7 7,(ro 14 rfl ?_)⟩)
    obtain⟨ali,amA,alT,azs,Fd,H⟩:=H.jS 2 rfl 7 rfl (iv:=(s.qB[((appls s t)[aY]!).toNat]!).qY) (((s.qB[((appls s t)[aY]!).toNat]!).qY).toNat) qf qf
    refine zB (Sv ali (((yB s t counts i)[((s.qB[((appls s t)[aY]!).toNat]!).qY).toNat]!).length) amA) isAgg24 rfl (Fd)<|⟨H.pick (zR 0 5)<|zR 8 7,(ro 15 rfl<|oq (V7 _ ((s.qB[((appls s t)[aY]!).toNat]!).zJ) ((yB s t counts i)[((s.qB[((appls s t)[aY]!).toNat]!).qY).toNat]!) (H.get 1 rfl).1 (H.get 0 rfl).1 qg qg) H fun abV H=>⟨H.pick (zR 0 5)<|zR 8 7,?_⟩)⟩
    refine rtl 16 (H.pick (zR 0 5)<|zR 8 7) ?_
    refine xC qh ((meet ⟨_,oB,e8,e7,pz,oZ,pj,pe,oM,pu,oS,oD,pq,tn,ur,su,pc,pG,oR,uE1,N,H.pick (zR 0 5)<|zR 1 14⟩))
   obtain⟨akn,anE,ayM,azG,aj1,H⟩:=H.jS 2 rfl 7 rfl (iv:=(s.qB[((appls s t)[aY]!).toNat]!).qY) (((s.qB[((appls s t)[aY]!).toNat]!).qY).toNat) qf qf
   refine zB (Sv akn (((yB s t counts i)[((s.qB[((appls s t)[aY]!).toNat]!).qY).toNat]!).length) anE) isAgg24 rfl (aj1)<|⟨H.pick (zR 0 5)<|zR 8 7,(ro 5 rfl<|zB (Sv e8 (((s.qB[((appls s t)[aY]!).toNat]!).zJ).length) e7) isAgg24 rfl (H.zo 7 rfl 2 rfl)<|⟨H.pick (zR 0 5)<|zR 8 7,(ro 15 rfl<|oq (V7 _ ((s.qB[((appls s t)[aY]!).toNat]!).zJ) ((yB s t counts i)[((s.qB[((appls s t)[aY]!).toNat]!).qY).toNat]!) (H.get 1 rfl).1 (H.get 0 rfl).1 qg qg) H fun GI H=>?_)⟩)⟩
   refine⟨H.pick (zR 0 5)<|zR 8 7,(rtl 16 (H.pick (zR 0 5)<|zR 8 7) ?_)⟩
   refine xC qh ((meet ⟨_,oB,e8,e7,pz,oZ,pj,pe,oM,pu,oS,oD,pq,tn,ur,su,pc,pG,oR,uE1,N,H.pick (zR 0 5)<|zR 1 14⟩))
  clear H N
  rintro ρ Kk ⟨xN,aaK,E6,Gh,ab7,T7,Ts,afT,I5,JL,acI,UC,Uv,ag2,AL,Ap,YO,Kh,IF,rfl,N,H⟩
  refine t_n<|c_ret<|ret1 (Bv<|within ((s.qB[((appls s t)[aY]!).toNat]!).zJ) ((yB s t counts i)[((s.qB[((appls s t)[aY]!).toNat]!).qY).toNat]!)) rfl rfl ⟨_,rfl,(zjn<|zX _ rfl (fun adr=>?_)<|fun adr=>?_)⟩
  ·refine zcr (sq 2<|zjr<|zr5<|ret1 (yI aY) rfl rfl ⟨_,rfl,(sw<|o_pure (Bv true) (by show some (Value.bool<|decide ((aY:Int)>=0))=some (Value.bool true);rw[decide_eq_true qf])<|sp (Bv true)<|zjr<|ret1 (Bv true) rfl rfl ⟨_,rfl,(qP 26 rfl rfl<|sp (Bv false)<|sp (Bv false)<|sp (Bv false)<|sp (yI 0)<|zjr<|ret2 (Bv false) (yI 0) rfl rfl rfl ⟨_,rfl,?_,H.base⟩)⟩)⟩)
   rw[xw<|fun h=>by(have e:i=counts.length:=qf;have h2:=h.2 _ a1 a2;rw[←e] at h2;exact ft ‹within _ _=true› h2)]
  refine qZ<|b_n<|t_n<|xX<|sw<|zC aY 1 rfl rfl qf<|sq 1<|xZ<|xh (m':=(((appls s t).length)-((aY+1):Int)).toNat) qf ⟨_,aY+1,uE4,?_,?_,rfl,N,H.pick (zR 0 5)<|zR 7 7⟩
  ·omega
  ·exact i3.succ (by have e:i=counts.length:=qf;rw[←e];assumption)
 refine zx4<|zcr<|sq 1<|zjr<|ret1 (yI (-1)) rfl rfl ⟨_,rfl,(sp (Bv false)<|sp (Bv false)<|zjr<|ret1 (Bv false) rfl rfl ⟨_,rfl,(qP 26 rfl rfl<|sp (Bv true)<|sp (Bv true)<|sp (Bv true)<|sp (yI 0)<|zjr<|ret2 (Bv true) (yI 0) rfl rfl rfl ⟨_,rfl,?_,H.base⟩)⟩)⟩
 rw[jP<|MostL.most (fun q hq=>i3 q qf) ⟨fun j hj=>i1 j qf,by have e:i=counts.length:=qf;rw[←e];exact fun p hp=>i2 p qf⟩]
theorem implCh_ok(w:World)(s:qH)(t:qG)(ch:yLL){ach:yOA}{cch:Nat}{Fch:yLN}(xe:zP w xu qF qE s.qA)(xE:zP w xW qO qN s.qB)(xR:zP w zk qV qU t.qK)(zu:zP w zF xm xk t.qQ)(xB:zP w xJ qM qL t.qJ)(UY:zP w Fch ach cch ch):Calls Tryz.prog 26 #[.agg #[yI s.zf,Sv qF s.qA.length qE,Sv qO s.qB.length qN],.agg #[Sv qV t.qK.length qU,Sv xm t.qQ.length xk,Sv qM t.qJ.length qL],Sv ach ch.length cch] w (Ret (fun v w'=>∃(cJ:yOA) (cw:Nat) (cU:Nat) (dI:yOA) (dP:Nat) (dD:Nat) (dK:List Value) (dL:yLN) (Vj:yOA) (Vb:Nat) (Vf:Nat),v=.tuple #[.agg #[Sv cJ cw cU,Sv dI dP dD,Sv Vj Vb Vf],yI ((XP s t ch).2)]/\Fresh w.heap.size [dL]/\St w w' [rr cJ cw cU 4 1 ((((XP s t ch).1).qK).map<|Value.bool),rr dI dP dD 24 1 dK,rr Vj Vb Vf 2 1 ((((XP s t ch).1).qJ).map<|Value.int .i64)] [xG true dL dK (((XP s t ch).1).qQ)]) w):=by
 refine en func26 ntmps26 ?_
 have H:=((((((St.start w).arg UY).arg xB).arg zu).arg xR).arg xE).arg xe
 have jT:=qR xR
 have yR:=qR zu
 have jv:=qR xB
 have ayp:=qR UY
 clear xe xE xR zu xB UY
 have N:=Fresh.nil w.heap.size
 refine zcr<|sw<|zN H (yS s qF qE qO qN) fun b1 w2 H=>sw<|zN H (yT t qV qU xm xk qM qL) fun b3 w4 H=>sw<|xg H ti31 [yN,yN,yN] fun b5 w6 H=>sp (yI 0)<|zjcc<|sw<|xy (yS s qF qE qO qN) isAgg27 sizeOf27 rfl (qC (H.cells 2 rfl) 0 3)<|sw<|xy (yT t qV qU xm xk qM qL) isAgg31 sizeOf31 rfl (qC (H.cells 1 rfl) 0 3)<|sw<|oq (QA _ s t (H.get 0 rfl).1 (H.get 1 rfl).1 (H.get 2 rfl).1 (H.get 3 rfl).1 (H.get 4 rfl).1) H fun w8 H=>sq 1<|zjn<|cQ rfl (fun bx=>?_)<|fun bx=>?_
 ·refine zcr (sw<|vg [yN,yN,yN] []<|sw<|xx H 0 [yN,yN,yN] sizeOf31 fun rL H=>sp (yI 1)<|zjr<|t_r ?_)
  replace H:=H.nilRowB 4
  replace H:=H.nilRow 24 1
  replace H:=H.vP (α:=yLI)
  replace H:=H.nilRowI 2
  refine XC H 3 rfl (yI 1) rfl isAgg31 sizeOf31 rfl rfl ⟨_,rfl,?_,H.base⟩
  rw[ch_1 ‹_›]
  exact⟨none,0,0,none,0,0,[],[],none,0,0,rfl,N.emp,H.pick [2,1,0] [0]⟩
 have k0:=(‹vz s/\xK s t›:vz s/\xK s t)
 have k1:=k0.1
 have k2:=k0.2
 refine qZ<|t_n<|zcc<|sq 1<|oN rfl<|sp (Bv<|decide ((ch.length:Int)>300))<|zjn<|cD rfl (fun cZ=>?_)<|fun cZ=>?_
 ·refine zcr (sw<|vg [yN,yN,yN] []<|sw<|xx H 0 [yN,yN,yN] sizeOf31 fun xp H=>sp (yI 2)<|zjr<|t_r ?_)
  replace H:=H.nilRowB 4
  replace H:=H.nilRow 24 1
  replace H:=H.vP (α:=yLI)
  replace H:=H.nilRowI 2
  refine XC H 3 rfl (yI 2) rfl isAgg31 sizeOf31 rfl rfl ⟨_,rfl,?_,H.base⟩
  rw[ch_2 k0<|.inl qf]
  exact⟨none,0,0,none,0,0,[],[],none,0,0,rfl,N.emp,H.pick [2,1,0] [0]⟩
 refine qZ<|t_n<|zcc<|sq 1<|oN rfl<|sp (yI 0)<|zjn<|xf<|zD ((fun Z0 Z1 Z2 Z3 Z4 Z5 Z6 Z7 Z8=>fun m' ρ O5=>∃(xN:Env) (k:Nat),ρ=upd (upd (upd (upd (upd (upd (upd xN 2<|Sv ach ch.length cch) 3<|pp b1 0) 4<|pp b3 0) 6<|pp b5 0) 25<|Sv ach ch.length cch) 26<|yI ch.length) 27 (yI k)/\((k:Int)<=ch.length)/\(AllCnt s ch k)/\m'=(ch.length-(k:Int)).toNat/\Fresh w.heap.size []/\St w O5 [Z0,Z1,Z2] [Z3,Z4,Z5,Z6,Z7,Z8]) _ _ _ _ _ _ _ _ _) ((ch.length-(0:Int)).toNat) ⟨_,0,uE7,qf,qx,rfl,N,H⟩ ?_
 clear H N
 rintro m' ρ uK ⟨xN,k,rfl,i0,i1,rfl,N,H⟩
 refine zcr<|sq 1<|zjn<|xU<|cD rfl (fun FC=>?_)<|fun FC=>?_
 ·refine qZ (t_n<|xU<|xf<|zcr ?_)
  obtain⟨G5,o18,rfl⟩:=H.addr 5 rfl qf
  obtain⟨aoo,ajn,alS,H⟩:=H.jo 5 rfl k k qf qf qf
  refine oI rfl rfl<|oL rfl (H.zo 1 rfl 0 rfl)<|sq 1<|zjc<|sw<|xy (yS s qF qE qO qN) isAgg27 sizeOf27 rfl (qC (H.cells 2 rfl) 0 3)<|sw<|xy (yT t qV qU xm xk qM qL) isAgg31 sizeOf31 rfl (qC (H.cells 1 rfl) 0 3)<|sq 1<|sw<|oq (countsCode_ok _ s t (ch[k]!) (H.get 2 rfl).1 (H.get 3 rfl).1 (H.get 4 rfl).1 (H.get 5 rfl).1 (H.get 6 rfl).1 (H.get 0 rfl).1) H fun GP H=>sq 1<|zjc<|sq 1<|sp (Bv ((VN s t (ch[k]!):Int) != 0))<|zjn<|zX ((VN s t (ch[k]!):Int) != 0) rfl (fun mU=>?_)<|fun mU=>?_
  ·replace mU:=bne_iff_ne.1 mU
   refine zcr<|sw<|vg [yN,yN,yN] []<|sq 1<|sw<|xx H 0 [yN,yN,yN] sizeOf31 fun Ce H=>sq 1<|zjr<|zr5 ?_
   replace H:=H.nilRowB 4
   replace H:=H.nilRow 24 1
   replace H:=H.vP (α:=yLI)
   replace H:=H.nilRowI 2
   refine XC H 3 rfl (yI<|VN s t<|ch[k]!) rfl isAgg31 sizeOf31 rfl rfl ⟨_,rfl,?_,H.base⟩
   rw[ch_2 k0<|.inr<|fun h=>‹VN s t _≠0› (ask_0 k0<|h k qf),ask_2 k0<|fun h=>‹VN s t _≠0› (ask_0 k0 h)]
   exact⟨none,0,0,none,0,0,[],[],none,0,0,rfl,N.emp,H.pick [2,1,0] [0]⟩
  replace mU:=xA mU
  refine qZ<|b_n<|t_n<|xX<|sw<|zC k 1 rfl rfl qf<|sq 1<|xZ<|xh (m':=(ch.length-((k+1):Int)).toNat) qf ⟨_,k+1,uE7,?_,?_,rfl,N,H.pick [0,1,2]<|zR 2 6⟩
  ·omega
  ·exact i1.succ (ask_ok ‹VN s t (ch[k]!)=0›).2.2
 refine zx4<|zcr<|sw<|xy (yT t qV qU xm xk qM qL) isAgg31 sizeOf31 rfl (qC (H.cells 1 rfl) 0 3) ?_
 obtain⟨q7,q8,q9,Bz⟩:=k2.sizes k1.1
 have Uj:=fun k hk=>Nat.le_trans (Bz k hk) (by decide:8<=1000000)
 have ajU:=H.base.size
 refine sw<|oc (Q9 _ t (H.get 2 rfl).1 (H.get 3 rfl).1 (H.get 4 rfl).1 qg qg qg qg) ?_
 rintro _ BA ⟨wz,UN,vt,Bf,ada,AF,I8,Jn,tu,SU,sV,rfl,M,K⟩ _
 replace N:=N.merge ajU qm M
 replace H:=H.merge K M
 obtain rfl:=H.Xg 0 rfl
 obtain rfl:=H.xQ (α:=yLI) 1 rfl 0 rfl qj
 obtain rfl:=H.jy 2 rfl
 refine sw<|xg H ti31 [yN,yN,yN] fun mV Ao H=>sw<|xx H 0 (yT t wz vt Bf AF tu sV) sizeOf31 fun Gy H=>zjcc<|sq 1<|oN rfl<|sp (yI 0)<|zjn<|xf ?_
 have kc:AllCnt s ch ch.length:=fun j hj=>i1 j qf
 refine zD ((fun Z0 Z1 Z2 Z3 Z4 Z5 Z6 Z7 Z8=>fun m' ρ Jk=>∃(xN:Env) (av:Nat) (jI:yOA) (jG:Nat) (jH:Nat) (et:List Bool) (jW:yOA) (jU:Nat) (jV:Nat) (fh:yLL) (Xd:List Value) (Qs:yLN) (jg:yOA) (je:Nat) (jf:Nat) (dt:yLI) (u:qG),ρ=upd (upd (upd (upd (upd (upd xN 3<|pp b1 0) 6<|pp b5 0) 11<|pp mV 0) 42<|Sv ach ch.length cch) 43<|yI ch.length) 44 (yI av)/\et=u.qK/\fh=u.qQ/\dt=u.qJ/\((av:Int)<=ch.length)/\(xK s u)/\(XP s t ch=X8 s ch (ch.length-av) u)/\m'=(ch.length-(av:Int)).toNat/\Fresh w.heap.size [Qs]/\St w Jk [.box mV [Sv jI jG jH,Sv jW jU jV,Sv jg je jf] 31,rr jI jG jH 4 1<|et.map<|Value.bool,rr jW jU jV 24 1 Xd,rr jg je jf 2 1<|dt.map<|Value.int .i64,Z0,Z1,Z2] [xG true Qs Xd fh,Z3,Z4,Z5,Z6,Z7,Z8]) _ _ _ _ _ _ _ _ _) ((ch.length-(0:Int)).toNat) ⟨_,0,wz,t.qK.length,vt,t.qK,Bf,t.qQ.length,AF,t.qQ,I8,Jn,tu,t.qJ.length,sV,t.qJ,t,uE6,(by rfl),(by rfl),(by rfl),qf,(by exact k2),(by exact ch_0 k0 qf kc),rfl,N,H⟩ ?_
 clear H N
 rintro m' ρ Jz ⟨xN,av,jI,jG,jH,et,jW,jU,jV,fh,Xd,Qs,jg,je,jf,dt,u,rfl,rfl,rfl,rfl,i0,ku,kr,rfl,N,H⟩
 refine zcr<|sq 1<|zjn<|xU<|cD rfl (fun G7=>?_)<|fun G7=>?_
 ·refine qZ (t_n<|xU<|xf<|zcr ?_)
  obtain⟨RJ,o41,rfl⟩:=H.addr 6 rfl qf
  obtain⟨auB,ayv,awH,H⟩:=H.jo 6 rfl av av qf qf qf
  refine oI rfl rfl<|oL rfl (H.zo 1 rfl 0 rfl)<|sq 1<|zjc<|sw<|xy (yS s qF qE qO qN) isAgg27 sizeOf27 rfl (qC (H.cells 6 rfl) 0 3)<|sw<|xy [Sv jI jG jH,Sv jW jU jV,Sv jg je jf] isAgg31 sizeOf31 rfl (qC (H.cells 0 rfl) 0 3)<|sq 1 ?_
  obtain⟨G44,ae2,KK⟩:=H.rowIsB 1 rfl
  obtain⟨G47,TN,Fh⟩:=H.QL (α:=yLI) 2 rfl 2 rfl qj
  obtain⟨Pm,Jh,Cq⟩:=H.XB 3 rfl
  have k3:=kc av qf
  refine sw<|oq (Qu (by rw[←ae2,←TN,←Jh])<|isMaximal_ok _ s u (ch[av]!) (H.get 3 rfl).1 (H.get 4 rfl).1 (ae2▸KK) (TN▸Fh) (Jh▸Cq) (H.get 0 rfl).1 qg qg qg) H fun WP H=>sq 2<|sp (yI 0)<|sq 1<|sp (yI 0)<|zjcc<|sp (yI 0)<|sp (Bv true)<|sp (Bv true)<|qP 57 rfl rfl<|sq 1<|qP 57 rfl rfl<|sp (Bv (!(dec<|VW s u<|ch[av]!)))<|qP 57 rfl rfl<|sp (Bv (!(dec<|VW s u<|ch[av]!))) ?_
  cases Br:(!(dec (VW s u (ch[av]!))))
  ·replace Br:=xO Br
   replace Br:=Qc Br
   refine qP 60 rfl rfl<|sw<|xy (yS s qF qE qO qN) isAgg27 sizeOf27 rfl (qC (H.cells 6 rfl) 0 3)<|qP 60 rfl rfl<|sw<|xy [Sv jI jG jH,Sv jW jU jV,Sv jg je jf] isAgg31 sizeOf31 rfl (qC (H.cells 0 rfl) 0 3)<|qP 60 rfl rfl ?_
   obtain⟨G57,S6,h59⟩:=H.rowIsB 1 rfl
   obtain⟨G60,Hf,h62⟩:=H.QL (α:=yLI) 2 rfl 2 rfl qj
   obtain⟨G63,aaC,h65⟩:=H.XB 3 rfl
   refine sw<|oc (Qu (by rw[←S6,←Hf,←aaC])<|Xn _ s u (H.get 3 rfl).1 (H.get 4 rfl).1 (S6▸h59) (Hf▸h62) (aaC▸h65) qg qg) ?_
   rintro _ w67 ⟨aAk,aAb,ax1,rfl,M,K⟩ _
   replace H:=H.merge K M
   obtain rfl:=H.jy 0 rfl
   refine qP 60 rfl rfl<|oN rfl<|qP 60 rfl rfl<|sp (Bv (((appls s u).length:Int) == 0))<|qP 57 rfl rfl<|sp (Bv (((appls s u).length:Int) == 0))<|sp (Bv (((appls s u).length:Int) == 0))<|zjn<|cE rfl (fun K7=>?_)<|fun K7=>?_
   ·refine xX (sp (yI 4)<|zjcc<|sp (yI 4)<|sp (Bv false)<|zjn<|cFr rfl<|qZ<|t_n<|zcr<|sp (yI 4)<|sp (Bv true)<|zjn<|cTr rfl<|zcr<|sw<|vg [yN,yN,yN] []<|sp (yI 4)<|sw<|xx H 5 [yN,yN,yN] sizeOf31 fun N5 H=>sp (yI 4)<|zjr<|zr5 ?_)
    replace H:=H.nilRowB 4
    replace H:=H.nilRow 24 1
    replace H:=H.vP (α:=yLI)
    replace H:=H.nilRowI 2
    refine XC H 8 rfl (yI 4) rfl isAgg31 sizeOf31 rfl rfl ⟨_,rfl,?_,H.base⟩
    rw[kr,choose_4 (k:=av) rfl qf<|by exact .inl<|Qy.1 qf]
    exact⟨none,0,0,none,0,0,[],[],none,0,0,rfl,(N.emp.pick [0]),H.pick [2,1,0] [0]⟩
   refine qZ<|t_n<|zcc<|sp (yI 0)<|sp (Bv true)<|zjn<|cTr rfl<|xX<|sw<|xy (yS s qF qE qO qN) isAgg27 sizeOf27 rfl (qC (H.cells 7 rfl) 0 3)<|sw<|xy [Sv jI jG jH,Sv jW jU jV,Sv jg je jf] isAgg31 sizeOf31 rfl (qC (H.cells 1 rfl) 0 3)<|sq 1 ?_
   obtain⟨G74,Sf,Lw⟩:=H.rowIsB 2 rfl
   obtain⟨G77,aez,LG⟩:=H.QL (α:=yLI) 3 rfl 2 rfl qj
   obtain⟨SN,my,Dw⟩:=H.XB 4 rfl
   have k4:=(‹VW s u _›:VW s u _).1
   have R1:=H.base.size
   have SF:=H.ltN (L:=[Qs]) [2]
   refine sw<|oc (Qu (by rw[←Sf,←aez,←my])<|step_ok _ s u (ch[av]!) (H.get 3 rfl).1 (H.get 4 rfl).1 (Sf▸Lw) (aez▸LG) (my▸Dw) (H.get 0 rfl).1 qg qg qg qg) ?_
   rintro _ KD ⟨Cs,TJ,Cu,Fz,Wi,Ff,Vc,Wv,Ac,PI,AP,rfl,M,K⟩ _
   replace N:=N.merge R1 SF M
   replace H:=H.merge K M
   obtain rfl:=H.Xg 0 rfl
   obtain rfl:=H.xQ (α:=yLI) 1 rfl 0 rfl qj
   obtain rfl:=H.jy 2 rfl
   refine sq 3<|sw<|xx H 4 [Sv Cs ((((zA s u<|ch[av]!).1).qK).length) Cu,Sv Fz ((((zA s u<|ch[av]!).1).qQ).length) Ff,Sv Ac ((((zA s u<|ch[av]!).1).qJ).length) AP] sizeOf31 fun MV H=>sq 1<|zjc<|sq 1<|sp (Bv (((zA s u<|ch[av]!).2:Int) != 0))<|zjn<|zX (((zA s u<|ch[av]!).2:Int) != 0) rfl (fun RU=>?_)<|fun RU=>?_
   ·replace RU:=bne_iff_ne.1 RU
    refine zcr<|sw<|vg [yN,yN,yN] []<|sq 1<|sw<|xx H 8 [yN,yN,yN] sizeOf31 fun Vv H=>sq 1<|zjr<|zr5 ?_
    replace H:=H.nilRowB 4
    replace H:=H.nilRow 24 1
    replace H:=H.vP (α:=yLI)
    replace H:=H.nilRowI 2
    refine XC H 11 rfl (yI ((zA s u<|ch[av]!).2)) rfl isAgg31 sizeOf31 rfl rfl ⟨_,rfl,?_,H.base⟩
    rw[kr,choose_bad (k:=av) rfl qf (fun h=>by have:=Qy.2 h;omega) ‹VW s u _› ‹_›]
    exact⟨none,0,0,none,0,0,[],[],none,0,0,rfl,(N.emp.pick [0]),H.pick [2,1,0] [0]⟩
   replace RU:=xA RU
   refine qZ<|b_n<|t_n<|xX<|sw<|zC av 1 rfl rfl qf<|sq 1<|xZ<|xh (m':=(ch.length-((av+1):Int)).toNat) qf ⟨_,av+1,_,_,_,_,_,_,_,_,_,_,_,_,_,_,(zA s u<|ch[av]!).1,uE6,?_,?_,?_,?_,?_,?_,rfl,(N.pick [0]),H.pick [4,0,1,2,8,9,10] (0::zR 4 6)⟩
   ·rfl
   ·rfl
   ·rfl
   ·omega
   ·exact stepBy_ok ‹_›
   ·exact kr.trans<|choose_go (k:=av) rfl qf rfl (fun h=>by have:=Qy.2 h;omega) ‹VW s u _› ‹_›
  replace Br:=x8 Br
  replace Br:=vF Br
  refine xY (zR 61 5)<|qP 57 rfl rfl<|sp (Bv true)<|sp (Bv true)<|zjn<|cTr rfl<|xX<|sp (yI 4)<|zjcc<|sp (yI 4)<|sp (Bv false)<|zjn<|cFr rfl<|qZ<|t_n<|zcr<|sp (yI 4)<|sp (Bv true)<|zjn<|cTr rfl<|zcr<|sw<|vg [yN,yN,yN] []<|sp (yI 4)<|sw<|xx H 4 [yN,yN,yN] sizeOf31 fun L8 H=>sp (yI 4)<|zjr<|zr5 ?_
  replace H:=H.nilRowB 4
  replace H:=H.nilRow 24 1
  replace H:=H.vP (α:=yLI)
  replace H:=H.nilRowI 2
  refine XC H 7 rfl (yI 4) rfl isAgg31 sizeOf31 rfl rfl ⟨_,rfl,?_,H.base⟩
  rw[kr,choose_4 (k:=av) rfl qf<|by exact .inr ‹¬VW s u _›]
  exact⟨none,0,0,none,0,0,[],[],none,0,0,rfl,(N.emp.pick [0]),H.pick [2,1,0] [0]⟩
 refine zx4<|zcr<|sw<|xy [Sv jI jG jH,Sv jW jU jV,Sv jg je jf] isAgg31 sizeOf31 rfl (qC (H.cells 0 rfl) 0 3)<|sw<|xx H 4 [Sv jI jG jH,Sv jW jU jV,Sv jg je jf] sizeOf31 fun w95 H=>sp (yI 0)<|zjr<|XC H 4 rfl (yI 0) rfl isAgg31 sizeOf31 rfl rfl ⟨_,rfl,?_,H.base⟩
 rw[kr,choose_end qf]
 exact⟨jI,jG,jH,jW,jU,jV,Xd,Qs,jg,je,jf,rfl,N,H.pick [1,2,3] [0]⟩
end
section
theorem packs_rest{K:Nat}{ad:yLL}(hP:Yc K ad):∀(f k:Nat) (ai y:yLI),k+f=ad.length->RestOk K ai->y∈packs ad f k ai→
 ∃r,r.length=K/\FullOk ad r/\∀q,q<K->r[q]! =ai[q]!-dotP y (ad.drop k) q
 |0,k,ai,y,hk,hR,h=>by
  rw[packs] at h
  split at h
  ·next hf=>
   obtain rfl:=List.mem_singleton.1 h
   exact⟨ai,hR.1,hf,fun q hq=>by simp only[dotP];omega⟩
  ·simp at h
 |f+1,k,ai,y,hk,hR,h=>by
  rw[packs,List.mem_flatMap] at h
  obtain⟨n,hn,h⟩:=h
  obtain⟨y',hy,rfl⟩:=List.mem_map.1 h
  have hb:=times_bd hP hR (k:=k) qf
  rw[List.mem_range] at hn
  obtain⟨r,h1,h2,h3⟩:=packs_rest hP f (k+1) _ y' qf (hR.take hP qf (n:=(n:Int)) qf qf) hy
  refine⟨r,h1,h2,fun q hq=>?_⟩
  have hd:ad.drop k=ad[k]! :: ad.drop (k+1):=by rw[getElem!_pos ad k qf];exact(List.drop_eq_getElem_cons qf)
  rw[h3 q hq,XM (by have:=hR.1;omega),Int.neg_mul,hd,dotP]
  omega
theorem says_most(hs:vz s)(ht:xK s t){x:yLI}(h:Says s t s.qA.length (xP s t s.qA.length).length x):VW s t x:=by
 obtain⟨hc,UY⟩:=says_choice hs ht h
 obtain⟨h1,h2,h3⟩:=h
 have hB:=ht.2.1
 refine⟨UY,fun i hi ha=>?_⟩
 have mZ:=(hs.rule (i:=i) hi).1
 obtain⟨c,ec⟩:∃c:Nat,(s.qB[i]!).qY=(c:Int):=⟨(s.qB[i]!).qY.toNat,by have:=mZ.1;omega⟩
 have hcp:c<s.qA.length:=by have:=mZ;have:=ec;omega
 have hm:=cellT_mem hi ha ec
 obtain⟨j,hj,ej⟩:=List.mem_iff_getElem.1 hm
 have hr:¬(vW s t c).length=0:=by omega
 obtain⟨i',ox,e1,e2⟩:=cell_live (s:=s) (t:=t) hcp hr
 obtain⟨y,hy,h4⟩:=h2 i' ox
 rw[e1] at h4
 rw[e2] at hy
 unfold cellP at hy
 rcases all_cases (b:=t.qQ[c]!) (ad:=vY s<|vW s t c) with h5|⟨_,h5,_⟩
 ·rw[h5] at hy;simp at hy
 ·rw[h5] at hy
  obtain⟨r,r1,r2,r3⟩:=packs_rest (cell_parts (t:=t) hs c) _ 0 _ y (Nat.zero_add _) (cell_rest ht qf) hy
  have he:=restR_ent hs ht hc s.qB.length<|Nat.le_refl _
  have hl:((yB s t x s.qB.length)[c]!).length=yE s:=(he.sh.2 c<|by unfold jK;omega).1
  have uQ:(yB s t x s.qB.length)[c]! =r:=by
   refine ext_get qf fun q hq=>?_
   have hq:q<yE s:=by omega
   have heq:=he.eq c q (by unfold jK;omega) qf
   have hn:=needS_cell (t:=t) (x:=x) (c:=c) (q:=q) hs s.qB.length (Nat.le_refl _) fun k hk _ KW=>by
    by_cases h0:x[k]! =0
    ·exact h0
    ·refine absurd ?_ KW
     refine Classical.byContradiction fun hx=>h0 ?_
     have:=UY.1 k qf
     have hv:=(hc.2 k qf).1
     by_cases hz:0<x[k]!
     ·exact absurd ⟨hz,hx⟩ this
     ·omega
   have h6:=sumOver_dot (s:=s) (x:=x) (q:=q) (l:=vW s t c) (y:=y) ((packs_len hy).trans<|Q7 _ _) h4
   rw[heq,r3 q hq,hn]
   show (t.qQ[c]!)[q]! + -(X9 s x q<|vW s t c)=_
   rw[h6,List.drop_zero]
   omega
  have hjn:j<(vY s<|vW s t c).length:=by rw[Q7];exact hj
  have hx:=r2 j hjn
  have en:(vY s<|vW s t c)[j]! =(s.qB[i]!).zJ:=by
   rw[needs_get hj,getElem!_pos _ j hj,ej,Int.toNat_natCast]
  rw[en] at hx
  rw[h1,ec,Int.toNat_natCast,uQ]
  exact hx
theorem cho_most(hs:vz s)(ht:xK s t)(hk:k<(zK s t).1.length):VW s t ((zK s t).1[k]!):=by
 have hm:(zK s t).1[k]! ∈(zK s t).1:=mem_at_L hk
 generalize (zK s t).1[k]! =x at hm
 unfold zK at hm
 split at hm
 ·simp at hm
 ·split at hm
  ·simp at hm
  ·have hx:x∈inOrder (Qm s.qB.length (xP s t s.qA.length) (zI s t s.qA.length) (zI s t s.qA.length).length):=hm
   unfold inOrder at hx
   have Ky:=packsL_le s t s.qA.length
   split at hx
   ·next h=>exact says_most hs ht<|by rw[←Ky];exact prodG_says _ qf x ((Classical.choose_spec h).1.symm.subset hx)
   ·exact says_most hs ht<|by rw[←Ky];exact prodG_says _ qf x hx
theorem addSt_nodup{S nx:List qG}(h:S.Nodup):∀k,(vC S nx k).1.Nodup
 |0=>h
 |k+1=>by
  have ih:=addSt_nodup (nx:=nx) h k
  rw[vC]
  split
  ·next hf=>
   show ((vC S nx k).1++[nx[k]!]).Nodup
   rw[List.nodup_append]
   exact⟨ih,by simp,fun a ha b hb e=>find_mem.1 hf (by obtain rfl:=List.mem_singleton.1 hb;exact e▸ha)⟩
  ·exact ih
theorem addSt_iff{S nx:List qG}{v:qG}:∀k,v∈(vC S nx k).1<->v∈S\/∃q,q<k/\nx[q]! =v
 |0=>⟨.inl,fun h=>h.elim id fun⟨q,hq,_⟩=>by omega⟩
 |k+1=>by
  have ih:=addSt_iff (S:=S) (nx:=nx) (v:=v) k
  rw[vC]
  split
  ·show v∈(vC S nx k).1++[nx[k]!]<->_
   rw[List.mem_append,ih,List.mem_singleton]
   constructor
   ·rintro((h|⟨q,hq,e⟩)|h)
    ·exact .inl h
    ·exact .inr ⟨q,by omega,e⟩
    ·exact .inr ⟨k,by omega,h.symm⟩
   ·rintro(h|⟨q,hq,e⟩)
    ·exact .inl<|.inl h
    ·by_cases ek:q=k
     ·subst ek;exact .inr e.symm
     ·exact .inl<|.inr ⟨q,by omega,e⟩
  ·next hf=>
   rw[ih]
   constructor
   ·rintro(h|⟨q,hq,e⟩)
    ·exact .inl h
    ·exact .inr ⟨q,by omega,e⟩
   ·rintro(h|⟨q,hq,e⟩)
    ·exact .inl h
    ·by_cases ek:q=k
     ·subst ek
      refine ih.1 ?_
      rw[←e]
      exact Classical.byContradiction fun hx=>hf<|find_mem.2 hx
     ·exact .inr ⟨q,by omega,e⟩
theorem nodup_le{α:Type}:∀ {l m:List α},l.Nodup->(∀x∈l,x∈m)->l.length<=m.length
 | [],_,_,_=>Nat.zero_le _
 |a::l,m,h,h1=>by
  obtain⟨p,q,rfl⟩:=List.append_of_mem<|h1 a qm
  have hn:=List.nodup_cons.1 h
  have:=nodup_le (l:=l) (m:=p++q) hn.2 fun x hx=>by
   have:=h1 x<|List.mem_cons_of_mem _ hx
   rcases List.mem_append.1 this with h2|h2
   ·exact List.mem_append.2<|.inl h2
   ·rcases List.mem_cons.1 h2 with rfl|h2
    ·exact absurd hx hn.1
    ·exact List.mem_append.2<|.inr h2
  simp only[List.length_append,List.length_cons] at this ⊢
  omega
theorem saGo_mem{s:qH}{T:List qG}(hT:T.length<=300):∀ {l out:List qG},out.Nodup->(∀v∈out,v∈T)->(∀u∈l,(qW s u).2=0/\∀v∈(qW s u).1,v∈T)→
 ∃o,saGo s l out=(o,0)/\o.Nodup/\∀v,v∈o<->v∈out\/∃u∈l,v∈(qW s u).1
 | [],out,h,_,_=>⟨out,rfl,h,fun v=>⟨.inl,fun h=>h.elim id fun⟨u,hu,_⟩=>by simp at hu⟩⟩
 |u::l,out,h,h1,h2=>by
  obtain⟨hc,hv⟩:=h2 u qm
  have hm:∀v,v∈(vC out (qW s u).1 (qW s u).1.length).1<->v∈out\/v∈(qW s u).1:=fun v=>by
   rw[addSt_iff]
   refine or_congr Iff.rfl ⟨fun⟨q,hq,e⟩=>by rw[←e,getElem!_pos _ q hq];exact List.getElem_mem hq,fun hx=>?_⟩
   obtain⟨q,hq,e⟩:=List.mem_iff_getElem.1 hx
   exact⟨q,hq,by rw[getElem!_pos _ q hq,e]⟩
  have hin:∀v∈(vC out (qW s u).1 (qW s u).1.length).1,v∈T:=fun v hx=>((hm v).1 hx).elim (h1 v)<|hv v
  have hnd:=addSt_nodup (nx:=(qW s u).1) h (qW s u).1.length
  have Ky:=nodup_le hnd hin
  obtain⟨o,e1,e2,e3⟩:=saGo_mem hT (l:=l) hnd hin fun u' So =>h2 u'<|List.mem_cons_of_mem _ So
  refine⟨o,?_,e2,fun v=>?_⟩
  ·rw[saGo,if_neg<|fun x=>x hc,if_neg qf,e1]
  ·rw[e3,hm]
   constructor
   ·rintro((h|h)|⟨u',So,h⟩)
    ·exact .inl h
    ·exact .inr ⟨u,by simp,h⟩
    ·exact .inr ⟨u',List.mem_cons_of_mem _ So,h⟩
   ·rintro(h|⟨u',So,h⟩)
    ·exact .inl<|.inl h
    ·rcases List.mem_cons.1 So with rfl|So
     ·exact .inl<|.inr h
     ·exact .inr ⟨u',So,h⟩
def Canon(R:yLL):Prop:=∀i,i<R.length->∀k,k<(R[i]!).length->∀j:Nat,0<j->(j:Int)<(R[i]!)[k]! ->∃i',i' <=i/\InRow R i' j
structure GrFull(s:qH)(t:qG)(S:List qG)(R:yLL):Prop where
 all:GrAll s S R
 nd:S.Nodup
 cn:Canon R
 fst:S[0]! =t
 code:∀i,i<S.length->(qW s<|S[i]!).2=0
 rlen:∀i,i<S.length->(R[i]!).length=(qW s<|S[i]!).1.length
 rat:∀i,i<S.length->∀k,k<(R[i]!).length->S[((R[i]!)[k]!).toNat]! =(qW s<|S[i]!).1[k]!
structure GrP(s:qH)(t:qG)(S:List qG)(R:yLL):Prop where
 ok:GrOk S R
 len:R.length<=S.length
 pos:0<S.length
 nd:S.Nodup
 cn:Canon R
 fst:S[0]! =t
 rlen:∀i,i<R.length->(R[i]!).length=(qW s<|S[i]!).1.length
theorem gr_p(h:(Yf s t).2=0):GrP s t (Yf s t).1.1 (Yf s t).1.2:=by
 refine grGo_ind (s:=s) (p:=fun S R=>GrP s t S R) ?_ 302 [t] [] ⟨GrOk.start t,by simp,by simp,by simp,fun i hi=>by simp at hi,rfl,fun i hi=>by simp at hi⟩ h
 intro S R hl ⟨h1,h2,h3,h4,h5,h6,h7⟩ hc
 obtain⟨l1,l2,l3⟩:=Xp (S:=S) (nx:=(qW s<|S[R.length]!).1) (qW s<|S[R.length]!).1.length
 have hn:=h1.next hl (nx:=(qW s<|S[R.length]!).1)<|succ_len s<|S[R.length]!
 have row:∀i j,i<R.length->(InRow (R++[(vC S (qW s<|S[R.length]!).1 (qW s<|S[R.length]!).1.length).2]) i j<->InRow R i j):=fun i j hi=>by
  unfold InRow InTo;rw[snoc_lt hi]
 refine⟨hn,by rw[List.length_append,List.length_singleton];omega,by omega,addSt_nodup h4 _,fun i hi k hk j h0 hj=>?_,by rw[addSt_get h3];exact h6,fun i hi=>?_⟩
 ·rw[List.length_append,List.length_singleton] at hi
  by_cases e:i=R.length
  ·subst e
   have hr:=hn.rows R.length qm k hk
   have hx:((R++[(vC S (qW s<|S[R.length]!).1 (qW s<|S[R.length]!).1.length).2])[R.length]!)[k]! =(vC S (qW s<|S[R.length]!).1 (qW s<|S[R.length]!).1.length).2[k]! :=by rw[snoc_eq]
   obtain⟨i',a,_,k',b,c⟩:=hn.from' j h0 qf
   rw[List.length_append,List.length_singleton] at a
   exact⟨i',by omega,k',b,by omega⟩
  ·have ox :i<R.length:=by omega
   rw[snoc_lt ox] at hk hj
   obtain⟨i',a,b⟩:=h5 i ox k hk j h0 hj
   exact⟨i',a,(row i' j qf).2 b⟩
 ·rw[List.length_append,List.length_singleton] at hi
  rw[addSt_get qf]
  by_cases e:i=R.length
  ·subst e;rw[snoc_eq];omega
  ·rw[snoc_lt qf];exact h7 i qf
theorem ex_full(h:(yG s t).2=0):GrFull s t (exG s t).xq (exG s t).fNext:=by
 have ha:=ex_all h
 have hx:=ex_nx h
 have e:=ex_0 (VA h) rfl
 have h':=h
 rw[e] at h'
 have hp:GrP s t (exG s t).xq (exG s t).fNext:=by have:=gr_p h';rw[←e] at this;exact this
 have hl:=ha.len
 exact⟨ha,hp.nd,hp.cn,hp.fst,fun i hi=>(hx i qf).1,fun i hi=>hp.rlen i qf,fun i hi k hk=>((hx i qf).2 k hk).2⟩
theorem idx_of(h:S.Nodup)(hi:i<S.length)(hj:j<S.length)(e:S[i]! =S[j]!):i=j:=by
 rw[getElem!_pos S i hi,getElem!_pos S j hj] at e
 have hp:=List.pairwise_iff_getElem.1 h
 rcases Nat.lt_trichotomy i j with h1|h1|h1
 ·exact absurd e<|hp i j hi hj h1
 ·exact h1
 ·exact absurd e.symm<|hp j i hj hi h1
theorem first_of(h:S.Nodup)(hj:j<S.length):firstIdx (fun zz=>decide<|S[zz]! =S[j]!) S.length=(j:Int):=
 Xj hj (fun i hi=>decide_eq_false fun e=>by have:=idx_of h qf hj e;omega) (decide_eq_true rfl)
theorem GrFull.next(g:GrFull s t S R)(hi:i<S.length)(hk:k<(qW s<|S[i]!).1.length):
 firstIdx (fun zz=>decide<|S[zz]! =(qW s<|S[i]!).1[k]!) S.length=(R[i]!)[k]! :=by
 have za :k<(R[i]!).length:=by rw[g.rlen i hi];exact hk
 have hr:=g.all.ok.rows i (by rw[g.all.len];exact hi) k za
 rw[←g.rat i hi k za,first_of g.nd hr.2]
 omega
theorem it_shift{R:yLL}{j:Nat}:∀k,itF R j (k+1)=itF R (frm R j) k
 |0=>rfl
 |k+1=>by rw[itF,it_shift k];rfl
theorem steps_zero(R:yLL):yt R 0=0:=stepsOf_of rfl fun q hq=>by omega
theorem steps_at(g:GrOk S R)(hj:j<S.length):itF R j (yt R j)=0/\∀q,q<yt R j->itF R j q≠0:=by
 obtain⟨m,h0,h1⟩:=it_ex g hj
 rw[stepsOf_of h0 h1];exact⟨h0,h1⟩
theorem steps_succ(g:GrOk S R)(h0:0<j)(hj:j<S.length):yt R j=yt R (frm R j)+1:=by
 have hf:=frm_ok g h0 hj
 obtain⟨a,b⟩:=steps_at g (j:=frm R j) qf
 refine stepsOf_of (by rw[it_shift];exact a) fun q hq=>?_
 cases q with
 |zero=>show j≠0;omega
 |succ q=>rw[it_shift];exact b q qf
theorem wayTo_at{s:qH}{S:List qG}{R:yLL}{j m:Nat}:∀ {n q:Nat},q<n->(wayTo s S R j m n)[q]! =betw s (S[itF R j<|m-q]!) (S[itF R j<|m-q-1]!)
 |0,q,h=>by omega
 |n+1,q,h=>by
  rw[wayTo]
  have hl:=wayTo_len (s:=s) (S:=S) (R:=R) (j:=j) (m:=m) n
  by_cases e:q=n
  ·subst e
   have:=snoc_eq (l:=wayTo s S R j m q) (x:=betw s (S[itF R j<|m-q]!)<|S[itF R j<|m-q-1]!)
   rwa [hl] at this
  ·rw[snoc_lt qf];exact wayTo_at qf
open Classical in
theorem betw_lead(h:∃q,q<(zK s t).1.length/\zA s t ((zK s t).1[q]!)=(u,0)):∃q,q<(zK s t).1.length/\betw s t u=(zK s t).1[q]! /\zA s t (betw s t u)=(u,0):=by
 obtain⟨q,hq,e⟩:=h
 obtain⟨m,a,b,c⟩:=least_of (g:=fun k=>decide<|zA s t ((zK s t).1[k]!)=(u,0)) q<|decide_eq_true e
 have b:=of_decide_eq_true b
 have e2:=betw_at (fun j hj=>of_decide_eq_false<|c j hj) (show m<_ by omega) b
 exact⟨m,by omega,e2,by rw[e2];exact b⟩
theorem GrFull.one(g:GrFull s t S R)(hs:vz s)(h0:0<a)(ha:a<S.length):
 ¬Halted s (S[frm R a]!)/\CntOk s (betw s (S[frm R a]!)<|S[a]!)/\VW s (S[frm R a]!) (betw s (S[frm R a]!)<|S[a]!)/\zA s (S[frm R a]!) (betw s (S[frm R a]!)<|S[a]!)=(S[a]!,0):=by
 have hf:=frm_ok g.all.ok h0 ha
 have jj:=g.all.len
 have hx:GrNx s S R:=fun i hi=>⟨g.code i qf,fun k hk=>⟨by rw[←g.rlen i qf];exact hk,g.rat i qf k hk⟩⟩
 obtain⟨q,hq,e,hb⟩:=betw_lead (way_by g.all.ok hx h0 ha).2
 have hst:xK s (S[frm R a]!):=g.all.st _<|by rw[getElem!_pos S (frm R a) qf];exact List.getElem_mem _
 refine⟨fun hh=>?_,?_,?_,hb⟩
 ·obtain⟨k,hk,_⟩:=hf.1.2.2.1
  have:=(g.all.ht _ hf.1.2.1).2 hh
  omega
 ·rw[e];exact(cho_ok hs hst hq).1
 ·rw[e];exact cho_most hs hst hq
theorem GrFull.run{s:qH}{t:qG}{S:List qG}{R:yLL}(g:GrFull s t S R)(hs:vz s){j:Nat}(hj:j<S.length):∀q,q<=yt R j→
 X8 s (wayL s S R j) (yt R j) t=X8 s (wayL s S R j) (yt R j-q) (S[itF R j<|yt R j-q]!)
 |0,_=>by rw[Nat.sub_zero,(steps_at g.all.ok hj).1,g.fst]
 |q+1,h=>by
  have hz:=(steps_at g.all.ok hj).2 (yt R j-q-1) qf
  have hi:=it_in g.all.ok hj (q:=yt R j-q-1) fun x hx=>(steps_at g.all.ok hj).2 x qf
  obtain⟨h1,h2,h3,h4⟩:=g.one hs (a:=itF R j<|yt R j-q-1) qf hi.1
  have e:frm R (itF R j<|yt R j-q-1)=itF R j (yt R j-q):=by
   show itF R j (yt R j-q-1+1)=_
   rw[show yt R j-q-1+1=yt R j-q by omega]
  rw[e] at h1 h2 h3 h4
  have hl:(wayL s S R j).length=yt R j:=wayTo_len _
  have hw:(wayL s S R j)[q]! =betw s (S[itF R j<|yt R j-q]!) (S[itF R j<|yt R j-q-1]!):=wayTo_at qf
  rw[GrFull.run g hs hj q qf,choose_go (k:=q) (g:=yt R j-(q+1)) qf qf qf h1 (by rw[hw];exact h3)<|by rw[hw,h4],hw,h4]
  rfl
theorem GrFull.cnt(g:GrFull s t S R)(hs:vz s)(hj:j<S.length):AllCnt s (wayL s S R j) (wayL s S R j).length:=fun q hq=>by
 have hl:(wayL s S R j).length=yt R j:=wayTo_len _
 have hz:=(steps_at g.all.ok hj).2 (yt R j-q-1) qf
 have hi:=it_in g.all.ok hj (q:=yt R j-q-1) fun x hx=>(steps_at g.all.ok hj).2 x qf
 obtain⟨_,h2,_,_⟩:=g.one hs (a:=itF R j<|yt R j-q-1) qf hi.1
 have e:frm R (itF R j<|yt R j-q-1)=itF R j (yt R j-q):=by
  show itF R j (yt R j-q-1+1)=_
  rw[show yt R j-q-1+1=yt R j-q by omega]
 rw[e] at h2
 have hw:(wayL s S R j)[q]! =betw s (S[itF R j<|yt R j-q]!) (S[itF R j<|yt R j-q-1]!):=wayTo_at qf
 rw[hw];exact h2
theorem graph_st(h:(yG s t).2=0)(hj:j<(exG s t).xq.length):stRes s t ((exG s t).xq[j]!)=(wayL s (exG s t).xq (exG s t).fNext j,0):=by
 have g:=ex_full h
 have hv:=VA h
 have hs:xK s ((exG s t).xq[j]!):=g.all.st _<|by rw[getElem!_pos _ j hj];exact List.getElem_mem _
 have hf:=first_of g.nd hj
 rw[st_0 ⟨hv.1,hs⟩ h qf,hf]
 rfl
theorem graph_run(h:(yG s t).2=0)(hj:j<(exG s t).xq.length):XP s t (stRes s t ((exG s t).xq[j]!)).1=((exG s t).xq[j]!,0):=by
 have g:=ex_full h
 have hv:=VA h
 rw[graph_st h hj]
 have hl:(wayL s (exG s t).xq (exG s t).fNext j).length=yt (exG s t).fNext j:=wayTo_len _
 have Ky:=steps_le g.all.ok hj
 have hm:=g.all.le
 show XP s t (wayL s (exG s t).xq (exG s t).fNext j)=_
 rw[ch_0 hv qf<|g.cnt hv.1 hj,hl,g.run hv.1 hj _<|Nat.le_refl _,Nat.sub_self]
 rfl
theorem graph_len(h:(yG s t).2=0)(hj:j<(exG s t).xq.length):(stRes s t ((exG s t).xq[j]!)).1.length=yt (exG s t).fNext j:=by
 rw[graph_st h hj];exact wayTo_len _
end
end Go.Proofs.YtdhklgjmiamiaaaGreat
