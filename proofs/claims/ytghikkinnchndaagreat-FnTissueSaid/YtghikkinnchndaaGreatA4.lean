/- Walks and laws, printed by program and by hand: what each function comes to, for all arguments, part 4. -/
import Derived.Test.YtghikkinnchndaaGreatA3
namespace Go.Proofs.YtghikkinnchndaaGreat
open Go.Proofs.Tryz
set_option linter.unusedVariables false
set_option linter.unusedSimpArgs false
set_option maxRecDepth 100000
set_option maxHeartbeats 4000000
open Go.RowKit
open Go.Proofs.Tryz
open Go.Proofs.YtghikkinnchndaaGreat.Tot (tot)
open Go.Proofs.YtghikkinnchndaaGreat.Mark (dc mrk mkd mkd_mark cnt_mark)
variable{EL Nt Eb W5 Oa Wa Fl C8 jM vV xN zN zZ:yLN}{Ns:List yLN}{W0 w:World}{kz vc fS uN iO rj al iq qM xC xK xm zB:yOA}{alive:List Bool}{c i id j k n:Nat}{l:List qV}{ae:Array Bool}{m:Int}{pF:yLI}{ps:List Prv}{u:qV}{Γ:List Fact}
section
theorem dNext_ok(ag:List UInt8)(ip:Int)(sd:Int)(bs:Nat)(ac:yOA)(cc:Nat)(Fc:yLN)(H:St W0 w ((.box bs [Sv ac ag.length cc,yI ip,.int .u64 sd] 116)::ps) ((sF false Fc ac cc ag)::Γ))(N:Fresh W0.heap.size (Ns))(K0:Kept Ns Γ)(q0:0<=ip/\ip<=100000):Calls Tryz.prog 100 #[pp bs 0] w (fun e w'=>∃v,e=.returned v/\∃(lA:Int) (B5:Int) (v_:Int),(ip<=lA/\lA<=ip+1)/\(0<=v_/\v_<=255)/\v=yI v_/\Fresh W0.heap.size (Ns)/\St W0 w' ((.box bs [Sv ac ag.length cc,yI lA,.int .u64 B5] 116)::ps) ((sF false Fc ac cc ag)::Γ)):=by
 refine en func100 ntmps100 ?_
 have Y2:=qN (H.get 0 J).1
 refine zcr<|sp (yI 0)<|zjc<|sp (yI 0)<|zjn<|xO<|xO<|c_drawK2 J H [0] [0] fun H=>?_
 have S:=H.ve [0] [0]
 refine rtl 0 S ?_
 refine rtl 1 S ?_
 refine tF 2 J J S ?_
 refine tL 3 J J (fun _ h=>h.cell 0 J J) S ?_
 refine rtl 4 S ?_
 refine rtl 5 S ?_
 refine tF 6 J J S ?_
 refine tL 7 J J (fun _ h=>h.cell 0 J J) S ?_
 refine tN 8 J J S ?_
 refine rtl 9 S ?_
 refine xx qh<|t_n<|cD J (fun h2=>?_)<|fun h2=>?_
 ·refine c_drawK2 J H [0] [0] fun H=>?_
  have S:=H.ve [0] [0]
  refine rtl 0 S ?_
  refine rtl 1 S ?_
  refine tF 2 J J S ?_
  refine tL 3 J J (fun _ h=>h.cell 0 J J) S ?_
  refine rtl 4 S ?_
  refine rtl 5 S ?_
  refine tF 6 J J S ?_
  refine tL 7 J J (fun _ h=>h.cell 0 J J) S ?_
  obtain⟨b4,o5,rfl⟩:=H.addr 0 rfl qf
  refine tI 8 J J J (H.pick [0] [0])<|ro 9 J ?_
  have hb7:=byte_lt<|ag[ip.toNat]!
  refine zx (.int .u8 ((ag[ip.toNat]!.toNat:Nat):Int)) isAgg5 rfl (H.elemByte 0 rfl ip ip.toNat qf qf qf)<|⟨H.pick [0] [0],(ro 10 rfl<|o_convI ((ag[ip.toNat]!.toNat:Nat):Int) underlying5 underlying3 rfl qf<|⟨H.pick [0] [0],(rtl 11 (H.pick [0] [0]) ?_)⟩)⟩
  refine xx qh<|t_n<|zcr<|sq 2<|oF J<|oL J (H.cell 0 J J)<|sw<|zY ip 1 J J qf<|sq 1<|oF J<|sw<|zn H 0 [Sv (aa b4 o5) ag.length cc,yI<|ip+1,.int .u64 sd] sizeOf3 fun w8 H=>?_
  dsimp only[List.set] at H
  refine zjc<|sq 3<|oF J<|oL J (H.cell 0 J J)<|sw<|o_mulU sd 6364136223846793005 J J fun r9=>sq 1<|sw<|o_convU ((ag[ip.toNat]!.toNat:Nat):Int) underlying3 underlying114 J fun r10=>sw<|o_addU r9 r10 J J fun r11=>sw<|o_addU r11 1442695040888963407 J J fun r12=>sq 1<|oF J<|sw<|zn H 0 [Sv (aa b4 o5) ag.length cc,yI<|ip+1,.int .u64 r12] sizeOf114 fun D9 H=>?_
  dsimp only[List.set] at H
  refine zjn<|xO<|xO<|c_drawK2 J H [0] [0] fun H=>?_
  have S:=H.ve [0] [0]
  refine rtl 0 S ?_
  refine rtl 1 S ?_
  refine tF 2 J J S ?_
  refine tL 3 J J (fun _ h=>h.cell 0 J J) S ?_
  refine rtl 4 S ?_
  refine rtl 5 S ?_
  refine tF 6 J J S ?_
  refine tL 7 J J (fun _ h=>h.cell 0 J J) S ?_
  refine tN 8 J J S ?_
  refine rtl 9 S ?_
  refine xx qh<|t_n<|cD J (fun oA=>?_)<|fun oA=>?_
  ·refine zcr<|sq 2<|zjr<|t_r<|ret1 (yI ((ag[ip.toNat]!.toNat:Nat):Int)) J J ⟨_,J,(⟨ip+1,r12,((ag[ip.toNat]!.toNat:Nat):Int),qf,qf,J,N,H.xG 1 1 [0] [0] xE xE⟩)⟩
  refine xe<|t_n<|zcr<|sq 2<|oF J<|oL J (H.cell 0 J J)<|sw<|o_shrU r12 40 qj J J fun r16=>sw<|o_andU r16 J J fun r17 aNq=>sw<|o_convI r17 underlying114 underlying2 J qf<|sq 1<|zjr<|ret1 (yI r17) J J ⟨_,J,(⟨ip+1,r12,r17,qf,qf,J,N,H.xG 1 1 [0] [0] xE xE⟩)⟩
 refine xe<|t_n<|zcr<|sq 2<|oF J<|oL J (H.cell 0 J J)<|sw<|zY ip 1 J J qf<|sq 1<|oF J<|sw<|zn H 0 [Sv ac ag.length cc,yI<|ip+1,.int .u64 sd] sizeOf3 fun w18 H=>?_
 dsimp only[List.set] at H
 refine zjc<|sq 3<|oF J<|oL J (H.cell 0 J J)<|sw<|o_mulU sd 6364136223846793005 J J fun r19=>sp (yI 0)<|sw<|o_convU 0 underlying3 underlying114 J fun r20=>sw<|o_addU r19 r20 J J fun r21=>sw<|o_addU r21 1442695040888963407 J J fun r22=>sq 1<|oF J<|sw<|zn H 0 [Sv ac ag.length cc,yI<|ip+1,.int .u64 r22] sizeOf114 fun E8 H=>?_
 dsimp only[List.set] at H
 refine zjn<|xO<|xO<|c_drawK2 J H [0] [0] fun H=>?_
 have S:=H.ve [0] [0]
 refine rtl 0 S ?_
 refine rtl 1 S ?_
 refine tF 2 J J S ?_
 refine tL 3 J J (fun _ h=>h.cell 0 J J) S ?_
 refine rtl 4 S ?_
 refine rtl 5 S ?_
 refine tF 6 J J S ?_
 refine tL 7 J J (fun _ h=>h.cell 0 J J) S ?_
 refine tN 8 J J S ?_
 refine rtl 9 S ?_
 refine xx qh<|t_n<|cD J (fun R4=>?_)<|fun R4=>?_
 ·refine zcr<|sp (yI 0)<|sp (yI 0)<|zjr<|t_r<|ret1 (yI 0) J J ⟨_,J,(⟨ip+1,r22,0,qf,qf,J,N,H.xG 1 1 [0] [0] xE xE⟩)⟩
 refine xe<|t_n<|zcr<|sq 2<|oF J<|oL J (H.cell 0 J J)<|sw<|o_shrU r22 40 qj J J fun r26=>sw<|o_andU r26 J J fun r27 aOm=>sw<|o_convI r27 underlying114 underlying2 J qf<|sq 1<|zjr<|ret1 (yI r27) J J ⟨_,J,(⟨ip+1,r22,r27,qf,qf,J,N,H.xG 1 1 [0] [0] xE xE⟩)⟩
theorem Qb(ag:List UInt8)(ip:Int)(sd:Int)(bs:Nat)(ac:yOA)(cc:Nat)(Fc:yLN)(nn:Int)(H:St W0 w ((.box bs [Sv ac ag.length cc,yI ip,.int .u64 sd] 116)::ps) ((sF false Fc ac cc ag)::Γ))(N:Fresh W0.heap.size (Ns))(K0:Kept Ns Γ)(q0:0<=ip/\ip<=90000):Calls Tryz.prog 59 #[pp bs 0,yI nn] w (fun e w'=>∃v,e=.returned v/\∃(lA:Int) (B5:Int) (v_:Int),(ip<=lA/\lA<=ip+2)/\(0<=v_/\(v_<nn\/v_=0))/\v=yI v_/\Fresh W0.heap.size (Ns)/\St W0 w' ((.box bs [Sv ac ag.length cc,yI lA,.int .u64 B5] 116)::ps) ((sF false Fc ac cc ag)::Γ)):=by
 refine en func59 ntmps59 ?_
 have Y2:=qN (H.get 0 J).1
 refine zcr<|sp (yI 0)<|zjcc<|sp (yI nn)<|sp (Bv<|decide ((nn:Int)<=1))<|zjn<|cD J (fun h1=>?_)<|fun h1=>?_
 ·refine zcr<|sp (yI 0)<|zjr<|t_r<|ret1 (yI 0) J J ⟨_,J,(⟨ip,sd,0,qf,(by omega),J,N,H.xG 1 1 [0] [0] xE xE⟩)⟩
 refine xe<|t_n<|zcr<|sq 1 ?_
 have H1:=H.yD 1 1 [0] [0] xE xE
 have N1:Fresh _ (Ns):=N
 have K1:Kept (Ns) (Γ):=K0.behind 0 J
 refine sw<|zT #[pp bs 0] J J call100 (dNext_ok ag ip sd bs ac cc Fc H1 N1 K1 qg) ?_
 clear H H1 N1 K1
 rintro _ w2 ⟨zi6,K8,Hz,hx4,hx5,rfl,N,H⟩
 refine sq 1<|zjcc<|sp (yI nn)<|sp (Bv<|decide ((nn:Int)>200))<|zjn<|cD J (fun h9=>?_)<|fun h9=>?_
 ·refine zf (sq 1<|sw<|o_mul Hz 256 J J qf<|sq 1 ?_)
  have H1:=H.yD 1 1 [0] [0] xE xE
  have N1:Fresh _ (Ns):=N
  have K1:Kept (Ns) (Γ):=K0.behind 0 J
  refine sw<|zT #[pp bs 0] J J call100 (dNext_ok ag zi6 K8 bs ac cc Fc H1 N1 K1 qg) ?_
  clear H H1 N1 K1
  rintro _ sr ⟨avY,Ac,f6,ayT,DC,rfl,N,H⟩
  refine sw<|zY (Hz*256) f6 J J qf<|sq 1<|zjc<|sq 1<|sp (yI nn)<|sw<|o_rem ((Hz*256)+f6) nn J J qf qf qf<|sq 1<|zjr<|ret1 (yI (((Hz*256)+f6) % nn)) J J ⟨_,J,?_⟩
  have hm:=fun(x:Int)=>Int.emod_nonneg x<|show nn≠0 by omega
  have hm2:=fun(x:Int)=>Int.emod_lt_of_pos x<|show 0<nn by omega
  exact⟨avY,Ac,((Hz*256)+f6) % nn,qf,(by exact⟨hm _,.inl<|hm2 _⟩),J,N,H.xG 1 1 [0] [0] xE xE⟩
 refine xe<|t_n<|zcr<|sq 1<|sp (yI nn)<|sw<|o_rem Hz nn J J qf qf qf<|sq 1<|zjr<|ret1 (yI<|Hz % nn) J J ⟨_,J,?_⟩
 have hm:=fun(x:Int)=>Int.emod_nonneg x<|show nn≠0 by omega
 have hm2:=fun(x:Int)=>Int.emod_lt_of_pos x<|show 0<nn by omega
 exact⟨zi6,K8,Hz % nn,qf,(by exact⟨hm _,.inl<|hm2 _⟩),J,N,H.xG 1 1 [0] [0] xE xE⟩
theorem dOne_ok(ag:List UInt8)(ip:Int)(sd:Int)(bs:Nat)(ac:yOA)(cc:Nat)(Fc:yLN)(nn:Int)(H:St W0 w ((.box bs [Sv ac ag.length cc,yI ip,.int .u64 sd] 116)::ps) ((sF false Fc ac cc ag)::Γ))(N:Fresh W0.heap.size (Ns))(K0:Kept Ns Γ)(q0:0<=ip/\ip<=90000):Calls Tryz.prog 58 #[pp bs 0,yI nn] w (fun e w'=>∃v,e=.returned v/\∃(lA:Int) (B5:Int) (v_:Bool),(ip<=lA/\lA<=ip+2)/\v=Bv v_/\Fresh W0.heap.size (Ns)/\St W0 w' ((.box bs [Sv ac ag.length cc,yI lA,.int .u64 B5] 116)::ps) ((sF false Fc ac cc ag)::Γ)):=by
 refine en func58 ntmps58 ?_
 refine zcr<|sp (Bv false)<|zjc<|sq 1<|sp (yI nn) ?_
 have H1:=H.yD 1 1 [0] [0] xE xE
 have N1:Fresh _ (Ns):=N
 have K1:Kept (Ns) (Γ):=K0.behind 0 J
 refine sw<|zT #[pp bs 0,yI nn] J J call59 (Qb ag ip sd bs ac cc Fc nn H1 N1 K1 qg) ?_
 clear H H1 N1 K1
 rintro _ w1 ⟨RL,zi6,K8,Aa,hx4,rfl,N,H⟩
 refine sp (Bv ((K8:Int) == 0))<|sp (Bv ((K8:Int) == 0))<|zjr<|ret1 (Bv ((K8:Int) == 0)) J J ⟨_,J,(⟨RL,zi6,(K8:Int) == 0,qf,J,N,H.xG 1 1 [0] [0] xE xE⟩)⟩
theorem dFew_ok(ag:List UInt8)(ip:Int)(sd:Int)(bs:Nat)(ac:yOA)(cc:Nat)(Fc:yLN)(kk:Int)(eM:Int)(H:St W0 w ((.box bs [Sv ac ag.length cc,yI ip,.int .u64 sd] 116)::ps) ((sF false Fc ac cc ag)::Γ))(N:Fresh W0.heap.size (Ns))(K0:Kept Ns Γ)(q0:0<=ip/\ip<=80000)(q1:1<=kk/\kk<=8)(q2:1<=eM/\eM<=6):Calls Tryz.prog 61 #[pp bs 0,yI kk,yI eM] w (fun e w'=>∃v,e=.returned v/\∃(lA:Int) (B5:Int) (nx:yLI) (Nb:yOA) (O3:Nat) (Rl:Nat),(ip<=lA/\lA<=ip+20)/\(jD kk eM nx)/\v=Sv Nb O3 Rl/\Fresh W0.heap.size (Ns)/\St W0 w' ((.box bs [Sv ac ag.length cc,yI lA,.int .u64 B5] 116)::(rr Nb O3 Rl 2 1<|nx.map<|Value.int .i64)::ps) ((sF false Fc ac cc ag)::Γ)):=by
 refine en func61 ntmps61 ?_
 refine zcr<|sq 1<|zjc<|sp (yI kk)<|sw<|jQ H underlying24 ti2 kk.toNat J J qf qf qf fun b1 w2 H=>sq 1<|zjcc<|sq 2<|sw<|zY eM 1 J J qf ?_
 have H1:=H.yD 2 1 [1,0] [0] xE xE
 have N1:Fresh _ (Ns):=N
 have K1:Kept (Ns) (Γ):=K0.behind 0 J
 refine sw<|zT #[pp bs 0,yI<|eM+1] J J call59 (Qb ag ip sd bs ac cc Fc (eM+1) H1 N1 K1 qg) ?_
 clear H H1 N1 K1
 rintro _ w3 ⟨K8,Hz,eO,hx5,hx6,rfl,N,H⟩
 refine sq 1<|zjn<|xg<|vk ((fun Z0=>fun m' ρ sr=>∃(xR:Env) (k:Int) (dV:Int) (cW:Int) (out:yLI),ρ=upd (upd (upd (upd xR 0<|pp bs 0) 1<|yI kk) 7<|Sv (aa b1 0) kk.toNat kk.toNat) 8 (yI k)/\(0<=k/\k<=eM)/\(ip<=dV/\dV+2*k<=ip+20)/\(jD kk (eM-k) out)/\m'=k.toNat/\Fresh W0.heap.size (Ns)/\St W0 sr ((.box bs [Sv ac ag.length cc,yI dV,.int .u64 cW] 116)::(rr (aa b1 0) kk.toNat kk.toNat 2 1<|out.map<|Value.int .i64)::ps) (Z0::Γ)) _) (eO.toNat) ⟨_,eO,K8,Hz,(List.replicate kk.toNat (0:Int)),uE4,qf,qf,(by exact jD.zero qf qf),J,N,H⟩ ?_
 clear H N
 rintro m' ρ z7 ⟨xR,k,dV,cW,out,rfl,i1,i2,i3,rfl,N,H⟩
 have VS:=H.yt 1 J
 have i4:=i3.len qf
 refine zcc<|sp (yI k)<|sp (Bv<|decide ((k:Int)>0))<|zjn<|cD J (fun iz=>?_)<|fun iz=>?_
 ·refine xe (t_n<|xO<|xg<|zf<|sq 2<|sp (yI kk) ?_)
  have H1:=H.yD 2 1 [0,1] [0] xE xE
  have N1:Fresh _ (Ns):=N
  have K1:Kept (Ns) (Γ):=K0.behind 0 J
  refine sw<|zT #[pp bs 0,yI kk] J J call59 (Qb ag dV cW bs ac cc Fc kk H1 N1 K1 qg) ?_
  clear H H1 N1 K1
  rintro _ D9 ⟨nl,Co,Ej,aef,aMI,rfl,N,H⟩
  have i5:=i3.2 Ej.toNat qf
  refine oI J J<|oL J (H.Vx 1 J (iv:=Ej) (i:=Ej.toNat) qf qf)<|sw<|zY out[Ej.toNat]! 1 J J qf<|oI J J<|sw<|o_storeInt H 1 J (out[Ej.toNat]!+1) sizeOf2 J J (i:=Ej.toNat) qf qf fun Pa H=>?_
  dsimp only[List.set] at H
  refine xX<|b_n<|t_n<|zf<|sp (yI k)<|sw<|o_sub k 1 J J qf<|sq 1<|xX<|xu (m':=(k-1).toNat) qf ⟨_,_,_,_,_,uE4,?_,?_,?_,J,N,H⟩
  ·omega
  ·omega
  ·exact i3.up qf qf
 refine zx4<|zcr<|sq 2<|zjr<|ret1 (Sv (aa b1 0) kk.toNat kk.toNat) J J ⟨_,J,(⟨dV,cW,out,(aa b1 0),kk.toNat,kk.toNat,qf,(by rw[show eM=eM-k by omega];exact i3),J,N,H.xG 2 1 [0,1] [0] xE xE⟩)⟩
theorem XB(ag:List UInt8)(ip:Int)(sd:Int)(bs:Nat)(ac:yOA)(cc:Nat)(Fc:yLN)(kk:Int)(eM:Int)(H:St W0 w ((.box bs [Sv ac ag.length cc,yI ip,.int .u64 sd] 116)::ps) ((sF false Fc ac cc ag)::Γ))(N:Fresh W0.heap.size (Ns))(K0:Kept Ns Γ)(q0:0<=ip/\ip<=70000)(q1:1<=kk/\kk<=8)(q2:1<=eM/\eM<=6):Calls Tryz.prog 146 #[pp bs 0,yI kk,yI eM] w (fun e w'=>∃v,e=.returned v/\∃(lA:Int) (B5:Int) (nx:yLI) (Nb:yOA) (O3:Nat) (Rl:Nat),(ip<=lA/\lA<=ip+24)/\(jD kk eM nx/\Yk nx≠0)/\v=Sv Nb O3 Rl/\Fresh W0.heap.size (Ns)/\St W0 w' ((.box bs [Sv ac ag.length cc,yI lA,.int .u64 B5] 116)::(rr Nb O3 Rl 2 1<|nx.map<|Value.int .i64)::ps) ((sF false Fc ac cc ag)::Γ)):=by
 refine en func146 ntmps146 ?_
 have Y2:=qN (H.get 0 J).1
 refine zcr<|sq 1<|zjc<|sq 1<|sp (yI kk)<|sq 1 ?_
 have H1:=H.yD 1 1 [0] [0] xE xE
 have N1:Fresh _ (Ns):=N
 have K1:Kept (Ns) (Γ):=K0.behind 0 J
 refine sw<|zT #[pp bs 0,yI kk,yI eM] J J call61 (dFew_ok ag ip sd bs ac cc Fc kk eM H1 N1 K1 qg qg qg) ?_
 clear H H1 N1 K1
 rintro _ w1 ⟨RL,zi6,TE,l8,rn9,iQ,Aa,hx4,rfl,N,H⟩
 obtain rfl:=H.yt 1 rfl
 have j1:=(‹jD kk eM _›:jD kk eM TE)
 have j2:=j1.small q1 qf
 have j3:=j1.len qf
 refine sq 1<|zjcc<|sq 1 ?_
 obtain⟨G11,aOS,B2⟩:=H.Xv 1 rfl
 refine sw<|oq (l01Size_ok _ TE B2<|by assumption) H fun TC H=>sp (Bv ((Yk TE:Int) == 0))<|zjn<|cE J (fun EB=>?_)<|fun EB=>?_
 ·refine zf (sq 2<|sp (yI kk) ?_)
  have H1:=H.yD 2 1 [0,1] [0] xE xE
  have N1:Fresh _ (Ns):=N
  have K1:Kept (Ns) (Γ):=K0.behind 0 J
  refine sw<|zT #[pp bs 0,yI kk] J J call59 (Qb ag RL zi6 bs ac cc Fc kk H1 N1 K1 qg) ?_
  clear H H1 N1 K1
  rintro _ Us ⟨GF,S5,Gu,acZ,anR,rfl,N,H⟩
  obtain⟨Gd,rfl⟩:=H.jm 1 rfl qf
  refine oI J J<|sw<|o_storeInt H 1 J 1 sizeOf2 J J (i:=Gu.toNat) qf qf fun E4 H=>?_
  dsimp only[List.set] at H
  refine zjc<|sq 2<|zjr<|ret1 (Sv (aa Gd 0) TE.length iQ) J J ⟨_,J,(⟨GF,S5,(TE.set Gu.toNat 1),(aa Gd 0),TE.length,iQ,qf,(by exact⟨j1.put qf,j1.one q1 qf ‹_› qf⟩),J,N,H.xG 2 1 [0,1] [0] xE xE⟩)⟩
 refine xe<|t_n<|zcr<|sq 2<|zjr<|ret1 (Sv l8 TE.length iQ) J J ⟨_,J,(⟨RL,zi6,TE,l8,TE.length,iQ,qf,(by exact⟨j1,by assumption⟩),J,N,H.xG 2 1 [0,1] [0] xE xE⟩)⟩
theorem dRule_ok(ag:List UInt8)(ip:Int)(sd:Int)(bs:Nat)(ac:yOA)(cc:Nat)(Fc:yLN)(kk:Int)(par:yLI)(rules:List yz)(bY:Nat)(kL:yOA)(rnp:Nat)(kM:Nat)(kJ:yOA)(rnR:Nat)(kK:Nat)(dS:List Value)(bL:yLN)(H:St W0 w ((.box bs [Sv ac ag.length cc,yI ip,.int .u64 sd] 116)::(.box bY [yI kk,Sv kL rnp kM,Sv kJ rnR kK] 27)::(rr kL rnp kM 2 1<|par.map<|Value.int .i64)::(rr kJ rnR kK 110 9 dS)::ps) ((sF false Fc ac cc ag)::(qX true bL dS rules)::Γ))(N:Fresh W0.heap.size (bL::Ns))(K0:Kept Ns Γ)(q0:0<=ip/\ip<=60000)(f0:yf (⟨kk,par,rules⟩:qJ)):Calls Tryz.prog 99 #[pp bs 0,pp bY 0] w (fun e w'=>∃v,e=.returned v/\∃(lA:Int) (B5:Int) (YJ:Int) (WV:Int) (Yt:yLI) (Wc:yLI) (UO:yLI) (aaq:yLI) (nx:yLI) (UN:List IntoD) (OU:Bool) (raN:yOA) (rnN:Nat) (rcN:Nat) (raH:yOA) (rnH:Nat) (rcH:Nat) (raL:yOA) (rnL:Nat) (rcL:Nat) (raE:yOA) (rnE:Nat) (rcE:Nat) (raO:yOA) (rnO:Nat) (rcO:Nat) (raI:yOA) (rnI:Nat) (rcI:Nat) (rxI:List Value) (rFI:yLN),(ip<=lA/\lA<=ip+300)/\(RuleDr kk par ⟨YJ,WV,Yt,Wc,UO,aaq,nx,UN,OU⟩)/\v=.agg #[yI YJ,yI WV,Sv raN rnN rcN,Sv raH rnH rcH,Sv raL rnL rcL,Sv raE rnE rcE,Sv raO rnO rcO,Sv raI rnI rcI,Bv OU]/\Fresh W0.heap.size (bL::rFI::Ns)/\St W0 w' ((.box bs [Sv ac ag.length cc,yI lA,.int .u64 B5] 116)::(.box bY [yI kk,Sv kL rnp kM,Sv kJ rnR kK] 27)::(rr kL rnp kM 2 1<|par.map<|Value.int .i64)::(rr kJ rnR kK 110 9 dS)::(rr raN rnN rcN 2 1<|Yt.map<|Value.int .i64)::(rr raH rnH rcH 2 1<|Wc.map<|Value.int .i64)::(rr raL rnL rcL 2 1<|UO.map<|Value.int .i64)::(rr raE rnE rcE 2 1<|aaq.map<|Value.int .i64)::(rr raO rnO rcO 2 1<|nx.map<|Value.int .i64)::(rr raI rnI rcI 161 2 rxI)::ps) ((sF false Fc ac cc ag)::(qX true bL dS rules)::(qX true rFI rxI UN)::Γ)):=by
 refine en func99 ntmps99 ?_
 obtain rfl:=H.yt 2 rfl
 obtain rfl:=H.xf (α:=yz) 3 rfl 1 rfl qj
 have f1:1<=kk/\kk<=8:=f0.1
 have f2:1<=par.length/\par.length<=6:=f0.2.1
 refine zcr<|sw<|x8 H ti110 [yI 0,yI 0,yN,yN,yN,yN,yN,yN,Bv false] fun b1 w2 H=>zjc<|sq 2<|oF J<|oL J (H.cell 2 J J)<|oN J<|sq 1<|zjn<|xO<|c_cut (fun ρ D9=>∃(xR:Env) (zi3:Int) (nJ:Int) (RL:Int) (lW:yLI) (b7:Nat) (l8:yOA) (lV:Nat) (z8:Nat) (ue:Nat) (R8:Int),ρ=upd (upd (upd (upd (upd xR 0<|pp bs 0) 1<|pp bY 0) 4<|pp b1 0) 5<|yI par.length) 6 (pp b7 0)/\(ip<=zi3/\zi3<=ip+2)/\(0<=nJ/\(nJ<par.length\/nJ=0))/\(zi3<=RL/\RL<=zi3+24)/\(jD kk (2:Int) lW/\Yk lW≠0)/\Fresh W0.heap.size (bL::Ns)/\St W0 D9 ((.box b7 [yI nJ,yI 0,Sv l8 lW.length lV,Sv (aa z8 0) kk.toNat kk.toNat,Sv (aa ue 0) kk.toNat kk.toNat,yN,yN,yN,Bv false] 110)::(rr (aa ue 0) kk.toNat kk.toNat 2 1 ((List.replicate kk.toNat (0:Int)).map<|Value.int .i64))::(rr (aa z8 0) kk.toNat kk.toNat 2 1 ((List.replicate kk.toNat (0:Int)).map<|Value.int .i64))::(.box bs [Sv ac ag.length cc,yI RL,.int .u64 R8] 116)::(rr l8 lW.length lV 2 1<|lW.map<|Value.int .i64)::(.box b1 [yI 0,yI 0,yN,yN,yN,yN,yN,yN,Bv false] 110)::(.box bY [yI kk,Sv kL par.length kM,Sv kJ rules.length kK] 27)::(rr kL par.length kM 2 1<|par.map<|Value.int .i64)::(rr kJ rules.length kK 110 9 dS)::ps) ((sF false Fc ac cc ag)::(qX true bL dS rules)::Γ)) ?_ ?_
 ·refine c_drawK2 J H [0,2,3,4] [0,1] fun H=>?_
  refine Q3 (fun ρ E4=>∃(xR:Env) (Ac:Int) (f6:Int) (nl:Int) (l9:yLI) (wu:yOA) (kW:Nat) (t7:Nat) (zz:Nat) (Gu:Int),ρ=upd (upd (upd (upd (upd (upd (upd (upd xR 0<|pp bs 0) 1<|pp bY 0) 4<|pp b1 0) 5<|yI par.length) 15<|yI f6) 21<|Sv wu l9.length kW) 26<|Sv (aa t7 0) kk.toNat kk.toNat) 31 (Sv (aa zz 0) kk.toNat kk.toNat)/\(ip<=Ac/\Ac<=ip+2)/\(0<=f6/\(f6<par.length\/f6=0))/\(Ac<=nl/\nl<=Ac+24)/\(jD kk (2:Int) l9/\Yk l9≠0)/\Fresh W0.heap.size (bL::Ns)/\St W0 E4 ((rr (aa zz 0) kk.toNat kk.toNat 2 1 ((List.replicate kk.toNat (0:Int)).map<|Value.int .i64))::(rr (aa t7 0) kk.toNat kk.toNat 2 1 ((List.replicate kk.toNat (0:Int)).map<|Value.int .i64))::(.box bs [Sv ac ag.length cc,yI nl,.int .u64 Gu] 116)::(rr wu l9.length kW 2 1<|l9.map<|Value.int .i64)::(.box b1 [yI 0,yI 0,yN,yN,yN,yN,yN,yN,Bv false] 110)::(.box bY [yI kk,Sv kL par.length kM,Sv kJ rules.length kK] 27)::(rr kL par.length kM 2 1<|par.map<|Value.int .i64)::(rr kJ rules.length kK 110 9 dS)::ps) ((sF false Fc ac cc ag)::(qX true bL dS rules)::Γ)) 3 #[true,true,true,true,true,true,true,true,true,true,true,true,true,true,true,true,true,true,true,false,false,false] ?_ fun L24=>?_
  ·rintro ρ E3 ⟨xR,Ac,f6,nl,l9,wu,kW,t7,zz,Gu,rfl,ara,On,Da,GI,N,H⟩
   refine jw [19,20] qh qm<|yl J ?_<|yl J ?_ jy
   ·refine vZ [yI f6,yI 0,Sv wu l9.length kW,Sv (aa t7 0) kk.toNat kk.toNat,Sv (aa zz 0) kk.toNat kk.toNat,yN,yN,yN,Bv false] [(0,yI f6),(2,Sv wu l9.length kW),(3,Sv (aa t7 0) kk.toNat kk.toNat),(4,Sv (aa zz 0) kk.toNat kk.toNat)] (⟨H.pick (zR 4 4) [0,1],(ro 20 J<|x8 H ti110 [yI 0,yI 0,yN,yN,yN,yN,yN,yN,Bv false] fun b31 Sw H=>⟨H.pick (zR 5 4) [0,1],(ro 21 J ?_)⟩)⟩)
    refine xZ H 0 [yI f6,yI 0,Sv wu l9.length kW,Sv (aa t7 0) kk.toNat kk.toNat,Sv (aa zz 0) kk.toNat kk.toNat,yN,yN,yN,Bv false] sizeOf110 fun w33 H=>?_
    dsimp only[List.set] at H
    refine⟨H.pick (zR 5 4) [0,1],(xx qh ((meet ⟨_,Ac,f6,nl,l9,b31,wu,kW,t7,zz,Gu,uE5,ara,On,Da,GI,N,H⟩)))⟩
   refine x8 H ti110 [yI 0,yI 0,yN,yN,yN,yN,yN,yN,Bv false] fun b34 KW H=>⟨H.pick (zR 5 4) [0,1],(ro 19 rfl<|vZ [yI f6,yI 0,Sv wu l9.length kW,Sv (aa t7 0) kk.toNat kk.toNat,Sv (aa zz 0) kk.toNat kk.toNat,yN,yN,yN,Bv false] [(0,yI f6),(2,Sv wu l9.length kW),(3,Sv (aa t7 0) kk.toNat kk.toNat),(4,Sv (aa zz 0) kk.toNat kk.toNat)]<|⟨H.pick (zR 5 4) [0,1],(ro 21 rfl ?_)⟩)⟩
   refine xZ H 0 [yI f6,yI 0,Sv wu l9.length kW,Sv (aa t7 0) kk.toNat kk.toNat,Sv (aa zz 0) kk.toNat kk.toNat,yN,yN,yN,Bv false] sizeOf110 fun JP H=>?_
   dsimp only[List.set] at H
   refine⟨H.pick (zR 5 4) [0,1],(xx qh ((meet ⟨_,Ac,f6,nl,l9,b34,wu,kW,t7,zz,Gu,uE5,ara,On,Da,GI,N,H⟩)))⟩
  refine Q3 (fun ρ O7=>∃(xR:Env) (Af:Int) (pK:Int) (Ln:Int) (wY:yLI) (Em:yOA) (vD:Nat) (TB:Nat) (TT:Int),ρ=upd (upd (upd (upd (upd (upd (upd (upd xR 0<|pp bs 0) 1<|pp bY 0) 4<|pp b1 0) 5<|yI par.length) 15<|yI pK) 21<|Sv Em wY.length vD) 26<|Sv (aa TB 0) kk.toNat kk.toNat) 30 (yI kk)/\(ip<=Af/\Af<=ip+2)/\(0<=pK/\(pK<par.length\/pK=0))/\(Af<=Ln/\Ln<=Af+24)/\(jD kk (2:Int) wY/\Yk wY≠0)/\Fresh W0.heap.size (bL::Ns)/\St W0 O7 ((rr (aa TB 0) kk.toNat kk.toNat 2 1 ((List.replicate kk.toNat (0:Int)).map<|Value.int .i64))::(.box bs [Sv ac ag.length cc,yI Ln,.int .u64 TT] 116)::(rr Em wY.length vD 2 1<|wY.map<|Value.int .i64)::(.box b1 [yI 0,yI 0,yN,yN,yN,yN,yN,yN,Bv false] 110)::(.box bY [yI kk,Sv kL par.length kM,Sv kJ rules.length kK] 27)::(rr kL par.length kM 2 1<|par.map<|Value.int .i64)::(rr kJ rules.length kK 110 9 dS)::ps) ((sF false Fc ac cc ag)::(qX true bL dS rules)::Γ)) 4 #[true,true,true,true,true,true,true,true,true,true,true,true,true,true,true,true,true,true,false,false,false,false] ?_ fun L45=>?_
  ·rintro ρ w47 ⟨xR,Af,pK,Ln,wY,Em,vD,TB,TT,rfl,Ct,T0,aok,asE,N,H⟩
   refine jw [18,20] qh qm<|yl J ?_<|yl J ?_ jy
   ·refine jQ H underlying24 ti2 kk.toNat J J qf qf qf fun Rq w53 H=>⟨H.pick (zR 4 4) [0,1],(yG L24 ⟨_,Af,pK,Ln,wY,Em,vD,TB,Rq,TT,uE8,Ct,T0,aok,asE,N,H⟩)⟩
   refine x8 H ti110 [yI 0,yI 0,yN,yN,yN,yN,yN,yN,Bv false] fun WC w55 H=>⟨H.pick (zR 4 4) [0,1],(ro 18 J<|jQ H underlying24 ti2 kk.toNat J J qf qf qf fun b56 w57 H=>⟨H.pick (zR 5 4) [0,1],(ro 19 J ?_)⟩)⟩
   refine vZ [yI pK,yI 0,Sv Em wY.length vD,Sv (aa TB 0) kk.toNat kk.toNat,Sv (aa b56 0) kk.toNat kk.toNat,yN,yN,yN,Bv false] [(0,yI pK),(2,Sv Em wY.length vD),(3,Sv (aa TB 0) kk.toNat kk.toNat),(4,Sv (aa b56 0) kk.toNat kk.toNat)]<|⟨H.pick (zR 5 4) [0,1],(ro 21 rfl ?_)⟩
   refine xZ H 1 [yI pK,yI 0,Sv Em wY.length vD,Sv (aa TB 0) kk.toNat kk.toNat,Sv (aa b56 0) kk.toNat kk.toNat,yN,yN,yN,Bv false] sizeOf110 fun w58 H=>?_
   dsimp only[List.set] at H
   refine⟨H.pick (zR 5 4) [0,1],(xx qh ((meet ⟨_,Af,pK,Ln,wY,WC,Em,vD,TB,b56,TT,uE5,Ct,T0,aok,asE,N,H.xG 9 2 (1::0::zR 2 7) [0,1] xE xE⟩)))⟩
  refine Q3 (fun ρ w68=>∃(xR:Env) (Cw:Int) (tS:Int) (DV:Int) (wZ:yLI) (B6:yOA) (D5:Nat) (NC:Nat) (TA:Int),ρ=upd (upd (upd (upd (upd (upd (upd (upd xR 0<|pp bs 0) 1<|pp bY 0) 4<|pp b1 0) 5<|yI par.length) 15<|yI tS) 21<|Sv B6 wZ.length D5) 25<|yI kk) 31 (Sv (aa NC 0) kk.toNat kk.toNat)/\(ip<=Cw/\Cw<=ip+2)/\(0<=tS/\(tS<par.length\/tS=0))/\(Cw<=DV/\DV<=Cw+24)/\(jD kk (2:Int) wZ/\Yk wZ≠0)/\Fresh W0.heap.size (bL::Ns)/\St W0 w68 ((rr (aa NC 0) kk.toNat kk.toNat 2 1 ((List.replicate kk.toNat (0:Int)).map<|Value.int .i64))::(.box bs [Sv ac ag.length cc,yI DV,.int .u64 TA] 116)::(rr B6 wZ.length D5 2 1<|wZ.map<|Value.int .i64)::(.box b1 [yI 0,yI 0,yN,yN,yN,yN,yN,yN,Bv false] 110)::(.box bY [yI kk,Sv kL par.length kM,Sv kJ rules.length kK] 27)::(rr kL par.length kM 2 1<|par.map<|Value.int .i64)::(rr kJ rules.length kK 110 9 dS)::ps) ((sF false Fc ac cc ag)::(qX true bL dS rules)::Γ)) 4 #[true,true,true,true,true,true,true,true,true,true,true,true,true,false,true,true,true,true,true,false,false,false] ?_ fun L67=>?_
  ·rintro ρ w69 ⟨xR,Cw,tS,DV,wZ,B6,D5,NC,TA,rfl,akf,aox,alc,amF,N,H⟩
   refine jw [13,20] qh qm<|yl J ?_<|yl J ?_ jy
   ·refine jQ H underlying24 ti2 kk.toNat J J qf qf qf fun b74 w75 H=>⟨H.pick (zR 4 4) [0,1],(yG L24 ⟨_,Cw,tS,DV,wZ,B6,D5,b74,NC,TA,uE8,akf,aox,alc,amF,N,H.xG 8 2 (1::0::zR 2 6) [0,1] xE xE⟩)⟩
   refine x8 H ti110 [yI 0,yI 0,yN,yN,yN,yN,yN,yN,Bv false] fun b76 w77 H=>⟨H.pick (zR 4 4) [0,1],(ro 13 J<|jQ H underlying24 ti2 kk.toNat J J qf qf qf fun RG w79 H=>⟨H.pick (zR 5 4) [0,1],(ro 19 J ?_)⟩)⟩
   refine vZ [yI tS,yI 0,Sv B6 wZ.length D5,Sv (aa RG 0) kk.toNat kk.toNat,Sv (aa NC 0) kk.toNat kk.toNat,yN,yN,yN,Bv false] [(0,yI tS),(2,Sv B6 wZ.length D5),(3,Sv (aa RG 0) kk.toNat kk.toNat),(4,Sv (aa NC 0) kk.toNat kk.toNat)]<|⟨H.pick (zR 5 4) [0,1],(ro 21 rfl ?_)⟩
   refine xZ H 1 [yI tS,yI 0,Sv B6 wZ.length D5,Sv (aa RG 0) kk.toNat kk.toNat,Sv (aa NC 0) kk.toNat kk.toNat,yN,yN,yN,Bv false] sizeOf110 fun TO H=>?_
   dsimp only[List.set] at H
   refine⟨H.pick (zR 5 4) [0,1],(xx qh ((meet ⟨_,Cw,tS,DV,wZ,b76,B6,D5,RG,NC,TA,uE5,akf,aox,alc,amF,N,H.xG 9 2 (1::2::0::zR 3 6) [0,1] xE xE⟩)))⟩
  refine Q3 (fun ρ ZH=>∃(xR:Env) (F7:Int) (rL:Int) (Kg:Int) (pT:yLI) (r4:yOA) (vB:Nat) (b87:Nat) (Fq:Int),ρ=upd (upd (upd (upd (upd (upd (upd (upd (upd xR 0<|pp bs 0) 1<|pp bY 0) 4<|pp b1 0) 5<|yI par.length) 6<|pp b87 0) 15<|yI rL) 21<|Sv r4 pT.length vB) 25<|yI kk) 30 (yI kk)/\(ip<=F7/\F7<=ip+2)/\(0<=rL/\(rL<par.length\/rL=0))/\(F7<=Kg/\Kg<=F7+24)/\(jD kk (2:Int) pT/\Yk pT≠0)/\Fresh W0.heap.size (bL::Ns)/\St W0 ZH ((.box b87 [yI 0,yI 0,yN,yN,yN,yN,yN,yN,Bv false] 110)::(.box bs [Sv ac ag.length cc,yI Kg,.int .u64 Fq] 116)::(rr r4 pT.length vB 2 1<|pT.map<|Value.int .i64)::(.box b1 [yI 0,yI 0,yN,yN,yN,yN,yN,yN,Bv false] 110)::(.box bY [yI kk,Sv kL par.length kM,Sv kJ rules.length kK] 27)::(rr kL par.length kM 2 1<|par.map<|Value.int .i64)::(rr kJ rules.length kK 110 9 dS)::ps) ((sF false Fc ac cc ag)::(qX true bL dS rules)::Γ)) 4 #[true,true,true,true,true,true,true,true,true,true,true,true,true,false,true,true,true,true,false,false,true,false] ?_ fun L89=>?_
  ·rintro ρ w91 ⟨xR,F7,rL,Kg,pT,r4,vB,b87,Fq,rfl,ag1,Jt,FSz,ahK,N,H⟩
   refine jw [13,18] qh qm<|yl J ?_<|yl J ?_ jy
   ·refine jQ H underlying24 ti2 kk.toNat J J qf qf qf fun b96 w97 H=>⟨H.pick (zR 4 4) [0,1],(ro 18 J<|jQ H underlying24 ti2 kk.toNat J J qf qf qf fun zd w99 H=>⟨H.pick (zR 5 4) [0,1],(ro 19 J<|vZ [yI rL,yI 0,Sv r4 pT.length vB,Sv (aa b96 0) kk.toNat kk.toNat,Sv (aa zd 0) kk.toNat kk.toNat,yN,yN,yN,Bv false] [(0,yI rL),(2,Sv r4 pT.length vB),(3,Sv (aa b96 0) kk.toNat kk.toNat),(4,Sv (aa zd 0) kk.toNat kk.toNat)] ?_)⟩)⟩
    refine⟨H.pick (zR 5 4) [0,1],(ro 21 J<|xZ H 2 [yI rL,yI 0,Sv r4 pT.length vB,Sv (aa b96 0) kk.toNat kk.toNat,Sv (aa zd 0) kk.toNat kk.toNat,yN,yN,yN,Bv false] sizeOf110 fun aqu H=>?_)⟩
    dsimp only[List.set] at H
    refine⟨H.pick (zR 5 4) [0,1],(xx qh ((meet ⟨_,F7,rL,Kg,pT,b87,r4,vB,b96,zd,Fq,uE5,ag1,Jt,FSz,ahK,N,H.xG 9 2 (2::0::1::zR 3 6) [0,1] xE xE⟩)))⟩
   refine jQ H underlying24 ti2 kk.toNat J J qf qf qf fun Mq Tg H=>⟨H.pick (zR 4 4) [0,1],(ro 13 J<|jQ H underlying24 ti2 kk.toNat J J qf qf qf fun Mm Rd H=>⟨H.pick (zR 5 4) [0,1],(ro 19 J<|vZ [yI rL,yI 0,Sv r4 pT.length vB,Sv (aa Mm 0) kk.toNat kk.toNat,Sv (aa Mq 0) kk.toNat kk.toNat,yN,yN,yN,Bv false] [(0,yI rL),(2,Sv r4 pT.length vB),(3,Sv (aa Mm 0) kk.toNat kk.toNat),(4,Sv (aa Mq 0) kk.toNat kk.toNat)] ?_)⟩)⟩
   refine⟨H.pick (zR 5 4) [0,1],(ro 21 J<|xZ H 2 [yI rL,yI 0,Sv r4 pT.length vB,Sv (aa Mm 0) kk.toNat kk.toNat,Sv (aa Mq 0) kk.toNat kk.toNat,yN,yN,yN,Bv false] sizeOf110 fun Tk H=>?_)⟩
   dsimp only[List.set] at H
   refine⟨H.pick (zR 5 4) [0,1],(xx qh ((meet ⟨_,F7,rL,Kg,pT,b87,r4,vB,Mm,Mq,Fq,uE5,ag1,Jt,FSz,ahK,N,H.xG 9 2 (2::1::0::zR 3 6) [0,1] xE xE⟩)))⟩
  refine Q3 (fun ρ Sl=>∃(xR:Env) (tm:Int) (oe:Int) (dT:Nat) (B9:Nat) (Hs:Int),ρ=upd (upd (upd (upd (upd (upd (upd (upd (upd xR 0<|pp bs 0) 1<|pp bY 0) 4<|pp b1 0) 5<|yI par.length) 15<|yI oe) 16<|pp bs 0) 20<|yI kk) 26<|Sv (aa dT 0) kk.toNat kk.toNat) 31 (Sv (aa B9 0) kk.toNat kk.toNat)/\(ip<=tm/\tm<=ip+2)/\(0<=oe/\(oe<par.length\/oe=0))/\Fresh W0.heap.size (bL::Ns)/\St W0 Sl ((rr (aa B9 0) kk.toNat kk.toNat 2 1 ((List.replicate kk.toNat (0:Int)).map<|Value.int .i64))::(rr (aa dT 0) kk.toNat kk.toNat 2 1 ((List.replicate kk.toNat (0:Int)).map<|Value.int .i64))::(.box bs [Sv ac ag.length cc,yI tm,.int .u64 Hs] 116)::(.box b1 [yI 0,yI 0,yN,yN,yN,yN,yN,yN,Bv false] 110)::(.box bY [yI kk,Sv kL par.length kM,Sv kJ rules.length kK] 27)::(rr kL par.length kM 2 1<|par.map<|Value.int .i64)::(rr kJ rules.length kK 110 9 dS)::ps) ((sF false Fc ac cc ag)::(qX true bL dS rules)::Γ)) 4 #[true,true,true,true,true,true,true,true,false,true,true,true,true,true,true,true,true,true,true,false,false,false] ?_ fun aeN=>?_
  ·rintro ρ OE ⟨xR,tm,oe,dT,B9,Hs,rfl,WX,aai,N,H⟩
   refine jw [8,20] qh qm<|yl J ?_<|yl J ?_ jy
   ·have H1:=H.yD 7 2 [2,0,1,3,4,5,6] [0,1] xE xE
    have N1:Fresh _ (bL::Ns):=N
    have K1:Kept (Ns) ((qX true bL dS rules)::Γ):=K0.behind 1 J
    replace K1:=K1.cons (F:=bL) 0 J J
    refine zT #[pp bs 0,yI kk,yI 2] J J call146 (XB ag tm Hs bs ac cc Fc kk (2:Int) H1 N1 K1 qg qg qg) ?_
    clear H H1 N1 K1
    rintro _ aDT ⟨akN,are,akX,an8,aFH,aiy,Pi,aid,rfl,N,H⟩
    obtain rfl:=H.yt 1 rfl
    refine⟨H.pick (zR 4 4) [0,1],(yG L24 ⟨_,tm,oe,akN,akX,an8,aiy,dT,B9,are,uE8,WX,aai,Pi,aid,N,H.xG 8 2 [2,3,0,1,4,5,6,7] [0,1] xE xE⟩)⟩
   refine x8 H ti110 [yI 0,yI 0,yN,yN,yN,yN,yN,yN,Bv false] fun aCG asD H=>⟨H.pick (zR 4 4) [0,1],(ro 8 J ?_)⟩
   have H1:=H.yD 8 2 [3,0,1,2,4,5,6,7] [0,1] xE xE
   have N1:Fresh _ (bL::Ns):=N
   have K1:Kept (Ns) ((qX true bL dS rules)::Γ):=K0.behind 1 J
   replace K1:=K1.cons (F:=bL) 0 J J
   refine zT #[pp bs 0,yI kk,yI 2] J J call146 (XB ag tm Hs bs ac cc Fc kk (2:Int) H1 N1 K1 qg qg qg) ?_
   clear H H1 N1 K1
   rintro _ TF ⟨aij,apJ,um,Hw,aHP,Hu,ajq,as4,rfl,N,H⟩
   obtain rfl:=H.yt 1 rfl
   refine⟨H.pick (zR 5 4) [0,1],(ro 19 rfl<|vZ [yI oe,yI 0,Sv Hw um.length Hu,Sv (aa dT 0) kk.toNat kk.toNat,Sv (aa B9 0) kk.toNat kk.toNat,yN,yN,yN,Bv false] [(0,yI oe),(2,Sv Hw um.length Hu),(3,Sv (aa dT 0) kk.toNat kk.toNat),(4,Sv (aa B9 0) kk.toNat kk.toNat)]<|⟨H.pick (zR 5 4) [0,1],(ro 21 rfl ?_)⟩)⟩
   refine xZ H 2 [yI oe,yI 0,Sv Hw um.length Hu,Sv (aa dT 0) kk.toNat kk.toNat,Sv (aa B9 0) kk.toNat kk.toNat,yN,yN,yN,Bv false] sizeOf110 fun asx H=>?_
   dsimp only[List.set] at H
   refine⟨H.pick (zR 5 4) [0,1],(xx qh ((meet ⟨_,tm,oe,aij,um,aCG,Hw,Hu,dT,B9,apJ,uE5,WX,aai,ajq,as4,N,H.xG 9 2 [2,3,4,0,1,5,6,7,8] [0,1] xE xE⟩)))⟩
  refine Q3 (fun ρ aaY=>∃(xR:Env) (tp:Int) (kx:Int) (uR:Nat) (JH:Nat) (Jd:Int),ρ=upd (upd (upd (upd (upd (upd (upd (upd (upd (upd xR 0<|pp bs 0) 1<|pp bY 0) 4<|pp b1 0) 5<|yI par.length) 6<|pp JH 0) 15<|yI kx) 16<|pp bs 0) 20<|yI kk) 26<|Sv (aa uR 0) kk.toNat kk.toNat) 30 (yI kk)/\(ip<=tp/\tp<=ip+2)/\(0<=kx/\(kx<par.length\/kx=0))/\Fresh W0.heap.size (bL::Ns)/\St W0 aaY ((.box JH [yI 0,yI 0,yN,yN,yN,yN,yN,yN,Bv false] 110)::(rr (aa uR 0) kk.toNat kk.toNat 2 1 ((List.replicate kk.toNat (0:Int)).map<|Value.int .i64))::(.box bs [Sv ac ag.length cc,yI tp,.int .u64 Jd] 116)::(.box b1 [yI 0,yI 0,yN,yN,yN,yN,yN,yN,Bv false] 110)::(.box bY [yI kk,Sv kL par.length kM,Sv kJ rules.length kK] 27)::(rr kL par.length kM 2 1<|par.map<|Value.int .i64)::(rr kJ rules.length kK 110 9 dS)::ps) ((sF false Fc ac cc ag)::(qX true bL dS rules)::Γ)) 4 #[true,true,true,true,true,true,true,true,false,true,true,true,true,true,true,true,true,true,false,false,true,false] ?_ fun abd=>?_
  ·rintro ρ Sh ⟨xR,tp,kx,uR,JH,Jd,rfl,UG,Zv,N,H⟩
   refine jw [8,18] qh qm<|yl J ?_<|yl J ?_ jy
   ·have H1:=H.yD 7 2 [2,0,1,3,4,5,6] [0,1] xE xE
    have N1:Fresh _ (bL::Ns):=N
    have K1:Kept (Ns) ((qX true bL dS rules)::Γ):=K0.behind 1 J
    replace K1:=K1.cons (F:=bL) 0 J J
    refine zT #[pp bs 0,yI kk,yI 2] J J call146 (XB ag tp Jd bs ac cc Fc kk (2:Int) H1 N1 K1 qg qg qg) ?_
    clear H H1 N1 K1
    rintro _ aDd ⟨atu,anX,HV,Jg,aFk,Hr,aiG,aki,rfl,N,H⟩
    obtain rfl:=H.yt 1 rfl
    refine⟨H.pick (zR 4 4) [0,1],(ro 18 rfl<|jQ H underlying24 ti2 kk.toNat rfl rfl qf qf qf fun KM RR H=>⟨H.pick (zR 5 4) [0,1],(ro 19 rfl<|vZ [yI kx,yI 0,Sv Jg HV.length Hr,Sv (aa uR 0) kk.toNat kk.toNat,Sv (aa KM 0) kk.toNat kk.toNat,yN,yN,yN,Bv false] [(0,yI kx),(2,Sv Jg HV.length Hr),(3,Sv (aa uR 0) kk.toNat kk.toNat),(4,Sv (aa KM 0) kk.toNat kk.toNat)]<|⟨H.pick (zR 5 4) [0,1],(ro 21 rfl ?_)⟩)⟩)⟩
    refine xZ H 3 [yI kx,yI 0,Sv Jg HV.length Hr,Sv (aa uR 0) kk.toNat kk.toNat,Sv (aa KM 0) kk.toNat kk.toNat,yN,yN,yN,Bv false] sizeOf110 fun abQ H=>?_
    dsimp only[List.set] at H
    refine⟨H.pick (zR 5 4) [0,1],(xx qh ((meet ⟨_,tp,kx,atu,HV,JH,Jg,Hr,uR,KM,anX,uE5,UG,Zv,aiG,aki,N,H.xG 9 2 [3,0,4,1,2,5,6,7,8] [0,1] xE xE⟩)))⟩
   refine jQ H underlying24 ti2 kk.toNat J J qf qf qf fun SM aMc H=>⟨H.pick (zR 4 4) [0,1],(ro 8 J ?_)⟩
   have H1:=H.yD 8 2 [3,0,1,2,4,5,6,7] [0,1] xE xE
   have N1:Fresh _ (bL::Ns):=N
   have K1:Kept (Ns) ((qX true bL dS rules)::Γ):=K0.behind 1 J
   replace K1:=K1.cons (F:=bL) 0 J J
   refine zT #[pp bs 0,yI kk,yI 2] J J call146 (XB ag tp Jd bs ac cc Fc kk (2:Int) H1 N1 K1 qg qg qg) ?_
   clear H H1 N1 K1
   rintro _ apI ⟨amx,asY,I9,Ie,aEI,AF,asa,ZV,rfl,N,H⟩
   obtain rfl:=H.yt 1 rfl
   refine⟨H.pick (zR 5 4) [0,1],(ro 19 rfl<|vZ [yI kx,yI 0,Sv Ie I9.length AF,Sv (aa uR 0) kk.toNat kk.toNat,Sv (aa SM 0) kk.toNat kk.toNat,yN,yN,yN,Bv false] [(0,yI kx),(2,Sv Ie I9.length AF),(3,Sv (aa uR 0) kk.toNat kk.toNat),(4,Sv (aa SM 0) kk.toNat kk.toNat)]<|⟨H.pick (zR 5 4) [0,1],(ro 21 rfl ?_)⟩)⟩
   refine xZ H 3 [yI kx,yI 0,Sv Ie I9.length AF,Sv (aa uR 0) kk.toNat kk.toNat,Sv (aa SM 0) kk.toNat kk.toNat,yN,yN,yN,Bv false] sizeOf110 fun aDE H=>?_
   dsimp only[List.set] at H
   refine⟨H.pick (zR 5 4) [0,1],(xx qh ((meet ⟨_,tp,kx,amx,I9,JH,Ie,AF,uR,SM,asY,uE5,UG,Zv,asa,ZV,N,H.xG 9 2 [3,2,4,0,1,5,6,7,8] [0,1] xE xE⟩)))⟩
  refine Q3 (fun ρ w181=>∃(xR:Env) (tt:Int) (kB:Int) (tM:Nat) (Og:Nat) (I5:Int),ρ=upd (upd (upd (upd (upd (upd (upd (upd (upd (upd xR 0<|pp bs 0) 1<|pp bY 0) 4<|pp b1 0) 5<|yI par.length) 6<|pp Og 0) 15<|yI kB) 16<|pp bs 0) 20<|yI kk) 25<|yI kk) 31 (Sv (aa tM 0) kk.toNat kk.toNat)/\(ip<=tt/\tt<=ip+2)/\(0<=kB/\(kB<par.length\/kB=0))/\Fresh W0.heap.size (bL::Ns)/\St W0 w181 ((.box Og [yI 0,yI 0,yN,yN,yN,yN,yN,yN,Bv false] 110)::(rr (aa tM 0) kk.toNat kk.toNat 2 1 ((List.replicate kk.toNat (0:Int)).map<|Value.int .i64))::(.box bs [Sv ac ag.length cc,yI tt,.int .u64 I5] 116)::(.box b1 [yI 0,yI 0,yN,yN,yN,yN,yN,yN,Bv false] 110)::(.box bY [yI kk,Sv kL par.length kM,Sv kJ rules.length kK] 27)::(rr kL par.length kM 2 1<|par.map<|Value.int .i64)::(rr kJ rules.length kK 110 9 dS)::ps) ((sF false Fc ac cc ag)::(qX true bL dS rules)::Γ)) 4 #[true,true,true,true,true,true,true,true,false,true,true,true,true,false,true,true,true,true,true,false,true,false] ?_ fun ad5=>?_
  ·rintro ρ arv ⟨xR,tt,kB,tM,Og,I5,rfl,Wz,Wr,N,H⟩
   refine jw [8,13] qh qm<|yl J ?_<|yl J ?_ jy
   ·have H1:=H.yD 7 2 [2,0,1,3,4,5,6] [0,1] xE xE
    have N1:Fresh _ (bL::Ns):=N
    have K1:Kept (Ns) ((qX true bL dS rules)::Γ):=K0.behind 1 J
    replace K1:=K1.cons (F:=bL) 0 J J
    refine zT #[pp bs 0,yI kk,yI 2] J J call146 (XB ag tt I5 bs ac cc Fc kk (2:Int) H1 N1 K1 qg qg qg) ?_
    clear H H1 N1 K1
    rintro _ az6 ⟨arP,ahL,HK,ph,aiq,rv,rd,ank,rfl,N,H⟩
    obtain rfl:=H.yt 1 rfl
    refine⟨H.pick (zR 4 4) [0,1],(ro 13 rfl<|jQ H underlying24 ti2 kk.toNat rfl rfl qf qf qf fun Nk aer H=>⟨H.pick (zR 5 4) [0,1],(ro 19 rfl<|vZ [yI kB,yI 0,Sv ph HK.length rv,Sv (aa Nk 0) kk.toNat kk.toNat,Sv (aa tM 0) kk.toNat kk.toNat,yN,yN,yN,Bv false] [(0,yI kB),(2,Sv ph HK.length rv),(3,Sv (aa Nk 0) kk.toNat kk.toNat),(4,Sv (aa tM 0) kk.toNat kk.toNat)]<|⟨H.pick (zR 5 4) [0,1],(ro 21 rfl ?_)⟩)⟩)⟩
    refine xZ H 3 [yI kB,yI 0,Sv ph HK.length rv,Sv (aa Nk 0) kk.toNat kk.toNat,Sv (aa tM 0) kk.toNat kk.toNat,yN,yN,yN,Bv false] sizeOf110 fun awD H=>?_
    dsimp only[List.set] at H
    refine⟨H.pick (zR 5 4) [0,1],(xx qh ((meet ⟨_,tt,kB,arP,HK,Og,ph,rv,Nk,tM,ahL,uE5,Wz,Wr,rd,ank,N,H.xG 9 2 [3,4,0,1,2,5,6,7,8] [0,1] xE xE⟩)))⟩
   refine jQ H underlying24 ti2 kk.toNat J J qf qf qf fun S9 aBI H=>⟨H.pick (zR 4 4) [0,1],(ro 8 J ?_)⟩
   have H1:=H.yD 8 2 [3,0,1,2,4,5,6,7] [0,1] xE xE
   have N1:Fresh _ (bL::Ns):=N
   have K1:Kept (Ns) ((qX true bL dS rules)::Γ):=K0.behind 1 J
   replace K1:=K1.cons (F:=bL) 0 J J
   refine zT #[pp bs 0,yI kk,yI 2] J J call146 (XB ag tt I5 bs ac cc Fc kk (2:Int) H1 N1 K1 qg qg qg) ?_
   clear H H1 N1 K1
   rintro _ aMp ⟨aoa,aks,HQ,nk,aoH,qD,ahg,asQ,rfl,N,H⟩
   obtain rfl:=H.yt 1 rfl
   refine⟨H.pick (zR 5 4) [0,1],(ro 19 rfl<|vZ [yI kB,yI 0,Sv nk HQ.length qD,Sv (aa S9 0) kk.toNat kk.toNat,Sv (aa tM 0) kk.toNat kk.toNat,yN,yN,yN,Bv false] [(0,yI kB),(2,Sv nk HQ.length qD),(3,Sv (aa S9 0) kk.toNat kk.toNat),(4,Sv (aa tM 0) kk.toNat kk.toNat)]<|⟨H.pick (zR 5 4) [0,1],(ro 21 rfl ?_)⟩)⟩
   refine xZ H 3 [yI kB,yI 0,Sv nk HQ.length qD,Sv (aa S9 0) kk.toNat kk.toNat,Sv (aa tM 0) kk.toNat kk.toNat,yN,yN,yN,Bv false] sizeOf110 fun aCM H=>?_
   dsimp only[List.set] at H
   refine⟨H.pick (zR 5 4) [0,1],(xx qh ((meet ⟨_,tt,kB,aoa,HQ,Og,nk,qD,S9,tM,aks,uE5,Wz,Wr,ahg,asQ,N,H.xG 9 2 [3,4,2,0,1,5,6,7,8] [0,1] xE xE⟩)))⟩
  refine Q3 (fun ρ alr=>∃(xR:Env) (te:Int) (sK:Int) (Ex:Nat) (Dk:Int),ρ=upd (upd (upd (upd (upd (upd (upd (upd (upd xR 0<|pp bs 0) 1<|pp bY 0) 4<|pp b1 0) 5<|yI par.length) 15<|yI sK) 16<|pp bs 0) 20<|yI kk) 26<|Sv (aa Ex 0) kk.toNat kk.toNat) 30 (yI kk)/\(ip<=te/\te<=ip+2)/\(0<=sK/\(sK<par.length\/sK=0))/\Fresh W0.heap.size (bL::Ns)/\St W0 alr ((rr (aa Ex 0) kk.toNat kk.toNat 2 1 ((List.replicate kk.toNat (0:Int)).map<|Value.int .i64))::(.box bs [Sv ac ag.length cc,yI te,.int .u64 Dk] 116)::(.box b1 [yI 0,yI 0,yN,yN,yN,yN,yN,yN,Bv false] 110)::(.box bY [yI kk,Sv kL par.length kM,Sv kJ rules.length kK] 27)::(rr kL par.length kM 2 1<|par.map<|Value.int .i64)::(rr kJ rules.length kK 110 9 dS)::ps) ((sF false Fc ac cc ag)::(qX true bL dS rules)::Γ)) 5 #[true,true,true,true,true,true,true,true,false,true,true,true,true,true,true,true,true,true,false,false,false,false] ?_ fun agG=>?_
  ·rintro ρ aih ⟨xR,te,sK,Ex,Dk,rfl,OJ,MB,N,H⟩
   refine jw [8,18,20] qh qm<|yl J ?_<|yl J ?_<|yl J ?_ jy
   ·have H1:=H.yD 6 2 [1,0,2,3,4,5] [0,1] xE xE
    have N1:Fresh _ (bL::Ns):=N
    have K1:Kept (Ns) ((qX true bL dS rules)::Γ):=K0.behind 1 J
    replace K1:=K1.cons (F:=bL) 0 J J
    refine zT #[pp bs 0,yI kk,yI 2] J J call146 (XB ag te Dk bs ac cc Fc kk (2:Int) H1 N1 K1 qg qg qg) ?_
    clear H H1 N1 K1
    rintro _ aiu ⟨agE,apk,atb,ajL,aHA,aow,ahf,ao7,rfl,N,H⟩
    obtain rfl:=H.yt 1 rfl
    refine⟨H.pick (zR 3 4) [0,1],(yG L45 ⟨_,te,sK,agE,atb,ajL,aow,Ex,apk,uE8,OJ,MB,ahf,ao7,N,H.xG 7 2 [2,0,1,3,4,5,6] [0,1] xE xE⟩)⟩
   ·refine jQ H underlying24 ti2 kk.toNat J J qf qf qf fun ad9 aAT H=>⟨H.pick (zR 3 4) [0,1],(yG aeN ⟨_,te,sK,Ex,ad9,Dk,uE9,OJ,MB,N,H⟩)⟩
   refine x8 H ti110 [yI 0,yI 0,yN,yN,yN,yN,yN,yN,Bv false] fun aCt ann H=>⟨H.pick (zR 3 4) [0,1],(yG abd ⟨_,te,sK,Ex,aCt,Dk,uE10,OJ,MB,N,H⟩)⟩
  refine Q3 (fun ρ ajK=>∃(xR:Env) (sI:Int) (tq:Int) (DM:Nat) (EP:Int),ρ=upd (upd (upd (upd (upd (upd (upd (upd (upd xR 0<|pp bs 0) 1<|pp bY 0) 4<|pp b1 0) 5<|yI par.length) 15<|yI tq) 16<|pp bs 0) 20<|yI kk) 25<|yI kk) 31 (Sv (aa DM 0) kk.toNat kk.toNat)/\(ip<=sI/\sI<=ip+2)/\(0<=tq/\(tq<par.length\/tq=0))/\Fresh W0.heap.size (bL::Ns)/\St W0 ajK ((rr (aa DM 0) kk.toNat kk.toNat 2 1 ((List.replicate kk.toNat (0:Int)).map<|Value.int .i64))::(.box bs [Sv ac ag.length cc,yI sI,.int .u64 EP] 116)::(.box b1 [yI 0,yI 0,yN,yN,yN,yN,yN,yN,Bv false] 110)::(.box bY [yI kk,Sv kL par.length kM,Sv kJ rules.length kK] 27)::(rr kL par.length kM 2 1<|par.map<|Value.int .i64)::(rr kJ rules.length kK 110 9 dS)::ps) ((sF false Fc ac cc ag)::(qX true bL dS rules)::Γ)) 5 #[true,true,true,true,true,true,true,true,false,true,true,true,true,false,true,true,true,true,true,false,false,false] ?_ fun anc=>?_
  ·rintro ρ awg ⟨xR,sI,tq,DM,EP,rfl,Ok,Pf,N,H⟩
   refine jw [8,13,20] qh qm<|yl J ?_<|yl J ?_<|yl J ?_ jy
   ·have H1:=H.yD 6 2 [1,0,2,3,4,5] [0,1] xE xE
    have N1:Fresh _ (bL::Ns):=N
    have K1:Kept (Ns) ((qX true bL dS rules)::Γ):=K0.behind 1 J
    replace K1:=K1.cons (F:=bL) 0 J J
    refine zT #[pp bs 0,yI kk,yI 2] J J call146 (XB ag sI EP bs ac cc Fc kk (2:Int) H1 N1 K1 qg qg qg) ?_
    clear H H1 N1 K1
    rintro _ asF ⟨aiH,akY,ajw,arw,aIC,atj,aha,aj2,rfl,N,H⟩
    obtain rfl:=H.yt 1 rfl
    refine⟨H.pick (zR 3 4) [0,1],(yG L67 ⟨_,sI,tq,aiH,ajw,arw,atj,DM,akY,uE8,Ok,Pf,aha,aj2,N,H.xG 7 2 [2,0,1,3,4,5,6] [0,1] xE xE⟩)⟩
   ·refine jQ H underlying24 ti2 kk.toNat J J qf qf qf fun axC aLc H=>⟨H.pick (zR 3 4) [0,1],(yG aeN ⟨_,sI,tq,axC,DM,EP,uE9,Ok,Pf,N,H.xG 7 2 (1::0::zR 2 5) [0,1] xE xE⟩)⟩
   refine x8 H ti110 [yI 0,yI 0,yN,yN,yN,yN,yN,yN,Bv false] fun ayX aLA H=>⟨H.pick (zR 3 4) [0,1],(yG ad5 ⟨_,sI,tq,DM,ayX,EP,uE10,Ok,Pf,N,H⟩)⟩
  refine Q3 (fun ρ alB=>∃(xR:Env) (sZ:Int) (tC:Int) (Kc:Nat) (DR:Int),ρ=upd (upd (upd (upd (upd (upd (upd (upd (upd (upd xR 0<|pp bs 0) 1<|pp bY 0) 4<|pp b1 0) 5<|yI par.length) 6<|pp Kc 0) 15<|yI tC) 16<|pp bs 0) 20<|yI kk) 25<|yI kk) 30 (yI kk)/\(ip<=sZ/\sZ<=ip+2)/\(0<=tC/\(tC<par.length\/tC=0))/\Fresh W0.heap.size (bL::Ns)/\St W0 alB ((.box Kc [yI 0,yI 0,yN,yN,yN,yN,yN,yN,Bv false] 110)::(.box bs [Sv ac ag.length cc,yI sZ,.int .u64 DR] 116)::(.box b1 [yI 0,yI 0,yN,yN,yN,yN,yN,yN,Bv false] 110)::(.box bY [yI kk,Sv kL par.length kM,Sv kJ rules.length kK] 27)::(rr kL par.length kM 2 1<|par.map<|Value.int .i64)::(rr kJ rules.length kK 110 9 dS)::ps) ((sF false Fc ac cc ag)::(qX true bL dS rules)::Γ)) 5 #[true,true,true,true,true,true,true,true,false,true,true,true,true,false,true,true,true,true,false,false,true,false] ?_ fun aqA=>?_
  ·rintro ρ aBS ⟨xR,sZ,tC,Kc,DR,rfl,Q6,NO,N,H⟩
   refine jw [8,13,18] qh qm<|yl J ?_<|yl J ?_<|yl J ?_ jy
   ·have H1:=H.yD 6 2 [1,0,2,3,4,5] [0,1] xE xE
    have N1:Fresh _ (bL::Ns):=N
    have K1:Kept (Ns) ((qX true bL dS rules)::Γ):=K0.behind 1 J
    replace K1:=K1.cons (F:=bL) 0 J J
    refine zT #[pp bs 0,yI kk,yI 2] J J call146 (XB ag sZ DR bs ac cc Fc kk (2:Int) H1 N1 K1 qg qg qg) ?_
    clear H H1 N1 K1
    rintro _ aOf ⟨aif,arZ,al7,apo,aF1,ar7,alm,as5,rfl,N,H⟩
    obtain rfl:=H.yt 1 rfl
    refine⟨H.pick (zR 3 4) [0,1],(yG L89 ⟨_,sZ,tC,aif,al7,apo,ar7,Kc,arZ,uE9,Q6,NO,alm,as5,N,H.xG 7 2 [2,0,1,3,4,5,6] [0,1] xE xE⟩)⟩
   ·refine jQ H underlying24 ti2 kk.toNat J J qf qf qf fun aDg aMy H=>⟨H.pick (zR 3 4) [0,1],(yG abd ⟨_,sZ,tC,aDg,Kc,DR,uE10,Q6,NO,N,H.xG 7 2 (1::0::zR 2 5) [0,1] xE xE⟩)⟩
   refine jQ H underlying24 ti2 kk.toNat J J qf qf qf fun aw5 aN6 H=>⟨H.pick (zR 3 4) [0,1],(yG ad5 ⟨_,sZ,tC,aw5,Kc,DR,uE10,Q6,NO,N,H.xG 7 2 (1::0::zR 2 5) [0,1] xE xE⟩)⟩
  refine Q3 (fun ρ arb=>∃(xR:Env) (DF:Nat) (DI:Nat),ρ=upd (upd (upd (upd (upd (upd (upd (upd (upd (upd xR 0<|pp bs 0) 1<|pp bY 0) 4<|pp b1 0) 5<|yI par.length) 13<|pp bs 0) 14<|yI par.length) 16<|pp bs 0) 20<|yI kk) 26<|Sv (aa DF 0) kk.toNat kk.toNat) 31 (Sv (aa DI 0) kk.toNat kk.toNat)/\Fresh W0.heap.size (bL::Ns)/\St W0 arb ((rr (aa DI 0) kk.toNat kk.toNat 2 1 ((List.replicate kk.toNat (0:Int)).map<|Value.int .i64))::(rr (aa DF 0) kk.toNat kk.toNat 2 1 ((List.replicate kk.toNat (0:Int)).map<|Value.int .i64))::(.box b1 [yI 0,yI 0,yN,yN,yN,yN,yN,yN,Bv false] 110)::(.box bs [Sv ac ag.length cc,yI ip,.int .u64 sd] 116)::(.box bY [yI kk,Sv kL par.length kM,Sv kJ rules.length kK] 27)::(rr kL par.length kM 2 1<|par.map<|Value.int .i64)::(rr kJ rules.length kK 110 9 dS)::ps) ((sF false Fc ac cc ag)::(qX true bL dS rules)::Γ)) 5 #[true,true,false,true,true,true,true,true,false,true,true,true,true,true,true,true,true,true,true,false,false,false] ?_ fun ahr=>?_
  ·rintro ρ aww ⟨xR,DF,DI,rfl,N,H⟩
   refine jw [2,20] qh qm<|yl J ?_<|yl J ?_ jy
   ·have H1:=H.yD 7 2 [3,0,1,2,4,5,6] [0,1] xE xE
    have N1:Fresh _ (bL::Ns):=N
    have K1:Kept (Ns) ((qX true bL dS rules)::Γ):=K0.behind 1 J
    replace K1:=K1.cons (F:=bL) 0 J J
    refine zT #[pp bs 0,yI par.length] J J call59 (Qb ag ip sd bs ac cc Fc par.length H1 N1 K1 qg) ?_
    clear H H1 N1 K1
    rintro _ aCS ⟨aol,alK,aqJ,aor,alH,rfl,N,H⟩
    refine⟨H.pick (zR 3 4) [0,1],(yG aeN ⟨_,aol,aqJ,DF,DI,alK,uE9,aor,alH,N,H.xG 7 2 [1,2,0,3,4,5,6] [0,1] xE xE⟩)⟩
   refine x8 H ti110 [yI 0,yI 0,yN,yN,yN,yN,yN,yN,Bv false] fun axO ath H=>⟨H.pick [3,5,6,7] [0,1],(ro 2 J ?_)⟩
   have H1:=H.yD 8 2 [4,0,1,2,3,5,6,7] [0,1] xE xE
   have N1:Fresh _ (bL::Ns):=N
   have K1:Kept (Ns) ((qX true bL dS rules)::Γ):=K0.behind 1 J
   replace K1:=K1.cons (F:=bL) 0 J J
   refine zT #[pp bs 0,yI par.length] J J call59 (Qb ag ip sd bs ac cc Fc par.length H1 N1 K1 qg) ?_
   clear H H1 N1 K1
   rintro _ aBT ⟨Zc,arX,IK,aps,apT,rfl,N,H⟩
   refine⟨H.pick (zR 4 4) [0,1],(ro 8 J ?_)⟩
   have H1:=H.yD 8 2 [0,1,2,3,4,5,6,7] [0,1] xE xE
   have N1:Fresh _ (bL::Ns):=N
   have K1:Kept (Ns) ((qX true bL dS rules)::Γ):=K0.behind 1 J
   replace K1:=K1.cons (F:=bL) 0 J J
   refine zT #[pp bs 0,yI kk,yI 2] J J call146 (XB ag Zc arX bs ac cc Fc kk (2:Int) H1 N1 K1 qg qg qg) ?_
   clear H H1 N1 K1
   rintro _ aLg ⟨aqm,alg,Hm,HM,aEs,IW,alE,ap7,rfl,N,H⟩
   obtain rfl:=H.yt 1 rfl
   refine⟨H.pick (zR 5 4) [0,1],(ro 19 rfl<|vZ [yI IK,yI 0,Sv HM Hm.length IW,Sv (aa DF 0) kk.toNat kk.toNat,Sv (aa DI 0) kk.toNat kk.toNat,yN,yN,yN,Bv false] [(0,yI IK),(2,Sv HM Hm.length IW),(3,Sv (aa DF 0) kk.toNat kk.toNat),(4,Sv (aa DI 0) kk.toNat kk.toNat)]<|⟨H.pick (zR 5 4) [0,1],(ro 21 rfl ?_)⟩)⟩
   refine xZ H 2 [yI IK,yI 0,Sv HM Hm.length IW,Sv (aa DF 0) kk.toNat kk.toNat,Sv (aa DI 0) kk.toNat kk.toNat,yN,yN,yN,Bv false] sizeOf110 fun arO H=>?_
   dsimp only[List.set] at H
   refine⟨H.pick (zR 5 4) [0,1],(xx qh ((meet ⟨_,Zc,IK,aqm,Hm,axO,HM,IW,DF,DI,alg,uE5,aps,apT,alE,ap7,N,H.xG 9 2 [2,3,4,0,1,5,6,7,8] [0,1] xE xE⟩)))⟩
  refine Q3 (fun ρ w315=>∃(xR:Env) (EH:Nat) (Om:Nat),ρ=upd (upd (upd (upd (upd (upd (upd (upd (upd (upd (upd xR 0<|pp bs 0) 1<|pp bY 0) 4<|pp b1 0) 5<|yI par.length) 6<|pp Om 0) 13<|pp bs 0) 14<|yI par.length) 16<|pp bs 0) 20<|yI kk) 26<|Sv (aa EH 0) kk.toNat kk.toNat) 30 (yI kk)/\Fresh W0.heap.size (bL::Ns)/\St W0 w315 ((.box Om [yI 0,yI 0,yN,yN,yN,yN,yN,yN,Bv false] 110)::(rr (aa EH 0) kk.toNat kk.toNat 2 1 ((List.replicate kk.toNat (0:Int)).map<|Value.int .i64))::(.box b1 [yI 0,yI 0,yN,yN,yN,yN,yN,yN,Bv false] 110)::(.box bs [Sv ac ag.length cc,yI ip,.int .u64 sd] 116)::(.box bY [yI kk,Sv kL par.length kM,Sv kJ rules.length kK] 27)::(rr kL par.length kM 2 1<|par.map<|Value.int .i64)::(rr kJ rules.length kK 110 9 dS)::ps) ((sF false Fc ac cc ag)::(qX true bL dS rules)::Γ)) 5 #[true,true,false,true,true,true,true,true,false,true,true,true,true,true,true,true,true,true,false,false,true,false] ?_ fun aoj=>?_
  ·rintro ρ aio ⟨xR,EH,Om,rfl,N,H⟩
   refine jw [2,18] qh qm<|yl J ?_<|yl J ?_ jy
   ·have H1:=H.yD 7 2 [3,0,1,2,4,5,6] [0,1] xE xE
    have N1:Fresh _ (bL::Ns):=N
    have K1:Kept (Ns) ((qX true bL dS rules)::Γ):=K0.behind 1 J
    replace K1:=K1.cons (F:=bL) 0 J J
    refine zT #[pp bs 0,yI par.length] J J call59 (Qb ag ip sd bs ac cc Fc par.length H1 N1 K1 qg) ?_
    clear H H1 N1 K1
    rintro _ aBX ⟨alf,ap9,arA,anh,ahm,rfl,N,H⟩
    refine⟨H.pick (zR 3 4) [0,1],(yG abd ⟨_,alf,arA,EH,Om,ap9,uE10,anh,ahm,N,H.xG 7 2 [1,2,0,3,4,5,6] [0,1] xE xE⟩)⟩
   refine jQ H underlying24 ti2 kk.toNat J J qf qf qf fun TG aqf H=>⟨H.pick [3,5,6,7] [0,1],(ro 2 J ?_)⟩
   have H1:=H.yD 8 2 [4,0,1,2,3,5,6,7] [0,1] xE xE
   have N1:Fresh _ (bL::Ns):=N
   have K1:Kept (Ns) ((qX true bL dS rules)::Γ):=K0.behind 1 J
   replace K1:=K1.cons (F:=bL) 0 J J
   refine zT #[pp bs 0,yI par.length] J J call59 (Qb ag ip sd bs ac cc Fc par.length H1 N1 K1 qg) ?_
   clear H H1 N1 K1
   rintro _ aCs ⟨U3,asn,Hh,N4,aig,rfl,N,H⟩
   refine⟨H.pick (zR 4 4) [0,1],(ro 8 J ?_)⟩
   have H1:=H.yD 8 2 [0,1,2,3,4,5,6,7] [0,1] xE xE
   have N1:Fresh _ (bL::Ns):=N
   have K1:Kept (Ns) ((qX true bL dS rules)::Γ):=K0.behind 1 J
   replace K1:=K1.cons (F:=bL) 0 J J
   refine zT #[pp bs 0,yI kk,yI 2] J J call146 (XB ag U3 asn bs ac cc Fc kk (2:Int) H1 N1 K1 qg qg qg) ?_
   clear H H1 N1 K1
   rintro _ aNy ⟨aib,ajG,IX,GU,aFx,Jl,atc,anw,rfl,N,H⟩
   obtain rfl:=H.yt 1 rfl
   refine⟨H.pick (zR 5 4) [0,1],(ro 19 rfl<|vZ [yI Hh,yI 0,Sv GU IX.length Jl,Sv (aa EH 0) kk.toNat kk.toNat,Sv (aa TG 0) kk.toNat kk.toNat,yN,yN,yN,Bv false] [(0,yI Hh),(2,Sv GU IX.length Jl),(3,Sv (aa EH 0) kk.toNat kk.toNat),(4,Sv (aa TG 0) kk.toNat kk.toNat)]<|⟨H.pick (zR 5 4) [0,1],(ro 21 rfl ?_)⟩)⟩
   refine xZ H 3 [yI Hh,yI 0,Sv GU IX.length Jl,Sv (aa EH 0) kk.toNat kk.toNat,Sv (aa TG 0) kk.toNat kk.toNat,yN,yN,yN,Bv false] sizeOf110 fun aQc H=>?_
   dsimp only[List.set] at H
   refine⟨H.pick (zR 5 4) [0,1],(xx qh ((meet ⟨_,U3,Hh,aib,IX,Om,GU,Jl,EH,TG,ajG,uE5,N4,aig,atc,anw,N,H.xG 9 2 [3,2,4,0,1,5,6,7,8] [0,1] xE xE⟩)))⟩
  refine Q3 (fun ρ w347=>∃(xR:Env) (EE:Nat) (Fu:Nat),ρ=upd (upd (upd (upd (upd (upd (upd (upd (upd (upd (upd xR 0<|pp bs 0) 1<|pp bY 0) 4<|pp b1 0) 5<|yI par.length) 6<|pp Fu 0) 13<|pp bs 0) 14<|yI par.length) 16<|pp bs 0) 20<|yI kk) 25<|yI kk) 31 (Sv (aa EE 0) kk.toNat kk.toNat)/\Fresh W0.heap.size (bL::Ns)/\St W0 w347 ((.box Fu [yI 0,yI 0,yN,yN,yN,yN,yN,yN,Bv false] 110)::(rr (aa EE 0) kk.toNat kk.toNat 2 1 ((List.replicate kk.toNat (0:Int)).map<|Value.int .i64))::(.box b1 [yI 0,yI 0,yN,yN,yN,yN,yN,yN,Bv false] 110)::(.box bs [Sv ac ag.length cc,yI ip,.int .u64 sd] 116)::(.box bY [yI kk,Sv kL par.length kM,Sv kJ rules.length kK] 27)::(rr kL par.length kM 2 1<|par.map<|Value.int .i64)::(rr kJ rules.length kK 110 9 dS)::ps) ((sF false Fc ac cc ag)::(qX true bL dS rules)::Γ)) 5 #[true,true,false,true,true,true,true,true,false,true,true,true,true,false,true,true,true,true,true,false,true,false] ?_ fun alJ=>?_
  ·rintro ρ aNQ ⟨xR,EE,Fu,rfl,N,H⟩
   refine jw [2,13] qh qm<|yl J ?_<|yl J ?_ jy
   ·have H1:=H.yD 7 2 [3,0,1,2,4,5,6] [0,1] xE xE
    have N1:Fresh _ (bL::Ns):=N
    have K1:Kept (Ns) ((qX true bL dS rules)::Γ):=K0.behind 1 J
    replace K1:=K1.cons (F:=bL) 0 J J
    refine zT #[pp bs 0,yI par.length] J J call59 (Qb ag ip sd bs ac cc Fc par.length H1 N1 K1 qg) ?_
    clear H H1 N1 K1
    rintro _ aMj ⟨ap0,ajF,agU,arT,I2,rfl,N,H⟩
    refine⟨H.pick (zR 3 4) [0,1],(yG ad5 ⟨_,ap0,agU,EE,Fu,ajF,uE10,arT,I2,N,H.xG 7 2 [1,2,0,3,4,5,6] [0,1] xE xE⟩)⟩
   refine jQ H underlying24 ti2 kk.toNat J J qf qf qf fun Uj aM3 H=>⟨H.pick [3,5,6,7] [0,1],(ro 2 J ?_)⟩
   have H1:=H.yD 8 2 [4,0,1,2,3,5,6,7] [0,1] xE xE
   have N1:Fresh _ (bL::Ns):=N
   have K1:Kept (Ns) ((qX true bL dS rules)::Γ):=K0.behind 1 J
   replace K1:=K1.cons (F:=bL) 0 J J
   refine zT #[pp bs 0,yI par.length] J J call59 (Qb ag ip sd bs ac cc Fc par.length H1 N1 K1 qg) ?_
   clear H H1 N1 K1
   rintro _ azv ⟨ZZ,anZ,GT,amq,aof,rfl,N,H⟩
   refine⟨H.pick (zR 4 4) [0,1],(ro 8 J ?_)⟩
   have H1:=H.yD 8 2 [0,1,2,3,4,5,6,7] [0,1] xE xE
   have N1:Fresh _ (bL::Ns):=N
   have K1:Kept (Ns) ((qX true bL dS rules)::Γ):=K0.behind 1 J
   replace K1:=K1.cons (F:=bL) 0 J J
   refine zT #[pp bs 0,yI kk,yI 2] J J call146 (XB ag ZZ anZ bs ac cc Fc kk (2:Int) H1 N1 K1 qg qg qg) ?_
   clear H H1 N1 K1
   rintro _ aLK ⟨aik,asB,IB,IL,aDY,Ix,asZ,G7,rfl,N,H⟩
   obtain rfl:=H.yt 1 rfl
   refine⟨H.pick (zR 5 4) [0,1],(ro 19 rfl<|vZ [yI GT,yI 0,Sv IL IB.length Ix,Sv (aa Uj 0) kk.toNat kk.toNat,Sv (aa EE 0) kk.toNat kk.toNat,yN,yN,yN,Bv false] [(0,yI GT),(2,Sv IL IB.length Ix),(3,Sv (aa Uj 0) kk.toNat kk.toNat),(4,Sv (aa EE 0) kk.toNat kk.toNat)]<|⟨H.pick (zR 5 4) [0,1],(ro 21 rfl ?_)⟩)⟩
   refine xZ H 3 [yI GT,yI 0,Sv IL IB.length Ix,Sv (aa Uj 0) kk.toNat kk.toNat,Sv (aa EE 0) kk.toNat kk.toNat,yN,yN,yN,Bv false] sizeOf110 fun aNN H=>?_
   dsimp only[List.set] at H
   refine⟨H.pick (zR 5 4) [0,1],(xx qh ((meet ⟨_,ZZ,GT,aik,IB,Fu,IL,Ix,Uj,EE,asB,uE5,amq,aof,asZ,G7,N,H.xG 9 2 [3,4,2,0,1,5,6,7,8] [0,1] xE xE⟩)))⟩
  have S:=H.ve [0,2,3,4] [0,1]
  refine rtl 0 S ?_
  refine rtl 1 S ?_
  refine rtl 3 S ?_
  refine rtl 4 S ?_
  refine rtl 5 S ?_
  refine tF 6 J J S ?_
  refine tL 7 J J (fun _ h=>h.cell 1 J J) S ?_
  refine rtl 9 S ?_
  refine rtl 10 S ?_
  refine tF 11 J J S ?_
  refine tL 12 J J (fun _ h=>h.cell 1 J J) S ?_
  refine rtl 14 S ?_
  refine rtl 15 S ?_
  refine tF 16 J J S ?_
  refine tL 17 J J (fun _ h=>h.cell 1 J J) S ?_
  refine jw [2,13,18,20] qh qm<|yl J ?_<|yl J ?_<|yl J ?_<|yl J ?_ jy
  ·have H1:=H.yD 5 2 [1,0,2,3,4] [0,1] xE xE
   have N1:Fresh _ (bL::Ns):=N
   have K1:Kept (Ns) ((qX true bL dS rules)::Γ):=K0.behind 1 J
   replace K1:=K1.cons (F:=bL) 0 J J
   refine zT #[pp bs 0,yI par.length] J J call59 (Qb ag ip sd bs ac cc Fc par.length H1 N1 K1 qg) ?_
   clear H H1 N1 K1
   rintro _ aA9 ⟨yy,IU,AP,A5,Ao,rfl,N,H⟩
   refine⟨H.pick (zR 1 4) [0,1],(jw [8,13,18,20] qh qm<|yl J ?_<|yl J ?_<|yl J ?_<|yl J ?_ jy)⟩
   ·have H1:=H.yD 5 2 [0,1,2,3,4] [0,1] xE xE
    have N1:Fresh _ (bL::Ns):=N
    have K1:Kept (Ns) ((qX true bL dS rules)::Γ):=K0.behind 1 J
    replace K1:=K1.cons (F:=bL) 0 J J
    refine zT #[pp bs 0,yI kk,yI 2] J J call146 (XB ag yy IU bs ac cc Fc kk (2:Int) H1 N1 K1 qg qg qg) ?_
    clear H H1 N1 K1
    rintro _ azV ⟨PP,NM,Ph,P3,aHC,P8,NR,N8,rfl,N,H⟩
    obtain rfl:=H.yt 1 rfl
    refine⟨H.pick (zR 2 4) [0,1],(jw [13,18,20] qh qm<|yl J ?_<|yl J ?_<|yl J ?_ jy)⟩
    ·refine jQ H underlying24 ti2 kk.toNat J J qf qf qf fun awb aJt H=>⟨H.pick (zR 3 4) [0,1],(yG L45 ⟨_,yy,AP,PP,Ph,P3,P8,awb,NM,uE8,A5,Ao,NR,N8,N,H⟩)⟩
    ·refine jQ H underlying24 ti2 kk.toNat J J qf qf qf fun aj6 aIM H=>⟨H.pick (zR 3 4) [0,1],(yG L67 ⟨_,yy,AP,PP,Ph,P3,P8,aj6,NM,uE8,A5,Ao,NR,N8,N,H⟩)⟩
    refine x8 H ti110 [yI 0,yI 0,yN,yN,yN,yN,yN,yN,Bv false] fun aAF aOE H=>⟨H.pick (zR 3 4) [0,1],(yG L89 ⟨_,yy,AP,PP,Ph,P3,P8,aAF,NM,uE9,A5,Ao,NR,N8,N,H⟩)⟩
   ·refine jQ H underlying24 ti2 kk.toNat J J qf qf qf fun axE aNn H=>⟨H.pick (zR 2 4) [0,1],(yG agG ⟨_,yy,AP,axE,IU,uE9,A5,Ao,N,H⟩)⟩
   ·refine jQ H underlying24 ti2 kk.toNat J J qf qf qf fun azh aOz H=>⟨H.pick (zR 2 4) [0,1],(yG anc ⟨_,yy,AP,azh,IU,uE9,A5,Ao,N,H⟩)⟩
   refine x8 H ti110 [yI 0,yI 0,yN,yN,yN,yN,yN,yN,Bv false] fun ayl aIN H=>⟨H.pick (zR 2 4) [0,1],(yG aqA ⟨_,yy,AP,ayl,IU,uE10,A5,Ao,N,H⟩)⟩
  ·refine jQ H underlying24 ti2 kk.toNat J J qf qf qf fun ade awd H=>⟨H.pick [1,3,4,5] [0,1],(jw [2,18,20] qh qm<|yl J ?_<|yl J ?_<|yl J ?_ jy)⟩
   ·have H1:=H.yD 6 2 [2,0,1,3,4,5] [0,1] xE xE
    have N1:Fresh _ (bL::Ns):=N
    have K1:Kept (Ns) ((qX true bL dS rules)::Γ):=K0.behind 1 J
    replace K1:=K1.cons (F:=bL) 0 J J
    refine zT #[pp bs 0,yI par.length] J J call59 (Qb ag ip sd bs ac cc Fc par.length H1 N1 K1 qg) ?_
    clear H H1 N1 K1
    rintro _ aPU ⟨ao4,aoi,aqW,alA,aqE,rfl,N,H⟩
    refine⟨H.pick (zR 2 4) [0,1],(yG agG ⟨_,ao4,aqW,ade,aoi,uE9,alA,aqE,N,H.xG 6 2 [1,0,2,3,4,5] [0,1] xE xE⟩)⟩
   ·refine jQ H underlying24 ti2 kk.toNat J J qf qf qf fun ayv aK6 H=>⟨H.pick [2,4,5,6] [0,1],(yG ahr ⟨_,ade,ayv,uE10,N,H⟩)⟩
   refine x8 H ti110 [yI 0,yI 0,yN,yN,yN,yN,yN,yN,Bv false] fun aCL azb H=>⟨H.pick [2,4,5,6] [0,1],(yG aoj ⟨_,ade,aCL,uE11,N,H⟩)⟩
  ·refine jQ H underlying24 ti2 kk.toNat J J qf qf qf fun Ed aLp H=>⟨H.pick [1,3,4,5] [0,1],(jw [2,13,20] qh qm<|yl J ?_<|yl J ?_<|yl J ?_ jy)⟩
   ·have H1:=H.yD 6 2 [2,0,1,3,4,5] [0,1] xE xE
    have N1:Fresh _ (bL::Ns):=N
    have K1:Kept (Ns) ((qX true bL dS rules)::Γ):=K0.behind 1 J
    replace K1:=K1.cons (F:=bL) 0 J J
    refine zT #[pp bs 0,yI par.length] J J call59 (Qb ag ip sd bs ac cc Fc par.length H1 N1 K1 qg) ?_
    clear H H1 N1 K1
    rintro _ aJX ⟨aph,alN,apQ,Rb,atq,rfl,N,H⟩
    refine⟨H.pick (zR 2 4) [0,1],(yG anc ⟨_,aph,apQ,Ed,alN,uE9,Rb,atq,N,H.xG 6 2 [1,0,2,3,4,5] [0,1] xE xE⟩)⟩
   ·refine jQ H underlying24 ti2 kk.toNat J J qf qf qf fun aAg aQX H=>⟨H.pick [2,4,5,6] [0,1],(yG ahr ⟨_,aAg,Ed,uE10,N,H.xG 7 2 (1::0::zR 2 5) [0,1] xE xE⟩)⟩
   refine x8 H ti110 [yI 0,yI 0,yN,yN,yN,yN,yN,yN,Bv false] fun aDP aCA H=>⟨H.pick [2,4,5,6] [0,1],(yG alJ ⟨_,Ed,aDP,uE11,N,H⟩)⟩
  refine x8 H ti110 [yI 0,yI 0,yN,yN,yN,yN,yN,yN,Bv false] fun abF ayq H=>⟨H.pick [1,3,4,5] [0,1],(jw [2,13,18] qh qm<|yl J ?_<|yl J ?_<|yl J ?_ jy)⟩
  ·have H1:=H.yD 6 2 [2,0,1,3,4,5] [0,1] xE xE
   have N1:Fresh _ (bL::Ns):=N
   have K1:Kept (Ns) ((qX true bL dS rules)::Γ):=K0.behind 1 J
   replace K1:=K1.cons (F:=bL) 0 J J
   refine zT #[pp bs 0,yI par.length] J J call59 (Qb ag ip sd bs ac cc Fc par.length H1 N1 K1 qg) ?_
   clear H H1 N1 K1
   rintro _ aKv ⟨aqN,alF,ak1,ai3,arx,rfl,N,H⟩
   refine⟨H.pick (zR 2 4) [0,1],(yG aqA ⟨_,aqN,ak1,abF,alF,uE10,ai3,arx,N,H.xG 6 2 [1,0,2,3,4,5] [0,1] xE xE⟩)⟩
  ·refine jQ H underlying24 ti2 kk.toNat J J qf qf qf fun aBx aNG H=>⟨H.pick [2,4,5,6] [0,1],(yG aoj ⟨_,aBx,abF,uE11,N,H.xG 7 2 (1::0::zR 2 5) [0,1] xE xE⟩)⟩
  refine jQ H underlying24 ti2 kk.toNat J J qf qf qf fun awl aLD H=>⟨H.pick [2,4,5,6] [0,1],(yG alJ ⟨_,awl,abF,uE11,N,H.xG 7 2 (1::0::zR 2 5) [0,1] xE xE⟩)⟩
 clear H N
 rintro ρ aJL ⟨xR,zi3,nJ,RL,lW,b7,l8,lV,z8,ue,R8,rfl,aFN,aHM,aHH,aHq,N,H⟩
 refine t_n<|zcr<|sq 3<|oF J<|oL J (H.cell 6 J J) ?_
 have H1:=H.yD 9 2 [3,0,1,2,4,5,6,7,8] [0,1] xE xE
 have N1:Fresh _ (bL::Ns):=N
 have K1:Kept (Ns) ((qX true bL dS rules)::Γ):=K0.behind 1 J
 replace K1:=K1.cons (F:=bL) 0 J J
 refine sw<|zT #[pp bs 0,yI kk,yI 2] J J call61 (dFew_ok ag RL R8 bs ac cc Fc kk (2:Int) H1 N1 K1 qg qg qg) ?_
 clear H H1 N1 K1
 rintro _ aMw ⟨alT,aqa,da,dE,aEe,dG,aFp,aIc,rfl,N,H⟩
 obtain rfl:=H.yt 1 rfl
 refine oF J<|sw<|zn H 2 [yI nJ,yI 0,Sv l8 lW.length lV,Sv (aa z8 0) kk.toNat kk.toNat,Sv (aa ue 0) kk.toNat kk.toNat,Sv dE da.length dG,yN,yN,Bv false] sizeOf24 fun axp H=>?_
 dsimp only[List.set] at H
 refine zjc<|sq 3<|oF J<|oL J (H.cell 7 J J) ?_
 have H1:=H.yD 10 2 [0,1,2,3,4,5,6,7,8,9] [0,1] xE xE
 have N1:Fresh _ (bL::Ns):=N
 have K1:Kept (Ns) ((qX true bL dS rules)::Γ):=K0.behind 1 J
 replace K1:=K1.cons (F:=bL) 0 J J
 refine sw<|zT #[pp bs 0,yI kk,yI 1] J J call61 (dFew_ok ag alT aqa bs ac cc Fc kk (1:Int) H1 N1 K1 qg qg qg) ?_
 clear H H1 N1 K1
 rintro _ aJA ⟨ahX,ajO,dl,dP,aEH,dO,aD0,aD5,rfl,N,H⟩
 obtain rfl:=H.yt 1 rfl
 refine oF J<|sw<|zn H 3 [yI nJ,yI 0,Sv l8 lW.length lV,Sv (aa z8 0) kk.toNat kk.toNat,Sv (aa ue 0) kk.toNat kk.toNat,Sv dE da.length dG,Sv dP dl.length dO,yN,Bv false] sizeOf24 fun apn H=>?_
 dsimp only[List.set] at H
 refine zjcc<|sq 1 ?_
 have H1:=H.yD 11 2 [0,1,2,3,4,5,6,7,8,9,10] [0,1] xE xE
 have N1:Fresh _ (bL::Ns):=N
 have K1:Kept (Ns) ((qX true bL dS rules)::Γ):=K0.behind 1 J
 replace K1:=K1.cons (F:=bL) 0 J J
 refine sw<|zT #[pp bs 0,yI 5] J J call58 (dOne_ok ag ahX ajO bs ac cc Fc (5:Int) H1 N1 K1 qg) ?_
 clear H H1 N1 K1
 rintro _ aCX ⟨aaa,Zn,aEh,aEq,rfl,N,H⟩
 refine zjn<|c_cut (fun ρ w477=>∃(xR:Env) (dV:Int) (cW:Int) (QF:yOA) (QC:Nat) (QE:Nat) (mA:yLI),ρ=upd (upd (upd (upd (upd xR 0<|pp bs 0) 1<|pp bY 0) 4<|pp b1 0) 5<|yI par.length) 6 (pp b7 0)/\(jD kk 1 mA)/\(ip<=dV/\dV<=ip+92)/\Fresh W0.heap.size (bL::Ns)/\St W0 w477 ((.box bs [Sv ac ag.length cc,yI dV,.int .u64 cW] 116)::(rr dP dl.length dO 2 1<|dl.map<|Value.int .i64)::(rr dE da.length dG 2 1<|da.map<|Value.int .i64)::(.box b7 [yI nJ,yI 0,Sv l8 lW.length lV,Sv QF QC QE,Sv (aa ue 0) kk.toNat kk.toNat,Sv dE da.length dG,Sv dP dl.length dO,yN,Bv false] 110)::(rr (aa ue 0) kk.toNat kk.toNat 2 1 ((List.replicate kk.toNat (0:Int)).map<|Value.int .i64))::(rr QF QC QE 2 1<|mA.map<|Value.int .i64)::(rr l8 lW.length lV 2 1<|lW.map<|Value.int .i64)::(.box b1 [yI 0,yI 0,yN,yN,yN,yN,yN,yN,Bv false] 110)::(.box bY [yI kk,Sv kL par.length kM,Sv kJ rules.length kK] 27)::(rr kL par.length kM 2 1<|par.map<|Value.int .i64)::(rr kJ rules.length kK 110 9 dS)::ps) ((sF false Fc ac cc ag)::(qX true bL dS rules)::Γ)) ?_ ?_
 ·refine vP _ J (fun aCr=>?_) (fun aCr=>?_)
  ·refine zf (sq 3<|oF J<|oL J (H.cell 8 J J) ?_)
   have H1:=H.yD 11 2 [0,1,2,3,4,5,6,7,8,9,10] [0,1] xE xE
   have N1:Fresh _ (bL::Ns):=N
   have K1:Kept (Ns) ((qX true bL dS rules)::Γ):=K0.behind 1 J
   replace K1:=K1.cons (F:=bL) 0 J J
   refine sw<|zT #[pp bs 0,yI kk,yI 1] J J call146 (XB ag aaa Zn bs ac cc Fc kk (1:Int) H1 N1 K1 qg qg qg) ?_
   clear H H1 N1 K1
   rintro _ aIV ⟨amP,anI,Ma,aax,aGK,aav,aFF,aG7,rfl,N,H⟩
   obtain rfl:=H.yt 1 rfl
   refine oF J<|sw<|zn H 4 [yI nJ,yI 0,Sv l8 lW.length lV,Sv aax Ma.length aav,Sv (aa ue 0) kk.toNat kk.toNat,Sv dE da.length dG,Sv dP dl.length dO,yN,Bv false] sizeOf24 fun aOG H=>?_
   dsimp only[List.set] at H
   refine xX<|meet ⟨_,amP,anI,aax,Ma.length,aav,Ma,uE5,?_,?_,N,H.xG 12 2 [0,2,3,4,5,1,7,8,9,10,11] [0,1] xE xE⟩
   ·exact(‹jD kk 1 _/\_›).1
   ·omega
  refine xe<|meet ⟨_,aaa,Zn,(aa z8 0),kk.toNat,kk.toNat,(List.replicate kk.toNat (0:Int)),uE5,?_,?_,N,H⟩
  ·exact jD.zero qf qf
  ·omega
 clear H N
 rintro ρ aKK ⟨xR,dV,cW,QF,QC,QE,mA,rfl,jh,jhp,N,H⟩
 refine t_n<|zcc<|sq 1 ?_
 have H1:=H.yD 11 2 [0,1,2,3,4,5,6,7,8,9,10] [0,1] xE xE
 have N1:Fresh _ (bL::Ns):=N
 have K1:Kept (Ns) ((qX true bL dS rules)::Γ):=K0.behind 1 J
 replace K1:=K1.cons (F:=bL) 0 J J
 refine sw<|zT #[pp bs 0,yI 5] J J call58 (dOne_ok ag dV cW bs ac cc Fc (5:Int) H1 N1 K1 qg) ?_
 clear H H1 N1 K1
 rintro _ aIO ⟨Vn,aan,aE2,aGq,rfl,N,H⟩
 refine zjn<|c_cut (fun ρ w497=>∃(xR:Env) (cC:Int) (cF:Int) (Q8:yOA) (Q5:Nat) (Q7:Nat) (oD:yLI),ρ=upd (upd (upd (upd (upd xR 0<|pp bs 0) 1<|pp bY 0) 4<|pp b1 0) 5<|yI par.length) 6 (pp b7 0)/\(jD kk 1 oD)/\(ip<=cC/\cC<=ip+118)/\Fresh W0.heap.size (bL::Ns)/\St W0 w497 ((.box bs [Sv ac ag.length cc,yI cC,.int .u64 cF] 116)::(rr dP dl.length dO 2 1<|dl.map<|Value.int .i64)::(rr dE da.length dG 2 1<|da.map<|Value.int .i64)::(.box b7 [yI nJ,yI 0,Sv l8 lW.length lV,Sv QF QC QE,Sv Q8 Q5 Q7,Sv dE da.length dG,Sv dP dl.length dO,yN,Bv false] 110)::(rr Q8 Q5 Q7 2 1<|oD.map<|Value.int .i64)::(rr QF QC QE 2 1<|mA.map<|Value.int .i64)::(rr l8 lW.length lV 2 1<|lW.map<|Value.int .i64)::(.box b1 [yI 0,yI 0,yN,yN,yN,yN,yN,yN,Bv false] 110)::(.box bY [yI kk,Sv kL par.length kM,Sv kJ rules.length kK] 27)::(rr kL par.length kM 2 1<|par.map<|Value.int .i64)::(rr kJ rules.length kK 110 9 dS)::ps) ((sF false Fc ac cc ag)::(qX true bL dS rules)::Γ)) ?_ ?_
 ·refine vP _ J (fun ado=>?_) (fun ado=>?_)
  ·refine zf (sq 3<|oF J<|oL J (H.cell 8 J J) ?_)
   have H1:=H.yD 11 2 [0,1,2,3,4,5,6,7,8,9,10] [0,1] xE xE
   have N1:Fresh _ (bL::Ns):=N
   have K1:Kept (Ns) ((qX true bL dS rules)::Γ):=K0.behind 1 J
   replace K1:=K1.cons (F:=bL) 0 J J
   refine sw<|zT #[pp bs 0,yI kk,yI 1] J J call146 (XB ag Vn aan bs ac cc Fc kk (1:Int) H1 N1 K1 qg qg qg) ?_
   clear H H1 N1 K1
   rintro _ aJQ ⟨ako,aq3,MN,YW,aG5,Yy,aFr,aFt,rfl,N,H⟩
   obtain rfl:=H.yt 1 rfl
   refine oF J<|sw<|zn H 4 [yI nJ,yI 0,Sv l8 lW.length lV,Sv QF QC QE,Sv YW MN.length Yy,Sv dE da.length dG,Sv dP dl.length dO,yN,Bv false] sizeOf24 fun aMJ H=>?_
   dsimp only[List.set] at H
   refine xX<|meet ⟨_,ako,aq3,YW,MN.length,Yy,MN,uE5,?_,?_,N,H.xG 12 2 (0::2::3::4::1::zR 6 6) [0,1] xE xE⟩
   ·exact(‹jD kk 1 _/\_›).1
   ·omega
  refine xe<|meet ⟨_,Vn,aan,(aa ue 0),kk.toNat,kk.toNat,(List.replicate kk.toNat (0:Int)),uE5,?_,?_,N,H⟩
  ·exact jD.zero qf qf
  ·omega
 clear H N
 rintro ρ aIK ⟨xR,cC,cF,Q8,Q5,Q7,oD,rfl,jl,jlp,N,H⟩
 refine t_n<|zcc<|sq 1 ?_
 have H1:=H.yD 11 2 [0,1,2,3,4,5,6,7,8,9,10] [0,1] xE xE
 have N1:Fresh _ (bL::Ns):=N
 have K1:Kept (Ns) ((qX true bL dS rules)::Γ):=K0.behind 1 J
 replace K1:=K1.cons (F:=bL) 0 J J
 refine sw<|zT #[pp bs 0,yI 4] J J call58 (dOne_ok ag cC cF bs ac cc Fc (4:Int) H1 N1 K1 qg) ?_
 clear H H1 N1 K1
 rintro _ aKl ⟨aaO,Wv,aGa,aHg,rfl,N,H⟩
 refine zjn<|c_cut (fun ρ w517=>∃(xR:Env) (dI:Int) (eG:Int) (dW:Int),ρ=upd (upd (upd (upd (upd xR 0<|pp bs 0) 1<|pp bY 0) 4<|pp b1 0) 5<|yI par.length) 6 (pp b7 0)/\(0<=dW/\dW<=2)/\(ip<=dI/\dI<=ip+122)/\Fresh W0.heap.size (bL::Ns)/\St W0 w517 ((.box bs [Sv ac ag.length cc,yI dI,.int .u64 eG] 116)::(rr dP dl.length dO 2 1<|dl.map<|Value.int .i64)::(rr dE da.length dG 2 1<|da.map<|Value.int .i64)::(.box b7 [yI nJ,yI dW,Sv l8 lW.length lV,Sv QF QC QE,Sv Q8 Q5 Q7,Sv dE da.length dG,Sv dP dl.length dO,yN,Bv false] 110)::(rr Q8 Q5 Q7 2 1<|oD.map<|Value.int .i64)::(rr QF QC QE 2 1<|mA.map<|Value.int .i64)::(rr l8 lW.length lV 2 1<|lW.map<|Value.int .i64)::(.box b1 [yI 0,yI 0,yN,yN,yN,yN,yN,yN,Bv false] 110)::(.box bY [yI kk,Sv kL par.length kM,Sv kJ rules.length kK] 27)::(rr kL par.length kM 2 1<|par.map<|Value.int .i64)::(rr kJ rules.length kK 110 9 dS)::ps) ((sF false Fc ac cc ag)::(qX true bL dS rules)::Γ)) ?_ ?_
 ·refine vP _ J (fun aA2=>?_) (fun aA2=>?_)
  ·refine zf (sq 1 ?_)
   have H1:=H.yD 11 2 [0,1,2,3,4,5,6,7,8,9,10] [0,1] xE xE
   have N1:Fresh _ (bL::Ns):=N
   have K1:Kept (Ns) ((qX true bL dS rules)::Γ):=K0.behind 1 J
   replace K1:=K1.cons (F:=bL) 0 J J
   refine sw<|zT #[pp bs 0,yI 3] J J call59 (Qb ag aaO Wv bs ac cc Fc (3:Int) H1 N1 K1 qg) ?_
   clear H H1 N1 K1
   rintro _ aMr ⟨ala,aqo,aaK,aFd,aHa,rfl,N,H⟩
   refine oF J<|sw<|zn H 3 [yI nJ,yI aaK,Sv l8 lW.length lV,Sv QF QC QE,Sv Q8 Q5 Q7,Sv dE da.length dG,Sv dP dl.length dO,yN,Bv false] sizeOf2 fun aP0 H=>?_
   dsimp only[List.set] at H
   refine xX<|meet ⟨_,ala,aqo,aaK,uE5,?_,?_,N,H⟩
   ·omega
   ·omega
  refine xe<|meet ⟨_,aaO,Wv,0,uE5,?_,?_,N,H⟩
  ·omega
  ·omega
 clear H N
 rintro ρ aIY ⟨xR,dI,eG,dW,rfl,jr,jrp,N,H⟩
 refine t_n<|zcc<|sp (yI 1)<|zjn<|xg ?_
 replace H:=H.nilRow 161 2
 replace H:=H.yF (α:=IntoD)
 refine vk ((fun Z0 Z1 Z2 Z3 Z4 Z5 Z6 Z7 Z8 Z9 dU=>fun m' ρ azn=>∃(xR:Env) (c:Nat) (kO:Int) (j9:Int) (XQ:yOA) (Qm:Nat) (XO:Nat) (ii:List IntoD) (em:List Value) (Xp:yLN),ρ=upd (upd (upd (upd (upd (upd xR 0<|pp bs 0) 1<|pp bY 0) 4<|pp b1 0) 5<|yI par.length) 6<|pp b7 0) 7 (yI c)/\((c:Int)<=par.length)/\(ip<=kO/\kO<=ip+126+26*c)/\(1<=(c:Int))/\(ii.length<=3/\IntoDr kk par nJ ii c)/\m'=(par.length-(c:Int)).toNat/\Fresh W0.heap.size (bL::Xp::Ns)/\St W0 azn ((rr XQ Qm XO 161 2 em)::(.box bs [Sv ac ag.length cc,yI kO,.int .u64 j9] 116)::Z0::Z1::(.box b7 [yI nJ,yI dW,Sv l8 lW.length lV,Sv QF QC QE,Sv Q8 Q5 Q7,Sv dE da.length dG,Sv dP dl.length dO,Sv XQ Qm XO,Bv false] 110)::Z2::Z3::Z4::Z5::Z6::Z7::Z8::ps) ((qX true Xp em ii)::Z9::dU::Γ)) _ _ _ _ _ _ _ _ _ _ _) ((par.length-(1:Int)).toNat) ⟨_,1,dI,eG,none,0,0,([]:List IntoD),[],[],uE6,qf,qf,qf,(by exact⟨by simp,IntoDr.nil _ _ _ _⟩),J,(N.emp.xG 2 [1,0] xE),H⟩ ?_
 clear H N
 rintro m' ρ aLi ⟨xR,c,kO,j9,XQ,Qm,XO,ii,em,Xp,rfl,i0,i1,i2,i3,rfl,N,H⟩
 have aeT:=H.xf (α:=IntoD) 0 J 0 J qj
 refine zcc<|sp (yI c)<|sq 2<|zjn<|cD J (fun aC5=>?_)<|fun aC5=>?_
 ·refine xe (t_n<|xO<|xg<|zcr<|sq 1<|sp (yI c)<|oF J<|oL J (H.cell 4 J J) ?_)
  obtain⟨aOI,aEb,aAp⟩:=H.Xv 10 rfl
  obtain⟨aN2,aEg,aCZ⟩:=H.Vd (α:=yz) 11 rfl 2 rfl qj
  have c1:CellIn (⟨kk,par,rules⟩:qJ) c:=⟨by show (0:Int)<=c;omega,by show (c:Int)<=(par.length:Int)-1;omega⟩
  refine sw<|oq (l02In_ok _ (⟨kk,par,rules⟩:qJ) c nJ (qH (H.cells 9 J) 0 3) aAp aCZ ql ql) H fun aNt H=>sp (Bv<|dec<|Lies (⟨kk,par,rules⟩:qJ).qA nJ c) ?_
  cases Tq:(dec (Lies (⟨kk,par,rules⟩:qJ).qA nJ c))
  ·replace Tq:=vS Tq
   refine zk (zR 81 4)<|sp (Bv false)<|sp (Bv false)<|zk [87,88]<|sp (Bv false)<|zjn<|cFr J<|xe<|b_n<|t_n<|zf<|sp (yI c)<|sw<|zY c 1 J J qf<|sq 1<|xX<|xu (m':=(par.length-((c+1):Int)).toNat) qf ⟨_,c+1,_,_,_,_,_,_,_,_,uE6,?_,?_,?_,?_,J,N,H⟩
   ·omega
   ·omega
   ·omega
   ·exact⟨by omega,i3.2.mono qf⟩
  replace Tq:=Qy Tq
  refine qP 80 J J<|oF J<|qP 80 J J<|oL J (H.cell 4 J J)<|qP 80 J J<|oN J<|qP 80 J J<|sp (Bv<|decide ((Qm:Int)<3))<|sp (Bv<|decide ((Qm:Int)<3))<|sp (Bv<|decide ((Qm:Int)<3)) ?_
  cases Td:(decide ((Qm:Int)<3))
  ·replace Td:=of_decide_eq_false Td
   refine zk [87,88]<|sp (Bv false)<|zjn<|cFr J<|xe<|b_n<|t_n<|zf<|sp (yI c)<|sw<|zY c 1 J J qf<|sq 1<|xX<|xu (m':=(par.length-((c+1):Int)).toNat) qf ⟨_,c+1,_,_,_,_,_,_,_,_,uE6,?_,?_,?_,?_,J,N,H⟩
   ·omega
   ·omega
   ·omega
   ·exact⟨by omega,i3.2.mono qf⟩
  replace Td:=of_decide_eq_true Td
  refine qP 86 J J<|sq 1<|qP 86 J J ?_
  have H1:=H.yD 12 3 [1,0,2,3,4,5,6,7,8,9,10,11] [1,0,2] xE xE
  have N1:Fresh _ (bL::Xp::Ns):=N
  have K1:Kept (Ns) ((qX true Xp em ii)::(qX true bL dS rules)::Γ):=K0.behind 2 J
  replace K1:=K1.cons (F:=Xp) 0 J J
  replace K1:=K1.cons (F:=bL) 1 J J
  refine sw<|zT #[pp bs 0,yI 3] J J call58 (dOne_ok ag kO j9 bs ac cc Fc (3:Int) H1 N1 K1 qg) ?_
  clear H H1 N1 K1
  rintro _ aKC ⟨G3,aat,Xs,aEf,rfl,N,H⟩
  refine sp (Bv Xs)<|zjn<|vP _ J (fun aBi=>?_)<|fun aBi=>?_
  ·refine c_cut (fun ρ w556=>∃(xR:Env) (G4:Int) (uo:yLI) (aaF:Int) (abS:yOA) (adQ:Nat) (IJ:yOA) (In:Nat) (Um:yLN),ρ=upd (upd (upd (upd (upd (upd (upd (upd (upd (upd (upd (upd xR 0<|pp bs 0) 1<|pp bY 0) 4<|pp b1 0) 5<|yI par.length) 6<|pp b7 0) 7<|yI c) 81<|pp b7<|0+7) 82<|Sv XQ Qm XO) 83<|yI Qm) 84<|Bv true) 87<|pp bs 0) 88 (Bv Xs)/\(G3<=G4/\G4<=G3+24)/\(jD kk (1:Int) uo/\Yk uo≠0)/\Fresh W0.heap.size ((Xp++Um)::bL::Ns)/\St W0 w556 ((.box bs [Sv ac ag.length cc,yI G4,.int .u64 aaF] 116)::(rr abS (Qm+1) adQ 161 2<|em++[yI c,Sv IJ uo.length In])::(rr dP dl.length dO 2 1<|dl.map<|Value.int .i64)::(rr dE da.length dG 2 1<|da.map<|Value.int .i64)::(.box b7 [yI nJ,yI dW,Sv l8 lW.length lV,Sv QF QC QE,Sv Q8 Q5 Q7,Sv dE da.length dG,Sv dP dl.length dO,Sv abS (Qm+1) adQ,Bv false] 110)::(rr Q8 Q5 Q7 2 1<|oD.map<|Value.int .i64)::(rr QF QC QE 2 1<|mA.map<|Value.int .i64)::(rr l8 lW.length lV 2 1<|lW.map<|Value.int .i64)::(.box b1 [yI 0,yI 0,yN,yN,yN,yN,yN,yN,Bv false] 110)::(.box bY [yI kk,Sv kL par.length kM,Sv kJ rules.length kK] 27)::(rr kL par.length kM 2 1<|par.map<|Value.int .i64)::(rr kJ rules.length kK 110 9 dS)::ps) ((qX true (Xp++Um) (em++[yI c,Sv IJ uo.length In])<|ii++[(⟨c,uo⟩:IntoD)])::(sF true Um IJ In uo)::(sF false Fc ac cc ag)::(qX true bL dS rules)::Γ)) ?_ ?_
   ·refine c_drawK2 J H [2,3,5,6,7,8,9,10,11] [0,1,2] fun H=>?_
    have S:=H.ve (2::3::zR 5 7) [0,1,2]
    refine tF 0 J J S ?_
    refine rtp 2 (yI c) S ?_
    refine rtl 3 S ?_
    refine rtl 4 S ?_
    refine rtl 5 S ?_
    refine tF 6 J J S ?_
    refine tL 7 J J (fun _ h=>h.cell 6 J J) S ?_
    refine jw [1,8] qh qm<|yl J ?_<|yl J ?_ jy
    ·refine zx (Sv XQ Qm XO) isAgg108 J (H.cell 4 J J) (⟨H.pick (2::3::zR 5 7) [0,1,2],(ro 8 J ?_)⟩)
     have H1:=H.yD 12 3 [0,1,2,3,4,5,6,7,8,9,10,11] [0,1,2] xE xE
     have N1:Fresh _ (bL::Xp::Ns):=N
     have K1:Kept (Ns) ((qX true Xp em ii)::(qX true bL dS rules)::Γ):=K0.behind 2 J
     replace K1:=K1.cons (F:=Xp) 0 J J
     replace K1:=K1.cons (F:=bL) 1 J J
     refine zT #[pp bs 0,yI kk,yI 1] J J call146 (XB ag G3 aat bs ac cc Fc kk (1:Int) H1 N1 K1 qg qg qg) ?_
     clear H H1 N1 K1
     rintro _ aNJ ⟨amR,aqd,Ik,Jb,aHE,Je,ajN,aoK,rfl,N,H⟩
     obtain rfl:=H.yt 1 rfl
     refine⟨H.pick (3::4::zR 6 7) [0,1,2],(ro 9 rfl<|vZ [yI c,Sv Jb Ik.length Je] [(0,yI c),(1,Sv Jb Ik.length Je)]<|⟨H.pick (3::4::zR 6 7) [0,1,2],(ro 10 rfl<|zH H underlying108 ti161 [yI c,Sv Jb Ik.length Je] fun aMb aPl H=>⟨H.pick (4::5::zR 7 7) [0,1,2],(ro 11 rfl ?_)⟩)⟩)⟩
     obtain⟨awh,N,aFi,H⟩:=H.vJ 2 rfl N<|H.awB [2,1] 3 K0
     dsimp only[List.set] at H
     refine zQ H 3 J 0 J underlying108 ti161 J qj J J J qw qp qf fun arH aip aO9 H=>?_
     dsimp only[List.set] at H
     replace H:=H.snoc_IntoD 2 J c 0 J
     replace N:=(N.Xr 3 [2,0,1]).join
     refine⟨H.pick (4::5::zR 7 7) [2,3,4],(tF 12 J J (H.pick (4::5::zR 7 7) [2,3,4]) ?_)⟩
     refine ro 13 J<|zn H 6 [yI nJ,yI dW,Sv l8 lW.length lV,Sv QF QC QE,Sv Q8 Q5 Q7,Sv dE da.length dG,Sv dP dl.length dO,Sv arH (Qm+1) aip,Bv false] sizeOf108 fun aMT H=>?_
     dsimp only[List.set] at H
     refine⟨H.pick (4::5::zR 7 7) [2,3,4],(xx qh ((meet ⟨_,amR,Ik,aqd,arH,aip,Jb,Je,awh,uE12,ajN,aoK,N,H.xG 14 5 (1::zR 3 11) [0,1,2,4] xE xE⟩)))⟩
    have H1:=H.yD 12 3 [0,1,2,3,4,5,6,7,8,9,10,11] [0,1,2] xE xE
    have N1:Fresh _ (bL::Xp::Ns):=N
    have K1:Kept (Ns) ((qX true Xp em ii)::(qX true bL dS rules)::Γ):=K0.behind 2 J
    replace K1:=K1.cons (F:=Xp) 0 J J
    replace K1:=K1.cons (F:=bL) 1 J J
    refine zT #[pp bs 0,yI kk,yI 1] J J call146 (XB ag G3 aat bs ac cc Fc kk (1:Int) H1 N1 K1 qg qg qg) ?_
    clear H H1 N1 K1
    rintro _ aPv ⟨NS,PF,oj,nX,aEt,n0,NN,Nv,rfl,N,H⟩
    obtain rfl:=H.yt 1 rfl
    refine⟨H.pick (3::4::zR 6 7) [0,1,2],(jw [1,9] qh qm<|yl J ?_<|yl J ?_ jy)⟩
    ·refine zx (Sv XQ Qm XO) isAgg108 rfl (H.cell 5 rfl rfl) (⟨H.pick (3::4::zR 6 7) [0,1,2],(ro 9 rfl<|vZ [yI c,Sv nX oj.length n0] [(0,yI c),(1,Sv nX oj.length n0)]<|⟨H.pick (3::4::zR 6 7) [0,1,2],(ro 10 rfl<|zH H underlying108 ti161 [yI c,Sv nX oj.length n0] fun aKt aNP H=>⟨H.pick (4::5::zR 7 7) [0,1,2],(ro 11 rfl ?_)⟩)⟩)⟩)
     obtain⟨aAY,N,aE8,H⟩:=H.vJ 2 rfl N<|H.awB [2,1] 3 K0
     dsimp only[List.set] at H
     refine zQ H 3 J 0 J underlying108 ti161 J qj J J J qw qp qf fun ap1 ak6 aL5 H=>?_
     dsimp only[List.set] at H
     replace H:=H.snoc_IntoD 2 J c 0 J
     replace N:=(N.Xr 3 [2,0,1]).join
     refine⟨H.pick (4::5::zR 7 7) [2,3,4],(tF 12 J J (H.pick (4::5::zR 7 7) [2,3,4]) ?_)⟩
     refine ro 13 J<|zn H 6 [yI nJ,yI dW,Sv l8 lW.length lV,Sv QF QC QE,Sv Q8 Q5 Q7,Sv dE da.length dG,Sv dP dl.length dO,Sv ap1 (Qm+1) ak6,Bv false] sizeOf108 fun aKj H=>?_
     dsimp only[List.set] at H
     refine⟨H.pick (4::5::zR 7 7) [2,3,4],(xx qh ((meet ⟨_,NS,oj,PF,ap1,ak6,nX,n0,aAY,uE12,NN,Nv,N,H.xG 14 5 (1::zR 3 11) [0,1,2,4] xE xE⟩)))⟩
    refine vZ [yI c,Sv nX oj.length n0] [(0,yI c),(1,Sv nX oj.length n0)]<|⟨H.pick (3::4::zR 6 7) [0,1,2],(jw [1,10] qh qm<|yl rfl ?_<|yl rfl ?_ jy)⟩
    ·refine zx (Sv XQ Qm XO) isAgg108 J (H.cell 5 J J) (⟨H.pick (3::4::zR 6 7) [0,1,2],(ro 10 J<|zH H underlying108 ti161 [yI c,Sv nX oj.length n0] fun aNR aOa H=>⟨H.pick (4::5::zR 7 7) [0,1,2],(ro 11 J ?_)⟩)⟩)
     obtain⟨aB8,N,aH8,H⟩:=H.vJ 2 rfl N<|H.awB [2,1] 3 K0
     dsimp only[List.set] at H
     refine zQ H 3 J 0 J underlying108 ti161 J qj J J J qw qp qf fun asr ajC aQL H=>?_
     dsimp only[List.set] at H
     replace H:=H.snoc_IntoD 2 J c 0 J
     replace N:=(N.Xr 3 [2,0,1]).join
     refine⟨H.pick (4::5::zR 7 7) [2,3,4],(tF 12 J J (H.pick (4::5::zR 7 7) [2,3,4]) ?_)⟩
     refine ro 13 J<|zn H 6 [yI nJ,yI dW,Sv l8 lW.length lV,Sv QF QC QE,Sv Q8 Q5 Q7,Sv dE da.length dG,Sv dP dl.length dO,Sv asr (Qm+1) ajC,Bv false] sizeOf108 fun aPm H=>?_
     dsimp only[List.set] at H
     refine⟨H.pick (4::5::zR 7 7) [2,3,4],(xx qh ((meet ⟨_,NS,oj,PF,asr,ajC,nX,n0,aB8,uE12,NN,Nv,N,H.xG 14 5 (1::zR 3 11) [0,1,2,4] xE xE⟩)))⟩
    refine zH H underlying108 ti161 [yI c,Sv nX oj.length n0] fun aL3 aNU H=>⟨H.pick (4::5::zR 7 7) [0,1,2],(ro 1 rfl<|zx (Sv XQ Qm XO) isAgg108 rfl (H.cell 6 rfl rfl)<|⟨H.pick (4::5::zR 7 7) [0,1,2],(ro 11 rfl ?_)⟩)⟩
    obtain⟨aAZ,N,aIh,H⟩:=H.vJ 2 rfl N<|H.awB [2,1] 3 K0
    dsimp only[List.set] at H
    refine zQ H 3 J 0 J underlying108 ti161 J qj J J J qw qp qf fun apq asq aI9 H=>?_
    dsimp only[List.set] at H
    replace H:=H.snoc_IntoD 2 J c 0 J
    replace N:=(N.Xr 3 [2,0,1]).join
    refine⟨H.pick (4::5::zR 7 7) [2,3,4],(tF 12 J J (H.pick (4::5::zR 7 7) [2,3,4]) ?_)⟩
    refine ro 13 J<|zn H 6 [yI nJ,yI dW,Sv l8 lW.length lV,Sv QF QC QE,Sv Q8 Q5 Q7,Sv dE da.length dG,Sv dP dl.length dO,Sv apq (Qm+1) asq,Bv false] sizeOf108 fun aQq H=>?_
    dsimp only[List.set] at H
    refine⟨H.pick (4::5::zR 7 7) [2,3,4],(xx qh ((meet ⟨_,NS,oj,PF,apq,asq,nX,n0,aAZ,uE12,NN,Nv,N,H.xG 14 5 (1::zR 3 11) [0,1,2,4] xE xE⟩)))⟩
   clear H N
   rintro ρ aPE ⟨xR,G4,uo,aaF,abS,adQ,IJ,In,Um,rfl,aE1,aGY,N,H⟩
   refine b_n<|t_n<|zf<|sp (yI c)<|sw<|zY c 1 J J qf<|sq 1<|xX<|xu (m':=(par.length-((c+1):Int)).toNat) qf ⟨_,c+1,_,_,_,_,_,_,_,_,uE6,?_,?_,?_,?_,J,(N.xG 2 [1,0] xE),H.xG 12 4 (1::0::zR 2 10) [0,2,3] xE xE⟩
   ·omega
   ·omega
   ·omega
   ·exact⟨by simp;omega,i3.2.snoc qf ‹Lies par _ _› (‹jD kk 1 _/\_›).1 (‹jD kk 1 _/\_›).2⟩
  refine xe<|b_n<|t_n<|zf<|sp (yI c)<|sw<|zY c 1 J J qf<|sq 1<|xX<|xu (m':=(par.length-((c+1):Int)).toNat) qf ⟨_,c+1,_,_,_,_,_,_,_,_,uE6,?_,?_,?_,?_,J,N,H.xG 12 3 (1::0::zR 2 10) [1,0,2] xE xE⟩
  ·omega
  ·omega
  ·omega
  ·exact⟨by omega,i3.2.mono qf⟩
 refine zx4<|zcr<|oF J<|oL J (H.cell 4 J J)<|sp (Bv<|decide ((nJ:Int)>0))<|sp (Bv<|decide ((nJ:Int)>0)) ?_
 cases S7:(decide ((nJ:Int)>0))
 ·replace S7:=of_decide_eq_false S7
  refine zk [107,108]<|sp (Bv false)<|oF J<|sw<|zn H 4 [yI nJ,yI dW,Sv l8 lW.length lV,Sv QF QC QE,Sv Q8 Q5 Q7,Sv dE da.length dG,Sv dP dl.length dO,Sv XQ Qm XO,Bv false] sizeOf4 fun aMd H=>?_
  dsimp only[List.set] at H
  refine zjc<|sw<|xW [yI nJ,yI dW,Sv l8 lW.length lV,Sv QF QC QE,Sv Q8 Q5 Q7,Sv dE da.length dG,Sv dP dl.length dO,Sv XQ Qm XO,Bv false] isAgg110 sizeOf110 J (qH (H.cells 4 J) 0 9)<|sw<|xZ H 8 [yI nJ,yI dW,Sv l8 lW.length lV,Sv QF QC QE,Sv Q8 Q5 Q7,Sv dE da.length dG,Sv dP dl.length dO,Sv XQ Qm XO,Bv false] sizeOf110 fun aOv H=>?_
  dsimp only[List.set] at H
  refine zjr<|retC H 8 J J isAgg110 sizeOf110 J ⟨_,J,?_⟩
  have he:(c:Int)=par.length:=by omega
  exact⟨kO,j9,nJ,dW,lW,mA,oD,da,dl,ii,false,l8,lW.length,lV,QF,QC,QE,Q8,Q5,Q7,dE,da.length,dG,dP,dl.length,dO,XQ,Qm,XO,em,Xp,qf,(by exact ruleDr_of qf qg (by exact(fun h=>by cases h)) ql jh jl ql ql ⟨i3.1,he▸i3.2⟩),rfl,N,H.xG 12 3 [1,9,10,11,7,6,5,3,2,0] [1,2,0] xE xE⟩
 replace S7:=of_decide_eq_true S7
 refine qP 106 J J<|sq 1<|qP 106 J J ?_
 have H1:=H.yD 12 3 [1,0,2,3,4,5,6,7,8,9,10,11] [1,0,2] xE xE
 have N1:Fresh _ (bL::Xp::Ns):=N
 have K1:Kept (Ns) ((qX true Xp em ii)::(qX true bL dS rules)::Γ):=K0.behind 2 J
 replace K1:=K1.cons (F:=Xp) 0 J J
 replace K1:=K1.cons (F:=bL) 1 J J
 refine sw<|zT #[pp bs 0,yI 6] J J call58 (dOne_ok ag kO j9 bs ac cc Fc (6:Int) H1 N1 K1 qg) ?_
 clear H H1 N1 K1
 rintro _ aKZ ⟨arI,ahq,Eg,aFj,rfl,N,H⟩
 refine sp (Bv Eg)<|oF J<|sw<|zn H 4 [yI nJ,yI dW,Sv l8 lW.length lV,Sv QF QC QE,Sv Q8 Q5 Q7,Sv dE da.length dG,Sv dP dl.length dO,Sv XQ Qm XO,Bv Eg] sizeOf4 fun aKw H=>?_
 dsimp only[List.set] at H
 refine zjc<|sw<|xW [yI nJ,yI dW,Sv l8 lW.length lV,Sv QF QC QE,Sv Q8 Q5 Q7,Sv dE da.length dG,Sv dP dl.length dO,Sv XQ Qm XO,Bv Eg] isAgg110 sizeOf110 J (qH (H.cells 4 J) 0 9)<|sw<|xZ H 8 [yI nJ,yI dW,Sv l8 lW.length lV,Sv QF QC QE,Sv Q8 Q5 Q7,Sv dE da.length dG,Sv dP dl.length dO,Sv XQ Qm XO,Bv Eg] sizeOf110 fun aKd H=>?_
 dsimp only[List.set] at H
 refine zjr<|retC H 8 J J isAgg110 sizeOf110 J ⟨_,J,?_⟩
 have he:(c:Int)=par.length:=by omega
 exact⟨arI,ahq,nJ,dW,lW,mA,oD,da,dl,ii,Eg,l8,lW.length,lV,QF,QC,QE,Q8,Q5,Q7,dE,da.length,dG,dP,dl.length,dO,XQ,Qm,XO,em,Xp,qf,(by exact ruleDr_of qf qg (by exact(fun _=>by omega)) ql jh jl ql ql ⟨i3.1,he▸i3.2⟩),J,N,H.xG 12 3 [0,9,10,11,7,6,5,3,2,1] [0,2,1] xE xE⟩
theorem dSystem_ok(ag:List UInt8)(ip:Int)(sd:Int)(bs:Nat)(ac:yOA)(cc:Nat)(Fc:yLN)(H:St W0 w ((.box bs [Sv ac ag.length cc,yI ip,.int .u64 sd] 116)::ps) ((sF false Fc ac cc ag)::Γ))(N:Fresh W0.heap.size (Ns))(K0:Kept Ns Γ)(q0:0<=ip/\ip<=50000):Calls Tryz.prog 57 #[pp bs 0] w (fun e w'=>∃v,e=.returned v/\∃(lA:Int) (B5:Int) (Ry:Int) (tK:yLI) (gp:List yz) (YH:yOA) (ZO:Nat) (Ym:Nat) (dN:yOA) (dC:Nat) (bQ:Nat) (bB:List Value) (bq:yLN),(ip<=lA/\lA<=ip+2000)/\(SysDr Ry tK gp)/\v=.agg #[yI Ry,Sv YH ZO Ym,Sv dN dC bQ]/\Fresh W0.heap.size (bq::Ns)/\St W0 w' ((.box bs [Sv ac ag.length cc,yI lA,.int .u64 B5] 116)::(rr YH ZO Ym 2 1<|tK.map<|Value.int .i64)::(rr dN dC bQ 110 9 bB)::ps) ((sF false Fc ac cc ag)::(qX true bq bB gp)::Γ)):=by
 refine en func57 ntmps57 ?_
 refine zcr<|sw<|x8 H ti27 [yI 0,yN,yN] fun b1 w2 H=>zjc<|sq 1 ?_
 have H1:=H.yD 2 1 [1,0] [0] xE xE
 have N1:Fresh _ (Ns):=N
 have K1:Kept (Ns) (Γ):=K0.behind 0 J
 refine sw<|zT #[pp bs 0,yI 3] J J call59 (Qb ag ip sd bs ac cc Fc (3:Int) H1 N1 K1 qg) ?_
 clear H H1 N1 K1
 rintro _ w3 ⟨K8,Hz,eO,hx5,hx6,rfl,N,H⟩
 refine sw<|zY 1 eO J J qf<|sw<|zH H underlying24 ti2 [yI (-1)] fun z8 z7 H=>sw<|vZ [yI<|1+eO,Sv (aa z8 0) 1 1,yN] [(0,yI<|1+eO),(1,Sv (aa z8 0) 1 1)]<|sw<|x8 H ti27 [yI 0,yN,yN] fun rB D9 H=>sw<|xZ H 0 [yI<|1+eO,Sv (aa z8 0) 1 1,yN] sizeOf27 fun TC H=>?_
 dsimp only[List.set] at H
 refine zjcc<|sq 1 ?_
 have H1:=H.yD 4 1 [2,0,1,3] [0] xE xE
 have N1:Fresh _ (Ns):=N
 have K1:Kept (Ns) (Γ):=K0.behind 0 J
 refine sw<|zT #[pp bs 0,yI 3] J J call59 (Qb ag K8 Hz bs ac cc Fc (3:Int) H1 N1 K1 qg) ?_
 clear H H1 N1 K1
 rintro _ IR ⟨Ej,Tr,GF,aJ4,Ko,rfl,N,H⟩
 refine sq 1<|zjn<|xg ?_
 replace H:=H.boxRowI 2 [(-1)] 1
 dsimp only[List.set] at H
 refine vk ((fun Z0 Z1=>fun m' ρ MJ=>∃(xR:Env) (c:Int) (dV:Int) (cW:Int) (yC:yOA) (vU:Nat) (yB:Nat) (de:yLI),ρ=upd (upd (upd (upd xR 0<|pp bs 0) 2<|pp b1 0) 3<|pp rB 0) 4 (yI c)/\(ip<=dV/\dV+2*c<=ip+8)/\(0<=c/\(de.length:Int)+c<=3)/\(ParDr de)/\m'=c.toNat/\Fresh W0.heap.size (Ns)/\St W0 MJ ((.box bs [Sv ac ag.length cc,yI dV,.int .u64 cW] 116)::(.box rB [yI<|1+eO,Sv yC vU yB,yN] 27)::(rr yC vU yB 2 1<|de.map<|Value.int .i64)::Z0::ps) (Z1::Γ)) _ _) (GF.toNat) ⟨_,GF,Ej,Tr,(aa z8 0),1,1,[(-1)],uE4,qf,qy,(by exact ParDr.one),J,N,H⟩ ?_
 clear H N
 rintro m' ρ E8 ⟨xR,c,dV,cW,yC,vU,yB,de,rfl,i1,i2,i3,rfl,N,H⟩
 have TD:=H.yt 2 J
 have i4:=i3.1
 refine zcc<|sp (yI c)<|sp (Bv<|decide ((c:Int)>0))<|zjn<|cD J (fun CW=>?_)<|fun CW=>?_
 ·refine xe (t_n<|xO<|xg<|c_cut (fun ρ Ui=>∃(xR:Env) (Uc:Int) (Nr:Int) (asI:Int) (a28:yOA) (c29:Nat),ρ=upd (upd (upd (upd xR 0<|pp bs 0) 2<|pp b1 0) 3<|pp rB 0) 4 (yI c)/\(dV<=Uc/\Uc<=dV+2)/\(0<=Nr/\(Nr<vU\/Nr=0))/\Fresh W0.heap.size (Ns)/\St W0 Ui ((.box bs [Sv ac ag.length cc,yI Uc,.int .u64 asI] 116)::(.box rB [yI<|1+eO,Sv a28 (vU+1) c29,yN] 27)::(rr a28 (vU+1) c29 2 1 ((de++[Nr]).map<|Value.int .i64))::(.box b1 [yI 0,yN,yN] 27)::ps) ((sF false Fc ac cc ag)::Γ)) ?_ ?_)
  ·refine c_drawK2 J H [3] [0] fun H=>?_
   have S:=H.ve [3] [0]
   refine tF 0 J J S ?_
   refine rtl 2 S ?_
   refine tF 3 J J S ?_
   refine jw [1,4] qh qm<|yl J ?_<|yl J ?_ jy
   ·refine zx (Sv yC vU yB) isAgg24 rfl (H.cell 1 rfl rfl) (⟨H.pick [3] [0],(ro 4 rfl<|zx (Sv yC vU yB) isAgg24 rfl (H.cell 1 rfl rfl)<|⟨H.pick [3] [0],(tN 5 rfl rfl (H.pick [3] [0]) ?_)⟩)⟩)
    refine ro 6 J ?_
    have H1:=H.yD 4 1 [0,1,2,3] [0] xE xE
    have N1:Fresh _ (Ns):=N
    have K1:Kept (Ns) (Γ):=K0.behind 0 J
    refine zT #[pp bs 0,yI vU] J J call59 (Qb ag dV cW bs ac cc Fc vU H1 N1 K1 qg) ?_
    clear H H1 N1 K1
    rintro _ Sw ⟨azm,Af,pK,aC7,av5,rfl,N,H⟩
    refine⟨H.pick [3] [0],(ro 7 J<|zH H underlying24 ti2 [yI pK] fun b39 w40 H=>⟨H.pick [4] [0],(ro 8 J<|zQ H 3 J 0 J underlying24 ti2 J qj J J J qw qp qf fun a41 c42 w43 H=>?_)⟩)⟩
    rw[snocI] at H
    dsimp only[List.set] at H
    refine⟨H.pick [4] [0],(tF 9 J J (H.pick [4] [0]) ?_)⟩
    refine ro 10 J<|zn H 2 [yI<|1+eO,Sv a41 (vU+1) c42,yN] sizeOf24 fun L7 H=>?_
    dsimp only[List.set] at H
    refine⟨H.pick [4] [0],(xx qh ((meet ⟨_,azm,pK,Af,a41,c42,uE4,aC7,av5,N,H.xG 5 1 (zR 1 4) [0] xE xE⟩)))⟩
   refine zx (Sv yC vU yB) isAgg24 rfl (H.cell 1 rfl rfl)<|⟨H.pick [3] [0],(tN 5 rfl rfl (H.pick [3] [0]) ?_)⟩
   refine jw [1,6] qh qm<|yl J ?_<|yl J ?_ jy
   ·refine zx (Sv yC vU yB) isAgg24 J (H.cell 1 J J) (⟨H.pick [3] [0],(ro 6 J ?_)⟩)
    have H1:=H.yD 4 1 [0,1,2,3] [0] xE xE
    have N1:Fresh _ (Ns):=N
    have K1:Kept (Ns) (Γ):=K0.behind 0 J
    refine zT #[pp bs 0,yI vU] J J call59 (Qb ag dV cW bs ac cc Fc vU H1 N1 K1 qg) ?_
    clear H H1 N1 K1
    rintro _ w45 ⟨aeE,adw,FG,Pd,Ct,rfl,N,H⟩
    refine⟨H.pick [3] [0],(ro 7 J<|zH H underlying24 ti2 [yI FG] fun Rq w53 H=>⟨H.pick [4] [0],(ro 8 J<|zQ H 3 J 0 J underlying24 ti2 J qj J J J qw qp qf fun a54 c55 R7 H=>?_)⟩)⟩
    rw[snocI] at H
    dsimp only[List.set] at H
    refine⟨H.pick [4] [0],(tF 9 J J (H.pick [4] [0]) ?_)⟩
    refine ro 10 J<|zn H 2 [yI<|1+eO,Sv a54 (vU+1) c55,yN] sizeOf24 fun w57 H=>?_
    dsimp only[List.set] at H
    refine⟨H.pick [4] [0],(xx qh ((meet ⟨_,aeE,FG,adw,a54,c55,uE4,Pd,Ct,N,H.xG 5 1 (zR 1 4) [0] xE xE⟩)))⟩
   have H1:=H.yD 4 1 [0,1,2,3] [0] xE xE
   have N1:Fresh _ (Ns):=N
   have K1:Kept (Ns) (Γ):=K0.behind 0 J
   refine zT #[pp bs 0,yI vU] J J call59 (Qb ag dV cW bs ac cc Fc vU H1 N1 K1 qg) ?_
   clear H H1 N1 K1
   rintro _ w58 ⟨pm,anT,SA,anP,aeM,rfl,N,H⟩
   refine⟨H.pick [3] [0],(jw [1,7] qh qm<|yl J ?_<|yl J ?_ jy)⟩
   ·refine zx (Sv yC vU yB) isAgg24 J (H.cell 1 J J) (⟨H.pick [3] [0],(ro 7 J<|zH H underlying24 ti2 [yI SA] fun NC w66 H=>⟨H.pick [4] [0],(ro 8 J<|zQ H 3 J 0 J underlying24 ti2 J qj J J J qw qp qf fun W1 c68 w69 H=>?_)⟩)⟩)
    rw[snocI] at H
    dsimp only[List.set] at H
    refine⟨H.pick [4] [0],(tF 9 J J (H.pick [4] [0]) ?_)⟩
    refine ro 10 J<|zn H 2 [yI<|1+eO,Sv W1 (vU+1) c68,yN] sizeOf24 fun w70 H=>?_
    dsimp only[List.set] at H
    refine⟨H.pick [4] [0],(xx qh ((meet ⟨_,pm,SA,anT,W1,c68,uE4,anP,aeM,N,H.xG 5 1 (zR 1 4) [0] xE xE⟩)))⟩
   refine zH H underlying24 ti2 [yI SA] fun b71 LT H=>⟨H.pick [4] [0],(ro 1 rfl<|zx (Sv yC vU yB) isAgg24 rfl (H.cell 2 rfl rfl)<|⟨H.pick [4] [0],(ro 8 rfl<|zQ H 3 rfl 0 rfl underlying24 ti2 rfl qj rfl rfl rfl qw qp qf fun a73 c74 w75 H=>?_)⟩)⟩
   rw[snocI] at H
   dsimp only[List.set] at H
   refine⟨H.pick [4] [0],(tF 9 J J (H.pick [4] [0]) ?_)⟩
   refine ro 10 J<|zn H 2 [yI<|1+eO,Sv a73 (vU+1) c74,yN] sizeOf24 fun w76 H=>?_
   dsimp only[List.set] at H
   refine⟨H.pick [4] [0],(xx qh ((meet ⟨_,pm,SA,anT,a73,c74,uE4,anP,aeM,N,H.xG 5 1 (zR 1 4) [0] xE xE⟩)))⟩
  clear H N
  rintro ρ w77 ⟨xR,Uc,Nr,asI,a28,c29,rfl,aOh,aI1,N,H⟩
  refine b_n<|t_n<|zf<|sp (yI c)<|sw<|o_sub c 1 J J qf<|sq 1<|xX<|xu (m':=(c-1).toNat) qf ⟨_,_,_,_,_,_,_,_,uE4,?_,?_,?_,J,N,H⟩
  ·omega
  ·simp;omega
  ·exact i3.snoc (by have:=i3.1;omega)
 refine zx4<|zcc<|sq 1 ?_
 have H1:=H.yD 4 1 [0,1,2,3] [0] xE xE
 have N1:Fresh _ (Ns):=N
 have K1:Kept (Ns) (Γ):=K0.behind 0 J
 refine sw<|zT #[pp bs 0,yI 6] J J call59 (Qb ag dV cW bs ac cc Fc (6:Int) H1 N1 K1 qg) ?_
 clear H H1 N1 K1
 rintro _ TO ⟨aAy,aCi,anv,aOA,aQd,rfl,N,H⟩
 refine sq 1<|zjn<|xg ?_
 replace H:=H.nilRow 110 9
 replace H:=H.yF (α:=yz)
 refine vk ((fun Z0 Z1 Z2=>fun m' ρ w87=>∃(xR:Env) (k:Int) (cC:Int) (cF:Int) (VI:yOA) (Xh:Nat) (VD:Nat) (ah:List yz) (yL:List Value) (Qp:yLN),ρ=upd (upd (upd (upd xR 0<|pp bs 0) 2<|pp b1 0) 3<|pp rB 0) 5 (yI k)/\(ip<=cC/\cC+300*k<=ip+1600)/\(0<=k/\(ah.length:Int)+k<=5)/\(QH (1+eO) de ah)/\m'=k.toNat/\Fresh W0.heap.size (Qp::Ns)/\St W0 w87 ((rr VI Xh VD 110 9 yL)::(.box bs [Sv ac ag.length cc,yI cC,.int .u64 cF] 116)::(.box rB [yI<|1+eO,Sv yC vU yB,Sv VI Xh VD] 27)::Z0::Z1::ps) ((qX true Qp yL ah)::Z2::Γ)) _ _ _) (anv.toNat) ⟨_,anv,aAy,aCi,none,0,0,([]:List yz),[],[],uE4,qf,qy,(by exact QH.nil _ _),J,N.emp,H⟩ ?_
 clear H N
 rintro m' ρ w88 ⟨xR,k,cC,cF,VI,Xh,VD,ah,yL,Qp,rfl,j1,j2,j3,rfl,N,H⟩
 have GE:=H.xf (α:=yz) 0 J 0 J qj
 refine zcc<|sp (yI k)<|sp (Bv<|decide ((k:Int)>0))<|zjn<|cD J (fun h89=>?_)<|fun h89=>?_
 ·refine xe (t_n<|xO<|xg<|c_cut (fun ρ Q1=>∃(xR:Env) (Mt:Int) (Gr:Int) (FV:Int) (JS:yLI) (JB:yLI) (Jw:yLI) (Kd:yLI) (Lr:yLI) (Ky:List IntoD) (Pu:Bool) (V1:Int) (aeQ:yOA) (adi:Nat) (HP:yOA) (Hk:Nat) (Aj:yOA) (CZ:Nat) (Jf:yOA) (HT:Nat) (Ay:yOA) (IV:Nat) (G6:yOA) (GW:Nat) (If:yOA) (I6:Nat) (K3:yLN) (Rf:yLN) (Uq:yLN) (Tm:yLN) (z6:yLN) (TS:yLN),ρ=upd (upd (upd (upd xR 0<|pp bs 0) 2<|pp b1 0) 3<|pp rB 0) 5 (yI k)/\(cC<=Mt/\Mt<=cC+300)/\(RuleDr (1+eO) de ⟨Gr,FV,JS,JB,Jw,Kd,Lr,Ky,Pu⟩)/\Fresh W0.heap.size ((Qp++(K3++Rf++Uq++Tm++z6++TS))::Ns)/\St W0 Q1 ((.box bs [Sv ac ag.length cc,yI Mt,.int .u64 V1] 116)::(.box rB [yI<|1+eO,Sv yC vU yB,Sv aeQ (Xh+1) adi] 27)::(rr yC vU yB 2 1<|de.map<|Value.int .i64)::(rr aeQ (Xh+1) adi 110 9<|yL++[yI Gr,yI FV,Sv HP JS.length Hk,Sv Aj JB.length CZ,Sv Jf Jw.length HT,Sv Ay Kd.length IV,Sv G6 Lr.length GW,Sv If Ky.length I6,Bv Pu])::(.box b1 [yI 0,yN,yN] 27)::ps) ((qX true (Qp++(K3++Rf++Uq++Tm++z6++TS)) (yL++[yI Gr,yI FV,Sv HP JS.length Hk,Sv Aj JB.length CZ,Sv Jf Jw.length HT,Sv Ay Kd.length IV,Sv G6 Lr.length GW,Sv If Ky.length I6,Bv Pu])<|ah++[(⟨Gr,FV,JS,JB,Jw,Kd,Lr,Ky,Pu⟩:yz)])::(sF true TS If I6 Ky)::(sF true z6 G6 GW Lr)::(sF true Tm Ay IV Kd)::(sF true Uq Jf HT Jw)::(sF true Rf Aj CZ JB)::(sF true K3 HP Hk JS)::(sF false Fc ac cc ag)::Γ)) ?_ ?_)
  ·refine c_drawK2 J H [3,4] [0,1] fun H=>?_
   have S:=H.ve [3,4] [0,1]
   refine tF 0 J J S ?_
   refine rtl 2 S ?_
   refine jw [1,3] qh qm<|yl J ?_<|yl J ?_ jy
   ·refine zx (Sv VI Xh VD) isAgg25 J (H.cell 2 J J) (⟨H.pick [3,4] [0,1],(ro 3 J ?_)⟩)
    have f0:yf (⟨1+eO,de,ah⟩:qJ):=frame_of i3 qf qf
    have H1:=H.yD 5 2 [1,2,3,0,4] [1,0] xE xE
    have N1:Fresh _ (Qp::Ns):=N
    have K1:Kept (Ns) (Γ):=K0.behind 0 J
    refine zT #[pp bs 0,pp rB 0] J J call99 (dRule_ok ag cC cF bs ac cc Fc (1+eO) de ah rB yC vU yB VI Xh VD yL Qp H1 N1 K1 qg qg) ?_
    clear H H1 N1 K1
    rintro _ M5 ⟨OC,alD,Pn,Np,Wi,WP,aaM,um,Wd,YV,Od,U7,aar,Yr,U2,aHO,Zf,aaQ,apX,UH,uJ,ajp,x2,U4,aHT,U9,YY,aG9,UZ,aEP,aIk,Mp,ahF,rfl,N,H⟩
    obtain rfl:=H.yt 4 rfl
    obtain rfl:=H.yt 5 rfl
    obtain rfl:=H.yt 6 rfl
    obtain rfl:=H.yt 7 rfl
    obtain rfl:=H.yt 8 rfl
    obtain rfl:=H.xf (α:=IntoD) 9 rfl 2 rfl qj
    refine⟨H.pick [2,10] [1,0],(ro 4 J<|zH H underlying25 ti110 [yI Pn,yI Np,Sv U7 Wi.length Yr,Sv U2 WP.length Zf,Sv aaQ aaM.length UH,Sv uJ um.length x2,Sv U4 Wd.length U9,Sv YY YV.length UZ,Bv Od] fun aDF abp H=>⟨H.pick [3,11] [1,0],(ro 5 J ?_)⟩)⟩
    obtain⟨SC,N,ai8,H⟩:=H.vJ 5 rfl N<|H.awB [1,2] 3 K0
    dsimp only[List.set] at H
    obtain⟨apC,N,arM,H⟩:=H.vJ 6 rfl N<|H.awB [0,2,3] 4 K0
    dsimp only[List.set] at H
    obtain⟨aAD,N,aH1,H⟩:=H.vJ 7 rfl N<|H.awB [0,1,3,4] 5 K0
    dsimp only[List.set] at H
    obtain⟨awQ,N,aIt,H⟩:=H.vJ 8 rfl N<|H.awB [0,1,2,4,5] 6 K0
    dsimp only[List.set] at H
    obtain⟨aDo,N,aGu,H⟩:=H.vJ 9 rfl N<|H.awB [0,1,2,3,5,6] 7 K0
    dsimp only[List.set] at H
    have H0:=H
    obtain⟨ab9,ag9,W9,H⟩:=H.ji (α:=IntoD) 10 rfl 7 rfl qj
    replace N:=H0.iceB N 7 [6,0,1,2,3,4,5] 10 ag9 [0,1,2,3,4,6] 8 K0
    clear H0
    dsimp only[List.set] at H
    refine zQ H 4 J 0 J underlying25 ti110 J qj J J J qw qp qf fun PN Oy aiO H=>?_
    dsimp only[List.set] at H
    replace H:=H.snoc_RuleD 7 J Pn Np 5 J 4 J 3 J 2 J 1 J 0 J Od
    replace N:=(N.Xr 7 [5,4,3,2,1,0,6]).join.join.join.join.join.swap.join
    refine⟨H.pick [3,11] [8,7],(tF 6 J J (H.pick [3,11] [8,7]) ?_)⟩
    refine ro 7 J<|zn H 2 [yI<|1+eO,Sv yC vU yB,Sv PN (Xh+1) Oy] sizeOf25 fun ape H=>?_
    dsimp only[List.set] at H
    refine⟨H.pick [3,11] [8,7],(xx qh ((meet ⟨_,OC,Pn,Np,Wi,WP,aaM,um,Wd,YV,Od,alD,PN,Oy,U7,Yr,U2,Zf,aaQ,UH,uJ,x2,U4,U9,YY,UZ,SC,apC,aAD,awQ,aDo,ab9,uE4,Mp,ahF,N,H.xG 12 10 [1,2,3,4,11] (zR 0 8) xE xE⟩)))⟩
   have f0:yf (⟨1+eO,de,ah⟩:qJ):=frame_of i3 qf qf
   have H1:=H.yD 5 2 [1,2,3,0,4] [1,0] xE xE
   have N1:Fresh _ (Qp::Ns):=N
   have K1:Kept (Ns) (Γ):=K0.behind 0 J
   refine zT #[pp bs 0,pp rB 0] J J call99 (dRule_ok ag cC cF bs ac cc Fc (1+eO) de ah rB yC vU yB VI Xh VD yL Qp H1 N1 K1 qg qg) ?_
   clear H H1 N1 K1
   rintro _ ayy ⟨YD,Wu,Aq,AW,I7,Iy,Jk,Hd,I4,Io,AZ,ph,aiq,rv,Ih,aEX,HC,HU,aHt,IOz,Ht,aHR,HA,Hi,apD,Hc,nk,aoH,qD,aHN,aD3,YO,aad,rfl,N,H⟩
   obtain rfl:=H.yt 4 rfl
   obtain rfl:=H.yt 5 rfl
   obtain rfl:=H.yt 6 rfl
   obtain rfl:=H.yt 7 rfl
   obtain rfl:=H.yt 8 rfl
   obtain rfl:=H.xf (α:=IntoD) 9 rfl 2 rfl qj
   refine⟨H.pick [2,10] [1,0],(jw [1,4] qh qm<|yl J ?_<|yl J ?_ jy)⟩
   ·refine zx (Sv VI Xh VD) isAgg25 J (H.cell 1 J J) (⟨H.pick [2,10] [1,0],(ro 4 J<|zH H underlying25 ti110 [yI Aq,yI AW,Sv ph I7.length rv,Sv Ih Iy.length HC,Sv HU Jk.length IOz,Sv Ht Hd.length HA,Sv Hi I4.length Hc,Sv nk Io.length qD,Bv AZ] fun aMU azd H=>⟨H.pick [3,11] [1,0],(ro 5 J ?_)⟩)⟩)
    obtain⟨aiD,N,amJ,H⟩:=H.vJ 5 rfl N<|H.awB [1,2] 3 K0
    dsimp only[List.set] at H
    obtain⟨aAv,N,aF9,H⟩:=H.vJ 6 rfl N<|H.awB [0,2,3] 4 K0
    dsimp only[List.set] at H
    obtain⟨aDk,N,aGw,H⟩:=H.vJ 7 rfl N<|H.awB [0,1,3,4] 5 K0
    dsimp only[List.set] at H
    obtain⟨ay6,N,aFf,H⟩:=H.vJ 8 rfl N<|H.awB [0,1,2,4,5] 6 K0
    dsimp only[List.set] at H
    obtain⟨ayK,N,aFK,H⟩:=H.vJ 9 rfl N<|H.awB [0,1,2,3,5,6] 7 K0
    dsimp only[List.set] at H
    have H0:=H
    obtain⟨rS,NP,aka,H⟩:=H.ji (α:=IntoD) 10 rfl 7 rfl qj
    replace N:=H0.iceB N 7 [6,0,1,2,3,4,5] 10 NP [0,1,2,3,4,6] 8 K0
    clear H0
    dsimp only[List.set] at H
    refine zQ H 4 J 0 J underlying25 ti110 J qj J J J qw qp qf fun aql alY alr H=>?_
    dsimp only[List.set] at H
    replace H:=H.snoc_RuleD 7 J Aq AW 5 J 4 J 3 J 2 J 1 J 0 J AZ
    replace N:=(N.Xr 7 [5,4,3,2,1,0,6]).join.join.join.join.join.swap.join
    refine⟨H.pick [3,11] [8,7],(tF 6 J J (H.pick [3,11] [8,7]) ?_)⟩
    refine ro 7 J<|zn H 2 [yI<|1+eO,Sv yC vU yB,Sv aql (Xh+1) alY] sizeOf25 fun ax5 H=>?_
    dsimp only[List.set] at H
    refine⟨H.pick [3,11] [8,7],(xx qh ((meet ⟨_,YD,Aq,AW,I7,Iy,Jk,Hd,I4,Io,AZ,Wu,aql,alY,ph,rv,Ih,HC,HU,IOz,Ht,HA,Hi,Hc,nk,qD,aiD,aAv,aDk,ay6,ayK,rS,uE4,YO,aad,N,H.xG 12 10 [1,2,3,4,11] (zR 0 8) xE xE⟩)))⟩
   refine zH H underlying25 ti110 [yI Aq,yI AW,Sv ph I7.length rv,Sv Ih Iy.length HC,Sv HU Jk.length IOz,Sv Ht Hd.length HA,Sv Hi I4.length Hc,Sv nk Io.length qD,Bv AZ] fun aJ6 aME H=>⟨H.pick [3,11] [1,0],(ro 1 rfl<|zx (Sv VI Xh VD) isAgg25 rfl (H.cell 2 rfl rfl)<|⟨H.pick [3,11] [1,0],(ro 5 rfl ?_)⟩)⟩
   obtain⟨aA7,N,aHX,H⟩:=H.vJ 5 rfl N<|H.awB [1,2] 3 K0
   dsimp only[List.set] at H
   obtain⟨agH,N,als,H⟩:=H.vJ 6 rfl N<|H.awB [0,2,3] 4 K0
   dsimp only[List.set] at H
   obtain⟨aqH,N,aiY,H⟩:=H.vJ 7 rfl N<|H.awB [0,1,3,4] 5 K0
   dsimp only[List.set] at H
   obtain⟨PC,N,aGE,H⟩:=H.vJ 8 rfl N<|H.awB [0,1,2,4,5] 6 K0
   dsimp only[List.set] at H
   obtain⟨aCu,N,aFI,H⟩:=H.vJ 9 rfl N<|H.awB [0,1,2,3,5,6] 7 K0
   dsimp only[List.set] at H
   have H0:=H
   obtain⟨SX,amc,aGS,H⟩:=H.ji (α:=IntoD) 10 rfl 7 rfl qj
   replace N:=H0.iceB N 7 [6,0,1,2,3,4,5] 10 amc [0,1,2,3,4,6] 8 K0
   clear H0
   dsimp only[List.set] at H
   refine zQ H 4 J 0 J underlying25 ti110 J qj J J J qw qp qf fun atn asS aw9 H=>?_
   dsimp only[List.set] at H
   replace H:=H.snoc_RuleD 7 J Aq AW 5 J 4 J 3 J 2 J 1 J 0 J AZ
   replace N:=(N.Xr 7 [5,4,3,2,1,0,6]).join.join.join.join.join.swap.join
   refine⟨H.pick [3,11] [8,7],(tF 6 J J (H.pick [3,11] [8,7]) ?_)⟩
   refine ro 7 J<|zn H 2 [yI<|1+eO,Sv yC vU yB,Sv atn (Xh+1) asS] sizeOf25 fun aBO H=>?_
   dsimp only[List.set] at H
   refine⟨H.pick [3,11] [8,7],(xx qh ((meet ⟨_,YD,Aq,AW,I7,Iy,Jk,Hd,I4,Io,AZ,Wu,atn,asS,ph,rv,Ih,HC,HU,IOz,Ht,HA,Hi,Hc,nk,qD,aA7,agH,aqH,PC,aCu,SX,uE4,YO,aad,N,H.xG 12 10 [1,2,3,4,11] (zR 0 8) xE xE⟩)))⟩
  clear H N
  rintro ρ Ut ⟨xR,Mt,Gr,FV,JS,JB,Jw,Kd,Lr,Ky,Pu,V1,aeQ,adi,HP,Hk,Aj,CZ,Jf,HT,Ay,IV,G6,GW,If,I6,K3,Rf,Uq,Tm,z6,TS,rfl,aEl,Ze,N,H⟩
  refine b_n<|t_n<|zf<|sp (yI k)<|sw<|o_sub k 1 J J qf<|sq 1<|xX<|xu (m':=(k-1).toNat) qf ⟨_,_,_,_,_,_,_,_,_,_,uE4,?_,?_,?_,J,N,H.xG 5 8 [3,0,1,2,4] [0,7] xE xE⟩
  ·omega
  ·simp;omega
  ·exact j3.snoc ql
 refine zx4<|zcr<|sw<|xW [yI<|1+eO,Sv yC vU yB,Sv VI Xh VD] isAgg27 sizeOf27 J (qH (H.cells 2 J) 0 3)<|sw<|xZ H 4 [yI<|1+eO,Sv yC vU yB,Sv VI Xh VD] sizeOf27 fun aLn H=>?_
 dsimp only[List.set] at H
 refine zjr<|retC H 4 J J isAgg27 sizeOf27 J ⟨_,J,(⟨cC,cF,1+eO,de,ah,yC,vU,yB,VI,Xh,VD,yL,Qp,qf,(by exact sysDr_of i3 qf qf qf j3),J,N,H.xG 5 2 [1,3,0] [1,0] xE xE⟩)⟩
end
section
theorem runGo_ok{s:qJ}:∀(f:Nat) (fF:Int) (u:qV),zA s u->(runGo s f fF u).2.2=0->zA s (runGo s f fF u).1
 |0,fF,u,h,_=>h
 |f+1,fF,u,h,hz=>by
  by_cases hh:Halted s u
  ·rw[runGo_halt hh];exact h
  ·by_cases hc:(yR s u<|xq s u).2=0
   ·rw[runGo_go J hh hc] at hz ⊢;exact runGo_ok f _ _ (stepBy_ok hc) hz
   ·rw[runGo_bad qf hh hc] at hz;exact absurd hz hc
theorem state_eq{a b:qV}(h1:a.qO=b.qO)(h2:a.qG=b.qG)(h3:a.qF=b.qF):a=b:=by
 cases a;cases b;simp only at h1 h2 h3;subst h1 h2 h3;rfl
def CodeBad(s:qJ)(t:qV)(cs:yLL)(k:Nat):Prop:=(yR s t<|cs[k]!).2≠0
def NoBad(s:qJ)(t:qV)(cs:yLL)(k:Nat):Prop:=∀j,j<k->¬CodeBad s t cs j
theorem NoBad.succ{s:qJ}{t:qV}{cs:yLL}(h:NoBad s t cs k)(h1:(yR s t<|cs[k]!).2=0):NoBad s t cs (k+1):=fun j hj=>by
 by_cases e:j=k
 ·subst e;exact fun x=>x h1
 ·exact h j qf
def NotIn(l:List qV)(u:qV)(k:Nat):Prop:=∀j,j<k->l[j]! ≠u
theorem NotIn.succ(h:NotIn l u k)(h1:l[k]! ≠u):NotIn l u (k+1):=fun j hj=>by
 by_cases e:j=k
 ·subst e;exact h1
 ·exact h j qf
theorem NotIn.out(h:NotIn l u l.length):¬u∈l:=fun hm=>by
 obtain⟨k,hk,e⟩:=List.mem_iff_getElem.1 hm
 exact h k hk<|by rw[getElem!_pos l k hk];exact e
end
section
theorem a2Same_ok(w:World)(a:yLI)(b:yLI){aa:yOA}{ca:Nat}{Fa:yLN}{ab:yOA}{cb:Nat}{Fb:yLN}(ha:zP w Fa aa ca a)(hb:zP w Fb ab cb b):Calls Tryz.prog 18 #[Sv aa a.length ca,Sv ab b.length cb] w (Ret (fun v w'=>v=Bv (decide<|a=b)) w):=by
 refine en func18 ntmps18 ?_
 have H:=((St.start w).arg hb).arg ha
 have nha:=qN ha
 have nhb:=qN hb
 clear ha hb
 have N:=Fresh.nil w.heap.size
 refine zcr<|sp (Bv false)<|zjcc<|sq 1<|oN J<|sq 1<|oN J<|sq 1<|zjn<|vP _ J (fun h1=>?_)<|fun h1=>?_
 ·replace h1:=bne_iff_ne.1 h1
  refine zcr<|sp (Bv false)<|zjr<|t_r<|rH1 (Bv false) H ?_
  rw[decide_eq_false (fun e=>by subst e;omega)]
 replace h1:=zo h1
 refine xe<|t_n<|zcc<|sp (yI 0)<|zjn<|xg<|vk ((fun Z0 Z1=>fun m' ρ w2=>∃(xR:Env) (i:Nat),ρ=upd (upd (upd xR 0<|Sv aa a.length ca) 1<|Sv ab b.length cb) 5 (yI i)/\((i:Int)<=a.length)/\(a.take i=b.take i)/\m'=(a.length-(i:Int)).toNat/\Fresh w.heap.size []/\St w w2 [] [Z0,Z1]) _ _) ((a.length-(0:Int)).toNat) ⟨_,0,uE3,qf,(by rfl),J,N,H⟩ ?_
 clear H N
 rintro m' ρ w3 ⟨xR,i,rfl,i0,i1,rfl,N,H⟩
 refine zcc<|sp (yI i)<|sq 1<|oN J<|sq 1<|zjn<|cD J (fun h4=>?_)<|fun h4=>?_
 ·refine xe (t_n<|xO<|xg<|xO<|QY J H fun H=>rtl 0 H ?_)
  refine rtp 1 (yI i) H ?_
  obtain⟨b6,o7,rfl⟩:=H.addr 0 rfl qf
  refine tI 2 J J J H ?_
  refine tL 3 J J (fun _ h=>h.vM 0 J i qf) H ?_
  refine rtl 4 H ?_
  refine rtp 5 (yI i) H ?_
  obtain⟨b9,o10,rfl⟩:=H.addr 1 rfl qf
  refine tI 6 J J J H ?_
  refine tL 7 J J (fun _ h=>h.vM 1 J i qf) H ?_
  refine rtl 8 H ?_
  refine xx qh<|t_n<|vP _ J (fun iz=>?_)<|fun iz=>?_
  ·replace iz:=bne_iff_ne.1 iz
   refine zcr<|sp (Bv false)<|zjr<|zr5<|rH1 (Bv false) H ?_
   rw[decide_eq_false (fun e=>by subst e;omega)]
  replace iz:=zo iz
  refine xe<|b_n<|t_n<|zf<|sp (yI i)<|sw<|zY i 1 J J qf<|sq 1<|xX<|xu (m':=(a.length-((i+1):Int)).toNat) qf ⟨_,i+1,uE3,?_,?_,J,N,H⟩
  ·omega
  ·exact eqTo_succ qf qf i1 qg
 refine zx4<|zcr<|sp (Bv true)<|zjr<|rH1 (Bv true) H ?_
 rw[decide_eq_true<|eq_of_take (k:=i) qf qf i1]
end
section
@[irreducible] def LQ(P : Program)(o : Oper)(Q : Exit -> Act -> World -> Prop)(a : Act)(w : World) : Prop := o.wp P a w (fun a w => Q .normal a w) Q \/ (o.asks P a w /\ LetsOut Q)
def lateQ(P:Program)(o:Oper)(Q:Exit->Act->World->Prop):Exit->Act->World->Prop
 | .normal,a,w=>LQ P o Q a w
 |e,a,w=>Q e a w
def aft(l:List Oper)(i:Nat):List Edge:=match l[i]? with|some o=>o.after.toList|none=>[]
def lateOk(l:List Oper)(o:Oper):Bool:=
 o.guard.isNone && ((List.range<|l.length+1).all fun i=>(aft (l++[o]) i).all fun e=> !Region.binds .any e || Nat.blt e.on i) &&
 ((List.range l.length).all fun i=>(List.range<|l.length+1).any fun j=>Nat.blt i j && (aft (l++[o]) j).any fun e=>Region.binds .any e && Nat.beq e.on i)
section
variable{P : Program}{Q : Exit -> Act -> World -> Prop}{l : List Oper}{o : Oper}
structure LateP(l:List Oper)(o:Oper):Prop where
 gd:o.guard=none
 back:∀i e,i<=l.length->e∈aft (l++[o]) i->Region.binds .any e=true->e.on<i
 wait:∀i,i<l.length->∃j e,i<j/\j<=l.length/\e∈aft (l++[o]) j/\Region.binds .any e=true/\e.on=i
theorem lateP(h:lateOk l o=true):LateP l o:=by
 simp only[lateOk,Bool.and_eq_true,List.all_eq_true,List.any_eq_true,List.mem_range,Bool.or_eq_true,Bool.not_eq_true'] at h
 obtain⟨⟨h1,h2⟩,h3⟩:=h
 refine⟨Option.isNone_iff_eq_none.1 h1,fun i e hi he hb=>?_,fun i hi=>?_⟩
 ·rcases h2 i qf e he with h|h
  ·rw[hb] at h;cases h
  ·exact Nat.le_of_ble_eq_true h
 ·obtain⟨j,hj,hij,e,he,hb,ho⟩:=h3 i hi
  exact⟨j,e,Nat.le_of_ble_eq_true hij,by omega,he,hb,Nat.eq_of_beq_eq_true ho⟩
theorem XW{fb:Array Oper}:i∈Region.ready .any fb ae<->ae.getD i true=false/\∃o,fb[i]? =some o/\∀e∈o.after,Region.binds .any e=true->ae.getD e.on false=true:=mem_ready
def Closed(l:List Oper)(ae:Array Bool):Prop:=∀i,i<l.length->ae.getD i false=true->∀e∈aft l i,Region.binds .any e=true->ae.getD e.on false=true
theorem aft_left(h:i<l.length):aft (l++[o]) i=aft l i:=by unfold aft;rw[List.getElem?_append_left h]
theorem aft_last:aft (l++[o]) l.length=o.after.toList:=by unfold aft;simp
theorem late_all(p:LateP l o)(hc:Closed l ae)(hr:∀e∈o.after,Region.binds .any e=true->ae.getD e.on false=true):∀k i,l.length-i=k->i<l.length->ae.getD i false=true:=by
 intro k
 induction k using Nat.strongRecOn with
 |_ k ih=>
  intro i hk hi
  obtain⟨j,e,hij,hj,he,hb,rfl⟩:=p.wait i hi
  by_cases hjl:j=l.length
  ·subst hjl
   rw[aft_last] at he
   exact hr e (by simpa using he) hb
  ·have hjl:j<l.length:=by omega
   rw[aft_left hjl] at he
   exact hc j hjl (ih (l.length-j) qf j J hjl) e he hb
theorem none_all(p:LateP l o)(hs:ae.size=l.length)(hr:Region.ready .any l.toArray ae=[]):∀i,i<l.length->ae.getD i false=true:=by
 intro i
 induction i using Nat.strongRecOn with
 |_ i ih=>
  intro hi
  by_cases h:ae.getD i false=true
  ·exact h
  ·exfalso
   have hm:i∈Region.ready .any l.toArray ae:=XW.2 ⟨by
    simp only[Array.getD_eq_getD_getElem?] at h ⊢
    rw[Array.getElem?_eq_getElem qf] at h ⊢
    simpa using h,l[i],by simp[hi],fun e he hb=>by
     have h1:=p.back i e qf (by rw[aft_left hi];unfold aft;rw[List.getElem?_eq_getElem hi];simpa using he) hb
     exact ih e.on h1 qf⟩
   rw[hr] at hm;cases hm
theorem getD_push{a:Array Bool}(d:Bool)(h:i<a.size):(a.push false).getD i d=a.getD i d:=by
 simp[Array.getD_eq_getD_getElem?,Array.getElem?_push_lt h,Array.getElem?_eq_getElem h]
theorem ready_push(hs:ae.size=l.length)(p:LateP l o)(hi:i<l.length):i∈Region.ready .any (l++[o]).toArray (ae.push false)<->i∈Region.ready .any l.toArray ae:=by
 rw[XW,XW,getD_push true qf]
 have e1:(l++[o]).toArray[i]? =l.toArray[i]? :=by simp[List.getElem?_append_left hi]
 rw[e1]
 refine and_congr Iff.rfl<|exists_congr fun q=>and_congr_right fun hq=>forall_congr' fun e=>forall_congr' fun he=>forall_congr' fun hb=>?_
 have h1:=p.back i e qf (by rw[aft_left hi];unfold aft;rw[show l[i]? =some q by simpa using hq];simpa using he) hb
 rw[getD_push false qf]
theorem yield_push{tmps:Array Value}(hj:j<l.length):yielded (l++[o]).toArray tmps j=yielded l.toArray tmps j:=by
 unfold yielded
 rw[show (l++[o]).toArray[j]? =l.toArray[j]? by simp[List.getElem?_append_left hj]]
theorem lets_late:LetsOut (lateQ P o Q)->LetsOut Q:=fun⟨a,w,h⟩=>⟨a,w,h⟩
theorem wp_Q{Q':Exit->Act->World->Prop}(hq:∀c a w,Q' (.panic c) a w->Q (.panic c) a w)(ho:∀a w,Q' .outgrown a w->Q .outgrown a w){q:Oper}{a:Act}{K:Act->World->Prop}(h:q.wp P a w K Q'):q.wp P a w K Q:=by
 have hl:LetsOut Q' ->LetsOut Q:=fun⟨a,w,h⟩=>⟨a,w,ho a w h⟩
 unfold Oper.wp at *
 generalize (execOp a.eval q).run P w=r at *
 cases r with
 |ok n w'=>
  cases n <;> simp only[Oper.upon] at h ⊢ <;>
   first
    |exact h
    |exact Calls.mono h (fun e w'' he=>by cases e <;> first|exact he|exact hq _ _ _ he|exact hl he)
 |halt x w'=>cases x <;> simp only[Oper.upon] at h ⊢ <;> exact hq _ _ _ h
theorem wp_late{q:Oper}{a:Act}{K:Act->World->Prop}(h:q.wp P a w K (lateQ P o Q)):q.wp P a w K Q:=wp_Q (fun _ _ _ h=>h) (fun _ _ h=>h) h
theorem wpAny_Q{Q':Exit->Act->World->Prop}(hq:∀e a w,Q' e a w->Q e a w){fb:Array Oper}:∀(fuel:Nat) (ae:Array Bool) (a:Act) (w:World),wpAny P .any fb Q' fuel ae a w->wpAny P .any fb Q fuel ae a w
 |0,_,_,_,h=>⟨h.1,hq _ _ _ h.2⟩
 |fuel+1,ae,a,w,h=>⟨fun h0=>hq _ _ _<|h.1 h0,fun i hi=>by
  have h2:=h.2 i hi
  have h3:=wpOp_mono (wpAny_Q hq fuel<|ae.setIfInBounds i true) h2
  unfold wpOp at h3 ⊢
  split
  ·simp_all
  ·rename_i q hq2
   rw[hq2] at h3
   simp only at h3
   split
   ·rename_i hw
    rw[if_pos hw] at h3
    rcases h3 with h3|⟨h3,a',w',h4⟩
    ·exact .inl (wp_Q (fun _ _ _=>hq _ _ _) (fun _ _=>hq _ _ _) h3)
    ·exact .inr ⟨h3,a',w',hq _ _ _ h4⟩
   ·rename_i hw
    rw[if_neg hw] at h3
    exact h3⟩
theorem wpAny_late(p:LateP l o)(hg:∀(i:Nat) (q:Oper) (j:Nat) (b:Bool),l[i]? =some q->q.guard=some (j,b)->j<l.length):∀(fuel:Nat) (ae:Array Bool) (a:Act) (w:World),ae.size=l.length->Closed l ae→
 wpAny P .any l.toArray (lateQ P o Q) fuel ae a w->wpAny P .any (l++[o]).toArray Q (fuel+1) (ae.push false) a w:=by
 have last:∀(fuel:Nat) (ae:Array Bool) (a:Act) (w:World),ae.size=l.length->(∀i,i<l.length->ae.getD i false=true)->lateQ P o Q .normal a w->wpAny P .any (l++[o]).toArray Q (fuel+1) (ae.push false) a w:=by
  intro fuel ae a w hs GQ hq
  have hm:l.length∈Region.ready .any (l++[o]).toArray (ae.push false):=XW.2 ⟨by rw[←hs];simp[Array.getD_eq_getD_getElem?],o,by simp,fun e he hb=>by
   have h1:=p.back l.length e (Nat.le_refl _) (by rw[aft_last];simpa using he) hb
   rw[getD_push false qf];exact GQ _ h1⟩
  have aru:∀i∈Region.ready .any (l++[o]).toArray (ae.push false),i=l.length:=fun i hi=>by
   obtain⟨h1,q,h2,_⟩:=XW.1 hi
   have nU:i<(l++[o]).length:=by have:=(Array.getElem?_eq_some_iff.1 h2).1;simpa using this
   rw[List.length_append,List.length_singleton] at nU
   by_cases e:i=l.length
   ·exact e
   ·rw[getD_push true qf] at h1
    have h3:=GQ i qf
    simp only[Array.getD_eq_getD_getElem?] at h1 h3
    rw[Array.getElem?_eq_getElem qf] at h1 h3
    simp only[Option.getD_some] at h1 h3
    rw[h1] at h3;cases h3
  refine⟨fun h=>(by rw[h] at hm;cases hm),fun i hi=>?_⟩
  obtain rfl:=aru i hi
  have aac:Region.ready .any (l++[o]).toArray ((ae.push false).setIfInBounds l.length true)=[]:=List.eq_nil_iff_forall_not_mem.2 fun i hi=>by
   obtain⟨h1,q,h2,_⟩:=XW.1 hi
   have nU:i<(l++[o]).length:=by have:=(Array.getElem?_eq_some_iff.1 h2).1;simpa using this
   rw[List.length_append,List.length_singleton] at nU
   by_cases e:i=l.length
   ·subst e
    simp[Array.getD_eq_getD_getElem?,hs] at h1
   ·have h3:=GQ i qf
    simp only[Array.getD_eq_getD_getElem?] at h1 h3
    rw[Array.getElem?_setIfInBounds_ne<|Ne.symm e,Array.getElem?_push_lt qf] at h1
    rw[Array.getElem?_eq_getElem qf] at h3
    simp only[Option.getD_some] at h1 h3
    rw[h1] at h3;cases h3
  unfold wpOp
  rw[show (l++[o]).toArray[l.length]? =some o by simp]
  simp only[Region.wanted,p.gd,if_true]
  have hq:LQ P o Q a w:=hq
  unfold LQ at hq
  refine hq.imp (Oper.wp_mono fun a' w' h=>?_) id
  cases fuel with
  |zero=>exact⟨aac,h⟩
  |succ f=>exact⟨fun _=>h,by rw[aac];exact fun i hi=>by cases hi⟩
 intro fuel
 induction fuel with
 |zero=>intro ae a w hs hc h;exact last 0 ae a w hs (none_all p hs h.1) h.2
 |succ fuel ih=>
  intro ae a w hs hc h
  by_cases hr:Region.ready .any l.toArray ae=[]
  ·exact last (fuel+1) ae a w hs (none_all p hs hr)<|h.1 hr
  ·have hnl:l.length∉Region.ready .any (l++[o]).toArray (ae.push false):=fun hm=>by
    obtain⟨_,q,h2,h3⟩:=XW.1 hm
    obtain rfl:o=q:=by simpa using h2
    have GQ:=late_all p hc (fun e he hb=>by
     have h1:=p.back l.length e (Nat.le_refl _) (by rw[aft_last];simpa using he) hb
     have h4:=h3 e he hb
     rwa [getD_push false qf] at h4)
    apply hr
    refine List.eq_nil_iff_forall_not_mem.2 fun i hi=>?_
    obtain⟨h5,q,h6,_⟩:=XW.1 hi
    have nU:i<l.length:=by have:=(Array.getElem?_eq_some_iff.1 h6).1;simpa using this
    have h7:=GQ (l.length-i) i J nU
    simp only[Array.getD_eq_getD_getElem?] at h5 h7
    rw[Array.getElem?_eq_getElem qf] at h5 h7
    simp only[Option.getD_some] at h5 h7
    rw[h5] at h7;cases h7
   have hin:∀i∈Region.ready .any (l++[o]).toArray (ae.push false),i<l.length:=fun i hi=>by
    obtain⟨_,q,h2,_⟩:=XW.1 hi
    have nU:i<(l++[o]).length:=by have:=(Array.getElem?_eq_some_iff.1 h2).1;simpa using this
    rw[List.length_append,List.length_singleton] at nU
    by_cases e:i=l.length
    ·subst e;exact absurd hi hnl
    ·omega
   refine⟨fun h0=>absurd (List.eq_nil_iff_forall_not_mem.2 fun i hi=>?_) hr,fun i hi=>?_⟩
   ·have nU:i<l.length:=by
     obtain⟨_,q,h2,_⟩:=XW.1 hi
     have:=(Array.getElem?_eq_some_iff.1 h2).1;simpa using this
    have:=(ready_push hs p nU).2 hi
    rw[h0] at this;cases this
   ·have nU:=hin i hi
    have hi0:=(ready_push hs p nU).1 hi
    have h2:=h.2 i hi0
    obtain⟨_,q,h3,h4⟩:=XW.1 hi0
    have h3':l[i]? =some q:=by simpa using h3
    unfold wpOp at h2 ⊢
    rw[show (l++[o]).toArray[i]? =some q by simp[List.getElem?_append_left nU,h3']]
    rw[h3] at h2
    simp only at h2 ⊢
    have hw:Region.wanted q (yielded (l++[o]).toArray a.tmps)=Region.wanted q (yielded l.toArray a.tmps):=by
     unfold Region.wanted
     split
     ·rfl
     ·rename_i j b hgd
      rw[yield_push<|hg i q j b h3' hgd]
    have hc':Closed l (ae.setIfInBounds i true):=fun j hj hlj e he hb=>by
     have oJ:∀x,ae.getD x false=true->(ae.setIfInBounds i true).getD x false=true:=fun x hx=>by
      simp only[Array.getD_eq_getD_getElem?,Array.getElem?_setIfInBounds] at hx ⊢
      split
      ·rename_i e;subst e;split <;> simp_all
      ·exact hx
     by_cases hji:j=i
     ·subst hji
      exact oJ _<|h4 e (by have he':=he;unfold aft at he';rw[h3'] at he';simpa using he') hb
     ·refine oJ _ (hc j hj ?_ e he hb)
      simp only[Array.getD_eq_getD_getElem?,Array.getElem?_setIfInBounds_ne<|Ne.symm hji] at hlj ⊢
      exact hlj
    have step:∀a' w',wpAny P .any l.toArray (lateQ P o Q) fuel (ae.setIfInBounds i true) a' w' ->wpAny P .any (l++[o]).toArray Q (fuel+1) ((ae.push false).setIfInBounds i true) a' w':=fun a' w' h5=>by
     have h6:=ih (ae.setIfInBounds i true) a' w' (by simp[hs]) hc' h5
     have e1:(ae.push false).setIfInBounds i true=(ae.setIfInBounds i true).push false:=by
      apply Array.ext_getElem?
      intro x
      simp only[Array.getElem?_setIfInBounds,Array.getElem?_push,Array.size_push,Array.size_setIfInBounds]
      by_cases hx:i=x
      ·subst hx
       have:i<ae.size:=by omega
       simp[show i<ae.size+1 by omega,this,Nat.ne_of_lt this]
      ·simp[hx]
     rw[e1];exact h6
    rw[hw]
    split
    ·rename_i hwt
     rw[if_pos hwt] at h2
     rcases h2 with h2|⟨h2,h5⟩
     ·exact .inl<|Oper.wp_mono step<|wp_late h2
     ·exact .inr ⟨h2,lets_late h5⟩
    ·rename_i hwt
     rw[if_neg hwt] at h2
     exact step _ _ h2
end
theorem wpAnyH_Q{P:Program}{Q Q':Exit->Act->World->Prop}{S:World->Prop}(hq:∀e a w,Q' e a w->Q e a w){fb:Array Oper}:∀(fuel:Nat) (ae:Array Bool) (a:Act) (w:World),wpAnyH P .any fb Q' S fuel ae a w->wpAnyH P .any fb Q S fuel ae a w
 |0,_,_,_,h=>⟨h.1,hq _ _ _ h.2⟩
 |fuel+1,ae,a,w,h=>⟨fun h0=>hq _ _ _<|h.1 h0,fun i hi=>by
  have h2:=h.2 i hi
  have h3:=wpOp_mono (fun a' w' (h':S w' /\_)=>(⟨h'.1,wpAnyH_Q hq fuel (ae.setIfInBounds i true) a' w' h'.2⟩:S w' /\wpAnyH P .any fb Q S fuel (ae.setIfInBounds i true) a' w')) h2
  unfold wpOp at h3 ⊢
  split
  ·simp_all
  ·rename_i q hq2
   rw[hq2] at h3
   simp only at h3
   split
   ·rename_i hw
    rw[if_pos hw] at h3
    rcases h3 with h3|⟨h3,a',w',h4⟩
    ·exact .inl (wp_Q (fun _ _ _=>hq _ _ _) (fun _ _=>hq _ _ _) h3)
    ·exact .inr ⟨h3,a',w',hq _ _ _ h4⟩
   ·rename_i hw
    rw[if_neg hw] at h3
    exact h3⟩
def gdOk(l:List Oper):Bool:=l.all fun q=>match q.guard with|some (j,_)=>Nat.blt j l.length|none=>true
@[irreducible] def LL(P : Program)(fb : Array Oper)(os : List Oper)(Q : Exit -> Act -> World -> Prop)(a : Act)(w : World) : Prop := wpList P fb Q os a w
def latesQ(P:Program)(fb:Array Oper)(os:List Oper)(Q:Exit->Act->World->Prop):Exit->Act->World->Prop
 | .normal,a,w=>LL P fb os Q a w
 |e,a,w=>Q e a w
def latesOk(l:List Oper):List Oper->Bool
 | []=>true
 |o::os=>lateOk l o && latesOk (l++[o]) os
theorem wpAny_lates{P:Program}{fb:Array Oper}{Q:Exit->Act->World->Prop}:∀(os l:List Oper) (_:latesOk l os=true) (_:gdOk l=true) (fuel:Nat) (ae:Array Bool) (a:Act) (w:World) (_:ae.size=l.length) (_:Closed l ae) (_:wpAny P .any l.toArray (latesQ P fb os Q) fuel ae a w),
 wpAny P .any (l++os).toArray Q (fuel+os.length) (ae++Array.replicate os.length false) a w
 | [],l,_,_,fuel,ae,a,w,_,_,h=>by
  have h2:wpAny P .any l.toArray Q fuel ae a w:=wpAny_Q (fun e a w h=>by
   cases e with
   |normal=>have h:LL P fb [] Q a w:=h;unfold LL at h;exact h
   |_=>exact h) _ _ _ _ h
  simpa using h2
 |o::os,l,hk,hg,fuel,ae,a,w,hs,hc,h=>by
  rw[latesOk,Bool.and_eq_true] at hk
  have hgd:=(lateP hk.1).gd
  have h2:wpAny P .any l.toArray (lateQ P o<|latesQ P fb os Q) fuel ae a w:=wpAny_Q (fun e a w h=>by
   cases e with
   |normal=>
    have h:LL P fb (o::os) Q a w:=h
    unfold LL at h
    show LQ _ _ _ _ _
    unfold LQ
    unfold wpList at h
    rw[if_pos<|by simp[Region.wanted,hgd]] at h
    rcases h with h|⟨h,a',w',h3⟩
    ·refine .inl (wp_Q (fun _ _ _ h=>h) (fun _ _ h=>h)<|Oper.wp_mono (fun a w h=>?_) h)
     show LL _ _ _ _ _ _
     unfold LL;exact h
    ·exact .inr ⟨h,a',w',h3⟩
   |_=>exact h) _ _ _ _ h
  have hg1:∀(i:Nat) (q:Oper) (j:Nat) (b:Bool),l[i]? =some q->q.guard=some (j,b)->j<l.length:=fun i q j b hi hgd=>by
   have:=List.all_eq_true.1 hg q<|List.mem_of_getElem? hi
   rw[hgd] at this
   exact Nat.le_of_ble_eq_true this
  have h3:=wpAny_late (lateP hk.1) hg1 fuel ae a w hs hc h2
  have hc':Closed (l++[o]) (ae.push false):=fun i hi hl e he hb=>by
   rw[List.length_append,List.length_singleton] at hi
   by_cases ei:i=l.length
   ·subst ei;rw[←hs] at hl;simp[Array.getD_eq_getD_getElem?] at hl
   ·rw[getD_push false qf] at hl
    rw[aft_left qf] at he
    have h4:=hc i qf hl e he hb
    have h5:e.on<ae.size:=by
     by_cases hx:e.on<ae.size
     ·exact hx
     ·simp[Array.getD_eq_getD_getElem?,Array.getElem?_eq_none<|Nat.le_of_not_lt hx] at h4
    rw[getD_push false h5];exact h4
  have hg':gdOk (l++[o])=true:=by
   unfold gdOk at hg ⊢
   rw[List.all_eq_true] at hg ⊢
   intro q hq
   rcases List.mem_append.1 hq with hq|hq
   ·have:=hg q hq
    split at this
    ·rename_i j b hj
     have:=Nat.le_of_ble_eq_true this
     exact Nat.ble_eq_true_of_le<|by rw[List.length_append,List.length_singleton];omega
    ·rfl
   ·rw[List.mem_singleton] at hq
    subst hq;rw[hgd]
  have h6:=wpAny_lates os (l++[o]) hk.2 hg' (fuel+1) (ae.push false) a w (by simp[hs]) hc' h3
  have e1:(ae.push false)++Array.replicate os.length false=ae++Array.replicate (o::os).length false:=by
   rw[List.length_cons,show Array.replicate (os.length+1) false=#[false]++Array.replicate os.length false by rw[Nat.add_comm];exact(Array.replicate_append_replicate (n:=1)).symm,←Array.append_assoc]
   rfl
  rw[e1,List.append_assoc] at h6
  rw[List.length_cons,show fuel+(os.length+1)=fuel+1+os.length by omega]
  exact h6
section
variable{P : Program}{Q : Exit -> Act -> World -> Prop}{n : Nat}{ρ : Env}{W0 w : World}{ps : List Prv}{Γ : List Fact}{l : List Oper}
def yU{α:Type}:List α->List α
 | []=>[]
 | [_]=>[]
 |a::b::l=>a::yU (b::l)
def yu{α:Type}:Nat->List α->List α
 |0,l=>l
 |k+1,l=>yU<|yu k l
theorem c_late[Dfr]{L os:List Oper}{l:List Oper}(S:World->Prop)(hm:P.follows .mixedOrders=true)(hS:S w.drew)
 (h:RW P l (latesQ P L.toArray os Q) S n l.toArray.size (Array.replicate l.toArray.size false) ρ w.drew) (hL:L=l++os) (hk:latesOk l os=true) (hg:gdOk l=true):(Code.region id L.toArray true).wp P Q (mk n ρ) w:=by
 refine wp_region_any hm ?_
 unfold RW at h
 have h1:=wpAny_lates os l hk hg _ (Array.replicate l.toArray.size false) _ _ qm (fun i hi hl=>by simp[Array.getD_eq_getD_getElem?,hi] at hl)<|wpAny_of_held _ _ _ _ h
 rw[Array.replicate_append_replicate,←hL] at h1
 have e2:L.toArray.size=l.toArray.size+os.length:=by
  have:=congrArg List.length hL
  simpa using this
 rw[e2]
 exact h1
theorem vW[Dfr]{id:Nat}{L os:List Oper}(k:Nat)(hm:P.follows .mixedOrders=true)(H:St W0 w ps Γ)(is js:yLN)
 (kk:St W0 w.drew ps Γ->RW P (yu k L) (latesQ P L.toArray os Q) (fun w=>St W0 w (is.filterMap fun i=>ps[i]?)<|js.filterMap fun i=>Γ[i]?) n (yu k L).toArray.size (Array.replicate (yu k L).toArray.size false) ρ w.drew)
 (hL:L=yu k L++os:=by exact J) (hk:latesOk (yu k L) os=true:=by kernel_rfl) (hg:gdOk (yu k L)=true:=by kernel_rfl)
 (hi:is.all (fun i=>Nat.blt i ps.length)=true:=by simp) (hj:js.all (fun i=>Nat.blt i Γ.length)=true:=by simp) (hd:is.Nodup:=by decide):(Code.region id L.toArray true).wp P Q (mk n ρ) w:=by
 have H':=H.ext<|ext_drew _
 exact c_late (fun w=>St W0 w (is.filterMap fun i=>ps[i]?)<|js.filterMap fun i=>Γ[i]?) hm (H'.pick is js (Vz ps is hi) (Vz Γ js hj) hd) (kk H') hL hk hg
theorem c_lateC[Dfr]{id:Nat}{L os:List Oper}(k:Nat)(A:Env->World->Prop)(hm:P.follows .mixedOrders=true)(H:St W0 w ps Γ)(is js:yLN)
 (kk:St W0 w.drew ps Γ->RW P (yu k L) (Meet A n) (fun w=>St W0 w (is.filterMap fun i=>ps[i]?)<|js.filterMap fun i=>Γ[i]?) n (yu k L).toArray.size (Array.replicate (yu k L).toArray.size false) ρ w.drew)
 (h2:∀ρ w,A ρ w->WL P L.toArray Q n os ρ w)
 (hL:L=yu k L++os:=by exact J) (hk:latesOk (yu k L) os=true:=by kernel_rfl) (hg:gdOk (yu k L)=true:=by kernel_rfl)
 (hi:is.all (fun i=>Nat.blt i ps.length)=true:=by simp) (hj:js.all (fun i=>Nat.blt i Γ.length)=true:=by simp) (hd:is.Nodup:=by decide):(Code.region id L.toArray true).wp P Q (mk n ρ) w:=by
 have H':=H.ext<|ext_drew _
 have h:=kk H'
 refine c_late (fun w=>St W0 w (is.filterMap fun i=>ps[i]?)<|js.filterMap fun i=>Γ[i]?) hm (H'.pick is js (Vz ps is hi) (Vz Γ js hj) hd) ?_ hL hk hg
 unfold RW at h ⊢
 refine wpAnyH_Q (fun e a w h=>?_) _ _ _ _ h
 cases e with
 |normal=>
  obtain⟨ρ,rfl,hA⟩:=h
  show LL _ _ _ _ _ _
  unfold LL
  exact(h2 ρ w hA).out
 |exit _=>exact h.elim
 |goto _=>exact h.elim
 |ret=>exact h.elim
 |panic _=>exact h.elim
 |outgrown=>exact h.elim
theorem zg[Dfr]{fb:Array Oper}{os:List Oper}(h:WL P fb Q n os ρ w):latesQ P fb os Q .normal (mk n ρ) w:=by
 show LL _ _ _ _ _ _
 unfold LL
 exact h.out
end
end
section
variable{hU vd jz xp fU rk iM bs os qL xh xI zq xy cl : Nat}
theorem XJ(w:World)(bF:yLL)(fw:zP w C8 iq hU bF)(p0:Sm2 bF):Calls Tryz.prog 29 #[Sv iq bF.length hU] w (Ret (fun v w'=>∃(ra:yOA) (rn:Nat) (rc:Nat) (rx:List Value) (rF:yLN),v=Sv ra rn rc/\Fresh w.heap.size [rF]/\St w w' [rr ra rn rc 24 1 rx] [qX true rF rx bF]) w):=by
 refine en func29 ntmps29 ?_
 have H:=(St.start w).arg fw
 have FP:=qN fw
 clear fw
 have N:=Fresh.nil w.heap.size
 have p1:=p0.1
 refine zcr<|sq 1<|zjc<|sw<|jS H underlying29 ti24 fun b1 w2 H=>sq 1<|zjcc<|sq 1<|oN J<|sp (yI 0)<|zjn<|xg ?_
 replace H:=H.boxRow 0 J 1 0 J qj
 replace H:=H.yF (α:=yLI)
 refine vk ((fun Z0=>fun m' ρ w3=>∃(xR:Env) (yK:yOA) (yA:Nat) (yJ:Nat) (out:yLL) (Q4:List Value) (QJ:yLN) (k:Nat),ρ=upd (upd (upd (upd xR 3<|Sv yK yA yJ) 7<|Sv iq bF.length hU) 8<|yI bF.length) 9 (yI k)/\out=bF.take k/\((k:Int)<=bF.length)/\m'=(bF.length-(k:Int)).toNat/\Fresh w.heap.size [QJ]/\St w w3 [rr yK yA yJ 24 1 Q4] [qX true QJ Q4 out,Z0]) _) ((bF.length-(0:Int)).toNat) ⟨_,(aa b1 0),0,0,([]:yLL),[],[],0,uE4,(by rfl),qf,J,N.emp,H⟩ ?_
 clear H N
 rintro m' ρ w4 ⟨xR,yK,yA,yJ,out,Q4,QJ,k,rfl,rfl,i0,rfl,N,H⟩
 have VS:=H.xf (α:=yLI) 0 J 0 J qj
 have p2:=p0.2 k
 rw[List.length_take_of_le qf] at VS
 refine zcr<|sq 1<|zjn<|xO<|cD J (fun h5=>?_)<|fun h5=>?_
 ·refine xe (t_n<|xO<|xg<|zcr ?_)
  obtain⟨b6,o7,rfl⟩:=H.addr 1 rfl qf
  obtain⟨ae9,ce9,Fe9,H⟩:=H.yg 1 rfl k k qf qf qf
  refine oI J J<|oL J (H.zU 1 J 0 J)<|sq 1<|zjn<|zf<|sq 2 ?_
  have p3:=p2 qf
  have aDS:=H.base.size
  have aAt:=H.ltN (L:=[QJ]) [2]
  refine sw<|oc (cloneI_ok _ bF[k]! (H.get 0 J).1 qg) ?_
  rintro v15 D9 r15 x14
  replace H:=H.zy x14 r15
  obtain⟨a16,c17,rfl,aBE,aAQ⟩:=H.jB 0 rfl
  refine sw<|zH H underlying29 ti24 [Sv a16 bF[k]!.length c17] fun JN NH H=>?_
  obtain⟨G25,N,axn,H⟩:=H.vJ 1 rfl N<|H.XE [2]
  refine sw<|zQ H 2 J 0 J underlying29 ti24 J qj J J J qw qp qf fun a22 c23 Gw H=>?_
  replace H:=H.QK 3 J 0 J
  replace N:Fresh w.heap.size [(QJ++G25)]:=(N.pick [1,0]).join
  refine sq 1<|xX<|b_n<|t_n<|zf<|sw<|zY k 1 J J qf<|sq 1<|xX<|xu (m':=(bF.length-((k+1):Int)).toNat) qf ⟨_,_,_,_,_,_,_,k+1,uE4,?_,?_,J,N,H.pick [2] [0,5]⟩
  ·exact take_snoc qf
  ·omega
 refine zx4<|zcr<|sq 2<|zjr<|rH1 (Sv yK yA yJ) H ?_
 obtain rfl:k=bF.length:=by omega
 rw[List.take_length] at H
 exact⟨yK,yA,yJ,Q4,QJ,J,N,H.pick [0] [0]⟩
theorem QN(w:World)(bF:yLL)(fw:zP w C8 iq hU bF)(p0:Sm2 bF):Calls Tryz.prog 148 #[Sv iq bF.length hU] w (Ret (fun v w'=>∃(ra:yOA) (rn:Nat) (rc:Nat) (rx:List Value) (rF:yLN),v=Sv ra rn rc/\Fresh w.heap.size [rF]/\St w w' [rr ra rn rc 24 1 rx] [qX true rF rx bF]) w):=by
 refine en func148 ntmps148 ?_
 have H:=(St.start w).arg fw
 have FP:=qN fw
 clear fw
 have N:=Fresh.nil w.heap.size
 have p1:=p0.1
 refine zcr<|sq 1<|zjc<|sw<|jS H underlying29 ti24 fun b1 w2 H=>sq 1<|zjcc<|sp (yI 0)<|zjn<|xg ?_
 replace H:=H.boxRow 0 J 1 0 J qj
 replace H:=H.yF (α:=yLI)
 refine vk ((fun Z0=>fun m' ρ w3=>∃(xR:Env) (yK:yOA) (yA:Nat) (yJ:Nat) (out:yLL) (Q4:List Value) (QJ:yLN) (i:Nat),ρ=upd (upd (upd xR 0<|Sv iq bF.length hU) 3<|Sv yK yA yJ) 4 (yI i)/\out=bF.take i/\((i:Int)<=bF.length)/\m'=(bF.length-(i:Int)).toNat/\Fresh w.heap.size [QJ]/\St w w3 [rr yK yA yJ 24 1 Q4] [qX true QJ Q4 out,Z0]) _) ((bF.length-(0:Int)).toNat) ⟨_,(aa b1 0),0,0,([]:yLL),[],[],0,uE3,(by rfl),qf,J,N.emp,H⟩ ?_
 clear H N
 rintro m' ρ w4 ⟨xR,yK,yA,yJ,out,Q4,QJ,i,rfl,rfl,i0,rfl,N,H⟩
 have VS:=H.xf (α:=yLI) 0 J 0 J qj
 have p2:=p0.2 i
 rw[List.length_take_of_le qf] at VS
 refine zcc<|sp (yI i)<|sq 1<|oN J<|sq 1<|zjn<|cD J (fun h5=>?_)<|fun h5=>?_
 ·refine xe (t_n<|xO<|xg<|zf<|sq 2<|sp (yI i) ?_)
  obtain⟨b6,o7,rfl⟩:=H.addr 1 rfl qf
  obtain⟨ae9,ce9,Fe9,H⟩:=H.yg 1 rfl i i qf qf qf
  refine oI J J<|oL J (H.zU 1 J 0 J) ?_
  have p3:=p2 qf
  have aDS:=H.base.size
  have aAt:=H.ltN (L:=[QJ]) [2]
  refine sw<|oc (VV _ bF[i]! (H.get 0 J).1 qg) ?_
  rintro v15 D9 r15 x14
  replace H:=H.zy x14 r15
  obtain⟨a16,c17,rfl,aBE,aAQ⟩:=H.jB 0 rfl
  refine sw<|zH H underlying29 ti24 [Sv a16 bF[i]!.length c17] fun JN NH H=>?_
  obtain⟨G25,N,axn,H⟩:=H.vJ 1 rfl N<|H.XE [2]
  refine sw<|zQ H 2 J 0 J underlying29 ti24 J qj J J J qw qp qf fun a22 c23 Gw H=>?_
  replace H:=H.QK 3 J 0 J
  replace N:Fresh w.heap.size [(QJ++G25)]:=(N.pick [1,0]).join
  refine sq 1<|xX<|b_n<|t_n<|zf<|sp (yI i)<|sw<|zY i 1 J J qf<|sq 1<|xX<|xu (m':=(bF.length-((i+1):Int)).toNat) qf ⟨_,_,_,_,_,_,_,i+1,uE3,?_,?_,J,N,H.pick [2] [0,5]⟩
  ·exact take_snoc qf
  ·omega
 refine zx4<|zcr<|sq 2<|zjr<|rH1 (Sv yK yA yJ) H ?_
 obtain rfl:i=bF.length:=by omega
 rw[List.take_length] at H
 exact⟨yK,yA,yJ,Q4,QJ,J,N,H.pick [0] [0]⟩
theorem copyPuts_ok(w:World)(bF:List yLL)(fw:zP w C8 iq hU bF)(p0:Sm3 bF):Calls Tryz.prog 72 #[Sv iq bF.length hU] w (Ret (fun v w'=>∃(ra:yOA) (rn:Nat) (rc:Nat) (rx:List Value) (rF:yLN),v=Sv ra rn rc/\Fresh w.heap.size [rF]/\St w w' [rr ra rn rc 29 1 rx] [qX true rF rx bF]) w):=by
 refine en func72 ntmps72 ?_
 have H:=(St.start w).arg fw
 have FP:=qN fw
 clear fw
 have N:=Fresh.nil w.heap.size
 have p1:=p0.1
 refine zcr<|sq 1<|zjc<|sw<|jS H underlying45 ti29 fun b1 w2 H=>sq 1<|zjcc<|sq 1<|oN J<|sp (yI 0)<|zjn<|xg ?_
 replace H:=H.boxRow 0 J 1 0 J qj
 replace H:=H.yF (α:=yLL)
 refine vk ((fun Z0=>fun m' ρ w3=>∃(xR:Env) (yK:yOA) (yA:Nat) (yJ:Nat) (out:List yLL) (Q4:List Value) (QJ:yLN) (k:Nat),ρ=upd (upd (upd (upd xR 3<|Sv yK yA yJ) 7<|Sv iq bF.length hU) 8<|yI bF.length) 9 (yI k)/\out=bF.take k/\((k:Int)<=bF.length)/\m'=(bF.length-(k:Int)).toNat/\Fresh w.heap.size [QJ]/\St w w3 [rr yK yA yJ 29 1 Q4] [qX true QJ Q4 out,Z0]) _) ((bF.length-(0:Int)).toNat) ⟨_,(aa b1 0),0,0,([]:List yLL),[],[],0,uE4,(by rfl),qf,J,N.emp,H⟩ ?_
 clear H N
 rintro m' ρ w4 ⟨xR,yK,yA,yJ,out,Q4,QJ,k,rfl,rfl,i0,rfl,N,H⟩
 have VS:=H.xf (α:=yLL) 0 J 0 J qj
 have p2:=p0.2 k
 rw[List.length_take_of_le qf] at VS
 refine zcr<|sq 1<|zjn<|xO<|cD J (fun h5=>?_)<|fun h5=>?_
 ·refine xe (t_n<|xO<|xg<|zcr ?_)
  obtain⟨b6,o7,rfl⟩:=H.addr 1 rfl qf
  obtain⟨ae9,ce9,Fe9,H⟩:=H.yg 1 rfl k k qf qf qf
  refine oI J J<|oL J (H.zU 1 J 0 J)<|sq 1<|zjn<|zf<|sq 2 ?_
  have p3:=p2 qf
  have adZ:=H.base.size
  have acX:=H.ltN (L:=[QJ]) [2]
  refine sw<|oc (XJ _ bF[k]! (H.get 0 J).1 qg) ?_
  rintro _ z7 ⟨z4,ahM,iQ,aBh,za,rfl,M,K⟩ _
  replace N:=N.merge adZ acX M
  replace H:=H.merge K M
  obtain rfl:=H.xf (α:=yLI) 0 rfl 0 rfl qj
  refine sw<|zH H underlying45 ti29 [Sv z4 bF[k]!.length iQ] fun b16 Us H=>?_
  have H0:=H
  obtain⟨G21,MX,awt,H⟩:=H.ji (α:=yLI) 1 rfl 0 rfl qj
  replace N:Fresh w.heap.size [G21,QJ]:=Fresh.ice N H0 1 MX.1 MX.2<|H0.XE [3]
  clear H0
  refine sw<|zQ H 2 J 0 J underlying45 ti29 J qj J J J qw qp qf fun Rr RC Pa H=>?_
  replace H:=H.QK 4 J 0 J
  replace N:Fresh w.heap.size [(QJ++G21)]:=(N.pick [1,0]).join
  refine sq 1<|xX<|b_n<|t_n<|zf<|sw<|zY k 1 J J qf<|sq 1<|xX<|xu (m':=(bF.length-((k+1):Int)).toNat) qf ⟨_,_,_,_,_,_,_,k+1,uE4,?_,?_,J,N,H.pick [2] [0,6]⟩
  ·exact take_snoc qf
  ·omega
 refine zx4<|zcr<|sq 2<|zjr<|rH1 (Sv yK yA yJ) H ?_
 obtain rfl:k=bF.length:=by omega
 rw[List.take_length] at H
 exact⟨yK,yA,yJ,Q4,QJ,J,N,H.pick [0] [0]⟩
theorem Vh(w:World)(bF:List yLL)(fw:zP w C8 iq hU bF)(p0:Sm3 bF):Calls Tryz.prog 149 #[Sv iq bF.length hU] w (Ret (fun v w'=>∃(ra:yOA) (rn:Nat) (rc:Nat) (rx:List Value) (rF:yLN),v=Sv ra rn rc/\Fresh w.heap.size [rF]/\St w w' [rr ra rn rc 29 1 rx] [qX true rF rx bF]) w):=by
 refine en func149 ntmps149 ?_
 have H:=(St.start w).arg fw
 have FP:=qN fw
 clear fw
 have N:=Fresh.nil w.heap.size
 have p1:=p0.1
 refine zcr<|sq 1<|zjc<|sw<|jS H underlying45 ti29 fun b1 w2 H=>sq 1<|zjcc<|sp (yI 0)<|zjn<|xg ?_
 replace H:=H.boxRow 0 J 1 0 J qj
 replace H:=H.yF (α:=yLL)
 refine vk ((fun Z0=>fun m' ρ w3=>∃(xR:Env) (yK:yOA) (yA:Nat) (yJ:Nat) (out:List yLL) (Q4:List Value) (QJ:yLN) (i:Nat),ρ=upd (upd (upd xR 0<|Sv iq bF.length hU) 3<|Sv yK yA yJ) 4 (yI i)/\out=bF.take i/\((i:Int)<=bF.length)/\m'=(bF.length-(i:Int)).toNat/\Fresh w.heap.size [QJ]/\St w w3 [rr yK yA yJ 29 1 Q4] [qX true QJ Q4 out,Z0]) _) ((bF.length-(0:Int)).toNat) ⟨_,(aa b1 0),0,0,([]:List yLL),[],[],0,uE3,(by rfl),qf,J,N.emp,H⟩ ?_
 clear H N
 rintro m' ρ w4 ⟨xR,yK,yA,yJ,out,Q4,QJ,i,rfl,rfl,i0,rfl,N,H⟩
 have VS:=H.xf (α:=yLL) 0 J 0 J qj
 have p2:=p0.2 i
 rw[List.length_take_of_le qf] at VS
 refine zcc<|sp (yI i)<|sq 1<|oN J<|sq 1<|zjn<|cD J (fun h5=>?_)<|fun h5=>?_
 ·refine xe (t_n<|xO<|xg<|zf<|sq 2<|sp (yI i) ?_)
  obtain⟨b6,o7,rfl⟩:=H.addr 1 rfl qf
  obtain⟨ae9,ce9,Fe9,H⟩:=H.yg 1 rfl i i qf qf qf
  refine oI J J<|oL J (H.zU 1 J 0 J) ?_
  have p3:=p2 qf
  have adZ:=H.base.size
  have acX:=H.ltN (L:=[QJ]) [2]
  refine sw<|oc (QN _ bF[i]! (H.get 0 J).1 qg) ?_
  rintro _ z7 ⟨z4,ahM,iQ,aBh,za,rfl,M,K⟩ _
  replace N:=N.merge adZ acX M
  replace H:=H.merge K M
  obtain rfl:=H.xf (α:=yLI) 0 rfl 0 rfl qj
  refine sw<|zH H underlying45 ti29 [Sv z4 bF[i]!.length iQ] fun b16 Us H=>?_
  have H0:=H
  obtain⟨G21,MX,awt,H⟩:=H.ji (α:=yLI) 1 rfl 0 rfl qj
  replace N:Fresh w.heap.size [G21,QJ]:=Fresh.ice N H0 1 MX.1 MX.2<|H0.XE [3]
  clear H0
  refine sw<|zQ H 2 J 0 J underlying45 ti29 J qj J J J qw qp qf fun Rr RC Pa H=>?_
  replace H:=H.QK 4 J 0 J
  replace N:Fresh w.heap.size [(QJ++G21)]:=(N.pick [1,0]).join
  refine sq 1<|xX<|b_n<|t_n<|zf<|sp (yI i)<|sw<|zY i 1 J J qf<|sq 1<|xX<|xu (m':=(bF.length-((i+1):Int)).toNat) qf ⟨_,_,_,_,_,_,_,i+1,uE3,?_,?_,J,N,H.pick [2] [0,6]⟩
  ·exact take_snoc qf
  ·omega
 refine zx4<|zcr<|sq 2<|zjr<|rH1 (Sv yK yA yJ) H ?_
 obtain rfl:i=bF.length:=by omega
 rw[List.take_length] at H
 exact⟨yK,yA,yJ,Q4,QJ,J,N,H.pick [0] [0]⟩
theorem VP(w:World)(d:zG)(rA:zP w Nt vc vd d.qG)(ks:zP w EL kz jz d.qF)(uH:zP w W5 uN xp d.jA)(kh:zP w Eb fS fU d.qU)(AM:zP w Wa rj rk d.jH)(sn:zP w Oa iO iM d.zM)(p0:SmD d):Calls Tryz.prog 28 #[.agg #[yI d.qK,Sv vc d.qG.length vd,Sv kz d.qF.length jz,Bv d.qY,Sv uN d.jA.length xp,Sv fS d.qU.length fU,Sv rj d.jH.length rk,Sv iO d.zM.length iM]] w (Ret (fun v w'=>∃(nb:yOA) (ml:Nat) (m9:yLN) (fY:yOA) (fZ:Nat) (DE:yLN) (EU:yOA) (Eu:Nat) (ZD:yLN) (mU:yOA) (ny:Nat) (mO:yLN) (DA:yOA) (EM:Nat) (Db:yLN) (u0:yOA) (vR:Nat) (va:yLN),v=.agg #[yI d.qK,Sv nb d.qG.length ml,Sv fY d.qF.length fZ,Bv d.qY,Sv EU d.jA.length Eu,Sv mU d.qU.length ny,Sv DA d.jH.length EM,Sv u0 d.zM.length vR]/\Fresh w.heap.size [m9,DE,ZD,mO,Db,va]/\St w w' [] [sF true m9 nb ml d.qG,sF true DE fY fZ d.qF,sF true ZD EU Eu d.jA,sF true mO mU ny d.qU,sF true Db DA EM d.jH,sF true va u0 vR d.zM]) w):=by
 refine en func28 ntmps28 ?_
 have H:=((((((St.start w).arg sn).arg AM).arg kh).arg uH).arg ks).arg rA
 have au4:=qN rA
 have afw:=qN ks
 have aby:=qN uH
 have agq:=qN kh
 have awF:=qN AM
 have avO:=qN sn
 clear rA ks uH kh AM sn
 have N:=Fresh.nil w.heap.size
 have p1:=p0.bags
 have p2:=p0.around
 have p3:=p0.got
 have p4:=p0.coming
 have p5:=p0.now
 have p6:=p0.last
 refine zcr<|sw<|jb H [yI d.qK,Sv vc d.qG.length vd,Sv kz d.qF.length jz,Bv d.qY,Sv uN d.jA.length xp,Sv fS d.qU.length fU,Sv rj d.jH.length rk,Sv iO d.zM.length iM] fun b1 w2 H=>sw<|x8 H ti47 [yI 0,yN,yN,Bv false,yN,yN,yN,yN] fun b3 w4 H=>zjn<|xO<|vW 7 J H [0,1] [0,1,2,3,4,5] fun H=>?_
 dsimp only[yu,yU]
 refine tF 0 J J H ?_
 refine tL 1 J J (fun _ h=>h.cell 1 J J) H ?_
 refine tF 3 J J H ?_
 refine tL 4 J J (fun _ h=>h.cell 1 J J) H ?_
 refine tF 6 J J H ?_
 refine tL 7 J J (fun _ h=>h.cell 1 J J) H ?_
 refine tF 9 J J H ?_
 refine tL 10 J J (fun _ h=>h.cell 1 J J) H ?_
 refine ro 2 J ?_
 have sz9:=H.base.size
 refine oc (XJ _ d.qG (H.get 0 J).1 qg) ?_
 rintro _ w7 ⟨iL,rn6,Iv,rx6,rF6,rfl,M,K⟩ _
 replace N:=N.merge sz9 qm M
 replace H:=H.merge K M
 obtain rfl:=H.xf (α:=yLI) 0 rfl 0 rfl qj
 refine⟨H.pick [1,2]<|zR 1 6,(tF 12 J J (H.pick [1,2]<|zR 1 6) ?_)⟩
 refine ro 5 J ?_
 have ahA:=H.base.size
 have aN4:=H.ltN (L:=[rF6]) [0]
 refine oc (cloneI_ok _ d.qF (H.get 2 J).1 qg) ?_
 rintro v17 IR r17 x16
 replace H:=H.zy x16 r17
 obtain⟨Rr,RC,rfl,aND,aKp⟩:=H.jB 0 rfl
 refine⟨H.pick [2,3]<|zR 1 6,(ro 8 J ?_)⟩
 have aMf:=H.base.size
 refine oc (cloneB_ok _ d.jA (H.get 3 J).1 qg) ?_
 rintro _ E8 ⟨eN,aPX,fh,rfl,M,K⟩ _
 replace H:=H.merge K M
 obtain rfl:=H.Vt 0 rfl
 refine⟨H.pick [3,4]<|zR 1 6,(ro 11 J ?_)⟩
 have aDH:=H.base.size
 have aBJ:=H.ltN (L:=[rF6]) [0]
 refine oc (XJ _ d.qU (H.get 4 J).1 qg) ?_
 rintro _ Iu ⟨e7,aa4,pO,aAl,dY,rfl,M,K⟩ _
 replace N:=N.merge aDH aBJ M
 replace H:=H.merge K M
 obtain rfl:=H.xf (α:=yLI) 0 rfl 0 rfl qj
 refine⟨H.pick [4,5]<|zR 2 6,(xx qh<|zg<|sw<|zn H 5 [yI d.qK,Sv iL d.qG.length Iv,Sv kz d.qF.length jz,Bv d.qY,Sv uN d.jA.length xp,Sv fS d.qU.length fU,Sv rj d.jH.length rk,Sv iO d.zM.length iM] sizeOf29 fun WG H=>oF J ?_)⟩
 refine sw<|zn H 5 [yI d.qK,Sv iL d.qG.length Iv,Sv Rr d.qF.length RC,Bv d.qY,Sv uN d.jA.length xp,Sv fS d.qU.length fU,Sv rj d.jH.length rk,Sv iO d.zM.length iM] sizeOf24 fun KW H=>oF J ?_
 refine sw<|zn H 5 [yI d.qK,Sv iL d.qG.length Iv,Sv Rr d.qF.length RC,Bv d.qY,Sv eN d.jA.length fh,Sv fS d.qU.length fU,Sv rj d.jH.length rk,Sv iO d.zM.length iM] sizeOf28 fun JP H=>oF J ?_
 refine sw<|zn H 5 [yI d.qK,Sv iL d.qG.length Iv,Sv Rr d.qF.length RC,Bv d.qY,Sv eN d.jA.length fh,Sv e7 d.qU.length pO,Sv rj d.jH.length rk,Sv iO d.zM.length iM] sizeOf29 fun w37 H=>zjn<|xO<|vW 3 J H [0,1,2,3,4,5] [0,1,2,3,4,5,6,7] fun H=>?_
 dsimp only[yu,yU]
 refine tF 0 J J H ?_
 refine tL 1 J J (fun _ h=>h.cell 5 J J) H ?_
 refine tF 3 J J H ?_
 refine tL 4 J J (fun _ h=>h.cell 5 J J) H ?_
 refine ro 2 J ?_
 have azM:=H.base.size
 have aC0:=H.ltN (L:=[dY,rF6]) [0,1]
 refine oc (copyPuts_ok _ d.jH (H.get 6 J).1 qg) ?_
 rintro _ w40 ⟨C0,axG,DK,aKE,My,rfl,M,K⟩ _
 replace N:=N.merge azM aC0 M
 replace H:=H.merge K M
 obtain rfl:=H.xf (α:=yLL) 0 rfl 0 rfl qj
 refine⟨H.pick (zR 1 6)<|zR 1 8,(tF 6 J J (H.pick (zR 1 6)<|zR 1 8) ?_)⟩
 refine ro 5 J ?_
 have awr:=H.base.size
 have azg:=H.ltN (L:=[My,dY,rF6]) [0,1,2]
 refine oc (copyPuts_ok _ d.zM (H.get 8 J).1 qg) ?_
 rintro _ O7 ⟨R3,aNZ,Ga,aLT,adY,rfl,M,K⟩ _
 replace N:=N.merge awr azg M
 replace H:=H.merge K M
 obtain rfl:=H.xf (α:=yLL) 0 rfl 0 rfl qj
 refine⟨H.pick (zR 2 6)<|zR 2 8,(xx qh<|zg<|sw<|zn H 7 [yI d.qK,Sv iL d.qG.length Iv,Sv Rr d.qF.length RC,Bv d.qY,Sv eN d.jA.length fh,Sv e7 d.qU.length pO,Sv C0 d.jH.length DK,Sv iO d.zM.length iM] sizeOf45 fun w51 H=>oF J ?_)⟩
 refine sw<|zn H 7 [yI d.qK,Sv iL d.qG.length Iv,Sv Rr d.qF.length RC,Bv d.qY,Sv eN d.jA.length fh,Sv e7 d.qU.length pO,Sv C0 d.jH.length DK,Sv R3 d.zM.length Ga] sizeOf45 fun w52 H=>zjc<|sw<|xW [yI d.qK,Sv iL d.qG.length Iv,Sv Rr d.qF.length RC,Bv d.qY,Sv eN d.jA.length fh,Sv e7 d.qU.length pO,Sv C0 d.jH.length DK,Sv R3 d.zM.length Ga] isAgg47 sizeOf47 J (qH (H.cells 7 J) 0 8)<|sw<|xZ H 6 [yI d.qK,Sv iL d.qG.length Iv,Sv Rr d.qF.length RC,Bv d.qY,Sv eN d.jA.length fh,Sv e7 d.qU.length pO,Sv C0 d.jH.length DK,Sv R3 d.zM.length Ga] sizeOf47 fun w53 H=>zjr ?_
 have H0:=H
 obtain⟨T5,acw,aDB,H⟩:=H.ji (α:=yLI) 5 rfl 3 rfl qj
 replace N:Fresh w.heap.size [T5,adY,My,dY]:=Fresh.ice (N.pick [3,0,1,2]) H0 5 acw.1 acw.2<|H0.XE [0,1,2]
 clear H0
 obtain⟨LH,N,ahP,H⟩:=H.vJ 4 rfl N<|H.XE<|zR 0 4
 obtain⟨G59,N,aDD,H⟩:=H.freezeB 3 rfl N<|H.XE<|zR 0 5
 have H0:=H
 obtain⟨G61,ahc,acs,H⟩:=H.ji (α:=yLI) 2 rfl 5 rfl qj
 replace N:Fresh w.heap.size [G61,G59,LH,T5,adY,My]:=Fresh.ice (N.pick (5::zR 0 5)) H0 2 ahc.1 ahc.2<|H0.XE<|zR 0 5
 clear H0
 have H0:=H
 obtain⟨G64,ag2,adG,H⟩:=H.ji (α:=yLL) 1 rfl 5 rfl qj
 replace N:Fresh w.heap.size [G64,G61,G59,LH,T5,adY]:=Fresh.ice (N.pick (5::zR 0 5)) H0 1 ag2.1 ag2.2<|H0.XE<|zR 0 5
 clear H0
 have H0:=H
 obtain⟨G67,ar1,aLC,H⟩:=H.ji (α:=yLL) 0 rfl 5 rfl qj
 replace N:Fresh w.heap.size [G67,G64,G61,G59,LH,T5]:=Fresh.ice (N.pick (5::zR 0 5)) H0 0 ar1.1 ar1.2<|H0.XE<|zR 0 5
 clear H0
 refine retC H 6 J J isAgg47 sizeOf47 J ⟨_,J,(⟨iL,Iv,T5,Rr,RC,LH,eN,fh,G59,e7,pO,G61,C0,DK,G64,R3,Ga,G67,J,(N.pick [5,4,3,2,1,0]),H.pick [] [5,4,3,2,1,0]⟩),H.base⟩
theorem l08Copy_ok(w:World)(d:zG){bd od:Nat}(hd:jO w bd od [yI d.qK,Sv vc d.qG.length vd,Sv kz d.qF.length jz,Bv d.qY,Sv uN d.jA.length xp,Sv fS d.qU.length fU,Sv rj d.jH.length rk,Sv iO d.zM.length iM])(rA:zP w Nt vc vd d.qG)(ks:zP w EL kz jz d.qF)(uH:zP w W5 uN xp d.jA)(kh:zP w Eb fS fU d.qU)(AM:zP w Wa rj rk d.jH)(sn:zP w Oa iO iM d.zM)(p0:SmD d):Calls Tryz.prog 103 #[pp bd od] w (Ret (fun v w'=>∃(nb:yOA) (wz:Nat) (ml:Nat) (wW:List Value) (m9:yLN) (fY:yOA) (ng:Nat) (fZ:Nat) (EU:yOA) (XS:Nat) (Eu:Nat) (mU:yOA) (Ep:Nat) (ny:Nat) (EC:List Value) (mO:yLN) (DA:yOA) (W7:Nat) (EM:Nat) (aas:List Value) (Db:yLN) (u0:yOA) (Of:Nat) (vR:Nat) (ND:List Value) (va:yLN),v=.agg #[yI d.qK,Sv nb wz ml,Sv fY ng fZ,Bv d.qY,Sv EU XS Eu,Sv mU Ep ny,Sv DA W7 EM,Sv u0 Of vR]/\Fresh w.heap.size [m9,mO,Db,va]/\St w w' [rr nb wz ml 24 1 wW,rr fY ng fZ 2 1<|d.qF.map<|Value.int .i64,rr EU XS Eu 4 1<|d.jA.map<|Value.bool,rr mU Ep ny 24 1 EC,rr DA W7 EM 29 1 aas,rr u0 Of vR 29 1 ND] [qX true m9 wW d.qG,qX true mO EC d.qU,qX true Db aas d.jH,qX true va ND d.zM]) w):=by
 refine en func103 ntmps103 ?_
 have H:=(((((((St.start w).arg sn).arg AM).arg kh).arg uH).arg ks).arg rA).argAt hd
 have aby:=qN uH
 clear hd rA ks uH kh AM sn
 have N:=Fresh.nil w.heap.size
 have p1:=p0.bags
 have p2:=p0.around
 have p3:=p0.got
 have p4:=p0.coming
 have p5:=p0.now
 have p6:=p0.last
 refine zcr<|sw<|x8 H ti47 [yI 0,yN,yN,Bv false,yN,yN,yN,yN] fun b1 w2 H=>zjn<|xO<|c_lateC 2 (fun ρ E8=>∃(xR:Env) (ra3:yOA) (rc4:Nat) (a5:yOA) (c6:Nat) (a7:yOA) (c8:Nat) (Ic:yOA) (iQ:Nat) (sj:yOA) (kI:Nat) (nQ:yOA) (f3:Nat) (Si:List Value) (BV:List Value) (KZ:List Value) (R6:List Value) (SP:yLN) (Du:yLN) (KO:yLN) (nV:yLN),ρ=upd (upd (upd (upd (upd (upd (upd (upd (upd xR 2<|pp b1 0) 6<|yI d.qK) 11<|Sv ra3 d.qG.length rc4) 16<|Sv a5 d.qF.length c6) 20<|Bv d.qY) 26<|Sv a7 (0+d.jA.length) c8) 31<|Sv Ic d.qU.length iQ) 36<|Sv sj d.jH.length kI) 41 (Sv nQ d.zM.length f3)/\Fresh w.heap.size [SP,Du,KO,nV]/\St w E8 [rr nQ d.zM.length f3 29 1 Si,rr sj d.jH.length kI 29 1 BV,rr Ic d.qU.length iQ 24 1 KZ,rr a7 (0+d.jA.length) c8 4 1 ((([]:List Bool)++d.jA).map<|Value.bool),rr a5 d.qF.length c6 2 1<|d.qF.map<|Value.int .i64,rr ra3 d.qG.length rc4 24 1 R6,.box b1 [yI 0,yN,yN,Bv false,yN,yN,yN,yN] 47] [qX true SP Si d.zM,qX true Du BV d.jH,qX true KO KZ d.qU,qX true nV R6 d.qG]) J H [0] [0,1,2,3,4,5,6] (fun H=>?_) ?_
 ·dsimp only[yu,yU]
  refine rtl 0 H ?_
  refine rtl 1 H ?_
  refine tF 2 J J H ?_
  refine tL 3 J J (fun _ h=>h.zU 0 J 0 J) H ?_
  refine rtl 4 H ?_
  refine rtl 5 H ?_
  refine tF 6 J J H ?_
  refine tL 7 J J (fun _ h=>h.zU 0 J 1 J) H ?_
  refine rtl 9 H ?_
  refine rtl 10 H ?_
  refine tF 11 J J H ?_
  refine tL 12 J J (fun _ h=>h.zU 0 J 2 J) H ?_
  refine rtl 14 H ?_
  refine rtl 15 H ?_
  refine tF 16 J J H ?_
  refine tL 17 J J (fun _ h=>h.zU 0 J 3 J) H ?_
  refine rtl 19 H ?_
  refine rtl 20 H ?_
  refine tF 21 J J H ?_
  refine tL 22 J J (fun _ h=>h.zU 0 J 4 J) H ?_
  refine rtl 24 H ?_
  refine rtl 25 H ?_
  refine tF 26 J J H ?_
  refine tL 27 J J (fun _ h=>h.zU 0 J 5 J) H ?_
  refine rtl 29 H ?_
  refine rtl 30 H ?_
  refine tF 31 J J H ?_
  refine tL 32 J J (fun _ h=>h.zU 0 J 6 J) H ?_
  refine rtl 34 H ?_
  refine rtl 35 H ?_
  refine tF 36 J J H ?_
  refine tL 37 J J (fun _ h=>h.zU 0 J 7 J) H ?_
  refine jw [8,18] qh qm<|yl J ?_<|yl J ?_ jy
  ·have ayQ:=H.base.size
   refine oc (QN _ d.qG (H.get 1 J).1 qg) ?_
   rintro _ E3 ⟨l0,azZ,TR,ad0,Dd,rfl,M,K⟩ _
   replace N:=N.merge ayQ qm M
   replace H:=H.merge K M
   obtain rfl:=H.xf (α:=yLI) 0 rfl 0 rfl qj
   refine⟨H.pick [1]<|zR 1 7,(jw [13,18] qh qm<|yl J ?_<|yl J ?_ jy)⟩
   ·refine oc (VV _ d.qF (H.get 3 J).1 qg) ?_
    rintro v36 WG r36 x35
    replace H:=H.zy x35 r36
    obtain⟨a37,c38,rfl,aOF,aIQ⟩:=H.jB 0 rfl
    refine⟨H.pick [2]<|zR 1 7,(ro 18 J<|jS H underlying28 ti4 fun GN Ul H=>⟨H.pick [3]<|zR 1 7,(ro 23 J ?_)⟩)⟩
    replace H:=H.boxRowB 0 [] 0
    refine o_appendFR H 0 J 4 J underlying28 ti4 J qj J J qp qf fun a43 c44 w45 aKV G47 H aMA=>?_
    obtain⟨_,rfl⟩:=reps_bools (H.get 0 rfl).1
    replace H:=H.sub _ fun f hf=>List.mem_cons_of_mem _ hf
    rw[catB] at H
    refine⟨H.pick [3]<|zR 1 7,(ro 28 J ?_)⟩
    have amf:=H.base.size
    have axL:=H.ltN (L:=[Dd]) [0]
    refine oc (QN _ d.qU (H.get 5 J).1 qg) ?_
    rintro _ w50 ⟨KT,ayt,tX,aw4,Tp,rfl,M,K⟩ _
    replace N:=N.merge amf axL M
    replace H:=H.merge K M
    obtain rfl:=H.xf (α:=yLI) 0 rfl 0 rfl qj
    refine⟨H.pick [4]<|zR 2 7,(ro 33 J ?_)⟩
    have aw3:=H.base.size
    have aCk:=H.ltN (L:=[Tp,Dd]) [0,1]
    refine oc (Vh _ d.jH (H.get 7 J).1 qg) ?_
    rintro _ R7 ⟨BR,aBM,Bj,ahp,Ff,rfl,M,K⟩ _
    replace N:=N.merge aw3 aCk M
    replace H:=H.merge K M
    obtain rfl:=H.xf (α:=yLL) 0 rfl 0 rfl qj
    refine⟨H.pick [5]<|zR 3 7,(ro 38 J ?_)⟩
    have acj:=H.base.size
    have acA:=H.ltN (L:=[Ff,Tp,Dd]) [0,1,2]
    refine oc (Vh _ d.zM (H.get 9 J).1 qg) ?_
    rintro _ w62 ⟨NZ,aAa,MG,am0,am9,rfl,M,K⟩ _
    replace N:=N.merge acj acA M
    replace H:=H.merge K M
    obtain rfl:=H.xf (α:=yLL) 0 rfl 0 rfl qj
    refine⟨H.pick [6]<|zR 4 7,(xx qh ((meet ⟨_,l0,TR,a37,c38,a43,c44,KT,tX,BR,Bj,NZ,MG,am0,ahp,aw4,ad0,am9,Ff,Tp,Dd,uE9,N,H.pick (zR 0 7)<|zR 0 4⟩)))⟩
   refine jS H underlying28 ti4 fun b67 w68 H=>⟨H.pick [2]<|zR 1 7,(ro 13 J ?_)⟩
   refine oc (VV _ d.qF (H.get 3 J).1 qg) ?_
   rintro v74 LT r74 x73
   replace H:=H.zy x73 r74
   obtain⟨a75,c76,rfl,axA,azP⟩:=H.jB 0 rfl
   refine⟨H.pick [3]<|zR 1 7,(ro 23 J ?_)⟩
   replace H:=H.boxRowB 1 [] 0
   refine o_appendFR H 1 J 4 J underlying28 ti4 J qj J J qp qf fun a79 c80 w81 aQ0 G83 H aMu=>?_
   obtain⟨_,rfl⟩:=reps_bools (H.get 0 rfl).1
   replace H:=H.sub _ fun f hf=>List.mem_cons_of_mem _ hf
   rw[catB] at H
   refine⟨H.pick [3]<|zR 1 7,(ro 28 J ?_)⟩
   have acu:=H.base.size
   have acV:=H.ltN (L:=[Dd]) [0]
   refine oc (QN _ d.qU (H.get 5 J).1 qg) ?_
   rintro _ w86 ⟨r4,aQN,axj,ayJ,D7,rfl,M,K⟩ _
   replace N:=N.merge acu acV M
   replace H:=H.merge K M
   obtain rfl:=H.xf (α:=yLI) 0 rfl 0 rfl qj
   refine⟨H.pick [4]<|zR 2 7,(ro 33 J ?_)⟩
   have aA6:=H.base.size
   have awN:=H.ltN (L:=[D7,Dd]) [0,1]
   refine oc (Vh _ d.jH (H.get 7 J).1 qg) ?_
   rintro _ w92 ⟨aBe,aKx,axk,awk,ag0,rfl,M,K⟩ _
   replace N:=N.merge aA6 awN M
   replace H:=H.merge K M
   obtain rfl:=H.xf (α:=yLL) 0 rfl 0 rfl qj
   refine⟨H.pick [5]<|zR 3 7,(ro 38 J ?_)⟩
   have ajU:=H.base.size
   have am3:=H.ltN (L:=[ag0,D7,Dd]) [0,1,2]
   refine oc (Vh _ d.zM (H.get 9 J).1 qg) ?_
   rintro _ w98 ⟨axb,aO3,K7,aBC,axF,rfl,M,K⟩ _
   replace N:=N.merge ajU am3 M
   replace H:=H.merge K M
   obtain rfl:=H.xf (α:=yLL) 0 rfl 0 rfl qj
   refine⟨H.pick [6]<|zR 4 7,(xx qh ((meet ⟨_,l0,TR,a75,c76,a79,c80,r4,axj,aBe,axk,axb,K7,aBC,awk,ayJ,ad0,axF,ag0,D7,Dd,uE9,N,H.pick [0,1,2,4,3,5,6]<|zR 0 4⟩)))⟩
  refine jS H underlying28 ti4 fun Mm Rd H=>⟨H.pick [1]<|zR 0 7,(ro 8 J ?_)⟩
  have apy:=H.base.size
  refine oc (QN _ d.qG (H.get 1 J).1 qg) ?_
  rintro _ R1 ⟨Aj,ahZ,aqk,ata,Hg,rfl,M,K⟩ _
  replace N:=N.merge apy qm M
  replace H:=H.merge K M
  obtain rfl:=H.xf (α:=yLI) 0 rfl 0 rfl qj
  refine⟨H.pick [2]<|zR 1 7,(ro 13 J ?_)⟩
  refine oc (VV _ d.qF (H.get 3 J).1 qg) ?_
  rintro aP6 Rc ax6 awK
  replace H:=H.zy awK ax6
  obtain⟨azO,aCK,rfl,aGy,aEJ⟩:=H.jB 0 rfl
  refine⟨H.pick [3]<|zR 1 7,(ro 23 J ?_)⟩
  replace H:=H.boxRowB 2 [] 0
  refine o_appendFR H 2 J 4 J underlying28 ti4 J qj J J qp qf fun aAe axy M5 aEc aIR H aGD=>?_
  obtain⟨_,rfl⟩:=reps_bools (H.get 0 rfl).1
  replace H:=H.sub _ fun f hf=>List.mem_cons_of_mem _ hf
  rw[catB] at H
  refine⟨H.pick [3]<|zR 1 7,(ro 28 J ?_)⟩
  have aom:=H.base.size
  have ap6:=H.ltN (L:=[Hg]) [0]
  refine oc (QN _ d.qU (H.get 5 J).1 qg) ?_
  rintro _ TF ⟨agZ,aHy,ao3,ajH,PM,rfl,M,K⟩ _
  replace N:=N.merge aom ap6 M
  replace H:=H.merge K M
  obtain rfl:=H.xf (α:=yLI) 0 rfl 0 rfl qj
  refine⟨H.pick [4]<|zR 2 7,(ro 33 J ?_)⟩
  have ajV:=H.base.size
  have aiI:=H.ltN (L:=[PM,Hg]) [0,1]
  refine oc (Vh _ d.jH (H.get 7 J).1 qg) ?_
  rintro _ aoX ⟨ah9,aGF,asU,ase,ZC,rfl,M,K⟩ _
  replace N:=N.merge ajV aiI M
  replace H:=H.merge K M
  obtain rfl:=H.xf (α:=yLL) 0 rfl 0 rfl qj
  refine⟨H.pick [5]<|zR 3 7,(ro 38 J ?_)⟩
  have ats:=H.base.size
  have akW:=H.ltN (L:=[ZC,PM,Hg]) [0,1,2]
  refine oc (Vh _ d.zM (H.get 9 J).1 qg) ?_
  rintro _ aso ⟨PY,aar,Mj,N7,Mr,rfl,M,K⟩ _
  replace N:=N.merge ats akW M
  replace H:=H.merge K M
  obtain rfl:=H.xf (α:=yLL) 0 rfl 0 rfl qj
  refine⟨H.pick [6]<|zR 4 7,(xx qh ((meet ⟨_,Aj,aqk,azO,aCK,aAe,axy,agZ,ao3,ah9,asU,PY,Mj,N7,ase,ajH,ata,Mr,ZC,PM,Hg,uE9,N,H.pick [0,1,2,5,3,4,6]<|zR 0 4⟩)))⟩
 clear H N
 rintro ρ aaY ⟨xR,ra3,rc4,a5,c6,a7,c8,Ic,iQ,sj,kI,nQ,f3,Si,BV,KZ,R6,SP,Du,KO,nV,rfl,N,H⟩
 refine sw<|vZ [yI d.qK,Sv ra3 d.qG.length rc4,Sv a5 d.qF.length c6,Bv d.qY,Sv a7 (0+d.jA.length) c8,Sv Ic d.qU.length iQ,Sv sj d.jH.length kI,Sv nQ d.zM.length f3] [(0,yI d.qK),(1,Sv ra3 d.qG.length rc4),(2,Sv a5 d.qF.length c6),(3,Bv d.qY),(4,Sv a7 (0+d.jA.length) c8),(5,Sv Ic d.qU.length iQ),(6,Sv sj d.jH.length kI),(7,Sv nQ d.zM.length f3)]<|sw<|xZ H 6 [yI d.qK,Sv ra3 d.qG.length rc4,Sv a5 d.qF.length c6,Bv d.qY,Sv a7 (0+d.jA.length) c8,Sv Ic d.qU.length iQ,Sv sj d.jH.length kI,Sv nQ d.zM.length f3] sizeOf47 fun Sh H=>zjr<|retC H 6 J J isAgg47 sizeOf47 J ⟨_,J,(⟨ra3,d.qG.length,rc4,R6,nV,a5,d.qF.length,c6,a7,0+d.jA.length,c8,Ic,d.qU.length,iQ,KZ,KO,sj,d.jH.length,kI,BV,Du,nQ,d.zM.length,f3,Si,SP,J,(N.pick [3,2,1,0]),H.pick [5,4,3,2,1,0] [3,2,1,0]⟩),H.base⟩
theorem added_ok(w:World)(bF:yLL)(more:yLL){ki:yOA}{j5:Nat}{sT:yLN}(fw:zP w C8 iq hU bF)(mR:zP w sT ki j5 more)(p0:bF.length<=more.length/\bF.length<=1000000)(p1:∀k,k<bF.length->bF[k]!.length<=more[k]!.length/\Mid (bF[k]!)/\XG more[k]! 1):Calls Tryz.prog 145 #[Sv iq bF.length hU,Sv ki more.length j5] w (Ret (fun v w'=>∃(ra:yOA) (rn:Nat) (rc:Nat) (rx:List Value) (rF:yLN),v=Sv ra rn rc/\Fresh w.heap.size [rF]/\St w w' [rr ra rn rc 24 1 rx] [qX true rF rx<|QO bF more]) w):=by
 refine en func145 ntmps145 ?_
 have H:=((St.start w).arg mR).arg fw
 have awv:=qN mR
 clear fw mR
 have N:=Fresh.nil w.heap.size
 refine zcr<|sq 1<|zjc<|sw<|jS H underlying29 ti24 fun b1 w2 H=>sq 1<|zjcc<|sq 1<|oN J<|sp (yI 0)<|zjn<|xg ?_
 replace H:=H.boxRow 0 J 1 0 J qj
 replace H:=H.yF (α:=yLI)
 refine vk ((fun Z0 Z1=>fun m' ρ w3=>∃(xR:Env) (yK:yOA) (yA:Nat) (yJ:Nat) (out:yLL) (Q4:List Value) (QJ:yLN) (i:Nat),ρ=upd (upd (upd (upd (upd xR 1<|Sv ki more.length j5) 5<|Sv yK yA yJ) 9<|Sv iq bF.length hU) 10<|yI bF.length) 11 (yI i)/\out=XP bF more i/\((i:Int)<=bF.length)/\m'=(bF.length-(i:Int)).toNat/\Fresh w.heap.size [QJ]/\St w w3 [rr yK yA yJ 24 1 Q4] [qX true QJ Q4 out,Z0,Z1]) _ _) ((bF.length-(0:Int)).toNat) ⟨_,(aa b1 0),0,0,([]:yLL),[],[],0,uE5,(by rfl),qf,J,N.emp,H⟩ ?_
 clear H N
 rintro m' ρ w4 ⟨xR,yK,yA,yJ,out,Q4,QJ,i,rfl,rfl,i0,rfl,N,H⟩
 have VS:=H.xf (α:=yLI) 0 J 0 J qj
 have q4:=Yi bF more i
 refine zcr<|sq 1<|zjn<|xO<|cD J (fun h5=>?_)<|fun h5=>?_
 ·refine xe (t_n<|xO<|xg<|zcr<|sp (yI i) ?_)
  obtain⟨b6,o7,rfl⟩:=H.addr 1 rfl qf
  obtain⟨ae9,ce9,Fe9,H⟩:=H.yg 1 rfl i i qf qf qf
  refine oI J J<|oL J (H.zU 1 J 0 J)<|sp (yI i)<|sq 1<|zjn<|zf<|sq 3<|sp (yI i) ?_
  obtain⟨z8,o11,rfl⟩:=H.addr 4 rfl qf
  obtain⟨aQD,aOY,aLE,H⟩:=H.yg 4 rfl i i qf qf qf
  refine oI J J<|oL J (H.zU 1 J 0 J) ?_
  obtain⟨q1,q2,q3⟩:=p1 i qf
  refine sw<|oc (Vy _ bF[i]! more[i]! 1 (H.get 2 J).1 (H.get 0 J).1 qg qg qg) ?_
  rintro v19 Us r19 x18
  replace H:=H.zy x18 r19
  obtain⟨a20,c21,rfl,aMt,aMe⟩:=H.jB 0 rfl
  refine sw<|zH H underlying29 ti24 [Sv a20 ((vX bF[i]! more[i]! 1).length) c21] fun Gd E4 H=>?_
  obtain⟨G29,N,aIG,H⟩:=H.vJ 1 rfl N<|H.XE [4]
  refine sw<|zQ H 2 J 0 J underlying29 ti24 J qj J J J qw qp qf fun a26 c27 LE H=>?_
  replace H:=H.QK 5 J 0 J
  replace N:Fresh w.heap.size [(QJ++G29)]:=(N.pick [1,0]).join
  refine sq 1<|xX<|b_n<|t_n<|zf<|sw<|zY i 1 J J qf<|sq 1<|xX<|xu (m':=(bF.length-((i+1):Int)).toNat) qf ⟨_,_,_,_,_,_,_,i+1,uE5,?_,?_,J,N,H.pick [2] [0,7,8]⟩
  ·exact addTabTo_snoc _ _ _
  ·omega
 refine zx4<|zcr<|sq 2<|zjr<|rH1 (Sv yK yA yJ) H ?_
 obtain rfl:i=bF.length:=by omega
 exact⟨yK,yA,yJ,Q4,QJ,J,N,H.pick [0] [0]⟩
theorem l08Still_ok(w:World)(s:qJ)(hs:jO w bs os (yS s qM qL xm xh))(qZ:zP w xN qM qL s.qA)(xM:zP w zN xm xh s.qB):Calls Tryz.prog 116 #[pp bs os] w (Ret (fun v w'=>v=Bv (dec<|Still s)) w):=by
 refine en func116 ntmps116 ?_
 have H:=(((St.start w).arg xM).arg qZ).argAt hs
 have jP:=qN xM
 clear hs qZ xM
 have N:=Fresh.nil w.heap.size
 refine zcr<|sp (Bv false)<|zjcc<|sp (yI 0)<|zjn<|xg<|vk ((fun Z0 Z1 Z2=>fun m' ρ w1=>∃(xR:Env) (i:Nat),ρ=upd (upd xR 0<|pp bs os) 3 (yI i)/\((i:Int)<=s.qB.length)/\(StillTo s i)/\m'=(s.qB.length-(i:Int)).toNat/\Fresh w.heap.size []/\St w w1 [] [Z0,Z1,Z2]) _ _ _) ((s.qB.length-(0:Int)).toNat) ⟨_,0,uE2,qf,qx,J,N,H⟩ ?_
 clear H N
 rintro m' ρ w2 ⟨xR,i,rfl,i0,i1,rfl,N,H⟩
 refine zcc<|sp (yI i)<|sq 2<|oF J<|oL J (H.zU 0 J 2 J)<|oN J<|sq 1<|zjn<|cD J (fun h3=>?_)<|fun h3=>?_
 ·refine xe (t_n<|xO<|xg<|zcr<|sq 2<|oF J<|oL J (H.zU 0 J 2 J)<|sp (yI i) ?_)
  obtain⟨b4,o5,rfl⟩:=H.addr 2 rfl qf
  obtain⟨aug,at8,atw,auj,auk,avy,auO,auP,avM,avF,auo,avg,aBg,aDJ,aCo,avi,avE,auH,H⟩:=H.Xd 2 rfl i i qf qf qf
  refine oI J J<|oF J<|oL J (H.zU 6 J 8 J)<|zjn<|vP _ J (fun h8=>?_)<|fun h8=>?_
  ·refine zcr (sp (Bv false)<|zjr<|zr5<|rH1 (Bv false) H ?_)
   rw[xH<|fun h=>ft (by assumption:s.qB[i]!.je=true)<|h i qf]
  refine xe<|b_n<|t_n<|zf<|sp (yI i)<|sw<|zY i 1 J J qf<|sq 1<|xX<|xu (m':=(s.qB.length-((i+1):Int)).toNat) qf ⟨_,i+1,uE2,?_,?_,J,N,H.pick [] [7,8,9]⟩
  ·omega
  ·exact i1.succ ql
 refine zx4<|zcr<|sp (Bv true)<|zjr<|rH1 (Bv true) H ?_
 rw[QD<|show Still s from fun j hj=>i1 j qf]
theorem l08Whole_ok(w:World)(s:qJ)(t:qV){bt ot:Nat}(hs:jO w bs os (yS s qM qL xm xh))(qZ:zP w xN qM qL s.qA)(xM:zP w zN xm xh s.qB)(ht:jO w bt ot (yT t xK xI zB zq xC xy))(zS:zP w vV xK xI t.qO)(vK:zP w jM zB zq t.qG)(zi:zP w zZ xC xy t.qF)(p0:yf s):Calls Tryz.prog 74 #[pp bs os,pp bt ot] w (Ret (fun v w'=>v=Bv (dec<|zA s t/\Whole t)) w):=by
 refine en func74 ntmps74 ?_
 have H:=(((((((St.start w).arg zi).arg vK).arg zS).argAt ht).arg xM).arg qZ).argAt hs
 have jP:=qN xM
 have QM:=qN zS
 have Xt:=qN vK
 have Qe:=qN zi
 clear hs qZ xM ht zS vK zi
 have N:=Fresh.nil w.heap.size
 refine zcr<|sp (Bv false)<|zjcc<|sq 2<|sw<|oq (l02State_ok _ s t (qH (H.get 0 J) 0 3) (H.get 1 J).1 (H.get 2 J).1 (qH (H.get 3 J) 0 3) (H.get 4 J).1 (H.get 5 J).1 (H.get 6 J).1<|by assumption) H fun w1 H=>sq 1<|zjn<|cQ J (fun h3=>?_)<|fun h3=>?_
 ·refine zcr (sp (Bv false)<|zjr<|t_r<|rH1 (Bv false) H ?_)
  rw[xH<|fun h=>by exact absurd h.1 ql]
 refine xe<|t_n<|zcc<|sp (yI 0)<|zjn<|xg<|vk ((fun Z0 Z1 Z2 Z3=>fun m' ρ w4=>∃(xR:Env) (c:Nat),ρ=upd (upd xR 1<|pp bt ot) 5 (yI c)/\((c:Int)<=t.qO.length)/\(WholeTo t c)/\m'=(t.qO.length-(c:Int)).toNat/\Fresh w.heap.size []/\St w w4 [] [Z0,Z1,Z2,Z3]) _ _ _ _) ((t.qO.length-(0:Int)).toNat) ⟨_,0,uE2,qf,qx,J,N,H.pick []<|zR 3 4⟩ ?_
 clear H N
 rintro m' ρ w5 ⟨xR,c,rfl,i0,i1,rfl,N,H⟩
 refine zcc<|sp (yI c)<|sq 2<|oF J<|oL J (H.zU 0 J 0 J)<|oN J<|sq 1<|zjn<|cD J (fun h6=>?_)<|fun h6=>?_
 ·refine xe (t_n<|xO<|xg<|zcr<|sq 2<|oF J<|oL J (H.zU 0 J 0 J)<|sp (yI c) ?_)
  obtain⟨b7,o8,rfl⟩:=H.addr 1 rfl qf
  refine oI J J<|oL J (H.elemBoolN 1 J c qf)<|sq 1<|zjn<|vP _ J (fun cK=>?_)<|fun cK=>?_
  ·replace cK:=xF cK
   refine zcr<|sp (Bv false)<|zjr<|zr5<|rH1 (Bv false) H ?_
   rw[xH<|fun h=>by exact ft (h.2 c qf) ql]
  replace cK:=xw cK
  refine xe<|b_n<|t_n<|zf<|sp (yI c)<|sw<|zY c 1 J J qf<|sq 1<|xX<|xu (m':=(t.qO.length-((c+1):Int)).toNat) qf ⟨_,c+1,uE2,?_,?_,J,N,H⟩
  ·omega
  ·exact i1.succ ql
 refine zx4<|zcr<|sp (Bv true)<|zjr<|rH1 (Bv true) H ?_
 rw[QD ⟨by assumption,fun j hj=>i1 j qf⟩]
theorem l08Zeros_ok(w:World)(s:qJ)(hs:jO w bs os (yS s qM qL xm xh))(qZ:zP w xN qM qL s.qA)(xM:zP w zN xm xh s.qB)(p0:yf s):Calls Tryz.prog 153 #[pp bs os] w (Ret (fun v w'=>∃(ra:yOA) (rn:Nat) (rc:Nat) (rx:List Value) (rF:yLN),v=Sv ra rn rc/\Fresh w.heap.size [rF]/\St w w' [rr ra rn rc 24 1 rx] [qX true rF rx<|jG s<|s.qA.length+1]) w):=by
 refine en func153 ntmps153 ?_
 have H:=(((St.start w).arg xM).arg qZ).argAt hs
 have vT:=qN qZ
 have jP:=qN xM
 clear hs qZ xM
 have N:=Fresh.nil w.heap.size
 have p1:=p0.1
 have p2:=p0.2.1
 refine zcr<|sq 1<|zjc<|sw<|jS H underlying29 ti24 fun b1 w2 H=>sq 1<|zjcc<|sp (yI 0)<|zjn<|xg ?_
 replace H:=H.boxRow 0 J 1 0 J qj
 replace H:=H.yF (α:=yLI)
 refine vk ((fun Z0 Z1 Z2=>fun m' ρ w3=>∃(xR:Env) (yK:yOA) (yA:Nat) (yJ:Nat) (out:yLL) (Q4:List Value) (QJ:yLN) (c:Nat),ρ=upd (upd (upd xR 0<|pp bs os) 3<|Sv yK yA yJ) 4 (yI c)/\out=jG s c/\(c<=s.qA.length+1)/\m'=(s.qA.length+1-c:Nat)/\Fresh w.heap.size [QJ]/\St w w3 [rr yK yA yJ 24 1 Q4] [qX true QJ Q4 out,Z0,Z1,Z2]) _ _ _) ((s.qA.length+1-0:Nat)) ⟨_,(aa b1 0),0,0,([]:yLL),[],[],0,uE3,(by rfl),qf,J,N.emp,H⟩ ?_
 clear H N
 rintro m' ρ w4 ⟨xR,yK,yA,yJ,out,Q4,QJ,c,rfl,rfl,i1,rfl,N,H⟩
 have VS:=H.xf (α:=yLI) 0 J 0 J qj
 have zl:=zeros_len s c
 refine zcc<|sp (yI c)<|sq 2<|oF J<|oL J (H.zU 1 J 1 J)<|oN J<|sq 1<|zjn<|cD J (fun h5=>?_)<|fun h5=>?_
 ·refine xe (t_n<|xO<|xg<|zf<|sq 3<|oF J<|oL J (H.zU 1 J 0 J)<|sw<|jQ H underlying24 ti2 s.qQ.toNat J J qf qf qf fun b6 w7 H=>sw<|zH H underlying29 ti24 [Sv (aa b6 0) s.qQ.toNat s.qQ.toNat] fun b8 w9 H=>?_)
  obtain⟨G13,N,aP3,H⟩:=H.vJ 1 rfl N<|H.XE [0]
  refine sw<|zQ H 2 J 0 J underlying29 ti24 J qj J J J qw qp qf fun a10 c11 Lz H=>?_
  replace H:=H.QK 1 J 0 J
  replace N:Fresh w.heap.size [(QJ++G13)]:=(N.pick [1,0]).join
  refine sq 1<|xX<|b_n<|t_n<|zf<|sp (yI c)<|sw<|zY c 1 J J qf<|sq 1<|xX<|xu (m':=(s.qA.length+1-(c+1):Nat)) qf ⟨_,_,_,_,_,_,_,c+1,uE3,?_,?_,J,N,H.pick [2] [0,3,4,5]⟩
  ·exact zeros_snoc s c
  ·omega
 refine zx4<|zcr<|sq 2<|zjr<|rH1 (Sv yK yA yJ) H ?_
 obtain rfl:c=s.qA.length+1:=by omega
 exact⟨yK,yA,yJ,Q4,QJ,J,N,H.pick [0] [0]⟩
theorem l08Bags_ok(w:World)(l:yLL)(hl:zP w Fl al cl l):Calls Tryz.prog 157 #[Sv al l.length cl] w (Ret (fun v w'=>v=Bv (dec<|yX l l.length)) w):=by
 refine en func157 ntmps157 ?_
 have H:=(St.start w).arg hl
 have Cr:=qN hl
 clear hl
 have N:=Fresh.nil w.heap.size
 refine zcr<|sp (Bv false)<|zjcc<|sp (yI 0)<|zjn<|xg<|vk ((fun Z0=>fun m' ρ w1=>∃(xR:Env) (i:Nat),ρ=upd (upd xR 0<|Sv al l.length cl) 3 (yI i)/\((i:Int)<=l.length)/\(yX l i)/\m'=(l.length-(i:Int)).toNat/\Fresh w.heap.size []/\St w w1 [] [Z0]) _) ((l.length-(0:Int)).toNat) ⟨_,0,uE2,qf,qx,J,N,H⟩ ?_
 clear H N
 rintro m' ρ w2 ⟨xR,i,rfl,i0,i1,rfl,N,H⟩
 refine zcc<|sp (yI i)<|sq 1<|oN J<|sq 1<|zjn<|cD J (fun h3=>?_)<|fun h3=>?_
 ·refine xe (t_n<|xO<|xg<|zcr<|sq 1<|sp (yI i) ?_)
  obtain⟨b4,o5,rfl⟩:=H.addr 0 rfl qf
  obtain⟨ae7,ce7,Fe7,H⟩:=H.yg 0 rfl i i qf qf qf
  refine oI J J<|oL J (H.zU 1 J 0 J)<|sw<|oq (l01Bag_ok _ l[i]! (H.get 0 J).1) H fun w8 H=>sq 1<|zjn<|cQ J (fun cK=>?_)<|fun cK=>?_
  ·refine zcr (sp (Bv false)<|zjr<|zr5<|rH1 (Bv false) H ?_)
   rw[xH<|fun h=>absurd (h i qf) ql]
  refine xe<|b_n<|t_n<|zf<|sp (yI i)<|sw<|zY i 1 J J qf<|sq 1<|xX<|xu (m':=(l.length-((i+1):Int)).toNat) qf ⟨_,i+1,uE2,?_,?_,J,N,H.pick [] [2]⟩
  ·omega
  ·exact i1.succ ql
 refine zx4<|zcr<|sp (Bv true)<|zjr<|rH1 (Bv true) H ?_
 rw[QD<|show yX l l.length from fun j hj=>i1 j qf]
theorem indexB_ok(w:World)(l:List Bool)(x:Bool)(hl:zP w Fl al cl l):Calls Tryz.prog 169 #[Sv al l.length cl,Bv x] w (Ret (fun v w'=>v=yI (firstIdx (fun k=>x == l[k]!) l.length)) w):=by
 refine en func169 ntmps169 ?_
 have H:=(St.start w).arg hl
 have Cr:=qN hl
 clear hl
 have N:=Fresh.nil w.heap.size
 refine zcr<|sp (yI 0)<|zjcc<|sq 1<|oN J<|sp (yI 0)<|zjn<|xg<|vk ((fun Z0=>fun m' ρ w1=>∃(xR:Env) (i:Nat),ρ=upd (upd (upd (upd xR 0<|Sv al l.length cl) 1<|Bv x) 7<|yI l.length) 8 (yI i)/\((i:Int)<=l.length)/\(noneTo (fun k=>x == l[k]!) i)/\m'=(l.length-(i:Int)).toNat/\Fresh w.heap.size []/\St w w1 [] [Z0]) _) ((l.length-(0:Int)).toNat) ⟨_,0,uE4,qf,qx,J,N,H⟩ ?_
 clear H N
 rintro m' ρ w2 ⟨xR,i,rfl,i0,i1,rfl,N,H⟩
 refine zcr<|sq 1<|zjn<|xO<|cD J (fun h3=>?_)<|fun h3=>?_
 ·refine xe (t_n<|xO<|xg<|zcr<|sp (yI i)<|sp (yI i)<|zjc<|sp (Bv x)<|sq 1<|sp (yI i) ?_)
  obtain⟨b4,o5,rfl⟩:=H.addr 0 rfl qf
  refine oI J J<|oL J (H.elemBoolN 0 J i qf)<|sw<|o_eqB underlying4 x l[i]! rfl J<|zjn<|vP _ J (fun h7=>?_)<|fun h7=>?_
  ·replace h7:=(eq_of_beq h7)
   refine zcr<|sp (yI i)<|sp (yI i)<|zjr<|zr5<|rH1 (yI i) H ?_
   rw[firstIdx_some (k:=i) qf i1<|by simpa using ‹x=l[i]!›]
  replace h7:=(ne_of_beq_false h7)
  refine xe<|b_n<|t_n<|zf<|sw<|zY i 1 J J qf<|sq 1<|xX<|xu (m':=(l.length-((i+1):Int)).toNat) qf ⟨_,i+1,uE4,?_,?_,J,N,H⟩
  ·omega
  ·exact noneTo_succ i1<|by simpa using ‹x≠l[i]!›
 refine zx4<|zcr<|sq 1<|zjr<|rH1 (yI (-1)) H ?_
 rw[firstIdx_none<|fun j hj=>i1 j qf]
theorem containsB_ok(w:World)(l:List Bool)(x:Bool)(hl:zP w Fl al cl l):Calls Tryz.prog 144 #[Sv al l.length cl,Bv x] w (Ret (fun v w'=>v=Bv (anyTo (fun k=>x == l[k]!) l.length)) w):=by
 refine en func144 ntmps144 ?_
 have H:=(St.start w).arg hl
 clear hl
 refine zcr<|sp (Bv false)<|zjc<|sq 1<|sp (Bv x)<|sw<|oq (indexB_ok _ l x (H.get 0 J).1) H fun w2 H=>sp (Bv<|decide ((firstIdx (fun k=>x == l[k]!) l.length:Int)>=0))<|sp (Bv<|decide ((firstIdx (fun k=>x == l[k]!) l.length:Int)>=0))<|zjr<|rH1 (Bv<|decide ((firstIdx (fun k=>x == l[k]!) l.length:Int)>=0)) H ?_
 rw[anyTo_first]
theorem isWhole_ok(w:World)(s:qJ)(t:qV)(qZ:zP w xN qM qL s.qA)(xM:zP w zN xm xh s.qB)(zS:zP w vV xK xI t.qO)(vK:zP w jM zB zq t.qG)(zi:zP w zZ xC xy t.qF):Calls Tryz.prog 111 #[.agg #[yI s.qQ,Sv qM s.qA.length qL,Sv xm s.qB.length xh],.agg #[Sv xK t.qO.length xI,Sv zB t.qG.length zq,Sv xC t.qF.length xy]] w (Ret (fun v w'=>v=Bv (dec ((jW s/\zA s t)/\Whole t))) w):=by
 refine en func111 ntmps111 ?_
 have H:=(((((St.start w).arg zi).arg vK).arg zS).arg xM).arg qZ
 have jP:=qN xM
 have QM:=qN zS
 have Xt:=qN vK
 have Qe:=qN zi
 clear qZ xM zS vK zi
 refine zcr<|sw<|jb H (yS s qM qL xm xh) fun b1 w2 H=>sw<|jb H (yT t xK xI zB zq xC xy) fun b3 w4 H=>sp (Bv false)<|zjc<|sw<|xW (yS s qM qL xm xh) isAgg27 sizeOf27 J (qH (H.cells 1 J) 0 3)<|sw<|xW (yT t xK xI zB zq xC xy) isAgg31 sizeOf31 J (qH (H.cells 0 J) 0 3)<|sw<|oq (validState_ok _ s t (H.get 0 J).1 (H.get 1 J).1 (H.get 2 J).1 (H.get 3 J).1 (H.get 4 J).1) H fun w6 H=>sp (Bv<|dec<|jW s/\zA s t) ?_
 cases h8:(dec (jW s/\zA s t))
 ·replace h8:=vS h8
  refine zk (zR 9 4)<|sp (Bv false)<|sp (Bv false)<|zjr<|rH1 (Bv false) H ?_
  rw[xH<|fun h=>absurd h.1 ql]
 replace h8:=Qy h8
 refine qP 8 J J<|oF J<|qP 8 J J<|oL J (H.cell 0 J J)<|qP 8 J J<|sw<|oq (containsB_ok _ t.qO false (H.get 2 J).1) H fun sr H=>qP 8 J J<|sq 3<|zjr<|rH1 (Bv (!(anyTo (fun k=>false == t.qO[k]!) t.qO.length))) H ?_
 rw[whole_any]
 refine congrArg Value.bool<|dec_eq ?_
 rw[Bool.not_eq_true']
 exact⟨fun h=>⟨by assumption,Classical.byContradiction fun x=>by rw[QD x] at h;cases h⟩,fun h=>xH fun x=>x h.2⟩
theorem canMeltAny_ok(w:World)(s:qJ)(qZ:zP w xN qM qL s.qA)(xM:zP w zN xm xh s.qB):Calls Tryz.prog 158 #[.agg #[yI s.qQ,Sv qM s.qA.length qL,Sv xm s.qB.length xh]] w (Ret (fun v w'=>v=Bv (dec (¬Still s))) w):=by
 refine en func158 ntmps158 ?_
 have H:=((St.start w).arg xM).arg qZ
 have jP:=qN xM
 clear qZ xM
 have N:=Fresh.nil w.heap.size
 refine zcr<|sw<|jb H (yS s qM qL xm xh) fun b1 w2 H=>sp (Bv false)<|zjc<|oF J<|oL J (H.cell 0 J J)<|sw<|vF #[Sv xm s.qB.length xh,.func (.func 172) #[] #[]] J J call171<|en func171 ntmps171 ?_
 refine zcr<|sp (Bv false)<|zjc<|sq 1<|sp (.func (.func 172) #[] #[])<|sw<|vF #[Sv xm s.qB.length xh,.func (.func 172) #[] #[]] J J call179<|en func179 ntmps179 ?_
 refine zcr<|sp (yI 0)<|zjcc<|sq 1<|oN J<|sp (yI 0)<|zjn<|xg<|vk ((fun Z0 Z1 Z2=>fun m' ρ w3=>∃(xR:Env) (i:Nat),ρ=upd (upd (upd (upd xR 0<|Sv xm s.qB.length xh) 1<|.func (.func 172) #[] #[]) 7<|yI s.qB.length) 8 (yI i)/\((i:Int)<=s.qB.length)/\(StillTo s i)/\m'=(s.qB.length-(i:Int)).toNat/\Fresh w.heap.size []/\St w w3 [Z0] [Z1,Z2]) _ _ _) ((s.qB.length-(0:Int)).toNat) ⟨_,0,uE4,qf,qx,J,N,H⟩ ?_
 clear H N
 rintro m' ρ w4 ⟨xR,i,rfl,i0,i1,rfl,N,H⟩
 refine zcr<|sq 1<|zjn<|xO<|cD J (fun h5=>?_)<|fun h5=>?_
 ·refine xe (t_n<|xO<|xg<|zcr<|sp (yI i)<|sp (yI i)<|zjc<|sp (.func (.func 172) #[] #[])<|sq 1<|sp (yI i) ?_)
  obtain⟨b6,o7,rfl⟩:=H.addr 1 rfl qf
  obtain⟨Ca,Bu,auR,Cn,CE,atB,BZ,Bk,avo,BL,Cy,avn,FZ,E9,aAC,BP,Bh,avT,H⟩:=H.Xd 1 rfl i i qf qf qf
  refine oI J J<|sw<|xW [yI s.qB[i]!.qW,yI s.qB[i]!.yH,Sv Ca s.qB[i]!.vg.length Bu,Sv Cn s.qB[i]!.jI.length CE,Sv BZ s.qB[i]!.jK.length Bk,Sv BL s.qB[i]!.jq.length Cy,Sv FZ s.qB[i]!.Qz.length E9,Sv BP s.qB[i]!.xn.length Bh,Bv s.qB[i]!.je] isAgg110 sizeOf110 J (qH (H.get 6 J) 0 9)<|sw<|vF #[.agg #[yI s.qB[i]!.qW,yI s.qB[i]!.yH,Sv Ca s.qB[i]!.vg.length Bu,Sv Cn s.qB[i]!.jI.length CE,Sv BZ s.qB[i]!.jK.length Bk,Sv BL s.qB[i]!.jq.length Cy,Sv FZ s.qB[i]!.Qz.length E9,Sv BP s.qB[i]!.xn.length Bh,Bv s.qB[i]!.je]] J J call172<|en func172 ntmps172 ?_
  refine zcr<|sw<|jb H [yI s.qB[i]!.qW,yI s.qB[i]!.yH,Sv Ca s.qB[i]!.vg.length Bu,Sv Cn s.qB[i]!.jI.length CE,Sv BZ s.qB[i]!.jK.length Bk,Sv BL s.qB[i]!.jq.length Cy,Sv FZ s.qB[i]!.Qz.length E9,Sv BP s.qB[i]!.xn.length Bh,Bv s.qB[i]!.je] fun z8 z7 H=>sp (Bv false)<|zjc<|oF J<|oL J (H.cell 0 J J)<|sq 1<|zjr<|ret1 (Bv s.qB[i]!.je) J J ⟨_,J,?_⟩
  replace H:=H.erases [0]
  dsimp only[zL,List.eraseIdx,List.set] at H
  refine zjn<|vP _ J (fun iz=>?_)<|fun iz=>?_
  ·refine zcr (sp (yI i)<|sp (yI i)<|zjr<|zr5<|ret1 (yI i) J J ⟨_,J,(sw<|o_pure (Bv true) (by show some (Value.bool<|decide ((i:Int)>=0))=some (Value.bool true);rw[decide_eq_true qf])<|sp (Bv true)<|zjr<|ret1 (Bv true) J J ⟨_,J,(sp (Bv true)<|zjr<|rH1 (Bv true) H ?_)⟩)⟩)
   rw[QD<|fun h=>ft (by assumption:s.qB[i]!.je=true)<|h i qf]
  refine xe<|b_n<|t_n<|zf<|sw<|zY i 1 J J qf<|sq 1<|xX<|xu (m':=(s.qB.length-((i+1):Int)).toNat) qf ⟨_,i+1,uE4,?_,?_,J,N,H.pick [0] [7,8]⟩
  ·omega
  ·exact i1.succ ql
 refine zx4<|zcr<|sq 1<|zjr<|ret1 (yI (-1)) J J ⟨_,J,(sp (Bv false)<|sp (Bv false)<|zjr<|ret1 (Bv false) J J ⟨_,J,(sp (Bv false)<|zjr<|rH1 (Bv false) H ?_)⟩)⟩
 rw[xH<|fun x=>x<|fun j hj=>i1 j qf]
theorem noBags_ok(w:World)(s:qJ)(qZ:zP w xN qM qL s.qA)(xM:zP w zN xm xh s.qB)(p0:yf s):Calls Tryz.prog 115 #[.agg #[yI s.qQ,Sv qM s.qA.length qL,Sv xm s.qB.length xh]] w (Ret (fun v w'=>∃(ra:yOA) (rn:Nat) (rc:Nat) (rx:List Value) (rF:yLN),v=Sv ra rn rc/\Fresh w.heap.size [rF]/\St w w' [rr ra rn rc 24 1 rx] [qX true rF rx<|jG s<|s.qA.length+1]) w):=by
 refine en func115 ntmps115 ?_
 have H:=((St.start w).arg xM).arg qZ
 have vT:=qN qZ
 have jP:=qN xM
 clear qZ xM
 have N:=Fresh.nil w.heap.size
 have p1:=p0.1
 have p2:=p0.2.1
 refine zcr<|sw<|jb H (yS s qM qL xm xh) fun b1 w2 H=>sq 1<|zjc<|sw<|jS H underlying29 ti24 fun b3 w4 H=>sq 1<|zjcc<|sw<|xW (yS s qM qL xm xh) isAgg27 sizeOf27 J (qH (H.cells 1 J) 0 3)<|sw<|oq (Xj _ s (H.get 0 J).1 (H.get 1 J).1) H fun w6 H=>sw<|zY s.qA.length 1 J J qf<|sp (yI 0)<|zjn<|xg ?_
 replace H:=H.boxRow 0 J 1 0 J qj
 replace H:=H.yF (α:=yLI)
 refine vk ((fun Z0 Z1 Z2=>fun m' ρ w8=>∃(xR:Env) (yK:yOA) (yA:Nat) (yJ:Nat) (out:yLL) (Q4:List Value) (QJ:yLN) (k:Nat),ρ=upd (upd (upd (upd xR 1<|pp b1 0) 3<|Sv yK yA yJ) 7<|yI<|s.qA.length+1) 8 (yI k)/\out=jG s k/\((k:Int)<=(s.qA.length+1))/\m'=((s.qA.length+1)-(k:Int)).toNat/\Fresh w.heap.size [QJ]/\St w w8 [rr yK yA yJ 24 1 Q4,Z0] [qX true QJ Q4 out,Z1,Z2]) _ _ _) (((s.qA.length+1)-(0:Int)).toNat) ⟨_,(aa b3 0),0,0,([]:yLL),[],[],0,uE4,(by rfl),qf,J,N.emp,H⟩ ?_
 clear H N
 rintro m' ρ w9 ⟨xR,yK,yA,yJ,out,Q4,QJ,k,rfl,rfl,i0,rfl,N,H⟩
 have VS:=H.xf (α:=yLI) 0 J 0 J qj
 have zl:=zeros_len s k
 refine zcr<|sq 1<|zjn<|xO<|cD J (fun cK=>?_)<|fun cK=>?_
 ·refine xe (t_n<|xO<|xg<|zf<|sq 1<|oF J<|oL J (H.cell 1 J J)<|sw<|jQ H underlying24 ti2 s.qQ.toNat J J qf qf qf fun ue Lz H=>sw<|zH H underlying29 ti24 [Sv (aa ue 0) s.qQ.toNat s.qQ.toNat] fun Ab TC H=>?_)
  obtain⟨G18,N,aNK,H⟩:=H.vJ 1 rfl N<|H.XE [0]
  refine sw<|zQ H 2 J 0 J underlying29 ti24 J qj J J J qw qp qf fun a15 c16 Us H=>?_
  replace H:=H.QK 1 J 0 J
  replace N:Fresh w.heap.size [(QJ++G18)]:=(N.pick [1,0]).join
  refine sq 1<|xX<|b_n<|t_n<|zf<|sw<|zY k 1 J J qf<|sq 1<|xX<|xu (m':=((s.qA.length+1)-((k+1):Int)).toNat) qf ⟨_,_,_,_,_,_,_,k+1,uE4,?_,?_,J,N,H.pick [2,3] [0,3,4]⟩
  ·exact zeros_snoc s k
  ·omega
 refine zx4<|zcr<|sq 2<|zjr<|rH1 (Sv yK yA yJ) H ?_
 obtain rfl:k=s.qA.length+1:=by omega
 exact⟨yK,yA,yJ,Q4,QJ,J,N,H.pick [0] [0]⟩
theorem isBag_ok(w:World)(l:yLI)(hl:zP w Fl al cl l):Calls Tryz.prog 168 #[Sv al l.length cl] w (Ret (fun v w'=>v=Bv (dec<|Yj l)) w):=by
 refine en func168 ntmps168 ?_
 have H:=(St.start w).arg hl
 clear hl
 refine zcr<|sp (Bv false)<|zjc<|sq 1<|sw<|oq (sizeI_ok _ l (H.get 0 J).1) H fun w1 H=>sq 1<|sw<|oq (Yd _ (l.length:Int) l (H.get 0 J).1) H fun w3 H=>sq 1<|zjr<|rH1 (Bv<|dec<|jd (l.length:Int) l) H ?_
 rw[dec_congr bagAny_ok]
theorem areBags_ok(w:World)(l:yLL)(hl:zP w Fl al cl l):Calls Tryz.prog 143 #[Sv al l.length cl] w (Ret (fun v w'=>v=Bv (dec<|yX l l.length)) w):=by
 refine en func143 ntmps143 ?_
 have H:=(St.start w).arg hl
 have Cr:=qN hl
 clear hl
 have N:=Fresh.nil w.heap.size
 refine zcr<|sp (Bv false)<|zjc<|sq 1<|sw<|vF #[Sv al l.length cl,.func (.func 167) #[] #[]] J J call166<|en func166 ntmps166 ?_
 refine zcr<|sp (Bv false)<|zjc<|sq 1<|sp (.func (.func 167) #[] #[])<|sw<|vF #[Sv al l.length cl,.func (.func 167) #[] #[]] J J call176<|en func176 ntmps176 ?_
 refine zcr<|sp (yI 0)<|zjcc<|sq 1<|oN J<|sp (yI 0)<|zjn<|xg<|vk ((fun Z0=>fun m' ρ w1=>∃(xR:Env) (i:Nat),ρ=upd (upd (upd (upd xR 0<|Sv al l.length cl) 1<|.func (.func 167) #[] #[]) 7<|yI l.length) 8 (yI i)/\((i:Int)<=l.length)/\(yX l i)/\m'=(l.length-(i:Int)).toNat/\Fresh w.heap.size []/\St w w1 [] [Z0]) _) ((l.length-(0:Int)).toNat) ⟨_,0,uE4,qf,qx,J,N,H⟩ ?_
 clear H N
 rintro m' ρ w2 ⟨xR,i,rfl,i0,i1,rfl,N,H⟩
 refine zcr<|sq 1<|zjn<|xO<|cD J (fun h3=>?_)<|fun h3=>?_
 ·refine xe (t_n<|xO<|xg<|zcr<|sp (yI i)<|sp (yI i)<|zjc<|sp (.func (.func 167) #[] #[])<|sq 1<|sp (yI i) ?_)
  obtain⟨b4,o5,rfl⟩:=H.addr 0 rfl qf
  obtain⟨ae7,ce7,Fe7,H⟩:=H.yg 0 rfl i i qf qf qf
  refine oI J J<|oL J (H.zU 1 J 0 J)<|sw<|vF #[Sv ae7 l[i]!.length ce7] J J call167<|en func167 ntmps167 ?_
  refine zcr<|sp (Bv false)<|zjc<|sq 1<|sw<|oq (isBag_ok _ l[i]! (H.get 0 J).1) H fun w9 H=>sq 2<|zjr<|ret1 (Bv (!(dec<|Yj<|l[i]!))) J J ⟨_,J,(zjn<|cQ J (fun cf=>?_)<|fun cf=>?_)⟩
  ·refine zcr (sp (yI i)<|sp (yI i)<|zjr<|zr5<|ret1 (yI i) J J ⟨_,J,(sw<|o_pure (Bv true) (by show some (Value.bool<|decide ((i:Int)>=0))=some (Value.bool true);rw[decide_eq_true qf])<|sp (Bv true)<|zjr<|ret1 (Bv true) J J ⟨_,J,(sp (Bv false)<|sp (Bv false)<|zjr<|rH1 (Bv false) H ?_)⟩)⟩)
   rw[xH<|fun h=>absurd (h i qf) ql]
  refine xe<|b_n<|t_n<|zf<|sw<|zY i 1 J J qf<|sq 1<|xX<|xu (m':=(l.length-((i+1):Int)).toNat) qf ⟨_,i+1,uE4,?_,?_,J,N,H.pick [] [2]⟩
  ·omega
  ·exact i1.succ ql
 refine zx4<|zcr<|sq 1<|zjr<|ret1 (yI (-1)) J J ⟨_,J,(sp (Bv false)<|sp (Bv false)<|zjr<|ret1 (Bv false) J J ⟨_,J,(sp (Bv true)<|sp (Bv true)<|zjr<|rH1 (Bv true) H ?_)⟩)⟩
 rw[QD<|show yX l l.length from fun j hj=>i1 j qf]
theorem puts_ok(w:World)(s:qJ)(t:qV)(counts:yLI)(cell:Int){eE:yOA}{eo:Nat}{iE:yLN}(qZ:zP w xN qM qL s.qA)(xM:zP w zN xm xh s.qB)(zS:zP w vV xK xI t.qO)(vK:zP w jM zB zq t.qG)(zi:zP w zZ xC xy t.qF)(pe:zP w iE eE eo counts)(p0:jW s)(p1:zA s t)(p2:CntOk s counts):Calls Tryz.prog 139 #[.agg #[yI s.qQ,Sv qM s.qA.length qL,Sv xm s.qB.length xh],.agg #[Sv xK t.qO.length xI,Sv zB t.qG.length zq,Sv xC t.qF.length xy],Sv eE counts.length eo,yI cell] w (Ret (fun v w'=>∃(ra:yOA) (rn:Nat) (rc:Nat) (rx:List Value) (rF:yLN),v=Sv ra rn rc/\Fresh w.heap.size [rF]/\St w w' [rr ra rn rc 24 1 rx] [qX true rF rx<|jX s t counts cell]) w):=by
 refine en func139 ntmps139 ?_
 have H:=((((((St.start w).arg pe).arg zi).arg vK).arg zS).arg xM).arg qZ
 have jP:=qN xM
 have QM:=qN zS
 have Xt:=qN vK
 have Qe:=qN zi
 clear qZ xM zS vK zi pe
 have N:=Fresh.nil w.heap.size
 have p5:=p0.2.1
 have p6:=p2.1
 have p7:=p1.2.1
 have p8:=X8 p0
 have p9:=p0.1.2.1
 have CS:=p1.1
 have RN:=p0.1
 refine zcr<|sw<|jb H (yS s qM qL xm xh) fun b1 w2 H=>sw<|jb H (yT t xK xI zB zq xC xy) fun b3 w4 H=>sq 1<|zjc<|sw<|xW (yS s qM qL xm xh) isAgg27 sizeOf27 J (qH (H.cells 1 J) 0 3) ?_
 have sz8:=H.base.size
 refine sw<|oc (noBags_ok _ s (H.get 0 J).1 (H.get 1 J).1 qg) ?_
 rintro _ w6 ⟨ra5,rn5,W6,rx5,rF5,rfl,M,K⟩ _
 replace N:=N.merge sz8 qm M
 replace H:=H.merge K M
 obtain rfl:=H.xf (α:=yLI) 0 rfl 0 rfl qj
 refine sq 1<|zjcc<|sq 1<|oN J<|sp (yI 0)<|zjn<|xg<|vk ((fun Z0 Z1 Z2 Z3 Z4 Z5 Z6 Z7=>fun m' ρ z7=>∃(xR:Env) (i:Nat) (bags:yLL) (dQ:List Value) (eK:yLN),ρ=upd (upd (upd (upd (upd (upd (upd xR 3<|yI cell) 4<|pp b1 0) 5<|pp b3 0) 9<|Sv ra5 ((jG s<|s.qA.length+1).length) W6) 15<|Sv eE counts.length eo) 16<|yI counts.length) 17 (yI i)/\((i:Int)<=counts.length)/\(Ent (s.qA.length+1) (vG s) (fun p q=>Xa s t counts cell i p q) (1000+6000000*i) bags)/\(bags.length=s.qA.length+1)/\m'=(counts.length-(i:Int)).toNat/\Fresh w.heap.size [eK]/\St w z7 [rr ra5 ((jG s<|s.qA.length+1).length) W6 24 1 dQ,Z0,Z1] [qX true eK dQ bags,Z2,Z3,Z4,Z5,Z6,Z7]) _ _ _ _ _ _ _ _) ((counts.length-(0:Int)).toNat) ⟨_,0,jG s<|s.qA.length+1,rx5,rF5,uE7,qf,(by exact(zeros_ent (B:=0) qf).to (fun _ _=>rfl) qf),(by rw[zeros_len]),J,N,H⟩ ?_
 clear H N
 rintro m' ρ Lz ⟨xR,i,bags,dQ,eK,rfl,i0,dR,ad1,rfl,N,H⟩
 have Sp:=H.xf (α:=yLI) 0 J 0 J qj
 refine zcr<|sq 1<|zjn<|xO<|cD J (fun B2=>?_)<|fun B2=>?_
 ·have q:=p0.rule (i:=i) qf
  have qc:=q.1
  have Jx:=q.2.2.2.2.1
  have LX:=q.2.2.2.2.2.2.2.1
  have EV:=q.2.2.2.2.2.2.2.2.1
  have ln1:=Jx.len
  have ln2:=LX.len
  have ln3:=EV.len
  have p10:=p2.bd (i:=i) qf
  have qn:=q.2.2.2.1
  refine xe<|t_n<|xO<|xg<|zcr<|sp (yI i) ?_
  obtain⟨LI,o15,rfl⟩:=H.addr 6 rfl qf
  refine oI J J<|oL J (H.vM 6 J i qf)<|sp (yI i)<|sq 1<|zjc<|oF J<|oL J (H.cell 2 J J)<|sp (yI i) ?_
  obtain⟨lF,o18,rfl⟩:=H.addr 2 rfl qf
  obtain⟨mx,mC,aiz,na,mI,alP,nu,mq,anq,kv,kf,aq5,kY,kR,atZ,g0,ie,aoq,H⟩:=H.Xd 2 rfl i i qf qf qf
  refine oI J J<|sw<|xW [yI s.qB[i]!.qW,yI s.qB[i]!.yH,Sv mx s.qB[i]!.vg.length mC,Sv na s.qB[i]!.jI.length mI,Sv nu s.qB[i]!.jK.length mq,Sv kv s.qB[i]!.jq.length kf,Sv kY s.qB[i]!.Qz.length kR,Sv g0 s.qB[i]!.xn.length ie,Bv s.qB[i]!.je] isAgg110 sizeOf110 J (qH (H.get 6 J) 0 9)<|sw<|x8 H ti110 [yI 0,yI 0,yN,yN,yN,yN,yN,yN,Bv false] fun t7 MJ H=>sw<|xZ H 0 [yI s.qB[i]!.qW,yI s.qB[i]!.yH,Sv mx s.qB[i]!.vg.length mC,Sv na s.qB[i]!.jI.length mI,Sv nu s.qB[i]!.jK.length mq,Sv kv s.qB[i]!.jq.length kf,Sv kY s.qB[i]!.Qz.length kR,Sv g0 s.qB[i]!.xn.length ie,Bv s.qB[i]!.je] sizeOf110 fun E8 H=>(zjc<|oF J<|oL J (H.cell 0 J J)<|sq 2<|zjn<|cE J (fun CW=>?_)<|fun CW=>?_)
  ·refine zf (sw<|xW [yI s.qQ,Sv qM s.qA.length qL,Sv (aa lF o18) s.qB.length xh] isAgg27 sizeOf27 J (qH (H.cells 3 J) 0 3)<|sw<|xW (yT t xK xI zB zq xC xy) isAgg31 sizeOf31 J (qH (H.cells 2 J) 0 3)<|sq 1<|sw<|xW [yI s.qB[i]!.qW,yI s.qB[i]!.yH,Sv mx s.qB[i]!.vg.length mC,Sv na s.qB[i]!.jI.length mI,Sv nu s.qB[i]!.jK.length mq,Sv kv s.qB[i]!.jq.length kf,Sv kY s.qB[i]!.Qz.length kR,Sv g0 s.qB[i]!.xn.length ie,Bv s.qB[i]!.je] isAgg110 sizeOf110 J (qH (H.cells 0 J) 0 9)<|sq 1<|sw<|vF #[.agg #[yI s.qQ,Sv qM s.qA.length qL,Sv (aa lF o18) s.qB.length xh],.agg #[Sv xK t.qO.length xI,Sv zB t.qG.length zq,Sv xC t.qF.length xy],Sv ra5 ((jG s<|s.qA.length+1).length) W6,.agg #[yI s.qB[i]!.qW,yI s.qB[i]!.yH,Sv mx s.qB[i]!.vg.length mC,Sv na s.qB[i]!.jI.length mI,Sv nu s.qB[i]!.jK.length mq,Sv kv s.qB[i]!.jq.length kf,Sv kY s.qB[i]!.Qz.length kR,Sv g0 s.qB[i]!.xn.length ie,Bv s.qB[i]!.je],yI<|counts[i]!] J J call82<|en func82 ntmps82 ?_)
   refine zcr<|sw<|jb H [yI s.qQ,Sv qM s.qA.length qL,Sv (aa lF o18) s.qB.length xh] fun Yo E3 H=>sw<|jb H (yT t xK xI zB zq xC xy) fun b27 LE H=>sw<|jb H [Sv ra5 ((jG s<|s.qA.length+1).length) W6] fun Ey Ui H=>(sw<|jb H [yI s.qB[i]!.qW,yI s.qB[i]!.yH,Sv mx s.qB[i]!.vg.length mC,Sv na s.qB[i]!.jI.length mI,Sv nu s.qB[i]!.jK.length mq,Sv kv s.qB[i]!.jq.length kf,Sv kY s.qB[i]!.Qz.length kR,Sv g0 s.qB[i]!.xn.length ie,Bv s.qB[i]!.je] fun b31 Sw H=>sw<|jb H [yI<|counts[i]!] fun Bn WG H=>zjc<|sp (.func (.func 130) #[] #[pp Ey 0,pp Bn 0])<|sp (.func (.func 130) #[] #[pp Ey 0,pp Bn 0])<|zjc<|sp (.func (.func 130) #[] #[pp Ey 0,pp Bn 0])<|oF J<|oL J (H.cell 1 J J)<|oF J<|oL J (H.cell 1 J J)<|sw<|vF #[yI s.qB[i]!.qW,Sv kv s.qB[i]!.jq.length kf,pp Ey 0,pp Bn 0] J J call130<|en func130 ntmps130 ?_)
   refine QG J H [0,1,2,3,4,5,7,8] fun H=>?_
   have S:=H.ve [0,1,2,3,4,5,7,8]<|zR 0 14
   refine tL 0 J J (fun _ h=>h.cell 2 J J) S ?_
   refine rtl 1 S ?_
   refine tL 2 J J (fun _ h=>h.cell 2 J J) S ?_
   refine rtl 3 S ?_
   obtain⟨zv,rfl⟩:=H.jm 6 rfl qf
   have S:=H.ve [0,1,2,3,4,5,7,8]<|zR 0 14
   refine tI 4 J J J S ?_
   refine rtl 6 S ?_
   refine tL 7 J J (fun _ h=>h.cell 0 J J) S ?_
   refine ro 5 J ?_
   obtain⟨a37,c38,G39,s40,tZ,H⟩:=H.Qa 6 rfl 7 rfl (iv:=s.qB[i]!.qW) s.qB[i]!.qW.toNat qf qf
   refine zx (Sv a37 ((bags[s.qB[i]!.qW.toNat]!).length) c38) isAgg24 rfl (tZ)<|⟨H.pick [0,1,2,3,4,5,7,8]<|zR 1 14,(ro 8 rfl ?_)⟩
   obtain⟨u1,u2⟩:=dR.sh.row (c:=s.qB[i]!.qW.toNat) qf p8 qf
   have u4:=(by exact LX.jT qf:XG s.qB[i]!.jq counts[i]!)
   refine oc (Vy _ (bags[s.qB[i]!.qW.toNat]!) s.qB[i]!.jq counts[i]! (H.get 0 J).1 (H.get 4 J).1 qg qg qg) ?_
   rintro v47 w45 r47 x46
   replace H:=H.zy x46 r47
   obtain⟨a48,c49,rfl,aQW,aLx⟩:=H.jB 0 rfl
   refine⟨H.pick [1,2,3,4,5,6,8,9]<|zR 1 14,(tI 9 J J J (H.pick [1,2,3,4,5,6,8,9]<|zR 1 14) ?_)⟩
   refine ro 10 J ?_
   obtain⟨G53,N,aQB,H⟩:=H.vJ 0 rfl N<|H.XE [8]
   refine jJ true H 7 J 9 J (Sv a48 ((vX (bags[s.qB[i]!.qW.toNat]!) s.qB[i]!.jq<|counts[i]!).length) c49) 0 J J sizeOf24 J J (i:=s.qB[i]!.qW.toNat) qf qf qm fun w52 aPj F56 axZ H=>?_
   replace N:Fresh w.heap.size [F56]:=(N.pick [1,0]).repl axZ
   refine⟨H.pick [1,2,3,4,5,6,8,9]<|zR 3 14,(xx qh ((ret0 J ⟨_,J,?_⟩)))⟩
   replace H:=H.erases [0]
   dsimp only[zL,List.eraseIdx,List.set] at H
   obtain⟨zE,OV⟩:∃z,z=(bags.set s.qB[i]!.qW.toNat (vX (bags[s.qB[i]!.qW.toNat]!) s.qB[i]!.jq counts[i]!)):=⟨_,rfl⟩
   rw[←OV] at H
   have uy:=Ent.add (D:=1000000) dR OV qf (by exact LX.mul qf) qf
   have aAb:=uy.sh.1
   refine zjcc<|sw<|xW [yI s.qQ,Sv qM s.qA.length qL,Sv (aa lF o18) s.qB.length xh] isAgg27 sizeOf27 J (qH (H.cells 4 J) 0 3)<|sw<|xW (yT t xK xI zB zq xC xy) isAgg31 sizeOf31 J (qH (H.cells 3 J) 0 3)<|oF J<|oL J (H.cell 1 J J) ?_
   have qc':=qc
   refine sw<|oq (parentNow_ok _ s t s.qB[i]!.qW (H.get 11 J).1 (H.get 12 J).1 (H.get 13 J).1 (H.get 14 J).1 (H.get 15 J).1 qg qg qg) H fun w60 H=>?_
   have pl:=parentNow_lt RN p1.2.2.1 qc
   refine sq 1<|zjc<|sq 1<|sp (Bv<|decide ((xY s t (s.qB[i]!.qW):Int)>=0))<|zjn<|cD J (fun h62=>?_)<|fun h62=>?_
   ·have po:=outPl_in (r:=s.qB[i]!) RN ‹_›
    refine zf<|sp (.func (.func 130) #[] #[pp Ey 0,pp Bn 0])<|sq 1<|oF J<|oL J (H.cell 1 J J)<|sw<|vF #[yI<|xY s t s.qB[i]!.qW,Sv kY s.qB[i]!.Qz.length kR,pp Ey 0,pp Bn 0] J J call130<|en func130 ntmps130 ?_
    refine QG J H [0,1,2,3,4,5,7,8] fun H=>?_
    have S:=H.ve [0,1,2,3,4,5,7,8]<|zR 0 17
    refine tL 0 J J (fun _ h=>h.cell 2 J J) S ?_
    refine rtl 1 S ?_
    refine tL 2 J J (fun _ h=>h.cell 2 J J) S ?_
    refine rtl 3 S ?_
    refine tI 4 J J J S ?_
    refine rtl 6 S ?_
    refine tL 7 J J (fun _ h=>h.cell 0 J J) S ?_
    refine ro 5 J ?_
    obtain⟨a64,c65,G66,s67,h68,H⟩:=H.Qa 6 rfl 0 rfl (iv:=xY s t s.qB[i]!.qW) ((xY s t s.qB[i]!.qW).toNat) qf qf
    refine zx (Sv a64 ((zE[(xY s t s.qB[i]!.qW).toNat]!).length) c65) isAgg24 rfl (h68)<|⟨H.pick [0,1,2,3,4,5,7,8]<|zR 1 17,(ro 8 rfl ?_)⟩
    obtain⟨u1,u2⟩:=uy.sh.row (c:=(xY s t s.qB[i]!.qW).toNat) qf p8 qf
    have u4:=(by exact EV.jT qf:XG s.qB[i]!.Qz counts[i]!)
    refine oc (Vy _ (zE[(xY s t s.qB[i]!.qW).toNat]!) s.qB[i]!.Qz counts[i]! (H.get 0 J).1 (H.get 8 J).1 qg qg qg) ?_
    rintro v74 LT r74 x73
    replace H:=H.zy x73 r74
    obtain⟨a75,c76,rfl,axA,azP⟩:=H.jB 0 rfl
    refine⟨H.pick [1,2,3,4,5,6,8,9]<|zR 1 17,(tI 9 J J J (H.pick [1,2,3,4,5,6,8,9]<|zR 1 17) ?_)⟩
    refine ro 10 J ?_
    obtain⟨G80,N,aBW,H⟩:=H.vJ 0 rfl N<|H.XE [1]
    refine jJ true H 7 J 2 J (Sv a75 ((vX (zE[(xY s t s.qB[i]!.qW).toNat]!) s.qB[i]!.Qz<|counts[i]!).length) c76) 0 J J sizeOf24 J J (i:=((xY s t s.qB[i]!.qW).toNat)) qf qf qm fun w79 anN F83 acD H=>?_
    replace N:Fresh w.heap.size [F83]:=(N.pick [1,0]).repl acD
    refine⟨H.pick [1,2,3,4,5,6,8,9]<|zR 3 17,(xx qh ((ret0 J ⟨_,J,?_⟩)))⟩
    replace H:=H.erases [0]
    dsimp only[zL,List.eraseIdx,List.set] at H
    obtain⟨ax2,NQ⟩:∃z,z=(zE.set ((xY s t s.qB[i]!.qW).toNat) (vX (zE[(xY s t s.qB[i]!.qW).toNat]!) s.qB[i]!.Qz counts[i]!)):=⟨_,rfl⟩
    rw[←NQ] at H
    have NB:=Ent.add (D:=1000000) uy NQ qf (by exact EV.mul qf) qf
    have aAc:=NB.sh.1
    have ed:=NB
    refine zjc<|oF J<|oL J (H.cell 1 J J)<|oN J<|sp (yI 0)<|zjn<|xg<|vk ((fun Z0 Z1 Z2 Z3 Z4 Z5 Z6 Z7 Z8 Z9 dU eC fe fR gB ij nc pN rN wk wd=>fun m' ρ w86=>∃(xR:Env) (k:Nat) (bD:yLL) (X4:List Value) (Vb:yLN),ρ=upd (upd (upd (upd xR 10<|.func (.func 130) #[] #[pp Ey 0,pp Bn 0]) 40<|Sv g0 s.qB[i]!.xn.length ie) 41<|yI s.qB[i]!.xn.length) 42 (yI k)/\((k:Int)<=s.qB[i]!.xn.length)/\(Ent (s.qA.length+1) (vG s) (fun p q=>Xa s t counts cell i p q+at' p s.qB[i]!.qW.toNat (((counts)[i]!)*(s.qB[i]!.jq)[q]!)+at' p (outPl s t<|s.qB[i]!) (((counts)[i]!)*(s.qB[i]!.Qz)[q]!)+intoF s.qB[i]! ((counts)[i]!) k p q) (3000000+6000000*i+1000000*k) bD)/\(bD.length=s.qA.length+1)/\m'=((s.qB[i]!.xn.length)-(k:Int)).toNat/\Fresh w.heap.size [Vb]/\St w w86 [Z0,Z1,Z2,Z3,Z4,Z5,rr (aa zv 0) ((jG s<|s.qA.length+1).length) W6 24 1 X4,Z6,Z7] [qX true Vb X4 bD,Z8,Z9,dU,eC,fe,fR,gB,ij,nc,pN,rN,wk,wd]) _ _ _ _ _ _ _ _ _ _ _ _ _ _ _ _ _ _ _ _ _) (((s.qB[i]!.xn.length)-(0:Int)).toNat) ⟨_,0,ax2,anN,F83,uE4,qf,(by exact ed.to (fun p q=>by rw[po];simp only[intoF];omega) qf),qf,J,N,H.pick (zR 0 9) (0::6::7::8::9::10::11::12::zR 14 6)⟩ ?_
    clear H N
    rintro m' ρ w87 ⟨xR,k,bD,X4,Vb,rfl,i0,cv,uX,rfl,N,H⟩
    refine zcr<|sq 1<|zjn<|xO<|cD J (fun h88=>?_)<|fun h88=>?_
    ·have qi:=q.2.2.2.2.2.2.2.2.2.2 k qf
     have qi1:=qi.1
     have un:=qi.2.2.1
     have ln4:=un.len
     refine xe<|t_n<|xO<|xg<|zcr ?_
     obtain⟨Bd,o90,rfl⟩:=H.addr 6 rfl qf
     obtain⟨tY,t0,TP,H⟩:=H.Qr 6 rfl k k qf qf qf
     refine oI J J<|sw<|xW [yI (((s.qB[i]!.xn)[k]!).qW),Sv tY ((((s.qB[i]!.xn)[k]!).Xc).length) t0] isAgg161 sizeOf161 J (qH (H.get 1 J) 0 2)<|sw<|x8 H ti161 [yI 0,yN] fun b93 w94 H=>sw<|xZ H 0 [yI (((s.qB[i]!.xn)[k]!).qW),Sv tY ((((s.qB[i]!.xn)[k]!).Xc).length) t0] sizeOf161 fun w95 H=>zjn<|zf<|sp (.func (.func 130) #[] #[pp Ey 0,pp Bn 0])<|oF J<|oL J (H.cell 0 J J)<|oF J<|oL J (H.cell 0 J J)<|sw<|vF #[yI (((s.qB[i]!.xn)[k]!).qW),Sv tY ((((s.qB[i]!.xn)[k]!).Xc).length) t0,pp Ey 0,pp Bn 0] J J call130<|en func130 ntmps130 ?_
     refine QG J H [0,1,2,3,4,5,6,8,9] fun H=>?_
     have S:=H.ve [0,1,2,3,4,5,6,8,9]<|zR 0 16
     refine tL 0 J J (fun _ h=>h.cell 3 J J) S ?_
     refine rtl 1 S ?_
     refine tL 2 J J (fun _ h=>h.cell 3 J J) S ?_
     refine rtl 3 S ?_
     refine tI 4 J J J S ?_
     refine rtl 6 S ?_
     refine tL 7 J J (fun _ h=>h.cell 1 J J) S ?_
     refine ro 5 J ?_
     obtain⟨a97,c98,G99,aJ5,sx,H⟩:=H.Qa 7 rfl 2 rfl (iv:=((s.qB[i]!.xn)[k]!).qW) ((((s.qB[i]!.xn)[k]!).qW).toNat) qf qf
     refine zx (Sv a97 ((bD[(((s.qB[i]!.xn)[k]!).qW).toNat]!).length) c98) isAgg24 rfl (sx)<|⟨H.pick [0,1,2,3,4,5,6,8,9]<|zR 1 16,(ro 8 rfl ?_)⟩
     obtain⟨u1,u2⟩:=cv.sh.row (c:=(((s.qB[i]!.xn)[k]!).qW).toNat) qf p8 qf
     have u4:=(by exact un.jT qf:XG (((s.qB[i]!.xn)[k]!).Xc) counts[i]!)
     refine oc (Vy _ (bD[(((s.qB[i]!.xn)[k]!).qW).toNat]!) (((s.qB[i]!.xn)[k]!).Xc) counts[i]! (H.get 0 J).1 (H.get 1 J).1 qg qg qg) ?_
     rintro aKP Tk awY aBA
     replace H:=H.zy aBA awY
     obtain⟨DO,D8,rfl,aF8,aF5⟩:=H.jB 0 rfl
     refine⟨H.pick [1,2,3,4,5,6,7,9,10]<|zR 1 16,(tI 9 J J J (H.pick [1,2,3,4,5,6,7,9,10]<|zR 1 16) ?_)⟩
     refine ro 10 J ?_
     obtain⟨aCU,N,alk,H⟩:=H.vJ 0 rfl N<|H.XE [3]
     refine jJ true H 8 J 4 J (Sv DO ((vX (bD[(((s.qB[i]!.xn)[k]!).qW).toNat]!) (((s.qB[i]!.xn)[k]!).Xc)<|counts[i]!).length) D8) 0 J J sizeOf24 J J (i:=((((s.qB[i]!.xn)[k]!).qW).toNat)) qf qf qm fun Sl aIz aB2 ap5 H=>?_
     replace N:Fresh w.heap.size [aB2]:=(N.pick [1,0]).repl ap5
     refine⟨H.pick [1,2,3,4,5,6,7,9,10]<|zR 3 16,(xx qh ((ret0 J ⟨_,J,?_⟩)))⟩
     replace H:=H.erases [0]
     dsimp only[zL,List.eraseIdx,List.set] at H
     obtain⟨aGp,It⟩:∃z,z=(bD.set ((((s.qB[i]!.xn)[k]!).qW).toNat) (vX (bD[(((s.qB[i]!.xn)[k]!).qW).toNat]!) (((s.qB[i]!.xn)[k]!).Xc) counts[i]!)):=⟨_,rfl⟩
     rw[←It] at H
     have IF:=Ent.add (D:=1000000) cv It qf (by exact un.mul qf) qf
     have auV:=IF.sh.1
     have ed:=IF
     refine xX<|b_n<|t_n<|zf<|sw<|zY k 1 J J qf<|sq 1<|xX<|xu (m':=((s.qB[i]!.xn.length)-((k+1):Int)).toNat) qf ⟨_,k+1,_,_,_,uE4,?_,?_,?_,J,N,H.pick (zR 1 9) (0::zR 6 13)⟩
     ·omega
     ·exact ed.to (fun p q=>by simp only[intoF];omega) qf
     ·omega
    refine c_exit<|t_x<|t_x<|b_x<|ret0 J ⟨_,J,?_⟩
    replace H:=H.erases [4,3,2,1,0]
    dsimp only[zL,List.eraseIdx,List.set] at H
    refine xX<|b_n<|t_n<|zf<|sw<|zY i 1 J J qf<|sq 1<|xX<|xu (m':=(counts.length-((i+1):Int)).toNat) qf ⟨_,i+1,_,_,_,uE7,?_,?_,?_,J,N,H.pick [1,2,3] (0::zR 8 6)⟩
    ·omega
    ·exact cv.to (fun p q=>by rw[show k=s.qB[i]!.xn.length by omega,puts_yes (i:=i) ql];simp only[putF];omega) qf
    ·omega
   have po:=outPl_out (r:=s.qB[i]!) RN p1.2.2.1 qc qf
   refine QG J H [0,1,2,3,4,5,7,8] fun H=>?_
   have S:=H.ve [0,1,2,3,4,5,7,8]<|zR 0 17
   refine rtp 0 (.func (.func 130) #[] #[pp Ey 0,pp Bn 0]) S ?_
   refine rt 1 _ (yP (cs:=[yI s.qQ,Sv qM s.qA.length qL,Sv (aa lF o18) s.qB.length xh]) isAgg27 sizeOf27 J<|fun _ h=>qH (h.cells 4 J) 0 3) S ?_
   refine tF 3 J J S ?_
   refine tL 4 J J (fun _ h=>h.cell 1 J J) S ?_
   refine ro 2 J<|oq (Xj _ s (H.get 11 J).1 (H.get 12 J).1) H fun Q1 H=>⟨H.pick [0,1,2,3,4,5,7,8]<|zR 0 17,(ro 5 J<|vF #[yI s.qA.length,Sv kY s.qB[i]!.Qz.length kR,pp Ey 0,pp Bn 0] J J call130<|en func130 ntmps130 ?_)⟩
   refine QG J H [0,1,2,3,4,5,7,8] fun H=>?_
   have S:=H.ve [0,1,2,3,4,5,7,8]<|zR 0 17
   refine tL 0 J J (fun _ h=>h.cell 2 J J) S ?_
   refine rtl 1 S ?_
   refine tL 2 J J (fun _ h=>h.cell 2 J J) S ?_
   refine rtl 3 S ?_
   refine tI 4 J J J S ?_
   refine rtl 6 S ?_
   refine tL 7 J J (fun _ h=>h.cell 0 J J) S ?_
   refine ro 5 J ?_
   obtain⟨Uw,R2,asi,aKX,aC4,H⟩:=H.Qa 6 rfl 0 rfl (iv:=s.qA.length) s.qA.length qf qf
   refine zx (Sv Uw zE[s.qA.length]!.length R2) isAgg24 rfl (aC4)<|⟨H.pick [0,1,2,3,4,5,7,8]<|zR 1 17,(ro 8 rfl ?_)⟩
   obtain⟨u1,u2⟩:=uy.sh.row (c:=s.qA.length) qf p8 qf
   have u4:=(by exact EV.jT qf:XG s.qB[i]!.Qz counts[i]!)
   refine oc (Vy _ zE[s.qA.length]! s.qB[i]!.Qz counts[i]! (H.get 0 J).1 (H.get 8 J).1 qg qg qg) ?_
   rintro aOD aLZ az9 axg
   replace H:=H.zy axg az9
   obtain⟨aaZ,acE,rfl,aHG,aGn⟩:=H.jB 0 rfl
   refine⟨H.pick [1,2,3,4,5,6,8,9]<|zR 1 17,(tI 9 J J J (H.pick [1,2,3,4,5,6,8,9]<|zR 1 17) ?_)⟩
   refine ro 10 J ?_
   obtain⟨aDi,N,ar9,H⟩:=H.vJ 0 rfl N<|H.XE [1]
   refine jJ true H 7 J 2 J (Sv aaZ ((vX zE[s.qA.length]! s.qB[i]!.Qz<|counts[i]!).length) acE) 0 J J sizeOf24 J J (i:=s.qA.length) qf qf qm fun aAR arL aq9 aoZ H=>?_
   replace N:Fresh w.heap.size [aq9]:=(N.pick [1,0]).repl aoZ
   refine⟨H.pick [1,2,3,4,5,6,8,9]<|zR 3 17,(xx qh ((ret0 J ⟨_,J,?_⟩)))⟩
   replace H:=H.erases [0]
   dsimp only[zL,List.eraseIdx,List.set] at H
   obtain⟨aj9,GY⟩:∃z,z=(zE.set s.qA.length (vX zE[s.qA.length]! s.qB[i]!.Qz counts[i]!)):=⟨_,rfl⟩
   rw[←GY] at H
   have Iq:=Ent.add (D:=1000000) uy GY qf (by exact EV.mul qf) qf
   have atT:=Iq.sh.1
   have ed:=Iq
   refine⟨H.pick [0,1,2,3,4,5,7,8]<|zR 3 17,(xx qh<|t_n<|zcr<|oF J<|oL J (H.cell 1 J J)<|oN J<|sp (yI 0)<|zjn<|xg ?_)⟩
   refine vk ((fun Z0 Z1 Z2 Z3 Z4 Z5 Z6 Z7 Z8 Z9 dU eC fe fR gB ij nc pN rN wk wd=>fun m' ρ Sh=>∃(xR:Env) (k:Nat) (bD:yLL) (X4:List Value) (Vb:yLN),ρ=upd (upd (upd (upd xR 10<|.func (.func 130) #[] #[pp Ey 0,pp Bn 0]) 40<|Sv g0 s.qB[i]!.xn.length ie) 41<|yI s.qB[i]!.xn.length) 42 (yI k)/\((k:Int)<=s.qB[i]!.xn.length)/\(Ent (s.qA.length+1) (vG s) (fun p q=>Xa s t counts cell i p q+at' p s.qB[i]!.qW.toNat (((counts)[i]!)*(s.qB[i]!.jq)[q]!)+at' p (outPl s t<|s.qB[i]!) (((counts)[i]!)*(s.qB[i]!.Qz)[q]!)+intoF s.qB[i]! ((counts)[i]!) k p q) (3000000+6000000*i+1000000*k) bD)/\(bD.length=s.qA.length+1)/\m'=((s.qB[i]!.xn.length)-(k:Int)).toNat/\Fresh w.heap.size [Vb]/\St w Sh [Z0,Z1,Z2,Z3,Z4,Z5,rr (aa zv 0) ((jG s<|s.qA.length+1).length) W6 24 1 X4,Z6,Z7] [qX true Vb X4 bD,Z8,Z9,dU,eC,fe,fR,gB,ij,nc,pN,rN,wk,wd]) _ _ _ _ _ _ _ _ _ _ _ _ _ _ _ _ _ _ _ _ _) (((s.qB[i]!.xn.length)-(0:Int)).toNat) ⟨_,0,aj9,arL,aq9,uE4,qf,(by exact ed.to (fun p q=>by rw[po];simp only[intoF];omega) qf),qf,J,N,H.pick (zR 0 9) (0::6::7::8::9::10::11::12::zR 14 6)⟩ ?_
   clear H N
   rintro m' ρ aBU ⟨xR,k,bD,X4,Vb,rfl,i0,cv,uX,rfl,N,H⟩
   refine zcr<|sq 1<|zjn<|xO<|cD J (fun xc=>?_)<|fun xc=>?_
   ·have qi:=q.2.2.2.2.2.2.2.2.2.2 k qf
    have qi1:=qi.1
    have un:=qi.2.2.1
    have ln4:=un.len
    refine xe<|t_n<|xO<|xg<|zcr ?_
    obtain⟨aNw,aPV,rfl⟩:=H.addr 6 rfl qf
    obtain⟨x6,xo,asj,H⟩:=H.Qr 6 rfl k k qf qf qf
    refine oI J J<|sw<|xW [yI (((s.qB[i]!.xn)[k]!).qW),Sv x6 ((((s.qB[i]!.xn)[k]!).Xc).length) xo] isAgg161 sizeOf161 J (qH (H.get 1 J) 0 2)<|sw<|x8 H ti161 [yI 0,yN] fun aOj RV H=>sw<|xZ H 0 [yI (((s.qB[i]!.xn)[k]!).qW),Sv x6 ((((s.qB[i]!.xn)[k]!).Xc).length) xo] sizeOf161 fun aJn H=>zjn<|zf<|sp (.func (.func 130) #[] #[pp Ey 0,pp Bn 0])<|oF J<|oL J (H.cell 0 J J)<|oF J<|oL J (H.cell 0 J J)<|sw<|vF #[yI (((s.qB[i]!.xn)[k]!).qW),Sv x6 ((((s.qB[i]!.xn)[k]!).Xc).length) xo,pp Ey 0,pp Bn 0] J J call130<|en func130 ntmps130 ?_
    refine QG J H [0,1,2,3,4,5,6,8,9] fun H=>?_
    have S:=H.ve [0,1,2,3,4,5,6,8,9]<|zR 0 16
    refine tL 0 J J (fun _ h=>h.cell 3 J J) S ?_
    refine rtl 1 S ?_
    refine tL 2 J J (fun _ h=>h.cell 3 J J) S ?_
    refine rtl 3 S ?_
    refine tI 4 J J J S ?_
    refine rtl 6 S ?_
    refine tL 7 J J (fun _ h=>h.cell 1 J J) S ?_
    refine ro 5 J ?_
    obtain⟨acH,aew,aKq,aPJ,ayI,H⟩:=H.Qa 7 rfl 2 rfl (iv:=((s.qB[i]!.xn)[k]!).qW) ((((s.qB[i]!.xn)[k]!).qW).toNat) qf qf
    refine zx (Sv acH ((bD[(((s.qB[i]!.xn)[k]!).qW).toNat]!).length) aew) isAgg24 rfl (ayI)<|⟨H.pick [0,1,2,3,4,5,6,8,9]<|zR 1 16,(ro 8 rfl ?_)⟩
    obtain⟨u1,u2⟩:=cv.sh.row (c:=(((s.qB[i]!.xn)[k]!).qW).toNat) qf p8 qf
    have u4:=(by exact un.jT qf:XG (((s.qB[i]!.xn)[k]!).Xc) counts[i]!)
    refine oc (Vy _ (bD[(((s.qB[i]!.xn)[k]!).qW).toNat]!) (((s.qB[i]!.xn)[k]!).Xc) counts[i]! (H.get 0 J).1 (H.get 1 J).1 qg qg qg) ?_
    rintro aII ajo azT aBw
    replace H:=H.zy aBw azT
    obtain⟨awH,awG,rfl,aFc,aDX⟩:=H.jB 0 rfl
    refine⟨H.pick [1,2,3,4,5,6,7,9,10]<|zR 1 16,(tI 9 J J J (H.pick [1,2,3,4,5,6,7,9,10]<|zR 1 16) ?_)⟩
    refine ro 10 J ?_
    obtain⟨ab9,N,W9,H⟩:=H.vJ 0 rfl N<|H.XE [3]
    refine jJ true H 8 J 4 J (Sv awH ((vX (bD[(((s.qB[i]!.xn)[k]!).qW).toNat]!) (((s.qB[i]!.xn)[k]!).Xc)<|counts[i]!).length) awG) 0 J J sizeOf24 J J (i:=((((s.qB[i]!.xn)[k]!).qW).toNat)) qf qf qm fun aeG aGH ay8 asW H=>?_
    replace N:Fresh w.heap.size [ay8]:=(N.pick [1,0]).repl asW
    refine⟨H.pick [1,2,3,4,5,6,7,9,10]<|zR 3 16,(xx qh ((ret0 J ⟨_,J,?_⟩)))⟩
    replace H:=H.erases [0]
    dsimp only[zL,List.eraseIdx,List.set] at H
    obtain⟨aGz,GX⟩:∃z,z=(bD.set ((((s.qB[i]!.xn)[k]!).qW).toNat) (vX (bD[(((s.qB[i]!.xn)[k]!).qW).toNat]!) (((s.qB[i]!.xn)[k]!).Xc) counts[i]!)):=⟨_,rfl⟩
    rw[←GX] at H
    have H5:=Ent.add (D:=1000000) cv GX qf (by exact un.mul qf) qf
    have at4:=H5.sh.1
    have ed:=H5
    refine xX<|b_n<|t_n<|zf<|sw<|zY k 1 J J qf<|sq 1<|xX<|xu (m':=((s.qB[i]!.xn.length)-((k+1):Int)).toNat) qf ⟨_,k+1,_,_,_,uE4,?_,?_,?_,J,N,H.pick (zR 1 9) (0::zR 6 13)⟩
    ·omega
    ·exact ed.to (fun p q=>by simp only[intoF];omega) qf
    ·omega
   refine c_exit<|t_x<|t_x<|b_x<|ret0 J ⟨_,J,?_⟩
   replace H:=H.erases [4,3,2,1,0]
   dsimp only[zL,List.eraseIdx,List.set] at H
   refine xX<|b_n<|t_n<|zf<|sw<|zY i 1 J J qf<|sq 1<|xX<|xu (m':=(counts.length-((i+1):Int)).toNat) qf ⟨_,i+1,_,_,_,uE7,?_,?_,?_,J,N,H.pick [1,2,3] (0::zR 8 6)⟩
   ·omega
   ·exact cv.to (fun p q=>by rw[show k=s.qB[i]!.xn.length by omega,puts_yes (i:=i) ql];simp only[putF];omega) qf
   ·omega
  refine xe<|b_n<|t_n<|zf<|sw<|zY i 1 J J qf<|sq 1<|xX<|xu (m':=(counts.length-((i+1):Int)).toNat) qf ⟨_,i+1,_,_,_,uE7,?_,?_,?_,J,N,H.pick [1,2,3]<|zR 7 7⟩
  ·omega
  ·exact dR.to (fun p q=>by rw[puts_no (i:=i) ql]) qf
  ·omega
 refine zx4<|zcr<|sq 2<|zjr<|rH1 (Sv ra5 ((jG s<|s.qA.length+1).length) W6) H ?_
 rw[show jX s t counts cell=bags from(dR.to (fun p q=>by rw[show i=s.qB.length by omega])<|Int.le_refl _).tab.symm]
 exact⟨ra5,(jG s<|s.qA.length+1).length,W6,dQ,eK,J,N,H.pick [0] [0]⟩
end
section
theorem get_set{α:Type}[Inhabited α](l:List α)(i j:Nat)(v:α)(hi:i<l.length):(l.set i v)[j]! =if i=j then v else l[j]! :=by
 by_cases hj:j<l.length
 ·rw[getElem!_pos _ _<|by rw[List.length_set];exact hj,List.getElem_set,getElem!_pos l j hj]
 ·rw[getElem!_neg _ _<|by rw[List.length_set];exact hj,getElem!_neg l j hj,if_neg qf]
theorem plusL_get{l m:yLI}(h:j<l.length):(vX l m 1)[j]! =l[j]! +m[j]! :=by
 rw[getElem!_pos _ _<|by rw[QL];exact h]
 simp[vX,plusTo]
theorem rep_get(n j:Nat):(List.replicate n (0:Int))[j]! =0:=by
 by_cases h:j<n
 ·rw[getElem!_pos _ _<|by simpa using h];simp
 ·rw[getElem!_neg _ _<|by simpa using h];rfl
def kidIn(s:qJ)(t:qV)(k:Int)(j:Nat):Bool:=t.qO[j]! && (xY s t j == k)
def kidsTo(s:qJ)(t:qV)(k:Int)(n:Nat):yLI:=((List.range n).filter<|kidIn s t k).map fun j:Nat=>(j:Int)
section
variable{s : qJ}{t : qV}{c : Int}
structure VK(s:qJ)(t:qV)(c:Int):Prop where
 frame:yf s
 state:zA s t
 cell:CellIn s c
 skin:c≠0
 alive:t.qO[c.toNat]! =true
theorem VK.pos(h:VK s t c):0<c:=by have:=h.cell.1;have:=h.skin;omega
theorem VK.par(h:VK s t c):0<=xY s t c/\xY s t c<c/\t.qO[(xY s t c).toNat]! =true:=parentNow_in h.frame h.state.2.2.1 h.pos h.cell.2
theorem VK.alive'(h:VK s t c)(j:Nat):(melted s t c).qO[j]! =if c.toNat=j then false else t.qO[j]! :=by
 have:=h.cell;have:=h.state.1
 exact get_set _ _ _ _ qf
theorem VK.bags'(h:VK s t c)(j:Nat):(melted s t c).qG[j]! =if c.toNat=j then List.replicate s.qQ.toNat 0 else if (xY s t c).toNat=j then vX (t.qG[(xY s t c).toNat]!) t.qG[c.toNat]! 1 else t.qG[j]! :=by
 have:=h.cell;have:=h.state.2.1;have hp:=h.par
 show ((t.qG.set _ _).set _ _)[j]! =_
 rw[get_set _ _ _ _<|by rw[List.length_set];omega,get_set _ _ _ _ qf]
def Few5(t:qV):Prop:=(∀k,k<t.qG.length->∀j,j<t.qG[k]!.length->(t.qG[k]!)[j]! <=5)/\∀j,j<t.qF.length->t.qF[j]! <=5
def allTo(t:qV):Nat->yLI
 |0=>t.qF
 |k+1=>vX (allTo t k) t.qG[k]! 1
theorem allTo_len(t:qV):∀k,(allTo t k).length=t.qF.length
 |0=>rfl
 |k+1=>by rw[allTo,QL,allTo_len t k]
def colTo(t:qV)(j:Nat):Nat->Int
 |0=>0
 |k+1=>colTo t j k+(t.qG[k]!)[j]!
theorem allTo_get(t:qV){j:Nat}(hj:j<t.qF.length):∀k,(allTo t k)[j]! =t.qF[j]! +colTo t j k
 |0=>by simp[allTo,colTo]
 |k+1=>by
  rw[allTo,plusL_get<|by rw[allTo_len];exact hj,allTo_get t hj k,colTo]
  omega
theorem VK.lens(h:VK s t c)(hk:k<s.qA.length):t.qG[k]!.length=s.qQ.toNat:=by
 have:=(h.state.bagLen (k:=k)<|by rw[h.state.2.1];exact hk).2
 omega
theorem VK.col(h:VK s t c){j:Nat}(hj:j<s.qQ.toNat):∀k,colTo (melted s t c) j k=colTo t j k+(if (xY s t c).toNat<k then (t.qG[c.toNat]!)[j]! else 0)-(if c.toNat<k then (t.qG[c.toNat]!)[j]! else 0)
 |0=>by simp[colTo]
 |k+1=>by
  have hp:=h.par
  have hc:=h.cell
  rw[colTo,colTo,VK.col h hj k,h.bags']
  by_cases e1:c.toNat=k
  ·subst e1
   rw[if_pos J,rep_get,if_neg<|show ¬c.toNat<c.toNat by omega,if_pos<|show c.toNat<c.toNat+1 by omega,if_pos<|show (xY s t c).toNat<c.toNat by omega,if_pos<|show (xY s t c).toNat<c.toNat+1 by omega]
   omega
  ·rw[if_neg e1]
   by_cases e2:(xY s t c).toNat=k
   ·subst e2
    rw[if_pos J,plusL_get<|by rw[h.lens qf];exact hj,if_neg<|show ¬(xY s t c).toNat<(xY s t c).toNat by omega,if_pos<|show (xY s t c).toNat<(xY s t c).toNat+1 by omega,
     if_neg (show ¬c.toNat<(xY s t c).toNat by omega),if_neg<|show ¬c.toNat<(xY s t c).toNat+1 by omega]
    omega
   ·rw[if_neg e2]
    have a1:((xY s t c).toNat<k+1)=((xY s t c).toNat<k):=by apply propext;omega
    have a2:(c.toNat<k+1)=(c.toNat<k):=by apply propext;omega
    simp only[a1,a2]
    omega
theorem VK.total(h:VK s t c):allTo (melted s t c) s.qA.length=allTo t s.qA.length:=by
 have hp:=h.par
 have hc:=h.cell
 have hl:(melted s t c).qF=t.qF:=rfl
 have hk:t.qF.length=s.qQ.toNat:=by have:=h.state.2.2.2.1.2;omega
 apply List.ext_getElem
 ·rw[allTo_len,allTo_len,hl]
 ·intro j h1 h2
  rw[allTo_len] at h2
  rw[←getElem!_pos,←getElem!_pos,allTo_get _<|by rw[hl];exact h2,allTo_get _ h2,h.col qf,if_pos qf,if_pos qf,hl]
  omega
theorem VK.ok(h:VK s t c)(hf:Few5 t):zA s (melted s t c):=by
 have hp:=h.par
 have hc:=h.cell
 have ht:=h.state
 have e1:(melted s t c).qO.length=t.qO.length:=by simp[melted]
 have e2:(melted s t c).qG.length=t.qG.length:=by simp[melted]
 refine⟨by rw[e1];exact ht.1,by rw[e2];exact ht.2.1,by rw[h.alive',if_neg (by have:=h.pos;omega)];exact ht.2.2.1,ht.2.2.2.1,fun k hk=>?_⟩
 rw[e2] at hk
 rw[h.bags',h.alive']
 have hkk:=ht.2.1
 by_cases g1:c.toNat=k
 ·rw[if_pos g1,if_pos g1]
  have hK:=h.frame.1
  refine⟨⟨⟨fun j hj=>by rw[rep_get];omega,by simp;omega,by simp;omega⟩,by simp;omega⟩,fun _=>?_⟩
  have hz:∀n,sumTo (List.replicate s.qQ.toNat 0) n=0:=by
   intro n
   induction n with
   |zero=>simp[sumTo]
   |succ n ih=>simp only[sumTo,ih,rep_get];omega
  unfold Yk
  rw[hz]
  omega
 ·rw[if_neg g1,if_neg g1]
  by_cases g2:(xY s t c).toNat=k
  ·rw[if_pos g2]
   subst g2
   have bp:=ht.bagLen hk
   have bc:=ht.bagLen (k:=c.toNat) qf
   refine⟨⟨⟨fun j hj=>?_,by rw[QL];exact bp.1.2.1,by rw[QL];exact bp.1.2.2⟩,by rw[QL];exact bp.2⟩,fun hd=>?_⟩
   ·rw[QL] at hj
    rw[plusL_get hj]
    have hj2:j<t.qG[c.toNat]!.length:=by have:=bp.2;have:=bc.2;omega
    have a1:=bp.1.1 j hj
    have a2:=bc.1.1 j hj2
    have a3:=hf.1 _ hk j hj
    have a4:=hf.1 c.toNat qf j hj2
    omega
   ·rw[hp.2.2] at hd;cases hd
  ·rw[if_neg g2]
   exact ht.2.2.2.2 k hk
end
open Classical in
noncomputable def pnV(s:qJ)(t:qV)(c:Int):Int:=if cellCodeOf s t c=0 then xY s t c else 0
open Classical in
noncomputable def kidsV(s:qJ)(t:qV)(c:Int):yLI:=if cellCodeOf s t c=0 then kidsTo s t c s.qA.length else []
structure CanAdd(a b:yLI):Prop where
 one:Yj a
 two:Yj b
 len:a.length=b.length
 sum:Yj (vX a b 1)
structure TreeAt(s:qJ)(t:qV)(c:Int):Prop where
 ag:(meltRes s t c).2=0
 cc:cellCodeOf s t c=0
 ok:jW s/\zA s (meltRes s t c).1
 dead:(meltRes s t c).1.qO[c.toNat]! =false
 par:0<=pnV s t c/\pnV s t c<s.qA.length
 kids:∀i,i<(kidsV s t c).length->cellCodeOf s (meltRes s t c).1 ((kidsV s t c)[i]!)=0/\pnV s (meltRes s t c).1 ((kidsV s t c)[i]!)=pnV s t c
 few:(kidsV s t c).length<=6
 total:allTo (meltRes s t c).1 s.qA.length=allTo t s.qA.length
 bag:Yj (allTo t s.qA.length)
 add:CanAdd (t.qG[(pnV s t c).toNat]!) t.qG[c.toNat]!
 sum:vX (t.qG[(pnV s t c).toNat]!) t.qG[c.toNat]! 1=(meltRes s t c).1.qG[(pnV s t c).toNat]!
end
section
theorem specValid_ok(w:World)(s:qJ)(t:qV){qL:Nat}{xh:Nat}{xI:Nat}{zq:Nat}{xy:Nat}(qZ:zP w xN qM qL s.qA)(xM:zP w zN xm xh s.qB)(zS:zP w vV xK xI t.qO)(vK:zP w jM zB zq t.qG)(zi:zP w zZ xC xy t.qF):Calls Tryz.prog 17 #[.agg #[yI s.qQ,Sv qM s.qA.length qL,Sv xm s.qB.length xh],.agg #[Sv xK t.qO.length xI,Sv zB t.qG.length zq,Sv xC t.qF.length xy]] w (Ret (fun v w'=>v=Bv (dec<|jW s/\zA s t)) w):=by
 refine en func17 ntmps17 ?_
 have H:=(((((St.start w).arg zi).arg vK).arg zS).arg xM).arg qZ
 have jP:=qN xM
 have QM:=qN zS
 have Xt:=qN vK
 have Qe:=qN zi
 clear qZ xM zS vK zi
 refine zcr<|sw<|jb H (yS s qM qL xm xh) fun b1 w2 H=>sw<|jb H (yT t xK xI zB zq xC xy) fun b3 w4 H=>sp (Bv false)<|zjc<|sw<|oq (l02Ok_ok _ s (qH (H.cells 1 J) 0 3) (H.get 0 J).1 (H.get 1 J).1) H fun w5 H=>sp (Bv<|dec<|jW s) ?_
 cases h7:(dec (jW s))
 ·replace h7:=vS h7
  refine zk [7]<|sp (Bv false)<|sp (Bv false)<|zjr<|rH1 (Bv false) H ?_
  rw[xH<|fun h=>‹¬jW s› h.1]
 replace h7:=Qy h7
 refine qP 6 J J<|sw<|oq (l02State_ok _ s t (qH (H.cells 1 J) 0 3) (H.get 0 J).1 (H.get 1 J).1 (qH (H.cells 0 J) 0 3) (H.get 2 J).1 (H.get 3 J).1 (H.get 4 J).1<|by exact(And.left (by assumption:jW _))) H fun w8 H=>sq 2<|zjr<|rH1 (Bv<|dec<|zA s t) H ?_
 rw[dec_congr<|show zA s t<->jW s/\zA s t from⟨fun h=>⟨by assumption,h⟩,fun h=>h.2⟩]
end
section
def MildTo(l:List yz)(n:Nat):Prop:=∀j,j<n->l[j]!.je=false
theorem MildTo.go{l:List yz}(h:MildTo l i)(hi:i<l.length):MildTo (l.set i { l[i]! with je:=false }) (i+1):=fun j hj=>by
 rw[getElem!_pos (l.set i _) j<|by rw[List.length_set];omega,List.getElem_set]
 split
 ·rfl
 ·have:=h j qf
  rwa [getElem!_pos l j qf] at this
theorem MildTo.here{l:List yz}{b:yLI}(h:MildTo l n)(hi:i<l.length)(hn:n<=l.length):MildTo (l.set i { l[i]! with jq:=b }) n:=fun j hj=>by
 rw[getElem!_pos (l.set i _) j<|by rw[List.length_set];omega,List.getElem_set]
 have h1:=h j hj
 split
 ·rename_i e;subst e;exact h1
 ·rwa [getElem!_pos l j qf] at h1
def OwnDr(n:Nat)(own:yLI):Prop:=
 own.length=n/\∃m:Nat,1<=m/\m<=3/\m<=n/\(∀j,j<own.length->0<=own[j]! /\own[j]!<m)/\∀q:Nat,q<m->∃j,j<own.length/\own[j]! =q
def OwnTo(m:Int)(c:Nat)(own:yLI):Prop:=own.length=c/\∀j,j<c->(0<=own[j]! /\own[j]!<m)/\((j:Int)<m->own[j]! =j)
theorem OwnTo.nil(m:Int):OwnTo m 0 []:=⟨rfl,fun j hj=>by omega⟩
theorem OwnTo.snoc{v:Int}{own:yLI}(h:OwnTo m c own)(hv:0<=v/\v<m)(hc:(c:Int)<m->v=c):OwnTo m (c+1) (own++[v]):=by
 have hl:=h.1
 refine⟨by simp[hl],fun j hj=>?_⟩
 rw[V6]
 by_cases h1:j<c
 ·rw[if_pos qf];exact h.2 j h1
 ·have e:j=c:=by omega
  subst e
  rw[if_neg qf,if_pos qf]
  exact⟨hv,hc⟩
theorem OwnTo.ok{own:yLI}(h:OwnTo m n own)(hm:1<=m/\m<=3)(hn:m<=n):OwnDr n own:=by
 have hl:=h.1
 refine⟨hl,m.toNat,by omega,by omega,by omega,fun j hj=>?_,fun q hq=>⟨q,by omega,?_⟩⟩
 ·have:=(h.2 j qf).1;omega
 ·exact(h.2 q qf).2 qf
def TurnTo(m:Int)(c:Nat)(own pF :yLI):Prop:=pF.length=own.length/\∀j,j<own.length->pF[j]! =if j<c then m-1-own[j]! else own[j]!
theorem TurnTo.zero(m:Int)(own:yLI):TurnTo m 0 own own:=⟨rfl,fun j _=>by rw[if_neg qf]⟩
theorem TurnTo.at'{own:yLI}(h:TurnTo m c own pF)(hc:c<own.length):pF[c]! =own[c]! :=by rw[h.2 c hc,if_neg qf]
theorem TurnTo.go{own:yLI}(h:TurnTo m c own pF)(hc:c<own.length):TurnTo m (c+1) own (pF.set c<|m-1-pF[c]!):=by
 have hl:=h.1
 refine⟨by rw[List.length_set];exact hl,fun j hj=>?_⟩
 rw[getElem!_pos (pF.set c _) j<|by rw[List.length_set];omega,List.getElem_set]
 by_cases e:c=j
 ·subst e;rw[if_pos J,if_pos qf,h.at' hc]
 ·have h1:=h.2 j hj
  rw[getElem!_pos pF j qf] at h1
  rw[if_neg e,h1]
  by_cases h2:j<c
  ·rw[if_pos h2,if_pos qf]
  ·rw[if_neg h2,if_neg qf]
theorem TurnTo.ok{own:yLI}(t:TurnTo m n own pF)(h:OwnTo m n own)(hm:1<=m/\m<=3)(hn:m<=n):OwnDr n pF :=by
 have hl:=h.1
 have tl:=t.1
 refine⟨by omega,m.toNat,by omega,by omega,by omega,fun j hj=>?_,fun q hq=>⟨(m-1-q).toNat,by omega,?_⟩⟩
 ·have h1:=(h.2 j qf).1
  rw[t.2 j qf,if_pos qf]
  omega
 ·rw[t.2 _ qf,if_pos qf,(h.2 _ qf).2 qf]
  omega
theorem OwnTo.ok'{own:yLI}(h:OwnTo m c own)(e:c=n)(hm:1<=m/\m<=3)(hn:m<=n):OwnDr n own:=by subst e;exact h.ok hm hn
theorem TurnTo.ok'{d:Nat}{own:yLI}(t:TurnTo m d own pF)(h:OwnTo m c own)(e:c=n)(e':d=n)(hm:1<=m/\m<=3)(hn:m<=n):OwnDr n pF :=by subst e;subst e';exact t.ok h hm hn
def AllTo(alive:List Bool):Prop:=∀j,j<alive.length->alive[j]! =true
theorem AllTo.nil:AllTo []:=fun j hj=>by simp at hj
theorem AllTo.snoc(h:AllTo alive):AllTo (alive++[true]):=fun j hj=>by
 rw[V6]
 by_cases h1:j<alive.length
 ·rw[if_pos h1];exact h j h1
 ·rw[if_neg h1,if_pos (by simp at hj;omega)]
theorem stDr_of{kk M:Int}{bags:yLL}(h:StTo kk M c alive bags)(e:c=n)(hn:0<n)(hk:0<=kk):StDr kk n M alive bags (List.replicate kk.toNat 0):=by
 subst e
 exact⟨h.la,h.lb,h.skin hn,jD.zero hk qf,h.bags⟩
end
end Go.Proofs.YtghikkinnchndaaGreat
