/- Walks and laws, printed by program and by hand: what each function comes to, for all arguments, part 3. -/
import Derived.Test.YtghikkinnchndaaGreatA2
namespace Go.Proofs.YtghikkinnchndaaGreat
open Go.Proofs.Tryz
set_option linter.unusedVariables false
set_option linter.unusedSimpArgs false
set_option maxRecDepth 100000
set_option maxHeartbeats 4000000
open Go.RowKit
open Go.Proofs.Tryz
open Go.Proofs.YtghikkinnchndaaGreat.Tot (tot)
open Go.Proofs.YtghikkinnchndaaGreat.Mark (dc mrk mkd mkd_mark cnt_mark)
variable{B K N b c g i j k m n nn o off p q sz:Nat}{D M M' iv kk:Int}{F F1 Fl G xN zN:yLN}{L L' Ns:List yLN}{P:Program}{W0 w:World}{X cs xs:List Value}{al qM xm:yOA}{d:zG}{e t ty u:TypeId}{f:Fact}{fr S4:Bool}{l z:yLI}{ps nP:List Prv}{r:yz}{rules:List yz}{s:qJ}{v:Value}{x y:Operand}{Γ Γ' Δ:List Fact}{ρ:Env}
section
variable{qL xh : Nat}
theorem Xj(w:World)(s:qJ)(qZ:zP w xN qM qL s.qA)(xM:zP w zN xm xh s.qB):Calls Tryz.prog 83 #[.agg #[yI s.qQ,Sv qM s.qA.length qL,Sv xm s.qB.length xh]] w (Ret (fun v w'=>v=yI s.qA.length) w):=by
 refine en func83 ntmps83 ?_
 have H:=((St.start w).arg xM).arg qZ
 have vT:=qN qZ
 have jP:=qN xM
 clear qZ xM
 have N:=Fresh.nil w.heap.size
 refine zcr<|sw<|jb H (yS s qM qL xm xh) fun b1 w2 H=>sp (yI 0)<|zjc<|oF J<|oL J (H.cell 0 J J)<|oN J<|sq 1<|zjr<|rH1 (yI s.qA.length) H ?_
 rfl
theorem step_ok(w:World)(s:qJ)(t:qV)(counts:yLI){xK:yOA}{xI:Nat}{vV:yLN}{zB:yOA}{zq:Nat}{jM:yLN}{xC:yOA}{xy:Nat}{zZ:yLN}{eE:yOA}{eo:Nat}{iE:yLN}(qZ:zP w xN qM qL s.qA)(xM:zP w zN xm xh s.qB)(zS:zP w vV xK xI t.qO)(vK:zP w jM zB zq t.qG)(zi:zP w zZ xC xy t.qF)(pe:zP w iE eE eo counts)(p0:jW s)(p1:zA s t)(p2:CntOk s counts)(p3:IsCh s t counts):Calls Tryz.prog 40 #[.agg #[yI s.qQ,Sv qM s.qA.length qL,Sv xm s.qB.length xh],.agg #[Sv xK t.qO.length xI,Sv zB t.qG.length zq,Sv xC t.qF.length xy],Sv eE counts.length eo] w (Ret (fun v w'=>∃(mQ:yOA) (mg:Nat) (nq:Nat) (pA:yOA) (qq:Nat) (pg:Nat) (pn:List Value) (ry:yLN) (kH:yOA) (kt:Nat) (kG:Nat),v=.tuple #[.agg #[Sv mQ mg nq,Sv pA qq pg,Sv kH kt kG],yI ((yR s t counts).2)]/\Fresh w.heap.size [ry]/\St w w' [rr mQ mg nq 4 1 ((((yR s t counts).1).qO).map<|Value.bool),rr pA qq pg 24 1 pn,rr kH kt kG 2 1 ((((yR s t counts).1).qF).map<|Value.int .i64)] [qX true ry pn (((yR s t counts).1).qG)]) w):=by
 refine en func40 ntmps40 ?_
 have H:=((((((St.start w).arg pe).arg zi).arg vK).arg zS).arg xM).arg qZ
 have jP:=qN xM
 have QM:=qN zS
 have Xt:=qN vK
 have Qe:=qN zi
 clear qZ xM zS vK zi pe
 have N:=Fresh.nil w.heap.size
 have p5:=p0.2.1
 have p6:=p2.1
 have p7:=p1.2.1
 have p8:=X8 p0
 have p9:=p0.1.2.1
 have p11:xJ s=s.qA.length:=rfl
 have CS:=p1.1
 have RN:=p0.1
 have p16:=p0.1.1
 refine zcr<|sw<|jb H (yS s qM qL xm xh) fun b1 w2 H=>sw<|jb H (yT t xK xI zB zq xC xy) fun b3 w4 H=>sw<|x8 H ti31 [yN,yN,yN] fun b5 w6 H=>sp (yI 0)<|zjn<|xO<|c_cut (fun ρ z7=>∃(xR:Env) (a7:yOA) (c8:Nat) (L9:List Value) (za:yLN),ρ=upd (upd (upd (upd (upd xR 2<|Sv eE counts.length eo) 3<|pp b1 0) 4<|pp b3 0) 6<|pp b5 0) 8 (Sv a7 (t.qG.length+1) c8)/\Fresh w.heap.size []/\St w z7 [rr a7 (t.qG.length+1) c8 24 1<|L9++[Sv xC t.qF.length xy],.box b5 [yN,yN,yN] 31,.box b3 (yT t xK xI zB zq xC xy) 31,.box b1 (yS s qM qL xm xh) 27] [qX false (za++zZ) (L9++[Sv xC t.qF.length xy])<|t.qG++[t.qF],sF false xN qM qL s.qA,sF false zN xm xh s.qB,sF false vV xK xI t.qO,sF false jM zB zq t.qG,sF false zZ xC xy t.qF,sF false iE eE eo counts]) ?_ ?_
 ·refine QY J H fun H=>tF 0 J J H ?_
  refine tL 1 J J (fun _ h=>h.cell 1 J J) H ?_
  refine tF 3 J J H ?_
  refine tL 4 J J (fun _ h=>h.cell 1 J J) H ?_
  refine jw [2,5] qh qm<|yl J ?_<|yl J ?_ jy
  ·refine oc (cloneSS_ok _ t.qG (H.get 3 J).1 qg) ?_
   rintro _ TC ⟨nQ,aLU,J0,ayD,abg,rfl,ayC,K⟩ _
   replace H:=H.mergeIn K 3 J ayC
   obtain rfl:=H.xf (α:=yLI) 0 rfl 0 rfl qj
   refine⟨H.pick [1,2,3]<|zR 1 6,(ro 5 J<|zH H underlying29 ti24 [Sv xC t.qF.length xy] fun LV Pa H=>⟨H.pick [2,3,4]<|zR 1 6,(ro 6 J<|zQ H 1 J 0 J underlying29 ti24 J qj J J J qw qp qf fun a21 c22 E8 H=>?_)⟩)⟩
   replace H:=H.QK 0 J 5 J
   refine⟨H.pick [2,3,4]<|zR 2 6,(rtl 7 (H.pick [2,3,4]<|zR 2 6) ?_)⟩
   refine xx qh ((meet ⟨_,a21,c22,ayD,abg,uE5,N,H.pick (zR 1 4) (0::zR 2 6)⟩))
  refine zH H underlying29 ti24 [Sv xC t.qF.length xy] fun Gd E4 H=>⟨H.pick [1,2,3]<|zR 0 6,(ro 2 J ?_)⟩
  refine oc (cloneSS_ok _ t.qG (H.get 3 J).1 qg) ?_
  rintro _ Rn ⟨aJ1,axK,adK,aDM,alj,rfl,aBt,K⟩ _
  replace H:=H.mergeIn K 3 J aBt
  obtain rfl:=H.xf (α:=yLI) 0 rfl 0 rfl qj
  refine⟨H.pick [2,3,4]<|zR 1 6,(ro 6 J<|zQ H 0 J 1 J underlying29 ti24 J qj J J J qw qp qf fun a32 c33 WG H=>?_)⟩
  replace H:=H.QK 0 J 5 J
  refine⟨H.pick [2,3,4]<|zR 2 6,(rtl 7 (H.pick [2,3,4]<|zR 2 6) ?_)⟩
  refine xx qh ((meet ⟨_,a32,c33,aDM,alj,uE5,N,H.pick [0,2,3,4] (0::zR 2 6)⟩))
 clear H N
 rintro ρ KW ⟨xR,a7,c8,L9,za,rfl,N,H⟩
 refine t_n<|zcr<|oF J<|oL J (H.cell 3 J J)<|oN J<|sw<|o_makeB H underlying28 ti4 s.qA.length J J qf qf qf fun zv w37 H=>sq 1<|zjcc<|sq 1<|oN J<|sp (yI 0)<|zjn<|xg<|vk ((fun Z0 Z1 Z2 Z3 Z4 Z5 Z6 Z7 Z8=>fun m' ρ Qt=>∃(xR:Env) (i:Nat) (melts:List Bool) (bags:yLL) (dQ:List Value) (eK:yLN),ρ=upd (upd (upd (upd (upd (upd (upd (upd xR 3<|pp b1 0) 4<|pp b3 0) 6<|pp b5 0) 8<|Sv a7 (t.qG.length+1) c8) 9<|Sv (aa zv 0) s.qA.length s.qA.length) 26<|Sv eE counts.length eo) 27<|yI counts.length) 28 (yI i)/\melts=Xi s counts s.qA.length i/\((i:Int)<=counts.length)/\(Ent (s.qA.length+1) (vG s) (fun p q=>base0 s t p q+allS s t counts i p q) (20000000+6000000*i) bags)/\(bags.length=s.qA.length+1)/\m'=(counts.length-(i:Int)).toNat/\Fresh w.heap.size []/\St w Qt [rr (aa zv 0) s.qA.length s.qA.length 4 1<|melts.map<|Value.bool,rr a7 (t.qG.length+1) c8 24 1 dQ,Z0,Z1,Z2] [qX false eK dQ bags,Z3,Z4,Z5,Z6,Z7,Z8]) _ _ _ _ _ _ _ _ _) ((counts.length-(0:Int)).toNat) ⟨_,0,(List.replicate s.qA.length<|false),(t.qG++[t.qF]),L9++[Sv xC t.qF.length xy],(za++zZ),uE8,(by exact meltsL_zero s counts _),qf,(by exact(start_ent p1).to (fun _ _=>rfl) qf),qy,J,N,H⟩ ?_
 clear H N
 rintro m' ρ O1 ⟨xR,i,melts,bags,dQ,eK,rfl,rfl,i0,dR,ad1,rfl,N,H⟩
 have aqY:=H.Vt 0 J
 refine zcr<|sq 1<|zjn<|xO<|cD J (fun rP=>?_)<|fun rP=>?_
 ·have q:=p0.rule (i:=i) qf
  have qc:=q.1
  have qk:=q.cell
  have Jx:=q.2.2.2.2.1
  have LX:=q.2.2.2.2.2.2.2.1
  have EV:=q.2.2.2.2.2.2.2.2.1
  have ln1:=Jx.len
  have ln2:=LX.len
  have ln3:=EV.len
  have p10:=p2.bd (i:=i) qf
  have qn:=q.2.2.2.1
  refine xe<|t_n<|xO<|xg<|zcr<|sp (yI i) ?_
  obtain⟨GN,o42,rfl⟩:=H.addr 6 rfl qf
  refine oI J J<|oL J (H.vM 6 J i qf)<|sp (yI i)<|sq 1<|zjc<|oF J<|oL J (H.cell 4 J J)<|sp (yI i) ?_
  obtain⟨RI,o45,rfl⟩:=H.addr 2 rfl qf
  obtain⟨mN,nr,aqv,m6,m5,ap4,mB,mn,ajd,kg,j6,alw,lB,kT,avB,gZ,io,anz,H⟩:=H.Xd 2 rfl i i qf qf qf
  refine oI J J<|sw<|xW [yI s.qB[i]!.qW,yI s.qB[i]!.yH,Sv mN s.qB[i]!.vg.length nr,Sv m6 s.qB[i]!.jI.length m5,Sv mB s.qB[i]!.jK.length mn,Sv kg s.qB[i]!.jq.length j6,Sv lB s.qB[i]!.Qz.length kT,Sv gZ s.qB[i]!.xn.length io,Bv s.qB[i]!.je] isAgg110 sizeOf110 J (qH (H.get 6 J) 0 9)<|sw<|x8 H ti110 [yI 0,yI 0,yN,yN,yN,yN,yN,yN,Bv false] fun b48 w49 H=>sw<|xZ H 0 [yI s.qB[i]!.qW,yI s.qB[i]!.yH,Sv mN s.qB[i]!.vg.length nr,Sv m6 s.qB[i]!.jI.length m5,Sv mB s.qB[i]!.jK.length mn,Sv kg s.qB[i]!.jq.length j6,Sv lB s.qB[i]!.Qz.length kT,Sv gZ s.qB[i]!.xn.length io,Bv s.qB[i]!.je] sizeOf110 fun w50 H=>(zjn<|xO<|QG J H [0,1,3,4,5] fun H=>?_)
  have S:=H.ve [0,1,3,4,5]<|zR 0 14
  refine rtl 0 S ?_
  refine tF 1 J J S ?_
  refine tL 2 J J (fun _ h=>h.cell 0 J J) S ?_
  refine rtl 3 S ?_
  refine tF 4 J J S ?_
  refine tL 5 J J (fun _ h=>h.cell 0 J J) S ?_
  obtain⟨Rq,rfl⟩:=H.jm 2 rfl qf
  have S:=H.ve [0,1,3,4,5]<|zR 0 14
  refine tI 6 J J J S ?_
  refine tF 8 J J S ?_
  refine tL 9 J J (fun _ h=>h.cell 0 J J) S ?_
  refine rtl 10 S ?_
  refine rt 11 _ (y_neg counts[i]! rfl qf) S ?_
  refine ro 7 J ?_
  obtain⟨a53,c54,G55,s56,h57,H⟩:=H.Qa 2 rfl 7 rfl (iv:=s.qB[i]!.qW) s.qB[i]!.qW.toNat qf qf
  refine zx (Sv a53 ((bags[s.qB[i]!.qW.toNat]!).length) c54) isAgg24 rfl (h57)<|⟨H.pick [0,1,3,4,5]<|zR 1 14,(ro 12 rfl ?_)⟩
  obtain⟨u1,u2⟩:=dR.sh.row (c:=s.qB[i]!.qW.toNat) qf p8 qf
  have u4:=(by exact Jx.jT qf:XG s.qB[i]!.vg (-counts[i]!))
  refine oc (Vy _ (bags[s.qB[i]!.qW.toNat]!) s.qB[i]!.vg (-counts[i]!) (H.get 0 J).1 (H.get 1 J).1 qg qg qg) ?_
  rintro v63 w61 r63 x62
  replace H:=H.zy x62 r63
  obtain⟨a64,c65,rfl,aJz,aJY⟩:=H.jB 0 rfl
  refine⟨H.pick [1,2,4,5,6]<|zR 1 14,(tI 13 J J J (H.pick [1,2,4,5,6]<|zR 1 14) ?_)⟩
  refine ro 14 J ?_
  obtain⟨G69,N,aO7,H⟩:=H.vJ 0 rfl N<|H.XE []
  refine jJ false H 3 J 9 J (Sv a64 ((vX (bags[s.qB[i]!.qW.toNat]!) s.qB[i]!.vg (-counts[i]!)).length) c65) 0 J J sizeOf24 J J (i:=s.qB[i]!.qW.toNat) qf qf qm fun w68 aK0 F72 aPI H=>⟨H.pick [1,2,4,5,6]<|zR 3 14,(xx qh<|t_n<|zcr<|sw<|xW [yI s.qQ,Sv qM s.qA.length qL,Sv (aa RI o45) s.qB.length xh] isAgg27 sizeOf27 J (qH (H.cells 6 J) 0 3) ?_)⟩
  refine sw<|xW (yT t xK xI zB zq xC xy) isAgg31 sizeOf31 J (qH (H.cells 5 J) 0 3)<|sq 1<|sw<|xW [yI s.qB[i]!.qW,yI s.qB[i]!.yH,Sv mN s.qB[i]!.vg.length nr,Sv m6 s.qB[i]!.jI.length m5,Sv mB s.qB[i]!.jK.length mn,Sv kg s.qB[i]!.jq.length j6,Sv lB s.qB[i]!.Qz.length kT,Sv gZ s.qB[i]!.xn.length io,Bv s.qB[i]!.je] isAgg110 sizeOf110 J (qH (H.cells 1 J) 0 9)<|sq 1 ?_
  obtain⟨Nu,Oo⟩:∃z,z=(bags.set s.qB[i]!.qW.toNat (vX (bags[s.qB[i]!.qW.toNat]!) s.qB[i]!.vg (-counts[i]!))):=⟨_,rfl⟩
  rw[←Oo] at H
  have FW:=Ent.add (D:=1000000) dR Oo qf (by exact Jx.mul qf) qf
  have azs:=FW.sh.1
  refine sw<|vF #[.agg #[yI s.qQ,Sv qM s.qA.length qL,Sv (aa RI o45) s.qB.length xh],.agg #[Sv xK t.qO.length xI,Sv zB t.qG.length zq,Sv xC t.qF.length xy],Sv (aa Rq 0) (t.qG.length+1) c8,.agg #[yI s.qB[i]!.qW,yI s.qB[i]!.yH,Sv mN s.qB[i]!.vg.length nr,Sv m6 s.qB[i]!.jI.length m5,Sv mB s.qB[i]!.jK.length mn,Sv kg s.qB[i]!.jq.length j6,Sv lB s.qB[i]!.Qz.length kT,Sv gZ s.qB[i]!.xn.length io,Bv s.qB[i]!.je],yI<|counts[i]!] J J call82<|en func82 ntmps82 ?_
  refine zcr<|sw<|jb H [yI s.qQ,Sv qM s.qA.length qL,Sv (aa RI o45) s.qB.length xh] fun b75 w76 H=>sw<|jb H (yT t xK xI zB zq xC xy) fun b77 w78 H=>sw<|jb H [Sv (aa Rq 0) (t.qG.length+1) c8] fun rz TO H=>(sw<|jb H [yI s.qB[i]!.qW,yI s.qB[i]!.yH,Sv mN s.qB[i]!.vg.length nr,Sv m6 s.qB[i]!.jI.length m5,Sv mB s.qB[i]!.jK.length mn,Sv kg s.qB[i]!.jq.length j6,Sv lB s.qB[i]!.Qz.length kT,Sv gZ s.qB[i]!.xn.length io,Bv s.qB[i]!.je] fun b81 w82 H=>sw<|jb H [yI<|counts[i]!] fun Bc w84 H=>zjc<|sp (.func (.func 130) #[] #[pp rz 0,pp Bc 0])<|sp (.func (.func 130) #[] #[pp rz 0,pp Bc 0])<|zjc<|sp (.func (.func 130) #[] #[pp rz 0,pp Bc 0])<|oF J<|oL J (H.cell 1 J J)<|oF J<|oL J (H.cell 1 J J)<|sw<|vF #[yI s.qB[i]!.qW,Sv kg s.qB[i]!.jq.length j6,pp rz 0,pp Bc 0] J J call130<|en func130 ntmps130 ?_)
  refine QG J H [0,1,2,3,4,5,6,7,9,10,11] fun H=>?_
  have S:=H.ve [0,1,2,3,4,5,6,7,9,10,11]<|zR 0 17
  refine tL 0 J J (fun _ h=>h.cell 2 J J) S ?_
  refine rtl 1 S ?_
  refine tL 2 J J (fun _ h=>h.cell 2 J J) S ?_
  refine rtl 3 S ?_
  refine tI 4 J J J S ?_
  refine rtl 6 S ?_
  refine tL 7 J J (fun _ h=>h.cell 0 J J) S ?_
  refine ro 5 J ?_
  obtain⟨a86,c87,G88,s89,RK,H⟩:=H.Qa 8 rfl 0 rfl (iv:=s.qB[i]!.qW) s.qB[i]!.qW.toNat qf qf
  refine zx (Sv a86 ((Nu[s.qB[i]!.qW.toNat]!).length) c87) isAgg24 rfl (RK)<|⟨H.pick [0,1,2,3,4,5,6,7,9,10,11]<|zR 1 17,(ro 8 rfl ?_)⟩
  obtain⟨u1,u2⟩:=FW.sh.row (c:=s.qB[i]!.qW.toNat) qf p8 qf
  have u4:=(by exact LX.jT qf:XG s.qB[i]!.jq counts[i]!)
  refine oc (Vy _ (Nu[s.qB[i]!.qW.toNat]!) s.qB[i]!.jq counts[i]! (H.get 0 J).1 (H.get 7 J).1 qg qg qg) ?_
  rintro v96 w94 r96 x95
  replace H:=H.zy x95 r96
  obtain⟨a97,c98,rfl,aQx,aHo⟩:=H.jB 0 rfl
  refine⟨H.pick [1,2,3,4,5,6,7,8,10,11,12]<|zR 1 17,(tI 9 J J J (H.pick [1,2,3,4,5,6,7,8,10,11,12]<|zR 1 17) ?_)⟩
  refine ro 10 J ?_
  obtain⟨aM9,N,aEi,H⟩:=H.vJ 0 rfl N<|H.XE [2]
  refine jJ false H 9 J 2 J (Sv a97 ((vX (Nu[s.qB[i]!.qW.toNat]!) s.qB[i]!.jq<|counts[i]!).length) c98) 0 J J sizeOf24 J J (i:=s.qB[i]!.qW.toNat) qf qf qm fun asA YU aoR Mu H=>⟨H.pick [1,2,3,4,5,6,7,8,10,11,12]<|zR 3 17,(xx qh ((ret0 J ⟨_,J,?_⟩)))⟩
  replace H:=H.erases [6,0]
  dsimp only[zL,List.eraseIdx,List.set] at H
  obtain⟨nW,Jm⟩:∃z,z=(Nu.set s.qB[i]!.qW.toNat (vX (Nu[s.qB[i]!.qW.toNat]!) s.qB[i]!.jq counts[i]!)):=⟨_,rfl⟩
  rw[←Jm] at H
  have rp:=Ent.add (D:=1000000) FW Jm qf (by exact LX.mul qf) qf
  have avQ:=rp.sh.1
  refine zjcc<|sw<|xW [yI s.qQ,Sv qM s.qA.length qL,Sv (aa RI o45) s.qB.length xh] isAgg27 sizeOf27 J (qH (H.cells 4 J) 0 3)<|sw<|xW (yT t xK xI zB zq xC xy) isAgg31 sizeOf31 J (qH (H.cells 3 J) 0 3)<|oF J<|oL J (H.cell 1 J J) ?_
  have qc':=qc
  refine sw<|oq (parentNow_ok _ s t s.qB[i]!.qW (H.get 14 J).1 (H.get 15 J).1 (H.get 16 J).1 (H.get 17 J).1 (H.get 18 J).1 qg qg qg) H fun akc H=>?_
  have pl:=parentNow_lt RN p1.2.2.1 qc
  refine sq 1<|zjc<|sq 1<|sp (Bv<|decide ((xY s t (s.qB[i]!.qW):Int)>=0))<|zjn<|cD J (fun z9=>?_)<|fun z9=>?_
  ·have po:=outPl_in (r:=s.qB[i]!) RN ‹_›
   refine zf<|sp (.func (.func 130) #[] #[pp rz 0,pp Bc 0])<|sq 1<|oF J<|oL J (H.cell 1 J J)<|sw<|vF #[yI<|xY s t s.qB[i]!.qW,Sv lB s.qB[i]!.Qz.length kT,pp rz 0,pp Bc 0] J J call130<|en func130 ntmps130 ?_
   refine QG J H [0,1,2,3,4,5,6,8,9,10] fun H=>?_
   have S:=H.ve [0,1,2,3,4,5,6,8,9,10]<|zR 0 20
   refine tL 0 J J (fun _ h=>h.cell 2 J J) S ?_
   refine rtl 1 S ?_
   refine tL 2 J J (fun _ h=>h.cell 2 J J) S ?_
   refine rtl 3 S ?_
   refine tI 4 J J J S ?_
   refine rtl 6 S ?_
   refine tL 7 J J (fun _ h=>h.cell 0 J J) S ?_
   refine ro 5 J ?_
   obtain⟨ayu,aAJ,K3,aN8,Nc,H⟩:=H.Qa 7 rfl 0 rfl (iv:=xY s t s.qB[i]!.qW) ((xY s t s.qB[i]!.qW).toNat) qf qf
   refine zx (Sv ayu ((nW[(xY s t s.qB[i]!.qW).toNat]!).length) aAJ) isAgg24 rfl (Nc)<|⟨H.pick [0,1,2,3,4,5,6,8,9,10]<|zR 1 20,(ro 8 rfl ?_)⟩
   obtain⟨u1,u2⟩:=rp.sh.row (c:=(xY s t s.qB[i]!.qW).toNat) qf p8 qf
   have u4:=(by exact EV.jT qf:XG s.qB[i]!.Qz counts[i]!)
   refine oc (Vy _ (nW[(xY s t s.qB[i]!.qW).toNat]!) s.qB[i]!.Qz counts[i]! (H.get 0 J).1 (H.get 11 J).1 qg qg qg) ?_
   rintro aQo Q1 ayx aAq
   replace H:=H.zy aAq ayx
   obtain⟨Uw,R2,rfl,aEx,aGT⟩:=H.jB 0 rfl
   refine⟨H.pick [1,2,3,4,5,6,7,9,10,11]<|zR 1 20,(tI 9 J J J (H.pick [1,2,3,4,5,6,7,9,10,11]<|zR 1 20) ?_)⟩
   refine ro 10 J ?_
   obtain⟨aO6,N,aE3,H⟩:=H.vJ 0 rfl N<|H.XE [2,5]
   refine jJ false H 8 J 2 J (Sv Uw ((vX (nW[(xY s t s.qB[i]!.qW).toNat]!) s.qB[i]!.Qz<|counts[i]!).length) R2) 0 J J sizeOf24 J J (i:=((xY s t s.qB[i]!.qW).toNat)) qf qf qm fun TF NL ac4 WD H=>⟨H.pick [1,2,3,4,5,6,7,9,10,11]<|zR 3 20,(xx qh ((ret0 J ⟨_,J,?_⟩)))⟩
   replace H:=H.erases [0]
   dsimp only[zL,List.eraseIdx,List.set] at H
   obtain⟨al6,Hl⟩:∃z,z=(nW.set ((xY s t s.qB[i]!.qW).toNat) (vX (nW[(xY s t s.qB[i]!.qW).toNat]!) s.qB[i]!.Qz counts[i]!)):=⟨_,rfl⟩
   rw[←Hl] at H
   have I1:=Ent.add (D:=1000000) rp Hl qf (by exact EV.mul qf) qf
   have avP:=I1.sh.1
   have ed:=I1
   refine zjc<|oF J<|oL J (H.cell 1 J J)<|oN J<|sp (yI 0)<|zjn<|xg<|vk ((fun Z0 Z1 Z2 Z3 Z4 Z5 Z6 Z7 Z8 Z9 dU eC fe fR gB ij nc pN rN wk wd Bm Bl FF Lm=>fun m' ρ aoS=>∃(xR:Env) (k:Nat) (bD:yLL) (X4:List Value) (Vb:yLN),ρ=upd (upd (upd (upd xR 10<|.func (.func 130) #[] #[pp rz 0,pp Bc 0]) 40<|Sv gZ s.qB[i]!.xn.length io) 41<|yI s.qB[i]!.xn.length) 42 (yI k)/\((k:Int)<=s.qB[i]!.xn.length)/\(Ent (s.qA.length+1) (vG s) (fun p q=>base0 s t p q+allS s t counts i p q+at' p s.qB[i]!.qW.toNat (-counts[i]!*(s.qB[i]!.vg)[q]!)+at' p s.qB[i]!.qW.toNat (counts[i]!*(s.qB[i]!.jq)[q]!)+at' p (outPl s t<|s.qB[i]!) (counts[i]!*(s.qB[i]!.Qz)[q]!)+intoF s.qB[i]! counts[i]! k p q) (23000000+6000000*i+1000000*k) bD)/\(bD.length=s.qA.length+1)/\m'=((s.qB[i]!.xn.length)-(k:Int)).toNat/\Fresh w.heap.size [G69]/\St w aoS [Z0,Z1,Z2,Z3,Z4,Z5,Z6,rr (aa Rq 0) (t.qG.length+1) c8 24 1 X4,Z7,Z8,Z9] [qX false Vb X4 bD,dU,eC,fe,fR,gB,ij,nc,pN,rN,wk,wd,Bm,Bl,FF,Lm]) _ _ _ _ _ _ _ _ _ _ _ _ _ _ _ _ _ _ _ _ _ _ _ _ _) (((s.qB[i]!.xn.length)-(0:Int)).toNat) ⟨_,0,al6,NL,ac4,uE4,qf,(by exact ed.to (fun p q=>by rw[po];simp only[intoF];omega) qf),qf,J,(N.pick [2]),H.pick (zR 0 11) [0,7,8,9,10,11,12,13,14,15,17,18,19,20,21,22]⟩ ?_
   clear H N
   rintro m' ρ PA ⟨xR,k,bD,X4,Vb,rfl,i0,cv,uX,rfl,N,H⟩
   refine zcr<|sq 1<|zjn<|xO<|cD J (fun aBR=>?_)<|fun aBR=>?_
   ·have qi:=q.2.2.2.2.2.2.2.2.2.2 k qf
    have qi1:=qi.1
    have un:=qi.2.2.1
    have ln4:=un.len
    refine xe<|t_n<|xO<|xg<|zcr ?_
    obtain⟨aMY,aOc,rfl⟩:=H.addr 8 rfl qf
    obtain⟨uS,vA,aqb,H⟩:=H.Qr 8 rfl k k qf qf qf
    refine oI J J<|sw<|xW [yI (((s.qB[i]!.xn)[k]!).qW),Sv uS ((((s.qB[i]!.xn)[k]!).Xc).length) vA] isAgg161 sizeOf161 J (qH (H.get 1 J) 0 2)<|sw<|x8 H ti161 [yI 0,yN] fun JH aC1 H=>sw<|xZ H 0 [yI (((s.qB[i]!.xn)[k]!).qW),Sv uS ((((s.qB[i]!.xn)[k]!).Xc).length) vA] sizeOf161 fun acn H=>zjn<|zf<|sp (.func (.func 130) #[] #[pp rz 0,pp Bc 0])<|oF J<|oL J (H.cell 0 J J)<|oF J<|oL J (H.cell 0 J J)<|sw<|vF #[yI (((s.qB[i]!.xn)[k]!).qW),Sv uS ((((s.qB[i]!.xn)[k]!).Xc).length) vA,pp rz 0,pp Bc 0] J J call130<|en func130 ntmps130 ?_
    refine QG J H [0,1,2,3,4,5,6,7,9,10,11] fun H=>?_
    have S:=H.ve [0,1,2,3,4,5,6,7,9,10,11]<|zR 0 18
    refine tL 0 J J (fun _ h=>h.cell 3 J J) S ?_
    refine rtl 1 S ?_
    refine tL 2 J J (fun _ h=>h.cell 3 J J) S ?_
    refine rtl 3 S ?_
    refine tI 4 J J J S ?_
    refine rtl 6 S ?_
    refine tL 7 J J (fun _ h=>h.cell 1 J J) S ?_
    refine ro 5 J ?_
    obtain⟨a146,awT,apG,aQt,ay1,H⟩:=H.Qa 8 rfl 2 rfl (iv:=((s.qB[i]!.xn)[k]!).qW) ((((s.qB[i]!.xn)[k]!).qW).toNat) qf qf
    refine zx (Sv a146 ((bD[(((s.qB[i]!.xn)[k]!).qW).toNat]!).length) awT) isAgg24 rfl (ay1)<|⟨H.pick [0,1,2,3,4,5,6,7,9,10,11]<|zR 1 18,(ro 8 rfl ?_)⟩
    obtain⟨u1,u2⟩:=cv.sh.row (c:=(((s.qB[i]!.xn)[k]!).qW).toNat) qf p8 qf
    have u4:=(by exact un.jT qf:XG (((s.qB[i]!.xn)[k]!).Xc) counts[i]!)
    refine oc (Vy _ (bD[(((s.qB[i]!.xn)[k]!).qW).toNat]!) (((s.qB[i]!.xn)[k]!).Xc) counts[i]! (H.get 0 J).1 (H.get 1 J).1 qg qg qg) ?_
    rintro aI0 RV awx ayU
    replace H:=H.zy ayU awx
    obtain⟨acH,aew,rfl,aES,aIx⟩:=H.jB 0 rfl
    refine⟨H.pick [1,2,3,4,5,6,7,8,10,11,12]<|zR 1 18,(tI 9 J J J (H.pick [1,2,3,4,5,6,7,8,10,11,12]<|zR 1 18) ?_)⟩
    refine ro 10 J ?_
    obtain⟨aNf,N,aId,H⟩:=H.vJ 0 rfl N<|H.XE [4]
    refine jJ false H 9 J 4 J (Sv acH ((vX (bD[(((s.qB[i]!.xn)[k]!).qW).toNat]!) (((s.qB[i]!.xn)[k]!).Xc)<|counts[i]!).length) aew) 0 J J sizeOf24 J J (i:=((((s.qB[i]!.xn)[k]!).qW).toNat)) qf qf qm fun abQ aH3 aM6 aF3 H=>⟨H.pick [1,2,3,4,5,6,7,8,10,11,12]<|zR 3 18,(xx qh ((ret0 J ⟨_,J,?_⟩)))⟩
    replace H:=H.erases [0]
    dsimp only[zL,List.eraseIdx,List.set] at H
    obtain⟨aFW,ID⟩:∃z,z=(bD.set ((((s.qB[i]!.xn)[k]!).qW).toNat) (vX (bD[(((s.qB[i]!.xn)[k]!).qW).toNat]!) (((s.qB[i]!.xn)[k]!).Xc) counts[i]!)):=⟨_,rfl⟩
    rw[←ID] at H
    have Ir:=Ent.add (D:=1000000) cv ID qf (by exact un.mul qf) qf
    have auU:=Ir.sh.1
    have ed:=Ir
    refine xX<|b_n<|t_n<|zf<|sw<|zY k 1 J J qf<|sq 1<|xX<|xu (m':=((s.qB[i]!.xn.length)-((k+1):Int)).toNat) qf ⟨_,k+1,_,_,_,uE4,?_,?_,?_,J,(N.pick [1]),H.pick (zR 1 11) (0::zR 6 15)⟩
    ·omega
    ·exact ed.to (fun p q=>by simp only[intoF];omega) qf
    ·omega
   refine c_exit<|t_x<|t_x<|b_x<|ret0 J ⟨_,J,?_⟩
   replace H:=H.erases [4,3,2,1,0]
   dsimp only[zL,List.eraseIdx,List.set] at H
   refine zjn<|QG J H [0,2,3,4,5] fun H=>?_
   have S:=H.ve [0,2,3,4,5]<|zR 0 16
   refine rtl 0 S ?_
   refine tF 1 J J S ?_
   refine tL 2 J J (fun _ h=>h.cell 0 J J) S ?_
   refine rtl 3 S ?_
   refine tF 4 J J S ?_
   refine tL 5 J J (fun _ h=>h.cell 0 J J) S ?_
   refine tI 6 J J J S ?_
   refine ro 7 rfl<|zx (Bv ((Xi s counts s.qA.length i)[s.qB[i]!.qW.toNat]!)) isAgg4 rfl (H.rowBool 1 rfl (iv:=s.qB[i]!.qW) (i:=s.qB[i]!.qW.toNat) qf qf)<|⟨H.pick [0,2,3,4,5]<|zR 0 16,(rtp 8 (Bv ((Xi s counts s.qA.length i)[s.qB[i]!.qW.toNat]!)) (H.pick [0,2,3,4,5]<|zR 0 16) ?_)⟩
   cases h169:((Xi s counts s.qA.length i)[s.qB[i]!.qW.toNat]!)
   ·have S:=H.ve [0,2,3,4,5] (zR 0 16)
    refine rgl 9 66 S ?_
    refine rgp 10 (Bv<|decide ((counts[i]! :Int)>0)) 66 S ?_
    refine rgp 11 (Bv<|decide ((counts[i]! :Int)>0)) 66 S ?_
    cases UA:(decide ((counts[i]! :Int)>0))
    ·replace UA:=of_decide_eq_false UA
     refine vC [12,13] 2 (H.pick [0,2,3,4,5]<|zR 0 16) ?_
     have S:=H.ve [0,2,3,4,5]<|zR 0 16
     refine rgp 14 (Bv false) 66 S ?_
     refine rtp 15 (Bv false) S ?_
     refine tI 16 J J J S ?_
     refine ro 17 J<|XI H 1 J false sizeOf4 J J (i:=s.qB[i]!.qW.toNat) qf qf fun asd H=>⟨H.pick [0,2,3,4,5]<|zR 0 16,(xx qh<|b_n<|t_n<|zf<|sw<|zY i 1 J J qf<|sq 1<|xX<|xu (m':=(counts.length-((i+1):Int)).toNat) qf ⟨_,i+1,_,_,_,_,uE8,?_,?_,?_,?_,J,(N.pick []),H.pick (zR 1 5) (0::zR 10 6)⟩)⟩
     ·exact meltsL_2 qf qf ‹_› qf
     ·omega
     ·exact cv.to (fun p q=>by rw[show k=s.qB[i]!.xn.length by omega];simp only[allS,needF,putF];omega) qf
     ·omega
    replace UA:=of_decide_eq_true UA
    have S:=H.ve [0,2,3,4,5]<|zR 0 16
    refine gF 12 J J S ?_
    refine gL 13 J J (fun _ h=>h.cell 0 J J) S ?_
    refine rgl 14 66 S ?_
    refine rtl 15 S ?_
    refine tI 16 J J J S ?_
    refine ro 17 J<|XI H 1 J s.qB[i]!.je sizeOf4 J J (i:=s.qB[i]!.qW.toNat) qf qf fun aeG H=>⟨H.pick [0,2,3,4,5]<|zR 0 16,(xx qh<|b_n<|t_n<|zf<|sw<|zY i 1 J J qf<|sq 1<|xX<|xu (m':=(counts.length-((i+1):Int)).toNat) qf ⟨_,i+1,_,_,_,_,uE8,?_,?_,?_,?_,J,(N.pick []),H.pick (zR 1 5) (0::zR 10 6)⟩)⟩
    ·exact meltsL_3 qf qf ‹_› qf
    ·omega
    ·exact cv.to (fun p q=>by rw[show k=s.qB[i]!.xn.length by omega];simp only[allS,needF,putF];omega) qf
    ·omega
   refine vC (zR 9 6) 6 (H.pick [0,2,3,4,5]<|zR 0 16) ?_
   have S:=H.ve [0,2,3,4,5]<|zR 0 16
   refine rtp 15 (Bv true) S ?_
   refine tI 16 J J J S ?_
   refine ro 17 J<|XI H 1 J true sizeOf4 J J (i:=s.qB[i]!.qW.toNat) qf qf fun aJw H=>⟨H.pick [0,2,3,4,5]<|zR 0 16,(xx qh<|b_n<|t_n<|zf<|sw<|zY i 1 J J qf<|sq 1<|xX<|xu (m':=(counts.length-((i+1):Int)).toNat) qf ⟨_,i+1,_,_,_,_,uE8,?_,?_,?_,?_,J,(N.pick []),H.pick (zR 1 5) (0::zR 10 6)⟩)⟩
   ·exact meltsL_1 qf qf ‹_›
   ·omega
   ·exact cv.to (fun p q=>by rw[show k=s.qB[i]!.xn.length by omega];simp only[allS,needF,putF];omega) qf
   ·omega
  have po:=outPl_out (r:=s.qB[i]!) RN p1.2.2.1 qc qf
  refine QG J H [0,1,2,3,4,5,6,8,9,10] fun H=>?_
  have S:=H.ve [0,1,2,3,4,5,6,8,9,10]<|zR 0 20
  refine rtp 0 (.func (.func 130) #[] #[pp rz 0,pp Bc 0]) S ?_
  refine rt 1 _ (yP (cs:=[yI s.qQ,Sv qM s.qA.length qL,Sv (aa RI o45) s.qB.length xh]) isAgg27 sizeOf27 J<|fun _ h=>qH (h.cells 4 J) 0 3) S ?_
  refine tF 3 J J S ?_
  refine tL 4 J J (fun _ h=>h.cell 1 J J) S ?_
  refine ro 2 J<|oq (Xj _ s (H.get 14 J).1 (H.get 15 J).1) H fun ape H=>⟨H.pick [0,1,2,3,4,5,6,8,9,10]<|zR 0 20,(ro 5 J<|vF #[yI s.qA.length,Sv lB s.qB[i]!.Qz.length kT,pp rz 0,pp Bc 0] J J call130<|en func130 ntmps130 ?_)⟩
  refine QG J H [0,1,2,3,4,5,6,8,9,10] fun H=>?_
  have S:=H.ve [0,1,2,3,4,5,6,8,9,10]<|zR 0 20
  refine tL 0 J J (fun _ h=>h.cell 2 J J) S ?_
  refine rtl 1 S ?_
  refine tL 2 J J (fun _ h=>h.cell 2 J J) S ?_
  refine rtl 3 S ?_
  refine tI 4 J J J S ?_
  refine rtl 6 S ?_
  refine tL 7 J J (fun _ h=>h.cell 0 J J) S ?_
  refine ro 5 J ?_
  obtain⟨awp,aCa,aQG,aKi,aB5,H⟩:=H.Qa 7 rfl 0 rfl (iv:=s.qA.length) s.qA.length qf qf
  refine zx (Sv awp nW[s.qA.length]!.length aCa) isAgg24 rfl (aB5)<|⟨H.pick [0,1,2,3,4,5,6,8,9,10]<|zR 1 20,(ro 8 rfl ?_)⟩
  obtain⟨u1,u2⟩:=rp.sh.row (c:=s.qA.length) qf p8 qf
  have u4:=(by exact EV.jT qf:XG s.qB[i]!.Qz counts[i]!)
  refine oc (Vy _ nW[s.qA.length]! s.qB[i]!.Qz counts[i]! (H.get 0 J).1 (H.get 11 J).1 qg qg qg) ?_
  rintro aJ7 aBk avZ aB7
  replace H:=H.zy aB7 avZ
  obtain⟨aAm,ayo,rfl,aEd,aGs⟩:=H.jB 0 rfl
  refine⟨H.pick [1,2,3,4,5,6,7,9,10,11]<|zR 1 20,(tI 9 J J J (H.pick [1,2,3,4,5,6,7,9,10,11]<|zR 1 20) ?_)⟩
  refine ro 10 J ?_
  obtain⟨aeB,N,aFh,H⟩:=H.vJ 0 rfl N<|H.XE [2,5]
  refine jJ false H 8 J 2 J (Sv aAm ((vX nW[s.qA.length]! s.qB[i]!.Qz<|counts[i]!).length) ayo) 0 J J sizeOf24 J J (i:=s.qA.length) qf qf qm fun azz ama Lc aEz H=>⟨H.pick [1,2,3,4,5,6,7,9,10,11]<|zR 3 20,(xx qh ((ret0 J ⟨_,J,?_⟩)))⟩
  replace H:=H.erases [0]
  dsimp only[zL,List.eraseIdx,List.set] at H
  obtain⟨ajm,H8⟩:∃z,z=(nW.set s.qA.length (vX nW[s.qA.length]! s.qB[i]!.Qz counts[i]!)):=⟨_,rfl⟩
  rw[←H8] at H
  have Id:=Ent.add (D:=1000000) rp H8 qf (by exact EV.mul qf) qf
  have avs:=Id.sh.1
  have ed:=Id
  refine⟨H.pick [0,1,2,3,4,5,6,8,9,10]<|zR 3 20,(xx qh<|t_n<|zcr<|oF J<|oL J (H.cell 1 J J)<|oN J<|sp (yI 0)<|zjn<|xg ?_)⟩
  refine vk ((fun Z0 Z1 Z2 Z3 Z4 Z5 Z6 Z7 Z8 Z9 dU eC fe fR gB ij nc pN rN wk wd Bm Bl FF Lm=>fun m' ρ aA0=>∃(xR:Env) (k:Nat) (bD:yLL) (X4:List Value) (Vb:yLN),ρ=upd (upd (upd (upd xR 10<|.func (.func 130) #[] #[pp rz 0,pp Bc 0]) 40<|Sv gZ s.qB[i]!.xn.length io) 41<|yI s.qB[i]!.xn.length) 42 (yI k)/\((k:Int)<=s.qB[i]!.xn.length)/\(Ent (s.qA.length+1) (vG s) (fun p q=>base0 s t p q+allS s t counts i p q+at' p s.qB[i]!.qW.toNat (-counts[i]!*(s.qB[i]!.vg)[q]!)+at' p s.qB[i]!.qW.toNat (counts[i]!*(s.qB[i]!.jq)[q]!)+at' p (outPl s t<|s.qB[i]!) (counts[i]!*(s.qB[i]!.Qz)[q]!)+intoF s.qB[i]! counts[i]! k p q) (23000000+6000000*i+1000000*k) bD)/\(bD.length=s.qA.length+1)/\m'=((s.qB[i]!.xn.length)-(k:Int)).toNat/\Fresh w.heap.size [G69]/\St w aA0 [Z0,Z1,Z2,Z3,Z4,Z5,Z6,rr (aa Rq 0) (t.qG.length+1) c8 24 1 X4,Z7,Z8,Z9] [qX false Vb X4 bD,dU,eC,fe,fR,gB,ij,nc,pN,rN,wk,wd,Bm,Bl,FF,Lm]) _ _ _ _ _ _ _ _ _ _ _ _ _ _ _ _ _ _ _ _ _ _ _ _ _) (((s.qB[i]!.xn.length)-(0:Int)).toNat) ⟨_,0,ajm,ama,Lc,uE4,qf,(by exact ed.to (fun p q=>by rw[po];simp only[intoF];omega) qf),qf,J,(N.pick [2]),H.pick (zR 0 11) [0,7,8,9,10,11,12,13,14,15,17,18,19,20,21,22]⟩ ?_
  clear H N
  rintro m' ρ aAK ⟨xR,k,bD,X4,Vb,rfl,i0,cv,uX,rfl,N,H⟩
  refine zcr<|sq 1<|zjn<|xO<|cD J (fun abZ=>?_)<|fun abZ=>?_
  ·have qi:=q.2.2.2.2.2.2.2.2.2.2 k qf
   have qi1:=qi.1
   have un:=qi.2.2.1
   have ln4:=un.len
   refine xe<|t_n<|xO<|xg<|zcr ?_
   obtain⟨aJS,aKS,rfl⟩:=H.addr 8 rfl qf
   obtain⟨xi,uB,asX,H⟩:=H.Qr 8 rfl k k qf qf qf
   refine oI J J<|sw<|xW [yI (((s.qB[i]!.xn)[k]!).qW),Sv xi ((((s.qB[i]!.xn)[k]!).Xc).length) uB] isAgg161 sizeOf161 J (qH (H.get 1 J) 0 2)<|sw<|x8 H ti161 [yI 0,yN] fun aKT ay9 H=>sw<|xZ H 0 [yI (((s.qB[i]!.xn)[k]!).qW),Sv xi ((((s.qB[i]!.xn)[k]!).Xc).length) uB] sizeOf161 fun aCM H=>zjn<|zf<|sp (.func (.func 130) #[] #[pp rz 0,pp Bc 0])<|oF J<|oL J (H.cell 0 J J)<|oF J<|oL J (H.cell 0 J J)<|sw<|vF #[yI (((s.qB[i]!.xn)[k]!).qW),Sv xi ((((s.qB[i]!.xn)[k]!).Xc).length) uB,pp rz 0,pp Bc 0] J J call130<|en func130 ntmps130 ?_
   refine QG J H [0,1,2,3,4,5,6,7,9,10,11] fun H=>?_
   have S:=H.ve [0,1,2,3,4,5,6,7,9,10,11]<|zR 0 18
   refine tL 0 J J (fun _ h=>h.cell 3 J J) S ?_
   refine rtl 1 S ?_
   refine tL 2 J J (fun _ h=>h.cell 3 J J) S ?_
   refine rtl 3 S ?_
   refine tI 4 J J J S ?_
   refine rtl 6 S ?_
   refine tL 7 J J (fun _ h=>h.cell 1 J J) S ?_
   refine ro 5 J ?_
   obtain⟨ayZ,aCv,aQY,aMK,aCC,H⟩:=H.Qa 8 rfl 2 rfl (iv:=((s.qB[i]!.xn)[k]!).qW) ((((s.qB[i]!.xn)[k]!).qW).toNat) qf qf
   refine zx (Sv ayZ ((bD[(((s.qB[i]!.xn)[k]!).qW).toNat]!).length) aCv) isAgg24 rfl (aCC)<|⟨H.pick [0,1,2,3,4,5,6,7,9,10,11]<|zR 1 18,(ro 8 rfl ?_)⟩
   obtain⟨u1,u2⟩:=cv.sh.row (c:=(((s.qB[i]!.xn)[k]!).qW).toNat) qf p8 qf
   have u4:=(by exact un.jT qf:XG (((s.qB[i]!.xn)[k]!).Xc) counts[i]!)
   refine oc (Vy _ (bD[(((s.qB[i]!.xn)[k]!).qW).toNat]!) (((s.qB[i]!.xn)[k]!).Xc) counts[i]! (H.get 0 J).1 (H.get 1 J).1 qg qg qg) ?_
   rintro aPc aiu awj aAh
   replace H:=H.zy aAh awj
   obtain⟨axB,aBV,rfl,ai4,aHL⟩:=H.jB 0 rfl
   refine⟨H.pick [1,2,3,4,5,6,7,8,10,11,12]<|zR 1 18,(tI 9 J J J (H.pick [1,2,3,4,5,6,7,8,10,11,12]<|zR 1 18) ?_)⟩
   refine ro 10 J ?_
   obtain⟨aL1,N,aGQ,H⟩:=H.vJ 0 rfl N<|H.XE [4]
   refine jJ false H 9 J 4 J (Sv axB ((vX (bD[(((s.qB[i]!.xn)[k]!).qW).toNat]!) (((s.qB[i]!.xn)[k]!).Xc)<|counts[i]!).length) aBV) 0 J J sizeOf24 J J (i:=((((s.qB[i]!.xn)[k]!).qW).toNat)) qf qf qm fun awm aGV aPK aG8 H=>⟨H.pick [1,2,3,4,5,6,7,8,10,11,12]<|zR 3 18,(xx qh ((ret0 J ⟨_,J,?_⟩)))⟩
   replace H:=H.erases [0]
   dsimp only[zL,List.eraseIdx,List.set] at H
   obtain⟨aHr,G0⟩:∃z,z=(bD.set ((((s.qB[i]!.xn)[k]!).qW).toNat) (vX (bD[(((s.qB[i]!.xn)[k]!).qW).toNat]!) (((s.qB[i]!.xn)[k]!).Xc) counts[i]!)):=⟨_,rfl⟩
   rw[←G0] at H
   have Hn:=Ent.add (D:=1000000) cv G0 qf (by exact un.mul qf) qf
   have at0:=Hn.sh.1
   have ed:=Hn
   refine xX<|b_n<|t_n<|zf<|sw<|zY k 1 J J qf<|sq 1<|xX<|xu (m':=((s.qB[i]!.xn.length)-((k+1):Int)).toNat) qf ⟨_,k+1,_,_,_,uE4,?_,?_,?_,J,(N.pick [1]),H.pick (zR 1 11) (0::zR 6 15)⟩
   ·omega
   ·exact ed.to (fun p q=>by simp only[intoF];omega) qf
   ·omega
  refine c_exit<|t_x<|t_x<|b_x<|ret0 J ⟨_,J,?_⟩
  replace H:=H.erases [4,3,2,1,0]
  dsimp only[zL,List.eraseIdx,List.set] at H
  refine zjn<|QG J H [0,2,3,4,5] fun H=>?_
  have S:=H.ve [0,2,3,4,5]<|zR 0 16
  refine rtl 0 S ?_
  refine tF 1 J J S ?_
  refine tL 2 J J (fun _ h=>h.cell 0 J J) S ?_
  refine rtl 3 S ?_
  refine tF 4 J J S ?_
  refine tL 5 J J (fun _ h=>h.cell 0 J J) S ?_
  refine tI 6 J J J S ?_
  refine ro 7 rfl<|zx (Bv ((Xi s counts s.qA.length i)[s.qB[i]!.qW.toNat]!)) isAgg4 rfl (H.rowBool 1 rfl (iv:=s.qB[i]!.qW) (i:=s.qB[i]!.qW.toNat) qf qf)<|⟨H.pick [0,2,3,4,5]<|zR 0 16,(rtp 8 (Bv ((Xi s counts s.qA.length i)[s.qB[i]!.qW.toNat]!)) (H.pick [0,2,3,4,5]<|zR 0 16) ?_)⟩
  cases h235:((Xi s counts s.qA.length i)[s.qB[i]!.qW.toNat]!)
  ·have S:=H.ve [0,2,3,4,5] (zR 0 16)
   refine rgl 9 66 S ?_
   refine rgp 10 (Bv<|decide ((counts[i]! :Int)>0)) 66 S ?_
   refine rgp 11 (Bv<|decide ((counts[i]! :Int)>0)) 66 S ?_
   cases SF:(decide ((counts[i]! :Int)>0))
   ·replace SF:=of_decide_eq_false SF
    refine vC [12,13] 2 (H.pick [0,2,3,4,5]<|zR 0 16) ?_
    have S:=H.ve [0,2,3,4,5]<|zR 0 16
    refine rgp 14 (Bv false) 66 S ?_
    refine rtp 15 (Bv false) S ?_
    refine tI 16 J J J S ?_
    refine ro 17 J<|XI H 1 J false sizeOf4 J J (i:=s.qB[i]!.qW.toNat) qf qf fun ax3 H=>⟨H.pick [0,2,3,4,5]<|zR 0 16,(xx qh<|b_n<|t_n<|zf<|sw<|zY i 1 J J qf<|sq 1<|xX<|xu (m':=(counts.length-((i+1):Int)).toNat) qf ⟨_,i+1,_,_,_,_,uE8,?_,?_,?_,?_,J,(N.pick []),H.pick (zR 1 5) (0::zR 10 6)⟩)⟩
    ·exact meltsL_2 qf qf ‹_› qf
    ·omega
    ·exact cv.to (fun p q=>by rw[show k=s.qB[i]!.xn.length by omega];simp only[allS,needF,putF];omega) qf
    ·omega
   replace SF:=of_decide_eq_true SF
   have S:=H.ve [0,2,3,4,5]<|zR 0 16
   refine gF 12 J J S ?_
   refine gL 13 J J (fun _ h=>h.cell 0 J J) S ?_
   refine rgl 14 66 S ?_
   refine rtl 15 S ?_
   refine tI 16 J J J S ?_
   refine ro 17 J<|XI H 1 J s.qB[i]!.je sizeOf4 J J (i:=s.qB[i]!.qW.toNat) qf qf fun aLz H=>⟨H.pick [0,2,3,4,5]<|zR 0 16,(xx qh<|b_n<|t_n<|zf<|sw<|zY i 1 J J qf<|sq 1<|xX<|xu (m':=(counts.length-((i+1):Int)).toNat) qf ⟨_,i+1,_,_,_,_,uE8,?_,?_,?_,?_,J,(N.pick []),H.pick (zR 1 5) (0::zR 10 6)⟩)⟩
   ·exact meltsL_3 qf qf ‹_› qf
   ·omega
   ·exact cv.to (fun p q=>by rw[show k=s.qB[i]!.xn.length by omega];simp only[allS,needF,putF];omega) qf
   ·omega
  refine vC (zR 9 6) 6 (H.pick [0,2,3,4,5]<|zR 0 16) ?_
  have S:=H.ve [0,2,3,4,5]<|zR 0 16
  refine rtp 15 (Bv true) S ?_
  refine tI 16 J J J S ?_
  refine ro 17 J<|XI H 1 J true sizeOf4 J J (i:=s.qB[i]!.qW.toNat) qf qf fun ajK H=>⟨H.pick [0,2,3,4,5]<|zR 0 16,(xx qh<|b_n<|t_n<|zf<|sw<|zY i 1 J J qf<|sq 1<|xX<|xu (m':=(counts.length-((i+1):Int)).toNat) qf ⟨_,i+1,_,_,_,_,uE8,?_,?_,?_,?_,J,(N.pick []),H.pick (zR 1 5) (0::zR 10 6)⟩)⟩
  ·exact meltsL_1 qf qf ‹_›
  ·omega
  ·exact cv.to (fun p q=>by rw[show k=s.qB[i]!.xn.length by omega];simp only[allS,needF,putF];omega) qf
  ·omega
 refine zx4<|xO ?_
 obtain⟨rI,rfl⟩:=H.jm 1 rfl qf
 refine c_cut (fun ρ Ut=>∃(xR:Env) (Fh:Nat) (im:yOA) (ir:Nat) (kq:yOA) (hY:Nat) (iA:yOA) (iJ:Nat) (Ia:List Value) (Jc:yLN),ρ=upd (upd (upd (upd xR 3<|pp b1 0) 6<|pp b5 0) 9<|Sv (aa zv 0) s.qA.length s.qA.length) 13 (pp Fh 0)/\Fresh w.heap.size [Jc]/\St w Ut [.box Fh [Sv im (((⟨t.qO,(bags.take s.qA.length),bags[s.qA.length]!⟩:qV).qO).length) ir,Sv kq (((⟨t.qO,(bags.take s.qA.length),bags[s.qA.length]!⟩:qV).qG).length) hY,Sv iA (((⟨t.qO,(bags.take s.qA.length),bags[s.qA.length]!⟩:qV).qF).length) iJ] 31,rr im (((⟨t.qO,(bags.take s.qA.length),bags[s.qA.length]!⟩:qV).qO).length) ir 4 1 (((⟨t.qO,(bags.take s.qA.length),bags[s.qA.length]!⟩:qV).qO).map<|Value.bool),rr kq (((⟨t.qO,(bags.take s.qA.length),bags[s.qA.length]!⟩:qV).qG).length) hY 24 1 Ia,rr iA (((⟨t.qO,(bags.take s.qA.length),bags[s.qA.length]!⟩:qV).qF).length) iJ 2 1 (((⟨t.qO,(bags.take s.qA.length),bags[s.qA.length]!⟩:qV).qF).map<|Value.int .i64),rr (aa zv 0) s.qA.length s.qA.length 4 1 ((Xi s counts s.qA.length i).map<|Value.bool),rr none 0 0 0 1 [],.box b5 [yN,yN,yN] 31,.box b3 (yT t xK xI zB zq xC xy) 31,.box b1 (yS s qM qL xm xh) 27] [qX true Jc Ia ((⟨t.qO,(bags.take s.qA.length),bags[s.qA.length]!⟩:qV).qG),sF false xN qM qL s.qA,sF false zN xm xh s.qB,sF false vV xK xI t.qO,sF false jM zB zq t.qG,sF false zZ xC xy t.qF]) ?_ ?_
 ·refine QG J H [0,2,3,4] fun H=>?_
  refine Q3 (fun ρ apL=>∃(xR:Env) (FY:yOA) (Gb:Nat) (rV:yOA) (PT:yLN) (C6:yLN),ρ=upd (upd (upd (upd (upd (upd xR 3<|pp b1 0) 6<|pp b5 0) 9<|Sv (aa zv 0) s.qA.length s.qA.length) 77<|Sv xK t.qO.length xI) 81<|Sv rV ((bags.take s.qA.length).length) c8) 86 (Sv FY bags[s.qA.length]!.length Gb)/\Fresh w.heap.size []/\St w apL [rr (aa zv 0) s.qA.length s.qA.length 4 1 ((Xi s counts s.qA.length i).map<|Value.bool),rr none 0 0 0 1 [],.box b5 [yN,yN,yN] 31,.box b3 (yT t xK xI zB zq xC xy) 31,.box b1 (yS s qM qL xm xh) 27] [sF false PT rV c8<|bags.take s.qA.length,sF false C6 FY Gb<|bags[s.qA.length]!,qX false eK dQ bags,sF false xN qM qL s.qA,sF false zN xm xh s.qB,sF false vV xK xI t.qO,sF false jM zB zq t.qG,sF false zZ xC xy t.qF,sF false iE eE eo counts]) 4 #[true,true,true,true,true,true,true,true,true,true,true,false,false,false,false] ?_ fun ajB=>?_
  ·rintro ρ aP4 ⟨xR,FY,Gb,rV,PT,C6,rfl,N,H⟩
   refine jw [11,13] qh qm<|yl J ?_<|yl J ?_ jy
   ·refine vZ [Sv xK t.qO.length xI,Sv rV ((bags.take s.qA.length).length) c8,Sv FY bags[s.qA.length]!.length Gb] [(0,Sv xK t.qO.length xI),(1,Sv rV ((bags.take s.qA.length).length) c8),(2,Sv FY bags[s.qA.length]!.length Gb)] (⟨H.pick [0,2,3,4]<|zR 2 7,(jw [12,13] qh qm<|yl J ?_<|yl J ?_ jy)⟩)
    ·obtain⟨ZG,cp1,Y9,Zj⟩:=copy_pre (al:=t.qO) dR p8 p9.2 CS
     have aqR:=H.base.size
     refine oc (V4 _ (⟨t.qO,(bags.take s.qA.length),bags[s.qA.length]!⟩:qV) (H.get 5 J).1 (H.get 0 J).1 (H.get 1 J).1 qg qg qg qg) ?_
     rintro _ aed ⟨uQ,abn,yp,Au,agh,Ai,KL,Kq,sB,Zi,sy,rfl,M,K⟩ _
     replace N:=N.merge aqR qm M
     replace H:=H.merge K M
     obtain rfl:=H.Vt 0 rfl
     obtain rfl:=H.xf (α:=yLI) 1 rfl 0 rfl qj
     obtain rfl:=H.yt 2 rfl
     refine⟨H.pick [3,5,6,7]<|zR 3 7,(ro 13 J<|x8 H ti31 [yN,yN,yN] fun aCb aMX H=>⟨H.pick [4,6,7,8]<|zR 3 7,(ro 14 J<|xZ H 0 [Sv uQ (((⟨t.qO,(bags.take s.qA.length),bags[s.qA.length]!⟩:qV).qO).length) yp,Sv Au (((⟨t.qO,(bags.take s.qA.length),bags[s.qA.length]!⟩:qV).qG).length) Ai,Sv sB (((⟨t.qO,(bags.take s.qA.length),bags[s.qA.length]!⟩:qV).qF).length) sy] sizeOf31 fun aNe H=>⟨H.pick [4,6,7,8]<|zR 3 7,?_⟩)⟩)⟩
     refine xx qh ((meet ⟨_,aCb,uQ,yp,Au,Ai,sB,sy,KL,Kq,uE4,N,H.pick (zR 0 9) (0::zR 4 5)⟩))
    refine x8 H ti31 [yN,yN,yN] fun ar6 awZ H=>⟨H.pick [1,3,4,5]<|zR 2 7,(ro 12 J ?_)⟩
    obtain⟨ZG,cp1,Y9,Zj⟩:=copy_pre (al:=t.qO) dR p8 p9.2 CS
    have ahQ:=H.base.size
    refine oc (V4 _ (⟨t.qO,(bags.take s.qA.length),bags[s.qA.length]!⟩:qV) (H.get 5 J).1 (H.get 0 J).1 (H.get 1 J).1 qg qg qg qg) ?_
    rintro _ aBH ⟨vf,aa0,wx,nL,KJ,nG,AJ,Al,iD,DN,iF,rfl,M,K⟩ _
    replace N:=N.merge ahQ qm M
    replace H:=H.merge K M
    obtain rfl:=H.Vt 0 rfl
    obtain rfl:=H.xf (α:=yLI) 1 rfl 0 rfl qj
    obtain rfl:=H.yt 2 rfl
    refine⟨H.pick [4,6,7,8]<|zR 3 7,(ro 14 J<|xZ H 3 [Sv vf (((⟨t.qO,(bags.take s.qA.length),bags[s.qA.length]!⟩:qV).qO).length) wx,Sv nL (((⟨t.qO,(bags.take s.qA.length),bags[s.qA.length]!⟩:qV).qG).length) nG,Sv iD (((⟨t.qO,(bags.take s.qA.length),bags[s.qA.length]!⟩:qV).qF).length) iF] sizeOf31 fun aws H=>⟨H.pick [4,6,7,8]<|zR 3 7,(xx qh<|?_)⟩)⟩
    exact meet ⟨_,ar6,vf,wx,nL,nG,iD,iF,AJ,Al,uE4,N,H.pick [3,0,1,2,4,5,6,7,8] (0::zR 4 5)⟩
   refine x8 H ti31 [yN,yN,yN] fun axu arb H=>⟨H.pick [1,3,4,5]<|zR 2 7,(ro 11 rfl<|vZ [Sv xK t.qO.length xI,Sv rV ((bags.take s.qA.length).length) c8,Sv FY bags[s.qA.length]!.length Gb] [(0,Sv xK t.qO.length xI),(1,Sv rV ((bags.take s.qA.length).length) c8),(2,Sv FY bags[s.qA.length]!.length Gb)]<|⟨H.pick [1,3,4,5]<|zR 2 7,(ro 12 rfl ?_)⟩)⟩
   obtain⟨ZG,cp1,Y9,Zj⟩:=copy_pre (al:=t.qO) dR p8 p9.2 CS
   have anf:=H.base.size
   refine oc (V4 _ (⟨t.qO,(bags.take s.qA.length),bags[s.qA.length]!⟩:qV) (H.get 5 J).1 (H.get 0 J).1 (H.get 1 J).1 qg qg qg qg) ?_
   rintro _ aCS ⟨ym,ad2,ut,Bb,ae0,A1,K4,Ll,sX,U6,sA,rfl,M,K⟩ _
   replace N:=N.merge anf qm M
   replace H:=H.merge K M
   obtain rfl:=H.Vt 0 rfl
   obtain rfl:=H.xf (α:=yLI) 1 rfl 0 rfl qj
   obtain rfl:=H.yt 2 rfl
   refine⟨H.pick [4,6,7,8]<|zR 3 7,(ro 14 J<|xZ H 3 [Sv ym (((⟨t.qO,(bags.take s.qA.length),bags[s.qA.length]!⟩:qV).qO).length) ut,Sv Bb (((⟨t.qO,(bags.take s.qA.length),bags[s.qA.length]!⟩:qV).qG).length) A1,Sv sX (((⟨t.qO,(bags.take s.qA.length),bags[s.qA.length]!⟩:qV).qF).length) sA] sizeOf31 fun aBq H=>⟨H.pick [4,6,7,8]<|zR 3 7,(xx qh<|?_)⟩)⟩
   exact meet ⟨_,axu,ym,ut,Bb,A1,sX,sA,K4,Ll,uE4,N,H.pick [3,0,1,2,4,5,6,7,8] (0::zR 4 5)⟩
  refine Q3 (fun ρ w297=>∃(xR:Env) (J2:yOA) (abJ:yLN) (abN:yLN),ρ=upd (upd (upd (upd (upd (upd xR 3<|pp b1 0) 6<|pp b5 0) 9<|Sv (aa zv 0) s.qA.length s.qA.length) 77<|Sv xK t.qO.length xI) 81<|Sv J2 ((bags.take s.qA.length).length) c8) 85 (pp rI<|0+(s.qA.length:Int).toNat*1)/\Fresh w.heap.size []/\St w w297 [rr (aa zv 0) s.qA.length s.qA.length 4 1 ((Xi s counts s.qA.length i).map<|Value.bool),rr none 0 0 0 1 [],.box b5 [yN,yN,yN] 31,.box b3 (yT t xK xI zB zq xC xy) 31,.box b1 (yS s qM qL xm xh) 27] [sF false abJ J2 c8<|bags.take s.qA.length,isF false abN (Sv (aa rI 0) (t.qG.length+1) c8) bags,qX false eK dQ bags,sF false xN qM qL s.qA,sF false zN xm xh s.qB,sF false vV xK xI t.qO,sF false jM zB zq t.qG,sF false zZ xC xy t.qF,sF false iE eE eo counts]) 5 #[true,true,true,true,true,true,true,true,true,true,false,false,false,false,false] ?_ fun al2=>?_
  ·rintro ρ aMC ⟨xR,J2,abJ,abN,rfl,N,H⟩
   refine jw [10,13] qh qm<|yl J ?_<|yl J ?_ jy
   ·obtain⟨UY,Wf,as6,H⟩:=H.yg 1 rfl s.qA.length s.qA.length qf qf qf
    refine zx (Sv UY bags[s.qA.length]!.length Wf) isAgg24 rfl (H.zU 1 rfl 0 rfl)<|⟨H.pick [0,2,3,4]<|zR 4 7,(yG ajB ⟨_,UY,Wf,J2,abJ,as6,uE6,N,H.pick (zR 0 5) (2::0::zR 4 7)⟩)⟩
   refine x8 H ti31 [yN,yN,yN] fun aCm aP7 H=>⟨H.pick [1,3,4,5]<|zR 2 7,(ro 10 J ?_)⟩
   obtain⟨Oq,Pk,aHh,H⟩:=H.yg 1 rfl s.qA.length s.qA.length qf qf qf
   refine zx (Sv Oq bags[s.qA.length]!.length Pk) isAgg24 rfl (H.zU 1 rfl 0 rfl)<|⟨H.pick [1,3,4,5]<|zR 4 7,(ro 11 rfl<|vZ [Sv xK t.qO.length xI,Sv J2 ((bags.take s.qA.length).length) c8,Sv Oq bags[s.qA.length]!.length Pk] [(0,Sv xK t.qO.length xI),(1,Sv J2 ((bags.take s.qA.length).length) c8),(2,Sv Oq bags[s.qA.length]!.length Pk)]<|⟨H.pick [1,3,4,5]<|zR 4 7,(ro 12 rfl ?_)⟩)⟩
   obtain⟨ZG,cp1,Y9,Zj⟩:=copy_pre (al:=t.qO) dR p8 p9.2 CS
   have ahJ:=H.base.size
   refine oc (V4 _ (⟨t.qO,(bags.take s.qA.length),bags[s.qA.length]!⟩:qV) (H.get 7 J).1 (H.get 2 J).1 (H.get 0 J).1 qg qg qg qg) ?_
   rintro _ aNu ⟨uO,ad3,wD,A2,afp,A9,KV,Ki,sG,WQ,sW,rfl,M,K⟩ _
   replace N:=N.merge ahJ qm M
   replace H:=H.merge K M
   obtain rfl:=H.Vt 0 rfl
   obtain rfl:=H.xf (α:=yLI) 1 rfl 0 rfl qj
   obtain rfl:=H.yt 2 rfl
   refine⟨H.pick [4,6,7,8]<|zR 5 7,(ro 14 J<|xZ H 3 [Sv uO (((⟨t.qO,(bags.take s.qA.length),bags[s.qA.length]!⟩:qV).qO).length) wD,Sv A2 (((⟨t.qO,(bags.take s.qA.length),bags[s.qA.length]!⟩:qV).qG).length) A9,Sv sG (((⟨t.qO,(bags.take s.qA.length),bags[s.qA.length]!⟩:qV).qF).length) sW] sizeOf31 fun aKQ H=>⟨H.pick [4,6,7,8]<|zR 5 7,(xx qh<|?_)⟩)⟩
   exact meet ⟨_,aCm,uO,wD,A2,A9,sG,sW,KV,Ki,uE4,N,H.pick [3,0,1,2,4,5,6,7,8] (0::zR 6 5)⟩
  refine Q3 (fun ρ aio=>∃(xR:Env) (MA:Nat),ρ=upd (upd (upd (upd (upd (upd (upd (upd xR 3<|pp b1 0) 6<|pp b5 0) 9<|Sv (aa zv 0) s.qA.length s.qA.length) 13<|pp MA 0) 77<|Sv xK t.qO.length xI) 78<|Sv (aa rI 0) (t.qG.length+1) c8) 80<|yI s.qA.length) 85 (pp rI<|0+(s.qA.length:Int).toNat*1)/\Fresh w.heap.size []/\St w aio [.box MA [yN,yN,yN] 31,rr (aa zv 0) s.qA.length s.qA.length 4 1 ((Xi s counts s.qA.length i).map<|Value.bool),rr (aa rI 0) (t.qG.length+1) c8 24 1 dQ,.box b5 [yN,yN,yN] 31,.box b3 (yT t xK xI zB zq xC xy) 31,.box b1 (yS s qM qL xm xh) 27] [qX false eK dQ bags,sF false xN qM qL s.qA,sF false zN xm xh s.qB,sF false vV xK xI t.qO,sF false jM zB zq t.qG,sF false zZ xC xy t.qF,sF false iE eE eo counts]) 5 #[true,true,true,true,true,false,true,true,true,true,false,false,false,true,false] ?_ fun aqe=>?_
  ·rintro ρ aBX ⟨xR,MA,rfl,N,H⟩
   refine jw [5,10] qh qm<|yl J ?_<|yl J ?_ jy
   ·obtain⟨aK2,aDW,aGk,H⟩:=H.ji (α:=yLI) 2 rfl 0 rfl qj
    refine o_head H 0 J s.qA.length underlying29 ti24 J J qf qf fun ahI T3 aGO H=>?_
    have aGZ:(bags.take s.qA.length).length=s.qA.length:=List.length_take_of_le qf
    refine⟨H.pick [1,3,4,5]<|zR 2 7,(ro 10 J ?_)⟩
    obtain⟨Rm,Pq,aEm,H⟩:=H.yg 1 rfl s.qA.length s.qA.length qf qf qf
    refine zx (Sv Rm bags[s.qA.length]!.length Pq) isAgg24 rfl (H.zU 1 rfl 0 rfl)<|⟨H.pick [1,3,4,5]<|zR 4 7,(ro 11 rfl<|vZ [Sv xK t.qO.length xI,Sv ahI ((bags.take s.qA.length).length) c8,Sv Rm bags[s.qA.length]!.length Pq] [(0,Sv xK t.qO.length xI),(1,Sv ahI ((bags.take s.qA.length).length) c8),(2,Sv Rm bags[s.qA.length]!.length Pq)]<|⟨H.pick [1,3,4,5]<|zR 4 7,(ro 12 rfl ?_)⟩)⟩
    obtain⟨ZG,cp1,Y9,Zj⟩:=copy_pre (al:=t.qO) dR p8 p9.2 CS
    have aon:=H.base.size
    refine oc (V4 _ (⟨t.qO,(bags.take s.qA.length),bags[s.qA.length]!⟩:qV) (H.get 7 J).1 (H.get 2 J).1 (H.get 0 J).1 qg qg qg qg) ?_
    rintro _ aMv ⟨wb,aeH,uj,AQ,agC,AE,JX,JM,sV,YM,sS,rfl,M,K⟩ _
    replace N:=N.merge aon qm M
    replace H:=H.merge K M
    obtain rfl:=H.Vt 0 rfl
    obtain rfl:=H.xf (α:=yLI) 1 rfl 0 rfl qj
    obtain rfl:=H.yt 2 rfl
    refine⟨H.pick [4,6,7,8]<|zR 5 7,(ro 14 J<|xZ H 3 [Sv wb (((⟨t.qO,(bags.take s.qA.length),bags[s.qA.length]!⟩:qV).qO).length) uj,Sv AQ (((⟨t.qO,(bags.take s.qA.length),bags[s.qA.length]!⟩:qV).qG).length) AE,Sv sV (((⟨t.qO,(bags.take s.qA.length),bags[s.qA.length]!⟩:qV).qF).length) sS] sizeOf31 fun aN7 H=>⟨H.pick [4,6,7,8]<|zR 5 7,(xx qh<|?_)⟩)⟩
    exact meet ⟨_,MA,wb,uj,AQ,AE,sV,sS,JX,JM,uE4,N,H.pick [3,0,1,2,4,5,6,7,8] (0::zR 6 5)⟩
   obtain⟨Gq,GM,adg,aI5,aDp,H⟩:=H.Qa 2 rfl 0 rfl (iv:=s.qA.length) s.qA.length qf qf
   refine zx (Sv Gq bags[s.qA.length]!.length GM) isAgg24 rfl (aDp)<|⟨H.pick [1,3,4,5]<|zR 1 7,(ro 5 rfl ?_)⟩
   obtain⟨aNi,aEC,aF7,H⟩:=H.ji (α:=yLI) 2 rfl 1 rfl qj
   refine o_head H 0 rfl s.qA.length underlying29 ti24 rfl rfl qf qf fun aht aPB aFo H=>(⟨H.pick [1,3,4,5]<|zR 3 7,(ro 11 rfl<|vZ [Sv xK t.qO.length xI,Sv aht ((bags.take s.qA.length).length) c8,Sv Gq bags[s.qA.length]!.length GM] [(0,Sv xK t.qO.length xI),(1,Sv aht ((bags.take s.qA.length).length) c8),(2,Sv Gq bags[s.qA.length]!.length GM)]<|⟨H.pick [1,3,4,5]<|zR 3 7,(ro 12 rfl ?_)⟩)⟩)
   obtain⟨ZG,cp1,Y9,Zj⟩:=copy_pre (al:=t.qO) dR p8 p9.2 CS
   have akH:=H.base.size
   refine oc (V4 _ (⟨t.qO,(bags.take s.qA.length),bags[s.qA.length]!⟩:qV) (H.get 6 J).1 (H.get 0 J).1 (H.get 2 J).1 qg qg qg qg) ?_
   rintro _ aJl ⟨wP,aez,xL,AN,afL,Ah,Li,JC,s0,aaS,sR,rfl,M,K⟩ _
   replace N:=N.merge akH qm M
   replace H:=H.merge K M
   obtain rfl:=H.Vt 0 rfl
   obtain rfl:=H.xf (α:=yLI) 1 rfl 0 rfl qj
   obtain rfl:=H.yt 2 rfl
   refine⟨H.pick [4,6,7,8]<|zR 4 7,(ro 14 J<|xZ H 3 [Sv wP (((⟨t.qO,(bags.take s.qA.length),bags[s.qA.length]!⟩:qV).qO).length) xL,Sv AN (((⟨t.qO,(bags.take s.qA.length),bags[s.qA.length]!⟩:qV).qG).length) Ah,Sv s0 (((⟨t.qO,(bags.take s.qA.length),bags[s.qA.length]!⟩:qV).qF).length) sR] sizeOf31 fun azv H=>⟨H.pick [4,6,7,8]<|zR 4 7,(xx qh<|?_)⟩)⟩
   exact meet ⟨_,MA,wP,xL,AN,Ah,s0,sR,Li,JC,uE4,N,H.pick [3,0,1,2,4,5,6,7,8] (0::zR 5 5)⟩
  refine Q3 (fun ρ w361=>∃(xR:Env) (M2:Nat),ρ=upd (upd (upd (upd (upd (upd (upd (upd (upd xR 3<|pp b1 0) 6<|pp b5 0) 9<|Sv (aa zv 0) s.qA.length s.qA.length) 13<|pp M2 0) 77<|Sv xK t.qO.length xI) 78<|Sv (aa rI 0) (t.qG.length+1) c8) 80<|yI s.qA.length) 82<|Sv (aa rI 0) (t.qG.length+1) c8) 83 (.agg #[yI s.qQ,Sv qM s.qA.length qL,Sv xm s.qB.length xh])/\Fresh w.heap.size []/\St w w361 [.box M2 [yN,yN,yN] 31,rr (aa zv 0) s.qA.length s.qA.length 4 1 ((Xi s counts s.qA.length i).map<|Value.bool),rr (aa rI 0) (t.qG.length+1) c8 24 1 dQ,.box b5 [yN,yN,yN] 31,.box b3 (yT t xK xI zB zq xC xy) 31,.box b1 (yS s qM qL xm xh) 27] [qX false eK dQ bags,sF false xN qM qL s.qA,sF false zN xm xh s.qB,sF false vV xK xI t.qO,sF false jM zB zq t.qG,sF false zZ xC xy t.qF,sF false iE eE eo counts]) 7 #[true,true,true,true,true,false,true,true,false,false,false,false,false,true,false] ?_ fun anO=>?_
  ·rintro ρ aNH ⟨xR,M2,rfl,N,H⟩
   refine jw [5,8] qh qm<|yl J ?_<|yl J ?_ jy
   ·obtain⟨anp,aHp,aHB,H⟩:=H.ji (α:=yLI) 2 rfl 0 rfl qj
    refine o_head H 0 J s.qA.length underlying29 ti24 J J qf qf fun akx aos aEO H=>?_
    have aD4:(bags.take s.qA.length).length=s.qA.length:=List.length_take_of_le qf
    refine⟨H.pick [1,3,4,5]<|zR 2 7,(ro 8 J<|oq (Xj _ s (H.get 3 J).1 (H.get 4 J).1) H fun aKB H=>⟨H.pick [1,3,4,5]<|zR 2 7,?_⟩)⟩
    obtain⟨N5,OY,aF0,H⟩:=H.yg 1 rfl s.qA.length s.qA.length qf qf qf
    refine tI 9 rfl rfl rfl (H.pick [1,3,4,5]<|zR 4 7)<|ro 10 rfl<|zx (Sv N5 bags[s.qA.length]!.length OY) isAgg24 rfl (H.zU 1 rfl 0 rfl)<|⟨H.pick [1,3,4,5]<|zR 4 7,(ro 11 rfl<|vZ [Sv xK t.qO.length xI,Sv akx ((bags.take s.qA.length).length) c8,Sv N5 bags[s.qA.length]!.length OY] [(0,Sv xK t.qO.length xI),(1,Sv akx ((bags.take s.qA.length).length) c8),(2,Sv N5 bags[s.qA.length]!.length OY)]<|⟨H.pick [1,3,4,5]<|zR 4 7,(ro 12 rfl ?_)⟩)⟩
    obtain⟨ZG,cp1,Y9,Zj⟩:=copy_pre (al:=t.qO) dR p8 p9.2 CS
    have aou:=H.base.size
    refine oc (V4 _ (⟨t.qO,(bags.take s.qA.length),bags[s.qA.length]!⟩:qV) (H.get 7 J).1 (H.get 2 J).1 (H.get 0 J).1 qg qg qg qg) ?_
    rintro _ aA9 ⟨we,aa8,uu,AH,afc,Ap,Kt,LB,sD,Wh,sY,rfl,M,K⟩ _
    replace N:=N.merge aou qm M
    replace H:=H.merge K M
    obtain rfl:=H.Vt 0 rfl
    obtain rfl:=H.xf (α:=yLI) 1 rfl 0 rfl qj
    obtain rfl:=H.yt 2 rfl
    refine⟨H.pick [4,6,7,8]<|zR 5 7,(ro 14 J<|xZ H 3 [Sv we (((⟨t.qO,(bags.take s.qA.length),bags[s.qA.length]!⟩:qV).qO).length) uu,Sv AH (((⟨t.qO,(bags.take s.qA.length),bags[s.qA.length]!⟩:qV).qG).length) Ap,Sv sD (((⟨t.qO,(bags.take s.qA.length),bags[s.qA.length]!⟩:qV).qF).length) sY] sizeOf31 fun azV H=>⟨H.pick [4,6,7,8]<|zR 5 7,(xx qh<|?_)⟩)⟩
    exact meet ⟨_,M2,we,uu,AH,Ap,sD,sY,Kt,LB,uE4,N,H.pick [3,0,1,2,4,5,6,7,8] (0::zR 6 5)⟩
   refine oq (Xj _ s (H.get 1 J).1 (H.get 2 J).1) H fun aMB H=>⟨H.pick [1,3,4,5]<|zR 0 7,(tI 9 J J J (H.pick [1,3,4,5]<|zR 0 7) ?_)⟩
   exact yG aqe ⟨_,M2,uE8,N,H⟩
  have S:=H.ve [0,2,3,4]<|zR 0 7
  refine tF 0 J J S ?_
  refine tL 1 J J (fun _ h=>h.cell 2 J J) S ?_
  refine rtl 2 S ?_
  refine rt 3 _ (yP (cs:=(yS s qM qL xm xh)) isAgg27 sizeOf27 J<|fun _ h=>qH (h.cells 3 J) 0 3) S ?_
  refine rtl 6 S ?_
  refine rt 7 _ (yP (cs:=(yS s qM qL xm xh)) isAgg27 sizeOf27 J<|fun _ h=>qH (h.cells 3 J) 0 3) S ?_
  refine jw [4,13] qh qm<|yl J ?_<|yl J ?_ jy
  ·refine oq (Xj _ s (H.get 1 J).1 (H.get 2 J).1) H fun aQk H=>⟨H.pick [0,2,3,4]<|zR 0 7,(jw [5,8,13] qh qm<|yl J ?_<|yl J ?_<|yl J ?_ jy)⟩
   ·obtain⟨aAu,aFn,aE6,H⟩:=H.ji (α:=yLI) 1 rfl 0 rfl qj
    refine o_head H 0 J s.qA.length underlying29 ti24 J J qf qf fun aaV awS aGd H=>?_
    have aIg:(bags.take s.qA.length).length=s.qA.length:=List.length_take_of_le qf
    refine⟨H.pick [0,2,3,4]<|zR 2 7,(jw [8,13] qh qm<|yl J ?_<|yl J ?_ jy)⟩
    ·refine oq (Xj _ s (H.get 3 J).1 (H.get 4 J).1) H fun aIP H=>⟨H.pick [0,2,3,4]<|zR 2 7,?_⟩
     obtain⟨aD7,aGI,aFR,H⟩:=H.yg 1 rfl s.qA.length s.qA.length qf qf qf
     refine tI 9 J J J (H.pick [0,2,3,4]<|zR 4 7) ?_
     exact yG al2 ⟨_,aaV,awS,aAu,uE6,N,H.pick (zR 0 5)<|zR 2 9⟩
    refine x8 H ti31 [yN,yN,yN] fun aDu aLt H=>⟨H.pick [1,3,4,5]<|zR 2 7,(ro 8 J<|oq (Xj _ s (H.get 3 J).1 (H.get 4 J).1) H fun aly H=>⟨H.pick [1,3,4,5]<|zR 2 7,?_⟩)⟩
    obtain⟨N9,P5,aEY,H⟩:=H.yg 1 rfl s.qA.length s.qA.length qf qf qf
    refine tI 9 rfl rfl rfl (H.pick [1,3,4,5]<|zR 4 7)<|ro 10 rfl<|zx (Sv N9 bags[s.qA.length]!.length P5) isAgg24 rfl (H.zU 1 rfl 0 rfl)<|⟨H.pick [1,3,4,5]<|zR 4 7,(ro 11 rfl<|vZ [Sv xK t.qO.length xI,Sv aaV ((bags.take s.qA.length).length) c8,Sv N9 bags[s.qA.length]!.length P5] [(0,Sv xK t.qO.length xI),(1,Sv aaV ((bags.take s.qA.length).length) c8),(2,Sv N9 bags[s.qA.length]!.length P5)]<|⟨H.pick [1,3,4,5]<|zR 4 7,(ro 12 rfl ?_)⟩)⟩
    obtain⟨ZG,cp1,Y9,Zj⟩:=copy_pre (al:=t.qO) dR p8 p9.2 CS
    have aoW:=H.base.size
    refine oc (V4 _ (⟨t.qO,(bags.take s.qA.length),bags[s.qA.length]!⟩:qV) (H.get 7 J).1 (H.get 2 J).1 (H.get 0 J).1 qg qg qg qg) ?_
    rintro _ aMQ ⟨uW,adu,vh,AT,afV,AK,JL,JA,sM,WH,tg,rfl,M,K⟩ _
    replace N:=N.merge aoW qm M
    replace H:=H.merge K M
    obtain rfl:=H.Vt 0 rfl
    obtain rfl:=H.xf (α:=yLI) 1 rfl 0 rfl qj
    obtain rfl:=H.yt 2 rfl
    refine⟨H.pick [4,6,7,8]<|zR 5 7,(ro 14 J<|xZ H 3 [Sv uW (((⟨t.qO,(bags.take s.qA.length),bags[s.qA.length]!⟩:qV).qO).length) vh,Sv AT (((⟨t.qO,(bags.take s.qA.length),bags[s.qA.length]!⟩:qV).qG).length) AK,Sv sM (((⟨t.qO,(bags.take s.qA.length),bags[s.qA.length]!⟩:qV).qF).length) tg] sizeOf31 fun aLh H=>⟨H.pick [4,6,7,8]<|zR 5 7,(xx qh<|?_)⟩)⟩
    exact meet ⟨_,aDu,uW,vh,AT,AK,sM,tg,JL,JA,uE4,N,H.pick [3,0,1,2,4,5,6,7,8] (0::zR 6 5)⟩
   ·refine oq (Xj _ s (H.get 1 J).1 (H.get 2 J).1) H fun aMl H=>⟨H.pick [0,2,3,4]<|zR 0 7,(tI 9 J J J (H.pick [0,2,3,4]<|zR 0 7) ?_)⟩
    refine jw [5,10,13] qh qm<|yl J ?_<|yl J ?_<|yl J ?_ jy
    ·obtain⟨awf,aEw,aHn,H⟩:=H.ji (α:=yLI) 1 rfl 0 rfl qj
     refine o_head H 0 J s.qA.length underlying29 ti24 J J qf qf fun ayp azq aGo H=>(⟨H.pick [0,2,3,4]<|zR 2 7,(yG al2 ⟨_,ayp,azq,awf,uE6,N,H⟩)⟩)
    ·obtain⟨Sr,SW,axM,aLl,aBy,H⟩:=H.Qa 1 rfl 0 rfl (iv:=s.qA.length) s.qA.length qf qf
     refine zx (Sv Sr bags[s.qA.length]!.length SW) isAgg24 rfl (aBy)<|⟨H.pick [0,2,3,4]<|zR 1 7,(jw [5,13] qh qm<|yl rfl ?_<|yl rfl ?_ jy)⟩
     ·obtain⟨aOL,aHf,aHz,H⟩:=H.ji (α:=yLI) 1 rfl 1 rfl qj
      refine o_head H 0 J s.qA.length underlying29 ti24 J J qf qf fun ayf axN aGB H=>(⟨H.pick [0,2,3,4]<|zR 3 7,(yG ajB ⟨_,Sr,SW,ayf,axN,axM,uE6,N,H.pick (zR 0 5) (0::zR 2 8)⟩)⟩)
     refine x8 H ti31 [yN,yN,yN] fun awz aPx H=>⟨H.pick [1,3,4,5]<|zR 1 7,(ro 5 J ?_)⟩
     obtain⟨axr,YG,ahY,H⟩:=H.ji (α:=yLI) 2 rfl 1 rfl qj
     refine o_head H 0 rfl s.qA.length underlying29 ti24 rfl rfl qf qf fun ajc aLW aH6 H=>(⟨H.pick [1,3,4,5]<|zR 3 7,(ro 11 rfl<|vZ [Sv xK t.qO.length xI,Sv ajc ((bags.take s.qA.length).length) c8,Sv Sr bags[s.qA.length]!.length SW] [(0,Sv xK t.qO.length xI),(1,Sv ajc ((bags.take s.qA.length).length) c8),(2,Sv Sr bags[s.qA.length]!.length SW)]<|⟨H.pick [1,3,4,5]<|zR 3 7,(ro 12 rfl ?_)⟩)⟩)
     obtain⟨ZG,cp1,Y9,Zj⟩:=copy_pre (al:=t.qO) dR p8 p9.2 CS
     have am7:=H.base.size
     refine oc (V4 _ (⟨t.qO,(bags.take s.qA.length),bags[s.qA.length]!⟩:qV) (H.get 6 J).1 (H.get 0 J).1 (H.get 2 J).1 qg qg qg qg) ?_
     rintro _ aJp ⟨uK,aa6,ul,AS,af9,AC,Lu,Kn,tz,aam,s9,rfl,M,K⟩ _
     replace N:=N.merge am7 qm M
     replace H:=H.merge K M
     obtain rfl:=H.Vt 0 rfl
     obtain rfl:=H.xf (α:=yLI) 1 rfl 0 rfl qj
     obtain rfl:=H.yt 2 rfl
     refine⟨H.pick [4,6,7,8]<|zR 4 7,(ro 14 J<|xZ H 3 [Sv uK (((⟨t.qO,(bags.take s.qA.length),bags[s.qA.length]!⟩:qV).qO).length) ul,Sv AS (((⟨t.qO,(bags.take s.qA.length),bags[s.qA.length]!⟩:qV).qG).length) AC,Sv tz (((⟨t.qO,(bags.take s.qA.length),bags[s.qA.length]!⟩:qV).qF).length) s9] sizeOf31 fun axp H=>⟨H.pick [4,6,7,8]<|zR 4 7,(xx qh<|?_)⟩)⟩
     exact meet ⟨_,awz,uK,ul,AS,AC,tz,s9,Lu,Kn,uE4,N,H.pick [3,0,1,2,4,5,6,7,8] (0::zR 5 5)⟩
    refine x8 H ti31 [yN,yN,yN] fun axz aJC H=>⟨H.pick [1,3,4,5]<|zR 0 7,(yG aqe ⟨_,axz,uE8,N,H⟩)⟩
   refine x8 H ti31 [yN,yN,yN] fun aAX aJE H=>⟨H.pick [1,3,4,5]<|zR 0 7,(yG anO ⟨_,aAX,uE9,N,H⟩)⟩
  refine x8 H ti31 [yN,yN,yN] fun ax9 aOQ H=>⟨H.pick [1,3,4,5]<|zR 0 7,(ro 4 J<|oq (Xj _ s (H.get 1 J).1 (H.get 2 J).1) H fun aQa H=>⟨H.pick [1,3,4,5]<|zR 0 7,(yG anO ⟨_,ax9,uE9,N,H⟩)⟩)⟩
 clear H N
 rintro ρ aLf ⟨xR,Fh,im,ir,kq,hY,iA,iJ,Ia,Jc,rfl,N,H⟩
 refine t_n<|zcc<|sq 1<|oN J<|sw<|o_sub s.qA.length 1 J J qf<|sq 1<|zjn<|xg ?_
 obtain rfl:i=s.qB.length:=by omega
 have hl:=stepped_live p1 dR qf
 obtain⟨s1,s2⟩:=step_tab dR
 rw[show (⟨t.qO,(bags.take s.qA.length),bags[s.qA.length]!⟩:qV)=zX s t counts from by rw[show bags.take s.qA.length=_ from s1,show bags[s.qA.length]! =_ from s2];rfl] at H
 refine vk ((fun Z0 Z1 Z2 Z3 Z4 Z5 Z6 Z7 Z8 Z9 dU=>fun m' ρ apn=>∃(xR:Env) (c:Int) (r7:List Bool) (hJ:yLL) (XT:List Value) (Qs:yLN) (j:Nat),ρ=upd (upd (upd (upd (upd xR 3<|pp b1 0) 6<|pp b5 0) 9<|Sv (aa zv 0) s.qA.length s.qA.length) 13<|pp Fh 0) 14 (yI c)/\r7=(zW s counts (zX s t counts) j).qO/\hJ=(zW s counts (zX s t counts) j).qG/\(c=(s.qA.length:Int)-1-j)/\(j+1<=s.qA.length)/\m'=(c:Int).toNat/\Fresh w.heap.size [Qs]/\St w apn [Z0,rr im (((zX s t counts).qO).length) ir 4 1<|r7.map<|Value.bool,rr kq (((zX s t counts).qG).length) hY 24 1 XT,Z1,Z2,Z3,Z4,Z5] [qX true Qs XT hJ,Z6,Z7,Z8,Z9,dU]) _ _ _ _ _ _ _ _ _ _ _) (((s.qA.length-1):Int).toNat) ⟨_,s.qA.length-1,(zX s t counts).qO,(zX s t counts).qG,Ia,Jc,0,uE5,(by rfl),(by rfl),qf,qf,J,N,H.pick [0,1,2,3,4,6,7,8]<|zR 0 6⟩ ?_
 clear H N
 rintro m' ρ aCX ⟨xR,c,r7,hJ,XT,Qs,j,rfl,rfl,rfl,ic,jc,rfl,N,H⟩
 have TJ:=H.Vt 1 J
 have sH:=H.xf (α:=yLI) 2 J 0 J qj
 have L:=meltDown_live (counts:=counts) p0 hl j qf
 have L1:=L.alive
 have L2:=L.root
 have L3:=L.bags.1
 rw[←VC s counts (zX s t counts) j] at H
 refine zcc<|sp (yI c)<|sp (Bv<|decide ((c:Int)>0))<|zjn<|cD J (fun aza=>?_)<|fun aza=>?_
 ·refine xe (t_n<|xO<|xg<|zcr<|sq 1<|sp (yI c)<|oI J J<|oL J (H.rowBool 4 J (iv:=c) (i:=c.toNat) qf qf)<|zjn<|vP _ J (fun axJ=>?_)<|fun axJ=>?_)
  ·refine zf (sw<|xW (yS s qM qL xm xh) isAgg27 sizeOf27 J (qH (H.cells 7 J) 0 3)<|sp (yI c)<|sw<|vF #[.agg #[yI s.qQ,Sv qM s.qA.length qL,Sv xm s.qB.length xh],pp Fh 0,yI c] J J call84<|en func84 ntmps84 ?_)
   refine zcr<|sw<|jb H (yS s qM qL xm xh) fun amp aNd H=>zjn<|xO<|QY J H fun H=>rt 0 _ (yP (cs:=(yS s qM qL xm xh)) isAgg27 sizeOf27 J<|fun _ h=>qH (h.cells 0 J) 0 3) H ?_
   refine rtl 1 H ?_
   refine rtl 2 H ?_
   refine rt 3 _ (yP (cs:=[Sv im (((zX s t counts).qO).length) ir,Sv kq (((zX s t counts).qG).length) hY,Sv iA (((zW s counts (zX s t counts) j).qF).length) iJ]) isAgg31 sizeOf31 J<|fun _ h=>qH (h.cells 1 J) 0 3) H ?_
   refine rtp 4 (yI c) H ?_
   refine ro 5 J ?_
   obtain⟨aLI,We,awC⟩:=H.rowIsB 2 rfl
   obtain⟨aOx,YP,axQ⟩:=H.Vd (α:=yLI) 3 rfl 0 rfl qj
   obtain⟨aPr,aFy,ayS⟩:=H.Xv 4 rfl
   refine oq (VF (by rw[←We,←YP])<|parentNow_ok _ s (zW s counts (zX s t counts) j) c (H.get 1 J).1 (H.get 2 J).1 (We▸awC) (YP▸axQ) ayS qg qg qg) H fun aNV H=>?_
   have pin:=parentNow_in (s:=s) (t:=(zW s counts (zX s t counts) j)) (c:=c) p0.1 L2 qf qf
   refine⟨H,(rtl 6 H ?_)⟩
   refine xx qh<|t_n<|xO ?_
   obtain⟨ao5,rfl⟩:=H.jm 3 rfl qf
   refine c_cut (fun ρ w492=>∃(xR:Env) (Nh:List Value) (aaW:yLN),ρ=upd (upd (upd xR 1<|pp Fh 0) 2<|yI c) 3 (pp amp 0)/\Fresh w.heap.size [aaW]/\St w w492 [.box amp (yS s qM qL xm xh) 27,.box Fh [Sv im (((zX s t counts).qO).length) ir,Sv (aa ao5 0) (((zX s t counts).qG).length) hY,Sv iA (((zW s counts (zX s t counts) j).qF).length) iJ] 31,rr im (((zX s t counts).qO).length) ir 4 1 (((zW s counts (zX s t counts) j).qO).map<|Value.bool),rr (aa ao5 0) (((zX s t counts).qG).length) hY 24 1 Nh,rr iA (((zW s counts (zX s t counts) j).qF).length) iJ 2 1 (((zW s counts (zX s t counts) j).qF).map<|Value.int .i64),rr (aa zv 0) s.qA.length s.qA.length 4 1 ((Xi s counts s.qA.length s.qB.length).map<|Value.bool),.box b5 [yN,yN,yN] 31,.box b3 (yT t xK xI zB zq xC xy) 31,.box b1 (yS s qM qL xm xh) 27] [qX true aaW Nh (((zW s counts (zX s t counts) j).qG).set ((xY s (zW s counts (zX s t counts) j) c).toNat)<|vX (((zW s counts (zX s t counts) j).qG)[(xY s (zW s counts (zX s t counts) j) c).toNat]!) (((zW s counts (zX s t counts) j).qG)[c.toNat]!) 1),sF false xN qM qL s.qA,sF false zN xm xh s.qB,sF false vV xK xI t.qO,sF false jM zB zq t.qG,sF false zZ xC xy t.qF]) ?_ ?_
   ·refine QG J H [0,1,2,4,5,6,7,8] fun H=>?_
    have S:=H.ve [0,1,2,4,5,6,7,8]<|zR 0 6
    refine rtl 0 S ?_
    refine rtl 1 S ?_
    refine tF 2 J J S ?_
    refine tL 3 J J (fun _ h=>h.cell 1 J J) S ?_
    refine rtl 4 S ?_
    refine rtl 5 S ?_
    refine rtl 6 S ?_
    refine tF 7 J J S ?_
    refine tL 8 J J (fun _ h=>h.cell 1 J J) S ?_
    refine rtl 9 S ?_
    refine tI 10 J J J S ?_
    refine rtl 12 S ?_
    refine rtl 13 S ?_
    refine tF 14 J J S ?_
    refine tL 15 J J (fun _ h=>h.cell 1 J J) S ?_
    refine rtp 16 (yI c) S ?_
    refine tI 17 J J J S ?_
    refine jw [11,18] qh qm<|yl J ?_<|yl J ?_ jy
    ·obtain⟨aw2,ayV,aJK,aIF,ado,H⟩:=H.Qa 3 rfl 0 rfl (iv:=xY s (zW s counts (zX s t counts) j) c) ((xY s (zW s counts (zX s t counts) j) c).toNat) qf qf
     refine zx (Sv aw2 ((((zW s counts (zX s t counts) j).qG)[(xY s (zW s counts (zX s t counts) j) c).toNat]!).length) ayV) isAgg24 rfl (ado)<|⟨H.pick [0,1,2,4,5,6,7,8]<|zR 1 6,(ro 18 rfl ?_)⟩
     obtain⟨ay0,aAL,aLN,aIJ,aDI,H⟩:=H.Qa 3 rfl 1 rfl (iv:=c) c.toNat qf qf
     refine zx (Sv ay0 ((((zW s counts (zX s t counts) j).qG)[c.toNat]!).length) aAL) isAgg24 rfl (aDI)<|⟨H.pick [0,1,2,4,5,6,7,8]<|zR 2 6,(ro 19 rfl ?_)⟩
     obtain⟨u1,u2,u4⟩:=L.rows p0 (bnd_le qf) (p:=(xY s (zW s counts (zX s t counts) j) c).toNat) (c:=c.toNat) qf qf
     refine oc (Vy _ (((zW s counts (zX s t counts) j).qG)[(xY s (zW s counts (zX s t counts) j) c).toNat]!) (((zW s counts (zX s t counts) j).qG)[c.toNat]!) 1 (H.get 1 J).1 (H.get 0 J).1 qg qg qg) ?_
     rintro aLy aOB ayO axV
     replace H:=H.zy axV ayO
     obtain⟨aCJ,aze,rfl,aG2,aEG⟩:=H.jB 0 rfl
     refine⟨H.pick [1,2,3,5,6,7,8,9]<|zR 2 6,(tI 20 J J J (H.pick [1,2,3,5,6,7,8,9]<|zR 2 6) ?_)⟩
     refine ro 21 J ?_
     obtain⟨aMN,N,aHb,H⟩:=H.vJ 0 rfl N<|H.XE [2]
     refine jJ true H 4 J 3 J (Sv aCJ ((vX (((zW s counts (zX s t counts) j).qG)[(xY s (zW s counts (zX s t counts) j) c).toNat]!) (((zW s counts (zX s t counts) j).qG)[c.toNat]!) 1).length) aze) 0 J J sizeOf24 J J (i:=((xY s (zW s counts (zX s t counts) j) c).toNat)) qf qf qm fun aIU agX aoD an4 H=>?_
     replace N:Fresh w.heap.size [aoD]:=(N.pick [1,0]).repl an4
     refine⟨H.pick [1,2,3,5,6,7,8,9]<|zR 4 6,(xx qh ((meet ⟨_,agX,aoD,uE3,N,H.pick (zR 1 9) (0::zR 5 5)⟩)))⟩
    obtain⟨ax8,aCn,aPP,aKG,azp,H⟩:=H.Qa 3 rfl 0 rfl (iv:=c) c.toNat qf qf
    refine zx (Sv ax8 ((((zW s counts (zX s t counts) j).qG)[c.toNat]!).length) aCn) isAgg24 rfl (azp)<|⟨H.pick [0,1,2,4,5,6,7,8]<|zR 1 6,(ro 11 rfl ?_)⟩
    obtain⟨azD,aBn,aNj,aIZ,aye,H⟩:=H.Qa 3 rfl 1 rfl (iv:=xY s (zW s counts (zX s t counts) j) c) ((xY s (zW s counts (zX s t counts) j) c).toNat) qf qf
    refine zx (Sv azD ((((zW s counts (zX s t counts) j).qG)[(xY s (zW s counts (zX s t counts) j) c).toNat]!).length) aBn) isAgg24 rfl (aye)<|⟨H.pick [0,1,2,4,5,6,7,8]<|zR 2 6,(ro 19 rfl ?_)⟩
    obtain⟨u1,u2,u4⟩:=L.rows p0 (bnd_le qf) (p:=(xY s (zW s counts (zX s t counts) j) c).toNat) (c:=c.toNat) qf qf
    refine oc (Vy _ (((zW s counts (zX s t counts) j).qG)[(xY s (zW s counts (zX s t counts) j) c).toNat]!) (((zW s counts (zX s t counts) j).qG)[c.toNat]!) 1 (H.get 0 J).1 (H.get 1 J).1 qg qg qg) ?_
    rintro aJd aQy ay3 aCd
    replace H:=H.zy aCd ay3
    obtain⟨aCY,aBL,rfl,aFV,aHi⟩:=H.jB 0 rfl
    refine⟨H.pick [1,2,3,5,6,7,8,9]<|zR 2 6,(tI 20 J J J (H.pick [1,2,3,5,6,7,8,9]<|zR 2 6) ?_)⟩
    refine ro 21 J ?_
    obtain⟨aOb,N,aE0,H⟩:=H.vJ 0 rfl N<|H.XE [2]
    refine jJ true H 4 J 3 J (Sv aCY ((vX (((zW s counts (zX s t counts) j).qG)[(xY s (zW s counts (zX s t counts) j) c).toNat]!) (((zW s counts (zX s t counts) j).qG)[c.toNat]!) 1).length) aBL) 0 J J sizeOf24 J J (i:=((xY s (zW s counts (zX s t counts) j) c).toNat)) qf qf qm fun aOP arl aiC aiW H=>?_
    replace N:Fresh w.heap.size [aiC]:=(N.pick [1,0]).repl aiW
    refine⟨H.pick [1,2,3,5,6,7,8,9]<|zR 4 6,(xx qh ((meet ⟨_,arl,aiC,uE3,N,H.pick (zR 1 9) (0::zR 5 5)⟩)))⟩
   clear H N
   rintro ρ aKb ⟨xR,Nh,aaW,rfl,N,H⟩
   refine t_n<|xO<|QG J H [0,1,2,4,5,6,7,8] fun H=>?_
   have S:=H.ve [0,1,2,4,5,6,7,8]<|zR 0 6
   refine rtl 0 S ?_
   refine rtl 1 S ?_
   refine tF 2 J J S ?_
   refine tL 3 J J (fun _ h=>h.cell 1 J J) S ?_
   refine rtp 4 (yI c) S ?_
   refine tF 5 J J S ?_
   refine tL 6 J J (fun _ h=>h.cell 0 J J) S ?_
   refine ro 7 J<|jQ H underlying24 ti2 s.qQ.toNat J J qf qf qf fun azK aJM H=>⟨H.pick [1,2,3,5,6,7,8,9]<|zR 0 6,(tI 8 J J J (H.pick [1,2,3,5,6,7,8,9]<|zR 0 6) ?_)⟩
   refine ro 9 J ?_
   obtain⟨aJJ,N,aGW,H⟩:=H.vJ 0 rfl N<|H.XE [0]
   refine jJ true H 4 J 1 J (Sv (aa azK 0) s.qQ.toNat s.qQ.toNat) 0 J J sizeOf24 J J (i:=c.toNat) qf qf qm fun aNs aEQ aDf aoV H=>?_
   replace N:Fresh w.heap.size [aDf]:=(N.pick [1,0]).repl aoV
   refine⟨H.pick [1,2,3,5,6,7,8,9]<|zR 2 6,(xx qh<|t_n<|zf<|sq 2<|oF J<|oL J (H.cell 2 J J)<|sp (yI c) ?_)⟩
   obtain⟨aMo,rfl⟩:=H.jm 3 rfl qf
   refine oI J J<|sw<|XI H 3 J false sizeOf4 J J (i:=c.toNat) qf qf fun aOX H=>xX<|ret0 J ⟨_,J,?_⟩
   replace H:=H.erases [1,0]
   dsimp only[zL,List.eraseIdx,List.set] at H
   refine xX<|b_n<|t_n<|zf<|sp (yI c)<|sw<|o_sub c 1 J J qf<|sq 1<|xX ?_
   rw[VC] at H
   refine xu (m':=((c-1):Int).toNat) qf ⟨_,_,_,_,_,_,j+1,uE5,?_,?_,?_,?_,J,N,H.pick (zR 0 8) (0::zR 3 5)⟩
   ·(rw[meltDown_yesL (c:=c) ‹_› qf qf J ic];rfl)
   ·(rw[meltDown_yesL (c:=c) ‹_› qf qf J ic];rfl)
   ·omega
   ·omega
  refine xe<|b_n<|t_n<|zf<|sp (yI c)<|sw<|o_sub c 1 J J qf<|sq 1<|xX ?_
  rw[VC] at H
  refine xu (m':=((c-1):Int).toNat) qf ⟨_,_,_,_,_,_,j+1,uE5,?_,?_,?_,?_,J,N,H⟩
  ·rw[meltDown_noL (c:=c) ‹_› qf qf J ic]
  ·rw[meltDown_noL (c:=c) ‹_› qf qf J ic]
  ·omega
  ·omega
 refine zx4<|zcr<|sw<|xW (yS s qM qL xm xh) isAgg27 sizeOf27 J (qH (H.cells 7 J) 0 3)<|sw<|xW [Sv im (((zX s t counts).qO).length) ir,Sv kq (((zX s t counts).qG).length) hY,Sv iA (((zW s counts (zX s t counts) j).qF).length) iJ] isAgg31 sizeOf31 J (qH (H.cells 0 J) 0 3)<|sw<|vF #[.agg #[yI s.qQ,Sv qM s.qA.length qL,Sv xm s.qB.length xh],.agg #[Sv im (((zX s t counts).qO).length) ir,Sv kq (((zX s t counts).qG).length) hY,Sv iA (((zW s counts (zX s t counts) j).qF).length) iJ]] J J call85<|en func85 ntmps85 ?_
 refine zcr<|sw<|jb H (yS s qM qL xm xh) fun aP9 aPa H=>sw<|jb H [Sv im (((zX s t counts).qO).length) ir,Sv kq (((zX s t counts).qG).length) hY,Sv iA (((zW s counts (zX s t counts) j).qF).length) iJ] fun aNO aQp H=>sw<|x8 H ti31 [yN,yN,yN] fun aL0 aPq H=>sp (yI 0)<|zjcc<|sw<|xW (yS s qM qL xm xh) isAgg27 sizeOf27 J (qH (H.cells 2 J) 0 3)<|sw<|xW [Sv im (((zX s t counts).qO).length) ir,Sv kq (((zX s t counts).qG).length) hY,Sv iA (((zW s counts (zX s t counts) j).qF).length) iJ] isAgg31 sizeOf31 J (qH (H.cells 1 J) 0 3) ?_
 obtain⟨aNx,Wn,axi⟩:=H.rowIsB 4 rfl
 obtain⟨aIS,YA,aAO⟩:=H.Vd (α:=yLI) 5 rfl 0 rfl qj
 obtain⟨aQj,aH4,av1⟩:=H.Xv 6 rfl
 refine sw<|oq (VF (by rw[←Wn,←YA])<|validState_ok _ s (zW s counts (zX s t counts) j) (H.get 1 J).1 (H.get 2 J).1 (Wn▸axi) (YA▸aAO) av1) H fun aPy H=>sq 1<|zjn<|cQ J (fun aBD=>?_)<|fun aBD=>?_
 ·refine zcr (sw<|vZ [yN,yN,yN] []<|sw<|xZ H 0 [yN,yN,yN] sizeOf31 fun aQu H=>sp (yI 3)<|zjr<|t_r<|retC2 H 0 J (yI 3) J isAgg31 sizeOf31 J J ⟨_,J,?_⟩)
  replace H:=H.erases [2,1,0]
  dsimp only[zL,List.eraseIdx,List.set] at H
  refine sq 1<|sp (yI 3)<|sw<|xZ H 5 [yN,yN,yN] sizeOf31 fun aNp H=>sp (yI 3)<|zjr ?_
  replace H:=H.nilRowB 4
  replace H:=H.nilRow 24 1
  replace H:=H.yF (α:=yLI)
  replace H:=H.nilRowI 2
  refine retC2 H 8 J (yI 3) J isAgg31 sizeOf31 J J ⟨_,J,?_,H.base⟩
  rw[stepBy_yes p3,stepRes,show xJ s-1=j by omega,told_no<|fun h=>‹¬(jW s/\_)› ⟨p0,h⟩]
  exact⟨none,0,0,none,0,0,[],[],none,0,0,J,(N.emp.pick [0]),H.pick [2,1,0] [0]⟩
 refine xe<|t_n<|zcr<|sw<|xW [Sv im (((zX s t counts).qO).length) ir,Sv kq (((zX s t counts).qG).length) hY,Sv iA (((zW s counts (zX s t counts) j).qF).length) iJ] isAgg31 sizeOf31 J (qH (H.cells 1 J) 0 3)<|sw<|xZ H 0 [Sv im (((zX s t counts).qO).length) ir,Sv kq (((zX s t counts).qG).length) hY,Sv iA (((zW s counts (zX s t counts) j).qF).length) iJ] sizeOf31 fun aJc H=>sp (yI 0)<|zjr<|retC2 H 0 J (yI 0) J isAgg31 sizeOf31 J J ⟨_,J,?_⟩
 replace H:=H.erases [2,1,0]
 dsimp only[zL,List.eraseIdx,List.set] at H
 refine sq 1<|sp (yI 0)<|sw<|xZ H 5 [Sv im (((zX s t counts).qO).length) ir,Sv kq (((zX s t counts).qG).length) hY,Sv iA (((zW s counts (zX s t counts) j).qF).length) iJ] sizeOf31 fun aMZ H=>sp (yI 0)<|zjr<|retC2 H 5 J (yI 0) J isAgg31 sizeOf31 J J ⟨_,J,?_,H.base⟩
 rw[stepBy_yes p3,stepRes,show xJ s-1=j by omega,told_yes (‹jW s/\_›:jW s/\_).2]
 exact⟨im,((zX s t counts).qO).length,ir,kq,((zX s t counts).qG).length,hY,XT,Qs,iA,((zW s counts (zX s t counts) j).qF).length,iJ,J,N,H.pick [1,2,3] [0]⟩
end
section
class CntTot(α:Type)[Mark α][Tot α]:Prop where
 le:∀x:α,dc x<=10+10*tot x
instance:CntTot Int:=⟨fun _=>by show 1<=_;omega⟩
instance:CntTot Bool:=⟨fun _=>by show 1<=_;omega⟩
section
variable{α : Type}[Mark α][Tot α][Inhabited α][CntTot α]
theorem cntTo_tot(l:List α):∀k,cntTo l k<=10*k+10*totTo l k
 |0=>Nat.zero_le _
 |k+1=>by
  have h1:=cntTo_tot l k
  have h2:=CntTot.le<|l[k]!
  rw[cntTo_succ,totTo_succ]
  omega
theorem cntL_tot(l:List α):dc l<=10*tot l:=by
 have:=cntTo_tot l l.length
 rw[cnt_list,tot_list]
 omega
instance:CntTot (List α):=⟨fun l=>by have:=cntL_tot l;omega⟩
end
instance:CntTot IntoD:=⟨fun x=>by
 have h1:=cntL_tot x.Xc
 have h2:=tot_IntoD x
 have h3:=cnt_IntoD x
 omega⟩
instance:CntTot yz:=⟨fun x=>by
 have h1:=cntL_tot x.vg
 have h2:=cntL_tot x.jI
 have h3:=cntL_tot x.jK
 have h4:=cntL_tot x.jq
 have h5:=cntL_tot x.Qz
 have h6:=cntL_tot x.xn
 have h7:=tot_RuleD x
 have h8:=cnt_RuleD x
 omega⟩
theorem anyTo_mem{x:Int}:anyTo (fun k=>x == l[k]!) l.length=dec (x∈l):=by
 refine dec_eq ?_
 rw[anyTo_iff]
 constructor
 ·rintro⟨k,h,h1⟩
  rw[beq_iff_eq,getElem!_pos l k h] at h1
  rw[h1];exact List.getElem_mem h
 ·intro h
  obtain⟨k,hk,e⟩:=List.mem_iff_getElem.1 h
  exact⟨k,hk,by rw[beq_iff_eq,getElem!_pos l k hk,e]⟩
def minTo(l:yLI):Nat->Int
 |0=>l[0]!
 |k+1=>if k=0 then l[0]! else min (minTo l k) l[k]!
theorem minTo_one(l:yLI):minTo l 1=l[0]! :=rfl
theorem minTo_succ(h:1<=k):minTo l (k+1)=min (minTo l k) (l[k]!):=by rw[minTo,if_neg qf]
def minL(l:yLI):Int:=minTo l l.length
theorem minTo_neg{l:yLI}:∀ {k:Nat},1<=k->(minTo l k<0<->∃j,j<k/\l[j]!<0)
 |1,_=>by
  rw[minTo_one]
  constructor
  ·intro h;exact⟨0,by omega,h⟩
  ·rintro⟨j,h,h1⟩;obtain rfl:j=0:=by omega
   exact h1
 |k+2,_=>by
  have ih:=minTo_neg (l:=l) (k:=k+1) qf
  rw[minTo_succ qf]
  constructor
  ·intro h
   by_cases h1:minTo l (k+1)<0
   ·obtain⟨j,h2,h3⟩:=ih.1 h1;exact⟨j,by omega,h3⟩
   ·exact⟨k+1,by omega,by omega⟩
  ·rintro⟨j,h,h1⟩
   by_cases e:j=k+1
   ·subst e;omega
   ·have:=ih.2 ⟨j,by omega,h1⟩;omega
theorem minL_neg(h:1<=l.length):minL l<0<->¬ ∀k,k<l.length->0<=l[k]! :=by
 unfold minL
 rw[minTo_neg h]
 constructor
 ·rintro⟨j,h1,h2⟩ h3;have:=h3 j h1;omega
 ·intro h1
  apply Classical.byContradiction
  intro h2
  refine h1 fun k hk=>?_
  have:¬l[k]!<0:=fun h3=>h2 ⟨k,hk,h3⟩
  omega
def single(s:qJ)(i:Nat):yLI:=(List.replicate s.qB.length (0:Int)).set i 1
end
section
variable{cl : Nat}
theorem indexI_ok(w:World)(l:yLI)(x:Int)(hl:zP w Fl al cl l):Calls Tryz.prog 173 #[Sv al l.length cl,yI x] w (Ret (fun v w'=>v=yI (firstIdx (fun k=>x == l[k]!) l.length)) w):=by
 refine en func173 ntmps173 ?_
 have H:=(St.start w).arg hl
 have Cr:=qN hl
 clear hl
 have N:=Fresh.nil w.heap.size
 refine zcr<|sp (yI 0)<|zjcc<|sq 1<|oN J<|sp (yI 0)<|zjn<|xg<|vk ((fun Z0=>fun m' ρ w1=>∃(xR:Env) (i:Nat),ρ=upd (upd (upd (upd xR 0<|Sv al l.length cl) 1<|yI x) 7<|yI l.length) 8 (yI i)/\((i:Int)<=l.length)/\(noneTo (fun k=>x == l[k]!) i)/\m'=(l.length-(i:Int)).toNat/\Fresh w.heap.size []/\St w w1 [] [Z0]) _) ((l.length-(0:Int)).toNat) ⟨_,0,uE4,qf,qx,J,N,H⟩ ?_
 clear H N
 rintro m' ρ w2 ⟨xR,i,rfl,i0,i1,rfl,N,H⟩
 refine zcr<|sq 1<|zjn<|xO<|cD J (fun h3=>?_)<|fun h3=>?_
 ·refine xe (t_n<|xO<|xg<|zcr<|sp (yI i)<|sp (yI i)<|zjc<|sp (yI x)<|sq 1<|sp (yI i) ?_)
  obtain⟨b4,o5,rfl⟩:=H.addr 0 rfl qf
  refine oI J J<|oL J (H.vM 0 J i qf)<|sq 1<|zjn<|cE J (fun h7=>?_)<|fun h7=>?_
  ·refine zcr (sp (yI i)<|sp (yI i)<|zjr<|zr5<|rH1 (yI i) H ?_)
   rw[firstIdx_some (k:=i) qf i1<|by simpa using ‹x=l[i]!›]
  refine xe<|b_n<|t_n<|zf<|sw<|zY i 1 J J qf<|sq 1<|xX<|xu (m':=(l.length-((i+1):Int)).toNat) qf ⟨_,i+1,uE4,?_,?_,J,N,H⟩
  ·omega
  ·exact noneTo_succ ‹_› (by simpa using ‹x≠l[i]!›)
 refine zx4<|zcr<|sq 1<|zjr<|rH1 (yI (-1)) H ?_
 rw[firstIdx_none<|fun j hj=>i1 j qf]
theorem containsI_ok(w:World)(l:yLI)(x:Int)(hl:zP w Fl al cl l):Calls Tryz.prog 159 #[Sv al l.length cl,yI x] w (Ret (fun v w'=>v=Bv (dec ((x:Int)∈l))) w):=by
 refine en func159 ntmps159 ?_
 have H:=(St.start w).arg hl
 clear hl
 refine zcr<|sp (Bv false)<|zjc<|sq 1<|sp (yI x)<|sw<|oq (indexI_ok _ l x (H.get 0 J).1) H fun w2 H=>sp (Bv<|decide ((firstIdx (fun k=>x == l[k]!) l.length:Int)>=0))<|sp (Bv<|decide ((firstIdx (fun k=>x == l[k]!) l.length:Int)>=0))<|zjr<|rH1 (Bv<|decide ((firstIdx (fun k=>x == l[k]!) l.length:Int)>=0)) H ?_
 rw[anyTo_first,anyTo_mem]
theorem minI_ok(w:World)(l:yLI)(hl:zP w Fl al cl l)(p0:1<=l.length):Calls Tryz.prog 54 #[Sv al l.length cl] w (Ret (fun v w'=>v=yI (minL l)) w):=by
 refine en func54 ntmps54 ?_
 have H:=(St.start w).arg hl
 have Cr:=qN hl
 clear hl
 have N:=Fresh.nil w.heap.size
 refine zcr<|sp (yI 0)<|zjcc<|sq 1<|oN J<|sp (Bv<|decide ((l.length:Int)<1))<|zjn<|cD J (fun h1=>?_)<|fun h1=>?_
 ·exfalso;omega
 refine xe<|t_n<|zcr<|sq 1 ?_
 obtain⟨b2,o3,rfl⟩:=H.addr 0 rfl qf
 refine oI J J<|oL J (H.vM 0 J 0 qf)<|sq 1<|zjcc<|sp (yI 1)<|zjn<|xg<|vk ((fun Z0=>fun m' ρ w5=>∃(xR:Env) (m:Int) (i:Nat),ρ=upd (upd (upd xR 0<|Sv (aa b2 o3) l.length cl) 3<|yI m) 4 (yI i)/\m=minTo l i/\((i:Int)<=l.length)/\(1<=i)/\m'=(l.length-(i:Int)).toNat/\Fresh w.heap.size []/\St w w5 [] [Z0]) _) ((l.length-(1:Int)).toNat) ⟨_,l[0]!,1,uE3,(by exact(minTo_one l).symm),qf,qf,J,N,H⟩ ?_
 clear H N
 rintro m' ρ w6 ⟨xR,m,i,rfl,rfl,i0,i2,rfl,N,H⟩
 refine zcc<|sp (yI i)<|sq 1<|oN J<|sq 1<|zjn<|cD J (fun h7=>?_)<|fun h7=>?_
 ·refine xe (t_n<|xO<|xg<|zf<|sq 2<|sp (yI i)<|oI J J<|oL J (H.vM 0 J i qf)<|sw<|o_min (minTo l i) l[i]! rfl J<|sq 1<|xX<|b_n<|t_n<|zf<|sp (yI i)<|sw<|zY i 1 J J qf<|sq 1<|xX<|xu (m':=(l.length-((i+1):Int)).toNat) qf ⟨_,_,i+1,uE3,?_,?_,?_,J,N,H⟩)
  ·exact(minTo_succ qf).symm
  ·omega
  ·omega
 refine zx4<|zcr<|sq 2<|zjr<|rH1 (yI<|minTo l i) H ?_
 obtain rfl:i=l.length:=by omega
 rfl
end
section
def StillTo(s:qJ)(k:Nat):Prop:=∀i,i<k->s.qB[i]!.je=false
theorem StillTo.succ(h:StillTo s k)(h1:s.qB[k]!.je=false):StillTo s (k+1):=fun j hj=>by
 by_cases e:j=k
 ·subst e;exact h1
 ·exact h j qf
abbrev Still(s:qJ):Prop:=StillTo s s.qB.length
def WholeTo(t:qV)(k:Nat):Prop:=∀c,c<k->t.qO[c]! =true
theorem WholeTo.succ{t:qV}(h:WholeTo t k)(h1:t.qO[k]! =true):WholeTo t (k+1):=fun j hj=>by
 by_cases e:j=k
 ·subst e;exact h1
 ·exact h j qf
abbrev Whole(t:qV):Prop:=WholeTo t t.qO.length
theorem whole_any{t:qV}:anyTo (fun k=>false == t.qO[k]!) t.qO.length=dec (¬Whole t):=by
 refine dec_eq ?_
 rw[anyTo_iff]
 constructor
 ·rintro⟨k,hk,h⟩ hw
  rw[hw k hk] at h;cases h
 ·intro h
  apply Classical.byContradiction
  intro hn
  refine h fun c hc=>?_
  cases hx:t.qO[c]! with
  |true=>rfl
  |false=>exact absurd ⟨c,hc,by rw[hx];rfl⟩ hn
theorem whole_parent{t:qV}(hw:Whole t)(hs:yf s)(hl:t.qO.length=s.qA.length){c:Int}(h0:0<c)(h1:c<=(s.qA.length:Int)-1):xY s t c=s.qA[c.toNat]! :=by
 have hu:=hs.up h0 h1
 unfold xY
 refine climb_end fun h=>?_
 have:=hw s.qA[c.toNat]!.toNat qf
 rw[this] at h;cases h.2
def Xa(s:qJ)(t:qV)(counts:yLI)(cell:Int):Nat->Nat->Nat->Int
 |0,_,_=>0
 |i+1,p,q=>Xa s t counts cell i p q+if s.qB[i]!.qW=cell then putF s t s.qB[i]! counts[i]! p q else 0
theorem puts_yes{t:qV}{counts:yLI}{cell:Int}(h:s.qB[i]!.qW=cell)(p q:Nat):Xa s t counts cell (i+1) p q=Xa s t counts cell i p q+putF s t s.qB[i]! counts[i]! p q:=by rw[Xa,if_pos h]
theorem puts_no{t:qV}{counts:yLI}{cell:Int}(h:s.qB[i]!.qW≠cell)(p q:Nat):Xa s t counts cell (i+1) p q=Xa s t counts cell i p q:=by rw[Xa,if_neg h];omega
theorem puts_zero{t:qV}{counts:yLI}{cell:Int}(h:counts[i]! =0)(p q:Nat):Xa s t counts cell (i+1) p q=Xa s t counts cell i p q:=by
 rw[Xa]
 split
 ·rw[putF_zero s t _ h];omega
 ·omega
def jG(s:qJ)(k:Nat):yLL:=List.replicate k<|List.replicate s.qQ.toNat 0
theorem zeros_snoc(s:qJ)(k:Nat):jG s k++[List.replicate s.qQ.toNat 0]=jG s (k+1):=by
 unfold jG;rw[←List.replicate_succ']
theorem zeros_len(s:qJ)(k:Nat):(jG s k).length=k:=by simp[jG]
theorem zeros_ent{B:Int}(hB:0<=B):Ent n (vG s) (fun _ _=>0) B (jG s n):=by
 have hr:∀p,p<n->(jG s n)[p]! =List.replicate s.qQ.toNat 0:=fun p hp=>by
  rw[getElem!_pos (jG s n) p<|by rw[zeros_len];exact hp];simp[jG]
 have hz:∀k,k<vG s->(List.replicate s.qQ.toNat (0:Int))[k]! =0:=fun k hk=>by
  rw[getElem!_pos (List.replicate s.qQ.toNat (0:Int)) k<|by simpa [vG] using hk];simp
 refine⟨⟨zeros_len _ _,fun p hp=>?_⟩,fun p k hp hk=>?_⟩
 ·rw[hr p hp]
  refine⟨by simp[vG],fun k hk=>?_⟩
  rw[hz k hk];omega
 ·rw[hr p hp,hz k hk]
def TookOk(s:qJ)(l:yLI)(i:Nat):Prop:=l.length=vG s/\∀q,q<vG s-> -(1000000*(i:Int))<=l[q]! /\l[q]! <=1000000*(i:Int)
theorem TookOk.zero(s:qJ):TookOk s (List.replicate s.qQ.toNat 0) 0:=by
 refine⟨by simp[vG],fun k hk=>?_⟩
 rw[getElem!_pos (List.replicate s.qQ.toNat (0:Int)) k<|by simpa [vG] using hk];simp
theorem TookOk.keep(h:TookOk s l i):TookOk s l (i+1):=⟨h.1,fun q hq=>by have:=h.2 q hq;omega⟩
theorem TookOk.plus{m:yLI}{n:Int}(h:TookOk s l i)(hm:jd s.qQ m)(hn: -1000<=n/\n<=1000):TookOk s (vX l m n) (i+1):=by
 refine⟨by rw[QL];exact h.1,fun q hq=>?_⟩
 rw[plus_get<|by rw[h.1];exact hq]
 have:=h.2 q hq
 have:=hm.mul hn q hq
 omega
theorem TookOk.mid(h:TookOk s l i)(hi:i<=16)(hk:vG s<=8):l.length=vG s/\Mid l:=by
 refine⟨h.1,by have:=h.1;omega,fun q hq=>?_⟩
 have:=h.2 q (by have:=h.1;omega)
 omega
def yX(b:yLL)(k:Nat):Prop:=∀j,j<k->Yj b[j]!
theorem yX.succ{b:yLL}(h:yX b k)(h1:Yj b[k]!):yX b (k+1):=fun j hj=>by
 by_cases e:j=k
 ·subst e;exact h1
 ·exact h j qf
theorem bagAny_ok:jd (l.length:Int) l<->Yj l:=⟨fun h=>h.1,fun h=>⟨h,rfl⟩⟩
def jX(s:qJ)(t:qV)(counts:yLI)(cell:Int):yLL:=tab2 (xJ s+1) (vG s)<|Xa s t counts cell s.qB.length
def sumN(f:Nat->Int):Nat->Int
 |0=>0
 |n+1=>sumN f n+f n
theorem sumN_zero(n:Nat):sumN (fun _=>0) n=0:=by
 induction n with
 |zero=>rfl
 |succ n ih=>rw[sumN,ih];rfl
theorem sumN_add(f g:Nat->Int)(n:Nat):sumN (fun c=>f c+g c) n=sumN f n+sumN g n:=by
 induction n with
 |zero=>rfl
 |succ n ih=>rw[sumN,sumN,sumN,ih];omega
theorem sumN_one(x v:Int)(n:Nat):sumN (fun c=>if x=(c:Int) then v else 0) n=if 0<=x/\x<n then v else 0:=by
 induction n with
 |zero=>rw[sumN,if_neg qf]
 |succ n ih=>
  rw[sumN,ih]
  by_cases e:x=(n:Int)
  ·rw[if_neg qf,if_pos e,if_pos qf];omega
  ·rw[if_neg e]
   by_cases h:0<=x/\x<n
   ·rw[if_pos h,if_pos qf];omega
   ·rw[if_neg h,if_neg qf];rfl
theorem still_down{s:qJ}{counts:yLI}{u:qV}(h:∀i,i<s.qB.length->s.qB[i]!.je=false):∀j,zW s counts u j=u
 |0=>rfl
 |j+1=>by
  rw[meltDown_no (fun hm=>?_) J]
  ·exact still_down h j
  ·obtain⟨i,h1,_,h3,_⟩:=hm
   rw[h i h1] at h3;cases h3
theorem needS_nonpos{s:qJ}{counts:yLI}(hs:jW s)(hc:CntOk s counts)(p q:Nat)(hq:q<vG s):∀k,k<=s.qB.length->needS s counts k p q<=0
 |0,_=>by simp[needS]
 |k+1,h=>by
  have ih:=needS_nonpos hs hc p q hq k qf
  have hb:=hc.bd (i:=k) qf
  have hn:=(hs.rule (i:=k) qf).2.2.2.2.1
  have hg:=hn.get (k:=q)<|by rw[hn.len];exact hq
  rw[needS]
  have:needF s counts k p q<=0:=by
   unfold needF at'
   split
   ·have:=Int.mul_nonneg hb.1 hg.1
    rw[Int.neg_mul];omega
   ·exact Int.le_refl _
  omega
theorem mul_bd{c m:Int}(hc:0<=c/\c<=M)(hm:0<=m/\m<=D):0<=c*m/\c*m<=M*D:=by
 refine⟨Int.mul_nonneg hc.1 hm.1,?_⟩
 have h1:=Int.mul_le_mul_of_nonneg_left hm.2 hc.1
 have h2:=Int.mul_le_mul_of_nonneg_right hc.2<|show 0<=D by omega
 omega
end
section
theorem intoF_bd8{s:qJ}{r:yz}{c:Int}(h:IntosTo s r r.xn.length)(h3:r.xn.length<=3)(hc:0<=c/\c<=1000)(p:Nat){q:Nat}(hq:q<vG s):∀j,j<=r.xn.length->0<=intoF r c j p q/\intoF r c j p q<=1000000*j
 |0,_=>by simp[intoF]
 |j+1,hj=>by
  have h1:=intoF_bd8 h h3 hc p hq j qf
  have h2:=(h j qf).2.2.1
  have h4:=h2.get (k:=q)<|by rw[h2.len];exact hq
  have h5:0<=c*(r.xn[j]!.Xc)[q]! /\c*(r.xn[j]!.Xc)[q]! <=1000000:=mul_bd (M:=1000) (D:=1000) hc h4
  simp only[intoF,at']
  split <;> omega
theorem putF_bd8{t:qV}{c:Int}(h:RuleOk s r)(hc:0<=c/\c<=1000)(p:Nat)(hq:q<vG s):0<=putF s t r c p q/\putF s t r c p q<=5000000:=by
 obtain⟨_,_,_,h3,_,_,_,h8,h9,_,cf⟩:=h
 have h1:=intoF_bd8 cf h3 hc p hq _<|Nat.le_refl _
 have h4:0<=c*(r.jq)[q]! /\c*(r.jq)[q]! <=1000000:=mul_bd (M:=1000) (D:=1000) hc<|h8.get (k:=q)<|by rw[h8.len];exact hq
 have h5:0<=c*(r.Qz)[q]! /\c*(r.Qz)[q]! <=1000000:=mul_bd (M:=1000) (D:=1000) hc<|h9.get (k:=q)<|by rw[h9.len];exact hq
 unfold putF at'
 split <;> split <;> omega
theorem putsOf_bd8{s:qJ}{t:qV}{counts:yLI}{cell:Int}(hs:jW s)(hc:CntOk s counts)(p:Nat){q:Nat}(hq:q<vG s):∀i,i<=s.qB.length->0<=Xa s t counts cell i p q/\Xa s t counts cell i p q<=5000000*i
 |0,_=>by simp[Xa]
 |i+1,hi=>by
  have h1:=putsOf_bd8 (t:=t) (cell:=cell) hs hc p hq i qf
  have h2:=putF_bd8 (t:=t) (hs.rule (i:=i) qf) (hc.bd (i:=i) qf) p hq
  rw[Xa]
  split <;> omega
theorem puts_shape{t:qV}{counts:yLI}(cell:Int)(hs:jW s)(hc:CntOk s counts):Shape (xJ s+1) (vG s) 80000000 (jX s t counts cell):=by
 refine⟨tab2_len _ _ _,fun p hp=>?_⟩
 have e:(jX s t counts cell)[p]! =(List.range<|vG s).map (Xa s t counts cell s.qB.length p):=tab2_row hp
 rw[e]
 refine⟨by simp,fun k hk=>?_⟩
 rw[getElem!_pos ((List.range<|vG s).map<|Xa s t counts cell s.qB.length p) k<|by simpa using hk]
 simp only[List.getElem_map,List.getElem_range]
 have:=putsOf_bd8 (t:=t) (cell:=cell) hs hc p hk s.qB.length<|Nat.le_refl _
 have:=hs.2.1
 omega
def vY(own:yLI)(p:Nat):Int:=if p=own.length then own[0]! else own[p]!
def OwnIn(own:yLI)(n:Nat):Prop:=0<own.length/\∀j,j<own.length->0<=own[j]! /\own[j]!<n
theorem OwnIn.at{own:yLI}(h:OwnIn own n)(hp:p<=own.length):0<=vY own p/\vY own p<n:=by
 unfold vY
 split
 ·exact h.2 0 h.1
 ·exact h.2 p qf
def addTo(own:yLI)(puts:yLL)(now:List yLL):Nat->List (yLL)
 |0=>now
 |x+1=>(addTo own puts now x).set (vY own x).toNat (((addTo own puts now x)[(vY own x).toNat]!).set x<|vX (((addTo own puts now x)[(vY own x).toNat]!)[x]!) puts[x]! 1)
noncomputable def Vl(s:qJ)(t:qV)(own:yLI)(i:Int)(n:Nat):Nat->List (yLL)
 |0=>List.replicate n<|jG s<|xJ s+1
 |c+1=>if own[c]! =i then addTo own (jX s t (xq s t) c) (Vl s t own i n c) (xJ s+1) else Vl s t own i n c
theorem nowTo_yes{t:qV}{own:yLI}{i:Int}(h:own[c]! =i):Vl s t own i n (c+1)=addTo own (jX s t (xq s t) c) (Vl s t own i n c) (xJ s+1):=by rw[Vl,if_pos h]
theorem nowTo_no{t:qV}{own:yLI}{i:Int}(h:own[c]! ≠i):Vl s t own i n (c+1)=Vl s t own i n c:=by rw[Vl,if_neg h]
def Cube(n N K:Nat)(B:Int)(m:List yLL):Prop:=m.length=n/\∀j,j<n->Shape N K B m[j]!
theorem Cube.row{B:Int}{m:List yLL}(h:Cube n N K B m)(hj:j<n):Shape N K B (m[j]!):=h.2 j hj
theorem Cube.mono{n N K:Nat}{B D:Int}{m:List yLL}(h:Cube n N K B m)(hD:B<=D):Cube n N K D m:=⟨h.1,fun j hj=>(h.2 j hj).mono hD⟩
theorem Cube.set{B:Int}{m:List yLL}(h:Cube n N K B m)(hj:j<n){b:yLL}(hb:Shape N K B b):Cube n N K B (m.set j b):=by
 refine⟨by simp[h.1],fun k hk=>?_⟩
 rw[getset<|by rw[h.1];exact hj]
 split
 ·exact hb
 ·exact h.2 k hk
def CubeAt(own:yLI)(n N K:Nat)(B D:Int)(x:Nat)(m:List yLL):Prop:=
 m.length=n/\∀j,j<n->m[j]!.length=N/\∀p,p<N->((m[j]!)[p]!).length=K/\∀k,k<K->(-D<=((m[j]!)[p]!)[k]! /\((m[j]!)[p]!)[k]! <=D)/\(x<=p-> -B<=((m[j]!)[p]!)[k]! /\((m[j]!)[p]!)[k]! <=B)
theorem CubeAt.cube{own:yLI}{B:Int}{x:Nat}{m:List yLL}(h:CubeAt own n N K B D x m):Cube n N K D m:=
 ⟨h.1,fun j hj=>⟨(h.2 j hj).1,fun p hp=>⟨((h.2 j hj).2 p hp).1,fun k hk=>(((h.2 j hj).2 p hp).2 k hk).1⟩⟩⟩
theorem addTo_at{own:yLI}{puts:yLL}{now:List yLL}{n N K:Nat}{B E:Int}(hn:Cube n N K B now)(hp:Shape N K E puts)(ho:OwnIn own n)(hN:N=own.length+1)(hE:0<=E):
 ∀x,x<=N->CubeAt own n N K B (B+E) x (addTo own puts now x)
 |0,_=>⟨hn.1,fun j hj=>⟨(hn.2 j hj).1,fun p hp=>⟨((hn.2 j hj).2 p hp).1,fun k hk=>by
  have:=((hn.2 j hj).2 p hp).2 k hk
  exact⟨by show -(B+E)<=((now[j]!)[p]!)[k]! /\((now[j]!)[p]!)[k]! <=B+E;omega,fun _=>this⟩⟩⟩⟩
 |x+1,hx=>by
  have ih:=addTo_at hn hp ho hN hE x qf
  have oa:=ho.at (p:=x) qf
  rw[addTo]
  refine⟨by simp[ih.1],fun j hj=>?_⟩
  rw[getset<|by rw[ih.1];omega]
  by_cases e:j=(vY own x).toNat
  ·rw[if_pos e]
   have r:=ih.2 (vY own x).toNat qf
   refine⟨by rw[List.length_set];exact r.1,fun p An =>?_⟩
   rw[getset<|by rw[r.1];omega]
   by_cases e2:p=x
   ·rw[if_pos e2]
    have rr:=r.2 x qf
    refine⟨by rw[QL];exact rr.1,fun k hk=>?_⟩
    rw[plus_get<|by rw[rr.1];exact hk]
    have h1:=(rr.2 k hk).2<|Nat.le_refl _
    have h2:=(hp.2 x qf).2 k hk
    exact⟨by omega,fun h=>by omega⟩
   ·rw[if_neg e2]
    have rr:=r.2 p An
    exact⟨rr.1,fun k hk=>⟨(rr.2 k hk).1,fun h=>(rr.2 k hk).2 qf⟩⟩
  ·rw[if_neg e]
   have r:=ih.2 j hj
   exact⟨r.1,fun p An =>⟨(r.2 p An).1,fun k hk=>⟨((r.2 p An).2 k hk).1,fun h=>((r.2 p An).2 k hk).2 qf⟩⟩⟩
theorem nowTo_cube{s:qJ}{t:qV}{own:yLI}{i:Int}{n:Nat}(hs:jW s)(ht:zA s t)(ho:OwnIn own n)(hl:own.length=xJ s):∀c:Nat,Cube n (xJ s+1) (vG s) (80000000*c) (Vl s t own i n c)
 |0=>by
  refine⟨by simp[Vl],fun j hj=>?_⟩
  rw[Vl,getElem!_pos (List.replicate n<|jG s<|xJ s+1) j<|by simpa using hj,List.getElem_replicate]
  exact((zeros_ent (s:=s) (n:=xJ s+1) (B:=0)<|Int.le_refl _).sh).mono qf
 |c+1=>by
  have ih:=nowTo_cube (i:=i) hs ht ho hl c
  by_cases h:own[c]! =i
  ·rw[nowTo_yes h]
   exact((addTo_at ih (puts_shape (t:=t) c hs<|XY hs ht) ho (by rw[hl]) qf _<|Nat.le_refl _).cube).mono qf
  ·rw[nowTo_no h]
   exact ih.mono qf
def OffZero(own:yLI)(N K:Nat)(j:Nat)(b:yLL):Prop:=∀p,p<N->vY own p≠(j:Int)->∀k,k<K->(b[p]!)[k]! =0
theorem addTo_off{own:yLI}{puts:yLL}{now:List yLL}{n N K:Nat}{B E:Int}(hn:Cube n N K B now)(hp:Shape N K E puts)(ho:OwnIn own n)(hN:N=own.length+1)(hE:0<=E)
 (h0:∀j,j<n->OffZero own N K j now[j]!):∀x,x<=N->∀j,j<n->OffZero own N K j ((addTo own puts now x)[j]!)
 |0,_=>h0
 |x+1,hx=>by
  have ih:=addTo_off hn hp ho hN hE h0 x qf
  have ia:=addTo_at hn hp ho hN hE x qf
  have oa:=ho.at (p:=x) qf
  intro j hj
  rw[addTo,getset<|by rw[ia.1];omega]
  by_cases e:j=(vY own x).toNat
  ·rw[if_pos e]
   intro p An iw k hk
   rw[getset<|by rw[(ia.2 _ qf).1];omega,if_neg<|by intro e2;subst e2;omega]
   have:=ih j hj p An iw k hk
   rwa [e] at this
  ·rw[if_neg e];exact ih j hj
theorem nowTo_off{s:qJ}{t:qV}{own:yLI}{i:Int}{n:Nat}(hs:jW s)(ht:zA s t)(ho:OwnIn own n)(hl:own.length=xJ s):∀c:Nat,∀j,j<n->OffZero own (xJ s+1) (vG s) j ((Vl s t own i n c)[j]!)
 |0=>fun j hj p hp _ k hk=>by
  rw[Vl,getElem!_pos (List.replicate n<|jG s<|xJ s+1) j<|by simpa using hj,List.getElem_replicate]
  exact(zeros_ent (s:=s) (n:=xJ s+1) (B:=0)<|Int.le_refl _).eq p k hp hk
 |c+1=>by
  have ih:=nowTo_off (i:=i) hs ht ho hl c
  by_cases h:own[c]! =i
  ·rw[nowTo_yes h]
   exact addTo_off (nowTo_cube hs ht ho hl c) (puts_shape (t:=t) c hs<|XY hs ht) ho (by rw[hl]) qf ih _<|Nat.le_refl _
  ·rw[nowTo_no h];exact ih
def AllB3(m:List yLL)(k:Nat):Prop:=∀j,j<k->yX m[j]! m[j]!.length
theorem AllB3.succ{m:List yLL}(h:AllB3 m k)(h1:yX m[k]! m[k]!.length):AllB3 m (k+1):=fun j hj=>by
 by_cases e:j=k
 ·subst e;exact h1
 ·exact h j qf
def XP(l m:yLL)(k:Nat):yLL:=(List.range k).map fun j=>vX l[j]! m[j]! 1
def QO(l m:yLL):yLL:=XP l m l.length
theorem Yi(l m:yLL)(k:Nat):(XP l m k).length=k:=by simp[XP]
theorem addTabTo_snoc(l m:yLL)(k:Nat):XP l m k++[vX l[k]! m[k]! 1]=XP l m (k+1):=by simp[XP,List.range_succ]
theorem addTabTo_get{l m:yLL}(h:j<k):(XP l m k)[j]! =vX l[j]! m[j]! 1:=by
 rw[getElem!_pos (XP l m k) j<|by rw[Yi];exact h];simp[XP]
def AllGot(l:List Bool)(k:Nat):Prop:=∀j,j<k->l[j]! =true
theorem AllGot.succ{l:List Bool}(h:AllGot l k)(h1:l[k]! =true):AllGot l (k+1):=fun j hj=>by
 by_cases e:j=k
 ·subst e;exact h1
 ·exact h j qf
def Xg(x:zI):Prop:=x.qR.qK=x.qC.qK/\x.qR.qY=true
def viewD(s:qJ)(d:zG):qV:=⟨List.replicate (xJ s) true,d.qG,d.qF⟩
noncomputable def nowD(s:qJ)(own:yLI)(n i:Nat)(d:zG):List yLL:=Vl s (viewD s d) own i n<|xJ s
noncomputable def bagsD(s:qJ)(d:zG):yLL:=restR s (viewD s d) (xq s<|viewD s d) s.qB.length
noncomputable def workD(s:qJ)(own:yLI)(n i:Nat)(d:zG):zG:=
 { d with qG:=bagsD s d,jH:=nowD s own n i d,qU:=(nowD s own n i d)[i]!,qY:=true,jA:=(List.replicate n false).set i true }
def Qd(v:zO)(i:Nat)(d:zG):zO:={ v with qE:=v.qE.set i { v.qE[i]! with qC:=d }}
def putSaved(v:zO)(i:Nat)(d:zG):zO:={ v with qE:=v.qE.set i { v.qE[i]! with qR:=d }}
def Yl(v:zO)(i:Int):Prop:=0<=i/\i<=(v.qE.length:Int)-1
open Classical in
noncomputable def workM(s:qJ)(own:yLI)(v:zO)(i:Nat):zO×Int:=
 if v.qE[i]!.qC.qY=true then (v,4) else if v.qE[i]!.qC.qK=100 then (v,3) else
  if AllB3 (nowD s own v.qE.length i v.qE[i]!.qC) v.qE.length then (Qd v i<|workD s own v.qE.length i v.qE[i]!.qC,0) else (v,3)
open Classical in
noncomputable def sendM(v:zO)(d:Qu):zO×Int:=
 if ¬Yl v d.fA\/¬Yl v d.fB\/d.fA=d.fB then (v,2) else
  if d.xQ=3 then
   if ¬Xg v.qE[d.fA.toNat]! then (v,4) else if v.vz.length=12 then (v,3) else
    ({ v with vz:=v.vz++[⟨v.qE[d.fA.toNat]!.qC.qK,d.fA,d.fB,(v.qE[d.fA.toNat]!.qR.jH)[d.fB.toNat]!⟩]},0)
  else if v.qE[d.fA.toNat]!.qC.qK=0 then (v,4) else if v.vz.length=12 then (v,3) else
   ({ v with vz:=v.vz++[⟨v.qE[d.fA.toNat]!.qC.qK-1,d.fA,d.fB,(v.qE[d.fA.toNat]!.qC.zM)[d.fB.toNat]!⟩]},0)
def sumD(d:zG):yLL:=QO (d.qG++[d.qF]) d.qU
def nextD(s:qJ)(d:zG):zG:=⟨d.qK+1,(sumD d).take<|xJ s,(sumD d)[xJ s]!,false,[],[],[],d.jH⟩
open Classical in
noncomputable def QR(s:qJ)(v:zO)(i:Nat):zO×Int:=
 if ¬(v.qE[i]!.qC.qY=true/\AllGot v.qE[i]!.qC.jA v.qE[i]!.qC.jA.length/\Xg v.qE[i]!) then (v,4) else
  if yX (sumD v.qE[i]!.qC) (sumD v.qE[i]!.qC).length then (Qd v i<|nextD s v.qE[i]!.qC,0) else (v,3)
def gotD(d:zG)(p:zC):zG:={ d with qU:=QO d.qU p.qG,jA:=d.jA.set p.Q9.toNat true }
open Classical in
noncomputable def comeM(v:zO)(p:zC):zO×Int:=
 if v.qE[p.fTo.toNat]!.qC.qY=false\/v.qE[p.fTo.toNat]!.qC.qK≠p.qK\/(v.qE[p.fTo.toNat]!.qC.jA)[p.Q9.toNat]! =true then (v,0) else
  if yX (QO v.qE[p.fTo.toNat]!.qC.qU p.qG) (QO v.qE[p.fTo.toNat]!.qC.qU p.qG).length then (Qd v p.fTo.toNat<|gotD v.qE[p.fTo.toNat]!.qC p,0) else (v,3)
open Classical in
noncomputable def wireM(v:zO)(d:Qu):zO×Int:=
 if (v.vz.length:Int)<=d.fA then (v,2) else
  let r:=if d.xQ=8 then (v,0) else comeM v v.vz[d.fA.toNat]!
  if r.2≠0 then r else if d.xQ=7 then r else ({ r.1 with vz:=r.1.vz.eraseIdx d.fA.toNat },0)
open Classical in
noncomputable def doM(s:qJ)(own:yLI)(v:zO)(d:Qu):zO×Int:=
 if d.xQ=3\/d.xQ=4 then sendM v d else if d.xQ=6\/d.xQ=7\/d.xQ=8 then wireM v d else if ¬Yl v d.fA then (v,2) else
  if d.xQ=1 then workM s own v d.fA.toNat else if d.xQ=5 then QR s v d.fA.toNat else
   if d.xQ=2 then (putSaved v d.fA.toNat v.qE[d.fA.toNat]!.qC,0) else (Qd v d.fA.toNat v.qE[d.fA.toNat]!.qR,0)
def VT(d:Qu):Prop:=(1<=d.xQ/\d.xQ<=9)/\(0<=d.fA/\d.fA<=999)/\(0<=d.fB/\d.fB<=999)/\(d.xQ=3\/d.xQ=4\/d.fB=0)
noncomputable def x9(s:qJ)(own:yLI)(v:zO)(l:List Qu):Nat->zO×Int
 |0=>(v,0)
 |k+1=>((doM s own (x9 s own v l k).1<|l[k]!).1,(x9 s own v l k).2+if (doM s own (x9 s own v l k).1<|l[k]!).2=0 then 1 else 0)
def Vs(s:qJ)(own:yLI)(t:qV)(i:Nat):zG:=
 ⟨0,(List.range<|xJ s).map fun c=>if own[c]! =(i:Int) then t.qG[c]! else List.replicate (vG s) 0,if own[0]! =(i:Int) then t.qF else List.replicate (vG s) 0,false,[],[],[],[]⟩
def yZ(s:qJ)(own:yLI)(t:qV)(k:Nat):List zI:=(List.range k).map fun i=>⟨Vs s own t i,Vs s own t i⟩
def xk(s:qJ)(own:yLI)(t:qV)(n:Nat):zO:=⟨yZ s own t n,[]⟩
structure PutOk(s:qJ)(own:yLI)(j:Nat)(b:yLL):Prop where
 len:b.length=xJ s+1
 bag:∀p,p<xJ s+1->jd s.qQ b[p]!
 off:OffZero own (xJ s+1) (vG s) j b
def PutsOk(s:qJ)(own:yLI)(n:Nat)(m:List yLL):Prop:=m.length=n/\∀j,j<n->PutOk s own j m[j]!
structure jk(s:qJ)(own:yLI)(n i:Nat)(d:zG):Prop where
 rnd:0<=d.qK/\d.qK<=100
 all:PutOk s own i (d.qG++[d.qF])
 got:d.qY=true->d.qK<=99/\d.jA.length=n/\PutOk s own i d.qU/\PutsOk s own n d.jH
 last:0<d.qK->PutsOk s own n d.zM
 rest:d.qY=false->d.jA=[]/\d.qU=[]/\d.jH=[]
 fst:d.qK=0->d.zM=[]
def ParcelOk(s:qJ)(own:yLI)(n:Nat)(p:zC):Prop:=(0<=p.Q9/\p.Q9<n)/\(0<=p.fTo/\p.fTo<n)/\PutOk s own p.fTo.toNat p.qG/\0<=p.qK/\p.qK<=100
structure Vo(s:qJ)(own:yLI)(n:Nat)(v:zO):Prop where
 len:v.qE.length=n
 srv:∀i,i<n->jk s own n i v.qE[i]!.qC/\jk s own n i v.qE[i]!.qR
 few:v.vz.length<=12
 wire:∀k,k<v.vz.length->ParcelOk s own n v.vz[k]!
structure Giv(s:qJ)(own:yLI)(n:Nat):Prop where
 sys:jW s
 len:own.length=xJ s
 own:OwnIn own n
 few:n<=4
section
variable{s : qJ}{own : yLI}{n : Nat}
theorem kindsN_eq(hs:yf s):(vG s:Int)=s.qQ:=by unfold vG;have:=hs.1.1;omega
theorem bagOk_of(hs:yf s)(hl:l.length=vG s)(hb:∀k,k<vG s->0<=l[k]! /\l[k]! <=1000):jd s.qQ l:=by
 have h:=kindsN_eq hs
 have h1:=hs.1
 refine⟨⟨fun k hk=>hb k qf,by omega,by omega⟩,by omega⟩
theorem jk.Vr(h:jk s own n i d):d.qG.length=xJ s:=by have:=h.all.len;simpa using this
theorem jk.bagAt(h:jk s own n i d)(hp:p<xJ s):jd s.qQ (d.qG[p]!):=by
 have:=h.all.bag p qf
 rwa [cat_get<|by rw[h.Vr];exact hp] at this
theorem jk.aroundOk(h:jk s own n i d):jd s.qQ d.qF:=by
 have:=h.all.bag (xJ s) qf
 rwa [cat_getN h.Vr] at this
theorem rep_getB(m k:Nat)(h:k<m):(List.replicate m true)[k]! =true:=by
 rw[getElem!_pos (List.replicate m true) k<|by simpa using h];simp
theorem jk.view(hs:yf s)(h:jk s own n i d):zA s (viewD s d):=
 ⟨by simp[viewD],by simpa [viewD] using h.Vr,by
  have:0<s.qA.length:=by have:=hs.2.1;omega
  exact rep_getB _ _ this,h.aroundOk,fun c hc=>by
  have hc':c<xJ s:=by have:=h.Vr;simp only[viewD] at hc;omega
  exact⟨h.bagAt hc',fun e=>by
   have:=rep_getB (xJ s) c hc'
   simp only[viewD] at e
   rw[this] at e;cases e⟩⟩
theorem view_whole(d:zG):Whole (viewD s d):=fun c hc=>rep_getB _ _<|by simpa [viewD] using hc
theorem bagsD_rows(hg:Giv s own n)(h:jk s own n i d):(bagsD s d).length=xJ s/\∀p,p<xJ s->jd s.qQ ((bagsD s d)[p]!)/\∀k,k<vG s->((bagsD s d)[p]!)[k]! =(d.qG[p]!)[k]! +needS s (xq s<|viewD s d) s.qB.length p k:=by
 have hs:=hg.sys
 have ht:=h.view hs.1
 have e:bagsD s d=jL s (viewD s d) s.qB.length:=first_rest hs ht _<|Nat.le_refl _
 have b:=firstR_box hs ht s.qB.length<|Nat.le_refl _
 have r:=restR_ent hs ht (XY hs ht) s.qB.length<|Nat.le_refl _
 refine⟨by rw[e];exact b.1,fun p hp=>⟨?_,fun k hk=>r.eq p k hp hk⟩⟩
 rw[e]
 exact bagOk_of hs.1 (b.2 p hp).1 (b.2 p hp).2
theorem PutOk.mk'{b:yLL}{B:Int}(hs:yf s)(hb:Shape (xJ s+1) (vG s) B b)(ha:yX b b.length)(ho:OffZero own (xJ s+1) (vG s) j b):PutOk s own j b:=
 ⟨hb.1,fun p hp=>by
  have h1:=ha p (by rw[hb.1];exact hp)
  have h2:=(hb.2 p hp).1
  exact⟨h1,by have:=kindsN_eq hs;omega⟩,ho⟩
theorem PutOk.shape{b:yLL}(h:PutOk s own j b):Shape (xJ s+1) (vG s) 1000 b:=
 ⟨h.len,fun p hp=>⟨(h.bag p hp).len,fun k hk=>by have:=(h.bag p hp).get (k:=k) (by rw[(h.bag p hp).len];exact hk);omega⟩⟩
theorem workD_ok(hg:Giv s own n)(h:jk s own n i d)(hi:i<n)(hr:d.qK≠100)(ha:AllB3 (nowD s own n i d) n):jk s own n i (workD s own n i d):=by
 have hs:=hg.sys
 have ht:=h.view hs.1
 have hb:=bagsD_rows hg h
 have cube:=nowTo_cube (i:=i) hs ht hg.own hg.len<|xJ s
 have off:=nowTo_off (i:=i) hs ht hg.own hg.len<|xJ s
 have puts:PutsOk s own n (nowD s own n i d):=⟨cube.1,fun j hj=>PutOk.mk' hs.1 (cube.2 j hj) (ha j hj)<|off j hj⟩
 refine⟨h.rnd,⟨by simp[workD,hb.1],fun p hp=>?_,fun p hp iw k hk=>?_⟩,fun _=>⟨by have:=h.rnd;show d.qK<=99;omega,by simp[workD],puts.2 i hi,puts⟩,h.last,fun e=>by simp[workD] at e,h.fst⟩
 ·by_cases e:p<xJ s
  ·show jd s.qQ ((bagsD s d++[d.qF])[p]!)
   rw[cat_get<|by rw[hb.1];exact e];exact(hb.2 p e).1
  ·obtain rfl:p=xJ s:=by omega
   show jd s.qQ ((bagsD s d++[d.qF])[xJ s]!)
   rw[cat_getN hb.1];exact h.aroundOk
 ·have h0:=h.all.off p hp iw k hk
  show ((bagsD s d++[d.qF])[p]!)[k]! =0
  by_cases e:p<xJ s
  ·rw[cat_get<|by rw[h.Vr];exact e] at h0
   rw[cat_get<|by rw[hb.1];exact e]
   have h1:=(hb.2 p e).2 k hk
   have h2:=needS_nonpos hs (XY hs ht) p k hk s.qB.length<|Nat.le_refl _
   have h3:=(hb.2 p e).1.get (k:=k)<|by rw[(hb.2 p e).1.len];exact hk
   omega
  ·obtain rfl:p=xJ s:=by omega
   rw[cat_getN h.Vr] at h0
   rwa [cat_getN hb.1]
theorem addTab_rows{b c:yLL}(hb:PutOk s own j b)(hc:PutOk s own j c):(QO b c).length=xJ s+1/\∀p,p<xJ s+1->((QO b c)[p]!).length=vG s/\∀k,k<vG s->((QO b c)[p]!)[k]! =(b[p]!)[k]! +(c[p]!)[k]! :=by
 have hl:(QO b c).length=xJ s+1:=by unfold QO;rw[Yi];exact hb.len
 refine⟨hl,fun p hp=>?_⟩
 have e:(QO b c)[p]! =vX b[p]! c[p]! 1:=addTabTo_get<|by rw[hb.len];exact hp
 rw[e]
 refine⟨by rw[QL];exact(hb.bag p hp).len,fun k hk=>?_⟩
 rw[plus_get<|by rw[(hb.bag p hp).len];exact hk];omega
theorem addTab_ok(hs:yf s){b c:yLL}(hb:PutOk s own j b)(hc:PutOk s own j c)(ha:yX (QO b c) (QO b c).length):PutOk s own j (QO b c):=by
 have h:=addTab_rows hb hc
 refine⟨h.1,fun p hp=>?_,fun p hp iw k hk=>?_⟩
 ·have h1:=ha p (by rw[h.1];exact hp)
  exact⟨h1,by have:=kindsN_eq hs;have:=(h.2 p hp).1;omega⟩
 ·rw[(h.2 p hp).2 k hk,hb.off p hp iw k hk,hc.off p hp iw k hk];rfl
theorem take_cat{b:yLL}(h:b.length=xJ s+1):b.take (xJ s)++[b[xJ s]!]=b:=by
 have e:b[xJ s]! =b[xJ s]'(by omega):=getElem!_pos b _ qf
 rw[e,←List.take_succ_eq_append_getElem qf]
 exact List.take_of_length_le qf
theorem nextD_ok(hg:Giv s own n)(h:jk s own n i d)(hw:d.qY=true)(ha:yX (sumD d) (sumD d).length):jk s own n i (nextD s d):=by
 obtain⟨h1,h2,h3,h4⟩:=h.got hw
 have hp:PutOk s own i (sumD d):=addTab_ok hg.sys.1 h.all h3 ha
 refine⟨by have:=h.rnd;show 0<=d.qK+1/\d.qK+1<=100;omega,?_,fun e=>by simp[nextD] at e,fun _=>h4,fun _=>⟨J,J,J⟩,fun e=>by have:=h.rnd;have e:d.qK+1=0:=e;omega⟩
 show PutOk s own i ((sumD d).take (xJ s)++[(sumD d)[xJ s]!])
 rw[take_cat hp.len];exact hp
theorem gotD_ok(hg:Giv s own n){p:zC}(hp:ParcelOk s own n p)(h:jk s own n p.fTo.toNat d)(hw:d.qY=true)(ha:yX (QO d.qU p.qG) (QO d.qU p.qG).length):jk s own n p.fTo.toNat (gotD d p):=by
 obtain⟨h1,h2,h3,h4⟩:=h.got hw
 exact⟨h.rnd,h.all,fun _=>⟨h1,by simpa [gotD] using h2,addTab_ok hg.sys.1 h3 hp.2.2.1 ha,h4⟩,h.last,(fun e=>by have e:d.qY=false:=e;rw[hw] at e;cases e),h.fst⟩
theorem beginD_ok(hg:Giv s own n){t:qV}(ht:zA s t)(i:Nat):jk s own n i (Vs s own t i):=by
 have hs:=hg.sys.1
 have hz:jd s.qQ (List.replicate (vG s) (0:Int)):=bagOk_of hs qm fun k hk=>by
  rw[getElem!_pos (List.replicate (vG s) (0:Int)) k<|by simpa using hk];simp
 have hz0:∀k,k<vG s->(List.replicate (vG s) (0:Int))[k]! =0:=fun k hk=>by
  rw[getElem!_pos (List.replicate (vG s) (0:Int)) k<|by simpa using hk];simp
 have hl:(Vs s own t i).qG.length=xJ s:=by simp[Vs]
 have hr:∀p,p<xJ s->(Vs s own t i).qG[p]! =if own[p]! =(i:Int) then t.qG[p]! else List.replicate (vG s) 0:=fun p hp=>by
  rw[getElem!_pos (Vs s own t i).qG p<|by rw[hl];exact hp];simp[Vs]
 refine⟨by simp[Vs],⟨by simp[Vs],fun p hp=>?_,fun p hp iw k hk=>?_⟩,fun e=>by simp[Vs] at e,fun e=>by simp[Vs] at e,fun _=>⟨J,J,J⟩,fun _=>rfl⟩
 ·by_cases e:p<xJ s
  ·rw[cat_get<|by rw[hl];exact e,hr p e]
   split
   ·exact ht.bagLen<|by rw[ht.2.1];exact e
   ·exact hz
  ·obtain rfl:p=xJ s:=by omega
   rw[cat_getN hl]
   show jd s.qQ (if own[0]! =(i:Int) then t.qF else List.replicate (vG s) 0)
   split
   ·exact ht.2.2.2.1
   ·exact hz
 ·by_cases e:p<xJ s
  ·rw[cat_get<|by rw[hl];exact e,hr p e,if_neg (by rw[vY,if_neg (fun x=>by have h1:own.length=xJ s:=hg.len;rw[h1] at x;omega)] at iw;exact iw)]
   exact hz0 k hk
  ·obtain rfl:p=xJ s:=by omega
   rw[cat_getN hl]
   show (if own[0]! =(i:Int) then t.qF else List.replicate (vG s) 0)[k]! =0
   rw[if_neg (by rw[vY,if_pos hg.len.symm] at iw;exact iw)]
   exact hz0 k hk
theorem srvIn_iff{v:zO}(h:Vo s own n v){i:Int}:Yl v i<->0<=i/\i<n:=by unfold Yl;rw[h.len];omega
theorem set_srv{l:List zI}{x:zI}(hi:i<l.length):(l.set i x)[j]! =if j=i then x else l[j]! :=getset hi
theorem Vo.desk{v:zO}(h:Vo s own n v)(hd:jk s own n i d):Vo s own n (Qd v i d):=by
 refine⟨by simp[Qd,h.len],fun j hj=>?_,h.few,h.wire⟩
 by_cases hi:i<n
 ·show jk s own n j ((v.qE.set i { v.qE[i]! with qC:=d })[j]!).qC/\jk s own n j ((v.qE.set i { v.qE[i]! with qC:=d })[j]!).qR
  rw[set_srv<|by rw[h.len];exact hi]
  split
  ·rename_i e;subst e;exact⟨hd,(h.srv j hj).2⟩
  ·exact h.srv j hj
 ·show jk s own n j ((v.qE.set i { v.qE[i]! with qC:=d })[j]!).qC/\jk s own n j ((v.qE.set i { v.qE[i]! with qC:=d })[j]!).qR
  rw[List.set_eq_of_length_le<|by rw[h.len];omega]
  exact h.srv j hj
theorem Vo.saved{v:zO}(h:Vo s own n v)(hi:i<n)(hd:jk s own n i d):Vo s own n (putSaved v i d):=by
 refine⟨by simp[putSaved,h.len],fun j hj=>?_,h.few,h.wire⟩
 show jk s own n j ((v.qE.set i { v.qE[i]! with qR:=d })[j]!).qC/\jk s own n j ((v.qE.set i { v.qE[i]! with qR:=d })[j]!).qR
 rw[set_srv<|by rw[h.len];exact hi]
 split
 ·rename_i e;subst e;exact⟨(h.srv j hj).1,hd⟩
 ·exact h.srv j hj
theorem get_cat{α:Type}[Inhabited α]{l:List α}{x:α}(hk:k<(l++[x]).length):(l++[x])[k]! =if k<l.length then l[k]! else x:=by
 rw[getElem!_pos (l++[x]) k hk,List.getElem_append]
 by_cases h:k<l.length
 ·rw[dif_pos h,if_pos h,getElem!_pos l k h]
 ·rw[dif_neg h,if_neg h];simp
theorem Vo.post{v:zO}(h:Vo s own n v){p:zC}(hp:ParcelOk s own n p)(hf:v.vz.length≠12):Vo s own n { v with vz:=v.vz++[p]}:=by
 refine⟨h.len,h.srv,by have:=h.few;simp;omega,fun k hk=>?_⟩
 show ParcelOk s own n ((v.vz++[p])[k]!)
 rw[get_cat hk]
 split
 ·exact h.wire k ql
 ·exact hp
theorem erase_get{α:Type}[Inhabited α]{l:List α}(hk:k<(l.eraseIdx i).length):∃j,j<l.length/\(l.eraseIdx i)[k]! =l[j]! :=by
 have h1:=List.getElem_mem hk
 rw[getElem!_pos (l.eraseIdx i) k hk]
 obtain⟨j,hj,e⟩:=List.getElem_of_mem ((List.eraseIdx_sublist l i).subset h1)
 exact⟨j,hj,by rw[getElem!_pos l j hj,e]⟩
theorem Vo.drop{v:zO}(h:Vo s own n v)(i:Nat):Vo s own n { v with vz:=v.vz.eraseIdx i }:=by
 refine⟨h.len,h.srv,by have:=h.few;have:=(List.eraseIdx_sublist v.vz i).length_le;show (v.vz.eraseIdx i).length<=12;omega,fun k hk=>?_⟩
 obtain⟨j,hj,e⟩:=erase_get hk
 show ParcelOk s own n ((v.vz.eraseIdx i)[k]!)
 rw[e];exact h.wire j hj
theorem comeM_ok(hg:Giv s own n){v:zO}(h:Vo s own n v){p:zC}(hp:ParcelOk s own n p):Vo s own n (comeM v p).1:=by
 unfold comeM
 split
 ·exact h
 ·rename_i h1
  have hw:v.qE[p.fTo.toNat]!.qC.qY=true:=by
   cases e:v.qE[p.fTo.toNat]!.qC.qY with
   |true=>rfl
   |false=>exact absurd (.inl e) h1
  split
  ·exact h.desk<|gotD_ok hg hp (h.srv _ (by have:=hp.2.1;omega)).1 hw ql
  ·exact h
theorem doM_ok(hg:Giv s own n){v:zO}(h:Vo s own n v){d:Qu}(hd:VT d):Vo s own n (doM s own v d).1:=by
 unfold doM
 split
 ·unfold sendM
  split
  ·exact h
  ·rename_i h1
   have ha:Yl v d.fA:=Classical.byContradiction fun x=>h1<|.inl x
   have hb:Yl v d.fB:=Classical.byContradiction fun x=>h1<|.inr<|.inl x
   rw[srvIn_iff h] at ha hb
   have ia:=(h.srv d.fA.toNat qf)
   split
   ·split
    ·exact h
    ·split
     ·exact h
     ·rename_i h2 h3
      have sv:Xg (v.qE[d.fA.toNat]!):=Classical.byContradiction h2
      have:=(ia.2.got sv.2).2.2.2.2 d.fB.toNat qf
      exact h.post ⟨ha,hb,this,ia.1.rnd⟩ h3
   ·split
    ·exact h
    ·split
     ·exact h
     ·rename_i h2 h3
      have:=(ia.1.last (by have:=ia.1.rnd;omega)).2 d.fB.toNat qf
      exact h.post ⟨ha,hb,this,by have:=ia.1.rnd;show 0<=v.qE[d.fA.toNat]!.qC.qK-1/\v.qE[d.fA.toNat]!.qC.qK-1<=100;omega⟩ h3
 ·split
  ·unfold wireM
   split
   ·exact h
   ·rename_i h1
    have hc:=comeM_ok hg h<|h.wire d.fA.toNat (by have:=hd.2.1;omega)
    by_cases e8:d.xQ=8
    ·simp only[e8,if_pos]
     exact h.drop _
    ·simp only[if_neg e8]
     split
     ·exact hc
     ·split
      ·exact hc
      ·exact hc.drop _
  ·split
   ·exact h
   ·rename_i h1
    have ha:Yl v d.fA:=Classical.byContradiction h1
    rw[srvIn_iff h] at ha
    have ia:=(h.srv d.fA.toNat qf)
    split
    ·unfold workM
     split
     ·exact h
     ·split
      ·exact h
      ·split
       ·rw[h.len] at *
        exact h.desk<|workD_ok hg ia.1 qf ql ql
       ·exact h
    ·split
     ·unfold QR
      split
      ·exact h
      ·rename_i h2
       have hw:=Classical.byContradiction h2
       split
       ·exact h.desk<|nextD_ok hg ia.1 hw.1 ql
       ·exact h
     ·split
      ·exact h.saved qf ia.1
      ·exact h.desk ia.2
theorem begin_ok(hg:Giv s own n){t:qV}(ht:zA s t):Vo s own n (xk s own t n):=by
 refine⟨by simp[xk,yZ],fun i hi=>?_,by simp[xk],fun k hk=>by simp[xk] at hk⟩
 have e:(xk s own t n).qE[i]! =⟨Vs s own t i,Vs s own t i⟩:=by
  show (yZ s own t n)[i]! =_
  rw[getElem!_pos (yZ s own t n) i<|by simpa [yZ] using hi];simp[yZ]
 rw[e]
 exact⟨beginD_ok hg ht i,beginD_ok hg ht i⟩
theorem run_ok(hg:Giv s own n){v:zO}(h:Vo s own n v){l:List Qu}(hl:∀k,k<l.length->VT l[k]!):∀k,k<=l.length->Vo s own n (x9 s own v l k).1
 |0,_=>h
 |k+1,hk=>doM_ok hg (run_ok hg h hl k qf)<|hl k qf
theorem run_cnt(s:qJ)(own:yLI)(v:zO)(l:List Qu):∀k,0<=(x9 s own v l k).2/\(x9 s own v l k).2<=k
 |0=>by simp[x9]
 |k+1=>by
  have:=run_cnt s own v l k
  simp only[x9]
  split <;> omega
end
section
variable{s : qJ}{own : yLI}{n : Nat}
def yV(s:qJ)(counts:yLI)(cell:Int):Nat->yLI
 |0=>List.replicate s.qQ.toNat 0
 |i+1=>if s.qB[i]!.qW=cell/\counts[i]! ≠0 then vX (yV s counts cell i) s.qB[i]!.vg counts[i]! else yV s counts cell i
theorem took_yes{counts:yLI}{cell:Int}(h:s.qB[i]!.qW=cell)(h1:counts[i]! ≠0):yV s counts cell (i+1)=vX (yV s counts cell i) s.qB[i]!.vg (counts[i]!):=by rw[yV,if_pos ⟨h,h1⟩]
theorem took_no{counts:yLI}{cell:Int}(h:¬(s.qB[i]!.qW=cell/\counts[i]! ≠0)):yV s counts cell (i+1)=yV s counts cell i:=by rw[yV,if_neg h]
theorem took_len(counts:yLI)(cell:Int):∀i,(yV s counts cell i).length=vG s
 |0=>by simp[yV,vG]
 |i+1=>by
  rw[yV]
  split
  ·rw[QL];exact took_len counts cell i
  ·exact took_len counts cell i
theorem took_get{counts:yLI}(hs:jW s){p:Nat}{q:Nat}(hq:q<vG s):∀i,i<=s.qB.length->(yV s counts (p:Int) i)[q]! = -(needS s counts i p q)
 |0,_=>by
  rw[yV,getElem!_pos (List.replicate s.qQ.toNat (0:Int)) q<|by simpa [vG] using hq];simp[needS]
 |i+1,hi=>by
  have ih:=took_get (counts:=counts) hs (p:=p) hq i qf
  have hc:=(hs.rule (i:=i) qf).1
  simp only[needS,needF,at']
  rw[yV]
  by_cases h:s.qB[i]!.qW=(p:Int)
  ·have e:p=s.qB[i]!.qW.toNat:=by omega
   rw[if_pos e]
   by_cases h1:counts[i]! ≠0
   ·rw[if_pos ⟨h,h1⟩,plus_get<|by rw[took_len];exact hq,ih,Int.neg_mul];omega
   ·have h2:counts[i]! =0:=Classical.byContradiction h1
    rw[if_neg<|fun x=>h1 x.2,ih,h2];simp
  ·rw[if_neg<|fun x=>h x.1,if_neg (by have:=hc.1;omega),ih];omega
noncomputable def jU(s:qJ)(own:yLI)(d:zG)(i:Int):Nat->yLL
 |0=>d.qG
 |c+1=>if own[c]! =i then (jU s own d i c).set c (vX ((jU s own d i c)[c]!) (yV s (xq s<|viewD s d) (c:Int) s.qB.length) (-1)) else jU s own d i c
theorem sBags_yes{i:Int}(h:own[c]! =i):jU s own d i (c+1)=(jU s own d i c).set c (vX ((jU s own d i c)[c]!) (yV s (xq s<|viewD s d) (c:Int) s.qB.length) (-1)):=by rw[jU,if_pos h]
theorem sBags_no{i:Int}(h:own[c]! ≠i):jU s own d i (c+1)=jU s own d i c:=by rw[jU,if_neg h]
theorem sBags_len{d:zG}{i:Int}:∀c,(jU s own d i c).length=d.qG.length
 |0=>rfl
 |c+1=>by
  rw[jU]
  split
  ·rw[List.length_set];exact sBags_len c
  ·exact sBags_len c
theorem sBags_at{d:zG}{i:Int}{p:Nat}:∀c,c<=d.qG.length->(jU s own d i c)[p]! =if p<c/\own[p]! =i then vX d.qG[p]! (yV s (xq s<|viewD s d) (p:Int) s.qB.length) (-1) else d.qG[p]!
 |0,_=>by rw[jU,if_neg qf]
 |c+1,hc=>by
  have ih:=fun p=>sBags_at (d:=d) (i:=i) (p:=p) c qf
  by_cases h:own[c]! =i
  ·rw[sBags_yes h,getset<|by rw[sBags_len];omega]
   by_cases e:p=c
   ·subst e
    rw[if_pos J,if_pos ⟨by omega,h⟩,ih p,if_neg qf]
   ·rw[if_neg e,ih p]
    by_cases h2:p<c/\own[p]! =i
    ·rw[if_pos h2,if_pos ⟨by omega,h2.2⟩]
    ·rw[if_neg h2,if_neg<|fun x=>h2 ⟨by omega,x.2⟩]
  ·rw[sBags_no h,ih p]
   by_cases h2:p<c/\own[p]! =i
   ·rw[if_pos h2,if_pos ⟨by omega,h2.2⟩]
   ·rw[if_neg h2,if_neg (fun x=>h2 ⟨by
     have:p≠c:=fun e=>h (e▸x.2)
     omega,x.2⟩)]
theorem sBags_row(hg:Giv s own n)(h:jk s own n i d)(hc:c<xJ s):((jU s own d i c)[c]!).length=vG s/\Mid ((jU s own d i c)[c]!):=by
 have e:(jU s own d (i:Int) c)[c]! =d.qG[c]! :=by rw[sBags_at c<|by rw[h.Vr];omega,if_neg qf]
 rw[e]
 have hb:=h.bagAt hc
 exact⟨hb.len,(ja hb).mid⟩
theorem tookOk(hg:Giv s own n)(h:jk s own n i d)(c:Nat):XG (yV s (xq s<|viewD s d) (c:Int) s.qB.length) (-1):=fun q hq=>by
 rw[took_len] at hq
 have ht:=h.view hg.sys.1
 rw[took_get hg.sys hq _<|Nat.le_refl _]
 have h1:=needS_nonpos hg.sys (XY hg.sys ht) c q hq s.qB.length<|Nat.le_refl _
 by_cases hc:c<xJ s
 ·have hb:=(bagsD_rows hg h).2 c hc
  have h2:=hb.2 q hq
  have h3:=hb.1.get (k:=q)<|by rw[hb.1.len];exact hq
  have h4:=(h.bagAt hc).get (k:=q)<|by rw[(h.bagAt hc).len];exact hq
  omega
 ·have:∀k,k<=s.qB.length->needS s (xq s<|viewD s d) k c q=0:=by
   intro k
   induction k with
   |zero=>intro _;rfl
   |succ k ih=>
    intro hk
    have hr:=(hg.sys.rule (i:=k) qf).cell
    simp only[needS,needF,at']
    rw[ih qf,if_neg (fun e=>by rw[e] at hc;exact hc hr)];rfl
  rw[this _<|Nat.le_refl _];omega
theorem sBags_end(hg:Giv s own n)(h:jk s own n i d):jU s own d i (xJ s)=bagsD s d:=by
 have hb:=bagsD_rows hg h
 have ht:=h.view hg.sys.1
 refine ext_get (by rw[sBags_len,hb.1,h.Vr]) fun p hp=>?_
 rw[sBags_len,h.Vr] at hp
 have An :p<xJ s:=hp
 rw[sBags_at (xJ s)<|by rw[h.Vr];exact Nat.le_refl _]
 have hl:=(h.bagAt An).len
 by_cases e:own[p]! =(i:Int)
 ·rw[if_pos ⟨An,e⟩]
  refine ext_get (by rw[QL,hl,(hb.2 p An).1.len]) fun q hq=>?_
  rw[QL,hl] at hq
  rw[plus_get<|by rw[hl];exact hq,took_get hg.sys hq _<|Nat.le_refl _,(hb.2 p An).2 q hq];omega
 ·rw[if_neg<|fun x=>e x.2]
  refine ext_get (by rw[hl,(hb.2 p An).1.len]) fun q hq=>?_
  rw[hl] at hq
  have h0:=h.all.off p qf (by rw[vY,if_neg (fun x=>by have h1:own.length=xJ s:=hg.len;rw[h1] at x;omega)];exact e) q hq
  rw[cat_get<|by rw[h.Vr];exact An] at h0
  have h1:=(hb.2 p An).2 q hq
  have h2:=needS_nonpos hg.sys (XY hg.sys ht) p q hq s.qB.length<|Nat.le_refl _
  have h3:=(hb.2 p An).1.get (k:=q)<|by rw[(hb.2 p An).1.len];exact hq
  omega
def Va(l m:yLL)(c:Nat):yLL:=(List.range l.length).map fun j=>if j<c then vX l[j]! m[j]! 1 else l[j]!
theorem VH(l m:yLL)(c:Nat):(Va l m c).length=l.length:=by simp[Va]
theorem advTo_get{l m:yLL}(hj:j<l.length):(Va l m c)[j]! =if j<c then vX l[j]! m[j]! 1 else l[j]! :=by
 rw[getElem!_pos (Va l m c) j<|by rw[VH];exact hj];simp[Va]
theorem advTo_zero(l m:yLL):l=Va l m 0:=ext_get (by rw[VH]) fun j hj=>by rw[advTo_get hj,if_neg qf]
theorem advTo_set{l m:yLL}(hc:c<l.length){x:yLI}(hx:x=vX l[c]! m[c]! 1):(Va l m c).set c x=Va l m (c+1):=
 ext_get (by rw[List.length_set,VH,VH]) fun j hj=>by
  rw[List.length_set,VH] at hj
  rw[getset<|by rw[VH];exact hc,advTo_get hj,advTo_get hj]
  by_cases e:j=c
  ·rw[if_pos e,if_pos qf,hx,e]
  ·rw[if_neg e]
   by_cases h:j<c
   ·rw[if_pos h,if_pos qf]
   ·rw[if_neg h,if_neg qf]
theorem sum_adv(hb:d.qG.length=xJ s):sumD d=Va d.qG d.qU (xJ s)++[vX d.qF (d.qU[xJ s]!) 1]:=by
 have hl:(sumD d).length=xJ s+1:=by unfold sumD QO;rw[Yi];simp[hb]
 refine ext_get (by rw[hl];simp[VH,hb]) fun j hj=>?_
 rw[hl] at hj
 have e:(sumD d)[j]! =vX ((d.qG++[d.qF])[j]!) d.qU[j]! 1:=addTabTo_get<|by simp[hb];exact hj
 rw[e,get_cat<|by rw[List.length_append,hb];exact hj,get_cat<|by rw[List.length_append,VH,hb];exact hj,VH,hb]
 by_cases h:j<xJ s
 ·rw[if_pos h,if_pos h,advTo_get<|by rw[hb];exact h,if_pos h]
 ·obtain rfl:j=xJ s:=by omega
  rw[if_neg h,if_neg h]
theorem nextD_adv(hb:d.qG.length=xJ s):nextD s d=⟨d.qK+1,Va d.qG d.qU<|xJ s,vX d.qF (d.qU[xJ s]!) 1,false,[],[],[],d.jH⟩:=by
 have hl:(Va d.qG d.qU<|xJ s).length=xJ s:=by rw[VH,hb]
 unfold nextD
 rw[sum_adv hb,cat_getN hl,List.take_left' hl]
theorem allBags_cat{b:yLL}{a:yLI}:yX (b++[a]) (b++[a]).length<->yX b b.length/\Yj a:=by
 constructor
 ·intro h
  refine⟨fun j hj=>?_,?_⟩
  ·have:=h j qy
   rwa [cat_get hj] at this
  ·have:=h b.length qm
   rwa [cat_getN J] at this
 ·rintro⟨h1,h2⟩ j hj
  rw[get_cat hj]
  split
  ·exact h1 j ql
  ·exact h2
def Sm2(l:yLL):Prop:=l.length<=1000000/\∀k,k<l.length->l[k]!.length<=1000000
def Sm3(l:List yLL):Prop:=l.length<=1000000/\∀k,k<l.length->Sm2 l[k]!
structure SmD(d:zG):Prop where
 bags:Sm2 d.qG
 around:d.qF.length<=1000000
 got:d.jA.length<=1000000
 coming:Sm2 d.qU
 now:Sm3 d.jH
 last:Sm3 d.zM
theorem Sm2.nil:Sm2 []:=⟨by simp,fun k hk=>by simp at hk⟩
theorem Sm3.nil:Sm3 []:=⟨by simp,fun k hk=>by simp at hk⟩
theorem PutOk.small{b:yLL}(hs:jW s)(h:PutOk s own j b):Sm2 b:=by
 have hk:=X8 hs
 have hc:=hs.1.2.1
 refine⟨by have:=h.len;have:xJ s=s.qA.length:=rfl;omega,fun k CT =>?_⟩
 have:=(h.bag k (by have:=h.len;omega)).len
 omega
theorem PutsOk.small{m:List yLL}(hs:jW s)(hn:n<=4)(h:PutsOk s own n m):Sm3 m:=⟨by have:=h.1;omega,fun k hk=>(h.2 k (by have:=h.1;omega)).small hs⟩
theorem jk.small{i:Nat}{d:zG}(hg:Giv s own n)(h:jk s own n i d):SmD d:=by
 have hk:=X8 hg.sys
 have hc:=hg.sys.1.2.1
 have hn:=hg.few
 refine⟨⟨by have:=h.Vr;have:xJ s=s.qA.length:=rfl;omega,fun k CT =>?_⟩,?_,?_,?_,?_,?_⟩
 ·have:=(h.bagAt (p:=k)<|by rw[←h.Vr];exact CT).len;omega
 ·have:=h.aroundOk.len;omega
 ·cases e:d.qY with
  |true=>have:=(h.got e).2.1;omega
  |false=>rw[(h.rest e).1];simp
 ·cases e:d.qY with
  |true=>exact(h.got e).2.2.1.small hg.sys
  |false=>rw[(h.rest e).2.1];exact Sm2.nil
 ·cases e:d.qY with
  |true=>exact(h.got e).2.2.2.small hg.sys hn
  |false=>rw[(h.rest e).2.2];exact Sm3.nil
 ·by_cases e:0<d.qK
  ·exact(h.last e).small hg.sys hn
  ·rw[h.fst (by have:=h.rnd;omega)];exact Sm3.nil
variable{v : zO}{d : Qu}
theorem three{a b c:Prop}(h:a/\b/\¬c):¬(¬a\/¬b\/c):=by
 rintro(x|x|x)
 ·exact x h.1
 ·exact x h.2.1
 ·exact h.2.2 x
theorem do_send(h:d.xQ=3\/d.xQ=4):doM s own v d=sendM v d:=by rw[doM,if_pos h]
theorem do_wire(h:d.xQ=6\/d.xQ=7\/d.xQ=8):doM s own v d=wireM v d:=by rw[doM,if_neg qf,if_pos h]
theorem do_range(h:¬(d.xQ=3\/d.xQ=4))(h1:¬(d.xQ=6\/d.xQ=7\/d.xQ=8))(h2:¬Yl v d.fA):doM s own v d=(v,2):=by rw[doM,if_neg h,if_neg h1,if_pos h2]
theorem do_work(h:d.xQ=1)(h2:Yl v d.fA):doM s own v d=workM s own v d.fA.toNat:=by rw[doM,if_neg qf,if_neg qf,if_neg<|fun x=>x h2,if_pos h]
theorem do_advance(h:d.xQ=5)(h2:Yl v d.fA):doM s own v d=QR s v d.fA.toNat:=by rw[doM,if_neg qf,if_neg qf,if_neg<|fun x=>x h2,if_neg qf,if_pos h]
theorem do_save(h:d.xQ=2)(h2:Yl v d.fA):doM s own v d=(putSaved v d.fA.toNat v.qE[d.fA.toNat]!.qC,0):=by rw[doM,if_neg qf,if_neg qf,if_neg<|fun x=>x h2,if_neg qf,if_neg qf,if_pos h]
theorem do_crash(h:d.xQ=9)(h2:Yl v d.fA):doM s own v d=(Qd v d.fA.toNat v.qE[d.fA.toNat]!.qR,0):=by rw[doM,if_neg qf,if_neg qf,if_neg<|fun x=>x h2,if_neg qf,if_neg qf,if_neg qf]
theorem send_range(h:¬Yl v d.fA\/¬Yl v d.fB\/d.fA=d.fB):sendM v d=(v,2):=by rw[sendM,if_pos h]
theorem send_post0(h:Yl v d.fA/\Yl v d.fB/\d.fA≠d.fB)(h1:d.xQ=3)(h2:¬Xg v.qE[d.fA.toNat]!):sendM v d=(v,4):=by rw[sendM,if_neg<|three h,if_pos h1,if_pos h2]
theorem send_post1(h:Yl v d.fA/\Yl v d.fB/\d.fA≠d.fB)(h1:d.xQ=3)(h2:Xg v.qE[d.fA.toNat]!)(h3:v.vz.length=12):sendM v d=(v,3):=by rw[sendM,if_neg<|three h,if_pos h1,if_neg<|fun x=>x h2,if_pos h3]
theorem send_post2(h:Yl v d.fA/\Yl v d.fB/\d.fA≠d.fB)(h1:d.xQ=3)(h2:Xg v.qE[d.fA.toNat]!)(h3:v.vz.length≠12):sendM v d=({ v with vz:=v.vz++[⟨v.qE[d.fA.toNat]!.qC.qK,d.fA,d.fB,(v.qE[d.fA.toNat]!.qR.jH)[d.fB.toNat]!⟩]},0):=by rw[sendM,if_neg<|three h,if_pos h1,if_neg<|fun x=>x h2,if_neg h3]
theorem send_back0(h:Yl v d.fA/\Yl v d.fB/\d.fA≠d.fB)(h1:d.xQ≠3)(h2:v.qE[d.fA.toNat]!.qC.qK=0):sendM v d=(v,4):=by rw[sendM,if_neg<|three h,if_neg h1,if_pos h2]
theorem send_back1(h:Yl v d.fA/\Yl v d.fB/\d.fA≠d.fB)(h1:d.xQ≠3)(h2:v.qE[d.fA.toNat]!.qC.qK≠0)(h3:v.vz.length=12):sendM v d=(v,3):=by rw[sendM,if_neg<|three h,if_neg h1,if_neg h2,if_pos h3]
theorem send_back2(h:Yl v d.fA/\Yl v d.fB/\d.fA≠d.fB)(h1:d.xQ≠3)(h2:v.qE[d.fA.toNat]!.qC.qK≠0)(h3:v.vz.length≠12):sendM v d=({ v with vz:=v.vz++[⟨v.qE[d.fA.toNat]!.qC.qK-1,d.fA,d.fB,(v.qE[d.fA.toNat]!.qC.zM)[d.fB.toNat]!⟩]},0):=by rw[sendM,if_neg<|three h,if_neg h1,if_neg h2,if_neg h3]
variable{i : Nat}
theorem work_4(h:v.qE[i]!.qC.qY=true):workM s own v i=(v,4):=by rw[workM,if_pos h]
theorem work_3(h:¬v.qE[i]!.qC.qY=true)(h1:v.qE[i]!.qC.qK=100):workM s own v i=(v,3):=by rw[workM,if_neg h,if_pos h1]
theorem work_no(h:¬v.qE[i]!.qC.qY=true)(h1:v.qE[i]!.qC.qK≠100)(h2:¬AllB3 (nowD s own v.qE.length i v.qE[i]!.qC) v.qE.length):workM s own v i=(v,3):=by rw[workM,if_neg h,if_neg h1,if_neg h2]
theorem work_0(h:¬v.qE[i]!.qC.qY=true)(h1:v.qE[i]!.qC.qK≠100)(h2:AllB3 (nowD s own v.qE.length i v.qE[i]!.qC) v.qE.length):workM s own v i=(Qd v i<|workD s own v.qE.length i v.qE[i]!.qC,0):=by rw[workM,if_neg h,if_neg h1,if_pos h2]
theorem adv_4(h:¬(v.qE[i]!.qC.qY=true/\AllGot v.qE[i]!.qC.jA v.qE[i]!.qC.jA.length/\Xg v.qE[i]!)):QR s v i=(v,4):=by rw[QR,if_pos h]
theorem adv_3(h:v.qE[i]!.qC.qY=true/\AllGot v.qE[i]!.qC.jA v.qE[i]!.qC.jA.length/\Xg v.qE[i]!)(h1:¬yX (sumD v.qE[i]!.qC) (sumD v.qE[i]!.qC).length):QR s v i=(v,3):=by rw[QR,if_neg<|fun x=>x h,if_neg h1]
theorem adv_0(h:v.qE[i]!.qC.qY=true/\AllGot v.qE[i]!.qC.jA v.qE[i]!.qC.jA.length/\Xg v.qE[i]!)(h1:yX (sumD v.qE[i]!.qC) (sumD v.qE[i]!.qC).length):QR s v i=(Qd v i<|nextD s v.qE[i]!.qC,0):=by rw[QR,if_neg<|fun x=>x h,if_pos h1]
variable{p : zC}
theorem come_0(h:v.qE[p.fTo.toNat]!.qC.qY=false\/v.qE[p.fTo.toNat]!.qC.qK≠p.qK\/(v.qE[p.fTo.toNat]!.qC.jA)[p.Q9.toNat]! =true):comeM v p=(v,0):=by rw[comeM,if_pos h]
theorem come_3(h:¬(v.qE[p.fTo.toNat]!.qC.qY=false\/v.qE[p.fTo.toNat]!.qC.qK≠p.qK\/(v.qE[p.fTo.toNat]!.qC.jA)[p.Q9.toNat]! =true))(h1:¬yX (QO v.qE[p.fTo.toNat]!.qC.qU p.qG) (QO v.qE[p.fTo.toNat]!.qC.qU p.qG).length):comeM v p=(v,3):=by rw[comeM,if_neg h,if_neg h1]
theorem come_1(h:¬(v.qE[p.fTo.toNat]!.qC.qY=false\/v.qE[p.fTo.toNat]!.qC.qK≠p.qK\/(v.qE[p.fTo.toNat]!.qC.jA)[p.Q9.toNat]! =true))(h1:yX (QO v.qE[p.fTo.toNat]!.qC.qU p.qG) (QO v.qE[p.fTo.toNat]!.qC.qU p.qG).length):comeM v p=(Qd v p.fTo.toNat<|gotD v.qE[p.fTo.toNat]!.qC p,0):=by rw[comeM,if_neg h,if_pos h1]
theorem wire_2(h:(v.vz.length:Int)<=d.fA):wireM v d=(v,2):=by rw[wireM,if_pos h]
theorem wire_drop(h:¬(v.vz.length:Int)<=d.fA)(h1:d.xQ=8):wireM v d=({ v with vz:=v.vz.eraseIdx d.fA.toNat },0):=by
 rw[wireM,if_neg h];simp only[if_pos h1];exact(if_neg qm).trans<|if_neg qf
theorem wire_no(h:¬(v.vz.length:Int)<=d.fA)(h1:d.xQ≠8)(h2:(comeM v<|v.vz[d.fA.toNat]!).2≠0):wireM v d=comeM v (v.vz[d.fA.toNat]!):=by
 rw[wireM,if_neg h];simp only[if_neg h1];exact if_pos h2
theorem wire_copy(h:¬(v.vz.length:Int)<=d.fA)(h1:d.xQ=7):wireM v d=comeM v (v.vz[d.fA.toNat]!):=by
 rw[wireM,if_neg h];simp only[if_neg<|show ¬d.xQ=8 by omega,if_pos h1]
 split <;> rfl
theorem wire_in(h:¬(v.vz.length:Int)<=d.fA)(h1:d.xQ≠8)(h2:d.xQ≠7)(h3:(comeM v<|v.vz[d.fA.toNat]!).2=0):wireM v d=({ (comeM v<|v.vz[d.fA.toNat]!).1 with vz:=(comeM v<|v.vz[d.fA.toNat]!).1.vz.eraseIdx d.fA.toNat },0):=by
 rw[wireM,if_neg h];simp only[if_neg h1];exact(if_neg<|fun x=>x h3).trans<|if_neg h2
end
end
section
structure OwnI(e:TypeId) where
 l:yLI
instance (e:TypeId):Inhabited (OwnI e):=⟨⟨[]⟩⟩
def OwnAt(e:TypeId)(w:World)(F:yLN)(v:Value)(l:yLI):Prop:=
 (v=Sv none 0 0/\l=[]/\F=[])\/∃g gA gE,v=Sv (some ⟨g,0,none⟩) l.length gA/\F=[g]/\w.heap[g]? =some (.cells gE e (0,0))/\l.length<=gA/\gA<=maxLen/\gE.size=gA/\gE.toList.take l.length=l.map (Value.int .i64)
theorem OwnAt.slice(h:OwnAt e w F v l):∃a c,v=Sv a l.length c:=by
 rcases h with ⟨rfl,rfl,_⟩|⟨g,gA,gE,rfl,_⟩
 ·exact⟨none,0,J⟩
 ·exact⟨_,_,J⟩
instance (e:TypeId):qI (OwnI e) where
 size:=1
 rep:=fun w F cs x=>∃v,cs=[v]/\OwnAt e w F v x.l
 len:=by rintro w F cs x ⟨v,rfl,_⟩;rfl
 one:=by
  rintro w F cs x ⟨v,rfl,h⟩ u hu
  simp only[List.mem_singleton] at hu
  subst hu
  obtain⟨a,c,rfl⟩:=h.slice
  rfl
 lt:=by
  rintro w F cs x ⟨v,rfl,h⟩ b hb
  rcases h with ⟨_,_,rfl⟩|⟨g,gA,gE,_,rfl,hg,_⟩
  ·simp at hb
  ·obtain rfl:=List.mem_singleton.1 hb
   exact(Array.getElem?_eq_some_iff.1 hg).1
 stay:=by
  rintro w w' F cs x ⟨v,rfl,h⟩ hs
  refine⟨v,J,?_⟩
  rcases h with h|⟨g,gA,gE,h1,rfl,hg,h2⟩
  ·exact Or.inl h
  ·exact Or.inr ⟨g,gA,gE,h1,J,(hs g qm).trans hg,h2⟩
theorem OwnAt.rep(h:OwnAt e w F v l):qI.rep w F [v] l:=by
 rcases h with ⟨rfl,rfl,rfl⟩|⟨g,gA,gE,rfl,rfl,hg,h1,h2,h3,h4⟩
 ·exact⟨none,0,J,by simp,Or.inl ⟨J,J⟩⟩
 ·refine⟨_,gA,J,by unfold maxLen at h2;omega,Or.inr ⟨g,0,[],_,J,J,(Array.getElem?_eq_some_iff.1 hg).1,reps_of_ints w l,?_⟩⟩
  intro i u hi
  rw[Nat.zero_add,World.cell?,hg]
  rw[←h4,List.getElem?_take] at hi
  split at hi
  ·simpa using hi
  ·cases hi
section
variable{W0 w : World}{ps : List Prv}{Γ : List Fact}
end
section
variable{P : Program}{Q : Exit -> Act -> World -> Prop}{n : Nat}{ρ : Env}{W0 w : World}{ps : List Prv}{Γ : List Fact}
 {d:Nat} {ty:TypeId} {pos:String} {af:Array Edge} {K:Env->World->Prop}
end
section
variable{α : Type}
def pickL(l:List α)(n:Nat)(is:yLN):List α:=(is.filterMap fun i=>l[i]?)++l.drop n
def pickI(len n:Nat)(is:yLN):yLN:=is++(List.range<|len-n).map (·+n)
theorem pickI_map(l:List α)(n:Nat)(is:yLN)(h:is.all (fun i=>Nat.blt i n)=true)(hn:n<=l.length):(pickI l.length n is).map (fun i=>l[i]?)=(pickL l n is).map some:=by
 unfold pickI pickL
 rw[List.map_append,List.map_append]
 congr 1
 ·refine Vz l is ?_
  rw[List.all_eq_true] at h ⊢
  intro i hi
  have:=h i hi
  simp only[Nat.blt_eq] at this ⊢
  omega
 ·apply List.ext_getElem?
  intro i
  rcases Nat.lt_or_ge i (l.length-n) with h1|h1
  ·simp[h1,Nat.add_comm]
  ·simp[h1]
theorem pickI_nodup(len n:Nat)(is:yLN)(h:is.all (fun i=>Nat.blt i n)=true)(hd:is.Nodup):(pickI len n is).Nodup:=by
 unfold pickI
 refine List.nodup_append.2 ⟨hd,?_,?_⟩
 ·exact List.Pairwise.map _ (fun a b (hab:a≠b)=>by omega) List.nodup_range
 ·intro a ha b hb
  rw[List.all_eq_true] at h
  have:=h a ha
  simp only[Nat.blt_eq] at this
  obtain⟨c,_,rfl⟩:=List.mem_map.1 hb
  omega
end
section
variable{W0 w : World}{ps : List Prv}{Γ : List Fact}
theorem St.xG(H:St W0 w ps Γ)(n m:Nat)(is js:yLN)(hn:n<=ps.length)(hm:m<=Γ.length)(hi:is.all (fun i=>Nat.blt i n)=true:=by exact J)(hj:js.all (fun i=>Nat.blt i m)=true:=by exact J)(hd:is.Nodup:=by decide):
 St W0 w (pickL ps n is) (pickL Γ m js):=
 H.pick (pickI ps.length n is) (pickI Γ.length m js) (pickI_map ps n is hi hn) (pickI_map Γ m js hj hm) (pickI_nodup _ _ _ hi hd)
theorem St.yD{Γ':List Fact}(H:St W0 w ps Γ)(n m:Nat)(is js:yLN)(hn:n<=ps.length)(hm:m<=Γ.length)
 (hp:pickL ps n is=nP :=by simp only[pickL,List.filterMap_cons,List.filterMap_nil,List.getElem?_cons_zero,List.getElem?_cons_succ,List.drop_succ_cons,List.drop_zero,List.cons_append,List.nil_append];exact J)
 (hg:pickL Γ m js=Γ':=by simp only[pickL,List.filterMap_cons,List.filterMap_nil,List.getElem?_cons_zero,List.getElem?_cons_succ,List.drop_succ_cons,List.drop_zero,List.cons_append,List.nil_append];exact J)
 (hi:is.all (fun i=>Nat.blt i n)=true:=by exact J) (hj:js.all (fun i=>Nat.blt i m)=true:=by exact J) (hd:is.Nodup:=by decide):St W0 w nP Γ':=hp▸hg▸H.xG n m is js hn hm hi hj hd
theorem Fresh.xG(N:Fresh B L)(n:Nat)(is:yLN)(hn:n<=L.length)(hi:is.all (fun i=>Nat.blt i n)=true:=by exact J)(hd:is.Nodup:=by decide):Fresh B (pickL L n is):=
 N.pick (pickI L.length n is) (pickI_map L n is hi hn) (pickI_nodup _ _ _ hi hd)
def Kept(Ns:List yLN)(Γ:List Fact):Prop:=∀F∈Ns,∃f∈Γ,f.F=F
theorem Kept.up(h:Kept Ns Γ)(f:Fact):Kept Ns (f::Γ):=fun F hF=>by
 obtain⟨g,h1,h2⟩:=h F hF
 exact⟨g,List.mem_cons_of_mem _ h1,h2⟩
theorem Kept.behind(h:Kept Ns Γ)(m:Nat)(e:Γ'.drop m=Γ):Kept Ns Γ':=fun F hF=>by
 obtain⟨g,h1,h2⟩:=h F hF
 exact⟨g,List.mem_of_mem_drop<|e▸h1,h2⟩
theorem Kept.nil(Γ:List Fact):Kept [] Γ:=fun F hF=>by cases hF
theorem Kept.cons(h:Kept Ns Γ)(i:Nat)(hf:Γ[i]? =some f)(e:f.F=F):Kept (F::Ns) Γ:=fun G hG=>by
 rcases List.mem_cons.1 hG with rfl|hG
 ·exact⟨f,List.mem_of_getElem? hf,e⟩
 ·exact h G hG
theorem St.ltK(H:St W0 w ps Γ)(h:Kept Ns Γ):∀F∈Ns,∀b∈F,b<w.heap.size:=fun F hF b hb=>by
 obtain⟨f,h1,h2⟩:=h F hF
 exact((H.facts f h1).2 b<|h2▸hb).1
theorem VG{M:List yLN}{p:Nat->Prop}(h1:∀F∈L,∀b∈F,p b)(h2:∀F∈M,∀b∈F,p b):∀F∈L++M,∀b∈F,p b:=fun F hF b hb=>
 (List.mem_append.1 hF).elim (fun h=>h1 F h b hb) fun h=>h2 F h b hb
theorem xE{P:Prop}(h:P:=by simp only[List.length_cons,List.length_append];omega):P:=h
theorem Fresh.Xr(N:Fresh B L)(n:Nat)(is:yLN)
 (hp:pickL L n is=L':=by simp only[pickL,List.filterMap_cons,List.filterMap_nil,List.getElem?_cons_zero,List.getElem?_cons_succ,List.drop_succ_cons,List.drop_zero,List.cons_append,List.nil_append];exact J)
 (hn:n<=L.length:=by simp only[List.length_cons,List.length_append];omega) (hi:is.all (fun i=>Nat.blt i n)=true:=by exact J) (hd:is.Nodup:=by decide):Fresh B L':=hp▸N.xG n is hn hi hd
theorem St.facB(H:St W0 w ps Γ)(is:yLN)(k:Nat)(K0:Kept Ns Γ')(hL:L=(is.filterMap fun i=>(Γ[i]?).map Fact.F)++Ns)(hk:Γ.drop k=Γ'):∀F∈L,∃f∈Γ,f.F=F:=by
 intro F hF
 rw[hL] at hF
 rcases List.mem_append.1 hF with h|h
 ·obtain⟨i,_,hi⟩:=List.mem_filterMap.1 h
  cases hg:Γ[i]? with
  |none=>simp[hg] at hi
  |some f=>exact⟨f,List.mem_of_getElem? hg,by simpa [hg] using hi⟩
 ·exact K0.behind k hk F h
theorem St.awB(H:St W0 w ps Γ)(is:yLN)(k:Nat)(K0:Kept Ns Γ')(hL:L=(is.filterMap fun i=>(Γ[i]?).map Fact.F)++Ns:=by exact J)(hk:Γ.drop k=Γ':=by exact J):
 ∀F∈L,∀b∈F,∀i,yY ps i≠some b:=fun F hF b hb=>by
 obtain⟨f,h1,h2⟩:=H.facB is k K0 hL hk F hF
 exact((H.facts f h1).2 b<|h2▸hb).2
theorem St.ltB(H:St W0 w ps Γ)(is:yLN)(k:Nat)(K0:Kept Ns Γ')(hL:L=(is.filterMap fun i=>(Γ[i]?).map Fact.F)++Ns:=by exact J)(hk:Γ.drop k=Γ':=by exact J):
 ∀F∈L,∀b∈F,b<w.heap.size:=fun F hF b hb=>by
 obtain⟨f,h1,h2⟩:=H.facB is k K0 hL hk F hF
 exact((H.facts f h1).2 b<|h2▸hb).1
theorem St.both{w0:World}{psr:List Prv}{Γr Γk:List Fact}(H:St W0 w0 ps Γ)(K:St w0 w nP Γ')(M:Fresh w0.heap.size L')(N:Fresh W0.heap.size L)(is:yLN)(k:Nat)(K0:Kept Ns Γk)
 (hM:L'=Γ'.map Fact.F:=by exact J) (hp:nP ++ps=psr:=by simp only[List.cons_append,List.nil_append];exact J) (hg:Γ' ++Γ=Γr:=by simp only[List.cons_append,List.nil_append];exact J)
 (hL:L=(is.filterMap fun i=>(Γ[i]?).map Fact.F)++Ns:=by exact J) (hk:Γ.drop k=Γk:=by exact J):Fresh W0.heap.size (L' ++L)/\St W0 w psr Γr:=by
 subst hp hg hM
 exact⟨N.merge H.base.size (H.ltB is k K0 hL hk) M,H.merge K M⟩
theorem St.iceB{L0:List yLN}(H:St W0 w ps Γ)(N:Fresh W0.heap.size L0)(n:Nat)(is:yLN)(k:Nat)(hg:(∀b∈G,b∈F\/yY ps k=some b)/\(F.Nodup->G.Nodup))(js:yLN)(m:Nat)(K0:Kept Ns Γ')
 (hp:pickL L0 n is=F::L:=by simp only[pickL,List.filterMap_cons,List.filterMap_nil,List.getElem?_cons_zero,List.getElem?_cons_succ,List.drop_succ_cons,List.drop_zero,List.cons_append,List.nil_append];exact J)
 (hn:n<=L0.length:=by simp only[List.length_cons,List.length_append];omega) (hL:L=(js.filterMap fun i=>(Γ[i]?).map Fact.F)++Ns:=by exact J) (hk:Γ.drop m=Γ':=by exact J)
 (hi:is.all (fun i=>Nat.blt i n)=true:=by exact J) (hd:is.Nodup:=by decide):Fresh W0.heap.size (G::L):=
 Fresh.ice (hp▸N.xG n is hn hi hd) H k hg.1 hg.2 (H.awB js m K0 hL hk)
end
theorem c_drawK2[Dfr]{Q:Exit->Act->World->Prop}{l:List Oper}{id:Nat}(hm:P.follows .mixedOrders=true)(H:St W0 w ps Γ)(is js:yLN)
 (k:St W0 w.drew ps Γ->RW P l Q (fun w=>St W0 w (is.filterMap fun i=>ps[i]?)<|js.filterMap fun i=>Γ[i]?) n l.toArray.size (Array.replicate l.toArray.size false) ρ w.drew)
 (hi:is.all (fun i=>Nat.blt i ps.length)=true:=by simp) (hj:js.all (fun i=>Nat.blt i Γ.length)=true:=by simp) (hd:is.Nodup:=by decide):(Code.region id l.toArray true).wp P Q (mk n ρ) w:=by
 have H':=H.ext<|ext_drew _
 exact c_draw (fun w=>St W0 w (is.filterMap fun i=>ps[i]?)<|js.filterMap fun i=>Γ[i]?) hm (H'.pick is js (Vz ps is hi) (Vz Γ js hj) hd)<|k H'
theorem zT[Dfr]{Q:Exit->Act->World->Prop}{d:Nat}{pos:String}{af:Array Edge}{K:Env->World->Prop}{xs:Array Operand}{ts:Array TypeId}{f:FuncId}{fst oo:Array Value}{R:Value->World->Prop}(args:Array Value)(hv:ev n ρ x=.func (.func f) fst oo)
 (ni:fst.toList++xs.toList.map (ev n ρ)++oo.toList=args.toList) (hf:∀args w,(callFunc f args).run P w=.ok (.enter f args) w)
 (hc:Calls P f args w fun e w'=>∃v,e=.returned v/\R v w') (k:∀v w',R v w' ->K (upd ρ d v) w'):OW P Q ⟨some d,.call ⟨.value x,xs,ts⟩,ty,pos,af,none⟩ n ρ w K:=
 vF args hv ni hf (hc.mono fun _ w' ⟨v,he,hR⟩=>⟨v,he,k v w' hR⟩)
end
section
section
variable{W0 w : World}{ps : List Prv}{Γ : List Fact}
theorem own_at(H:St W0 w ps Γ)(i:Nat)(hq:ps[i]? =some (.row v e 1 m<|z.map<|Value.int .i64)):
 ∃G,OwnAt e w G v z/\(∀x∈G,yY ps i=some x)/\yc w G/\G.Nodup:=by
 have ho:=(H.has _ (List.mem_of_getElem? hq):w.ownsRow W0.heap.size e 1 v m (z.map<|Value.int .i64))
 have hm:m=z.length:=by have:=ho.1;simp at this;omega
 subst hm
 rcases ho.2 with ⟨rfl,h0⟩|⟨g,gA,gE,rfl,hb,hg,Zg,hcm,LJ,htake⟩
 ·exact⟨[],Or.inl ⟨J,List.eq_nil_of_length_eq_zero h0,J⟩,by simp,yc.nil _,by simp⟩
 ·refine⟨[g],Or.inr ⟨g,gA,gE,J,J,hg,Zg,hcm,by omega,by rw[Nat.mul_one] at htake;exact htake⟩,fun x hx=>?_,fun x hx=>?_,by simp⟩
  ·obtain rfl:=List.mem_singleton.1 hx
   simp[yY,hq,Prv.blk,Value.ownBlock]
  ·obtain rfl:=List.mem_singleton.1 hx
   exact⟨_,_,hg⟩
theorem dead_at{p:Prv}(hq:ps[i]? =some p):∀(b' i':Nat),yY (ps.set i<|.row (Sv none 0 0) 0 1 0 []) i'=some b' ->i' ≠i/\yY ps i'=some b':=by
 intro b' i' h
 unfold yY at h ⊢
 by_cases hi:i'=i
 ·subst hi
  rw[set_at hq] at h
  simp[Prv.blk,Value.ownBlock] at h
 ·rw[List.getElem?_set_ne<|Ne.symm hi] at h
  exact⟨hi,h⟩
theorem St.snocI(H:St W0 w ps Γ)(i:Nat)(hq:ps[i]? =some (.row v e 1 m<|z.map<|Value.int .i64))(j:Nat){l:List (OwnI e)}(hf:Γ[j]? =some (qX true F xs l))
 {L:List yLN} (N:Fresh W0.heap.size (F::L)) (ha:∀K∈L,∀b∈K,∀i,yY ps i≠some b):
 ∃F',Fresh W0.heap.size (F'::L)/\St W0 w (ps.set i<|.row (Sv none 0 0) 0 1 0 []) (qX true F' (xs++[v]) (l++[⟨z⟩])::Γ):=by
 have hF:=(H.facts _<|List.mem_of_getElem? hf).2
 obtain⟨G,hG,hGb,hGf,hgn⟩:=own_at H i hq
 have hGF:∀x∈G,x∉F:=fun x hx h=>(hF x h).2 i<|hGb x hx
 have hGL:∀K∈L,∀x∈K,x∉G:=fun K hK x hx h=>ha K hK x hx i<|hGb x h
 have hge:∀x∈G,W0.heap.size<=x:=fun x hx=>(blkAt_has H<|hGb x hx).1
 have oJ:=dead_at hq
 refine⟨F++G,⟨fun K hK=>?_,fun K hK x hx=>?_,?_⟩,?_⟩
 ·rcases List.mem_cons.1 hK with rfl|h
  ·exact List.nodup_append.2 ⟨N.nd F qm,hgn,fun x hx y hy e=>hGF y hy<|e▸hx⟩
  ·exact N.nd K<|List.mem_cons_of_mem _ h
 ·rcases List.mem_cons.1 hK with rfl|h
  ·rcases List.mem_append.1 hx with h|h
   ·exact N.ge F qm x h
   ·exact hge x h
  ·exact N.ge K (List.mem_cons_of_mem _ h) x hx
 ·have hd:=List.pairwise_cons.1 N.dj
  refine List.pairwise_cons.2 ⟨fun K hK x hx=>?_,hd.2⟩
  rcases List.mem_append.1 hx with h|h
  ·exact hd.1 K hK x h
  ·exact fun hxK=>hGL K hK x hxK h
 ·refine(H.dead i hq).add _ ⟨Qc (H.get j hf).1<|reps_one<|show qI.rep w G [v] (⟨z⟩:OwnI e) from⟨v,J,hG⟩,fun _ x hx=>?_⟩ fun x hx=>?_
  ·rcases List.mem_append.1 hx with h|h
   ·exact(H.get j hf).2 J x h
   ·exact hGf x h
  ·rcases List.mem_append.1 hx with h|h
   ·exact⟨(hF x h).1,fun i' CU =>(hF x h).2 i' (oJ x i' CU).2⟩
   ·exact⟨(blkAt_has H<|hGb x h).2,fun i' CU =>(oJ x i' CU).1<|H.dist i' i x (oJ x i' CU).2<|hGb x h⟩
end
section
variable{P : Program}{Q : Exit -> Act -> World -> Prop}{n : Nat}{ρ : Env}{W0 w : World}{ps : List Prv}{Γ : List Fact}
 {d:Nat} {ty:TypeId} {pos:String} {af:Array Edge} {K:Env->World->Prop}
end
section
variable{B : Nat}{F : yLN}{L : List yLN}
theorem Xn(N:Fresh B (F::L))(i:Nat)(h:L[i]? =some G):∀x∈G,x∉F:=fun x hx hF=>(List.pairwise_cons.1 N.dj).1 G (List.mem_of_getElem? h) x hF hx
theorem kept(j:Nat)(hf:Γ[j]? =some f)(h:∀x∈f.F,x∉F):f∈Γ/\∀x∈f.F,x∉F:=⟨List.mem_of_getElem? hf,h⟩
theorem jf(h:f∈Γ/\∀x∈f.F,x∉F)(k:∀f∈Δ,f∈Γ/\∀x∈f.F,x∉F):∀g∈f::Δ,g∈Γ/\∀x∈g.F,x∉F:=fun g hg=>by
 rcases List.mem_cons.1 hg with rfl|hg
 ·exact h
 ·exact k g hg
end
theorem St.rebase(H:St W0 w ps Γ)(Δ:List Fact)(h:∀f∈Δ,f.φ w/\∀b∈f.F,b<w.heap.size):St w w [] Δ:=
 ⟨Below.refl _ _,by simp,by intro i j b hi;simp[yY] at hi,fun f hf=>⟨(h f hf).1,fun b hb=>⟨(h f hf).2 b hb,fun i=>by simp[yY]⟩⟩⟩
theorem old_fact(H:St W0 w ps Γ)(j:Nat)(hf:Γ[j]? =some f):f.φ w/\∀b∈f.F,b<w.heap.size:=⟨H.get j hf,fun b hb=>((H.facts f<|List.mem_of_getElem? hf).2 b hb).1⟩
theorem old_box(H:St W0 w ps Γ)(k:Nat)(hp:ps[k]? =some (.box b cs t)):(atF b 0 cs).φ w/\∀x∈(atF b 0 cs).F,x<w.heap.size:=
 ⟨H.cells k hp,fun x hx=>by
  have hx':x=b:=by simpa [atF] using hx
  subst hx'
  exact((H.has _<|List.mem_of_getElem? hp).lt J).2⟩
theorem olds_nil:∀f∈([]:List Fact),f.φ w/\∀b∈f.F,b<w.heap.size:=fun f hf=>by cases hf
theorem VU(h:f.φ w/\∀b∈f.F,b<w.heap.size)(k:∀f∈Δ,f.φ w/\∀b∈f.F,b<w.heap.size):∀g∈f::Δ,g.φ w/\∀b∈g.F,b<w.heap.size:=fun g hg=>by
 rcases List.mem_cons.1 hg with rfl|hg
 ·exact h
 ·exact k g hg
theorem away_lt(h:∀b∈G,b<B)(N:Fresh B (F::L)):∀x∈G,x∉F:=fun x hx hF=>by
 have h1:=h x hx
 have h2:=N.ge F qm x hF
 omega
theorem St.ltF(H:St W0 w ps Γ)(i:Nat)(hf:Γ[i]? =some f):∀b∈f.F,b<w.heap.size:=fun b hb=>((H.facts f<|List.mem_of_getElem? hf).2 b hb).1
end
section
def jD(kk M:Int)(l:yLI):Prop:=l.length=kk.toNat/\∀j,j<l.length->0<=l[j]! /\l[j]! <=M
theorem jD.len(h:jD kk M l)(h0:0<=kk):(l.length:Int)=kk:=by have:=h.1;omega
theorem jD.zero(h0:0<=kk)(hM:0<=M):jD kk M (List.replicate kk.toNat 0):=⟨by simp,fun j hj=>by
 have RF :j<kk.toNat:=by simpa using hj
 rw[getElem!_pos (List.replicate kk.toNat (0:Int)) j hj,List.getElem_replicate]
 omega⟩
theorem jD.mono(h:jD kk M l)(hM:M<=M'):jD kk M' l:=⟨h.1,fun j hj=>by have:=h.2 j hj;omega⟩
theorem jD.put{v:Int}(h:jD kk M l)(h0:0<=v/\v<=M):jD kk M (l.set i v):=⟨by rw[List.length_set];exact h.1,fun j hj=>by
 rw[List.length_set] at hj
 rw[getElem!_pos (l.set i v) j<|by rw[List.length_set];exact hj,List.getElem_set]
 split
 ·exact h0
 ·have:=h.2 j hj
  rwa [getElem!_pos l j hj] at this⟩
theorem jD.up(h:jD kk M l)(hi:i<l.length)(hM:M+1<=M'):jD kk M' (l.set i<|l[i]! +1):=
 (h.mono (by omega:M<=M')).put (by have:=h.2 i hi;omega)
theorem jD.ok(h:jD kk M l)(hk:1<=kk/\kk<=8)(hM:M<=1000):jd kk l:=
 ⟨⟨fun j hj=>by have:=h.2 j hj;omega,by have:=h.len qf;omega,by have:=h.len qf;omega⟩,h.len qf⟩
theorem jD.small(h:jD kk M l)(hk:1<=kk/\kk<=8)(hM:M<=1000):Small l:=ja<|h.ok hk hM
theorem sumTo_up{l:yLI}(h:∀j,j<l.length->0<=l[j]!):∀k,k<=l.length->0<=sumTo l k/\∀i,i<k->l[i]! <=sumTo l k
 |0,_=>⟨Int.le_refl _,fun i hi=>by omega⟩
 |k+1,hk=>by
  obtain⟨h1,h2⟩:=sumTo_up h k qf
  have h3:=h k qf
  refine⟨by simp only[sumTo];omega,fun i hi=>?_⟩
  simp only[sumTo]
  rcases Nat.lt_or_eq_of_le (Nat.le_of_lt_succ hi) with h4|h4
  ·have:=h2 i h4;omega
  ·subst h4;omega
theorem jD.one(h:jD kk M l)(hk:1<=kk/\kk<=8)(hM:1<=M)(hs:Yk l=0)(hi:i<l.length):Yk (l.set i 1)≠0:=by
 have h1:=h.put (i:=i) (v:=1) qf
 have h2:=(sumTo_up (l:=l.set i 1) (fun j hj=>(h1.2 j hj).1) _<|Nat.le_refl _).2 i<|by rw[List.length_set];exact hi
 rw[getElem!_pos (l.set i 1) i<|by rw[List.length_set];exact hi,List.getElem_set_self] at h2
 show sumTo _ _≠0
 omega
def IntoDr(kk:Int)(par:yLI)(cell:Int)(l:List IntoD)(c:Int):Prop:=
 ∀j,j<l.length->(0<=l[j]!.qW/\l[j]!.qW<c)/\Lies par cell l[j]!.qW/\jD kk 1 l[j]!.Xc/\Yk l[j]!.Xc≠0/\(0<j->l[j-1]!.qW<l[j]!.qW)
theorem IntoDr.nil(kk:Int)(par:yLI)(cell c:Int):IntoDr kk par cell [] c:=fun j hj=>by simp at hj
theorem IntoDr.mono{par:yLI}{cell c c':Int}{l:List IntoD}(h:IntoDr kk par cell l c)(hc:c<=c'):IntoDr kk par cell l c':=fun j hj=>by
 obtain⟨h1,h2⟩:=h j hj
 exact⟨by omega,h2⟩
theorem V6{α:Type}[Inhabited α]{l:List α}{x:α}:(l++[x])[j]! =if j<l.length then l[j]! else if j=l.length then x else default:=by
 by_cases h:j<l.length
 ·rw[if_pos h,getElem!_pos (l++[x]) j qy,getElem!_pos l j h,List.getElem_append_left h]
 ·rw[if_neg h]
  by_cases h2:j=l.length
  ·subst h2
   rw[if_pos J,getElem!_pos (l++[x]) l.length qm]
   simp
  ·rw[if_neg h2,getElem!_neg (l++[x]) j qy]
theorem IntoDr.snoc{par:yLI}{cell c:Int}{l:List IntoD}{b:yLI}(h:IntoDr kk par cell l c)(hc:0<=c)(hl:Lies par cell c)(hb:jD kk 1 b)(hs:Yk b≠0):IntoDr kk par cell (l++[⟨c,b⟩]) (c+1):=fun j hj=>by
 have RF :j<l.length\/j=l.length:=by simp at hj;omega
 rcases RF with RF|RF
 ·obtain⟨h1,h2,h3,h4,h5⟩:=h j RF
  rw[V6,if_pos RF,V6,if_pos qf]
  exact⟨by omega,h2,h3,h4,h5⟩
 ·subst RF
  rw[V6,if_neg qf,if_pos J]
  refine⟨⟨hc,by show c<c+1;omega⟩,hl,hb,hs,fun h0=>?_⟩
  rw[V6,if_pos qf]
  exact(h (l.length-1) qf).1.2
structure RuleDr(kk:Int)(par:yLI)(r:yz):Prop where
 cell:0<=r.qW/\r.qW<par.length
 rank:0<=r.yH/\r.yH<=2
 melts:¬(r.je=true/\r.qW=0)
 need:jD kk 2 r.vg/\Yk r.vg≠0
 hav:jD kk 1 r.jI
 lack:jD kk 1 r.jK
 here:jD kk 2 r.jq
 out:jD kk 2 r.Qz
 many:r.xn.length<=3
 into:IntoDr kk par r.qW r.xn par.length
theorem RuleDr.ok{s:qJ}{r:yz}(h:RuleDr s.qQ s.qA r)(hk:1<=s.qQ/\s.qQ<=8):RuleOk s r:=
 ⟨⟨h.cell.1,by have:=h.cell.2;omega⟩,by have:=h.rank;omega,h.melts,h.many,h.need.1.ok hk qf,h.hav.ok hk qf,h.lack.ok hk qf,h.here.ok hk qf,h.out.ok hk qf,h.need.2,
  fun j hj=>by
   obtain⟨h1,h2,h3,h4,h5⟩:=h.into j hj
   exact⟨⟨h1.1,by omega⟩,h2,h3.ok hk qf,h4,h5⟩⟩
theorem ruleDr_of{par:yLI}{cell rank:Int}{need hav lack here out:yLI}{into:List IntoD}{melts:Bool}(h1:0<=cell/\cell<(par.length:Int))(h2:0<=rank/\rank<=2)(h3:melts=true->cell≠0)
 (h4:jD kk 2 need/\Yk need≠0) (h5:jD kk 1 hav) (h6:jD kk 1 lack) (h7:jD kk 2 here) (h8:jD kk 1 out) (h9:into.length<=3/\IntoDr kk par cell into par.length):RuleDr kk par ⟨cell,rank,need,hav,lack,here,out,into,melts⟩:=
 ⟨h1,h2,fun h=>h3 h.1 h.2,h4,h5,h6,h7,h8.mono qf,h9.1,h9.2⟩
def QH(kk:Int)(par:yLI)(l:List yz):Prop:=∀j,j<l.length->RuleDr kk par l[j]!
theorem QH.nil(kk:Int)(par:yLI):QH kk par []:=fun j hj=>by simp at hj
theorem QH.snoc{par:yLI}{l:List yz}(h:QH kk par l)(hr:RuleDr kk par r):QH kk par (l++[r]):=fun j hj=>by
 rw[V6]
 by_cases h1:j<l.length
 ·rw[if_pos h1];exact h j h1
 ·rw[if_neg h1,if_pos (by simp at hj;omega)];exact hr
theorem QH.set{kk:Int}{par:yLI}{l:List yz}{r:yz}{i:Nat}(h:QH kk par l)(hr:RuleDr kk par r):QH kk par (l.set i r):=fun j hj=>by
 rw[List.length_set] at hj
 rw[getElem!_pos (l.set i r) j<|by rw[List.length_set];exact hj,List.getElem_set]
 split
 ·exact hr
 ·have:=h j hj;rwa [getElem!_pos l j hj] at this
def ParDr(par:yLI):Prop:=1<=par.length/\par[0]! = -1/\∀c,1<=c->c<par.length->0<=par[c]! /\par[c]! <=(c:Int)-1
theorem ParDr.one:ParDr [-1]:=⟨by simp,rfl,fun c h1 h2=>by simp at h2;omega⟩
theorem ParDr.snoc{par:yLI}{v:Int}(h:ParDr par)(hv:0<=v/\v<par.length):ParDr (par++[v]):=by
 obtain⟨h1,h2,h3⟩:=h
 refine⟨by simp,by rw[V6,if_pos qf];exact h2,fun c hc hl=>?_⟩
 rw[V6]
 by_cases h4:c<par.length
 ·rw[if_pos h4];exact h3 c hc h4
 ·have h5:c=par.length:=by simp at hl;omega
  rw[if_neg h4,if_pos h5];omega
theorem frame_of{par:yLI}(h:ParDr par)(hk:1<=kk/\kk<=3)(hl:par.length<=3):yf ⟨kk,par,rules⟩:=
 ⟨⟨hk.1,by show kk<=8;omega⟩,⟨h.1,by show par.length<=6;omega⟩,h.2.1,h.2.2⟩
structure SysDr(kk:Int)(par:yLI)(rules:List yz):Prop where
 kinds:1<=kk/\kk<=3
 cells:1<=par.length/\par.length<=3
 skin:par[0]! = -1
 up:∀c,1<=c->c<par.length->0<=par[c]! /\par[c]! <=(c:Int)-1
 few:rules.length<=5
 rules:QH kk par rules
theorem sysDr_of{par:yLI}(h:ParDr par)(hk:1<=kk/\kk<=3)(hl:par.length<=3)(hr:rules.length<=5)(hd:QH kk par rules):SysDr kk par rules:=⟨hk,⟨h.1,hl⟩,h.2.1,h.2.2,hr,hd⟩
theorem SysDr.frame{par:yLI}(h:SysDr kk par rules):yf ⟨kk,par,rules⟩:=by
 have h1:=h.kinds
 have h2:=h.cells
 exact⟨⟨h1.1,by show kk<=8;omega⟩,⟨h2.1,by show par.length<=6;omega⟩,h.skin,h.up⟩
theorem SysDr.ok{kk:Int}{par:yLI}{rules:List yz}(h:SysDr kk par rules):jW ⟨kk,par,rules⟩:=by
 have h1:=h.kinds
 have h3:=h.few
 refine⟨h.frame,by show rules.length<=16;omega,fun j hj=>⟨(h.rules j hj).ok (s:=⟨kk,par,rules⟩) ⟨h1.1,by show kk<=8;omega⟩,?_⟩⟩
 have h4:=(ofCell_bd rules rules[j]!.qW<|j+1).2
 have h5:j<rules.length:=hj
 show ofCell rules rules[j]!.qW (j+1)<=8
 omega
structure StDr(kk:Int)(n:Nat)(M:Int)(alive:List Bool)(bags:yLL)(around:yLI):Prop where
 la:alive.length=n
 lb:bags.length=n
 skin:alive[0]! =true
 around:jD kk 2 around
 bags:∀c,c<bags.length->jD kk M (bags[c]!)/\(alive[c]! =false->Yk bags[c]!<=0)
theorem StDr.ok{kk M:Int}{par:yLI}{rules:List yz}{alive:List Bool}{bags:yLL}{around:yLI}(h:StDr kk par.length M alive bags around)(hs:SysDr kk par rules)(hM:M<=1000):zA ⟨kk,par,rules⟩ ⟨alive,bags,around⟩:=by
 have h1:=hs.kinds
 exact⟨h.la,h.lb,h.skin,h.around.ok ⟨h1.1,by omega⟩ qf,fun c hc=>⟨(h.bags c hc).1.ok ⟨h1.1,by show kk<=8;omega⟩ hM,(h.bags c hc).2⟩⟩
structure StTo(kk M:Int)(c:Nat)(alive:List Bool)(bags:yLL):Prop where
 la:alive.length=c
 lb:bags.length=c
 skin:0<c->alive[0]! =true
 bags:∀j,j<bags.length->jD kk M (bags[j]!)/\(alive[j]! =false->Yk bags[j]!<=0)
theorem StTo.nil(kk M:Int):StTo kk M 0 [] []:=⟨rfl,rfl,fun h=>by omega,fun j hj=>by simp at hj⟩
theorem StTo.snoc{alive:List Bool}{bags:yLL}{a:Bool}{b:yLI}(h:StTo kk M c alive bags)(ha:c=0->a=true)(hb:jD kk M b)(hz:a=false->Yk b<=0):StTo kk M (c+1) (alive++[a]) (bags++[b]):=by
 have la:=h.la
 have lb:=h.lb
 refine⟨by simp[la],by simp[lb],fun _=>?_,fun j hj=>?_⟩
 ·rw[V6]
  by_cases h0:0<c
  ·rw[if_pos qf];exact h.skin h0
  ·rw[if_neg qf,if_pos qf];exact ha qf
 ·rw[V6,V6]
  by_cases h1:j<c
  ·rw[if_pos qf,if_pos qf];exact h.bags j qf
  ·rw[if_neg qf,if_pos (by simp at hj;omega),if_neg qf,if_pos (by simp at hj;omega)];exact⟨hb,hz⟩
end
section
instance:qI UInt8 where
 size:=1
 rep:=fun _ F cs x=>F=[]/\cs=[.int .u8 (x.toNat:Int)]
 len:=by rintro w F cs x ⟨_,rfl⟩;rfl
 one:=by rintro w F cs x ⟨_,rfl⟩ u hu;simp only[List.mem_singleton] at hu;subst hu;rfl
 stay:=by rintro w w' F cs x h _;exact h
 lt:=by rintro w F cs x ⟨rfl,_⟩ b hb;simp at hb
section
variable{P : Program}{fb : Array Oper}{Q : Exit -> Act -> World -> Prop}{n : Nat}{ρ : Env}{W0 w : World}{rest : List Oper}{ps : List Prv}{Γ : List Fact}
 {d:Nat} {ty:TypeId} {pos:String} {af:Array Edge} {K:Env->World->Prop}
theorem St.elemByte(H:St W0 w ps Γ)(i:Nat){l:List UInt8}(hf:Γ[i]? =some (isF fr F (Sv (some ⟨b,o,none⟩) m c) l))(iv:Int)(k:Nat)(hk:iv.toNat=k)(h0:0<=iv)(h1:iv<l.length):
 w.cell? ⟨b,o+iv.toNat*1,none⟩=some (.int .u8 ((l[k]!.toNat:Nat):Int)):=by
 obtain⟨cs,Fk,hc,hr,_⟩:=H.elem i hf iv h0 h1
 rw[hk] at hr
 obtain⟨_,rfl⟩:=hr
 have:=hc 0 _ J
 simpa [qI.size] using this
theorem byte_lt(x:UInt8):((x.toNat:Nat):Int)<=255:=by have:=x.toNat_lt;omega
theorem o_mulU[Dfr](a b:Int)(hx:ev n ρ x=.int .u64 a)(hy:ev n ρ y=.int .u64 b)(k:∀r,K (upd ρ d<|.int .u64 r) w):OW P Q ⟨some d,.binOp .mul t x y u,ty,pos,af,none⟩ n ρ w K:=
 Xx (.int .u64<|IntKind.u64.wrap<|a*b) (by simp[execOp,hx,hy,eqGuard,binOp,Op.intArith]) (k _)
theorem o_addU[Dfr](a b:Int)(hx:ev n ρ x=.int .u64 a)(hy:ev n ρ y=.int .u64 b)(k:∀r,K (upd ρ d<|.int .u64 r) w):OW P Q ⟨some d,.binOp .add t x y u,ty,pos,af,none⟩ n ρ w K:=
 Xx (.int .u64<|IntKind.u64.wrap<|a+b) (by simp[execOp,hx,hy,eqGuard,binOp,Op.intArith]) (k _)
theorem o_shrU[Dfr](a b:Int)(h:0<=b)(hx:ev n ρ x=.int .u64 a)(hy:ev n ρ y=.int .u64 b)(k:∀r,K (upd ρ d<|.int .u64 r) w):OW P Q ⟨some d,.binOp .shr t x y u,ty,pos,af,none⟩ n ρ w K:=
 Xx (.int .u64<|a.fdiv<|2 ^ (min b.toNat IntKind.u64.bits)) (by simp[execOp,hx,hy,eqGuard,binOp,Op.shift,show ¬b<0 by omega]) (k _)
theorem and_bd(a:Int):0<=IntKind.u64.wrap ((BitVec.ofInt IntKind.u64.bits a &&& BitVec.ofInt IntKind.u64.bits 255).toNat:Int)/\IntKind.u64.wrap ((BitVec.ofInt IntKind.u64.bits a &&& BitVec.ofInt IntKind.u64.bits 255).toNat:Int)<=255:=by
 have b6:IntKind.u64.bits=64:=rfl
 have s6:IntKind.u64.signed=false:=rfl
 have h:(BitVec.ofInt IntKind.u64.bits a &&& BitVec.ofInt IntKind.u64.bits 255).toNat<=255:=by
  rw[BitVec.toNat_and]
  exact Nat.le_trans Nat.and_le_right qj
 generalize (BitVec.ofInt IntKind.u64.bits a &&& BitVec.ofInt IntKind.u64.bits 255).toNat=m at h ⊢
 simp only[IntKind.wrap,b6,s6,Bool.false_and,Bool.false_eq_true,if_false]
 omega
theorem o_andU[Dfr](a:Int)(hx:ev n ρ x=.int .u64 a)(hy:ev n ρ y=.int .u64 255)(k:∀r,0<=r/\r<=255->K (upd ρ d<|.int .u64 r) w):OW P Q ⟨some d,.binOp .and t x y u,ty,pos,af,none⟩ n ρ w K:=
 Xx (.int .u64<|IntKind.u64.wrap ((BitVec.ofInt IntKind.u64.bits a &&& BitVec.ofInt IntKind.u64.bits 255).toNat:Int)) (by simp[execOp,hx,hy,eqGuard,binOp,Op.intBits]) (k _<|and_bd a)
theorem o_conv[Dfr]{s:TypeId}{ds:TypeDesc}{k k':IntKind}(a:Int)(hs:P.underlying s=some ds)(ht:P.underlying t=some (.int k'))(hx:ev n ρ x=.int k a)(h:K (upd ρ d<|.int k'<|k'.wrap a) w):
 OW P Q ⟨some d,.convert s t x,ty,pos,af,none⟩ n ρ w K:=
 Xx _ (by simp[execOp,hx,convert,run_underlying hs,run_underlying ht,Conv.intToInt]) h
theorem o_convI[Dfr]{s:TypeId}{ds:TypeDesc}{k:IntKind}(a:Int)(hs:P.underlying s=some ds)(ht:P.underlying t=some (.int .i64))(hx:ev n ρ x=.int k a)(h0:0<=a/\a<=255)(h:K (upd ρ d<|.int .i64 a) w):
 OW P Q ⟨some d,.convert s t x,ty,pos,af,none⟩ n ρ w K:=by
 refine o_conv a hs ht hx ?_
 rw[wrap_in qf]
 exact h
theorem o_convU[Dfr]{s:TypeId}{ds:TypeDesc}{k:IntKind}(a:Int)(hs:P.underlying s=some ds)(ht:P.underlying t=some (.int .u64))(hx:ev n ρ x=.int k a)(h:∀r,K (upd ρ d<|.int .u64 r) w):
 OW P Q ⟨some d,.convert s t x,ty,pos,af,none⟩ n ρ w K:=o_conv a hs ht hx<|h _
end
section
variable{P : Program}{n : Nat}{ρ : Env}{W0 w : World}{ps : List Prv}{Γ : List Fact}
theorem retCTC{fn:Func}{R:Ending->World->Prop}{t u z T U:Nat}{ds:List Value}{tb tc:TypeId}(H:St W0 w ps Γ)(i:Nat)(hp:ps[i]? =some (.box b cs tb))(x:Value)(j:Nat)(hq:ps[j]? =some (.box c ds tc))(hr:fn.results=#[.cell t T,.tmp z,.cell u U])
 (ha:∀w,(isAgg T).run P w=.ok true w) (hs:∀w,(Go.sizeOf T).run P w=.ok cs.length w) (ha':∀w,(isAgg U).run P w=.ok true w) (hs':∀w,(Go.sizeOf U).run P w=.ok ds.length w)
 (hv:ev n ρ (.tmp t)=.pointer (some ⟨b,0,none⟩)) (hz:ev n ρ (.tmp z)=x) (hx:ev n ρ (.tmp u)=.pointer (some ⟨c,0,none⟩)) (h:R (.returned<|.tuple #[.agg cs.toArray,x,.agg ds.toArray]) w):bodyPost P fn R .ret (mk n ρ) w:=by
 have hl:=run_loadCells_list (P:=P) w ⟨b,0,none⟩ cs (fun j v hv=>by rw[Addr.add_mid];exact H.cells i hp j v hv)
 have FR :=run_loadCells_list (P:=P) w ⟨c,0,none⟩ ds (fun k v hv=>by rw[Addr.add_mid];exact H.cells j hq k v hv)
 have e:=congrFun (XV n ρ)<|.tmp t
 have e':=congrFun (XV n ρ)<|.tmp u
 have e'' :=congrFun (XV n ρ)<|.tmp z
 simp only[Act.eval,Array.getD_eq_getD_getElem?] at e e' e''
 rw[hv] at e
 rw[hx] at e'
 rw[hz] at e''
 exact bodyPost_ret (v:=.tuple #[.agg cs.toArray,x,.agg ds.toArray]) (by simp[results,hr,e,e',e'',asAddr,loadVar,ha,hs,hl,ha',hs',FR]) J h
end
theorem St.rowel_RuleD(H:St W0 w ps Γ)(k:Nat)(hp:ps[k]? =some (.row (Sv (some ⟨b,0,none⟩) nn c) e 9 nn xs))(j:Nat){l:List yz}
 (hf:Γ[j]? =some (qX fr F xs l)) {iv:Int} (i:Nat) (h:iv.toNat=i) (h1:i<nn):
 ∃(aN:yOA) (cN:Nat) (FN:yLN) (aH:yOA) (cH:Nat) (FH:yLN) (aL:yOA) (cL:Nat) (FL:yLN) (aE:yOA) (cE:Nat) (FE:yLN) (aO:yOA) (cO:Nat) (FO:yLN) (aI:yOA) (cI:Nat) (FI:yLN),
  (∀(q:Nat) (v:Value),([.int .i64 l[i]!.qW,.int .i64 l[i]!.yH,Sv aN l[i]!.vg.length cN,Sv aH l[i]!.jI.length cH,Sv aL l[i]!.jK.length cL,Sv aE l[i]!.jq.length cE,Sv aO l[i]!.Qz.length cO,Sv aI l[i]!.xn.length cI,Bv l[i]!.je]:List Value)[q]? =some v->xs[0+iv.toNat*9+q]? =some v)∧
  St W0 w ps (isF fr FN (Sv aN l[i]!.vg.length cN) (l[i]!.vg)::isF fr FH (Sv aH l[i]!.jI.length cH) (l[i]!.jI)::isF fr FL (Sv aL l[i]!.jK.length cL) l[i]!.jK ::
   isF fr FE (Sv aE l[i]!.jq.length cE) (l[i]!.jq)::isF fr FO (Sv aO l[i]!.Qz.length cO) (l[i]!.Qz)::isF fr FI (Sv aI l[i]!.xn.length cI) (l[i]!.xn)::Γ):=by
 obtain⟨cs,G,hc,hr,bV,eJ,v1,v2,hv,E5⟩:=St.rowElem (α:=yz) H k hp j hf qj h h1
 obtain⟨vN,vH,vL,vE,vO,vI,FN,FH,FL,FE,FO,FI,rfl,dA,hN,hH,hL,hE,hO,hI⟩:=id hr
 obtain⟨aN,cN,rfl⟩:=slice_form hN
 obtain⟨aH,cH,rfl⟩:=slice_form hH
 obtain⟨aL,cL,rfl⟩:=slice_form hL
 obtain⟨aE,cE,rfl⟩:=slice_form hE
 obtain⟨aO,cO,rfl⟩:=slice_form hO
 obtain⟨aI,cI,rfl⟩:=slice_form hI
 refine⟨aN,cN,FN,aH,cH,FH,aL,cL,FL,aE,cE,FE,aO,cO,FO,aI,cI,FI,fun q v hq=>?_,?_⟩
 ·have E5:v1.length=i*9:=E5
  have nU:q<9:=by
   rcases Nat.lt_or_ge q 9 with h|h
   ·exact h
   ·rw[List.getElem?_eq_none<|by simpa using h] at hq;cases hq
  rw[hv,List.append_assoc,Nat.zero_add,h,←E5,List.getElem?_append_right qf,Nat.add_sub_cancel_left,List.getElem?_append_left<|by simpa using nU]
  exact hq
 ·have hs:∀ {x:Nat} {X:yLN},x∈X->(∀y∈X,y∈G)->x∈G:=fun h h'=>h' _ h
  have s6:=H.jR j hf (isF fr FI (Sv aI l[i]!.xn.length cI) l[i]!.xn) ⟨hI,fun e=>(eJ e).sub<|by rw[dA];intro x hx;simp[hx]⟩<|fun x hx=>bV x (by rw[dA];have hx:x∈FI:=hx;simp[hx])
  have s5:=s6.jR (j+1) hf (isF fr FO (Sv aO l[i]!.Qz.length cO) l[i]!.Qz) ⟨hO,fun e=>(eJ e).sub<|by rw[dA];intro x hx;simp[hx]⟩<|fun x hx=>bV x (by rw[dA];have hx:x∈FO:=hx;simp[hx])
  have s4:=s5.jR (j+2) hf (isF fr FE (Sv aE l[i]!.jq.length cE) l[i]!.jq) ⟨hE,fun e=>(eJ e).sub<|by rw[dA];intro x hx;simp[hx]⟩<|fun x hx=>bV x (by rw[dA];have hx:x∈FE:=hx;simp[hx])
  have s3:=s4.jR (j+3) hf (isF fr FL (Sv aL l[i]!.jK.length cL) l[i]!.jK) ⟨hL,fun e=>(eJ e).sub<|by rw[dA];intro x hx;simp[hx]⟩<|fun x hx=>bV x (by rw[dA];have hx:x∈FL:=hx;simp[hx])
  have s2:=s3.jR (j+4) hf (isF fr FH (Sv aH l[i]!.jI.length cH) l[i]!.jI) ⟨hH,fun e=>(eJ e).sub<|by rw[dA];intro x hx;simp[hx]⟩<|fun x hx=>bV x (by rw[dA];have hx:x∈FH:=hx;simp[hx])
  exact s2.jR (j+5) hf (isF fr FN (Sv aN l[i]!.vg.length cN) l[i]!.vg) ⟨hN,fun e=>(eJ e).sub<|by rw[dA];intro x hx;simp[hx]⟩<|fun x hx=>bV x (by rw[dA];have hx:x∈FN:=hx;simp[hx])
theorem part_lt(h:xs[q]? =some v):q<xs.length:=(List.getElem?_eq_some_iff.1 h).1
theorem part_get{cells:List Value}(hx:∀(q:Nat) (v:Value),cells[q]? =some v->xs[B+q]? =some v)(j:Nat)(u:Value)(hj:j<cells.length):
 ∀(q:Nat) (v:Value),(cells.set j u)[q]? =some v->(xs.set (B+j) u)[B+q]? =some v:=fun q v h=>by
 have hl:=part_lt<|hx j _<|List.getElem?_eq_getElem hj
 by_cases e:q=j
 ·subst e
  rw[List.getElem?_set_self hj] at h
  rw[List.getElem?_set_self hl]
  exact h
 ·rw[List.getElem?_set_ne<|fun h=>e h.symm] at h
  rw[List.getElem?_set_ne qf]
  exact hx q v h
section
variable{P : Program}{fb : Array Oper}{Q : Exit -> Act -> World -> Prop}{n : Nat}{ρ : Env}{W0 w : World}{rest : List Oper}{ps : List Prv}{Γ : List Fact}
 {d:Nat} {ty:TypeId} {pos:String} {af:Array Edge} {K:Env->World->Prop}
theorem o_storePart(H:St W0 w ps Γ)(k:Nat)(hp:ps[k]? =some (.row (Sv (some ⟨b,0,none⟩) nn c) e sz nn xs))(v:Value)
 (hs:∀w,(Go.sizeOf t).run P w=.ok 1 w) (hx:ev n ρ x=.pointer (some ⟨b,off,none⟩)) (hy:ev n ρ y=v) (h1:v.oneCell'=true) (h2:off<xs.length)
 (kk:∀w',St W0 w' (ps.set k<|.row (Sv (some ⟨b,0,none⟩) nn c) e sz nn<|xs.set off v) Γ->K ρ w'):
 OW P Q ⟨none,.store t x y,ty,pos,af,none⟩ n ρ w K:=by
 have hc:v.cells=#[v]:=by cases v <;> first|rfl|(simp[Value.oneCell'] at h1)
 refine o_storeRow H k hp v (by simpa [hc] using hs) hx hy (by simp[hc,h1]) (by simp[hc];omega) ?_
 simp only[hc,List.size_toArray,List.length_cons,List.length_nil,Nat.zero_add]
 rw[show xs.take off++[v]++xs.drop (off+1)=xs.set off v by rw[List.set_eq_take_append_cons_drop,if_pos qf];simp]
 exact kk
end
theorem reps_part{α:Type}[qI α][Inhabited α]{l:List α}{f:α}(i q:Nat)(hi:i<l.length)(hq:q<qI.size α)
 (hr:∀Fk ck,qI.rep w Fk ck (l[i]!)->∃F',qI.rep w F' (ck.set q v) f/\∀b∈F',b∈Fk\/b∈G) (h:reps w F X l):
 ∃F',reps w F' (X.set (i*qI.size α+q) v) (l.set i f)/\∀b∈F',b∈F\/b∈G:=by
 obtain⟨F1,Fk,F2,v1,cs,v2,hF,hv,E0,hlc,h1,h2,h3⟩:=reps_get h i hi
 obtain⟨F',hr',hs⟩:=hr Fk cs<|by rw[getElem!_pos l i hi];exact h1
 refine⟨F1++F' ++F2,?_,fun b hb=>?_⟩
 ·rw[hv,←E0,List.append_assoc v1,List.set_append_right _ _ qf,Nat.add_sub_cancel_left,List.set_append_left _ _ qf,List.set_eq_take_append_cons_drop (l:=l),if_pos hi,←List.append_assoc]
  have:=Qc (Qc h2<|reps_one hr') h3
  simpa using this
 ·simp only[List.mem_append] at hb
  rw[hF]
  rcases hb with (hb|hb)|hb
  ·exact .inl<|by simp[hb]
  ·rcases hs b hb with h|h
   ·exact .inl<|by simp[h]
   ·exact .inr h
  ·exact .inl<|by simp[hb]
section
variable{W0 w : World}{ps : List Prv}{Γ : List Fact}
theorem St.part{β:Type}[qI β](H:St W0 w ps Γ)(j:Nat){l:List yz}(hf:Γ[j]? =some (qX fr F X l))(m:Nat){z:β}(hg:Γ[m]? =some (isF S4 G v z))
 {iv:Int} (i:Nat) (hi:iv.toNat=i) (h1:i<l.length) (q:Nat) (hq:q<9) (f:yz) (hr:∀Fk ck,qI.rep w Fk ck (l[i]!)->∃F',qI.rep w F' (ck.set q v) f/\∀b∈F',b∈Fk\/b∈G):
 ∃F',St W0 w ps (qX false F' (X.set (0+iv.toNat*9+q) v) (l.set i f)::Γ):=by
 subst hi
 obtain⟨F',h2,h3⟩:=reps_part (α:=yz) iv.toNat q h1 hq hr (H.get j hf).1
 refine⟨F',H.add _ ⟨by rw[Nat.zero_add];exact h2,by simp⟩ fun b hb=>?_⟩
 rcases h3 b hb with h|h
 ·exact(H.facts _<|List.mem_of_getElem? hf).2 b h
 ·exact(H.facts _<|List.mem_of_getElem? hg).2 b h
theorem St.part_5(H:St W0 w ps Γ)(j:Nat){l:List yz}(hf:Γ[j]? =some (qX fr F X l))(m:Nat)(hg:Γ[m]? =some (isF S4 G v z))(i:Nat)(hi:iv.toNat=i)(h1:i<l.length):
 ∃F',St W0 w ps (qX false F' (X.set (0+iv.toNat*9+5) v) (l.set i { l[i]! with jq:=z })::Γ):=by
 refine H.part j hf m hg i hi h1 5 qj _ fun Fk ck hk=>?_
 obtain⟨v1,v2,v3,v4,v5,v6,F1,F2,F3,F4,F5,F6,rfl,rfl,k1,k2,k3,k4,k5,k6⟩:=hk
 refine⟨_,⟨v1,v2,v3,v,v5,v6,F1,F2,F3,G,F5,F6,J,J,k1,k2,k3,(H.get m hg).1,k5,k6⟩,fun b hb=>?_⟩
 simp only[List.mem_append] at hb
 rcases hb with ((((hb|hb)|hb)|hb)|hb)|hb <;> simp[hb]
theorem St.part_8(H:St W0 w ps Γ)(j:Nat){l:List yz}(hf:Γ[j]? =some (qX fr F X l))(z:Bool)(i:Nat)(hi:iv.toNat=i)(h1:i<l.length):
 ∃F',St W0 w ps (qX false F' (X.set (0+iv.toNat*9+8)<|Bv z) (l.set i { l[i]! with je:=z })::Γ):=by
 subst hi
 obtain⟨F',h2,h3⟩:=reps_part (α:=yz) (G:=[]) (v:=Bv z) (f:={ l[iv.toNat]! with je:=z }) iv.toNat 8 h1 qj (fun Fk ck hk=>by
  obtain⟨v1,v2,v3,v4,v5,v6,F1,F2,F3,F4,F5,F6,rfl,rfl,k1,k2,k3,k4,k5,k6⟩:=hk
  exact⟨_,⟨v1,v2,v3,v4,v5,v6,F1,F2,F3,F4,F5,F6,J,J,k1,k2,k3,k4,k5,k6⟩,fun b hb=>.inl hb⟩) (H.get j hf).1
 refine⟨F',H.add _ ⟨by rw[Nat.zero_add];exact h2,by simp⟩ fun b hb=>?_⟩
 rcases h3 b hb with h|h
 ·exact(H.facts _<|List.mem_of_getElem? hf).2 b h
 ·simp at h
end
theorem QH.here{par:yLI}{l:List yz}{b:yLI}(h:QH kk par l)(hi:i<l.length)(hb:jD kk 2 b):QH kk par (l.set i { l[i]! with jq:=b }):=
 h.set (let r:=h i hi;⟨r.cell,r.rank,r.melts,r.need,r.hav,r.lack,hb,r.out,r.many,r.into⟩)
theorem QH.out{par:yLI}{l:List yz}{b:yLI}(h:QH kk par l)(hi:i<l.length)(hb:jD kk 2 b):QH kk par (l.set i { l[i]! with Qz:=b }):=
 h.set (let r:=h i hi;⟨r.cell,r.rank,r.melts,r.need,r.hav,r.lack,r.here,hb,r.many,r.into⟩)
theorem QH.into{par:yLI}{l:List yz}(h:QH kk par l)(hi:i<l.length):QH kk par (l.set i { l[i]! with xn:=[]}):=
 h.set (let r:=h i hi;⟨r.cell,r.rank,r.melts,r.need,r.hav,r.lack,r.here,r.out,by simp,IntoDr.nil _ _ _ _⟩)
theorem QH.still{par:yLI}{l:List yz}(h:QH kk par l)(hi:i<l.length):QH kk par (l.set i { l[i]! with je:=false }):=
 h.set (let r:=h i hi;⟨r.cell,r.rank,(fun e=>Bool.noConfusion e.1),r.need,r.hav,r.lack,r.here,r.out,r.many,r.into⟩)
theorem SysDr.with{par:yLI}{Gh:List yz}(h:SysDr kk par rules)(h1:Gh.length<=5)(h2:QH kk par Gh):SysDr kk par Gh :=⟨h.kinds,h.cells,h.skin,h.up,h1,h2⟩
def HereTo(kk:Int)(k:Nat)(l:yLI):Prop:=jD kk 2 l/\∀j,j<l.length->k<=j+1->l[j]! =0
theorem HereTo.zero{kk:Int}(h0:0<=kk):HereTo kk 1 (List.replicate kk.toNat 0):=⟨jD.zero h0 qf,fun j hj _=>by rw[getElem!_pos (List.replicate kk.toNat (0:Int)) j hj,List.getElem_replicate]⟩
theorem HereTo.go(h:HereTo kk k l):HereTo kk (k+1) l:=⟨h.1,fun j hj hk=>h.2 j hj qf⟩
theorem HereTo.put{kk:Int}{k i:Nat}{l:yLI}{v:Int}(h:HereTo kk k l)(hi:i<l.length)(hk:i+1=k)(hv:0<=v/\v<=2):HereTo kk (k+1) (l.set i<|l[i]! +v):=by
 have h0:=h.2 i hi qf
 refine⟨h.1.put qf,fun j hj CT =>?_⟩
 rw[List.length_set] at hj
 rw[getElem!_pos (l.set i _) j<|by rw[List.length_set];exact hj,List.getElem_set,if_neg qf]
 have:=h.2 j hj qf
 rwa [getElem!_pos l j hj] at this
structure QI(α β:Type)[qI α][qI β](q:Nat)(get:α->β)(put:α->β->α):Prop where
 cut:∀ {w:World} {F:yLN} {cs:List Value} {x:α},qI.rep w F cs x->∃(c1 cm c2:List Value) (F1 Fm F2:yLN),cs=c1++cm++c2/\c1.length=q/\F=F1++Fm++F2/\qI.rep w Fm cm (get x)∧
  ∀(w':World) (F':yLN) (c':List Value) (y:β),(∀b∈F1++F2,w'.heap[b]? =w.heap[b]?)->qI.rep w' F' c' y->qI.rep w' (F1++F' ++F2) (c1++c' ++c2) (put x y)
theorem QI.refl{α:Type}[qI α]:QI α α 0 (fun x=>x) (fun _ y=>y):=
 ⟨fun {w F cs x} h=>⟨[],cs,[],[],F,[],by simp,rfl,by simp,h,fun w' F' c' y _ h'=>by simpa using h'⟩⟩
theorem QI.trans{α β γ:Type}[qI α][qI β][qI γ]{r:Nat}{get:α->β}{put:α->β->α}{akV :β->γ}{asJ :β->γ->β}(S:QI α β q get put)(T:QI β γ r akV asJ):
 QI α γ (q+r) (fun x=>akV<|get x) (fun x y=>put x<|asJ (get x) y):=
 ⟨fun {w F cs x} h=>by
  obtain⟨c1,cm,c2,F1,Fm,F2,rfl,h1,rfl,h2,h3⟩:=S.cut h
  obtain⟨d1,dm,d2,G1,Gm,G2,rfl,h4,rfl,h5,h6⟩:=T.cut h2
  refine⟨c1++d1,dm,d2++c2,F1++G1,Gm,G2++F2,by simp,by simp[h1,h4],by simp,h5,fun w' F' c' y hs hr=>?_⟩
  have h7:=h6 w' F' c' y (fun b hb=>hs b (by simp only[List.mem_append] at hb ⊢;rcases hb with hb|hb <;> simp[hb])) hr
  have h8:=h3 w' _ _ _ (fun b hb=>hs b (by simp only[List.mem_append] at hb ⊢;rcases hb with hb|hb <;> simp[hb])) h7
  simpa using h8⟩
section
variable{α β : Type}[qI α][qI β][Inhabited α]{q : Nat}{get : α -> β}{put : α -> β -> α}
theorem QI.el(S:QI α β q get put){l:List α}(h:reps w F xs l)(k:Nat)(hk:k<l.length):
 ∃(c1 cm c2:List Value) (F1 Fm F2:yLN),xs=c1++cm++c2/\c1.length=k*qI.size α+q/\F=F1++Fm++F2/\qI.rep w Fm cm (get<|l[k]!)∧
 ∀(w':World) (F':yLN) (c':List Value) (y:β),(∀b∈F1++F2,w'.heap[b]? =w.heap[b]?)->qI.rep w' F' c' y->reps w' (F1++F' ++F2) (c1++c' ++c2) (l.set k<|put l[k]! y):=by
 obtain⟨G1,Gk,G2,v1,cs,v2,rfl,rfl,E0,hl2,hr,hr1,hr2⟩:=reps_get h k hk
 obtain⟨c1,cm,c2,F1,Fm,F2,rfl,h1,rfl,h2,h3⟩:=S.cut hr
 have ek:l[k]! =l[k]:=getElem!_pos l k hk
 refine⟨v1++c1,cm,c2++v2,G1++F1,Fm,F2++G2,by simp,by simp[E0,h1],by simp,by rw[ek];exact h2,fun w' F' c' y hs hr'=>?_⟩
 have h4:=h3 w' F' c' y (fun b hb=>hs b (by simp only[List.mem_append] at hb ⊢;rcases hb with hb|hb <;> simp[hb])) hr'
 have h5:=reps_stay hr1 (w':=w')<|fun b hb=>hs b<|by simp[hb]
 have h6:=reps_stay hr2 (w':=w')<|fun b hb=>hs b<|by simp[hb]
 rw[ek,List.set_eq_take_append_cons_drop,if_pos hk]
 have h7:=Qc h5<|Qc (reps_one h4) h6
 simpa using h7
end
def valF{α:Type}[qI α](fr:Bool)(F:yLN)(cs:List Value)(x:α):Fact where
 F:=F
 φ:=fun w=>qI.rep w F cs x/\(fr=true->yc w F)
 stay:=fun w w' h hs=>⟨qI.stay h.1 hs,fun e=>(h.2 e).stay hs⟩
section
variable{α β : Type}[qI α][qI β][Inhabited α]{q : Nat}{get : α -> β}{put : α -> β -> α}
variable{W0 w : World}{ps : List Prv}{Γ : List Fact}
theorem mid_swap{Fm F2:yLN}:(∀b∈F1++G++F2,b∈F1++Fm++F2\/b∈G)/\((F1++Fm++F2).Nodup->G.Nodup->(∀b∈F1++Fm++F2,b∉G)->(F1++G++F2).Nodup):=by
 refine⟨fun b hb=>?_,fun h1 h2 h3=>?_⟩
 ·simp only[List.mem_append] at hb ⊢
  rcases hb with (hb|hb)|hb <;> simp[hb]
 ·rw[List.append_assoc,List.nodup_append,List.nodup_append] at h1 ⊢
  obtain⟨a1,⟨a2,a3,a4⟩,a5⟩:=h1
  refine⟨a1,⟨h2,a3,fun x hx y hy e=>h3 y (by simp[hy])<|e▸hx⟩,fun x hx y hy=>?_⟩
  rcases List.mem_append.1 hy with h|h
  ·exact fun e=>h3 x (by simp[hx])<|e▸h
  ·exact a5 x hx y<|by simp[h]
end
section
variable{α β : Type}[qI α][qI β][Inhabited α]{q : Nat}{get : α -> β}{put : α -> β -> α}
variable{P : Program}{Q : Exit -> Act -> World -> Prop}{n : Nat}{ρ : Env}{W0 w : World}{ps : List Prv}{Γ : List Fact}
 {d:Nat} {ty:TypeId} {pos:String} {af:Array Edge} {K:Env->World->Prop}
theorem putPart[Dfr](S:QI α β q get put){xs0:List Value}{l':List α}(H:St W0 w ps Γ)(k:Nat)(hp:ps[k]? =some (.row (Sv (some ⟨b,0,none⟩) nn c) e sz nn xs0))
 (j:Nat) {F:yLN} {l:List α} (hf:Γ[j]? =some (qX true F xs l)) {G:yLN} {us:List Value} {z:β} (hG:qI.rep w G us z/\yc w G) (hgo:∀b∈G,b<w.heap.size/\∀i,yY ps i≠some b) {v:Value}
 (hv:v.cells.toList=us) (hs:∀w,(Go.sizeOf t).run P w=.ok v.cells.size w) (hx:ev n ρ x=.pointer (some ⟨b,off,none⟩)) (hy:ev n ρ y=v) (rQ:qI.size α=sz) (hz:0<sz) (i:Nat) (h1:i<nn) (ho:off=i*sz+q) (FR :l'=l.set i (put l[i]! z))
 (hxl:xs0.length=xs.length) (hxx:off+us.length<=xs.length->xs0.take off++us++xs0.drop (off+us.length)=xs.take off++us++xs.drop (off+us.length))
 (kk:∀w' A7 F',((∀b∈F',b∈F\/b∈G)/\(F.Nodup->G.Nodup->(∀b∈F,b∉G)->F'.Nodup))->St W0 w' (ps.set k<|.row (Sv (some ⟨b,0,none⟩) nn c) e sz nn A7) (qX true F' A7 l'::Γ)->K ρ w'):
 OW P Q ⟨none,.store t x y,ty,pos,af,none⟩ n ρ w K:=by
 subst rQ
 subst FR
 have hl0:=H.rowLen k hp
 have E0:xs.length=l.length*qI.size α:=reps_len (H.get j hf).1
 have hn:nn=l.length:=Nat.eq_of_mul_eq_mul_right hz<|by rw[←hl0,hxl,E0]
 obtain⟨c1,cm,c2,F1,Fm,F2,rfl,h2,rfl,h3,h4⟩:=S.el (H.get j hf).1 i qf
 have lm:cm.length=us.length:=(qI.len h3).trans (qI.len hG.1).symm
 have lv:v.cells.size=us.length:=by rw[←hv];simp
 have e1:(c1++cm++c2).take off++us++(c1++cm++c2).drop (off+us.length)=c1++us++c2:=by
  rw[ho,←h2,←lm]
  simp
 have hle:off+us.length<=(c1++cm++c2).length:=by rw[ho];simp[h2,lm]
 have e0:=(hxx hle).trans e1
 have H1:St W0 w ps (qX true (F1++G++F2) (c1++us++c2) (l.set i<|put l[i]! z)::Γ):=by
  refine H.add _ ⟨h4 w G us z (fun _ _=>rfl) hG.1,fun _ x hx=>?_⟩ fun x hx=>?_
  ·rcases(mid_swap (Fm:=Fm)).1 x hx with h|h
   ·exact(H.get j hf).2 J x h
   ·exact hG.2 x h
  ·rcases(mid_swap (Fm:=Fm)).1 x hx with h|h
   ·exact(H.facts _<|List.mem_of_getElem? hf).2 x h
   ·exact hgo x h
 refine o_storeRow H1 k hp v hs hx hy (fun u hu=>qI.one hG.1 u<|hv▸hu) (by rw[lv,hxl];exact hle) fun w' H'=>?_
 rw[lv,hv,e0] at H'
 exact kk w' _ _ mid_swap H'
theorem Ve[Dfr](S:QI α β q get put){l':List α}(H:St W0 w ps Γ)(k:Nat)(hp:ps[k]? =some (.row (Sv (some ⟨b,0,none⟩) nn c) e sz nn xs))
 (j:Nat) {F:yLN} {l:List α} (hf:Γ[j]? =some (qX true F xs l)) (m:Nat) {G:yLN} {us:List Value} {z:β} (hg:Γ[m]? =some (valF true G us z)) {v:Value}
 (hv:v.cells.toList=us) (hs:∀w,(Go.sizeOf t).run P w=.ok v.cells.size w) (hx:ev n ρ x=.pointer (some ⟨b,off,none⟩)) (hy:ev n ρ y=v) (rQ:qI.size α=sz) (i:Nat) (h1:i<nn) (ho:off=i*sz+q) (FR :l'=l.set i (put l[i]! z))
 (kk:∀w' A7 F',((∀b∈F',b∈F\/b∈G)/\(F.Nodup->G.Nodup->(∀b∈F,b∉G)->F'.Nodup))->St W0 w' (ps.set k<|.row (Sv (some ⟨b,0,none⟩) nn c) e sz nn A7) (qX true F' A7 l'::Γ)->K ρ w') (hz:0<sz:=by decide):
 OW P Q ⟨none,.store t x y,ty,pos,af,none⟩ n ρ w K:=
 putPart S H k hp j hf ⟨(H.get m hg).1,(H.get m hg).2 J⟩ (H.facts _<|List.mem_of_getElem? hg).2 hv hs hx hy rQ hz i h1 ho FR J (fun _=>rfl) kk
theorem o_putBool[Dfr]{get:α->Bool}{put:α->Bool->α}(S:QI α Bool q get put){l':List α}(H:St W0 w ps Γ)(k:Nat)(hp:ps[k]? =some (.row (Sv (some ⟨b,0,none⟩) nn c) e sz nn xs))
 (j:Nat) {F:yLN} {l:List α} (hf:Γ[j]? =some (qX true F xs l)) {z:Bool} (hs:∀w,(Go.sizeOf t).run P w=.ok 1 w) (hx:ev n ρ x=.pointer (some ⟨b,off,none⟩)) (hy:ev n ρ y=Bv z) (rQ:qI.size α=sz) (i:Nat) (h1:i<nn) (ho:off=i*sz+q) (FR :l'=l.set i (put l[i]! z))
 (kk:∀w' A7 F',((∀b∈F',b∈F\/b∈([]:yLN))/\(F.Nodup->([]:yLN).Nodup->(∀b∈F,b∉([]:yLN))->F'.Nodup))->St W0 w' (ps.set k<|.row (Sv (some ⟨b,0,none⟩) nn c) e sz nn A7) (qX true F' A7 l'::Γ)->K ρ w') (hz:0<sz:=by decide):
 OW P Q ⟨none,.store t x y,ty,pos,af,none⟩ n ρ w K:=
 putPart (us:=[Bv z]) (G:=[]) (v:=Bv z) S H k hp j hf ⟨⟨rfl,rfl⟩,yc.nil _⟩ (fun b hb=>by simp at hb) J hs hx hy rQ hz i h1 ho FR J (fun _=>rfl) kk
end
theorem St.poke(H:St W0 w ps Γ){w':World}(ho:w'.os=w.os)(ht:w'.tape=w.tape)(hu:w'.output=w.output)(hz:w'.heap.size=w.heap.size)
 (hh:∀b,b≠g->w'.heap[b]? =w.heap[b]?) (hg:W0.heap.size<=g) (hp:∀i,yY ps i≠some g) (Γ':List Fact) (hΓ:∀f∈Γ',f∈Γ/\g∉f.F):St W0 w' ps Γ':=
 ⟨⟨ho.trans H.base.os,ht.trans H.base.tape,hu.trans H.base.output,by rw[hz];exact H.base.size,fun k hk=>(hh k qf).trans<|H.base.block k hk⟩,
  fun p An =>(H.has p An).stay fun b hb=>hh b fun e=>by
   obtain⟨i,hi⟩:=List.getElem?_of_mem An
   exact hp i<|by simp[yY,hi,hb,e],
  H.dist,fun f hf=>by
   obtain⟨h1,h2⟩:=hΓ f hf
   have h3:=H.facts f h1
   exact⟨f.stay w w' h3.1 fun b hb=>hh b fun e=>h2<|e▸hb,fun b hb=>⟨by rw[hz];exact(h3.2 b hb).1,(h3.2 b hb).2⟩⟩⟩
theorem slice_poke{γ:Type}[qI γ][Inhabited γ]{l:List γ}(h:qI.rep w F [Sv (some ⟨g,o,none⟩) m c] l)(eJ:yc w F)(OD:F.Nodup)(hp:p<l.length)(hz:0<qI.size γ){us:List Value}{z:γ}(hG:qI.rep w G us z)(hGn:G.Nodup)(hd:∀b∈F,b∉G):
 g∈F/\∃w' F',(storeCells ⟨g,o+p*qI.size γ,none⟩ us).run P w=.ok () w' /\w'.os=w.os/\w'.tape=w.tape/\w'.output=w.output/\w'.heap.size=w.heap.size/\(∀b,b≠g->w'.heap[b]? =w.heap[b]?)/\(∃cs t,w'.heap[g]? =some (.cells cs t (0,0)))∧
  qI.rep w' F' [Sv (some ⟨g,o,none⟩) m c] (l.set p z)/\(∀b∈F',b∈F\/b∈G)/\F'.Nodup:=by
 obtain⟨a,gA,hc,hl,MO⟩:=id h
 simp only[List.cons.injEq,Value.slice.injEq,and_true] at hc
 obtain⟨rfl,rfl,rfl⟩:=hc
 rcases MO with ⟨h0,_⟩|⟨b,off,F1,vs,ha,rfl,nU,hr,hcells⟩
 ·rw[h0] at hp;simp at hp
 simp only[Option.some.injEq,Addr.mk.injEq,and_true] at ha
 obtain⟨rfl,rfl⟩:=ha
 obtain⟨v1,cm,v2,G1,Gm,G2,rfl,E0,rfl,hr1,M8⟩:=(QI.refl (α:=γ)).el hr p hp
 obtain⟨gE,t,adH⟩:=eJ g qm
 have Kr:=qI.one hG
 have lg:=qI.len hG
 have lm:cm.length=us.length:=(qI.len hr1).trans lg.symm
 have Fe:∀i v,(v1++cm++v2)[i]? =some v->gE[o+i]? =some v:=fun i v hi=>by
  have:=hcells i v hi
  rw[World.cell?,adH] at this
  simpa using this
 have tJ:o+(v1.length+cm.length+v2.length)<=gE.size:=by
  have h1:v1.length+cm.length+v2.length-1<(v1++cm++v2).length:=by simp;omega
  obtain⟨h2,_⟩:=Array.getElem?_eq_some_iff.1<|Fe _ _<|List.getElem?_eq_getElem h1
  omega
 have wo:=run_storeCells_at P g (o+p*qI.size γ) t us 0 gE w adH qf Kr
 simp only[Nat.add_zero] at wo E0
 have acR:=List.nodup_cons.1 OD
 have hdF:∀b∈G1++Gm++G2,b∉G:=fun b hb=>hd b<|List.mem_cons_of_mem _ hb
 have hgG:g∉G:=hd g<|List.mem_cons_self ..
 have aep:∀b,b≠g->(w.setRow g (gE.toList.take (o+p*qI.size γ)++us++gE.toList.drop (o+p*qI.size γ+us.length)).toArray).heap[b]? =w.heap[b]? :=fun b hb=>by
  simp[World.setRow,Array.getElem?_modify,Ne.symm hb]
 have aau:(w.setRow g (gE.toList.take (o+p*qI.size γ)++us++gE.toList.drop (o+p*qI.size γ+us.length)).toArray).heap[g]? =some (.cells (gE.toList.take (o+p*qI.size γ)++us++gE.toList.drop (o+p*qI.size γ+us.length)).toArray t (0,0)):=by
  simp[World.setRow,Array.getElem?_modify,adH]
 have hms:=mid_swap (F1:=G1) (Fm:=Gm) (F2:=G2) (G:=G)
 refine⟨List.mem_cons_self ..,_,g::(G1++G++G2),wo,J,J,J,by simp[World.setRow],aep,⟨_,_,aau⟩,⟨_,c,by rw[List.length_set],by rw[List.length_set];exact hl,Or.inr ⟨g,o,_,v1++us++v2,J,J,?_,?_,?_⟩⟩,fun b hb=>?_,List.nodup_cons.2 ⟨fun hb=>?_,hms.2 acR.2 hGn hdF⟩⟩
 ·simpa [World.setRow] using nU
 ·refine M8 _ G us z (fun b hb=>aep b fun e=>?_) (qI.stay hG fun b hb=>aep b fun e=>hgG<|e▸hb)
  subst e
  exact acR.1 (by simp only[List.mem_append] at hb ⊢;rcases hb with hb|hb <;> simp[hb])
 ·intro i v hi
  rw[World.cell?,aau]
  have CU :i<v1.length+us.length+v2.length:=by
   have:=(List.getElem?_eq_some_iff.1 hi).1
   simpa [Nat.add_assoc] using this
  simp only[Option.bind_some]
  show (gE.toList.take (o+p*qI.size γ)++us++gE.toList.drop (o+p*qI.size γ+us.length)).toArray[o+i]? =some v
  rw[List.getElem?_toArray]
  by_cases h1:i<v1.length
  ·rw[List.append_assoc,List.getElem?_append_left qy,List.getElem?_take,if_pos qf,Array.getElem?_toList]
   refine Fe i v ?_
   rw[List.append_assoc,List.getElem?_append_left h1] at hi ⊢
   exact hi
  ·by_cases h2:i<v1.length+us.length
   ·rw[List.append_assoc,List.getElem?_append_right qy,List.getElem?_append_left qy]
    rw[List.append_assoc,List.getElem?_append_right qf,List.getElem?_append_left qf] at hi
    rw[←hi];congr 1;simp;omega
   ·rw[List.getElem?_append_right qy,List.getElem?_drop,Array.getElem?_toList]
    have h3:=Fe i v (by
     rw[List.getElem?_append_right qy] at hi ⊢
     rw[←hi];congr 1;simp;omega)
    rw[←h3];congr 1;simp;omega
 ·rcases List.mem_cons.1 hb with rfl|hb
  ·exact .inl<|List.mem_cons_self ..
  ·rcases hms.1 b hb with h|h
   ·exact .inl<|List.mem_cons_of_mem _ h
   ·exact .inr h
 ·rcases hms.1 g hb with h|h
  ·exact acR.1 h
  ·exact hgG h
section
variable{α γ : Type}[qI α][qI γ][Inhabited α][Inhabited γ]{q : Nat}{get : α -> List γ}{put : α -> List γ -> α}
variable{P : Program}{Q : Exit -> Act -> World -> Prop}{n : Nat}{ρ : Env}{W0 w : World}{ps : List Prv}{Γ : List Fact}
 {d:Nat} {ty:TypeId} {pos:String} {af:Array Edge} {K:Env->World->Prop}
theorem pokePart[Dfr](S:QI α (List γ) q get put){l l':List α}(H:St W0 w ps Γ)
 (j:Nat) (hf:Γ[j]? =some (qX true F xs l)) {G:yLN} {L:List yLN} (N:Fresh W0.heap.size (F::G::L)) {us:List Value} {z:γ} (hG:qI.rep w G us z) (hGf:yc w G) (hGo:∀b∈G,b<w.heap.size/\∀i,yY ps i≠some b)
 (Γ':List Fact) (hΓ:∀f∈Γ',f∈Γ/\∀x∈f.F,x∉F) (i:Nat) (h1:i<l.length) {g o m c sz:Nat} (rQ:qI.size α=sz) (h2:xs[i*sz+q]? =some (Sv (some ⟨g,o,none⟩) m c)) (p:Nat) (h3:p<(get<|l[i]!).length) (hz:0<qI.size γ) {v:Value}
 (hv:v.cells.toList=us) (hs:∀w,(Go.sizeOf t).run P w=.ok v.cells.size w) {off:Nat} (hx:ev n ρ x=.pointer (some ⟨g,off,none⟩)) (ho:off=o+p*qI.size γ) (hy:ev n ρ y=v)
 (FR :l'=l.set i (put l[i]! ((get<|l[i]!).set p z))) (kk:∀w' F',Fresh W0.heap.size (F'::L)->St W0 w' ps (qX true F' xs l'::Γ')->K ρ w'):
 OW P Q ⟨none,.store t x y,ty,pos,af,none⟩ n ρ w K:=by
 subst rQ
 subst FR
 have dA:=H.facts _<|List.mem_of_getElem? hf
 have hb:∀b∈F,b<w.heap.size/\∀i,yY ps i≠some b:=dA.2
 obtain⟨Zy,aec⟩:=dA.1
 have eJ:=aec J
 obtain⟨c1,cm,c2,F1,Fm,F2,rfl,e1,rfl,hr,M8⟩:=S.el Zy i h1
 have ecm:cm=[Sv (some ⟨g,o,none⟩) m c]:=by
  obtain⟨a,gA,hc,_⟩:=id hr
  subst hc
  rw[List.append_assoc,List.getElem?_append_right qf,e1] at h2
  simpa using h2
 subst ecm
 have hnF:=N.nd _<|List.mem_cons_self ..
 have hnG:=N.nd G qm
 have hFG:∀b∈F1++Fm++F2,b∉G:=fun b gw =>(List.pairwise_cons.1 N.dj).1 G qm b gw
 have hnm:Fm.Nodup:=(List.nodup_append.1 (List.nodup_append.1 hnF).1).2.1
 obtain⟨hg,w',F',wo,k1,k2,k3,k4,k5,k6,k7,k8,k9⟩:=slice_poke hr (eJ.sub fun b gw =>by simp[gw]) hnm h3 hz hG hnG (fun b gw =>hFG b<|by simp[gw]) (P:=P)
 have tD:=hb g<|by simp[hg]
 have ayi:∀b∈F1++F2,w'.heap[b]? =w.heap[b]? :=fun b gw =>k5 b fun e=>by
  subst e
  have h4:=List.nodup_append.1 hnF
  have h5:=List.nodup_append.1 h4.1
  rcases List.mem_append.1 gw with h|h
  ·exact h5.2.2 b h b hg J
  ·exact h4.2.2 b (by simp[hg]) b h J
 have hms:∀b∈F1++F' ++F2,b∈F1++Fm++F2\/b∈G:=fun b gw =>by
  simp only[List.mem_append] at gw ⊢
  rcases gw with (h|h)|h
  ·simp[h]
  ·rcases k8 b h with h|h <;> simp[h]
  ·simp[h]
 have N':Fresh W0.heap.size ((F1++F' ++F2)::L):=N.repl ⟨hms,fun _ _ _=>by
  have h4:=List.nodup_append.1 hnF
  have h5:=List.nodup_append.1 h4.1
  refine List.nodup_append.2 ⟨List.nodup_append.2 ⟨h5.1,k9,fun a ha b gw e=>?_⟩,h4.2.1,fun a ha b gw e=>?_⟩
  ·subst e
   rcases k8 a gw with h|h
   ·exact h5.2.2 a ha a h J
   ·exact hFG a (by simp[ha]) h
  ·subst e
   rcases List.mem_append.1 ha with h|h
   ·exact h4.2.2 a (by simp[h]) a gw J
   ·rcases k8 a h with h|h
    ·exact h4.2.2 a (by simp[h]) a gw J
    ·exact hFG a (by simp[gw]) h⟩
 have H':=H.poke k1 k2 k3 k4 k5 (N.ge _ (List.mem_cons_self ..) g<|by simp[hg]) tD.2 Γ' fun f hf'=>⟨(hΓ f hf').1,fun h=>(hΓ f hf').2 g h<|by simp[hg]⟩
 refine o_unit (w':=w') ?_<|kk w' _ N'<|H'.add _ ⟨M8 w' F' _ _ ayi k7,fun _ b gw =>?_⟩ fun b gw =>?_
 ·subst hv
  simp[execOp,hx,hy,Instr.storeAt,Instr.sureAddr,storeVar,hs,ho,wo]
 ·by_cases e:b=g
  ·subst e;exact k6
  ·rw[k5 b e]
   rcases hms b gw with h|h
   ·exact eJ b h
   ·exact hGf b h
 ·rw[k4]
  rcases hms b gw with h|h
  ·exact hb b h
  ·exact hGo b h
theorem o_pokePart[Dfr](S:QI α (List γ) q get put){l l':List α}(H:St W0 w ps Γ)
 (j:Nat) (hf:Γ[j]? =some (qX true F xs l)) (mm:Nat) {G:yLN} {L:List yLN} {v:Value} {z:γ} (hg:Γ[mm]? =some (isF true G v z)) (N:Fresh W0.heap.size (F::G::L))
 (Γ':List Fact) (hΓ:∀f∈Γ',f∈Γ/\∀x∈f.F,x∉F) (i:Nat) (h1:i<l.length) {g o m c sz:Nat} (rQ:qI.size α=sz) (h2:xs[i*sz+q]? =some (Sv (some ⟨g,o,none⟩) m c)) (p:Nat) (h3:p<(get<|l[i]!).length) (hz:qI.size γ=1)
 (hs:∀w,(Go.sizeOf t).run P w=.ok 1 w) {iv:Int} (hx:ev n ρ x=.pointer (some ⟨g,o+iv.toNat*1,none⟩)) (ho:iv.toNat=p) (hy:ev n ρ y=v)
 (FR :l'=l.set i (put l[i]! ((get<|l[i]!).set p z))) (kk:∀w' F',Fresh W0.heap.size (F'::L)->St W0 w' ps (qX true F' xs l'::Γ')->K ρ w'):
 OW P Q ⟨none,.store t x y,ty,pos,af,none⟩ n ρ w K:=by
 have hG:=H.facts _<|List.mem_of_getElem? hg
 have h1':v.oneCell'=true:=qI.one hG.1.1 v<|List.mem_singleton.2 J
 have hc:v.cells=#[v]:=by cases v <;> first|rfl|(simp[Value.oneCell'] at h1')
 exact pokePart S H j hf N hG.1.1 (hG.1.2 J) hG.2 Γ' hΓ i h1 rQ h2 p h3 qf (by rw[hc]) (by simpa [hc] using hs) hx (by rw[hz,ho]) hy FR kk
theorem o_pokeBool[Dfr]{get:α->List Bool}{put:α->List Bool->α}(S:QI α (List Bool) q get put){l l':List α}(H:St W0 w ps Γ)
 (j:Nat) (hf:Γ[j]? =some (qX true F xs l)) {L:List yLN} {z:Bool} (N:Fresh W0.heap.size (F::L))
 (Γ':List Fact) (hΓ:∀f∈Γ',f∈Γ/\∀x∈f.F,x∉F) (i:Nat) (h1:i<l.length) {g o m c sz:Nat} (rQ:qI.size α=sz) (h2:xs[i*sz+q]? =some (Sv (some ⟨g,o,none⟩) m c)) (p:Nat) (h3:p<(get<|l[i]!).length)
 (hs:∀w,(Go.sizeOf t).run P w=.ok 1 w) {iv:Int} (hx:ev n ρ x=.pointer (some ⟨g,o+iv.toNat*1,none⟩)) (ho:iv.toNat=p) (hy:ev n ρ y=Bv z)
 (FR :l'=l.set i (put l[i]! ((get<|l[i]!).set p z))) (kk:∀w' F',Fresh W0.heap.size (F'::L)->St W0 w' ps (qX true F' xs l'::Γ')->K ρ w'):
 OW P Q ⟨none,.store t x y,ty,pos,af,none⟩ n ρ w K:=
 pokePart (γ:=Bool) (v:=Bv z) S H j hf (Fresh.swap N.emp) (show qI.rep w [] [Bv z] z from⟨rfl,rfl⟩) (yc.nil _) (fun b hb=>by simp at hb) Γ' hΓ i h1 rQ h2 p h3 (show 0<1 from Nat.one_pos) J hs hx (by rw[ho];rfl) hy FR kk
end
section
variable{W0 w : World}{ps : List Prv}{Γ : List Fact}
theorem St.zD(H:St W0 w ps Γ)(k:Nat)(hp:ps[k]? =some (.row (Sv (some ⟨b,0,none⟩) nn c) e sz nn xs))(hv:xs[i]? =some v)(ho:off=i):w.cell? ⟨b,off,none⟩=some v:=by
 subst ho;exact H.rowGet k hp hv
theorem St.takePart{α γ:Type}[qI α][qI γ][Inhabited α]{get:α->List γ}{put:α->List γ->α}(S:QI α (List γ) q get put)(H:St W0 w ps Γ)(j:Nat){l:List α}(hf:Γ[j]? =some (qX true F xs l))
 {L:List yLN} (N:Fresh W0.heap.size (F::L)) (i:Nat) (h1:i<l.length) {sz:Nat} (rQ:qI.size α=sz) {v:Value} (h2:xs[i*sz+q]? =some v):
 ∃(a:yOA) (c:Nat) (G F':yLN),v=Sv a (get<|l[i]!).length c/\Fresh W0.heap.size (G::F'::L)/\St W0 w ps (isF true G v (get<|l[i]!)::qX true F' (xs.set (i*sz+q)<|Sv none 0 0) (l.set i<|put l[i]! [])::Γ):=by
 subst rQ
 have dA:=H.facts _<|List.mem_of_getElem? hf
 have hb:∀b∈F,b<w.heap.size/\∀i,yY ps i≠some b:=dA.2
 obtain⟨Zy,aec⟩:=dA.1
 have eJ:=aec J
 obtain⟨c1,cm,c2,F1,Fm,F2,rfl,e1,rfl,hr,M8⟩:=S.el Zy i h1
 obtain⟨a,c,rfl,_⟩:=id hr
 have ev:v=Sv a (get<|l[i]!).length c:=by
  rw[List.append_assoc,List.getElem?_append_right qf,e1] at h2
  simpa using h2.symm
 subst ev
 have hnF:=N.nd _<|List.mem_cons_self ..
 have h4:=List.nodup_append.1 hnF
 have h5:=List.nodup_append.1 h4.1
 have oJ:(c1++[Value.slice a (get<|l[i]!).length c]++c2).set (i*qI.size α+q) (Sv none 0 0)=c1++[Sv none 0 0]++c2:=by
  rw[←e1,List.append_assoc,List.set_append_right _ _<|Nat.le_refl _];simp
 have hd:=List.pairwise_cons.1 N.dj
 refine⟨a,c,Fm,F1++F2,J,⟨fun K hK=>?_,fun K hK b gw =>?_,List.pairwise_cons.2 ⟨fun K hK b gw =>?_,List.pairwise_cons.2 ⟨fun K hK b gw =>hd.1 K hK b ?_,hd.2⟩⟩⟩,?_⟩
 ·rcases List.mem_cons.1 hK with rfl|hK
  ·exact h5.2.1
  ·rcases List.mem_cons.1 hK with rfl|hK
   ·exact List.nodup_append.2 ⟨h5.1,h4.2.1,fun x hx y hy=>h4.2.2 x (by simp[hx]) y hy⟩
   ·exact N.nd K<|by simp[hK]
 ·rcases List.mem_cons.1 hK with rfl|hK
  ·exact N.ge _ (List.mem_cons_self ..) b<|by simp[gw]
  ·rcases List.mem_cons.1 hK with rfl|hK
   ·exact N.ge _ (List.mem_cons_self ..) b (by simp only[List.mem_append] at gw ⊢;rcases gw with h|h <;> simp[h])
   ·exact N.ge K (by simp[hK]) b gw
 ·rcases List.mem_cons.1 hK with rfl|hK
  ·intro hb2
   rcases List.mem_append.1 hb2 with h|h
   ·exact h5.2.2 b h b gw J
   ·exact h4.2.2 b (by simp[gw]) b h J
  ·exact hd.1 K hK b<|by simp[gw]
 ·simp only[List.mem_append] at gw ⊢;rcases gw with h|h <;> simp[h]
 ·rw[oJ]
  refine(H.add (qX true (F1++F2) (c1++[Sv none 0 0]++c2)<|l.set i<|put l[i]! []) ⟨?_,fun _=>eJ.sub fun b gw =>?_⟩ fun b gw =>hb b ?_).add (isF true Fm _<|get<|l[i]!) ⟨hr,fun _=>eJ.sub fun b gw =>by simp[gw]⟩ fun b gw =>hb b (by have gw :b∈Fm:=gw;simp[gw])
  ·have h6:=M8 w [] [Sv none 0 0] [] (fun _ _=>rfl) ⟨none,0,rfl,by simp,Or.inl ⟨rfl,rfl⟩⟩
   simpa using h6
  ·simp only[List.mem_append] at gw ⊢;rcases gw with h|h <;> simp[h]
  ·have gw :b∈F1++F2:=gw
   simp only[List.mem_append] at gw ⊢;rcases gw with h|h <;> simp[h]
end
section
variable{α β : Type}[qI α][qI β][Inhabited α]{q : Nat}{get : α -> β}{put : α -> β -> α}
variable{P : Program}{Q : Exit -> Act -> World -> Prop}{n : Nat}{ρ : Env}{W0 w : World}{ps : List Prv}{Γ : List Fact}
 {d:Nat} {ty:TypeId} {pos:String} {af:Array Edge} {K:Env->World->Prop}
theorem o_putHole[Dfr](S:QI α β q get put){u:Value}{l':List α}(H:St W0 w ps Γ)(k:Nat)(hp:ps[k]? =some (.row (Sv (some ⟨b,0,none⟩) nn c) e sz nn xs))
 (j:Nat) {F:yLN} {l:List α} (hf:Γ[j]? =some (qX true F (xs.set p u) l)) (m:Nat) {G:yLN} {us:List Value} {z:β} (hg:Γ[m]? =some (valF true G us z)) {v:Value}
 (hv:v.cells.toList=us) (hs:∀w,(Go.sizeOf t).run P w=.ok v.cells.size w) (hx:ev n ρ x=.pointer (some ⟨b,off,none⟩)) (hy:ev n ρ y=v) (rQ:qI.size α=sz) (i:Nat) (h1:i<nn) (ho:off=i*sz+q) (FR :l'=l.set i (put l[i]! z)) (hin:off<=p/\p<off+us.length)
 (kk:∀w' A7 F',((∀b∈F',b∈F\/b∈G)/\(F.Nodup->G.Nodup->(∀b∈F,b∉G)->F'.Nodup))->St W0 w' (ps.set k<|.row (Sv (some ⟨b,0,none⟩) nn c) e sz nn A7) (qX true F' A7 l'::Γ)->K ρ w') (hz:0<sz:=by decide):
 OW P Q ⟨none,.store t x y,ty,pos,af,none⟩ n ρ w K:=
 putPart S H k hp j hf ⟨(H.get m hg).1,(H.get m hg).2 J⟩ (H.facts _<|List.mem_of_getElem? hg).2 hv hs hx hy rQ hz i h1 ho FR qm (fun _=>by
  rw[List.take_set_of_le hin.1,List.drop_set_of_lt hin.2]) kk
end
theorem X6(OL:∀f∈Γ,∀b∈f.F,b<B)(j:Nat)(hf:Γ[j]? =some f)(N:Fresh B (F::L)):∀x∈f.F,x∉F:=away_lt (OL f<|List.mem_of_getElem? hf) N
theorem drop_mem{α:Type}{l m:List α}(n:Nat)(h:l.drop n=m){x:α}(hx:x∈m):x∈l:=List.mem_of_mem_drop<|h▸hx
theorem keeps_old{Γ0:List Fact}(n:Nat)(hn:Γ.drop n=Δ)(OL:∀f∈Γ0,∀b∈f.F,b<B)(m:Nat)(hm:Γ0.drop m=Δ)(N:Fresh B (F::L)):∀f∈Δ,f∈Γ/\∀x∈f.F,x∉F:=
 fun f hf=>⟨drop_mem n hn hf,away_lt (OL f<|drop_mem m hm hf) N⟩
theorem away_part(sb:∀G∈L,∀x∈G,x∈F1)(i:Nat)(h:L[i]? =some G)(hN:∀x∈F1,x∉F):∀x∈G,x∉F:=fun x hx=>hN x<|sb G (List.mem_of_getElem? h) x hx
theorem olds_none:∀f∈([]:List Fact),∀b∈f.F,b<B:=fun f hf=>by cases hf
theorem xU(h:∀b∈f.F,b<B)(k:∀f∈Γ,∀b∈f.F,b<B):∀g∈f::Γ,∀b∈g.F,b<B:=fun g hg=>by
 rcases List.mem_cons.1 hg with rfl|hg
 ·exact h
 ·exact k g hg
theorem vw(OL:∀f∈Γ,∀b∈f.F,b<B)(j:Nat)(hf:Γ[j]? =some f):∀b∈f.F,b<B:=OL f<|List.mem_of_getElem? hf
theorem VA(OL:∀f∈Γ,∀b∈f.F,b<B)(n:Nat)(hn:Γ.drop n=Δ):∀f∈Δ,∀b∈f.F,b<B:=fun f hf=>OL f<|drop_mem n hn hf
theorem St.yE{α:Type}[qI α](H:St W0 w ps Γ)(k:Nat)(hp:ps[k]? =some (.row (Sv (some ⟨b,0,none⟩) nn c) e 1 nn xs))(j:Nat){l:List (List α)}
 (hf:Γ[j]? =some (qX fr F xs l)) {iv:Int} (i:Nat) (h:iv.toNat=i) (h1:i<nn):
 ∃(a:yOA) (c':Nat) (G:yLN),xs[i*1+0]? =some (Sv a l[i]!.length c')/\St W0 w ps (isF fr G (Sv a l[i]!.length c') (l[i]!)::Γ):=by
 obtain⟨cs,G,hc,hr,bV,eJ,v1,v2,hx,hv⟩:=H.rowElem k hp j hf Nat.one_pos h h1
 obtain⟨a,c',rfl,hx'⟩:=id hr
 have hxi:xs[i*1+0]? =some (Sv a l[i]!.length c'):=by
  have E0:v1.length=i:=by rw[hv];exact Nat.mul_one _
  rw[hx,List.append_assoc,List.getElem?_append_right qf]
  simp[E0]
 exact⟨a,c',G,hxi,H.jR j hf _ ⟨hr,eJ⟩ bV⟩
theorem St.splitLast{α:Type}[qI α](H:St W0 w ps Γ)(j:Nat){l:List (List α)}(hf:Γ[j]? =some (isF true G (Sv (some ⟨b,o,none⟩) m c) l))(N:Fresh W0.heap.size (G::L))(n:Nat)(hn:l.length=n+1):
 ∃(a:yOA) (c':Nat) (G1 G2:yLN),Fresh W0.heap.size (G1::G2::L)/\St W0 w ps (isF true G1 (Sv (some ⟨b,o,none⟩) (l.take n).length c) (l.take n)::isF true G2 (Sv a l[n]!.length c') (l[n]!)::atF b (o+(n:Int).toNat*1) [Sv a l[n]!.length c']::Γ):=by
 have dA:=H.facts _<|List.mem_of_getElem? hf
 have hb:∀b∈G,b<w.heap.size/\∀i,yY ps i≠some b:=dA.2
 obtain⟨⟨a0,c0,hc,⟨hl,UE⟩,MO⟩,eJ⟩:=dA.1
 simp only[List.cons.injEq,Value.slice.injEq,and_true] at hc
 obtain⟨rfl,rfl,rfl⟩:=hc
 rcases MO with ⟨h0,_⟩|⟨b',off,F1,vs,ha,rfl,nU,hr,hcells⟩
 ·rw[h0] at hn;simp at hn
 simp only[Option.some.injEq,Addr.mk.injEq,and_true] at ha
 obtain⟨rfl,rfl⟩:=ha
 obtain⟨G1,Gk,G2,v1,cs,v2,rfl,rfl,E0,hl2,Zy,hr1,hr2⟩:=reps_get hr n qf
 have ek:l[n]! =l[n]:=getElem!_pos l n qf
 rw[←ek] at Zy
 have hd:l.drop (n+1)=[]:=List.drop_eq_nil_of_le qf
 rw[hd] at hr2
 obtain⟨rfl,rfl⟩:G2=[]/\v2=[]:=hr2
 obtain⟨a,c',rfl,_⟩:=id Zy
 simp only[List.append_nil] at N hb eJ hr nU hcells
 have eJ:=eJ trivial
 have aC2 :v1.length=n:=by rw[E0];exact Nat.mul_one _
 have OD:=List.nodup_cons.1<|N.nd _<|List.mem_cons_self ..
 have hna:=List.nodup_append.1 OD.2
 have hdj:=List.pairwise_cons.1 N.dj
 have ht:(l.take n).length=n:=List.length_take_of_le qf
 refine⟨a,c',b::G1,Gk,⟨fun K hK=>?_,fun K hK x hx=>?_,List.pairwise_cons.2 ⟨fun K hK x hx=>?_,List.pairwise_cons.2 ⟨fun K hK x hx=>hdj.1 K hK x<|by simp[hx],hdj.2⟩⟩⟩,?_⟩
 ·rcases List.mem_cons.1 hK with rfl|hK
  ·exact List.nodup_cons.2 ⟨fun h=>OD.1<|by simp[h],hna.1⟩
  ·rcases List.mem_cons.1 hK with rfl|hK
   ·exact hna.2.1
   ·exact N.nd K<|by simp[hK]
 ·rcases List.mem_cons.1 hK with rfl|hK
  ·exact N.ge _ (List.mem_cons_self ..) x (by rcases List.mem_cons.1 hx with rfl|h;exact List.mem_cons_self ..;exact List.mem_cons_of_mem _ (List.mem_append_left _ h))
  ·rcases List.mem_cons.1 hK with rfl|hK
   ·exact N.ge _ (List.mem_cons_self ..) x<|by simp[hx]
   ·exact N.ge K (by simp[hK]) x hx
 ·rcases List.mem_cons.1 hK with rfl|hK
  ·rcases List.mem_cons.1 hx with rfl|h
   ·exact fun h=>OD.1<|by simp[h]
   ·exact fun h2=>hna.2.2 x h x h2 J
  ·exact hdj.1 K hK x (by rcases List.mem_cons.1 hx with rfl|h;exact List.mem_cons_self ..;exact List.mem_cons_of_mem _ (List.mem_append_left _ h))
 ·have DD:jO w b (o+(n:Int).toNat*1) [Sv a l[n]!.length c']:=fun i v hi=>by
   have h1:=hcells (v1.length+i) v<|by rw[List.getElem?_append_right qf,Nat.add_sub_cancel_left];exact hi
   rw[aC2] at h1
   rw[show o+(n:Int).toNat*1+i=o+(n+i) by omega];exact h1
  refine((H.add (atF b (o+(n:Int).toNat*1) _) DD fun x hx=>hb x ?_).add (isF true Gk _<|l[n]!) ⟨Zy,fun _=>eJ.sub fun x hx=>by simp[hx]⟩ fun x hx=>hb x (by have hx:x∈Gk:=hx;simp[hx])).add (isF true (b::G1) _<|l.take n) ⟨⟨_,_,J,⟨by omega,by omega⟩,Or.inr ⟨b,o,G1,v1,J,J,nU,hr1,fun i v hi=>?_⟩⟩,fun _=>eJ.sub fun x hx=>?_⟩ fun x hx=>hb x ?_
  ·have hx:x=b:=by simpa [atF] using hx
   simp[hx]
  ·refine hcells i v ?_
   rw[List.getElem?_append_left (List.getElem?_eq_some_iff.1 hi).1];exact hi
  ·rcases List.mem_cons.1 hx with rfl|h
   ·exact List.mem_cons_self ..
   ·exact List.mem_cons_of_mem _<|List.mem_append_left _ h
  ·have hx:x∈b::G1:=hx
   rcases List.mem_cons.1 hx with rfl|h
   ·exact List.mem_cons_self ..
   ·exact List.mem_cons_of_mem _<|List.mem_append_left _ h
theorem o_headV[Dfr]{Q:Exit->Act->World->Prop}{d:Nat}{pos:String}{af:Array Edge}{K:Env->World->Prop}
 {x y:Operand} {t e:TypeId} {z:Value} {sz e9 b off m c:Nat} (kk:Nat) {r:Nat} (hr:r=kk) {iv:Int} (hu:P.underlying t=some (.slice e)) (he:TI P e z sz e9)
 (hx:ev n ρ x=Sv (some ⟨b,off,none⟩) m c) (hy:ev n ρ y=.int .i64 iv) (hv:iv=kk) (hk:kk<=c) (k:K (upd ρ d<|Sv (some ⟨b,off,none⟩) r c) w):
 OW P Q ⟨some d,.slice t x none (some y) none,ty,pos,af,none⟩ n ρ w K:=by
 subst hr hv
 refine Xx _ ?_ k
 have e1:(if c=0 then some ⟨b,off,none⟩ else (some (⟨b,off,none⟩:Addr)).map (·.add (0*sz)))=some ⟨b,off,none⟩:=by split <;> simp[Addr.add_mid]
 rw[Nat.zero_mul] at e1
 simp[execOp,hx,hy,Instr.sliceAt,Instr.slice,Instr.sliceBounds,Instr.sliceBound,asIntOf,run_underlying hu,he.sizeOf,show r<=c by omega,Addr.add_mid]
end
section
theorem St.partS_DeskD{α:Type}[qI α][Inhabited α]{get:α->zG}{put:α->zG->α}(S:QI α zG q get put)(H:St W0 w ps Γ)(k:Nat)(hp:ps[k]? =some (.row (Sv (aa b 0) nn c) e sz nn xs))(j:Nat){l:List α}
 (hf:Γ[j]? =some (qX fr F xs l)) (rQ:qI.size α=sz) (i:Nat) (h1:i<nn) (hz:0<sz:=by decide):
 ∃(fk:yOA) (fm:Nat) (XM:yLN) (gG:yOA) (gD:Nat) (Xq:yLN) (B8:yOA) (By:Nat) (mY:yLN) (gK:yOA) (gC:Nat) (dx:yLN) (Cx:yOA) (Bp:Nat) (nj:yLN) (re:yOA) (pC:Nat) (f4:yLN),(∀(r:Nat) (v:Value),([yI (get<|l[i]!).qK,Sv fk (get<|l[i]!).qG.length fm,Sv gG (get<|l[i]!).qF.length gD,Bv (get<|l[i]!).qY,Sv B8 (get<|l[i]!).jA.length By,Sv gK (get<|l[i]!).qU.length gC,Sv Cx (get<|l[i]!).jH.length Bp,Sv re (get<|l[i]!).zM.length pC]:List Value)[r]? =some v->xs[i*sz+q+r]? =some v)/\(∀G∈[XM,Xq,mY,dx,nj,f4],∀x∈G,x∈F)/\St W0 w ps (isF fr XM (Sv fk (get<|l[i]!).qG.length fm) (get<|l[i]!).qG::isF fr Xq (Sv gG (get<|l[i]!).qF.length gD) (get<|l[i]!).qF::isF fr mY (Sv B8 (get<|l[i]!).jA.length By) (get<|l[i]!).jA::isF fr dx (Sv gK (get<|l[i]!).qU.length gC) (get<|l[i]!).qU::isF fr nj (Sv Cx (get<|l[i]!).jH.length Bp) (get<|l[i]!).jH::isF fr f4 (Sv re (get<|l[i]!).zM.length pC) (get<|l[i]!).zM::Γ):=by
 subst rQ
 have hn:nn=l.length:=H.xf (α:=α) k hp j hf hz
 obtain⟨c1,cm,c2,F1,Fm,F2,hxs,hl,hF,hr,_⟩:=S.el (H.get j hf).1 i qf
 have bV:∀x∈Fm,x∈F:=fun x hx=>by rw[hF];simp[hx]
 have eJ:fr=true->yc w Fm:=fun e=>((H.get j hf).2 e).sub bV
 obtain⟨dp,dq,wv,fi,xd,mb,XM,Xq,mY,dx,nj,f4,rfl,dA,Ye,Vm,tR,eT,tE,lJ⟩:=id hr
 obtain⟨fk,fm,rfl⟩:=slice_form Ye
 obtain⟨gG,gD,rfl⟩:=slice_form Vm
 obtain⟨B8,By,rfl⟩:=slice_form tR
 obtain⟨gK,gC,rfl⟩:=slice_form eT
 obtain⟨Cx,Bp,rfl⟩:=slice_form tE
 obtain⟨re,pC,rfl⟩:=slice_form lJ
 refine⟨fk,fm,XM,gG,gD,Xq,B8,By,mY,gK,gC,dx,Cx,Bp,nj,re,pC,f4,fun r v hv=>?_,fun G hG x hx=>?_,?_⟩
 ·have nU:=(List.getElem?_eq_some_iff.1 hv).1
  rw[hxs,←hl,List.append_assoc,List.getElem?_append_right qf,Nat.add_sub_cancel_left,List.getElem?_append_left nU]
  exact hv
 ·refine bV x ?_
  rw[dA]
  simp only[List.mem_cons,List.not_mem_nil,or_false] at hG
  simp only[List.mem_append]
  rcases hG with rfl|rfl|rfl|rfl|rfl|rfl <;> simp[hx]
 ·exact((((((H.jR (j+0) hf (isF fr f4 _ (get<|l[i]!).zM) ⟨lJ,fun e=>(eJ e).sub<|by rw[dA];intro x hx;simp[hx]⟩<|fun x hx=>bV x (by rw[dA];have hx:x∈f4:=hx;simp[hx])).jR (j+1) hf (isF fr nj _ (get<|l[i]!).jH) ⟨tE,fun e=>(eJ e).sub<|by rw[dA];intro x hx;simp[hx]⟩<|fun x hx=>bV x (by rw[dA];have hx:x∈nj:=hx;simp[hx])).jR (j+2) hf (isF fr dx _ (get<|l[i]!).qU) ⟨eT,fun e=>(eJ e).sub<|by rw[dA];intro x hx;simp[hx]⟩<|fun x hx=>bV x (by rw[dA];have hx:x∈dx:=hx;simp[hx])).jR (j+3) hf (isF fr mY _ (get<|l[i]!).jA) ⟨tR,fun e=>(eJ e).sub<|by rw[dA];intro x hx;simp[hx]⟩<|fun x hx=>bV x (by rw[dA];have hx:x∈mY:=hx;simp[hx])).jR (j+4) hf (isF fr Xq _ (get<|l[i]!).qF) ⟨Vm,fun e=>(eJ e).sub<|by rw[dA];intro x hx;simp[hx]⟩<|fun x hx=>bV x (by rw[dA];have hx:x∈Xq:=hx;simp[hx])).jR (j+5) hf (isF fr XM _ (get<|l[i]!).qG) ⟨Ye,fun e=>(eJ e).sub<|by rw[dA];intro x hx;simp[hx]⟩<|fun x hx=>bV x (by rw[dA];have hx:x∈XM:=hx;simp[hx]))
theorem St.jV{α:Type}[qI α][Inhabited α]{get:α->zG}{put:α->zG->α}(S:QI α zG q get put)(H:St W0 w ps Γ)(k:Nat)(hp:ps[k]? =some (.row (Sv (aa b 0) nn c) e sz nn xs))(j:Nat){l:List α}
 (hf:Γ[j]? =some (qX fr F xs l)) (rQ:qI.size α=sz) (i:Nat) (h1:i<nn) (hz:0<sz:=by decide):
 ∃(fk:yOA) (fm:Nat) (XM:yLN) (gG:yOA) (gD:Nat) (Xq:yLN) (B8:yOA) (By:Nat) (mY:yLN) (gK:yOA) (gC:Nat) (dx:yLN) (Cx:yOA) (Bp:Nat) (nj:yLN) (re:yOA) (pC:Nat) (f4:yLN),(∀(r:Nat) (v:Value),([yI (get<|l[i]!).qK,Sv fk (get<|l[i]!).qG.length fm,Sv gG (get<|l[i]!).qF.length gD,Bv (get<|l[i]!).qY,Sv B8 (get<|l[i]!).jA.length By,Sv gK (get<|l[i]!).qU.length gC,Sv Cx (get<|l[i]!).jH.length Bp,Sv re (get<|l[i]!).zM.length pC]:List Value)[r]? =some v->xs[i*sz+q+r]? =some v)/\St W0 w ps (isF fr XM (Sv fk (get<|l[i]!).qG.length fm) (get<|l[i]!).qG::isF fr Xq (Sv gG (get<|l[i]!).qF.length gD) (get<|l[i]!).qF::isF fr mY (Sv B8 (get<|l[i]!).jA.length By) (get<|l[i]!).jA::isF fr dx (Sv gK (get<|l[i]!).qU.length gC) (get<|l[i]!).qU::isF fr nj (Sv Cx (get<|l[i]!).jH.length Bp) (get<|l[i]!).jH::isF fr f4 (Sv re (get<|l[i]!).zM.length pC) (get<|l[i]!).zM::Γ):=by
 obtain⟨fk,fm,XM,gG,gD,Xq,B8,By,mY,gK,gC,dx,Cx,Bp,nj,re,pC,f4,h1,_,h2⟩:=H.partS_DeskD S k hp j hf rQ i h1 hz
 exact⟨fk,fm,XM,gG,gD,Xq,B8,By,mY,gK,gC,dx,Cx,Bp,nj,re,pC,f4,h1,h2⟩
theorem St.mk_DeskD(H:St W0 w ps Γ)(ov:Int)(ur:Nat){qt:yLN}{dp:Value}{Av:yLL}(Ye:Γ[ur]? =some (isF true qt dp Av))(BS:Nat){ud:yLN}{dq:Value}{HI:yLI}(Vm:Γ[BS]? =some (isF true ud dq HI))(HO:Bool)(aeR:Nat){SD:yLN}{wv:Value}{aqx:List Bool}(tR:Γ[aeR]? =some (isF true SD wv aqx))(Cs:Nat){uc:yLN}{fi:Value}{Jj:yLL}(eT:Γ[Cs]? =some (isF true uc fi Jj))(aeJ:Nat){Sx:yLN}{xd:Value}{aie:List yLL}(tE:Γ[aeJ]? =some (isF true Sx xd aie))(P2:Nat){Jp:yLN}{mb:Value}{U0:List yLL}(lJ:Γ[P2]? =some (isF true Jp mb U0)):
 St W0 w ps (valF true (qt++ud++SD++uc++Sx++Jp) [yI ov,dp,dq,Bv HO,wv,fi,xd,mb] (⟨ov,Av,HI,HO,aqx,Jj,aie,U0⟩:zG)::Γ):=by
 refine H.add _ ⟨⟨dp,dq,wv,fi,xd,mb,qt,ud,SD,uc,Sx,Jp,J,J,(H.get ur Ye).1,(H.get BS Vm).1,(H.get aeR tR).1,(H.get Cs eT).1,(H.get aeJ tE).1,(H.get P2 lJ).1⟩,fun e=>(((((((H.get ur Ye).2 e).app ((H.get BS Vm).2 e)).app ((H.get aeR tR).2 e)).app ((H.get Cs eT).2 e)).app ((H.get aeJ tE).2 e)).app ((H.get P2 lJ).2 e))⟩ fun b hb=>?_
 have h:b∈(qt++ud++SD++uc++Sx++Jp):=hb
 simp only[List.mem_append] at h
 rcases h with (((((h|h)|h)|h)|h)|h)
 ·exact(H.facts _<|List.mem_of_getElem? Ye).2 b h
 ·exact(H.facts _<|List.mem_of_getElem? Vm).2 b h
 ·exact(H.facts _<|List.mem_of_getElem? tR).2 b h
 ·exact(H.facts _<|List.mem_of_getElem? eT).2 b h
 ·exact(H.facts _<|List.mem_of_getElem? tE).2 b h
 ·exact(H.facts _<|List.mem_of_getElem? lJ).2 b h
theorem part_Server_DeskBags:QI zI yLL 1 (fun x=>x.qC.qG) (fun x y=>{ x with qC:={ x.qC with qG:=y }}):=
 ⟨fun {w F cs x} h=>by
  obtain⟨aV,az,be,aA,bf,aS,aG,au,aT,aq,aU,aJ,aP,ak,aW,an,aX,aF,ay,aj,aD,ai,aC,aw,rfl,rfl,bj,aQ,bz,aR,bw,bn,aY,aK,bi,aM,bm,aZ⟩:=h
  refine⟨[yI x.qC.qK],[aV],[az,Bv x.qC.qY,be,aA,bf,aS,yI x.qR.qK,aG,au,Bv x.qR.qY,aT,aq,aU,aJ],[],aP,(ak++aW++an++aX++aF++ay++aj++aD++ai++aC++aw),by simp,J,by simp,bj,fun w' F' c' y hs hr=>?_⟩
  obtain⟨a,c,rfl,_⟩:=id hr
  exact⟨_,az,be,aA,bf,aS,aG,au,aT,aq,aU,aJ,F',ak,aW,an,aX,aF,ay,aj,aD,ai,aC,aw,by simp,by simp,hr,qI.stay aQ fun b hb=>hs b<|by simp[hb],qI.stay bz fun b hb=>hs b<|by simp[hb],qI.stay aR fun b hb=>hs b<|by simp[hb],qI.stay bw fun b hb=>hs b<|by simp[hb],qI.stay bn fun b hb=>hs b<|by simp[hb],qI.stay aY fun b hb=>hs b<|by simp[hb],qI.stay aK fun b hb=>hs b<|by simp[hb],qI.stay bi fun b hb=>hs b<|by simp[hb],qI.stay aM fun b hb=>hs b<|by simp[hb],qI.stay bm fun b hb=>hs b<|by simp[hb],qI.stay aZ fun b hb=>hs b<|by simp[hb]⟩⟩
theorem part_Server_DeskWorked:QI zI Bool 3 (fun x=>x.qC.qY) (fun x y=>{ x with qC:={ x.qC with qY:=y }}):=
 ⟨fun {w F cs x} h=>by
  obtain⟨aV,az,be,aA,bf,aS,aG,au,aT,aq,aU,aJ,aP,ak,aW,an,aX,aF,ay,aj,aD,ai,aC,aw,rfl,rfl,bj,aQ,bz,aR,bw,bn,aY,aK,bi,aM,bm,aZ⟩:=h
  refine⟨[yI x.qC.qK,aV,az],[Bv x.qC.qY],[be,aA,bf,aS,yI x.qR.qK,aG,au,Bv x.qR.qY,aT,aq,aU,aJ],(aP++ak),[],(aW++an++aX++aF++ay++aj++aD++ai++aC++aw),by simp,J,by simp,⟨J,J⟩,fun w' F' c' y hs hr=>?_⟩
  obtain⟨rfl,rfl⟩:=hr
  exact⟨aV,az,be,aA,bf,aS,aG,au,aT,aq,aU,aJ,aP,ak,aW,an,aX,aF,ay,aj,aD,ai,aC,aw,by simp,by simp,qI.stay bj fun b hb=>hs b<|by simp[hb],qI.stay aQ fun b hb=>hs b<|by simp[hb],qI.stay bz fun b hb=>hs b<|by simp[hb],qI.stay aR fun b hb=>hs b<|by simp[hb],qI.stay bw fun b hb=>hs b<|by simp[hb],qI.stay bn fun b hb=>hs b<|by simp[hb],qI.stay aY fun b hb=>hs b<|by simp[hb],qI.stay aK fun b hb=>hs b<|by simp[hb],qI.stay bi fun b hb=>hs b<|by simp[hb],qI.stay aM fun b hb=>hs b<|by simp[hb],qI.stay bm fun b hb=>hs b<|by simp[hb],qI.stay aZ fun b hb=>hs b<|by simp[hb]⟩⟩
theorem X5:QI zI (List Bool) 4 (fun x=>x.qC.jA) (fun x y=>{ x with qC:={ x.qC with jA:=y }}):=
 ⟨fun {w F cs x} h=>by
  obtain⟨aV,az,be,aA,bf,aS,aG,au,aT,aq,aU,aJ,aP,ak,aW,an,aX,aF,ay,aj,aD,ai,aC,aw,rfl,rfl,bj,aQ,bz,aR,bw,bn,aY,aK,bi,aM,bm,aZ⟩:=h
  refine⟨[yI x.qC.qK,aV,az,Bv x.qC.qY],[be],[aA,bf,aS,yI x.qR.qK,aG,au,Bv x.qR.qY,aT,aq,aU,aJ],(aP++ak),aW,(an++aX++aF++ay++aj++aD++ai++aC++aw),by simp,J,by simp,bz,fun w' F' c' y hs hr=>?_⟩
  obtain⟨a,c,rfl,_⟩:=id hr
  exact⟨aV,az,_,aA,bf,aS,aG,au,aT,aq,aU,aJ,aP,ak,F',an,aX,aF,ay,aj,aD,ai,aC,aw,by simp,by simp,qI.stay bj fun b hb=>hs b<|by simp[hb],qI.stay aQ fun b hb=>hs b<|by simp[hb],hr,qI.stay aR fun b hb=>hs b<|by simp[hb],qI.stay bw fun b hb=>hs b<|by simp[hb],qI.stay bn fun b hb=>hs b<|by simp[hb],qI.stay aY fun b hb=>hs b<|by simp[hb],qI.stay aK fun b hb=>hs b<|by simp[hb],qI.stay bi fun b hb=>hs b<|by simp[hb],qI.stay aM fun b hb=>hs b<|by simp[hb],qI.stay bm fun b hb=>hs b<|by simp[hb],qI.stay aZ fun b hb=>hs b<|by simp[hb]⟩⟩
theorem Vk:QI zI yLL 5 (fun x=>x.qC.qU) (fun x y=>{ x with qC:={ x.qC with qU:=y }}):=
 ⟨fun {w F cs x} h=>by
  obtain⟨aV,az,be,aA,bf,aS,aG,au,aT,aq,aU,aJ,aP,ak,aW,an,aX,aF,ay,aj,aD,ai,aC,aw,rfl,rfl,bj,aQ,bz,aR,bw,bn,aY,aK,bi,aM,bm,aZ⟩:=h
  refine⟨[yI x.qC.qK,aV,az,Bv x.qC.qY,be],[aA],[bf,aS,yI x.qR.qK,aG,au,Bv x.qR.qY,aT,aq,aU,aJ],(aP++ak++aW),an,(aX++aF++ay++aj++aD++ai++aC++aw),by simp,J,by simp,aR,fun w' F' c' y hs hr=>?_⟩
  obtain⟨a,c,rfl,_⟩:=id hr
  exact⟨aV,az,be,_,bf,aS,aG,au,aT,aq,aU,aJ,aP,ak,aW,F',aX,aF,ay,aj,aD,ai,aC,aw,by simp,by simp,qI.stay bj fun b hb=>hs b<|by simp[hb],qI.stay aQ fun b hb=>hs b<|by simp[hb],qI.stay bz fun b hb=>hs b<|by simp[hb],hr,qI.stay bw fun b hb=>hs b<|by simp[hb],qI.stay bn fun b hb=>hs b<|by simp[hb],qI.stay aY fun b hb=>hs b<|by simp[hb],qI.stay aK fun b hb=>hs b<|by simp[hb],qI.stay bi fun b hb=>hs b<|by simp[hb],qI.stay aM fun b hb=>hs b<|by simp[hb],qI.stay bm fun b hb=>hs b<|by simp[hb],qI.stay aZ fun b hb=>hs b<|by simp[hb]⟩⟩
theorem part_Server_DeskNow:QI zI (List yLL) 6 (fun x=>x.qC.jH) (fun x y=>{ x with qC:={ x.qC with jH:=y }}):=
 ⟨fun {w F cs x} h=>by
  obtain⟨aV,az,be,aA,bf,aS,aG,au,aT,aq,aU,aJ,aP,ak,aW,an,aX,aF,ay,aj,aD,ai,aC,aw,rfl,rfl,bj,aQ,bz,aR,bw,bn,aY,aK,bi,aM,bm,aZ⟩:=h
  refine⟨[yI x.qC.qK,aV,az,Bv x.qC.qY,be,aA],[bf],[aS,yI x.qR.qK,aG,au,Bv x.qR.qY,aT,aq,aU,aJ],(aP++ak++aW++an),aX,(aF++ay++aj++aD++ai++aC++aw),by simp,J,by simp,bw,fun w' F' c' y hs hr=>?_⟩
  obtain⟨a,c,rfl,_⟩:=id hr
  exact⟨aV,az,be,aA,_,aS,aG,au,aT,aq,aU,aJ,aP,ak,aW,an,F',aF,ay,aj,aD,ai,aC,aw,by simp,by simp,qI.stay bj fun b hb=>hs b<|by simp[hb],qI.stay aQ fun b hb=>hs b<|by simp[hb],qI.stay bz fun b hb=>hs b<|by simp[hb],qI.stay aR fun b hb=>hs b<|by simp[hb],hr,qI.stay bn fun b hb=>hs b<|by simp[hb],qI.stay aY fun b hb=>hs b<|by simp[hb],qI.stay aK fun b hb=>hs b<|by simp[hb],qI.stay bi fun b hb=>hs b<|by simp[hb],qI.stay aM fun b hb=>hs b<|by simp[hb],qI.stay bm fun b hb=>hs b<|by simp[hb],qI.stay aZ fun b hb=>hs b<|by simp[hb]⟩⟩
theorem zV:QI zI zG 0 (fun x=>x.qC) (fun x y=>{ x with qC:=y }):=
 ⟨fun {w F cs x} h=>by
  obtain⟨aV,az,be,aA,bf,aS,aG,au,aT,aq,aU,aJ,aP,ak,aW,an,aX,aF,ay,aj,aD,ai,aC,aw,rfl,rfl,bj,aQ,bz,aR,bw,bn,aY,aK,bi,aM,bm,aZ⟩:=h
  refine⟨[],[yI x.qC.qK,aV,az,Bv x.qC.qY,be,aA,bf,aS],[yI x.qR.qK,aG,au,Bv x.qR.qY,aT,aq,aU,aJ],[],(aP++ak++aW++an++aX++aF),(ay++aj++aD++ai++aC++aw),by simp,J,by simp,⟨aV,az,be,aA,bf,aS,aP,ak,aW,an,aX,aF,J,J,bj,aQ,bz,aR,bw,bn⟩,fun w' F' c' y hs hr=>?_⟩
  obtain⟨Lx,Dx,O0,Di,ON,Ke,gQ,eY,ka,eZ,jN,gP,rfl,rfl,JY,ET,MU,C9,Mn,J8⟩:=hr
  exact⟨Lx,Dx,O0,Di,ON,Ke,aG,au,aT,aq,aU,aJ,gQ,eY,ka,eZ,jN,gP,ay,aj,aD,ai,aC,aw,by simp,by simp,JY,ET,MU,C9,Mn,J8,qI.stay aY fun b hb=>hs b<|by simp[hb],qI.stay aK fun b hb=>hs b<|by simp[hb],qI.stay bi fun b hb=>hs b<|by simp[hb],qI.stay aM fun b hb=>hs b<|by simp[hb],qI.stay bm fun b hb=>hs b<|by simp[hb],qI.stay aZ fun b hb=>hs b<|by simp[hb]⟩⟩
theorem Qk:QI zI zG 8 (fun x=>x.qR) (fun x y=>{ x with qR:=y }):=
 ⟨fun {w F cs x} h=>by
  obtain⟨aV,az,be,aA,bf,aS,aG,au,aT,aq,aU,aJ,aP,ak,aW,an,aX,aF,ay,aj,aD,ai,aC,aw,rfl,rfl,bj,aQ,bz,aR,bw,bn,aY,aK,bi,aM,bm,aZ⟩:=h
  refine⟨[yI x.qC.qK,aV,az,Bv x.qC.qY,be,aA,bf,aS],[yI x.qR.qK,aG,au,Bv x.qR.qY,aT,aq,aU,aJ],[],(aP++ak++aW++an++aX++aF),(ay++aj++aD++ai++aC++aw),[],by simp,J,by simp,⟨aG,au,aT,aq,aU,aJ,ay,aj,aD,ai,aC,aw,J,J,aY,aK,bi,aM,bm,aZ⟩,fun w' F' c' y hs hr=>?_⟩
  obtain⟨F9,Bz,Js,CI,Kl,E7,fC,eF,gO,eB,gR,fK,rfl,rfl,Gg,BJ,Lb,CC,Jv,FD⟩:=hr
  exact⟨aV,az,be,aA,bf,aS,F9,Bz,Js,CI,Kl,E7,aP,ak,aW,an,aX,aF,fC,eF,gO,eB,gR,fK,by simp,by simp,qI.stay bj fun b hb=>hs b<|by simp[hb],qI.stay aQ fun b hb=>hs b<|by simp[hb],qI.stay bz fun b hb=>hs b<|by simp[hb],qI.stay aR fun b hb=>hs b<|by simp[hb],qI.stay bw fun b hb=>hs b<|by simp[hb],qI.stay bn fun b hb=>hs b<|by simp[hb],Gg,BJ,Lb,CC,Jv,FD⟩⟩
theorem St.partS_ServerD{α:Type}[qI α][Inhabited α]{get:α->zI}{put:α->zI->α}(S:QI α zI q get put)(H:St W0 w ps Γ)(k:Nat)(hp:ps[k]? =some (.row (Sv (aa b 0) nn c) e sz nn xs))(j:Nat){l:List α}
 (hf:Γ[j]? =some (qX fr F xs l)) (rQ:qI.size α=sz) (i:Nat) (h1:i<nn) (hz:0<sz:=by decide):
 ∃(eD:yOA) (et:Nat) (aP:yLN) (dv:yOA) (dw:Nat) (ak:yLN) (fj:yOA) (fd:Nat) (aW:yLN) (du:yOA) (dt:Nat) (an:yLN) (fo:yOA) (ff:Nat) (aX:yLN) (ey:yOA) (ez:Nat) (aF:yLN) (dL:yOA) (dK:Nat) (ay:yLN) (c4:yOA) (cZ:Nat) (aj:yLN) (eu:yOA) (ew:Nat) (aD:yLN) (c7:yOA) (cY:Nat) (ai:yLN) (eA:yOA) (eI:Nat) (aC:yLN) (dM:yOA) (dH:Nat) (aw:yLN),(∀(r:Nat) (v:Value),([yI (get<|l[i]!).qC.qK,Sv eD (get<|l[i]!).qC.qG.length et,Sv dv (get<|l[i]!).qC.qF.length dw,Bv (get<|l[i]!).qC.qY,Sv fj (get<|l[i]!).qC.jA.length fd,Sv du (get<|l[i]!).qC.qU.length dt,Sv fo (get<|l[i]!).qC.jH.length ff,Sv ey (get<|l[i]!).qC.zM.length ez,yI (get<|l[i]!).qR.qK,Sv dL (get<|l[i]!).qR.qG.length dK,Sv c4 (get<|l[i]!).qR.qF.length cZ,Bv (get<|l[i]!).qR.qY,Sv eu (get<|l[i]!).qR.jA.length ew,Sv c7 (get<|l[i]!).qR.qU.length cY,Sv eA (get<|l[i]!).qR.jH.length eI,Sv dM (get<|l[i]!).qR.zM.length dH]:List Value)[r]? =some v->xs[i*sz+q+r]? =some v)/\(∀G∈[aP,ak,aW,an,aX,aF,ay,aj,aD,ai,aC,aw],∀x∈G,x∈F)/\St W0 w ps (isF fr aP (Sv eD (get<|l[i]!).qC.qG.length et) (get<|l[i]!).qC.qG::isF fr ak (Sv dv (get<|l[i]!).qC.qF.length dw) (get<|l[i]!).qC.qF::isF fr aW (Sv fj (get<|l[i]!).qC.jA.length fd) (get<|l[i]!).qC.jA::isF fr an (Sv du (get<|l[i]!).qC.qU.length dt) (get<|l[i]!).qC.qU::isF fr aX (Sv fo (get<|l[i]!).qC.jH.length ff) (get<|l[i]!).qC.jH::isF fr aF (Sv ey (get<|l[i]!).qC.zM.length ez) (get<|l[i]!).qC.zM::isF fr ay (Sv dL (get<|l[i]!).qR.qG.length dK) (get<|l[i]!).qR.qG::isF fr aj (Sv c4 (get<|l[i]!).qR.qF.length cZ) (get<|l[i]!).qR.qF::isF fr aD (Sv eu (get<|l[i]!).qR.jA.length ew) (get<|l[i]!).qR.jA::isF fr ai (Sv c7 (get<|l[i]!).qR.qU.length cY) (get<|l[i]!).qR.qU::isF fr aC (Sv eA (get<|l[i]!).qR.jH.length eI) (get<|l[i]!).qR.jH::isF fr aw (Sv dM (get<|l[i]!).qR.zM.length dH) (get<|l[i]!).qR.zM::Γ):=by
 subst rQ
 have hn:nn=l.length:=H.xf (α:=α) k hp j hf hz
 obtain⟨c1,cm,c2,F1,Fm,F2,hxs,hl,hF,hr,_⟩:=S.el (H.get j hf).1 i qf
 have bV:∀x∈Fm,x∈F:=fun x hx=>by rw[hF];simp[hx]
 have eJ:fr=true->yc w Fm:=fun e=>((H.get j hf).2 e).sub bV
 obtain⟨aV,az,be,aA,bf,aS,aG,au,aT,aq,aU,aJ,aP,ak,aW,an,aX,aF,ay,aj,aD,ai,aC,aw,rfl,dA,bj,aQ,bz,aR,bw,bn,aY,aK,bi,aM,bm,aZ⟩:=id hr
 obtain⟨eD,et,rfl⟩:=slice_form bj
 obtain⟨dv,dw,rfl⟩:=slice_form aQ
 obtain⟨fj,fd,rfl⟩:=slice_form bz
 obtain⟨du,dt,rfl⟩:=slice_form aR
 obtain⟨fo,ff,rfl⟩:=slice_form bw
 obtain⟨ey,ez,rfl⟩:=slice_form bn
 obtain⟨dL,dK,rfl⟩:=slice_form aY
 obtain⟨c4,cZ,rfl⟩:=slice_form aK
 obtain⟨eu,ew,rfl⟩:=slice_form bi
 obtain⟨c7,cY,rfl⟩:=slice_form aM
 obtain⟨eA,eI,rfl⟩:=slice_form bm
 obtain⟨dM,dH,rfl⟩:=slice_form aZ
 refine⟨eD,et,aP,dv,dw,ak,fj,fd,aW,du,dt,an,fo,ff,aX,ey,ez,aF,dL,dK,ay,c4,cZ,aj,eu,ew,aD,c7,cY,ai,eA,eI,aC,dM,dH,aw,fun r v hv=>?_,fun G hG x hx=>?_,?_⟩
 ·have nU:=(List.getElem?_eq_some_iff.1 hv).1
  rw[hxs,←hl,List.append_assoc,List.getElem?_append_right qf,Nat.add_sub_cancel_left,List.getElem?_append_left nU]
  exact hv
 ·refine bV x ?_
  rw[dA]
  simp only[List.mem_cons,List.not_mem_nil,or_false] at hG
  simp only[List.mem_append]
  rcases hG with rfl|rfl|rfl|rfl|rfl|rfl|rfl|rfl|rfl|rfl|rfl|rfl <;> simp[hx]
 ·exact((((((((((((H.jR (j+0) hf (isF fr aw _ (get<|l[i]!).qR.zM) ⟨aZ,fun e=>(eJ e).sub<|by rw[dA];intro x hx;simp[hx]⟩<|fun x hx=>bV x (by rw[dA];have hx:x∈aw:=hx;simp[hx])).jR (j+1) hf (isF fr aC _ (get<|l[i]!).qR.jH) ⟨bm,fun e=>(eJ e).sub<|by rw[dA];intro x hx;simp[hx]⟩<|fun x hx=>bV x (by rw[dA];have hx:x∈aC:=hx;simp[hx])).jR (j+2) hf (isF fr ai _ (get<|l[i]!).qR.qU) ⟨aM,fun e=>(eJ e).sub<|by rw[dA];intro x hx;simp[hx]⟩<|fun x hx=>bV x (by rw[dA];have hx:x∈ai:=hx;simp[hx])).jR (j+3) hf (isF fr aD _ (get<|l[i]!).qR.jA) ⟨bi,fun e=>(eJ e).sub<|by rw[dA];intro x hx;simp[hx]⟩<|fun x hx=>bV x (by rw[dA];have hx:x∈aD:=hx;simp[hx])).jR (j+4) hf (isF fr aj _ (get<|l[i]!).qR.qF) ⟨aK,fun e=>(eJ e).sub<|by rw[dA];intro x hx;simp[hx]⟩<|fun x hx=>bV x (by rw[dA];have hx:x∈aj:=hx;simp[hx])).jR (j+5) hf (isF fr ay _ (get<|l[i]!).qR.qG) ⟨aY,fun e=>(eJ e).sub<|by rw[dA];intro x hx;simp[hx]⟩<|fun x hx=>bV x (by rw[dA];have hx:x∈ay:=hx;simp[hx])).jR (j+6) hf (isF fr aF _ (get<|l[i]!).qC.zM) ⟨bn,fun e=>(eJ e).sub<|by rw[dA];intro x hx;simp[hx]⟩<|fun x hx=>bV x (by rw[dA];have hx:x∈aF:=hx;simp[hx])).jR (j+7) hf (isF fr aX _ (get<|l[i]!).qC.jH) ⟨bw,fun e=>(eJ e).sub<|by rw[dA];intro x hx;simp[hx]⟩<|fun x hx=>bV x (by rw[dA];have hx:x∈aX:=hx;simp[hx])).jR (j+8) hf (isF fr an _ (get<|l[i]!).qC.qU) ⟨aR,fun e=>(eJ e).sub<|by rw[dA];intro x hx;simp[hx]⟩<|fun x hx=>bV x (by rw[dA];have hx:x∈an:=hx;simp[hx])).jR (j+9) hf (isF fr aW _ (get<|l[i]!).qC.jA) ⟨bz,fun e=>(eJ e).sub<|by rw[dA];intro x hx;simp[hx]⟩<|fun x hx=>bV x (by rw[dA];have hx:x∈aW:=hx;simp[hx])).jR (j+10) hf (isF fr ak _ (get<|l[i]!).qC.qF) ⟨aQ,fun e=>(eJ e).sub<|by rw[dA];intro x hx;simp[hx]⟩<|fun x hx=>bV x (by rw[dA];have hx:x∈ak:=hx;simp[hx])).jR (j+11) hf (isF fr aP _ (get<|l[i]!).qC.qG) ⟨bj,fun e=>(eJ e).sub<|by rw[dA];intro x hx;simp[hx]⟩<|fun x hx=>bV x (by rw[dA];have hx:x∈aP:=hx;simp[hx]))
theorem St.part_ServerD{α:Type}[qI α][Inhabited α]{get:α->zI}{put:α->zI->α}(S:QI α zI q get put)(H:St W0 w ps Γ)(k:Nat)(hp:ps[k]? =some (.row (Sv (aa b 0) nn c) e sz nn xs))(j:Nat){l:List α}
 (hf:Γ[j]? =some (qX fr F xs l)) (rQ:qI.size α=sz) (i:Nat) (h1:i<nn) (hz:0<sz:=by decide):
 ∃(eD:yOA) (et:Nat) (aP:yLN) (dv:yOA) (dw:Nat) (ak:yLN) (fj:yOA) (fd:Nat) (aW:yLN) (du:yOA) (dt:Nat) (an:yLN) (fo:yOA) (ff:Nat) (aX:yLN) (ey:yOA) (ez:Nat) (aF:yLN) (dL:yOA) (dK:Nat) (ay:yLN) (c4:yOA) (cZ:Nat) (aj:yLN) (eu:yOA) (ew:Nat) (aD:yLN) (c7:yOA) (cY:Nat) (ai:yLN) (eA:yOA) (eI:Nat) (aC:yLN) (dM:yOA) (dH:Nat) (aw:yLN),(∀(r:Nat) (v:Value),([yI (get<|l[i]!).qC.qK,Sv eD (get<|l[i]!).qC.qG.length et,Sv dv (get<|l[i]!).qC.qF.length dw,Bv (get<|l[i]!).qC.qY,Sv fj (get<|l[i]!).qC.jA.length fd,Sv du (get<|l[i]!).qC.qU.length dt,Sv fo (get<|l[i]!).qC.jH.length ff,Sv ey (get<|l[i]!).qC.zM.length ez,yI (get<|l[i]!).qR.qK,Sv dL (get<|l[i]!).qR.qG.length dK,Sv c4 (get<|l[i]!).qR.qF.length cZ,Bv (get<|l[i]!).qR.qY,Sv eu (get<|l[i]!).qR.jA.length ew,Sv c7 (get<|l[i]!).qR.qU.length cY,Sv eA (get<|l[i]!).qR.jH.length eI,Sv dM (get<|l[i]!).qR.zM.length dH]:List Value)[r]? =some v->xs[i*sz+q+r]? =some v)/\St W0 w ps (isF fr aP (Sv eD (get<|l[i]!).qC.qG.length et) (get<|l[i]!).qC.qG::isF fr ak (Sv dv (get<|l[i]!).qC.qF.length dw) (get<|l[i]!).qC.qF::isF fr aW (Sv fj (get<|l[i]!).qC.jA.length fd) (get<|l[i]!).qC.jA::isF fr an (Sv du (get<|l[i]!).qC.qU.length dt) (get<|l[i]!).qC.qU::isF fr aX (Sv fo (get<|l[i]!).qC.jH.length ff) (get<|l[i]!).qC.jH::isF fr aF (Sv ey (get<|l[i]!).qC.zM.length ez) (get<|l[i]!).qC.zM::isF fr ay (Sv dL (get<|l[i]!).qR.qG.length dK) (get<|l[i]!).qR.qG::isF fr aj (Sv c4 (get<|l[i]!).qR.qF.length cZ) (get<|l[i]!).qR.qF::isF fr aD (Sv eu (get<|l[i]!).qR.jA.length ew) (get<|l[i]!).qR.jA::isF fr ai (Sv c7 (get<|l[i]!).qR.qU.length cY) (get<|l[i]!).qR.qU::isF fr aC (Sv eA (get<|l[i]!).qR.jH.length eI) (get<|l[i]!).qR.jH::isF fr aw (Sv dM (get<|l[i]!).qR.zM.length dH) (get<|l[i]!).qR.zM::Γ):=by
 obtain⟨eD,et,aP,dv,dw,ak,fj,fd,aW,du,dt,an,fo,ff,aX,ey,ez,aF,dL,dK,ay,c4,cZ,aj,eu,ew,aD,c7,cY,ai,eA,eI,aC,dM,dH,aw,h1,_,h2⟩:=H.partS_ServerD S k hp j hf rQ i h1 hz
 exact⟨eD,et,aP,dv,dw,ak,fj,fd,aW,du,dt,an,fo,ff,aX,ey,ez,aF,dL,dK,ay,c4,cZ,aj,eu,ew,aD,c7,cY,ai,eA,eI,aC,dM,dH,aw,h1,h2⟩
theorem St.partS_ParcelD{α:Type}[qI α][Inhabited α]{get:α->zC}{put:α->zC->α}(S:QI α zC q get put)(H:St W0 w ps Γ)(k:Nat)(hp:ps[k]? =some (.row (Sv (aa b 0) nn c) e sz nn xs))(j:Nat){l:List α}
 (hf:Γ[j]? =some (qX fr F xs l)) (rQ:qI.size α=sz) (i:Nat) (h1:i<nn) (hz:0<sz:=by decide):
 ∃(fk:yOA) (fm:Nat) (XM:yLN),(∀(r:Nat) (v:Value),([yI (get<|l[i]!).qK,yI (get<|l[i]!).Q9,yI (get<|l[i]!).fTo,Sv fk (get<|l[i]!).qG.length fm]:List Value)[r]? =some v->xs[i*sz+q+r]? =some v)/\(∀G∈[XM],∀x∈G,x∈F)/\St W0 w ps (isF fr XM (Sv fk (get<|l[i]!).qG.length fm) (get<|l[i]!).qG::Γ):=by
 subst rQ
 have hn:nn=l.length:=H.xf (α:=α) k hp j hf hz
 obtain⟨c1,cm,c2,F1,Fm,F2,hxs,hl,hF,hr,_⟩:=S.el (H.get j hf).1 i qf
 have bV:∀x∈Fm,x∈F:=fun x hx=>by rw[hF];simp[hx]
 have eJ:fr=true->yc w Fm:=fun e=>((H.get j hf).2 e).sub bV
 obtain⟨dp,XM,rfl,dA,Ye⟩:=id hr
 obtain⟨fk,fm,rfl⟩:=slice_form Ye
 refine⟨fk,fm,XM,fun r v hv=>?_,fun G hG x hx=>?_,?_⟩
 ·have nU:=(List.getElem?_eq_some_iff.1 hv).1
  rw[hxs,←hl,List.append_assoc,List.getElem?_append_right qf,Nat.add_sub_cancel_left,List.getElem?_append_left nU]
  exact hv
 ·refine bV x ?_
  rw[dA]
  simp only[List.mem_cons,List.not_mem_nil,or_false] at hG
  rcases hG with rfl <;> simp[hx]
 ·exact(H.jR (j+0) hf (isF fr XM _ (get<|l[i]!).qG) ⟨Ye,fun e=>(eJ e).sub<|by rw[dA];intro x hx;simp[hx]⟩<|fun x hx=>bV x (by rw[dA];have hx:x∈XM:=hx;simp[hx]))
theorem St.part_ParcelD{α:Type}[qI α][Inhabited α]{get:α->zC}{put:α->zC->α}(S:QI α zC q get put)(H:St W0 w ps Γ)(k:Nat)(hp:ps[k]? =some (.row (Sv (aa b 0) nn c) e sz nn xs))(j:Nat){l:List α}
 (hf:Γ[j]? =some (qX fr F xs l)) (rQ:qI.size α=sz) (i:Nat) (h1:i<nn) (hz:0<sz:=by decide):
 ∃(fk:yOA) (fm:Nat) (XM:yLN),(∀(r:Nat) (v:Value),([yI (get<|l[i]!).qK,yI (get<|l[i]!).Q9,yI (get<|l[i]!).fTo,Sv fk (get<|l[i]!).qG.length fm]:List Value)[r]? =some v->xs[i*sz+q+r]? =some v)/\St W0 w ps (isF fr XM (Sv fk (get<|l[i]!).qG.length fm) (get<|l[i]!).qG::Γ):=by
 obtain⟨fk,fm,XM,h1,_,h2⟩:=H.partS_ParcelD S k hp j hf rQ i h1 hz
 exact⟨fk,fm,XM,h1,h2⟩
end
end Go.Proofs.YtghikkinnchndaaGreat
