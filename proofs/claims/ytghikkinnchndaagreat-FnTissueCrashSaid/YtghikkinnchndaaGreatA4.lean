/- Walks and laws, printed by program and by hand: what each function comes to, for all arguments, part 4. -/
import Derived.Test.YtghikkinnchndaaGreatA3
namespace Go.Proofs.YtghikkinnchndaaGreat
open Go.Proofs.Tryz
set_option linter.unusedVariables false
set_option linter.unusedSimpArgs false
set_option maxRecDepth 100000
set_option maxHeartbeats 4000000
open Go.RowKit
open Go.Proofs.Tryz
open Go.Proofs.YtghikkinnchndaaGreat.Tot (tot)
open Go.Proofs.YtghikkinnchndaaGreat.Mark (cnt mrk mkd mkd_mark cnt_mark)
variable {F Fa Fb BF Mx Dm YM PB U0 Fl BN G QG Qa jY vX zH:yLN} {L L' sv:List zA} {Ns:List yLN} {W0 w:World} {a ab kS sP gz uC ko pQ al iR vZ xG xf zS zq:yOA} {alive:List Bool} {b fJ c c' c2 i j m n n2 nn off sz:Nat} {d:zn} {e t:TypeId} {fr:Bool} {iv k:Int} {l:List yj} {pz:yLI} {p:zk} {ps:List Prv} {s y y1 y2:Operand} {v z:Value} {vs xs ys:List Value} {x:zA} {Γ:List Fact}
section
variable {iq ul kT vn gy pA kg ca cb qZ xC cl zO vT zo : Nat}
theorem Q3 (w:World) (ch:yLL) (fR:zP w BN iR iq ch) (p0:Sm2 ch):Calls Tryz.prog 29 #[Sv iR ch.length iq] w (Ret (fun v w' =>∃ (ra:yOA) (rn:Nat) (rc:Nat) (rx:List Value) (rF:yLN),v=Sv ra rn rc/\Fresh w.heap.size [rF]/\St w w' [rr ra rn rc 24 1 rx] [qL true rF rx ch]) w):=by
 refine en func29 ntmps29 ?_
 have H:=(St.start w).arg fR
 have zb:=qO fR
 clear fR
 have N:=Fresh.nil w.heap.size
 have p1:=p0.1
 refine zcr<|sq 1<|zjc<|sw<|jk H underlying29 ti24 fun b1 w2 H=>sq 1<|zjcc<|sq 1<|oN rfl<|sp (yI 0)<|zjn<|xg ?_
 replace H:=H.boxRow 0 rfl 1 0 rfl qj
 replace H:=H.jZ (α:=yLI)
 refine zU ((fun Z0=>fun m' ρ w3=>∃ (xI:Env) (yY:yOA) (yV:Nat) (yX:Nat) (out:yLL) (Qv:List Value) (Ql:yLN) (k:Nat),ρ=upd (upd (upd (upd xI 3<|Sv yY yV yX) 7<|Sv iR ch.length iq) 8<|yI ch.length) 9 (yI k)/\out=ch.take k/\((k:Int)<=ch.length)/\m' =(ch.length - (k:Int)).toNat/\Fresh w.heap.size [Ql]/\St w w3 [rr yY yV yX 24 1 Qv] [qL true Ql Qv out,Z0]) _) ((ch.length - (0:Int)).toNat) ⟨_,(aa b1 0),0,0,([]:yLL),[],[],0,uE4,(by rfl),qf,rfl,N.emp,H⟩ ?_
 clear H N
 rintro m' ρ w4 ⟨xI,yY,yV,yX,out,Qv,Ql,k,rfl,rfl,i0,rfl,N,H⟩
 have Vq:=H.xe (α:=yLI) 0 rfl 0 rfl qj
 have p2:=p0.2 k
 rw [List.length_take_of_le qf] at Vq
 refine zcr<|sq 1<|zjn<|xH<|cD rfl (fun h5=>?_)<|fun h5=>?_
 ·refine xk (t_n<|xH<|xg<|zcr ?_)
  obtain ⟨b6,o7,rfl⟩:=H.addr 1 rfl qf
  obtain ⟨ae9,ce9,Fe9,H⟩:=H.yD 1 rfl k k qf qf qf
  refine oI rfl rfl<|oL rfl (H.vW 1 rfl 0 rfl)<|sq 1<|zjn<|xZ<|sq 2 ?_
  have p3:=p2 qf
  have ayr:=H.base.size
  have atQ:=H.ltN (L:=[Ql]) [2]
  refine sw<|oc (cloneI_ok _ (ch[k]!) (H.get 0 rfl).1 qg) ?_
  rintro v15 II r15 x14
  replace H:=H.zI x14 r15
  obtain ⟨a16,c17,rfl,atA,auw⟩:=H.jW 0 rfl
  refine sw<|zx H underlying29 ti24 [Sv a16 ((ch[k]!).length) c17] fun KE SS H=>?_
  obtain ⟨G25,N,axX,H⟩:=H.ve 1 rfl N<|H.vg [2]
  refine sw<|zJ H 2 rfl 0 rfl underlying29 ti24 rfl qj rfl rfl rfl qw qp qf fun a22 c23 JE H=>?_
  replace H:=H.QR 3 rfl 0 rfl
  replace N:Fresh w.heap.size [(Ql++G25)]:=(N.pick [1,0]).join
  refine sq 1<|xW<|b_n<|t_n<|xZ<|sw<|zV k 1 rfl rfl qf<|sq 1<|xW<|xq (m' :=(ch.length - ((k+1):Int)).toNat) qf ⟨_,_,_,_,_,_,_,k+1,uE4,?_,?_,rfl,N,H.pick [2] [0,5]⟩
  ·exact take_snoc qf
  ·omega
 refine zx4<|zcr<|sq 2<|zjr<|rH1 (Sv yY yV yX) H ?_
 obtain rfl:k=ch.length:=by omega
 rw [List.take_length] at H
 exact ⟨yY,yV,yX,Qv,Ql,rfl,N,H.pick [0] [0]⟩
theorem Qn (w:World) (ch:yLL) (fR:zP w BN iR iq ch) (p0:Sm2 ch):Calls Tryz.prog 148 #[Sv iR ch.length iq] w (Ret (fun v w' =>∃ (ra:yOA) (rn:Nat) (rc:Nat) (rx:List Value) (rF:yLN),v=Sv ra rn rc/\Fresh w.heap.size [rF]/\St w w' [rr ra rn rc 24 1 rx] [qL true rF rx ch]) w):=by
 refine en func148 ntmps148 ?_
 have H:=(St.start w).arg fR
 have zb:=qO fR
 clear fR
 have N:=Fresh.nil w.heap.size
 have p1:=p0.1
 refine zcr<|sq 1<|zjc<|sw<|jk H underlying29 ti24 fun b1 w2 H=>sq 1<|zjcc<|sp (yI 0)<|zjn<|xg ?_
 replace H:=H.boxRow 0 rfl 1 0 rfl qj
 replace H:=H.jZ (α:=yLI)
 refine zU ((fun Z0=>fun m' ρ w3=>∃ (xI:Env) (yY:yOA) (yV:Nat) (yX:Nat) (out:yLL) (Qv:List Value) (Ql:yLN) (i:Nat),ρ=upd (upd (upd xI 0<|Sv iR ch.length iq) 3<|Sv yY yV yX) 4 (yI i)/\out=ch.take i/\((i:Int)<=ch.length)/\m' =(ch.length - (i:Int)).toNat/\Fresh w.heap.size [Ql]/\St w w3 [rr yY yV yX 24 1 Qv] [qL true Ql Qv out,Z0]) _) ((ch.length - (0:Int)).toNat) ⟨_,(aa b1 0),0,0,([]:yLL),[],[],0,uE3,(by rfl),qf,rfl,N.emp,H⟩ ?_
 clear H N
 rintro m' ρ w4 ⟨xI,yY,yV,yX,out,Qv,Ql,i,rfl,rfl,i0,rfl,N,H⟩
 have Vq:=H.xe (α:=yLI) 0 rfl 0 rfl qj
 have p2:=p0.2 i
 rw [List.length_take_of_le qf] at Vq
 refine zcc<|sp (yI i)<|sq 1<|oN rfl<|sq 1<|zjn<|cD rfl (fun h5=>?_)<|fun h5=>?_
 ·refine xk (t_n<|xH<|xg<|xZ<|sq 2<|sp (yI i) ?_)
  obtain ⟨b6,o7,rfl⟩:=H.addr 1 rfl qf
  obtain ⟨ae9,ce9,Fe9,H⟩:=H.yD 1 rfl i i qf qf qf
  refine oI rfl rfl<|oL rfl (H.vW 1 rfl 0 rfl) ?_
  have p3:=p2 qf
  have ayr:=H.base.size
  have atQ:=H.ltN (L:=[Ql]) [2]
  refine sw<|oc (X6 _ (ch[i]!) (H.get 0 rfl).1 qg) ?_
  rintro v15 II r15 x14
  replace H:=H.zI x14 r15
  obtain ⟨a16,c17,rfl,atA,auw⟩:=H.jW 0 rfl
  refine sw<|zx H underlying29 ti24 [Sv a16 ((ch[i]!).length) c17] fun KE SS H=>?_
  obtain ⟨G25,N,axX,H⟩:=H.ve 1 rfl N<|H.vg [2]
  refine sw<|zJ H 2 rfl 0 rfl underlying29 ti24 rfl qj rfl rfl rfl qw qp qf fun a22 c23 JE H=>?_
  replace H:=H.QR 3 rfl 0 rfl
  replace N:Fresh w.heap.size [(Ql++G25)]:=(N.pick [1,0]).join
  refine sq 1<|xW<|b_n<|t_n<|xZ<|sp (yI i)<|sw<|zV i 1 rfl rfl qf<|sq 1<|xW<|xq (m' :=(ch.length - ((i+1):Int)).toNat) qf ⟨_,_,_,_,_,_,_,i+1,uE3,?_,?_,rfl,N,H.pick [2] [0,5]⟩
  ·exact take_snoc qf
  ·omega
 refine zx4<|zcr<|sq 2<|zjr<|rH1 (Sv yY yV yX) H ?_
 obtain rfl:i=ch.length:=by omega
 rw [List.take_length] at H
 exact ⟨yY,yV,yX,Qv,Ql,rfl,N,H.pick [0] [0]⟩
theorem copyPuts_ok (w:World) (ch:List yLL) (fR:zP w BN iR iq ch) (p0:Sm3 ch):Calls Tryz.prog 72 #[Sv iR ch.length iq] w (Ret (fun v w' =>∃ (ra:yOA) (rn:Nat) (rc:Nat) (rx:List Value) (rF:yLN),v=Sv ra rn rc/\Fresh w.heap.size [rF]/\St w w' [rr ra rn rc 29 1 rx] [qL true rF rx ch]) w):=by
 refine en func72 ntmps72 ?_
 have H:=(St.start w).arg fR
 have zb:=qO fR
 clear fR
 have N:=Fresh.nil w.heap.size
 have p1:=p0.1
 refine zcr<|sq 1<|zjc<|sw<|jk H underlying45 ti29 fun b1 w2 H=>sq 1<|zjcc<|sq 1<|oN rfl<|sp (yI 0)<|zjn<|xg ?_
 replace H:=H.boxRow 0 rfl 1 0 rfl qj
 replace H:=H.jZ (α:=yLL)
 refine zU ((fun Z0=>fun m' ρ w3=>∃ (xI:Env) (yY:yOA) (yV:Nat) (yX:Nat) (out:List yLL) (Qv:List Value) (Ql:yLN) (k:Nat),ρ=upd (upd (upd (upd xI 3<|Sv yY yV yX) 7<|Sv iR ch.length iq) 8<|yI ch.length) 9 (yI k)/\out=ch.take k/\((k:Int)<=ch.length)/\m' =(ch.length - (k:Int)).toNat/\Fresh w.heap.size [Ql]/\St w w3 [rr yY yV yX 29 1 Qv] [qL true Ql Qv out,Z0]) _) ((ch.length - (0:Int)).toNat) ⟨_,(aa b1 0),0,0,([]:List yLL),[],[],0,uE4,(by rfl),qf,rfl,N.emp,H⟩ ?_
 clear H N
 rintro m' ρ w4 ⟨xI,yY,yV,yX,out,Qv,Ql,k,rfl,rfl,i0,rfl,N,H⟩
 have Vq:=H.xe (α:=yLL) 0 rfl 0 rfl qj
 have p2:=p0.2 k
 rw [List.length_take_of_le qf] at Vq
 refine zcr<|sq 1<|zjn<|xH<|cD rfl (fun h5=>?_)<|fun h5=>?_
 ·refine xk (t_n<|xH<|xg<|zcr ?_)
  obtain ⟨b6,o7,rfl⟩:=H.addr 1 rfl qf
  obtain ⟨ae9,ce9,Fe9,H⟩:=H.yD 1 rfl k k qf qf qf
  refine oI rfl rfl<|oL rfl (H.vW 1 rfl 0 rfl)<|sq 1<|zjn<|xZ<|sq 2 ?_
  have p3:=p2 qf
  have acz:=H.base.size
  have acP:=H.ltN (L:=[Ql]) [2]
  refine sw<|oc (Q3 _ (ch[k]!) (H.get 0 rfl).1 qg) ?_
  rintro _ KD ⟨wy,axp,kp,avq,E7,rfl,M,K⟩ _
  replace N:=N.merge acz acP M
  replace H:=H.merge K M
  obtain rfl:=H.xe (α:=yLI) 0 rfl 0 rfl qj
  refine sw<|zx H underlying45 ti29 [Sv wy ((ch[k]!).length) kp] fun YQ Tr H=>?_
  have H0:=H
  obtain ⟨G21,PF,awT,H⟩:=H.vK (α:=yLI) 1 rfl 0 rfl qj
  replace N:Fresh w.heap.size [G21,Ql]:=Fresh.ice N H0 1 PF.1 PF.2<|H0.vg [3]
  clear H0
  refine sw<|zJ H 2 rfl 0 rfl underlying45 ti29 rfl qj rfl rfl rfl qw qp qf fun Qt P3 Rr H=>?_
  replace H:=H.QR 4 rfl 0 rfl
  replace N:Fresh w.heap.size [(Ql++G21)]:=(N.pick [1,0]).join
  refine sq 1<|xW<|b_n<|t_n<|xZ<|sw<|zV k 1 rfl rfl qf<|sq 1<|xW<|xq (m' :=(ch.length - ((k+1):Int)).toNat) qf ⟨_,_,_,_,_,_,_,k+1,uE4,?_,?_,rfl,N,H.pick [2] [0,6]⟩
  ·exact take_snoc qf
  ·omega
 refine zx4<|zcr<|sq 2<|zjr<|rH1 (Sv yY yV yX) H ?_
 obtain rfl:k=ch.length:=by omega
 rw [List.take_length] at H
 exact ⟨yY,yV,yX,Qv,Ql,rfl,N,H.pick [0] [0]⟩
theorem Xx (w:World) (ch:List yLL) (fR:zP w BN iR iq ch) (p0:Sm3 ch):Calls Tryz.prog 149 #[Sv iR ch.length iq] w (Ret (fun v w' =>∃ (ra:yOA) (rn:Nat) (rc:Nat) (rx:List Value) (rF:yLN),v=Sv ra rn rc/\Fresh w.heap.size [rF]/\St w w' [rr ra rn rc 29 1 rx] [qL true rF rx ch]) w):=by
 refine en func149 ntmps149 ?_
 have H:=(St.start w).arg fR
 have zb:=qO fR
 clear fR
 have N:=Fresh.nil w.heap.size
 have p1:=p0.1
 refine zcr<|sq 1<|zjc<|sw<|jk H underlying45 ti29 fun b1 w2 H=>sq 1<|zjcc<|sp (yI 0)<|zjn<|xg ?_
 replace H:=H.boxRow 0 rfl 1 0 rfl qj
 replace H:=H.jZ (α:=yLL)
 refine zU ((fun Z0=>fun m' ρ w3=>∃ (xI:Env) (yY:yOA) (yV:Nat) (yX:Nat) (out:List yLL) (Qv:List Value) (Ql:yLN) (i:Nat),ρ=upd (upd (upd xI 0<|Sv iR ch.length iq) 3<|Sv yY yV yX) 4 (yI i)/\out=ch.take i/\((i:Int)<=ch.length)/\m' =(ch.length - (i:Int)).toNat/\Fresh w.heap.size [Ql]/\St w w3 [rr yY yV yX 29 1 Qv] [qL true Ql Qv out,Z0]) _) ((ch.length - (0:Int)).toNat) ⟨_,(aa b1 0),0,0,([]:List yLL),[],[],0,uE3,(by rfl),qf,rfl,N.emp,H⟩ ?_
 clear H N
 rintro m' ρ w4 ⟨xI,yY,yV,yX,out,Qv,Ql,i,rfl,rfl,i0,rfl,N,H⟩
 have Vq:=H.xe (α:=yLL) 0 rfl 0 rfl qj
 have p2:=p0.2 i
 rw [List.length_take_of_le qf] at Vq
 refine zcc<|sp (yI i)<|sq 1<|oN rfl<|sq 1<|zjn<|cD rfl (fun h5=>?_)<|fun h5=>?_
 ·refine xk (t_n<|xH<|xg<|xZ<|sq 2<|sp (yI i) ?_)
  obtain ⟨b6,o7,rfl⟩:=H.addr 1 rfl qf
  obtain ⟨ae9,ce9,Fe9,H⟩:=H.yD 1 rfl i i qf qf qf
  refine oI rfl rfl<|oL rfl (H.vW 1 rfl 0 rfl) ?_
  have p3:=p2 qf
  have acz:=H.base.size
  have acP:=H.ltN (L:=[Ql]) [2]
  refine sw<|oc (Qn _ (ch[i]!) (H.get 0 rfl).1 qg) ?_
  rintro _ KD ⟨wy,axp,kp,avq,E7,rfl,M,K⟩ _
  replace N:=N.merge acz acP M
  replace H:=H.merge K M
  obtain rfl:=H.xe (α:=yLI) 0 rfl 0 rfl qj
  refine sw<|zx H underlying45 ti29 [Sv wy ((ch[i]!).length) kp] fun YQ Tr H=>?_
  have H0:=H
  obtain ⟨G21,PF,awT,H⟩:=H.vK (α:=yLI) 1 rfl 0 rfl qj
  replace N:Fresh w.heap.size [G21,Ql]:=Fresh.ice N H0 1 PF.1 PF.2<|H0.vg [3]
  clear H0
  refine sw<|zJ H 2 rfl 0 rfl underlying45 ti29 rfl qj rfl rfl rfl qw qp qf fun Qt P3 Rr H=>?_
  replace H:=H.QR 4 rfl 0 rfl
  replace N:Fresh w.heap.size [(Ql++G21)]:=(N.pick [1,0]).join
  refine sq 1<|xW<|b_n<|t_n<|xZ<|sp (yI i)<|sw<|zV i 1 rfl rfl qf<|sq 1<|xW<|xq (m' :=(ch.length - ((i+1):Int)).toNat) qf ⟨_,_,_,_,_,_,_,i+1,uE3,?_,?_,rfl,N,H.pick [2] [0,6]⟩
  ·exact take_snoc qf
  ·omega
 refine zx4<|zcr<|sq 2<|zjr<|rH1 (Sv yY yV yX) H ?_
 obtain rfl:i=ch.length:=by omega
 rw [List.take_length] at H
 exact ⟨yY,yV,yX,Qv,Ql,rfl,N,H.pick [0] [0]⟩
theorem X0 (w:World) (d:zn) (oK:zP w Mx sP ul d.qG) (iG:zP w BF kS kT d.qE) (ub:zP w YM uC vn d.vz) (ix:zP w Dm gz gy d.qJ) (vq:zP w U0 pQ pA d.vJ) (oE:zP w PB ko kg d.xP) (p0:SmD d):Calls Tryz.prog 28 #[.agg #[yI d.qN,Sv sP d.qG.length ul,Sv kS d.qE.length kT,Bv d.qQ,Sv uC d.vz.length vn,Sv gz d.qJ.length gy,Sv pQ d.vJ.length pA,Sv ko d.xP.length kg]] w (Ret (fun v w' =>∃ (uK:yOA) (tP:Nat) (sR:yLN) (nq:yOA) (nC:Nat) (Co:yLN) (Cy:yOA) (Cc:Nat) (WR:yLN) (mA:yOA) (mv:Nat) (m7:yLN) (CZ:yOA) (Dc:Nat) (C5:yLN) (vx:yOA) (tp:Nat) (ua:yLN),v=.agg #[yI d.qN,Sv uK d.qG.length tP,Sv nq d.qE.length nC,Bv d.qQ,Sv Cy d.vz.length Cc,Sv mA d.qJ.length mv,Sv CZ d.vJ.length Dc,Sv vx d.xP.length tp]/\Fresh w.heap.size [sR,Co,WR,m7,C5,ua]/\St w w' [] [sF true sR uK tP d.qG,sF true Co nq nC d.qE,sF true WR Cy Cc d.vz,sF true m7 mA mv d.qJ,sF true C5 CZ Dc d.vJ,sF true ua vx tp d.xP]) w):=by
 refine en func28 ntmps28 ?_
 have H:=((((((St.start w).arg oE).arg vq).arg ix).arg ub).arg iG).arg oK
 have S0:=qO oK
 have JP:=qO iG
 have acL:=qO ub
 have IW:=qO ix
 have ZL:=qO vq
 have Si:=qO oE
 clear oK iG ub ix vq oE
 have N:=Fresh.nil w.heap.size
 have p1:=p0.bags
 have p2:=p0.around
 have p3:=p0.got
 have p4:=p0.coming
 have p5:=p0.now
 have p6:=p0.last
 refine zcr<|sw<|jq H [yI d.qN,Sv sP d.qG.length ul,Sv kS d.qE.length kT,Bv d.qQ,Sv uC d.vz.length vn,Sv gz d.qJ.length gy,Sv pQ d.vJ.length pA,Sv ko d.xP.length kg] fun b1 w2 H=>sw<|xU H ti47 [yI 0,yN,yN,Bv false,yN,yN,yN,yN] fun b3 w4 H=>zjn<|xH<|zY 7 rfl H [0,1] [0,1,2,3,4,5] fun H=>?_
 dsimp only [jR,yE]
 refine tF 0 rfl rfl H ?_
 refine tL 1 rfl rfl (fun _ h=>h.cell 1 rfl rfl) H ?_
 refine tF 3 rfl rfl H ?_
 refine tL 4 rfl rfl (fun _ h=>h.cell 1 rfl rfl) H ?_
 refine tF 6 rfl rfl H ?_
 refine tL 7 rfl rfl (fun _ h=>h.cell 1 rfl rfl) H ?_
 refine tF 9 rfl rfl H ?_
 refine tL 10 rfl rfl (fun _ h=>h.cell 1 rfl rfl) H ?_
 refine ro 2 rfl ?_
 have sz9:=H.base.size
 refine oc (Q3 _ d.qG (H.get 0 rfl).1 qg) ?_
 rintro _ w7 ⟨oX,rn6,Rz,rx6,rF6,rfl,M,K⟩ _
 replace N:=N.merge sz9 qm M
 replace H:=H.merge K M
 obtain rfl:=H.xe (α:=yLI) 0 rfl 0 rfl qj
 refine ⟨H.pick [1,2]<|zR 1 6,(tF 12 rfl rfl (H.pick [1,2]<|zR 1 6) ?_)⟩
 refine ro 5 rfl ?_
 have afO:=H.base.size
 have aEE:=H.ltN (L:=[rF6]) [0]
 refine oc (cloneI_ok _ d.qE (H.get 2 rfl).1 qg) ?_
 rintro v17 PG r17 x16
 replace H:=H.zI x16 r17
 obtain ⟨Qt,P3,rfl,aDA,aFv⟩:=H.jW 0 rfl
 refine ⟨H.pick [2,3]<|zR 1 6,(ro 8 rfl ?_)⟩
 have aFI:=H.base.size
 refine oc (cloneB_ok _ d.vz (H.get 3 rfl).1 qg) ?_
 rintro _ Nw ⟨fh,aD6,bW,rfl,M,K⟩ _
 replace H:=H.merge K M
 obtain rfl:=H.rowNB 0 rfl
 refine ⟨H.pick [3,4]<|zR 1 6,(ro 11 rfl ?_)⟩
 have Ro:=H.base.size
 have Tf:=H.ltN (L:=[rF6]) [0]
 refine oc (Q3 _ d.qJ (H.get 4 rfl).1 qg) ?_
 rintro _ Rf ⟨bA,agl,pt,atU,cF,rfl,M,K⟩ _
 replace N:=N.merge Ro Tf M
 replace H:=H.merge K M
 obtain rfl:=H.xe (α:=yLI) 0 rfl 0 rfl qj
 refine ⟨H.pick [4,5]<|zR 2 6,(xy qh<|xM<|sw<|xO H 5 [yI d.qN,Sv oX d.qG.length Rz,Sv kS d.qE.length kT,Bv d.qQ,Sv uC d.vz.length vn,Sv gz d.qJ.length gy,Sv pQ d.vJ.length pA,Sv ko d.xP.length kg] sizeOf29 fun w34 H=>oF rfl ?_)⟩
 refine sw<|xO H 5 [yI d.qN,Sv oX d.qG.length Rz,Sv Qt d.qE.length P3,Bv d.qQ,Sv uC d.vz.length vn,Sv gz d.qJ.length gy,Sv pQ d.vJ.length pA,Sv ko d.xP.length kg] sizeOf24 fun P7 H=>oF rfl ?_
 refine sw<|xO H 5 [yI d.qN,Sv oX d.qG.length Rz,Sv Qt d.qE.length P3,Bv d.qQ,Sv fh d.vz.length bW,Sv gz d.qJ.length gy,Sv pQ d.vJ.length pA,Sv ko d.xP.length kg] sizeOf28 fun PJ H=>oF rfl ?_
 refine sw<|xO H 5 [yI d.qN,Sv oX d.qG.length Rz,Sv Qt d.qE.length P3,Bv d.qQ,Sv fh d.vz.length bW,Sv bA d.qJ.length pt,Sv pQ d.vJ.length pA,Sv ko d.xP.length kg] sizeOf29 fun w37 H=>zjn<|xH<|zY 3 rfl H [0,1,2,3,4,5] [0,1,2,3,4,5,6,7] fun H=>?_
 dsimp only [jR,yE]
 refine tF 0 rfl rfl H ?_
 refine tL 1 rfl rfl (fun _ h=>h.cell 5 rfl rfl) H ?_
 refine tF 3 rfl rfl H ?_
 refine tL 4 rfl rfl (fun _ h=>h.cell 5 rfl rfl) H ?_
 refine ro 2 rfl ?_
 have aiP:=H.base.size
 have apu:=H.ltN (L:=[cF,rF6]) [0,1]
 refine oc (copyPuts_ok _ d.vJ (H.get 6 rfl).1 qg) ?_
 rintro _ w40 ⟨Oz,aJy,N6,aGR,Lv,rfl,M,K⟩ _
 replace N:=N.merge aiP apu M
 replace H:=H.merge K M
 obtain rfl:=H.xe (α:=yLL) 0 rfl 0 rfl qj
 refine ⟨H.pick (zR 1 6)<|zR 1 8,(tF 6 rfl rfl (H.pick (zR 1 6)<|zR 1 8) ?_)⟩
 refine ro 5 rfl ?_
 have axi:=H.base.size
 have avK:=H.ltN (L:=[Lv,cF,rF6]) [0,1,2]
 refine oc (copyPuts_ok _ d.xP (H.get 8 rfl).1 qg) ?_
 rintro _ S8 ⟨RA,aFq,Em,aGJ,Zw,rfl,M,K⟩ _
 replace N:=N.merge axi avK M
 replace H:=H.merge K M
 obtain rfl:=H.xe (α:=yLL) 0 rfl 0 rfl qj
 refine ⟨H.pick (zR 2 6)<|zR 2 8,(xy qh<|xM<|sw<|xO H 7 [yI d.qN,Sv oX d.qG.length Rz,Sv Qt d.qE.length P3,Bv d.qQ,Sv fh d.vz.length bW,Sv bA d.qJ.length pt,Sv Oz d.vJ.length N6,Sv ko d.xP.length kg] sizeOf45 fun w51 H=>oF rfl ?_)⟩
 refine sw<|xO H 7 [yI d.qN,Sv oX d.qG.length Rz,Sv Qt d.qE.length P3,Bv d.qQ,Sv fh d.vz.length bW,Sv bA d.qJ.length pt,Sv Oz d.vJ.length N6,Sv RA d.xP.length Em] sizeOf45 fun w52 H=>zjc<|sw<|zi [yI d.qN,Sv oX d.qG.length Rz,Sv Qt d.qE.length P3,Bv d.qQ,Sv fh d.vz.length bW,Sv bA d.qJ.length pt,Sv Oz d.vJ.length N6,Sv RA d.xP.length Em] isAgg47 sizeOf47 rfl (qK (H.cells 7 rfl) 0 8)<|sw<|zC H 6 [yI d.qN,Sv oX d.qG.length Rz,Sv Qt d.qE.length P3,Bv d.qQ,Sv fh d.vz.length bW,Sv bA d.qJ.length pt,Sv Oz d.vJ.length N6,Sv RA d.xP.length Em] sizeOf47 fun w53 H=>zjr ?_
 have H0:=H
 obtain ⟨pk,abq,avk,H⟩:=H.vK (α:=yLI) 5 rfl 3 rfl qj
 replace N:Fresh w.heap.size [pk,Zw,Lv,cF]:=Fresh.ice (N.pick [3,0,1,2]) H0 5 abq.1 abq.2<|H0.vg [0,1,2]
 clear H0
 obtain ⟨gH,N,am8,H⟩:=H.ve 4 rfl N<|H.vg<|zR 0 4
 obtain ⟨G59,N,aub,H⟩:=H.freezeB 3 rfl N<|H.vg<|zR 0 5
 have H0:=H
 obtain ⟨G61,aiv,aIk,H⟩:=H.vK (α:=yLI) 2 rfl 5 rfl qj
 replace N:Fresh w.heap.size [G61,G59,gH,pk,Zw,Lv]:=Fresh.ice (N.pick (5::zR 0 5)) H0 2 aiv.1 aiv.2<|H0.vg<|zR 0 5
 clear H0
 have H0:=H
 obtain ⟨G64,ag4,aGD,H⟩:=H.vK (α:=yLL) 1 rfl 5 rfl qj
 replace N:Fresh w.heap.size [G64,G61,G59,gH,pk,Zw]:=Fresh.ice (N.pick (5::zR 0 5)) H0 1 ag4.1 ag4.2<|H0.vg<|zR 0 5
 clear H0
 have H0:=H
 obtain ⟨G67,aiD,aJA,H⟩:=H.vK (α:=yLL) 0 rfl 5 rfl qj
 replace N:Fresh w.heap.size [G67,G64,G61,G59,gH,pk]:=Fresh.ice (N.pick (5::zR 0 5)) H0 0 aiD.1 aiD.2<|H0.vg<|zR 0 5
 clear H0
 refine retC H 6 rfl rfl isAgg47 sizeOf47 rfl ⟨_,rfl,(⟨oX,Rz,pk,Qt,P3,gH,fh,bW,G59,bA,pt,G61,Oz,N6,G64,RA,Em,G67,rfl,(N.pick [5,4,3,2,1,0]),H.pick [] [5,4,3,2,1,0]⟩),H.base⟩
theorem l08Copy_ok (w:World) (d:zn) {bd od:Nat} (hd:yG w bd od [yI d.qN,Sv sP d.qG.length ul,Sv kS d.qE.length kT,Bv d.qQ,Sv uC d.vz.length vn,Sv gz d.qJ.length gy,Sv pQ d.vJ.length pA,Sv ko d.xP.length kg]) (oK:zP w Mx sP ul d.qG) (iG:zP w BF kS kT d.qE) (ub:zP w YM uC vn d.vz) (ix:zP w Dm gz gy d.qJ) (vq:zP w U0 pQ pA d.vJ) (oE:zP w PB ko kg d.xP) (p0:SmD d):Calls Tryz.prog 103 #[pp bd od] w (Ret (fun v w' =>∃ (uK:yOA) (PA:Nat) (tP:Nat) (Oj:List Value) (sR:yLN) (nq:yOA) (Ca:Nat) (nC:Nat) (Cy:yOA) (Vy:Nat) (Cc:Nat) (mA:yOA) (Bm:Nat) (mv:Nat) (BB:List Value) (m7:yLN) (CZ:yOA) (YO:Nat) (Dc:Nat) (Wy:List Value) (C5:yLN) (vx:yOA) (Nz:Nat) (tp:Nat) (Lj:List Value) (ua:yLN),v=.agg #[yI d.qN,Sv uK PA tP,Sv nq Ca nC,Bv d.qQ,Sv Cy Vy Cc,Sv mA Bm mv,Sv CZ YO Dc,Sv vx Nz tp]/\Fresh w.heap.size [sR,m7,C5,ua]/\St w w' [rr uK PA tP 24 1 Oj,rr nq Ca nC 2 1<|d.qE.map<|Value.int .i64,rr Cy Vy Cc 4 1<|d.vz.map<|Value.bool,rr mA Bm mv 24 1 BB,rr CZ YO Dc 29 1 Wy,rr vx Nz tp 29 1 Lj] [qL true sR Oj d.qG,qL true m7 BB d.qJ,qL true C5 Wy d.vJ,qL true ua Lj d.xP]) w):=by
 refine en func103 ntmps103 ?_
 have H:=(((((((St.start w).arg oE).arg vq).arg ix).arg ub).arg iG).arg oK).argAt hd
 have S0:=qO oK
 have JP:=qO iG
 have acL:=qO ub
 have IW:=qO ix
 have ZL:=qO vq
 have Si:=qO oE
 clear hd oK iG ub ix vq oE
 have N:=Fresh.nil w.heap.size
 have p1:=p0.bags
 have p2:=p0.around
 have p3:=p0.got
 have p4:=p0.coming
 have p5:=p0.now
 have p6:=p0.last
 refine zcr<|sw<|xU H ti47 [yI 0,yN,yN,Bv false,yN,yN,yN,yN] fun b1 w2 H=>zjn<|xH<|c_lateC 2 (fun ρ Nw=>∃ (xI:Env) (ra3:yOA) (rc4:Nat) (a5:yOA) (c6:Nat) (a7:yOA) (c8:Nat) (Kz:yOA) (kp:Nat) (vp:yOA) (ES:Nat) (vc:yOA) (gC:Nat) (RP:List Value) (EF:List Value) (Kc:List Value) (RY:List Value) (SZ:yLN) (Jr:yLN) (Iq:yLN) (qS:yLN),ρ=upd (upd (upd (upd (upd (upd (upd (upd (upd xI 2<|pp b1 0) 6<|yI d.qN) 11<|Sv ra3 d.qG.length rc4) 16<|Sv a5 d.qE.length c6) 20<|Bv d.qQ) 26<|Sv a7 (0+d.vz.length) c8) 31<|Sv Kz d.qJ.length kp) 36<|Sv vp d.vJ.length ES) 41 (Sv vc d.xP.length gC)/\Fresh w.heap.size [SZ,Jr,Iq,qS]/\St w Nw [rr vc d.xP.length gC 29 1 RP,rr vp d.vJ.length ES 29 1 EF,rr Kz d.qJ.length kp 24 1 Kc,rr a7 (0+d.vz.length) c8 4 1 ((([]:List Bool)++d.vz).map<|Value.bool),rr a5 d.qE.length c6 2 1<|d.qE.map<|Value.int .i64,rr ra3 d.qG.length rc4 24 1 RY,.box b1 [yI 0,yN,yN,Bv false,yN,yN,yN,yN] 47] [qL true SZ RP d.xP,qL true Jr EF d.vJ,qL true Iq Kc d.qJ,qL true qS RY d.qG]) rfl H [0] [0,1,2,3,4,5,6] (fun H=>?_) ?_
 ·dsimp only [jR,yE]
  refine rtl 0 H ?_
  refine rtl 1 H ?_
  refine tF 2 rfl rfl H ?_
  refine tL 3 rfl rfl (fun _ h=>h.vW 0 rfl 0 rfl) H ?_
  refine rtl 4 H ?_
  refine rtl 5 H ?_
  refine tF 6 rfl rfl H ?_
  refine tL 7 rfl rfl (fun _ h=>h.vW 0 rfl 1 rfl) H ?_
  refine rtl 9 H ?_
  refine rtl 10 H ?_
  refine tF 11 rfl rfl H ?_
  refine tL 12 rfl rfl (fun _ h=>h.vW 0 rfl 2 rfl) H ?_
  refine rtl 14 H ?_
  refine rtl 15 H ?_
  refine tF 16 rfl rfl H ?_
  refine tL 17 rfl rfl (fun _ h=>h.vW 0 rfl 3 rfl) H ?_
  refine rtl 19 H ?_
  refine rtl 20 H ?_
  refine tF 21 rfl rfl H ?_
  refine tL 22 rfl rfl (fun _ h=>h.vW 0 rfl 4 rfl) H ?_
  refine rtl 24 H ?_
  refine rtl 25 H ?_
  refine tF 26 rfl rfl H ?_
  refine tL 27 rfl rfl (fun _ h=>h.vW 0 rfl 5 rfl) H ?_
  refine rtl 29 H ?_
  refine rtl 30 H ?_
  refine tF 31 rfl rfl H ?_
  refine tL 32 rfl rfl (fun _ h=>h.vW 0 rfl 6 rfl) H ?_
  refine rtl 34 H ?_
  refine rtl 35 H ?_
  refine tF 36 rfl rfl H ?_
  refine tL 37 rfl rfl (fun _ h=>h.vW 0 rfl 7 rfl) H ?_
  refine jw [8,18] qh qm<|jT rfl ?_<|jT rfl ?_ jy
  ·have ay2:=H.base.size
   refine oc (Qn _ d.qG (H.get 1 rfl).1 qg) ?_
   rintro _ Ky ⟨bK,awA,aqw,agG,wC,rfl,M,K⟩ _
   replace N:=N.merge ay2 qm M
   replace H:=H.merge K M
   obtain rfl:=H.xe (α:=yLI) 0 rfl 0 rfl qj
   refine ⟨H.pick [1]<|zR 1 7,(jw [13,18] qh qm<|jT rfl ?_<|jT rfl ?_ jy)⟩
   ·have Ro:=H.base.size
    have Tf:=H.ltN (L:=[wC]) [0]
    refine oc (X6 _ d.qE (H.get 3 rfl).1 qg) ?_
    rintro v36 w34 r36 x35
    replace H:=H.zI x35 r36
    obtain ⟨a37,c38,rfl,aH7,aF4⟩:=H.jW 0 rfl
    refine ⟨H.pick [2]<|zR 1 7,(ro 18 rfl<|jk H underlying28 ti4 fun oW TT H=>⟨H.pick [3]<|zR 1 7,(ro 23 rfl ?_)⟩)⟩
    replace H:=H.boxRowB 0 [] 0
    refine Xf H 0 rfl 4 rfl underlying28 ti4 rfl qj rfl rfl qp qf fun a43 c44 w45 aH4 iH H aFy=>?_
    obtain ⟨_,rfl⟩:=reps_bools (H.get 0 rfl).1
    replace H:=H.sub _ fun f hf=>List.mem_cons_of_mem _ hf
    rw [catB] at H
    refine ⟨H.pick [3]<|zR 1 7,(ro 28 rfl ?_)⟩
    have aun:=H.base.size
    have ayM:=H.ltN (L:=[wC]) [0]
    refine oc (Qn _ d.qJ (H.get 5 rfl).1 qg) ?_
    rintro _ w50 ⟨aw1,aJX,ayR,atu,Sk,rfl,M,K⟩ _
    replace N:=N.merge aun ayM M
    replace H:=H.merge K M
    obtain rfl:=H.xe (α:=yLI) 0 rfl 0 rfl qj
    refine ⟨H.pick [4]<|zR 2 7,(ro 33 rfl ?_)⟩
    have abt:=H.base.size
    have acO:=H.ltN (L:=[Sk,wC]) [0,1]
    refine oc (Xx _ d.vJ (H.get 7 rfl).1 qg) ?_
    rintro _ w56 ⟨Aa,axH,yq,aoI,acn,rfl,M,K⟩ _
    replace N:=N.merge abt acO M
    replace H:=H.merge K M
    obtain rfl:=H.xe (α:=yLL) 0 rfl 0 rfl qj
    refine ⟨H.pick [5]<|zR 3 7,(ro 38 rfl ?_)⟩
    have abu:=H.base.size
    have ZC:=H.ltN (L:=[acn,Sk,wC]) [0,1,2]
    refine oc (Xx _ d.xP (H.get 9 rfl).1 qg) ?_
    rintro _ w62 ⟨LG,ay1,NA,agw,aqr,rfl,M,K⟩ _
    replace N:=N.merge abu ZC M
    replace H:=H.merge K M
    obtain rfl:=H.xe (α:=yLL) 0 rfl 0 rfl qj
    refine ⟨H.pick [6]<|zR 4 7,(xy qh ((meet ⟨_,bK,aqw,a37,c38,a43,c44,aw1,ayR,Aa,yq,LG,NA,agw,aoI,atu,agG,aqr,acn,Sk,wC,uE9,N,H.pick (zR 0 7)<|zR 0 4⟩)))⟩
   refine jk H underlying28 ti4 fun b67 w68 H=>⟨H.pick [2]<|zR 1 7,(ro 13 rfl ?_)⟩
   have aye:=H.base.size
   have awd:=H.ltN (L:=[wC]) [0]
   refine oc (X6 _ d.qE (H.get 3 rfl).1 qg) ?_
   rintro v74 Rh r74 x73
   replace H:=H.zI x73 r74
   obtain ⟨a75,c76,rfl,awc,atp⟩:=H.jW 0 rfl
   refine ⟨H.pick [3]<|zR 1 7,(ro 23 rfl ?_)⟩
   replace H:=H.boxRowB 1 [] 0
   refine Xf H 1 rfl 4 rfl underlying28 ti4 rfl qj rfl rfl qp qf fun a79 c80 w81 aFF G83 H aEI=>?_
   obtain ⟨_,rfl⟩:=reps_bools (H.get 0 rfl).1
   replace H:=H.sub _ fun f hf=>List.mem_cons_of_mem _ hf
   rw [catB] at H
   refine ⟨H.pick [3]<|zR 1 7,(ro 28 rfl ?_)⟩
   have auq:=H.base.size
   have avz:=H.ltN (L:=[wC]) [0]
   refine oc (Qn _ d.qJ (H.get 5 rfl).1 qg) ?_
   rintro _ w86 ⟨qe,aI2,axA,awf,Dg,rfl,M,K⟩ _
   replace N:=N.merge auq avz M
   replace H:=H.merge K M
   obtain rfl:=H.xe (α:=yLI) 0 rfl 0 rfl qj
   refine ⟨H.pick [4]<|zR 2 7,(ro 33 rfl ?_)⟩
   have apK:=H.base.size
   have ai7:=H.ltN (L:=[Dg,wC]) [0,1]
   refine oc (Xx _ d.vJ (H.get 7 rfl).1 qg) ?_
   rintro _ w92 ⟨avh,aFD,awL,OD,aq2,rfl,M,K⟩ _
   replace N:=N.merge apK ai7 M
   replace H:=H.merge K M
   obtain rfl:=H.xe (α:=yLL) 0 rfl 0 rfl qj
   refine ⟨H.pick [5]<|zR 3 7,(ro 38 rfl ?_)⟩
   have apk:=H.base.size
   have ap6:=H.ltN (L:=[aq2,Dg,wC]) [0,1,2]
   refine oc (Xx _ d.xP (H.get 9 rfl).1 qg) ?_
   rintro _ w98 ⟨ayg,aHp,sk,ayE,aue,rfl,M,K⟩ _
   replace N:=N.merge apk ap6 M
   replace H:=H.merge K M
   obtain rfl:=H.xe (α:=yLL) 0 rfl 0 rfl qj
   refine ⟨H.pick [6]<|zR 4 7,(xy qh ((meet ⟨_,bK,aqw,a75,c76,a79,c80,qe,axA,avh,awL,ayg,sk,ayE,OD,awf,agG,aue,aq2,Dg,wC,uE9,N,H.pick [0,1,2,4,3,5,6]<|zR 0 4⟩)))⟩
  refine jk H underlying28 ti4 fun PR Lc H=>⟨H.pick [1]<|zR 0 7,(ro 8 rfl ?_)⟩
  have aqh:=H.base.size
  refine oc (Qn _ d.qG (H.get 1 rfl).1 qg) ?_
  rintro _ Ln ⟨yd,aqz,amn,aqv,Bz,rfl,M,K⟩ _
  replace N:=N.merge aqh qm M
  replace H:=H.merge K M
  obtain rfl:=H.xe (α:=yLI) 0 rfl 0 rfl qj
  refine ⟨H.pick [2]<|zR 1 7,(ro 13 rfl ?_)⟩
  have aAU:=H.base.size
  have azs:=H.ltN (L:=[Bz]) [0]
  refine oc (X6 _ d.qE (H.get 3 rfl).1 qg) ?_
  rintro aI8 Pv avI axU
  replace H:=H.zI axU avI
  obtain ⟨ayx,aww,rfl,azu,az7⟩:=H.jW 0 rfl
  refine ⟨H.pick [3]<|zR 1 7,(ro 23 rfl ?_)⟩
  replace H:=H.boxRowB 2 [] 0
  refine Xf H 2 rfl 4 rfl underlying28 ti4 rfl qj rfl rfl qp qf fun axk aum Lu azv aGp H aBN=>?_
  obtain ⟨_,rfl⟩:=reps_bools (H.get 0 rfl).1
  replace H:=H.sub _ fun f hf=>List.mem_cons_of_mem _ hf
  rw [catB] at H
  refine ⟨H.pick [3]<|zR 1 7,(ro 28 rfl ?_)⟩
  have aqK:=H.base.size
  have afY:=H.ltN (L:=[Bz]) [0]
  refine oc (Qn _ d.qJ (H.get 5 rfl).1 qg) ?_
  rintro _ abw ⟨amq,aAd,ai1,air,Nm,rfl,M,K⟩ _
  replace N:=N.merge aqK afY M
  replace H:=H.merge K M
  obtain rfl:=H.xe (α:=yLI) 0 rfl 0 rfl qj
  refine ⟨H.pick [4]<|zR 2 7,(ro 33 rfl ?_)⟩
  have aqt:=H.base.size
  have aoK:=H.ltN (L:=[Nm,Bz]) [0,1]
  refine oc (Xx _ d.vJ (H.get 7 rfl).1 qg) ?_
  rintro _ SK ⟨afo,aAK,am6,alp,VK,rfl,M,K⟩ _
  replace N:=N.merge aqt aoK M
  replace H:=H.merge K M
  obtain rfl:=H.xe (α:=yLL) 0 rfl 0 rfl qj
  refine ⟨H.pick [5]<|zR 3 7,(ro 38 rfl ?_)⟩
  have PD:=H.base.size
  have K7:=H.ltN (L:=[VK,Nm,Bz]) [0,1,2]
  refine oc (Xx _ d.xP (H.get 9 rfl).1 qg) ?_
  rintro _ agz ⟨NR,Wd,Pp,Pf,Ok,rfl,M,K⟩ _
  replace N:=N.merge PD K7 M
  replace H:=H.merge K M
  obtain rfl:=H.xe (α:=yLL) 0 rfl 0 rfl qj
  refine ⟨H.pick [6]<|zR 4 7,(xy qh ((meet ⟨_,yd,amn,ayx,aww,axk,aum,amq,ai1,afo,am6,NR,Pp,Pf,alp,air,aqv,Ok,VK,Nm,Bz,uE9,N,H.pick [0,1,2,5,3,4,6]<|zR 0 4⟩)))⟩
 clear H N
 rintro ρ OF ⟨xI,ra3,rc4,a5,c6,a7,c8,Kz,kp,vp,ES,vc,gC,RP,EF,Kc,RY,SZ,Jr,Iq,qS,rfl,N,H⟩
 refine sw<|jb [yI d.qN,Sv ra3 d.qG.length rc4,Sv a5 d.qE.length c6,Bv d.qQ,Sv a7 (0+d.vz.length) c8,Sv Kz d.qJ.length kp,Sv vp d.vJ.length ES,Sv vc d.xP.length gC] [(0,yI d.qN),(1,Sv ra3 d.qG.length rc4),(2,Sv a5 d.qE.length c6),(3,Bv d.qQ),(4,Sv a7 (0+d.vz.length) c8),(5,Sv Kz d.qJ.length kp),(6,Sv vp d.vJ.length ES),(7,Sv vc d.xP.length gC)]<|sw<|zC H 6 [yI d.qN,Sv ra3 d.qG.length rc4,Sv a5 d.qE.length c6,Bv d.qQ,Sv a7 (0+d.vz.length) c8,Sv Kz d.qJ.length kp,Sv vp d.vJ.length ES,Sv vc d.xP.length gC] sizeOf47 fun NP H=>zjr<|retC H 6 rfl rfl isAgg47 sizeOf47 rfl ⟨_,rfl,(⟨ra3,d.qG.length,rc4,RY,qS,a5,d.qE.length,c6,a7,0+d.vz.length,c8,Kz,d.qJ.length,kp,Kc,Iq,vp,d.vJ.length,ES,EF,Jr,vc,d.xP.length,gC,RP,SZ,rfl,(N.pick [3,2,1,0]),H.pick [5,4,3,2,1,0] [3,2,1,0]⟩),H.base⟩
theorem added_ok (w:World) (ch:yLL) (dt:yLL) {dC:yOA} {dD:Nat} {ed:yLN} (fR:zP w BN iR iq ch) (l7:zP w ed dC dD dt) (p0:ch.length<=dt.length/\ch.length<=1000000) (p1:∀ k,k < ch.length->(ch[k]!).length<=(dt[k]!).length/\Mid (ch[k]!)/\XV (dt[k]!) 1):Calls Tryz.prog 145 #[Sv iR ch.length iq,Sv dC dt.length dD] w (Ret (fun v w' =>∃ (ra:yOA) (rn:Nat) (rc:Nat) (rx:List Value) (rF:yLN),v=Sv ra rn rc/\Fresh w.heap.size [rF]/\St w w' [rr ra rn rc 24 1 rx] [qL true rF rx<|Qr ch dt]) w):=by
 refine en func145 ntmps145 ?_
 have H:=((St.start w).arg l7).arg fR
 have zb:=qO fR
 have abB:=qO l7
 clear fR l7
 have N:=Fresh.nil w.heap.size
 have p2:=p0.1
 have p3:=p0.2
 refine zcr<|sq 1<|zjc<|sw<|jk H underlying29 ti24 fun b1 w2 H=>sq 1<|zjcc<|sq 1<|oN rfl<|sp (yI 0)<|zjn<|xg ?_
 replace H:=H.boxRow 0 rfl 1 0 rfl qj
 replace H:=H.jZ (α:=yLI)
 refine zU ((fun Z0 Z1=>fun m' ρ w3=>∃ (xI:Env) (yY:yOA) (yV:Nat) (yX:Nat) (out:yLL) (Qv:List Value) (Ql:yLN) (i:Nat),ρ=upd (upd (upd (upd (upd xI 1<|Sv dC dt.length dD) 5<|Sv yY yV yX) 9<|Sv iR ch.length iq) 10<|yI ch.length) 11 (yI i)/\out=Xa ch dt i/\((i:Int)<=ch.length)/\m' =(ch.length - (i:Int)).toNat/\Fresh w.heap.size [Ql]/\St w w3 [rr yY yV yX 24 1 Qv] [qL true Ql Qv out,Z0,Z1]) _ _) ((ch.length - (0:Int)).toNat) ⟨_,(aa b1 0),0,0,([]:yLL),[],[],0,uE5,(by rfl),qf,rfl,N.emp,H⟩ ?_
 clear H N
 rintro m' ρ w4 ⟨xI,yY,yV,yX,out,Qv,Ql,i,rfl,rfl,i0,rfl,N,H⟩
 have Vq:=H.xe (α:=yLI) 0 rfl 0 rfl qj
 have q4:=Vs ch dt i
 refine zcr<|sq 1<|zjn<|xH<|cD rfl (fun h5=>?_)<|fun h5=>?_
 ·refine xk (t_n<|xH<|xg<|zcr<|sp (yI i) ?_)
  obtain ⟨b6,o7,rfl⟩:=H.addr 1 rfl qf
  obtain ⟨ae9,ce9,Fe9,H⟩:=H.yD 1 rfl i i qf qf qf
  refine oI rfl rfl<|oL rfl (H.vW 1 rfl 0 rfl)<|sp (yI i)<|sq 1<|zjn<|xZ<|sq 3<|sp (yI i) ?_
  obtain ⟨yv,o11,rfl⟩:=H.addr 4 rfl qf
  obtain ⟨aJw,aIm,aFZ,H⟩:=H.yD 4 rfl i i qf qf qf
  refine oI rfl rfl<|oL rfl (H.vW 1 rfl 0 rfl) ?_
  obtain ⟨q1,q2,q3⟩:=p1 i qf
  have aEX:=H.base.size
  have aIn:=H.ltN (L:=[Ql]) [4]
  refine sw<|oc (plus_ok _ (ch[i]!) (dt[i]!) 1 (H.get 2 rfl).1 (H.get 0 rfl).1 qg qg qg) ?_
  rintro v19 Tr r19 x18
  replace H:=H.zI x18 r19
  obtain ⟨a20,c21,rfl,aGH,aHX⟩:=H.jW 0 rfl
  refine sw<|zx H underlying29 ti24 [Sv a20 ((vS (ch[i]!) (dt[i]!) 1).length) c21] fun TH Ea H=>?_
  obtain ⟨G29,N,aEm,H⟩:=H.ve 1 rfl N<|H.vg [4]
  refine sw<|zJ H 2 rfl 0 rfl underlying29 ti24 rfl qj rfl rfl rfl qw qp qf fun a26 c27 P6 H=>?_
  replace H:=H.QR 5 rfl 0 rfl
  replace N:Fresh w.heap.size [(Ql++G29)]:=(N.pick [1,0]).join
  refine sq 1<|xW<|b_n<|t_n<|xZ<|sw<|zV i 1 rfl rfl qf<|sq 1<|xW<|xq (m' :=(ch.length - ((i+1):Int)).toNat) qf ⟨_,_,_,_,_,_,_,i+1,uE5,?_,?_,rfl,N,H.pick [2] [0,7,8]⟩
  ·exact addTabTo_snoc _ _ _
  ·omega
 refine zx4<|zcr<|sq 2<|zjr<|rH1 (Sv yY yV yX) H ?_
 obtain rfl:i=ch.length:=by omega
 exact ⟨yY,yV,yX,Qv,Ql,rfl,N,H.pick [0] [0]⟩
theorem l21Bags_ok (w:World) (a:yLL) (b:yLL) {aa:yOA} (ha:zP w Fa aa ca a) (hb:zP w Fb ab cb b):Calls Tryz.prog 31 #[Sv aa a.length ca,Sv ab b.length cb] w (Ret (fun v w' =>v=Bv (decide<|a=b)) w):=by
 refine en func31 ntmps31 ?_
 have H:=((St.start w).arg hb).arg ha
 have nha:=qO ha
 have nhb:=qO hb
 clear ha hb
 have N:=Fresh.nil w.heap.size
 refine zcr<|sp (Bv false)<|zjcc<|sq 1<|oN rfl<|sq 1<|oN rfl<|sq 1<|zjn<|vk _ rfl (fun h1=>?_)<|fun h1=>?_
 ·replace h1:=bne_iff_ne.1 h1
  refine zcr<|sp (Bv false)<|zjr<|t_r<|rH1 (Bv false) H ?_
  first | rw [decide_eq_false (fun e=>by subst e;omega)] | rw [decide_eq_false<|X5 (k:=i) ‹_›] | rw [decide_eq_true<|Vr (k:=i) qf qf ‹_›]
 replace h1:=xR h1
 refine xk<|t_n<|zcc<|sp (yI 0)<|zjn<|xg<|zU ((fun Z0 Z1=>fun m' ρ w2=>∃ (xI:Env) (i:Nat),ρ=upd (upd (upd xI 0<|Sv aa a.length ca) 1<|Sv ab b.length cb) 5 (yI i)/\((i:Int)<=a.length)/\(a.take i=b.take i)/\m' =(a.length - (i:Int)).toNat/\Fresh w.heap.size []/\St w w2 [] [Z0,Z1]) _ _) ((a.length - (0:Int)).toNat) ⟨_,0,uE3,qf,(by rfl),rfl,N,H⟩ ?_
 clear H N
 rintro m' ρ w3 ⟨xI,i,rfl,i0,i1,rfl,N,H⟩
 refine zcc<|sp (yI i)<|sq 1<|oN rfl<|sq 1<|zjn<|cD rfl (fun h4=>?_)<|fun h4=>?_
 ·refine xk (t_n<|xH<|xg<|xH ?_)
  obtain ⟨b5,o6,rfl⟩:=H.addr 0 rfl qf
  obtain ⟨b8,o9,rfl⟩:=H.addr 1 rfl qf
  refine c_cut (fun ρ Tr=>∃ (xI:Env) (F11:yLN) (Zo:yOA) (c13:Nat) (F14:yLN) (Q2:yOA) (W1:Nat),ρ=upd (upd (upd (upd xI 0<|Sv (aa b5 o6) a.length ca) 1<|Sv (aa b8 o9) b.length cb) 5<|yI i) 26 (Bv (!(decide ((a[i]!)=(b[i]!)))))/\Fresh w.heap.size []/\St w Tr [] [sF false F11 Zo c13<|b[i]!,atF b8 (o9+(i:Int).toNat * 1) [Sv Zo ((b[i]!).length) c13],sF false F14 Q2 W1<|a[i]!,atF b5 (o6+(i:Int).toNat * 1) [Sv Q2 ((a[i]!).length) W1],sF false Fa (aa b5 o6) ca a,sF false Fb (aa b8 o9) cb b]) ?_ ?_
  ·refine Xj rfl H fun H=>rtl 0 H ?_
   refine rtp 1 (yI i) H ?_
   obtain ⟨Az,Ac,N9,H⟩:=H.yD 0 rfl i i qf qf qf
   have S:=H.zK [] [2,3]
   refine tI 2 rfl rfl rfl S ?_
   refine rtl 4 S ?_
   refine rtp 5 (yI i) S ?_
   obtain ⟨zd,zw,Pw,H⟩:=H.yD 3 rfl i i qf qf qf
   refine tI 6 rfl rfl rfl (H.pick [] [4,5])<|jw [3,7] qh qm<|jT rfl ?_<|jT rfl ?_ jy
   ·refine zB (Sv Az ((a[i]!).length) Ac) isAgg24 rfl (H.vW 3 rfl 0 rfl) (⟨H.pick [] [4,5],(ro 7 rfl<|zB (Sv zd ((b[i]!).length) zw) isAgg24 rfl (H.vW 1 rfl 0 rfl)<|⟨H.pick [] [4,5],(ro 8 rfl<|oq (l00Same_ok _ (a[i]!) (b[i]!) (H.get 2 rfl).1 (H.get 0 rfl).1) H fun Ot H=>⟨H.pick [] [4,5],(rtl 9 (H.pick [] [4,5]) ?_)⟩)⟩)⟩)
    refine xy qh ((meet ⟨_,Pw,zd,zw,N9,Az,Ac,uE4,N,H⟩))
   refine zB (Sv zd ((b[i]!).length) zw) isAgg24 rfl (H.vW 1 rfl 0 rfl)<|⟨H.pick [] [4,5],(ro 3 rfl<|zB (Sv Az ((a[i]!).length) Ac) isAgg24 rfl (H.vW 3 rfl 0 rfl)<|⟨H.pick [] [4,5],(ro 8 rfl<|oq (l00Same_ok _ (a[i]!) (b[i]!) (H.get 2 rfl).1 (H.get 0 rfl).1) H fun Ea H=>⟨H.pick [] [4,5],(rtl 9 (H.pick [] [4,5]) ?_)⟩)⟩)⟩
   refine xy qh ((meet ⟨_,Pw,zd,zw,N9,Az,Ac,uE4,N,H⟩))
  clear H N
  rintro ρ SD ⟨xI,F11,Zo,c13,F14,Q2,W1,rfl,N,H⟩
  refine t_n<|vk _ rfl (fun oZ=>?_)<|fun oZ=>?_
  ·replace oZ:=xN oZ
   replace oZ:=of_decide_eq_false oZ
   refine zcr<|sp (Bv false)<|zjr<|zr5<|rH1 (Bv false) H ?_
   first | rw [decide_eq_false (fun e=>by subst e;omega)] | rw [decide_eq_false<|X5 (k:=i) ‹_›] | rw [decide_eq_true<|Vr (k:=i) qf qf ‹_›]
  replace oZ:=xJ oZ
  replace oZ:=of_decide_eq_true oZ
  refine xk<|b_n<|t_n<|xZ<|sp (yI i)<|sw<|zV i 1 rfl rfl qf<|sq 1<|xW<|xq (m' :=(a.length - ((i+1):Int)).toNat) qf ⟨_,i+1,uE3,?_,?_,rfl,N,H.pick [] [4,5]⟩
  ·omega
  ·exact eqTo_succ qf qf ‹_› qg
 refine zx4<|zcr<|sp (Bv true)<|zjr<|rH1 (Bv true) H ?_
 first | rw [decide_eq_false (fun e=>by subst e;omega)] | rw [decide_eq_false<|X5 (k:=i) ‹_›] | rw [decide_eq_true<|Vr (k:=i) qf qf ‹_›]
theorem l21Lists_ok (w:World) (a:List yLL) (b:List yLL) {aa:yOA} (ha:zP w Fa aa ca a) (hb:zP w Fb ab cb b):Calls Tryz.prog 32 #[Sv aa a.length ca,Sv ab b.length cb] w (Ret (fun v w' =>v=Bv (decide<|a=b)) w):=by
 refine en func32 ntmps32 ?_
 have H:=((St.start w).arg hb).arg ha
 have nha:=qO ha
 have nhb:=qO hb
 clear ha hb
 have N:=Fresh.nil w.heap.size
 refine zcr<|sp (Bv false)<|zjcc<|sq 1<|oN rfl<|sq 1<|oN rfl<|sq 1<|zjn<|vk _ rfl (fun h1=>?_)<|fun h1=>?_
 ·replace h1:=bne_iff_ne.1 h1
  refine zcr<|sp (Bv false)<|zjr<|t_r<|rH1 (Bv false) H ?_
  first | rw [decide_eq_false (fun e=>by subst e;omega)] | rw [decide_eq_false<|X5 (k:=i) ‹_›] | rw [decide_eq_true<|Vr (k:=i) qf qf ‹_›]
 replace h1:=xR h1
 refine xk<|t_n<|zcc<|sp (yI 0)<|zjn<|xg<|zU ((fun Z0 Z1=>fun m' ρ w2=>∃ (xI:Env) (i:Nat),ρ=upd (upd (upd xI 0<|Sv aa a.length ca) 1<|Sv ab b.length cb) 5 (yI i)/\((i:Int)<=a.length)/\(a.take i=b.take i)/\m' =(a.length - (i:Int)).toNat/\Fresh w.heap.size []/\St w w2 [] [Z0,Z1]) _ _) ((a.length - (0:Int)).toNat) ⟨_,0,uE3,qf,(by rfl),rfl,N,H⟩ ?_
 clear H N
 rintro m' ρ w3 ⟨xI,i,rfl,i0,i1,rfl,N,H⟩
 refine zcc<|sp (yI i)<|sq 1<|oN rfl<|sq 1<|zjn<|cD rfl (fun h4=>?_)<|fun h4=>?_
 ·refine xk (t_n<|xH<|xg<|xH ?_)
  obtain ⟨b5,o6,rfl⟩:=H.addr 0 rfl qf
  obtain ⟨b8,o9,rfl⟩:=H.addr 1 rfl qf
  refine c_cut (fun ρ Tr=>∃ (xI:Env) (F11:yLN) (Zo:yOA) (c13:Nat) (F14:yLN) (Q2:yOA) (W1:Nat),ρ=upd (upd (upd (upd xI 0<|Sv (aa b5 o6) a.length ca) 1<|Sv (aa b8 o9) b.length cb) 5<|yI i) 26 (Bv (!(decide ((a[i]!)=(b[i]!)))))/\Fresh w.heap.size []/\St w Tr [] [sF false F11 Zo c13<|b[i]!,atF b8 (o9+(i:Int).toNat * 1) [Sv Zo ((b[i]!).length) c13],sF false F14 Q2 W1<|a[i]!,atF b5 (o6+(i:Int).toNat * 1) [Sv Q2 ((a[i]!).length) W1],sF false Fa (aa b5 o6) ca a,sF false Fb (aa b8 o9) cb b]) ?_ ?_
  ·refine Xj rfl H fun H=>rtl 0 H ?_
   refine rtp 1 (yI i) H ?_
   obtain ⟨Az,Ac,N9,H⟩:=H.yD 0 rfl i i qf qf qf
   have S:=H.zK [] [2,3]
   refine tI 2 rfl rfl rfl S ?_
   refine rtl 4 S ?_
   refine rtp 5 (yI i) S ?_
   obtain ⟨zd,zw,Pw,H⟩:=H.yD 3 rfl i i qf qf qf
   refine tI 6 rfl rfl rfl (H.pick [] [4,5])<|jw [3,7] qh qm<|jT rfl ?_<|jT rfl ?_ jy
   ·refine zB (Sv Az ((a[i]!).length) Ac) isAgg29 rfl (H.vW 3 rfl 0 rfl) (⟨H.pick [] [4,5],(ro 7 rfl<|zB (Sv zd ((b[i]!).length) zw) isAgg29 rfl (H.vW 1 rfl 0 rfl)<|⟨H.pick [] [4,5],(ro 8 rfl<|oq (l21Bags_ok _ (a[i]!) (b[i]!) (H.get 2 rfl).1 (H.get 0 rfl).1) H fun Ot H=>⟨H.pick [] [4,5],(rtl 9 (H.pick [] [4,5]) ?_)⟩)⟩)⟩)
    refine xy qh ((meet ⟨_,Pw,zd,zw,N9,Az,Ac,uE4,N,H⟩))
   refine zB (Sv zd ((b[i]!).length) zw) isAgg29 rfl (H.vW 1 rfl 0 rfl)<|⟨H.pick [] [4,5],(ro 3 rfl<|zB (Sv Az ((a[i]!).length) Ac) isAgg29 rfl (H.vW 3 rfl 0 rfl)<|⟨H.pick [] [4,5],(ro 8 rfl<|oq (l21Bags_ok _ (a[i]!) (b[i]!) (H.get 2 rfl).1 (H.get 0 rfl).1) H fun Ea H=>⟨H.pick [] [4,5],(rtl 9 (H.pick [] [4,5]) ?_)⟩)⟩)⟩
   refine xy qh ((meet ⟨_,Pw,zd,zw,N9,Az,Ac,uE4,N,H⟩))
  clear H N
  rintro ρ SD ⟨xI,F11,Zo,c13,F14,Q2,W1,rfl,N,H⟩
  refine t_n<|vk _ rfl (fun oZ=>?_)<|fun oZ=>?_
  ·replace oZ:=xN oZ
   replace oZ:=of_decide_eq_false oZ
   refine zcr<|sp (Bv false)<|zjr<|zr5<|rH1 (Bv false) H ?_
   first | rw [decide_eq_false (fun e=>by subst e;omega)] | rw [decide_eq_false<|X5 (k:=i) ‹_›] | rw [decide_eq_true<|Vr (k:=i) qf qf ‹_›]
  replace oZ:=xJ oZ
  replace oZ:=of_decide_eq_true oZ
  refine xk<|b_n<|t_n<|xZ<|sp (yI i)<|sw<|zV i 1 rfl rfl qf<|sq 1<|xW<|xq (m' :=(a.length - ((i+1):Int)).toNat) qf ⟨_,i+1,uE3,?_,?_,rfl,N,H.pick [] [4,5]⟩
  ·omega
  ·exact eqTo_succ qf qf ‹_› qg
 refine zx4<|zcr<|sp (Bv true)<|zjr<|rH1 (Bv true) H ?_
 first | rw [decide_eq_false (fun e=>by subst e;omega)] | rw [decide_eq_false<|X5 (k:=i) ‹_›] | rw [decide_eq_true<|Vr (k:=i) qf qf ‹_›]
theorem sameDesk_ok (w:World) (a:zn) (b:zn) {EB:yOA} {E0:Nat} {ach:yLN} {wg:yOA} {s7:Nat} {LX:yLN} {OA:yOA} {Le:Nat} {aof:yLN} {tv:yOA} {uj:Nat} {PH:yLN} {PN:yOA} {K3:Nat} {akz:yLN} {EM:yOA} {EJ:Nat} {aau:yLN} {DV:yOA} {EW:Nat} {abH:yLN} {tz:yOA} {uo:Nat} {Nv:yLN} {NX:yOA} {Mb:Nat} {aiy:yLN} {wj:yOA} {vv:Nat} {N7:yLN} {K2:yOA} {LZ:Nat} {amP:yLN} {DW:yOA} {E3:Nat} {aaa:yLN} (EX:zP w ach EB E0 a.qG) (uP:zP w LX wg s7 a.qE) (Mq:zP w aof OA Le a.vz) (un:zP w PH tv uj a.qJ) (Ll:zP w akz PN K3 a.vJ) (Ff:zP w aau EM EJ a.xP) (EP:zP w abH DV EW b.qG) (uQ:zP w Nv tz uo b.qE) (LE:zP w aiy NX Mb b.vz) (ti:zP w N7 wj vv b.qJ) (NZ:zP w amP K2 LZ b.vJ) (En:zP w aaa DW E3 b.xP):Calls Tryz.prog 12 #[.agg #[yI a.qN,Sv EB a.qG.length E0,Sv wg a.qE.length s7,Bv a.qQ,Sv OA a.vz.length Le,Sv tv a.qJ.length uj,Sv PN a.vJ.length K3,Sv EM a.xP.length EJ],.agg #[yI b.qN,Sv DV b.qG.length EW,Sv tz b.qE.length uo,Bv b.qQ,Sv NX b.vz.length Mb,Sv wj b.qJ.length vv,Sv K2 b.vJ.length LZ,Sv DW b.xP.length E3]] w (Ret (fun v w' =>v=Bv (decide<|a=b)) w):=by
 refine en func12 ntmps12 ?_
 have H:=((((((((((((St.start w).arg En).arg NZ).arg ti).arg LE).arg uQ).arg EP).arg Ff).arg Ll).arg un).arg Mq).arg uP).arg EX
 have arA:=qO EX
 have adG:=qO uP
 have auE:=qO Mq
 have adb:=qO un
 have ate:=qO Ll
 have aru:=qO Ff
 have arN:=qO EP
 have adh:=qO uQ
 have av1:=qO LE
 have adn:=qO ti
 have ax8:=qO NZ
 have ars:=qO En
 clear EX uP Mq un Ll Ff EP uQ LE ti NZ En
 have N:=Fresh.nil w.heap.size
 refine zcr<|sw<|jq H [yI a.qN,Sv EB a.qG.length E0,Sv wg a.qE.length s7,Bv a.qQ,Sv OA a.vz.length Le,Sv tv a.qJ.length uj,Sv PN a.vJ.length K3,Sv EM a.xP.length EJ] fun b1 w2 H=>sw<|jq H [yI b.qN,Sv DV b.qG.length EW,Sv tz b.qE.length uo,Bv b.qQ,Sv NX b.vz.length Mb,Sv wj b.qJ.length vv,Sv K2 b.vJ.length LZ,Sv DW b.xP.length E3] fun b3 w4 H=>sp (Bv false)<|zjcc<|oF rfl<|oL rfl (H.cell 1 rfl rfl)<|oF rfl<|oL rfl (H.cell 0 rfl rfl)<|sp (Bv ((a.qN:Int) != b.qN))<|sp (Bv ((a.qN:Int) != b.qN)) ?_
 cases h5:((a.qN:Int) != b.qN)
 ·replace h5:=xR h5
  refine qV 11 rfl rfl<|oF rfl<|qV 11 rfl rfl<|oL rfl (H.cell 1 rfl rfl)<|qV 11 rfl rfl<|oF rfl<|qV 11 rfl rfl<|oL rfl (H.cell 0 rfl rfl)<|qV 11 rfl rfl<|sw<|o_neB underlying4 a.qQ b.qQ rfl rfl<|sp (Bv<|a.qQ != b.qQ)<|sp (Bv<|a.qQ != b.qQ) ?_
  cases h6:(a.qQ != b.qQ)
  ·replace h6:=xR h6
   refine qV 18 rfl rfl<|oF rfl<|qV 18 rfl rfl<|oL rfl (H.cell 1 rfl rfl)<|qV 18 rfl rfl<|oN rfl<|qV 18 rfl rfl<|oF rfl<|qV 18 rfl rfl<|oL rfl (H.cell 0 rfl rfl)<|qV 18 rfl rfl<|oN rfl<|qV 18 rfl rfl<|sp (Bv ((a.vz.length:Int) != b.vz.length))<|sp (Bv ((a.vz.length:Int) != b.vz.length))<|sp (Bv ((a.vz.length:Int) != b.vz.length)) ?_
   cases h7:((a.vz.length:Int) != b.vz.length)
   ·replace h7:=xR h7
    refine qV 27 rfl rfl<|oF rfl<|qV 27 rfl rfl<|oL rfl (H.cell 1 rfl rfl)<|qV 27 rfl rfl<|oF rfl<|qV 27 rfl rfl<|oL rfl (H.cell 0 rfl rfl)<|qV 27 rfl rfl<|sw<|oq (l00Same_ok _ a.qE b.qE (H.get 1 rfl).1 (H.get 7 rfl).1) H fun w9 H=>qV 27 rfl rfl<|sq 2<|zjn<|vk _ rfl (fun dZ=>?_)<|fun dZ=>?_
    ·replace dZ:=xN dZ
     replace dZ:=of_decide_eq_false dZ
     refine zcr<|sp (Bv false)<|zjr<|t_r<|rH1 (Bv false) H ?_
     rw [decide_eq_false (fun e=>by subst e;first | omega | contradiction | exact absurd rfl ‹_› | simp_all)]
    replace dZ:=xJ dZ
    replace dZ:=of_decide_eq_true dZ
    refine xk<|t_n<|zcc<|sp (yI 0)<|zjn<|xg<|zU ((fun Z0 Z1 Z2 Z3 Z4 Z5 Z6 Z7 Z8 Z9 fH fZ iw kH=>fun m' ρ KA=>∃ (xI:Env) (i:Nat),ρ=upd (upd (upd xI 2<|pp b1 0) 3<|pp b3 0) 5 (yI i)/\((i:Int)<=a.vz.length)/\(a.vz.take i=b.vz.take i)/\m' =(a.vz.length - (i:Int)).toNat/\Fresh w.heap.size []/\St w KA [Z0,Z1] [Z2,Z3,Z4,Z5,Z6,Z7,Z8,Z9,fH,fZ,iw,kH]) _ _ _ _ _ _ _ _ _ _ _ _ _ _) ((a.vz.length - (0:Int)).toNat) ⟨_,0,uE3,qf,(by rfl),rfl,N,H⟩ ?_
    clear H N
    rintro m' ρ II ⟨xI,i,rfl,i0,i1,rfl,N,H⟩
    refine zcc<|sp (yI i)<|oF rfl<|oL rfl (H.cell 1 rfl rfl)<|oN rfl<|sq 1<|zjn<|cD rfl (fun lR=>?_)<|fun lR=>?_
    ·refine xk (t_n<|xH<|xg<|xH<|Xj rfl H fun H=>tF 0 rfl rfl H ?_)
     refine tL 1 rfl rfl (fun _ h=>h.cell 1 rfl rfl) H ?_
     refine rtp 2 (yI i) H ?_
     obtain ⟨YQ,o17,rfl⟩:=H.addr 2 rfl qf
     refine tI 3 rfl rfl rfl H ?_
     refine tL 4 rfl rfl (fun _ h=>h.elemBoolN 2 rfl i qf) H ?_
     refine tF 5 rfl rfl H ?_
     refine tL 6 rfl rfl (fun _ h=>h.cell 0 rfl rfl) H ?_
     refine rtp 7 (yI i) H ?_
     obtain ⟨Rc,o20,rfl⟩:=H.addr 8 rfl qf
     refine tI 8 rfl rfl rfl H ?_
     refine tL 9 rfl rfl (fun _ h=>h.elemBoolN 8 rfl i qf) H ?_
     refine rt 10 _ (y_neB underlying4 (a.vz[i]!) (b.vz[i]!) rfl rfl) H ?_
     refine xy qh<|t_n<|vk _ rfl (fun Bi=>?_)<|fun Bi=>?_
     ·replace Bi:=bne_iff_ne.1 Bi
      refine zcr<|sp (Bv false)<|zjr<|zr5<|rH1 (Bv false) H ?_
      rw [decide_eq_false (fun e=>by subst e;first | omega | contradiction | exact absurd rfl ‹_› | simp_all)]
     replace Bi:=xR Bi
     refine xk<|b_n<|t_n<|xZ<|sp (yI i)<|sw<|zV i 1 rfl rfl qf<|sq 1<|xW<|xq (m' :=(a.vz.length - ((i+1):Int)).toNat) qf ⟨_,i+1,uE3,?_,?_,rfl,N,H⟩
     ·omega
     ·exact eqTo_succ qf qf ‹_› qg
    refine zx4<|zcr<|oF rfl<|oL rfl (H.cell 1 rfl rfl)<|oF rfl<|oL rfl (H.cell 0 rfl rfl)<|sw<|oq (l21Bags_ok _ a.qG b.qG (H.get 0 rfl).1 (H.get 6 rfl).1) H fun JE H=>sp (Bv<|decide<|a.qG=b.qG) ?_
    cases Qf:(decide (a.qG=b.qG))
    ·replace Qf:=of_decide_eq_false Qf
     refine zM (zR 59 5)<|sp (Bv false)<|sp (Bv false)<|zM (zR 66 5)<|sp (Bv false)<|sp (Bv false)<|zM (zR 73 5)<|sp (Bv false)<|sp (Bv false)<|zjr<|rH1 (Bv false) H ?_
     rw [decide_eq_false (fun e=>by subst e;first | omega | contradiction | exact absurd rfl ‹_› | simp_all)]
    replace Qf:=of_decide_eq_true Qf
    refine qV 58 rfl rfl<|oF rfl<|qV 58 rfl rfl<|oL rfl (H.cell 1 rfl rfl)<|qV 58 rfl rfl<|oF rfl<|qV 58 rfl rfl<|oL rfl (H.cell 0 rfl rfl)<|qV 58 rfl rfl<|sw<|oq (l21Bags_ok _ a.qJ b.qJ (H.get 3 rfl).1 (H.get 9 rfl).1) H fun P6 H=>sp (Bv<|decide<|a.qJ=b.qJ)<|sp (Bv<|decide<|a.qJ=b.qJ) ?_
    cases DO:(decide (a.qJ=b.qJ))
    ·replace DO:=of_decide_eq_false DO
     refine zM (zR 66 5)<|sp (Bv false)<|sp (Bv false)<|zM (zR 73 5)<|sp (Bv false)<|sp (Bv false)<|zjr<|rH1 (Bv false) H ?_
     rw [decide_eq_false (fun e=>by subst e;first | omega | contradiction | exact absurd rfl ‹_› | simp_all)]
    replace DO:=of_decide_eq_true DO
    refine qV 65 rfl rfl<|oF rfl<|qV 65 rfl rfl<|oL rfl (H.cell 1 rfl rfl)<|qV 65 rfl rfl<|oF rfl<|qV 65 rfl rfl<|oL rfl (H.cell 0 rfl rfl)<|qV 65 rfl rfl<|sw<|oq (l21Lists_ok _ a.vJ b.vJ (H.get 4 rfl).1 (H.get 10 rfl).1) H fun Sb H=>sp (Bv<|decide<|a.vJ=b.vJ)<|sp (Bv<|decide<|a.vJ=b.vJ) ?_
    cases DQ:(decide (a.vJ=b.vJ))
    ·replace DQ:=of_decide_eq_false DQ
     refine zM (zR 73 5)<|sp (Bv false)<|sp (Bv false)<|zjr<|rH1 (Bv false) H ?_
     rw [decide_eq_false (fun e=>by subst e;first | omega | contradiction | exact absurd rfl ‹_› | simp_all)]
    replace DQ:=of_decide_eq_true DQ
    refine qV 72 rfl rfl<|oF rfl<|qV 72 rfl rfl<|oL rfl (H.cell 1 rfl rfl)<|qV 72 rfl rfl<|oF rfl<|qV 72 rfl rfl<|oL rfl (H.cell 0 rfl rfl)<|qV 72 rfl rfl<|sw<|oq (l21Lists_ok _ a.xP b.xP (H.get 5 rfl).1 (H.get 11 rfl).1) H fun PJ H=>sq 2<|zjr<|rH1 (Bv<|decide<|a.xP=b.xP) H ?_
    rw [desk_last ql ql (Vr (k:=i) qf qf i1) ql ql ql ql]
   replace h7:=bne_iff_ne.1 h7
   refine zM (zR 28 6)<|sp (Bv true)<|zjn<|cTr rfl<|zcr<|sp (Bv false)<|zjr<|t_r<|rH1 (Bv false) H ?_
   rw [decide_eq_false (fun e=>by subst e;first | omega | contradiction | exact absurd rfl ‹_› | simp_all)]
  replace h6:=bne_iff_ne.1 h6
  refine zM (zR 19 7)<|sp (Bv true)<|sp (Bv true)<|zM (zR 28 6)<|sp (Bv true)<|zjn<|cTr rfl<|zcr<|sp (Bv false)<|zjr<|t_r<|rH1 (Bv false) H ?_
  rw [decide_eq_false (fun e=>by subst e;first | omega | contradiction | exact absurd rfl ‹_› | simp_all)]
 replace h5:=bne_iff_ne.1 h5
 refine zM (zR 12 5)<|sp (Bv true)<|sp (Bv true)<|zM (zR 19 7)<|sp (Bv true)<|sp (Bv true)<|zM (zR 28 6)<|sp (Bv true)<|zjn<|cTr rfl<|zcr<|sp (Bv false)<|zjr<|t_r<|rH1 (Bv false) H ?_
 rw [decide_eq_false (fun e=>by subst e;first | omega | contradiction | exact absurd rfl ‹_› | simp_all)]
theorem l08Zeros_ok (w:World) (s:qM) {bs os:Nat} (hs:yG w bs os (yS s xf qZ xG xC)) (xu:zP w zH xf qZ s.qA) (xY:zP w vX xG xC s.qB) (p0:yK s):Calls Tryz.prog 153 #[pp bs os] w (Ret (fun v w' =>∃ (ra:yOA) (rn:Nat) (rc:Nat) (rx:List Value) (rF:yLN),v=Sv ra rn rc/\Fresh w.heap.size [rF]/\St w w' [rr ra rn rc 24 1 rx] [qL true rF rx<|ji s<|s.qA.length+1]) w):=by
 refine en func153 ntmps153 ?_
 have H:=(((St.start w).arg xY).arg xu).argAt hs
 have jJ:=qO xu
 have Qb:=qO xY
 clear hs xu xY
 have N:=Fresh.nil w.heap.size
 have p1:=p0.1
 have p2:=p0.2.1
 refine zcr<|sq 1<|zjc<|sw<|jk H underlying29 ti24 fun b1 w2 H=>sq 1<|zjcc<|sp (yI 0)<|zjn<|xg ?_
 replace H:=H.boxRow 0 rfl 1 0 rfl qj
 replace H:=H.jZ (α:=yLI)
 refine zU ((fun Z0 Z1 Z2=>fun m' ρ w3=>∃ (xI:Env) (yY:yOA) (yV:Nat) (yX:Nat) (out:yLL) (Qv:List Value) (Ql:yLN) (c:Nat),ρ=upd (upd (upd xI 0<|pp bs os) 3<|Sv yY yV yX) 4 (yI c)/\out=ji s c/\(c<=s.qA.length+1)/\m' =(s.qA.length+1 - c:Nat)/\Fresh w.heap.size [Ql]/\St w w3 [rr yY yV yX 24 1 Qv] [qL true Ql Qv out,Z0,Z1,Z2]) _ _ _) ((s.qA.length+1 - 0:Nat)) ⟨_,(aa b1 0),0,0,([]:yLL),[],[],0,uE3,(by rfl),qf,rfl,N.emp,H⟩ ?_
 clear H N
 rintro m' ρ w4 ⟨xI,yY,yV,yX,out,Qv,Ql,c,rfl,rfl,i1,rfl,N,H⟩
 have Vq:=H.xe (α:=yLI) 0 rfl 0 rfl qj
 have zl:=zeros_len s c
 refine zcc<|sp (yI c)<|sq 2<|oF rfl<|oL rfl (H.vW 1 rfl 1 rfl)<|oN rfl<|sq 1<|zjn<|cD rfl (fun h5=>?_)<|fun h5=>?_
 ·refine xk (t_n<|xH<|xg<|xZ<|sq 3<|oF rfl<|oL rfl (H.vW 1 rfl 0 rfl)<|sw<|jE H underlying24 ti2 s.qP.toNat rfl rfl qf qf qf fun b6 w7 H=>sw<|zx H underlying29 ti24 [Sv (aa b6 0) s.qP.toNat s.qP.toNat] fun b8 w9 H=>?_)
  obtain ⟨G13,N,aJc,H⟩:=H.ve 1 rfl N<|H.vg [0]
  refine sw<|zJ H 2 rfl 0 rfl underlying29 ti24 rfl qj rfl rfl rfl qw qp qf fun a10 c11 KA H=>?_
  replace H:=H.QR 1 rfl 0 rfl
  replace N:Fresh w.heap.size [(Ql++G13)]:=(N.pick [1,0]).join
  refine sq 1<|xW<|b_n<|t_n<|xZ<|sp (yI c)<|sw<|zV c 1 rfl rfl qf<|sq 1<|xW<|xq (m' :=(s.qA.length+1 - (c+1):Nat)) qf ⟨_,_,_,_,_,_,_,c+1,uE3,?_,?_,rfl,N,H.pick [2] [0,3,4,5]⟩
  ·exact zeros_snoc s c
  ·omega
 refine zx4<|zcr<|sq 2<|zjr<|rH1 (Sv yY yV yX) H ?_
 obtain rfl:c=s.qA.length+1:=by omega
 exact ⟨yY,yV,yX,Qv,Ql,rfl,N,H.pick [0] [0]⟩
theorem l08Bags_ok (w:World) (l:yLL) (hl:zP w Fl al cl l):Calls Tryz.prog 157 #[Sv al l.length cl] w (Ret (fun v w' =>v=Bv (dec<|yH l l.length)) w):=by
 refine en func157 ntmps157 ?_
 have H:=(St.start w).arg hl
 have rS:=qO hl
 clear hl
 have N:=Fresh.nil w.heap.size
 refine zcr<|sp (Bv false)<|zjcc<|sp (yI 0)<|zjn<|xg<|zU ((fun Z0=>fun m' ρ w1=>∃ (xI:Env) (i:Nat),ρ=upd (upd xI 0<|Sv al l.length cl) 3 (yI i)/\((i:Int)<=l.length)/\(yH l i)/\m' =(l.length - (i:Int)).toNat/\Fresh w.heap.size []/\St w w1 [] [Z0]) _) ((l.length - (0:Int)).toNat) ⟨_,0,uE2,qf,qx,rfl,N,H⟩ ?_
 clear H N
 rintro m' ρ w2 ⟨xI,i,rfl,i0,i1,rfl,N,H⟩
 refine zcc<|sp (yI i)<|sq 1<|oN rfl<|sq 1<|zjn<|cD rfl (fun h3=>?_)<|fun h3=>?_
 ·refine xk (t_n<|xH<|xg<|zcr<|sq 1<|sp (yI i) ?_)
  obtain ⟨b4,o5,rfl⟩:=H.addr 0 rfl qf
  obtain ⟨ae7,ce7,Fe7,H⟩:=H.yD 0 rfl i i qf qf qf
  refine oI rfl rfl<|oL rfl (H.vW 1 rfl 0 rfl)<|sw<|oq (l01Bag_ok _ (l[i]!) (H.get 0 rfl).1) H fun w8 H=>sq 1<|zjn<|cQ rfl (fun fe=>?_)<|fun fe=>?_
  ·refine zcr (sp (Bv false)<|zjr<|zr5<|rH1 (Bv false) H ?_)
   rw [zt<|fun h=>absurd (h i qf) ql]
  refine xk<|b_n<|t_n<|xZ<|sp (yI i)<|sw<|zV i 1 rfl rfl qf<|sq 1<|xW<|xq (m' :=(l.length - ((i+1):Int)).toNat) qf ⟨_,i+1,uE2,?_,?_,rfl,N,H.pick [] [2]⟩
  ·omega
  ·exact i1.succ ql
 refine zx4<|zcr<|sp (Bv true)<|zjr<|rH1 (Bv true) H ?_
 rw [Xr<|show yH l l.length from fun j hj=>i1 j qf]
theorem indexB_ok (w:World) (l:List Bool) (x:Bool) (hl:zP w Fl al cl l):Calls Tryz.prog 169 #[Sv al l.length cl,Bv x] w (Ret (fun v w' =>v=yI (firstIdx (fun k=>x == l[k]!) l.length)) w):=by
 refine en func169 ntmps169 ?_
 have H:=(St.start w).arg hl
 have rS:=qO hl
 clear hl
 have N:=Fresh.nil w.heap.size
 refine zcr<|sp (yI 0)<|zjcc<|sq 1<|oN rfl<|sp (yI 0)<|zjn<|xg<|zU ((fun Z0=>fun m' ρ w1=>∃ (xI:Env) (i:Nat),ρ=upd (upd (upd (upd xI 0<|Sv al l.length cl) 1<|Bv x) 7<|yI l.length) 8 (yI i)/\((i:Int)<=l.length)/\(noneTo (fun k=>x == l[k]!) i)/\m' =(l.length - (i:Int)).toNat/\Fresh w.heap.size []/\St w w1 [] [Z0]) _) ((l.length - (0:Int)).toNat) ⟨_,0,uE4,qf,qx,rfl,N,H⟩ ?_
 clear H N
 rintro m' ρ w2 ⟨xI,i,rfl,i0,i1,rfl,N,H⟩
 refine zcr<|sq 1<|zjn<|xH<|cD rfl (fun h3=>?_)<|fun h3=>?_
 ·refine xk (t_n<|xH<|xg<|zcr<|sp (yI i)<|sp (yI i)<|zjc<|sp (Bv x)<|sq 1<|sp (yI i) ?_)
  obtain ⟨b4,o5,rfl⟩:=H.addr 0 rfl qf
  refine oI rfl rfl<|oL rfl (H.elemBoolN 0 rfl i qf)<|sw<|o_eqB underlying4 x (l[i]!) rfl rfl<|zjn<|vk _ rfl (fun h7=>?_)<|fun h7=>?_
  ·replace h7:=(eq_of_beq h7)
   refine zcr<|sp (yI i)<|sp (yI i)<|zjr<|zr5<|rH1 (yI i) H ?_
   rw [firstIdx_some (k:=i) qf i1<|by first | assumption | simpa using ‹x=l[i]!›]
  replace h7:=(ne_of_beq_false h7)
  refine xk<|b_n<|t_n<|xZ<|sw<|zV i 1 rfl rfl qf<|sq 1<|xW<|xq (m' :=(l.length - ((i+1):Int)).toNat) qf ⟨_,i+1,uE4,?_,?_,rfl,N,H⟩
  ·omega
  ·exact noneTo_succ i1<|by first | assumption | simpa using ‹x≠l[i]!›
 refine zx4<|zcr<|sq 1<|zjr<|rH1 (yI (-1)) H ?_
 rw [firstIdx_none<|fun j hj=>i1 j qf]
theorem containsB_ok (w:World) (l:List Bool) (x:Bool) (hl:zP w Fl al cl l):Calls Tryz.prog 144 #[Sv al l.length cl,Bv x] w (Ret (fun v w' =>v=Bv (anyTo (fun k=>x == l[k]!) l.length)) w):=by
 refine en func144 ntmps144 ?_
 have H:=(St.start w).arg hl
 have rS:=qO hl
 clear hl
 have N:=Fresh.nil w.heap.size
 refine zcr<|sp (Bv false)<|zjc<|sq 1<|sp (Bv x)<|sw<|oq (indexB_ok _ l x (H.get 0 rfl).1) H fun w2 H=>sp (Bv<|decide ((firstIdx (fun k=>x == l[k]!) l.length:Int)>=0))<|sp (Bv<|decide ((firstIdx (fun k=>x == l[k]!) l.length:Int)>=0))<|zjr<|rH1 (Bv<|decide ((firstIdx (fun k=>x == l[k]!) l.length:Int)>=0)) H ?_
 rw [anyTo_first]
theorem isWhole_ok (w:World) (s:qM) (t:xh) (xu:zP w zH xf qZ s.qA) (xY:zP w vX xG xC s.qB) (vF:zP w Qa zS zO t.xn) (jM:zP w QG vZ vT t.qG) (zN:zP w jY zq zo t.qE):Calls Tryz.prog 111 #[.agg #[yI s.qP,Sv xf s.qA.length qZ,Sv xG s.qB.length xC],.agg #[Sv zS t.xn.length zO,Sv vZ t.qG.length vT,Sv zq t.qE.length zo]] w (Ret (fun v w' =>v=Bv (dec ((QC s/\vM s t)/\Whole t))) w):=by
 refine en func111 ntmps111 ?_
 have H:=(((((St.start w).arg zN).arg jM).arg vF).arg xY).arg xu
 have jJ:=qO xu
 have Qb:=qO xY
 have XE:=qO vF
 have eJ:=qO jM
 have QW:=qO zN
 clear xu xY vF jM zN
 have N:=Fresh.nil w.heap.size
 refine zcr<|sw<|jq H (yS s xf qZ xG xC) fun b1 w2 H=>sw<|jq H (yT t zS zO vZ vT zq zo) fun b3 w4 H=>sp (Bv false)<|zjc<|sw<|zi (yS s xf qZ xG xC) isAgg27 sizeOf27 rfl (qK (H.cells 1 rfl) 0 3)<|sw<|zi (yT t zS zO vZ vT zq zo) isAgg31 sizeOf31 rfl (qK (H.cells 0 rfl) 0 3)<|sw<|oq (validState_ok _ s t (H.get 0 rfl).1 (H.get 1 rfl).1 (H.get 2 rfl).1 (H.get 3 rfl).1 (H.get 4 rfl).1) H fun w6 H=>sp (Bv<|dec<|QC s/\vM s t) ?_
 cases h8:(dec (QC s/\vM s t))
 ·replace h8:=Qd h8
  refine zM (zR 9 4)<|sp (Bv false)<|sp (Bv false)<|zjr<|rH1 (Bv false) H ?_
  rw [zt<|fun h=>absurd h.1 ql]
 replace h8:=of_dec h8
 refine qV 8 rfl rfl<|oF rfl<|qV 8 rfl rfl<|oL rfl (H.cell 0 rfl rfl)<|qV 8 rfl rfl<|sw<|oq (containsB_ok _ t.xn false (H.get 2 rfl).1) H fun DN H=>qV 8 rfl rfl<|sq 3<|zjr<|rH1 (Bv (!(anyTo (fun k=>false == t.xn[k]!) t.xn.length))) H ?_
 rw [whole_any]
 refine congrArg Value.bool<|dec_eq ?_
 rw [Bool.not_eq_true']
 exact ⟨fun h=>⟨by assumption,Classical.byContradiction fun x=>by rw [Xr x] at h;cases h⟩,fun h=>zt fun x=>x h.2⟩
theorem canMeltAny_ok (w:World) (s:qM) (xu:zP w zH xf qZ s.qA) (xY:zP w vX xG xC s.qB):Calls Tryz.prog 158 #[.agg #[yI s.qP,Sv xf s.qA.length qZ,Sv xG s.qB.length xC]] w (Ret (fun v w' =>v=Bv (dec (¬ Still s))) w):=by
 refine en func158 ntmps158 ?_
 have H:=((St.start w).arg xY).arg xu
 have jJ:=qO xu
 have Qb:=qO xY
 clear xu xY
 have N:=Fresh.nil w.heap.size
 refine zcr<|sw<|jq H (yS s xf qZ xG xC) fun b1 w2 H=>sp (Bv false)<|zjc<|oF rfl<|oL rfl (H.cell 0 rfl rfl)<|sw<|zX #[Sv xG s.qB.length xC,.func (.func 172) #[] #[]] rfl rfl call171<|en func171 ntmps171 ?_
 refine zcr<|sp (Bv false)<|zjc<|sq 1<|sp (.func (.func 172) #[] #[])<|sw<|zX #[Sv xG s.qB.length xC,.func (.func 172) #[] #[]] rfl rfl call179<|en func179 ntmps179 ?_
 refine zcr<|sp (yI 0)<|zjcc<|sq 1<|oN rfl<|sp (yI 0)<|zjn<|xg<|zU ((fun Z0 Z1 Z2=>fun m' ρ w3=>∃ (xI:Env) (i:Nat),ρ=upd (upd (upd (upd xI 0<|Sv xG s.qB.length xC) 1<|.func (.func 172) #[] #[]) 7<|yI s.qB.length) 8 (yI i)/\((i:Int)<=s.qB.length)/\(StillTo s i)/\m' =(s.qB.length - (i:Int)).toNat/\Fresh w.heap.size []/\St w w3 [Z0] [Z1,Z2]) _ _ _) ((s.qB.length - (0:Int)).toNat) ⟨_,0,uE4,qf,qx,rfl,N,H⟩ ?_
 clear H N
 rintro m' ρ w4 ⟨xI,i,rfl,i0,i1,rfl,N,H⟩
 refine zcr<|sq 1<|zjn<|xH<|cD rfl (fun h5=>?_)<|fun h5=>?_
 ·refine xk (t_n<|xH<|xg<|zcr<|sp (yI i)<|sp (yI i)<|zjc<|sp (.func (.func 172) #[] #[])<|sq 1<|sp (yI i) ?_)
  obtain ⟨b6,o7,rfl⟩:=H.addr 1 rfl qf
  obtain ⟨AZ,z7,aro,AV,zj,asC,z9,AD,asB,A9,Ao,asq,Eg,Ev,au0,zv,AH,arw,H⟩:=H.Xh 1 rfl i i qf qf qf
  refine oI rfl rfl<|sw<|zi [yI ((s.qB[i]!).qX),yI ((s.qB[i]!).yQ),Sv AZ (((s.qB[i]!).zT).length) z7,Sv AV (((s.qB[i]!).jV).length) zj,Sv z9 (((s.qB[i]!).jX).length) AD,Sv A9 (((s.qB[i]!).jK).length) Ao,Sv Eg (((s.qB[i]!).QP).length) Ev,Sv zv (((s.qB[i]!).xx).length) AH,Bv ((s.qB[i]!).jm)] isAgg110 sizeOf110 rfl (qK (H.get 6 rfl) 0 9)<|sw<|zX #[.agg #[yI ((s.qB[i]!).qX),yI ((s.qB[i]!).yQ),Sv AZ (((s.qB[i]!).zT).length) z7,Sv AV (((s.qB[i]!).jV).length) zj,Sv z9 (((s.qB[i]!).jX).length) AD,Sv A9 (((s.qB[i]!).jK).length) Ao,Sv Eg (((s.qB[i]!).QP).length) Ev,Sv zv (((s.qB[i]!).xx).length) AH,Bv ((s.qB[i]!).jm)]] rfl rfl call172<|en func172 ntmps172 ?_
  refine zcr<|sw<|jq H [yI ((s.qB[i]!).qX),yI ((s.qB[i]!).yQ),Sv AZ (((s.qB[i]!).zT).length) z7,Sv AV (((s.qB[i]!).jV).length) zj,Sv z9 (((s.qB[i]!).jX).length) AD,Sv A9 (((s.qB[i]!).jK).length) Ao,Sv Eg (((s.qB[i]!).QP).length) Ev,Sv zv (((s.qB[i]!).xx).length) AH,Bv ((s.qB[i]!).jm)] fun yv KD H=>sp (Bv false)<|zjc<|oF rfl<|oL rfl (H.cell 0 rfl rfl)<|sq 1<|zjr<|ret1 (Bv ((s.qB[i]!).jm)) rfl rfl ⟨_,rfl,?_⟩
  replace H:=H.erases [0]
  dsimp only [zD,List.eraseIdx,List.set] at H
  refine zjn<|vk _ rfl (fun qb=>?_)<|fun qb=>?_
  ·refine zcr (sp (yI i)<|sp (yI i)<|zjr<|zr5<|ret1 (yI i) rfl rfl ⟨_,rfl,(sw<|o_pure (Bv true) (by show some (Value.bool<|decide ((i:Int)>=0))=some (Value.bool true);rw [decide_eq_true qf])<|sp (Bv true)<|zjr<|ret1 (Bv true) rfl rfl ⟨_,rfl,(sp (Bv true)<|zjr<|rH1 (Bv true) H ?_)⟩)⟩)
   rw [Xr<|fun h=>ft (by assumption:(s.qB[i]!).jm=true)<|h i qf]
  refine xk<|b_n<|t_n<|xZ<|sw<|zV i 1 rfl rfl qf<|sq 1<|xW<|xq (m' :=(s.qB.length - ((i+1):Int)).toNat) qf ⟨_,i+1,uE4,?_,?_,rfl,N,H.pick [0] [7,8]⟩
  ·omega
  ·exact i1.succ ql
 refine zx4<|zcr<|sq 1<|zjr<|ret1 (yI (-1)) rfl rfl ⟨_,rfl,(sp (Bv false)<|sp (Bv false)<|zjr<|ret1 (Bv false) rfl rfl ⟨_,rfl,(sp (Bv false)<|zjr<|rH1 (Bv false) H ?_)⟩)⟩
 rw [zt<|fun x=>x<|fun j hj=>i1 j qf]
theorem noBags_ok (w:World) (s:qM) (xu:zP w zH xf qZ s.qA) (xY:zP w vX xG xC s.qB) (p0:yK s):Calls Tryz.prog 115 #[.agg #[yI s.qP,Sv xf s.qA.length qZ,Sv xG s.qB.length xC]] w (Ret (fun v w' =>∃ (ra:yOA) (rn:Nat) (rc:Nat) (rx:List Value) (rF:yLN),v=Sv ra rn rc/\Fresh w.heap.size [rF]/\St w w' [rr ra rn rc 24 1 rx] [qL true rF rx<|ji s<|s.qA.length+1]) w):=by
 refine en func115 ntmps115 ?_
 have H:=((St.start w).arg xY).arg xu
 have jJ:=qO xu
 have Qb:=qO xY
 clear xu xY
 have N:=Fresh.nil w.heap.size
 have p1:=p0.1
 have p2:=p0.2.1
 refine zcr<|sw<|jq H (yS s xf qZ xG xC) fun b1 w2 H=>sq 1<|zjc<|sw<|jk H underlying29 ti24 fun b3 w4 H=>sq 1<|zjcc<|sw<|zi (yS s xf qZ xG xC) isAgg27 sizeOf27 rfl (qK (H.cells 1 rfl) 0 3)<|sw<|oq (around_ok _ s (H.get 0 rfl).1 (H.get 1 rfl).1) H fun w6 H=>sw<|zV s.qA.length 1 rfl rfl qf<|sp (yI 0)<|zjn<|xg ?_
 replace H:=H.boxRow 0 rfl 1 0 rfl qj
 replace H:=H.jZ (α:=yLI)
 refine zU ((fun Z0 Z1 Z2=>fun m' ρ w8=>∃ (xI:Env) (yY:yOA) (yV:Nat) (yX:Nat) (out:yLL) (Qv:List Value) (Ql:yLN) (k:Nat),ρ=upd (upd (upd (upd xI 1<|pp b1 0) 3<|Sv yY yV yX) 7<|yI<|s.qA.length+1) 8 (yI k)/\out=ji s k/\((k:Int)<=(s.qA.length+1))/\m' =((s.qA.length+1) - (k:Int)).toNat/\Fresh w.heap.size [Ql]/\St w w8 [rr yY yV yX 24 1 Qv,Z0] [qL true Ql Qv out,Z1,Z2]) _ _ _) (((s.qA.length+1) - (0:Int)).toNat) ⟨_,(aa b3 0),0,0,([]:yLL),[],[],0,uE4,(by rfl),qf,rfl,N.emp,H⟩ ?_
 clear H N
 rintro m' ρ w9 ⟨xI,yY,yV,yX,out,Qv,Ql,k,rfl,rfl,i0,rfl,N,H⟩
 have Vq:=H.xe (α:=yLI) 0 rfl 0 rfl qj
 have zl:=zeros_len s k
 refine zcr<|sq 1<|zjn<|xH<|cD rfl (fun fe=>?_)<|fun fe=>?_
 ·refine xk (t_n<|xH<|xg<|xZ<|sq 1<|oF rfl<|oL rfl (H.cell 1 rfl rfl)<|sw<|jE H underlying24 ti2 s.qP.toNat rfl rfl qf qf qf fun sI KA H=>sw<|zx H underlying29 ti24 [Sv (aa sI 0) s.qP.toNat s.qP.toNat] fun xz w14 H=>?_)
  obtain ⟨G18,N,aDY,H⟩:=H.ve 1 rfl N<|H.vg [0]
  refine sw<|zJ H 2 rfl 0 rfl underlying29 ti24 rfl qj rfl rfl rfl qw qp qf fun Q2 W1 Tr H=>?_
  replace H:=H.QR 1 rfl 0 rfl
  replace N:Fresh w.heap.size [(Ql++G18)]:=(N.pick [1,0]).join
  refine sq 1<|xW<|b_n<|t_n<|xZ<|sw<|zV k 1 rfl rfl qf<|sq 1<|xW<|xq (m' :=((s.qA.length+1) - ((k+1):Int)).toNat) qf ⟨_,_,_,_,_,_,_,k+1,uE4,?_,?_,rfl,N,H.pick [2,3] [0,3,4]⟩
  ·exact zeros_snoc s k
  ·omega
 refine zx4<|zcr<|sq 2<|zjr<|rH1 (Sv yY yV yX) H ?_
 obtain rfl:k=s.qA.length+1:=by omega
 exact ⟨yY,yV,yX,Qv,Ql,rfl,N,H.pick [0] [0]⟩
theorem isBag_ok (w:World) (l:yLI) (hl:zP w Fl al cl l):Calls Tryz.prog 168 #[Sv al l.length cl] w (Ret (fun v w' =>v=Bv (dec<|BagAny l)) w):=by
 refine en func168 ntmps168 ?_
 have H:=(St.start w).arg hl
 have rS:=qO hl
 clear hl
 have N:=Fresh.nil w.heap.size
 refine zcr<|sp (Bv false)<|zjc<|sq 1<|sw<|oq (sizeI_ok _ l (H.get 0 rfl).1) H fun w1 H=>sq 1<|sw<|oq (Vj _ (l.length:Int) l (H.get 0 rfl).1) H fun w3 H=>sq 1<|zjr<|rH1 (Bv<|dec<|yJ (l.length:Int) l) H ?_
 rw [dec_congr bagAny_ok]
theorem areBags_ok (w:World) (l:yLL) (hl:zP w Fl al cl l):Calls Tryz.prog 143 #[Sv al l.length cl] w (Ret (fun v w' =>v=Bv (dec<|yH l l.length)) w):=by
 refine en func143 ntmps143 ?_
 have H:=(St.start w).arg hl
 have rS:=qO hl
 clear hl
 have N:=Fresh.nil w.heap.size
 refine zcr<|sp (Bv false)<|zjc<|sq 1<|sw<|zX #[Sv al l.length cl,.func (.func 167) #[] #[]] rfl rfl call166<|en func166 ntmps166 ?_
 refine zcr<|sp (Bv false)<|zjc<|sq 1<|sp (.func (.func 167) #[] #[])<|sw<|zX #[Sv al l.length cl,.func (.func 167) #[] #[]] rfl rfl call176<|en func176 ntmps176 ?_
 refine zcr<|sp (yI 0)<|zjcc<|sq 1<|oN rfl<|sp (yI 0)<|zjn<|xg<|zU ((fun Z0=>fun m' ρ w1=>∃ (xI:Env) (i:Nat),ρ=upd (upd (upd (upd xI 0<|Sv al l.length cl) 1<|.func (.func 167) #[] #[]) 7<|yI l.length) 8 (yI i)/\((i:Int)<=l.length)/\(yH l i)/\m' =(l.length - (i:Int)).toNat/\Fresh w.heap.size []/\St w w1 [] [Z0]) _) ((l.length - (0:Int)).toNat) ⟨_,0,uE4,qf,qx,rfl,N,H⟩ ?_
 clear H N
 rintro m' ρ w2 ⟨xI,i,rfl,i0,i1,rfl,N,H⟩
 refine zcr<|sq 1<|zjn<|xH<|cD rfl (fun h3=>?_)<|fun h3=>?_
 ·refine xk (t_n<|xH<|xg<|zcr<|sp (yI i)<|sp (yI i)<|zjc<|sp (.func (.func 167) #[] #[])<|sq 1<|sp (yI i) ?_)
  obtain ⟨b4,o5,rfl⟩:=H.addr 0 rfl qf
  obtain ⟨ae7,ce7,Fe7,H⟩:=H.yD 0 rfl i i qf qf qf
  refine oI rfl rfl<|oL rfl (H.vW 1 rfl 0 rfl)<|sw<|zX #[Sv ae7 ((l[i]!).length) ce7] rfl rfl call167<|en func167 ntmps167 ?_
  refine zcr<|sp (Bv false)<|zjc<|sq 1<|sw<|oq (isBag_ok _ (l[i]!) (H.get 0 rfl).1) H fun w9 H=>sq 2<|zjr<|ret1 (Bv (!(dec<|BagAny<|l[i]!))) rfl rfl ⟨_,rfl,(zjn<|cQ rfl (fun dZ=>?_)<|fun dZ=>?_)⟩
  ·refine zcr (sp (yI i)<|sp (yI i)<|zjr<|zr5<|ret1 (yI i) rfl rfl ⟨_,rfl,(sw<|o_pure (Bv true) (by show some (Value.bool<|decide ((i:Int)>=0))=some (Value.bool true);rw [decide_eq_true qf])<|sp (Bv true)<|zjr<|ret1 (Bv true) rfl rfl ⟨_,rfl,(sp (Bv false)<|sp (Bv false)<|zjr<|rH1 (Bv false) H ?_)⟩)⟩)
   rw [zt<|fun h=>absurd (h i qf) ql]
  refine xk<|b_n<|t_n<|xZ<|sw<|zV i 1 rfl rfl qf<|sq 1<|xW<|xq (m' :=(l.length - ((i+1):Int)).toNat) qf ⟨_,i+1,uE4,?_,?_,rfl,N,H.pick [] [2]⟩
  ·omega
  ·exact i1.succ ql
 refine zx4<|zcr<|sq 1<|zjr<|ret1 (yI (-1)) rfl rfl ⟨_,rfl,(sp (Bv false)<|sp (Bv false)<|zjr<|ret1 (Bv false) rfl rfl ⟨_,rfl,(sp (Bv true)<|sp (Bv true)<|zjr<|rH1 (Bv true) H ?_)⟩)⟩
 rw [Xr<|show yH l l.length from fun j hj=>i1 j qf]
theorem puts_ok (w:World) (s:qM) (t:xh) (counts:yLI) (cell:Int) {At:yOA} {AB:Nat} {SB:yLN} (xu:zP w zH xf qZ s.qA) (xY:zP w vX xG xC s.qB) (vF:zP w Qa zS zO t.xn) (jM:zP w QG vZ vT t.qG) (zN:zP w jY zq zo t.qE) (Ax:zP w SB At AB counts) (p0:QC s) (p1:vM s t) (p2:CntOk s counts):Calls Tryz.prog 139 #[.agg #[yI s.qP,Sv xf s.qA.length qZ,Sv xG s.qB.length xC],.agg #[Sv zS t.xn.length zO,Sv vZ t.qG.length vT,Sv zq t.qE.length zo],Sv At counts.length AB,yI cell] w (Ret (fun v w' =>∃ (ra:yOA) (rn:Nat) (rc:Nat) (rx:List Value) (rF:yLN),v=Sv ra rn rc/\Fresh w.heap.size [rF]/\St w w' [rr ra rn rc 24 1 rx] [qL true rF rx<|jU s t counts cell]) w):=by
 refine en func139 ntmps139 ?_
 have H:=((((((St.start w).arg Ax).arg zN).arg jM).arg vF).arg xY).arg xu
 have jJ:=qO xu
 have Qb:=qO xY
 have XE:=qO vF
 have eJ:=qO jM
 have QW:=qO zN
 have afK:=qO Ax
 clear xu xY vF jM zN Ax
 have N:=Fresh.nil w.heap.size
 have p5:=p0.2.1
 have p6:=p2.1
 have p7:=p1.2.1
 have p8:=XG p0
 have p9:=p0.1.2.1
 have Yx:=p1.1
 have p15:=p0.1
 have p16:=p0.1.1
 refine zcr<|sw<|jq H (yS s xf qZ xG xC) fun b1 w2 H=>sw<|jq H (yT t zS zO vZ vT zq zo) fun b3 w4 H=>sq 1<|zjc<|sw<|zi (yS s xf qZ xG xC) isAgg27 sizeOf27 rfl (qK (H.cells 1 rfl) 0 3) ?_
 have sz8:=H.base.size
 refine sw<|oc (noBags_ok _ s (H.get 0 rfl).1 (H.get 1 rfl).1 qg) ?_
 rintro _ w6 ⟨ra5,rn5,TY,rx5,rF5,rfl,M,K⟩ _
 replace N:=N.merge sz8 qm M
 replace H:=H.merge K M
 obtain rfl:=H.xe (α:=yLI) 0 rfl 0 rfl qj
 refine sq 1<|zjcc<|sq 1<|oN rfl<|sp (yI 0)<|zjn<|xg<|zU ((fun Z0 Z1 Z2 Z3 Z4 Z5 Z6 Z7=>fun m' ρ KD=>∃ (xI:Env) (i:Nat) (bags:yLL) (nB:List Value) (fV:yLN),ρ=upd (upd (upd (upd (upd (upd (upd xI 3<|yI cell) 4<|pp b1 0) 5<|pp b3 0) 9<|Sv ra5 ((ji s<|s.qA.length+1).length) TY) 15<|Sv At counts.length AB) 16<|yI counts.length) 17 (yI i)/\((i:Int)<=counts.length)/\(Ent (s.qA.length+1) (vP s) (fun p q=>XL s t counts cell i p q) (1000+6000000 * i) bags)/\(bags.length=s.qA.length+1)/\m' =(counts.length - (i:Int)).toNat/\Fresh w.heap.size [fV]/\St w KD [rr ra5 ((ji s<|s.qA.length+1).length) TY 24 1 nB,Z0,Z1] [qL true fV nB bags,Z2,Z3,Z4,Z5,Z6,Z7]) _ _ _ _ _ _ _ _) ((counts.length - (0:Int)).toNat) ⟨_,0,ji s<|s.qA.length+1,rx5,rF5,uE7,qf,(by exact (zeros_ent (B:=0) qf).to (fun _ _=>rfl) qf),(by rw [zeros_len]),rfl,N,H⟩ ?_
 clear H N
 rintro m' ρ KA ⟨xI,i,bags,nB,fV,rfl,i0,qt,auD,rfl,N,H⟩
 have AA:=H.xe (α:=yLI) 0 rfl 0 rfl qj
 refine zcr<|sq 1<|zjn<|xH<|cD rfl (fun JM=>?_)<|fun JM=>?_
 ·have q:=p0.rule (i:=i) qf
  have qc:=q.1
  have qk:=q.cell
  have qr:=q.2.1
  have pZ:=q.2.2.2.2.1
  have sJ:=q.2.2.2.2.2.2.2.1
  have sO:=q.2.2.2.2.2.2.2.2.1
  have ln1:=pZ.len
  have ln2:=sJ.len
  have ln3:=sO.len
  have p10:=p2.bd (i:=i) qf
  have qn:=q.2.2.2.1
  refine xk<|t_n<|xH<|xg<|zcr<|sp (yI i) ?_
  obtain ⟨b14,o15,rfl⟩:=H.addr 6 rfl qf
  refine oI rfl rfl<|oL rfl (H.jd 6 rfl i qf)<|sp (yI i)<|sq 1<|zjc<|oF rfl<|oL rfl (H.cell 2 rfl rfl)<|sp (yI i) ?_
  obtain ⟨lT,o18,rfl⟩:=H.addr 2 rfl qf
  obtain ⟨mU,ni,aqP,mN,mC,aii,mx,mG,afM,kV,kA,amC,lh,lq,asn,io,iu,ahO,H⟩:=H.Xh 2 rfl i i qf qf qf
  refine oI rfl rfl<|sw<|zi [yI ((s.qB[i]!).qX),yI ((s.qB[i]!).yQ),Sv mU (((s.qB[i]!).zT).length) ni,Sv mN (((s.qB[i]!).jV).length) mC,Sv mx (((s.qB[i]!).jX).length) mG,Sv kV (((s.qB[i]!).jK).length) kA,Sv lh (((s.qB[i]!).QP).length) lq,Sv io (((s.qB[i]!).xx).length) iu,Bv ((s.qB[i]!).jm)] isAgg110 sizeOf110 rfl (qK (H.get 6 rfl) 0 9)<|sw<|xU H ti110 [yI 0,yI 0,yN,yN,yN,yN,yN,yN,Bv false] fun ws Ot H=>sw<|zC H 0 [yI ((s.qB[i]!).qX),yI ((s.qB[i]!).yQ),Sv mU (((s.qB[i]!).zT).length) ni,Sv mN (((s.qB[i]!).jV).length) mC,Sv mx (((s.qB[i]!).jX).length) mG,Sv kV (((s.qB[i]!).jK).length) kA,Sv lh (((s.qB[i]!).QP).length) lq,Sv io (((s.qB[i]!).xx).length) iu,Bv ((s.qB[i]!).jm)] sizeOf110 fun Nw H=>(zjc<|oF rfl<|oL rfl (H.cell 0 rfl rfl)<|sq 2<|zjn<|cE rfl (fun Th=>?_)<|fun Th=>?_)
  ·refine xZ (sw<|zi [yI s.qP,Sv xf s.qA.length qZ,Sv (aa lT o18) s.qB.length xC] isAgg27 sizeOf27 rfl (qK (H.cells 3 rfl) 0 3)<|sw<|zi (yT t zS zO vZ vT zq zo) isAgg31 sizeOf31 rfl (qK (H.cells 2 rfl) 0 3)<|sq 1<|sw<|zi [yI ((s.qB[i]!).qX),yI ((s.qB[i]!).yQ),Sv mU (((s.qB[i]!).zT).length) ni,Sv mN (((s.qB[i]!).jV).length) mC,Sv mx (((s.qB[i]!).jX).length) mG,Sv kV (((s.qB[i]!).jK).length) kA,Sv lh (((s.qB[i]!).QP).length) lq,Sv io (((s.qB[i]!).xx).length) iu,Bv ((s.qB[i]!).jm)] isAgg110 sizeOf110 rfl (qK (H.cells 0 rfl) 0 9)<|sq 1<|sw<|zX #[.agg #[yI s.qP,Sv xf s.qA.length qZ,Sv (aa lT o18) s.qB.length xC],.agg #[Sv zS t.xn.length zO,Sv vZ t.qG.length vT,Sv zq t.qE.length zo],Sv ra5 ((ji s<|s.qA.length+1).length) TY,.agg #[yI ((s.qB[i]!).qX),yI ((s.qB[i]!).yQ),Sv mU (((s.qB[i]!).zT).length) ni,Sv mN (((s.qB[i]!).jV).length) mC,Sv mx (((s.qB[i]!).jX).length) mG,Sv kV (((s.qB[i]!).jK).length) kA,Sv lh (((s.qB[i]!).QP).length) lq,Sv io (((s.qB[i]!).xx).length) iu,Bv ((s.qB[i]!).jm)],yI<|counts[i]!] rfl rfl call82<|en func82 ntmps82 ?_)
   refine zcr<|sw<|jq H [yI s.qP,Sv xf s.qA.length qZ,Sv (aa lT o18) s.qB.length xC] fun b25 Ky H=>sw<|jq H (yT t zS zO vZ vT zq zo) fun b27 P6 H=>sw<|jq H [Sv ra5 ((ji s<|s.qA.length+1).length) TY] fun Eq w30 H=>(sw<|jq H [yI ((s.qB[i]!).qX),yI ((s.qB[i]!).yQ),Sv mU (((s.qB[i]!).zT).length) ni,Sv mN (((s.qB[i]!).jV).length) mC,Sv mx (((s.qB[i]!).jX).length) mG,Sv kV (((s.qB[i]!).jK).length) kA,Sv lh (((s.qB[i]!).QP).length) lq,Sv io (((s.qB[i]!).xx).length) iu,Bv ((s.qB[i]!).jm)] fun b31 Sb H=>sw<|jq H [yI<|counts[i]!] fun AJ w34 H=>zjc<|sp (.func (.func 130) #[] #[pp Eq 0,pp AJ 0])<|sp (.func (.func 130) #[] #[pp Eq 0,pp AJ 0])<|zjc<|sp (.func (.func 130) #[] #[pp Eq 0,pp AJ 0])<|oF rfl<|oL rfl (H.cell 1 rfl rfl)<|oF rfl<|oL rfl (H.cell 1 rfl rfl)<|sw<|zX #[yI ((s.qB[i]!).qX),Sv kV (((s.qB[i]!).jK).length) kA,pp Eq 0,pp AJ 0] rfl rfl call130<|en func130 ntmps130 ?_)
   refine XQ rfl H [0,1,2,3,4,5,7,8] fun H=>?_
   have S:=H.zK [0,1,2,3,4,5,7,8]<|zR 0 14
   refine tL 0 rfl rfl (fun _ h=>h.cell 2 rfl rfl) S ?_
   refine rtl 1 S ?_
   refine tL 2 rfl rfl (fun _ h=>h.cell 2 rfl rfl) S ?_
   refine rtl 3 S ?_
   obtain ⟨b36,rfl⟩:=H.jg 6 rfl qf
   have S:=H.zK [0,1,2,3,4,5,7,8]<|zR 0 14
   refine tI 4 rfl rfl rfl S ?_
   refine rtl 6 S ?_
   refine tL 7 rfl rfl (fun _ h=>h.cell 0 rfl rfl) S ?_
   refine ro 5 rfl ?_
   obtain ⟨a37,c38,G39,s40,sB,H⟩:=H.Q7 6 rfl 7 rfl (iv:=(s.qB[i]!).qX) (((s.qB[i]!).qX).toNat) qf qf
   refine zB (Sv a37 ((bags[((s.qB[i]!).qX).toNat]!).length) c38) isAgg24 rfl (sB)<|⟨H.pick [0,1,2,3,4,5,7,8]<|zR 1 14,(ro 8 rfl ?_)⟩
   obtain ⟨u1,u2⟩:=qt.sh.row (c:=((s.qB[i]!).qX).toNat) qf p8 qf
   have u4:=(by first | exact pZ.Qm qf | exact sJ.Qm qf | exact sO.Qm qf | exact qa.Qm qf:XV ((s.qB[i]!).jK) (counts[i]!))
   have aiP:=H.base.size
   have apu:=H.ltN (L:=[fV]) [8]
   refine oc (plus_ok _ (bags[((s.qB[i]!).qX).toNat]!) ((s.qB[i]!).jK) (counts[i]!) (H.get 0 rfl).1 (H.get 4 rfl).1 qg qg qg) ?_
   rintro v47 w45 r47 x46
   replace H:=H.zI x46 r47
   obtain ⟨a48,c49,rfl,aIr,aD9⟩:=H.jW 0 rfl
   refine ⟨H.pick [1,2,3,4,5,6,8,9]<|zR 1 14,(tI 9 rfl rfl rfl (H.pick [1,2,3,4,5,6,8,9]<|zR 1 14) ?_)⟩
   refine ro 10 rfl ?_
   obtain ⟨G53,N,aGC,H⟩:=H.ve 0 rfl N<|H.vg [8]
   refine yZ true H 7 rfl 9 rfl (Sv a48 ((vS (bags[((s.qB[i]!).qX).toNat]!) ((s.qB[i]!).jK)<|counts[i]!).length) c49) 0 rfl rfl sizeOf24 rfl rfl (i:=(((s.qB[i]!).qX).toNat)) qf qf qm fun w52 aEo F56 ayp H=>?_
   replace N:Fresh w.heap.size [F56]:=(N.pick [1,0]).repl ayp
   refine ⟨H.pick [1,2,3,4,5,6,8,9]<|zR 3 14,(xy qh ((ret0 rfl ⟨_,rfl,?_⟩)))⟩
   replace H:=H.erases [0]
   dsimp only [zD,List.eraseIdx,List.set] at H
   obtain ⟨wO,NW⟩:∃ z,z=(bags.set (((s.qB[i]!).qX).toNat) (vS (bags[((s.qB[i]!).qX).toNat]!) ((s.qB[i]!).jK) (counts[i]!))):=⟨_,rfl⟩
   rw [← NW] at H
   have rA:=Ent.add (D:=1000000) qt NW qf (by first | exact pZ.mul qf | exact sJ.mul qf | exact sO.mul qf | exact qa.mul qf) qf
   have av6:=rA.sh.1
   have f6:=rA
   refine zjcc<|sw<|zi [yI s.qP,Sv xf s.qA.length qZ,Sv (aa lT o18) s.qB.length xC] isAgg27 sizeOf27 rfl (qK (H.cells 4 rfl) 0 3)<|sw<|zi (yT t zS zO vZ vT zq zo) isAgg31 sizeOf31 rfl (qK (H.cells 3 rfl) 0 3)<|oF rfl<|oL rfl (H.cell 1 rfl rfl) ?_
   have qc' :=qc
   refine sw<|oq (parentNow_ok _ s t ((s.qB[i]!).qX) (H.get 11 rfl).1 (H.get 12 rfl).1 (H.get 13 rfl).1 (H.get 14 rfl).1 (H.get 15 rfl).1 qg qg qg) H fun w60 H=>?_
   have pl:=parentNow_lt p15 p1.2.2.1 qc
   refine sq 1<|zjc<|sq 1<|sp (Bv<|decide ((zG s t ((s.qB[i]!).qX):Int)>=0))<|zjn<|cD rfl (fun h62=>?_)<|fun h62=>?_
   ·have po:=outPl_in (r:=s.qB[i]!) p15 ‹_›
    refine xZ<|sp (.func (.func 130) #[] #[pp Eq 0,pp AJ 0])<|sq 1<|oF rfl<|oL rfl (H.cell 1 rfl rfl)<|sw<|zX #[yI<|zG s t ((s.qB[i]!).qX),Sv lh (((s.qB[i]!).QP).length) lq,pp Eq 0,pp AJ 0] rfl rfl call130<|en func130 ntmps130 ?_
    refine XQ rfl H [0,1,2,3,4,5,7,8] fun H=>?_
    have S:=H.zK [0,1,2,3,4,5,7,8]<|zR 0 17
    refine tL 0 rfl rfl (fun _ h=>h.cell 2 rfl rfl) S ?_
    refine rtl 1 S ?_
    refine tL 2 rfl rfl (fun _ h=>h.cell 2 rfl rfl) S ?_
    refine rtl 3 S ?_
    refine tI 4 rfl rfl rfl S ?_
    refine rtl 6 S ?_
    refine tL 7 rfl rfl (fun _ h=>h.cell 0 rfl rfl) S ?_
    refine ro 5 rfl ?_
    obtain ⟨a64,c65,G66,s67,h68,H⟩:=H.Q7 6 rfl 0 rfl (iv:=zG s t ((s.qB[i]!).qX)) ((zG s t ((s.qB[i]!).qX)).toNat) qf qf
    refine zB (Sv a64 ((wO[(zG s t ((s.qB[i]!).qX)).toNat]!).length) c65) isAgg24 rfl (h68)<|⟨H.pick [0,1,2,3,4,5,7,8]<|zR 1 17,(ro 8 rfl ?_)⟩
    obtain ⟨u1,u2⟩:=rA.sh.row (c:=(zG s t ((s.qB[i]!).qX)).toNat) qf p8 qf
    have u4:=(by first | exact pZ.Qm qf | exact sJ.Qm qf | exact sO.Qm qf | exact qa.Qm qf:XV ((s.qB[i]!).QP) (counts[i]!))
    have aye:=H.base.size
    have awd:=H.ltN (L:=[F56]) [1]
    refine oc (plus_ok _ (wO[(zG s t ((s.qB[i]!).qX)).toNat]!) ((s.qB[i]!).QP) (counts[i]!) (H.get 0 rfl).1 (H.get 8 rfl).1 qg qg qg) ?_
    rintro v74 Rh r74 x73
    replace H:=H.zI x73 r74
    obtain ⟨a75,c76,rfl,awc,atp⟩:=H.jW 0 rfl
    refine ⟨H.pick [1,2,3,4,5,6,8,9]<|zR 1 17,(tI 9 rfl rfl rfl (H.pick [1,2,3,4,5,6,8,9]<|zR 1 17) ?_)⟩
    refine ro 10 rfl ?_
    obtain ⟨G80,N,ax6,H⟩:=H.ve 0 rfl N<|H.vg [1]
    refine yZ true H 7 rfl 2 rfl (Sv a75 ((vS (wO[(zG s t ((s.qB[i]!).qX)).toNat]!) ((s.qB[i]!).QP)<|counts[i]!).length) c76) 0 rfl rfl sizeOf24 rfl rfl (i:=((zG s t ((s.qB[i]!).qX)).toNat)) qf qf qm fun w79 amM F83 ab8 H=>?_
    replace N:Fresh w.heap.size [F83]:=(N.pick [1,0]).repl ab8
    refine ⟨H.pick [1,2,3,4,5,6,8,9]<|zR 3 17,(xy qh ((ret0 rfl ⟨_,rfl,?_⟩)))⟩
    replace H:=H.erases [0]
    dsimp only [zD,List.eraseIdx,List.set] at H
    obtain ⟨awt,OP⟩:∃ z,z=(wO.set ((zG s t ((s.qB[i]!).qX)).toNat) (vS (wO[(zG s t ((s.qB[i]!).qX)).toNat]!) ((s.qB[i]!).QP) (counts[i]!))):=⟨_,rfl⟩
    rw [← OP] at H
    have KW:=Ent.add (D:=1000000) rA OP qf (by first | exact pZ.mul qf | exact sJ.mul qf | exact sO.mul qf | exact qa.mul qf) qf
    have awy:=KW.sh.1
    have f6:=KW
    refine zjc<|oF rfl<|oL rfl (H.cell 1 rfl rfl)<|oN rfl<|sp (yI 0)<|zjn<|xg<|zU ((fun Z0 Z1 Z2 Z3 Z4 Z5 Z6 Z7 Z8 Z9 fH fZ iw kH mh mj sf Aw DA IJ J5=>fun m' ρ w86=>∃ (xI:Env) (k:Nat) (ew:yLL) (ik:List Value) (fT:yLN),ρ=upd (upd (upd (upd xI 10<|.func (.func 130) #[] #[pp Eq 0,pp AJ 0]) 40<|Sv io (((s.qB[i]!).xx).length) iu) 41<|yI (((s.qB[i]!).xx).length)) 42 (yI k)/\((k:Int)<=(((s.qB[i]!).xx).length))/\(Ent (s.qA.length+1) (vP s) (fun p q=>XL s t counts cell i p q+at' p (s.qB[i]!).qX.toNat (((counts)[i]!) * ((s.qB[i]!).jK)[q]!)+at' p (outPl s t<|s.qB[i]!) (((counts)[i]!) * ((s.qB[i]!).QP)[q]!)+intoF (s.qB[i]!) ((counts)[i]!) k p q) (3000000+6000000 * i+1000000 * k) ew)/\(ew.length=s.qA.length+1)/\m' =((((s.qB[i]!).xx).length) - (k:Int)).toNat/\Fresh w.heap.size [fT]/\St w w86 [Z0,Z1,Z2,Z3,Z4,Z5,rr (aa b36 0) ((ji s<|s.qA.length+1).length) TY 24 1 ik,Z6,Z7] [qL true fT ik ew,Z8,Z9,fH,fZ,iw,kH,mh,mj,sf,Aw,DA,IJ,J5]) _ _ _ _ _ _ _ _ _ _ _ _ _ _ _ _ _ _ _ _ _) (((((s.qB[i]!).xx).length) - (0:Int)).toNat) ⟨_,0,awt,amM,F83,uE4,qf,(by exact f6.to (fun p q=>by rw [po];simp only [intoF];first | omega | (simp only [Int.toNat_natCast];omega)) qf),qf,rfl,N,H.pick (zR 0 9) (0::6::7::8::9::10::11::12::zR 14 6)⟩ ?_
    clear H N
    rintro m' ρ w87 ⟨xI,k,ew,ik,fT,rfl,i0,gx,OI,rfl,N,H⟩
    have AA:=H.xe (α:=yLI) 6 rfl 0 rfl qj
    refine zcr<|sq 1<|zjn<|xH<|cD rfl (fun h88=>?_)<|fun h88=>?_
    ·have qi:=q.2.2.2.2.2.2.2.2.2.2 k qf
     have qi1:=qi.1
     have qa:=qi.2.2.1
     have ln4:=qa.len
     refine xk<|t_n<|xH<|xg<|zcr ?_
     obtain ⟨xV,o90,rfl⟩:=H.addr 6 rfl qf
     obtain ⟨z8,yp,ar2,H⟩:=H.QU 6 rfl k k qf qf qf
     refine oI rfl rfl<|sw<|zi [yI ((((s.qB[i]!).xx)[k]!).qX),Sv z8 (((((s.qB[i]!).xx)[k]!).XH).length) yp] isAgg161 sizeOf161 rfl (qK (H.get 1 rfl) 0 2)<|sw<|xU H ti161 [yI 0,yN] fun b93 w94 H=>sw<|zC H 0 [yI ((((s.qB[i]!).xx)[k]!).qX),Sv z8 (((((s.qB[i]!).xx)[k]!).XH).length) yp] sizeOf161 fun w95 H=>zjn<|xZ<|sp (.func (.func 130) #[] #[pp Eq 0,pp AJ 0])<|oF rfl<|oL rfl (H.cell 0 rfl rfl)<|oF rfl<|oL rfl (H.cell 0 rfl rfl)<|sw<|zX #[yI ((((s.qB[i]!).xx)[k]!).qX),Sv z8 (((((s.qB[i]!).xx)[k]!).XH).length) yp,pp Eq 0,pp AJ 0] rfl rfl call130<|en func130 ntmps130 ?_
     refine XQ rfl H [0,1,2,3,4,5,6,8,9] fun H=>?_
     have S:=H.zK [0,1,2,3,4,5,6,8,9]<|zR 0 16
     refine tL 0 rfl rfl (fun _ h=>h.cell 3 rfl rfl) S ?_
     refine rtl 1 S ?_
     refine tL 2 rfl rfl (fun _ h=>h.cell 3 rfl rfl) S ?_
     refine rtl 3 S ?_
     refine tI 4 rfl rfl rfl S ?_
     refine rtl 6 S ?_
     refine tL 7 rfl rfl (fun _ h=>h.cell 1 rfl rfl) S ?_
     refine ro 5 rfl ?_
     obtain ⟨a97,c98,G99,aJu,rj,H⟩:=H.Q7 7 rfl 2 rfl (iv:=(((s.qB[i]!).xx)[k]!).qX) (((((s.qB[i]!).xx)[k]!).qX).toNat) qf qf
     refine zB (Sv a97 ((ew[((((s.qB[i]!).xx)[k]!).qX).toNat]!).length) c98) isAgg24 rfl (rj)<|⟨H.pick [0,1,2,3,4,5,6,8,9]<|zR 1 16,(ro 8 rfl ?_)⟩
     obtain ⟨u1,u2⟩:=gx.sh.row (c:=((((s.qB[i]!).xx)[k]!).qX).toNat) qf p8 qf
     have u4:=(by first | exact pZ.Qm qf | exact sJ.Qm qf | exact sO.Qm qf | exact qa.Qm qf:XV ((((s.qB[i]!).xx)[k]!).XH) (counts[i]!))
     have aCn:=H.base.size
     have aBq:=H.ltN (L:=[fT]) [3]
     refine oc (plus_ok _ (ew[((((s.qB[i]!).xx)[k]!).qX).toNat]!) ((((s.qB[i]!).xx)[k]!).XH) (counts[i]!) (H.get 0 rfl).1 (H.get 1 rfl).1 qg qg qg) ?_
     rintro aEP ajW atx avn
     replace H:=H.zI avn atx
     obtain ⟨B3,C4,rfl,aBz,aAq⟩:=H.jW 0 rfl
     refine ⟨H.pick [1,2,3,4,5,6,7,9,10]<|zR 1 16,(tI 9 rfl rfl rfl (H.pick [1,2,3,4,5,6,7,9,10]<|zR 1 16) ?_)⟩
     refine ro 10 rfl ?_
     obtain ⟨TJ,N,apL,H⟩:=H.ve 0 rfl N<|H.vg [3]
     refine yZ true H 8 rfl 4 rfl (Sv B3 ((vS (ew[((((s.qB[i]!).xx)[k]!).qX).toNat]!) ((((s.qB[i]!).xx)[k]!).XH)<|counts[i]!).length) C4) 0 rfl rfl sizeOf24 rfl rfl (i:=(((((s.qB[i]!).xx)[k]!).qX).toNat)) qf qf qm fun Zg aCN avg ajz H=>?_
     replace N:Fresh w.heap.size [avg]:=(N.pick [1,0]).repl ajz
     refine ⟨H.pick [1,2,3,4,5,6,7,9,10]<|zR 3 16,(xy qh ((ret0 rfl ⟨_,rfl,?_⟩)))⟩
     replace H:=H.erases [0]
     dsimp only [zD,List.eraseIdx,List.set] at H
     obtain ⟨aAG,Gg⟩:∃ z,z=(ew.set (((((s.qB[i]!).xx)[k]!).qX).toNat) (vS (ew[((((s.qB[i]!).xx)[k]!).qX).toNat]!) ((((s.qB[i]!).xx)[k]!).XH) (counts[i]!))):=⟨_,rfl⟩
     rw [← Gg] at H
     have Fn:=Ent.add (D:=1000000) gx Gg qf (by first | exact pZ.mul qf | exact sJ.mul qf | exact sO.mul qf | exact qa.mul qf) qf
     have ast:=Fn.sh.1
     have f6:=Fn
     refine xW<|b_n<|t_n<|xZ<|sw<|zV k 1 rfl rfl qf<|sq 1<|xW<|xq (m' :=((((s.qB[i]!).xx).length) - ((k+1):Int)).toNat) qf ⟨_,k+1,_,_,_,uE4,?_,?_,?_,rfl,N,H.pick (zR 1 9) (0::zR 6 13)⟩
     ·omega
     ·exact f6.to (fun p q=>by simp only [intoF];omega) qf
     ·omega
    refine c_exit<|t_x<|t_x<|b_x<|ret0 rfl ⟨_,rfl,?_⟩
    replace H:=H.erases [4,3,2,1,0]
    dsimp only [zD,List.eraseIdx,List.set] at H
    refine xW<|b_n<|t_n<|xZ<|sw<|zV i 1 rfl rfl qf<|sq 1<|xW<|xq (m' :=(counts.length - ((i+1):Int)).toNat) qf ⟨_,i+1,_,_,_,uE7,?_,?_,?_,rfl,N,H.pick [1,2,3] (0::zR 8 6)⟩
    ·omega
    ·first | exact qt.to (fun p q=>by rw [puts_no (i:=i) ql]) qf | exact gx.to (fun p q=>by rw [show k=((s.qB[i]!).xx).length by omega,puts_yes (i:=i) ql];simp only [putF];omega) qf
    ·omega
   have po:=outPl_out (r:=s.qB[i]!) p15 p1.2.2.1 qc qf
   refine XQ rfl H [0,1,2,3,4,5,7,8] fun H=>?_
   have S:=H.zK [0,1,2,3,4,5,7,8]<|zR 0 17
   refine rtp 0 (.func (.func 130) #[] #[pp Eq 0,pp AJ 0]) S ?_
   refine rt 1 _ (yh (cs:=[yI s.qP,Sv xf s.qA.length qZ,Sv (aa lT o18) s.qB.length xC]) isAgg27 sizeOf27 rfl<|fun _ h=>qK (h.cells 4 rfl) 0 3) S ?_
   refine tF 3 rfl rfl S ?_
   refine tL 4 rfl rfl (fun _ h=>h.cell 1 rfl rfl) S ?_
   refine ro 2 rfl<|oq (around_ok _ s (H.get 11 rfl).1 (H.get 12 rfl).1) H fun abX H=>⟨H.pick [0,1,2,3,4,5,7,8]<|zR 0 17,(ro 5 rfl<|zX #[yI s.qA.length,Sv lh (((s.qB[i]!).QP).length) lq,pp Eq 0,pp AJ 0] rfl rfl call130<|en func130 ntmps130 ?_)⟩
   refine XQ rfl H [0,1,2,3,4,5,7,8] fun H=>?_
   have S:=H.zK [0,1,2,3,4,5,7,8]<|zR 0 17
   refine tL 0 rfl rfl (fun _ h=>h.cell 2 rfl rfl) S ?_
   refine rtl 1 S ?_
   refine tL 2 rfl rfl (fun _ h=>h.cell 2 rfl rfl) S ?_
   refine rtl 3 S ?_
   refine tI 4 rfl rfl rfl S ?_
   refine rtl 6 S ?_
   refine tL 7 rfl rfl (fun _ h=>h.cell 0 rfl rfl) S ?_
   refine ro 5 rfl ?_
   obtain ⟨ak8,anf,aeB,aDR,atX,H⟩:=H.Q7 6 rfl 0 rfl (iv:=s.qA.length) s.qA.length qf qf
   refine zB (Sv ak8 ((wO[s.qA.length]!).length) anf) isAgg24 rfl (atX)<|⟨H.pick [0,1,2,3,4,5,7,8]<|zR 1 17,(ro 8 rfl ?_)⟩
   obtain ⟨u1,u2⟩:=rA.sh.row (c:=s.qA.length) qf p8 qf
   have u4:=(by first | exact pZ.Qm qf | exact sJ.Qm qf | exact sO.Qm qf | exact qa.Qm qf:XV ((s.qB[i]!).QP) (counts[i]!))
   have aB0:=H.base.size
   have aC0:=H.ltN (L:=[F56]) [1]
   refine oc (plus_ok _ (wO[s.qA.length]!) ((s.qB[i]!).QP) (counts[i]!) (H.get 0 rfl).1 (H.get 8 rfl).1 qg qg qg) ?_
   rintro aG2 aFr aul as6
   replace H:=H.zI as6 aul
   obtain ⟨abb,acm,rfl,aCB,az6⟩:=H.jW 0 rfl
   refine ⟨H.pick [1,2,3,4,5,6,8,9]<|zR 1 17,(tI 9 rfl rfl rfl (H.pick [1,2,3,4,5,6,8,9]<|zR 1 17) ?_)⟩
   refine ro 10 rfl ?_
   obtain ⟨aJY,N,azN,H⟩:=H.ve 0 rfl N<|H.vg [1]
   refine yZ true H 7 rfl 2 rfl (Sv abb ((vS (wO[s.qA.length]!) ((s.qB[i]!).QP)<|counts[i]!).length) acm) 0 rfl rfl sizeOf24 rfl rfl (i:=s.qA.length) qf qf qm fun awC ang agJ alT H=>?_
   replace N:Fresh w.heap.size [agJ]:=(N.pick [1,0]).repl alT
   refine ⟨H.pick [1,2,3,4,5,6,8,9]<|zR 3 17,(xy qh ((ret0 rfl ⟨_,rfl,?_⟩)))⟩
   replace H:=H.erases [0]
   dsimp only [zD,List.eraseIdx,List.set] at H
   obtain ⟨ain,Hj⟩:∃ z,z=(wO.set s.qA.length (vS (wO[s.qA.length]!) ((s.qB[i]!).QP) (counts[i]!))):=⟨_,rfl⟩
   rw [← Hj] at H
   have G6:=Ent.add (D:=1000000) rA Hj qf (by first | exact pZ.mul qf | exact sJ.mul qf | exact sO.mul qf | exact qa.mul qf) qf
   have arT:=G6.sh.1
   have f6:=G6
   refine ⟨H.pick [0,1,2,3,4,5,7,8]<|zR 3 17,(xy qh<|t_n<|zcr<|oF rfl<|oL rfl (H.cell 1 rfl rfl)<|oN rfl<|sp (yI 0)<|zjn<|xg ?_)⟩
   refine zU ((fun Z0 Z1 Z2 Z3 Z4 Z5 Z6 Z7 Z8 Z9 fH fZ iw kH mh mj sf Aw DA IJ J5=>fun m' ρ NP=>∃ (xI:Env) (k:Nat) (ew:yLL) (ik:List Value) (fT:yLN),ρ=upd (upd (upd (upd xI 10<|.func (.func 130) #[] #[pp Eq 0,pp AJ 0]) 40<|Sv io (((s.qB[i]!).xx).length) iu) 41<|yI (((s.qB[i]!).xx).length)) 42 (yI k)/\((k:Int)<=(((s.qB[i]!).xx).length))/\(Ent (s.qA.length+1) (vP s) (fun p q=>XL s t counts cell i p q+at' p (s.qB[i]!).qX.toNat (((counts)[i]!) * ((s.qB[i]!).jK)[q]!)+at' p (outPl s t<|s.qB[i]!) (((counts)[i]!) * ((s.qB[i]!).QP)[q]!)+intoF (s.qB[i]!) ((counts)[i]!) k p q) (3000000+6000000 * i+1000000 * k) ew)/\(ew.length=s.qA.length+1)/\m' =((((s.qB[i]!).xx).length) - (k:Int)).toNat/\Fresh w.heap.size [fT]/\St w NP [Z0,Z1,Z2,Z3,Z4,Z5,rr (aa b36 0) ((ji s<|s.qA.length+1).length) TY 24 1 ik,Z6,Z7] [qL true fT ik ew,Z8,Z9,fH,fZ,iw,kH,mh,mj,sf,Aw,DA,IJ,J5]) _ _ _ _ _ _ _ _ _ _ _ _ _ _ _ _ _ _ _ _ _) (((((s.qB[i]!).xx).length) - (0:Int)).toNat) ⟨_,0,ain,ang,agJ,uE4,qf,(by exact f6.to (fun p q=>by rw [po];simp only [intoF];first | omega | (simp only [Int.toNat_natCast];omega)) qf),qf,rfl,N,H.pick (zR 0 9) (0::6::7::8::9::10::11::12::zR 14 6)⟩ ?_
   clear H N
   rintro m' ρ axS ⟨xI,k,ew,ik,fT,rfl,i0,gx,OI,rfl,N,H⟩
   have AA:=H.xe (α:=yLI) 6 rfl 0 rfl qj
   refine zcr<|sq 1<|zjn<|xH<|cD rfl (fun A4=>?_)<|fun A4=>?_
   ·have qi:=q.2.2.2.2.2.2.2.2.2.2 k qf
    have qi1:=qi.1
    have qa:=qi.2.2.1
    have ln4:=qa.len
    refine xk<|t_n<|xH<|xg<|zcr ?_
    obtain ⟨aHk,aID,rfl⟩:=H.addr 6 rfl qf
    obtain ⟨ur,tR,aq1,H⟩:=H.QU 6 rfl k k qf qf qf
    refine oI rfl rfl<|sw<|zi [yI ((((s.qB[i]!).xx)[k]!).qX),Sv ur (((((s.qB[i]!).xx)[k]!).XH).length) tR] isAgg161 sizeOf161 rfl (qK (H.get 1 rfl) 0 2)<|sw<|xU H ti161 [yI 0,yN] fun aIj abQ H=>sw<|zC H 0 [yI ((((s.qB[i]!).xx)[k]!).qX),Sv ur (((((s.qB[i]!).xx)[k]!).XH).length) tR] sizeOf161 fun aDZ H=>zjn<|xZ<|sp (.func (.func 130) #[] #[pp Eq 0,pp AJ 0])<|oF rfl<|oL rfl (H.cell 0 rfl rfl)<|oF rfl<|oL rfl (H.cell 0 rfl rfl)<|sw<|zX #[yI ((((s.qB[i]!).xx)[k]!).qX),Sv ur (((((s.qB[i]!).xx)[k]!).XH).length) tR,pp Eq 0,pp AJ 0] rfl rfl call130<|en func130 ntmps130 ?_
    refine XQ rfl H [0,1,2,3,4,5,6,8,9] fun H=>?_
    have S:=H.zK [0,1,2,3,4,5,6,8,9]<|zR 0 16
    refine tL 0 rfl rfl (fun _ h=>h.cell 3 rfl rfl) S ?_
    refine rtl 1 S ?_
    refine tL 2 rfl rfl (fun _ h=>h.cell 3 rfl rfl) S ?_
    refine rtl 3 S ?_
    refine tI 4 rfl rfl rfl S ?_
    refine rtl 6 S ?_
    refine tL 7 rfl rfl (fun _ h=>h.cell 1 rfl rfl) S ?_
    refine ro 5 rfl ?_
    obtain ⟨axR,awu,aHZ,aI7,ayC,H⟩:=H.Q7 7 rfl 2 rfl (iv:=(((s.qB[i]!).xx)[k]!).qX) (((((s.qB[i]!).xx)[k]!).qX).toNat) qf qf
    refine zB (Sv axR ((ew[((((s.qB[i]!).xx)[k]!).qX).toNat]!).length) awu) isAgg24 rfl (ayC)<|⟨H.pick [0,1,2,3,4,5,6,8,9]<|zR 1 16,(ro 8 rfl ?_)⟩
    obtain ⟨u1,u2⟩:=gx.sh.row (c:=((((s.qB[i]!).xx)[k]!).qX).toNat) qf p8 qf
    have u4:=(by first | exact pZ.Qm qf | exact sJ.Qm qf | exact sO.Qm qf | exact qa.Qm qf:XV ((((s.qB[i]!).xx)[k]!).XH) (counts[i]!))
    have aAA:=H.base.size
    have aBZ:=H.ltN (L:=[fT]) [3]
    refine oc (plus_ok _ (ew[((((s.qB[i]!).xx)[k]!).qX).toNat]!) ((((s.qB[i]!).xx)[k]!).XH) (counts[i]!) (H.get 0 rfl).1 (H.get 1 rfl).1 qg qg qg) ?_
    rintro aEd aaU avF avG
    replace H:=H.zI avG avF
    obtain ⟨auc,avc,rfl,aCo,aCp⟩:=H.jW 0 rfl
    refine ⟨H.pick [1,2,3,4,5,6,7,9,10]<|zR 1 16,(tI 9 rfl rfl rfl (H.pick [1,2,3,4,5,6,7,9,10]<|zR 1 16) ?_)⟩
    refine ro 10 rfl ?_
    obtain ⟨Kg,N,U8,H⟩:=H.ve 0 rfl N<|H.vg [3]
    refine yZ true H 8 rfl 4 rfl (Sv auc ((vS (ew[((((s.qB[i]!).xx)[k]!).qX).toNat]!) ((((s.qB[i]!).xx)[k]!).XH)<|counts[i]!).length) avc) 0 rfl rfl sizeOf24 rfl rfl (i:=(((((s.qB[i]!).xx)[k]!).qX).toNat)) qf qf qm fun Sj azG avv amB H=>?_
    replace N:Fresh w.heap.size [avv]:=(N.pick [1,0]).repl amB
    refine ⟨H.pick [1,2,3,4,5,6,7,9,10]<|zR 3 16,(xy qh ((ret0 rfl ⟨_,rfl,?_⟩)))⟩
    replace H:=H.erases [0]
    dsimp only [zD,List.eraseIdx,List.set] at H
    obtain ⟨aBj,Gt⟩:∃ z,z=(ew.set (((((s.qB[i]!).xx)[k]!).qX).toNat) (vS (ew[((((s.qB[i]!).xx)[k]!).qX).toNat]!) ((((s.qB[i]!).xx)[k]!).XH) (counts[i]!))):=⟨_,rfl⟩
    rw [← Gt] at H
    have HR:=Ent.add (D:=1000000) gx Gt qf (by first | exact pZ.mul qf | exact sJ.mul qf | exact sO.mul qf | exact qa.mul qf) qf
    have asA:=HR.sh.1
    have f6:=HR
    refine xW<|b_n<|t_n<|xZ<|sw<|zV k 1 rfl rfl qf<|sq 1<|xW<|xq (m' :=((((s.qB[i]!).xx).length) - ((k+1):Int)).toNat) qf ⟨_,k+1,_,_,_,uE4,?_,?_,?_,rfl,N,H.pick (zR 1 9) (0::zR 6 13)⟩
    ·omega
    ·exact f6.to (fun p q=>by simp only [intoF];omega) qf
    ·omega
   refine c_exit<|t_x<|t_x<|b_x<|ret0 rfl ⟨_,rfl,?_⟩
   replace H:=H.erases [4,3,2,1,0]
   dsimp only [zD,List.eraseIdx,List.set] at H
   refine xW<|b_n<|t_n<|xZ<|sw<|zV i 1 rfl rfl qf<|sq 1<|xW<|xq (m' :=(counts.length - ((i+1):Int)).toNat) qf ⟨_,i+1,_,_,_,uE7,?_,?_,?_,rfl,N,H.pick [1,2,3] (0::zR 8 6)⟩
   ·omega
   ·first | exact qt.to (fun p q=>by rw [puts_no (i:=i) ql]) qf | exact gx.to (fun p q=>by rw [show k=((s.qB[i]!).xx).length by omega,puts_yes (i:=i) ql];simp only [putF];omega) qf
   ·omega
  refine xk<|b_n<|t_n<|xZ<|sw<|zV i 1 rfl rfl qf<|sq 1<|xW<|xq (m' :=(counts.length - ((i+1):Int)).toNat) qf ⟨_,i+1,_,_,_,uE7,?_,?_,?_,rfl,N,H.pick [1,2,3]<|zR 7 7⟩
  ·omega
  ·first | exact qt.to (fun p q=>by rw [puts_no (i:=i) ql]) qf | exact gx.to (fun p q=>by rw [show k=((s.qB[i]!).xx).length by omega,puts_yes (i:=i) ql];simp only [putF];omega) qf
  ·omega
 refine zx4<|zcr<|sq 2<|zjr<|rH1 (Sv ra5 ((ji s<|s.qA.length+1).length) TY) H ?_
 rw [show jU s t counts cell=bags from (qt.to (fun p q=>by rw [show i=s.qB.length by omega])<|Int.le_refl _).tab.symm]
 exact ⟨ra5,(ji s<|s.qA.length+1).length,TY,nB,fV,rfl,N,H.pick [0] [0]⟩
end
section
theorem get_set {α:Type} [Inhabited α] (l:List α) (i j:Nat) (v:α) (hi:i < l.length):(l.set i v)[j]! =if i=j then v else l[j]! :=by
 by_cases hj:j < l.length
 ·rw [getElem!_pos _ _<|by rw [List.length_set];exact hj,List.getElem_set,getElem!_pos l j hj]
 ·rw [getElem!_neg _ _<|by rw [List.length_set];exact hj,getElem!_neg l j hj,if_neg qf]
theorem plusL_get {l m:yLI} (h:j < l.length):(vS l m 1)[j]! =l[j]! +m[j]! :=by
 rw [getElem!_pos _ _<|by rw [Qq];exact h]
 simp [vS,plusTo]
theorem rep_get (n j:Nat):(List.replicate n (0:Int))[j]! =0:=by
 by_cases h:j < n
 ·rw [getElem!_pos _ _<|by simpa using h];simp
 ·rw [getElem!_neg _ _<|by simpa using h];rfl
def kidIn (s:qM) (t:xh) (k:Int) (j:Nat):Bool:=t.xn[j]! && (zG s t j == k)
def kidsTo (s:qM) (t:xh) (k:Int) (n:Nat):yLI:=((List.range n).filter<|kidIn s t k).map fun j:Nat=>(j:Int)
section
variable {s : qM} {t : xh} {c : Int}
structure XW (s:qM) (t:xh) (c:Int):Prop where
 frame:yK s
 state:vM s t
 cell:CellIn s c
 skin:c≠0
 alive:t.xn[c.toNat]! =true
theorem XW.pos (h:XW s t c):0 < c:=by have:=h.cell.1;have:=h.skin;omega
theorem XW.par (h:XW s t c):0<=zG s t c/\zG s t c < c/\t.xn[(zG s t c).toNat]! =true:=parentNow_in h.frame h.state.2.2.1 h.pos h.cell.2
theorem XW.alive' (h:XW s t c) (j:Nat):(melted s t c).xn[j]! =if c.toNat=j then false else t.xn[j]! :=by
 have:=h.cell;have:=h.state.1
 exact get_set _ _ _ _ qf
theorem XW.bags' (h:XW s t c) (j:Nat):(melted s t c).qG[j]! =if c.toNat=j then List.replicate s.qP.toNat 0 else if (zG s t c).toNat=j then vS (t.qG[(zG s t c).toNat]!) (t.qG[c.toNat]!) 1 else t.qG[j]! :=by
 have:=h.cell;have:=h.state.2.1;have hp:=h.par
 show ((t.qG.set _ _).set _ _)[j]! =_
 rw [get_set _ _ _ _<|by rw [List.length_set];omega,get_set _ _ _ _ qf]
def Few5 (t:xh):Prop:=(∀ k,k < t.qG.length->∀ j,j < (t.qG[k]!).length->(t.qG[k]!)[j]! <=5)/\∀ j,j < t.qE.length->t.qE[j]! <=5
def allTo (t:xh):Nat->yLI
 | 0=>t.qE
 | k+1=>vS (allTo t k) (t.qG[k]!) 1
theorem allTo_len (t:xh):∀ k,(allTo t k).length=t.qE.length
 | 0=>rfl
 | k+1=>by rw [allTo,Qq,allTo_len t k]
def colTo (t:xh) (j:Nat):Nat->Int
 | 0=>0
 | k+1=>colTo t j k+(t.qG[k]!)[j]!
theorem allTo_get (t:xh) {j:Nat} (hj:j < t.qE.length):∀ k,(allTo t k)[j]! =t.qE[j]! +colTo t j k
 | 0=>by simp [allTo,colTo]
 | k+1=>by
  rw [allTo,plusL_get<|by rw [allTo_len];exact hj,allTo_get t hj k,colTo]
  omega
theorem XW.lens (h:XW s t c) {k:Nat} (hk:k < s.qA.length):(t.qG[k]!).length=s.qP.toNat:=by
 have:=(h.state.bagLen (k:=k)<|by rw [h.state.2.1];exact hk).2
 omega
theorem XW.col (h:XW s t c) {j:Nat} (hj:j < s.qP.toNat):∀ k,colTo (melted s t c) j k=colTo t j k+(if (zG s t c).toNat < k then (t.qG[c.toNat]!)[j]! else 0) - (if c.toNat < k then (t.qG[c.toNat]!)[j]! else 0)
 | 0=>by simp [colTo]
 | k+1=>by
  have hp:=h.par
  have hc:=h.cell
  rw [colTo,colTo,XW.col h hj k,h.bags']
  by_cases e1:c.toNat=k
  ·subst e1
   rw [if_pos rfl,rep_get,if_neg<|show ¬ c.toNat < c.toNat by omega,if_pos<|show c.toNat < c.toNat+1 by omega,if_pos<|show (zG s t c).toNat < c.toNat by omega,if_pos<|show (zG s t c).toNat < c.toNat+1 by omega]
   omega
  ·rw [if_neg e1]
   by_cases e2:(zG s t c).toNat=k
   ·subst e2
    rw [if_pos rfl,plusL_get<|by rw [h.lens qf];exact hj,if_neg<|show ¬ (zG s t c).toNat < (zG s t c).toNat by omega,if_pos<|show (zG s t c).toNat < (zG s t c).toNat+1 by omega,
     if_neg (show ¬ c.toNat < (zG s t c).toNat by omega),if_neg<|show ¬ c.toNat < (zG s t c).toNat+1 by omega]
    omega
   ·rw [if_neg e2]
    have a1:((zG s t c).toNat < k+1)=((zG s t c).toNat < k):=by apply propext;omega
    have a2:(c.toNat < k+1)=(c.toNat < k):=by apply propext;omega
    simp only [a1,a2]
    omega
theorem XW.total (h:XW s t c):allTo (melted s t c) s.qA.length=allTo t s.qA.length:=by
 have hp:=h.par
 have hc:=h.cell
 have hl:(melted s t c).qE=t.qE:=rfl
 have hk:t.qE.length=s.qP.toNat:=by have:=h.state.2.2.2.1.2;omega
 apply List.ext_getElem
 ·rw [allTo_len,allTo_len,hl]
 ·intro j h1 h2
  rw [allTo_len] at h2
  rw [← getElem!_pos,← getElem!_pos,allTo_get _<|by rw [hl];exact h2,allTo_get _ h2,h.col qf,if_pos qf,if_pos qf,hl]
  omega
theorem XW.ok (h:XW s t c) (hf:Few5 t):vM s (melted s t c):=by
 have hp:=h.par
 have hc:=h.cell
 have ht:=h.state
 have e1:(melted s t c).xn.length=t.xn.length:=by simp [melted]
 have e2:(melted s t c).qG.length=t.qG.length:=by simp [melted]
 refine ⟨by rw [e1];exact ht.1,by rw [e2];exact ht.2.1,by rw [h.alive',if_neg (by have:=h.pos;omega)];exact ht.2.2.1,ht.2.2.2.1,fun k hk=>?_⟩
 rw [e2] at hk
 rw [h.bags',h.alive']
 have hkk:=ht.2.1
 by_cases g1:c.toNat=k
 ·rw [if_pos g1,if_pos g1]
  have hK:=h.frame.1
  refine ⟨⟨⟨fun j hj=>by rw [rep_get];omega,by simp;omega,by simp;omega⟩,by simp;omega⟩,fun _=>?_⟩
  have hz:∀ n,sumTo (List.replicate s.qP.toNat 0) n=0:=by
   intro n
   induction n with
   | zero=>simp [sumTo]
   | succ n ih=>simp only [sumTo,ih,rep_get];omega
  unfold sumL
  rw [hz]
  omega
 ·rw [if_neg g1,if_neg g1]
  by_cases g2:(zG s t c).toNat=k
  ·rw [if_pos g2]
   subst g2
   have bp:=ht.bagLen hk
   have bc:=ht.bagLen (k:=c.toNat) qf
   refine ⟨⟨⟨fun j hj=>?_,by rw [Qq];exact bp.1.2.1,by rw [Qq];exact bp.1.2.2⟩,by rw [Qq];exact bp.2⟩,fun hd=>?_⟩
   ·rw [Qq] at hj
    rw [plusL_get hj]
    have hj2:j < (t.qG[c.toNat]!).length:=by have:=bp.2;have:=bc.2;omega
    have a1:=bp.1.1 j hj
    have a2:=bc.1.1 j hj2
    have a3:=hf.1 _ hk j hj
    have a4:=hf.1 c.toNat qf j hj2
    omega
   ·rw [hp.2.2] at hd;cases hd
  ·rw [if_neg g2]
   exact ht.2.2.2.2 k hk
end
open Classical in
noncomputable def pnV (s:qM) (t:xh) (c:Int):Int:=if cellCodeOf s t c=0 then zG s t c else 0
open Classical in
noncomputable def kidsV (s:qM) (t:xh) (c:Int):yLI:=if cellCodeOf s t c=0 then kidsTo s t c s.qA.length else []
structure CanAdd (a b:yLI):Prop where
 one:BagAny a
 two:BagAny b
 len:a.length=b.length
 sum:BagAny (vS a b 1)
structure TreeAt (s:qM) (t:xh) (c:Int):Prop where
 ah:(meltRes s t c).2=0
 cc:cellCodeOf s t c=0
 ok:QC s/\vM s (meltRes s t c).1
 dead:(meltRes s t c).1.xn[c.toNat]! =false
 par:0<=pnV s t c/\pnV s t c < s.qA.length
 kids:∀ i,i < (kidsV s t c).length->cellCodeOf s (meltRes s t c).1 ((kidsV s t c)[i]!)=0/\pnV s (meltRes s t c).1 ((kidsV s t c)[i]!)=pnV s t c
 few:(kidsV s t c).length<=6
 total:allTo (meltRes s t c).1 s.qA.length=allTo t s.qA.length
 bag:BagAny (allTo t s.qA.length)
 add:CanAdd (t.qG[(pnV s t c).toNat]!) (t.qG[c.toNat]!)
 sum:vS (t.qG[(pnV s t c).toNat]!) (t.qG[c.toNat]!) 1=(meltRes s t c).1.qG[(pnV s t c).toNat]!
def MildTo (l:List yj) (n:Nat):Prop:=∀ j,j < n->(l[j]!).jm=false
theorem MildTo.go (h:MildTo l i) (hi:i < l.length):MildTo (l.set i { l[i]! with jm:=false }) (i+1):=fun j hj=>by
 rw [getElem!_pos (l.set i _) j<|by rw [List.length_set];omega,List.getElem_set]
 split
 ·rfl
 ·have:=h j qf
  rwa [getElem!_pos l j qf] at this
theorem MildTo.here {b:yLI} (h:MildTo l n) (hi:i < l.length) (hn:n<=l.length):MildTo (l.set i { l[i]! with jK:=b }) n:=fun j hj=>by
 rw [getElem!_pos (l.set i _) j<|by rw [List.length_set];omega,List.getElem_set]
 have h1:=h j hj
 split
 ·rename_i e;subst e;exact h1
 ·rwa [getElem!_pos l j qf] at h1
def OwnDr (n:Nat) (own:yLI):Prop:=
 own.length=n/\∃ m:Nat,1<=m/\m<=3/\m<=n/\(∀ j,j < own.length->0<=own[j]! /\own[j]! < m)/\∀ q:Nat,q < m->∃ j,j < own.length/\own[j]! =q
def OwnTo (m:Int) (c:Nat) (own:yLI):Prop:=own.length=c/\∀ j,j < c->(0<=own[j]! /\own[j]! < m)/\((j:Int) < m->own[j]! =j)
theorem OwnTo.nil (m:Int):OwnTo m 0 []:=⟨rfl,fun j hj=>by omega⟩
theorem OwnTo.snoc {m v:Int} {own:yLI} (h:OwnTo m c own) (hv:0<=v/\v < m) (hc:(c:Int) < m->v=c):OwnTo m (c+1) (own++[v]):=by
 have hl:=h.1
 refine ⟨by simp [hl],fun j hj=>?_⟩
 rw [Vb]
 by_cases h1:j < c
 ·rw [if_pos qf];exact h.2 j h1
 ·have e:j=c:=by omega
  subst e
  rw [if_neg qf,if_pos qf]
  exact ⟨hv,hc⟩
theorem OwnTo.ok {m:Int} {own:yLI} (h:OwnTo m n own) (hm:1<=m/\m<=3) (hn:m<=n):OwnDr n own:=by
 have hl:=h.1
 refine ⟨hl,m.toNat,by omega,by omega,by omega,fun j hj=>?_,fun q hq=>⟨q,by omega,?_⟩⟩
 ·have:=(h.2 j qf).1;omega
 ·exact (h.2 q qf).2 qf
def TurnTo (m:Int) (c:Nat) (own pz :yLI):Prop:=pz.length=own.length/\∀ j,j < own.length->pz[j]! =if j < c then m - 1 - own[j]! else own[j]!
theorem TurnTo.zero (m:Int) (own:yLI):TurnTo m 0 own own:=⟨rfl,fun j _=>by rw [if_neg qf]⟩
theorem TurnTo.at' {m:Int} {own:yLI} (h:TurnTo m c own pz) (hc:c < own.length):pz[c]! =own[c]! :=by rw [h.2 c hc,if_neg qf]
theorem TurnTo.go {m:Int} {own:yLI} (h:TurnTo m c own pz) (hc:c < own.length):TurnTo m (c+1) own (pz.set c<|m - 1 - pz[c]!):=by
 have hl:=h.1
 refine ⟨by rw [List.length_set];exact hl,fun j hj=>?_⟩
 rw [getElem!_pos (pz.set c _) j<|by rw [List.length_set];omega,List.getElem_set]
 by_cases e:c=j
 ·subst e;rw [if_pos rfl,if_pos qf,h.at' hc]
 ·have h1:=h.2 j hj
  rw [getElem!_pos pz j qf] at h1
  rw [if_neg e,h1]
  by_cases h2:j < c
  ·rw [if_pos h2,if_pos qf]
  ·rw [if_neg h2,if_neg qf]
theorem TurnTo.ok {m:Int} {own:yLI} (t:TurnTo m n own pz) (h:OwnTo m n own) (hm:1<=m/\m<=3) (hn:m<=n):OwnDr n pz :=by
 have hl:=h.1
 have tl:=t.1
 refine ⟨by omega,m.toNat,by omega,by omega,by omega,fun j hj=>?_,fun q hq=>⟨(m - 1 - q).toNat,by omega,?_⟩⟩
 ·have h1:=(h.2 j qf).1
  rw [t.2 j qf,if_pos qf]
  omega
 ·rw [t.2 _ qf,if_pos qf,(h.2 _ qf).2 qf]
  omega
theorem OwnTo.ok' {m:Int} {own:yLI} (h:OwnTo m c own) (e:c=n) (hm:1<=m/\m<=3) (hn:m<=n):OwnDr n own:=by subst e;exact h.ok hm hn
theorem TurnTo.ok' {m:Int} {d:Nat} {own:yLI} (t:TurnTo m d own pz) (h:OwnTo m c own) (e:c=n) (e' :d=n) (hm:1<=m/\m<=3) (hn:m<=n):OwnDr n pz :=by subst e;subst e';exact t.ok h hm hn
def AllTo (alive:List Bool):Prop:=∀ j,j < alive.length->alive[j]! =true
theorem AllTo.nil:AllTo []:=fun j hj=>by simp at hj
theorem AllTo.snoc (h:AllTo alive):AllTo (alive++[true]):=fun j hj=>by
 rw [Vb]
 by_cases h1:j < alive.length
 ·rw [if_pos h1];exact h j h1
 ·rw [if_neg h1,if_pos (by simp at hj;omega)]
theorem stDr_of {kk M:Int} {bags:yLL} (h:StTo kk M c alive bags) (e:c=n) (hn:0 < n) (hk:0<=kk):StDr kk n M alive bags (List.replicate kk.toNat 0):=by
 subst e
 exact ⟨h.la,h.lb,h.skin hn,ja.zero hk qf,h.bags⟩
end
section
theorem l00Min8_ok (w:World) (a:Int) (b:Int):Calls Tryz.prog 60 #[yI a,yI b] w (Ret (fun v w' =>v=yI (min a b)) w):=by
 refine en func60 ntmps60 ?_
 have H:=St.start w
 have N:=Fresh.nil w.heap.size
 refine zcr<|sp (yI 0)<|zjcc<|sp (yI a)<|sp (yI b)<|sq 1<|zjn<|cD rfl (fun h1=>?_)<|fun h1=>?_
 ·refine zcr (sp (yI a)<|sp (yI a)<|zjr<|t_r<|rH1 (yI a) H ?_)
  first | rw [Int.min_eq_left qf] | rw [Int.min_eq_right qf]
 refine xk<|t_n<|zcr<|sp (yI b)<|sp (yI b)<|zjr<|rH1 (yI b) H ?_
 first | rw [Int.min_eq_left qf] | rw [Int.min_eq_right qf]
theorem dTissue_ok (ah:List UInt8) (ip:Int) (sd:Int) (bs:Nat) (ac:yOA) (cc:Nat) (Fc:yLN) (H:St W0 w ((.box bs [Sv ac ah.length cc,yI ip,.int .u64 sd] 116)::ps) ((sF false Fc ac cc ah)::Γ)) (N:Fresh W0.heap.size (Ns)) (K0:Kept Ns Γ) (q0:0<=ip/\ip<=30000):Calls Tryz.prog 23 #[pp bs 0] w (fun e w' =>∃ v,e=.returned v/\∃ (lx:Int) (AN:Int) (Ra:Int) (sx:yLI) (gK:List yj) (oi:List Bool) (C8:yLL) (pX:yLI) (K9:yLI) (VN:yOA) (Ur:Nat) (WY:Nat) (eG:yOA) (eo:Nat) (cC:Nat) (bZ:List Value) (aF:yLN) (raA:yOA) (rnA:Nat) (rcA:Nat) (raB:yOA) (rnB:Nat) (rcB:Nat) (rxB:List Value) (rFB:yLN) (raD:yOA) (rnD:Nat) (rcD:Nat) (K4:yOA) (KP:Nat) (Lh:Nat),(ip<=lx/\lx<=ip+5000)/\(SysDr Ra sx gK)/\(StDr Ra sx.length 6 oi C8 pX)/\(AllTo oi)/\(MildTo gK gK.length)/\(OwnDr sx.length K9)/\v=.tuple #[.agg #[yI Ra,Sv VN Ur WY,Sv eG eo cC],Sv K4 KP Lh,.agg #[Sv raA rnA rcA,Sv raB rnB rcB,Sv raD rnD rcD]]/\Fresh W0.heap.size (rFB::Ns)/\St W0 w' ((.box bs [Sv ac ah.length cc,yI lx,.int .u64 AN] 116)::(rr VN Ur WY 2 1<|sx.map<|Value.int .i64)::(rr eG eo cC 110 9 bZ)::(rr raA rnA rcA 4 1<|oi.map<|Value.bool)::(rr raB rnB rcB 24 1 rxB)::(rr raD rnD rcD 2 1<|pX.map<|Value.int .i64)::(rr K4 KP Lh 2 1<|K9.map<|Value.int .i64)::ps) ((sF false Fc ac cc ah)::(qL false aF bZ gK)::(qL true rFB rxB C8)::Γ)):=by
 refine en func23 ntmps23 ?_
 have mw:=qO (H.get 0 rfl).1
 refine zcr<|sw<|xU H ti27 [yI 0,yN,yN] fun b1 w2 H=>sq 1<|sw<|xU H ti31 [yN,yN,yN] fun b3 w4 H=>zjc<|sq 1 ?_
 have H1:=H.yw 3 1 [2,0,1] [0] (by simp only [List.length_cons,List.length_append];omega)<|by simp only [List.length_cons,List.length_append];omega
 have N1:Fresh _ (Ns):=N
 have K1:Kept (Ns) (Γ):=K0.behind 0 rfl
 refine sw<|zy #[pp bs 0] rfl rfl call57 (dSystem_ok ah ip sd bs ac cc Fc H1 N1 K1 qg) ?_
 clear H H1 N1 K1
 rintro _ w5 ⟨fo,NI,dy,fM,oy,rG,as8,uc,bE,ati,bD,acd,Iq,hx7,hx8,rfl,N,H⟩
 obtain rfl:=H.Qc 1 rfl
 obtain rfl:=H.xe (α:=yj) 2 rfl 1 rfl qj
 have sd:=(‹SysDr _ _ _›)
 have k1:=sd.kinds
 have k3:=sd.few
 have k4:=sd.rules
 have k5:=sd.cells
 refine sw<|xU H ti27 [yI 0,yN,yN] fun wt Nw H=>sw<|zC H 0 [yI dy,Sv rG fM.length uc,Sv bE oy.length bD] sizeOf27 fun JE H=>?_
 try dsimp only [List.set] at H
 refine zjcc<|sp (yI 0)<|zjn<|xg ?_
 replace H:=H.unfree 1 rfl
 refine zU ((fun Z0 Z1 Z2 Z3 Z4=>fun m' ρ Ea=>∃ (xI:Env) (i:Nat) (eH:Int) (dA:Int) (au:List yj) (yl:List Value) (zh:yLN),ρ=upd (upd (upd (upd (upd xI 0<|pp bs 0) 2<|pp b1 0) 4<|pp b3 0) 5<|pp wt 0) 6 (yI i)/\((i:Int)<=oy.length)/\(ip<=eH/\eH<=ip+(2000+2 * i))/\(au.length<=5)/\(Qk dy fM au)/\(MildTo au i)/\m' =(oy.length - (i:Int)).toNat/\Fresh W0.heap.size (Ns)/\St W0 Ea (Z0::(.box bs [Sv ac ah.length cc,yI eH,.int .u64 dA] 116)::Z1::(rr bE oy.length bD 110 9 yl)::Z2::Z3::ps) (Z4::(qL false zh yl au)::Γ)) _ _ _ _ _) ((oy.length - (0:Int)).toNat) ⟨_,0,fo,NI,oy,acd,Iq,uE5,qf,qf,qf,(by exact k4),qx,rfl,(N.qY 1 []<|by simp only [List.length_cons,List.length_append];omega),H.qY 6 3 (zR 0 6) [1,0] (by simp only [List.length_cons,List.length_append];omega)<|by simp only [List.length_cons,List.length_append];omega⟩ ?_
 clear H N
 rintro m' ρ Ky ⟨xI,i,eH,dA,au,yl,zh,rfl,i0,j1,j2,j3,j4,rfl,N,H⟩
 have EH:=H.xe (α:=yj) 3 rfl 1 rfl qj
 refine zcc<|sp (yI i)<|oF rfl<|oL rfl (H.cell 0 rfl rfl)<|oN rfl<|sq 1<|zjn<|cD rfl (fun oY=>?_)<|fun oY=>?_
 ·refine xk (t_n<|xH<|xg<|zcr<|oF rfl<|oL rfl (H.cell 0 rfl rfl)<|sp (yI i) ?_)
  obtain ⟨b28,rfl⟩:=H.jg 3 rfl qf
  obtain ⟨ue,vm,NC,tj,wd,PC,t7,vr,Oh,uG,wb,OH,za,AE,Tm,we,tH,Pk,E9,H⟩:=H.rowel_RuleD 3 rfl 1 rfl (iv:=i) i qf qf
  refine oI rfl rfl<|oF rfl<|sw<|o_storePart H 3 rfl (Bv false) sizeOf4 rfl rfl rfl (part_lt<|E9 8 _ rfl) fun w31 H=>?_
  have aka:=part_get (cells:=[yI ((au[i]!).qX),yI ((au[i]!).yQ),Sv ue (((au[i]!).zT).length) vm,Sv tj (((au[i]!).jV).length) wd,Sv t7 (((au[i]!).jX).length) vr,Sv uG (((au[i]!).jK).length) wb,Sv za (((au[i]!).QP).length) AE,Sv we (((au[i]!).xx).length) tH,Bv ((au[i]!).jm)]) E9 8 (Bv false)<|Nat.le_of_ble_eq_true rfl
  replace aka:∀ (q:Nat) (v:Value),([yI ((au[i]!).qX),yI ((au[i]!).yQ),Sv ue (((au[i]!).zT).length) vm,Sv tj (((au[i]!).jV).length) wd,Sv t7 (((au[i]!).jX).length) vr,Sv uG (((au[i]!).jK).length) wb,Sv za (((au[i]!).QP).length) AE,Sv we (((au[i]!).xx).length) tH,Bv false]:List Value)[q]? =some v->(yl.set (0+(i:Int).toNat * 9+8)<|Bv false)[0+(i:Int).toNat * 9+q]? =some v:=aka
  try dsimp only [List.set] at H
  obtain ⟨F33,H⟩:=H.part_8 7 rfl false (iv:=i) i qf<|by first | omega | (simp only [List.length_set];omega)
  try dsimp only [List.set] at H
  refine zjc<|sq 1 ?_
  have H1:=H.yw 6 9 [1,0,2,3,4,5] [7,0,1,2,3,4,5,6,8] (by simp only [List.length_cons,List.length_append];omega)<|by simp only [List.length_cons,List.length_append];omega
  have N1:Fresh _ (Ns):=N
  have K1:Kept (Ns) ((qL false F33 (yl.set (0+(i:Int).toNat * 9+8)<|Bv false)<|au.set i { au[i]! with jm:=false })::(sF false NC ue vm ((au[i]!).zT))::(sF false PC tj wd ((au[i]!).jV))::(sF false Oh t7 vr ((au[i]!).jX))::(sF false OH uG wb ((au[i]!).jK))::(sF false Tm za AE ((au[i]!).QP))::(sF false Pk we tH ((au[i]!).xx))::(qL false zh yl au)::Γ):=K0.behind 8 rfl
  refine sw<|zy #[pp bs 0,yI 2] rfl rfl call58 (dOne_ok ah eH dA bs ac cc Fc (2:Int) H1 N1 K1 qg) ?_
  clear H H1 N1 K1
  rintro _ w34 ⟨wU,pd,aEO,aKt,rfl,N,H⟩
  refine zjn<|vk _ rfl (fun P9=>?_)<|fun P9=>?_
  ·refine c_drawK2 rfl H [0,1,2,4,5] [0,1,2,3,4,5,6,7,8] fun H=>?_
   have S:=H.zK [0,1,2,4,5]<|zR 0 9
   refine tF 0 rfl rfl S ?_
   refine tL 1 rfl rfl (fun _ h=>h.cell 1 rfl rfl) S ?_
   refine rtp 2 (yI i) S ?_
   refine tF 3 rfl rfl S ?_
   refine tL 4 rfl rfl (fun _ h=>h.cell 1 rfl rfl) S ?_
   refine ro 5 rfl<|jE H underlying24 ti2 dy.toNat rfl rfl qf qf qf fun Tx w43 H=>⟨H.pick [1,2,3,5,6]<|zR 0 9,?_⟩
   obtain ⟨BI,Cx,agT,Do,BY,ajj,Cm,Bt,akR,LH,Mr,aoF,HV,HW,asU,Dr,DJ,ahC,RC,H⟩:=H.rowel_RuleD 4 rfl 1 rfl (iv:=i) i qf qf
   have S:=H.zK [1,2,3,5,6]<|zR 6 9
   refine tI 6 rfl rfl rfl S ?_
   refine tF 7 rfl rfl S ?_
   refine ro 8 rfl<|o_storePart H 4 rfl (Sv (aa Tx 0) dy.toNat dy.toNat) sizeOf24 rfl rfl rfl (part_lt<|RC 5 _ rfl) fun S8 H=>?_
   have L8:=part_get (cells:=[yI (((au.set i { au[i]! with jm:=false })[i]!).qX),yI (((au.set i { au[i]! with jm:=false })[i]!).yQ),Sv BI ((((au.set i { au[i]! with jm:=false })[i]!).zT).length) Cx,Sv Do ((((au.set i { au[i]! with jm:=false })[i]!).jV).length) BY,Sv Cm ((((au.set i { au[i]! with jm:=false })[i]!).jX).length) Bt,Sv LH ((((au.set i { au[i]! with jm:=false })[i]!).jK).length) Mr,Sv HV ((((au.set i { au[i]! with jm:=false })[i]!).QP).length) HW,Sv Dr ((((au.set i { au[i]! with jm:=false })[i]!).xx).length) DJ,Bv (((au.set i { au[i]! with jm:=false })[i]!).jm)]) RC 5 (Sv (aa Tx 0) dy.toNat dy.toNat)<|Nat.le_of_ble_eq_true rfl
   replace L8:∀ (q:Nat) (v:Value),([yI (((au.set i { au[i]! with jm:=false })[i]!).qX),yI (((au.set i { au[i]! with jm:=false })[i]!).yQ),Sv BI ((((au.set i { au[i]! with jm:=false })[i]!).zT).length) Cx,Sv Do ((((au.set i { au[i]! with jm:=false })[i]!).jV).length) BY,Sv Cm ((((au.set i { au[i]! with jm:=false })[i]!).jX).length) Bt,Sv (aa Tx 0) dy.toNat dy.toNat,Sv HV ((((au.set i { au[i]! with jm:=false })[i]!).QP).length) HW,Sv Dr ((((au.set i { au[i]! with jm:=false })[i]!).xx).length) DJ,Bv (((au.set i { au[i]! with jm:=false })[i]!).jm)]:List Value)[q]? =some v->((yl.set (0+(i:Int).toNat * 9+8)<|Bv false).set (0+(i:Int).toNat * 9+5)<|Sv (aa Tx 0) dy.toNat dy.toNat)[0+(i:Int).toNat * 9+q]? =some v:=L8
   try dsimp only [List.set] at H
   refine ⟨H.pick [1,2,3,5,6]<|zR 6 9,(xy qh<|b_n<|t_n<|xZ<|sp (yI i)<|sw<|zV i 1 rfl rfl (by (first | omega | (have o7:=o5 qf;have o8:=(o6 qf).1;omega)))<|sq 1<|xW ?_)⟩
   obtain ⟨G48,N,aEb,H⟩:=H.ve 0 rfl N<|fun F hF b hb=>(List.mem_append.1<|show F∈[]++Ns from hF).elim (fun h=>(H.vg (L:=[]) []) F h b hb) fun h=>H.jH (K0.behind 15 rfl) F h b hb
   try dsimp only [List.set] at H
   obtain ⟨F50,H⟩:=H.part_5 8 rfl 0 rfl (iv:=i) i qf<|by first | omega | (simp only [List.length_set];omega)
   try dsimp only [List.set] at H
   refine xq (m' :=(oy.length - ((i+1):Int)).toNat) qf ⟨_,i+1,_,_,_,_,_,uE5,?_,?_,?_,?_,?_,rfl,(N.qY 1 []<|by simp only [List.length_cons,List.length_append];omega),H.qY 7 17 [2,1,3,4,5,6] [8,0] (by simp only [List.length_cons,List.length_append];omega)<|by simp only [List.length_cons,List.length_append];omega⟩
   ·omega
   ·omega
   ·simp only [List.length_set];omega
   ·(repeat' (first | assumption | exact j3 | exact ja.zero qf qf | (simp only [List.length_set];omega) | omega | apply Qk.here | apply Qk.still))
   ·first | exact j4.go qf | exact (j4.go qf).here (by simp only [List.length_set];omega)<|by simp only [List.length_set];omega
  refine xk<|b_n<|t_n<|xZ<|sp (yI i)<|sw<|zV i 1 rfl rfl (by (first | omega | (have o7:=o5 qf;have o8:=(o6 qf).1;omega)))<|sq 1<|xW<|xq (m' :=(oy.length - ((i+1):Int)).toNat) qf ⟨_,i+1,_,_,_,_,_,uE5,?_,?_,?_,?_,?_,rfl,N,H.qY 6 9 [1,0,2,3,4,5] [0,1] (by simp only [List.length_cons,List.length_append];omega)<|by simp only [List.length_cons,List.length_append];omega⟩
  ·omega
  ·omega
  ·simp only [List.length_set];omega
  ·(repeat' (first | assumption | exact j3 | exact ja.zero qf qf | (simp only [List.length_set];omega) | omega | apply Qk.here | apply Qk.still))
  ·first | exact j4.go qf | exact (j4.go qf).here (by simp only [List.length_set];omega)<|by simp only [List.length_set];omega
 refine zx4<|zcr<|sw<|jk H underlying24 ti2 fun b51 w52 H=>sq 1<|zjc<|sq 1<|oF rfl<|oL rfl (H.cell 1 rfl rfl)<|oN rfl<|sw<|oq (l00Min8_ok w52 3 fM.length) H fun w54 H=>?_
 have m1:(min 3 fM.length:Int)<=3:=Int.min_le_left _ _
 have m2:(min 3 fM.length:Int)<=fM.length:=Int.min_le_right _ _
 have m0:1<=(min 3 fM.length:Int):=Int.le_min.2 ⟨by omega,by omega⟩
 have H1:=H.yw 7 2 [2,0,1,3,4,5,6] [0,1] (by simp only [List.length_cons,List.length_append];omega)<|by simp only [List.length_cons,List.length_append];omega
 have N1:Fresh _ (Ns):=N
 have K1:Kept (Ns) ((qL false zh yl au)::Γ):=K0.behind 1 rfl
 refine sw<|zy #[pp bs 0,yI<|min 3 fM.length] rfl rfl call59 (yM ah eH dA bs ac cc Fc (min 3 fM.length) H1 N1 K1 qg) ?_
 clear H H1 N1 K1
 rintro _ w56 ⟨sn,CT,pe,aEy,aI4,rfl,N,H⟩
 refine sw<|zV 1 pe rfl rfl (by (first | omega | (have o7:=o5 qf;have o8:=(o6 qf).1;omega)))<|sq 1<|zjcc<|sp (yI 0)<|zjn<|xg ?_
 replace H:=H.boxRowI 1 [] 0
 try dsimp only [List.set] at H
 refine zU ((fun Z0 Z1 Z2 Z3 Z4 Z5 Z6=>fun m' ρ w63=>∃ (xI:Env) (Vg:yOA) (Q8:Nat) (Vd:Nat) (dQ:yLI) (c:Nat) (dl:Int) (dp:Int),ρ=upd (upd (upd (upd (upd (upd (upd xI 0<|pp bs 0) 2<|pp b1 0) 4<|pp b3 0) 5<|pp wt 0) 7<|Sv Vg Q8 Vd) 8<|yI<|1+pe) 9 (yI c)/\((c:Int)<=fM.length)/\(ip<=dl/\dl<=ip+(2020+2 * c))/\(OwnTo (1+pe) c dQ)/\m' =(fM.length - (c:Int)).toNat/\Fresh W0.heap.size (Ns)/\St W0 w63 ((.box bs [Sv ac ah.length cc,yI dl,.int .u64 dp] 116)::(rr Vg Q8 Vd 2 1<|dQ.map<|Value.int .i64)::Z0::Z1::Z2::Z3::Z4::ps) (Z5::Z6::Γ)) _ _ _ _ _ _ _) ((fM.length - (0:Int)).toNat) ⟨_,(aa b51 0),0,0,([]:yLI),0,sn,CT,uE7,qf,qf,(by exact OwnTo.nil _),rfl,N,H⟩ ?_
 clear H N
 rintro m' ρ w64 ⟨xI,Vg,Q8,Vd,dQ,c,dl,dp,rfl,i0,o1,o2,rfl,N,H⟩
 have xt:=H.Qc 1 rfl
 have o9:=o2.1
 refine zcc<|sp (yI c)<|oF rfl<|oL rfl (H.cell 2 rfl rfl)<|oN rfl<|sq 1<|zjn<|cD rfl (fun h65=>?_)<|fun h65=>?_
 ·refine xk (t_n<|xH<|xg<|zcr<|sp (yI c)<|sq 1<|sp (Bv<|decide ((c:Int) < (1+pe)))<|zjn<|cD rfl (fun h66=>?_)<|fun h66=>?_)
  ·refine xZ (sq 1<|sp (yI c)<|sw<|zx H underlying24 ti2 [yI c] fun b67 w68 H=>sw<|zJ H 2 rfl 0 rfl underlying24 ti2 rfl qj rfl rfl rfl qw qp qf fun a69 c70 w71 H=>?_)
   rw [snocI] at H
   try dsimp only [List.set] at H
   refine sq 1<|xW<|b_n<|t_n<|xZ<|sp (yI c)<|sw<|zV c 1 rfl rfl (by (first | omega | (have o7:=o5 qf;have o8:=(o6 qf).1;omega)))<|sq 1<|xW<|xq (m' :=(fM.length - ((c+1):Int)).toNat) qf ⟨_,_,_,_,_,c+1,_,_,uE7,?_,?_,?_,rfl,N,H.qY 8 2 (zR 1 7) [0,1] (by simp only [List.length_cons,List.length_append];omega)<|by simp only [List.length_cons,List.length_append];omega⟩
   ·omega
   ·omega
   ·first | exact o2.snoc qf (fun _=>rfl) | exact o2.snoc qf<|fun h=>by omega
  refine xZ<|sq 3 ?_
  have H1:=H.yw 7 2 [0,1,2,3,4,5,6] [0,1] (by simp only [List.length_cons,List.length_append];omega)<|by simp only [List.length_cons,List.length_append];omega
  have N1:Fresh _ (Ns):=N
  have K1:Kept (Ns) ((qL false zh yl au)::Γ):=K0.behind 1 rfl
  refine sw<|zy #[pp bs 0,yI<|1+pe] rfl rfl call59 (yM ah dl dp bs ac cc Fc (1+pe) H1 N1 K1 qg) ?_
  clear H H1 N1 K1
  rintro _ Rh ⟨aKB,aKh,avM,aEj,aGQ,rfl,N,H⟩
  refine sw<|zx H underlying24 ti2 [yI avM] fun Jq WH H=>sw<|zJ H 2 rfl 0 rfl underlying24 ti2 rfl qj rfl rfl rfl qw qp qf fun a81 c82 w83 H=>?_
  rw [snocI] at H
  try dsimp only [List.set] at H
  refine sq 1<|xW<|b_n<|t_n<|xZ<|sp (yI c)<|sw<|zV c 1 rfl rfl (by (first | omega | (have o7:=o5 qf;have o8:=(o6 qf).1;omega)))<|sq 1<|xW<|xq (m' :=(fM.length - ((c+1):Int)).toNat) qf ⟨_,_,_,_,_,c+1,_,_,uE7,?_,?_,?_,rfl,N,H.qY 8 2 (zR 1 7) [0,1] (by simp only [List.length_cons,List.length_append];omega)<|by simp only [List.length_cons,List.length_append];omega⟩
  ·omega
  ·omega
  ·first | exact o2.snoc qf (fun _=>rfl) | exact o2.snoc qf<|fun h=>by omega
 refine zx4<|zcc<|sq 1 ?_
 have H1:=H.yw 7 2 [0,1,2,3,4,5,6] [0,1] (by simp only [List.length_cons,List.length_append];omega)<|by simp only [List.length_cons,List.length_append];omega
 have N1:Fresh _ (Ns):=N
 have K1:Kept (Ns) ((qL false zh yl au)::Γ):=K0.behind 1 rfl
 refine sw<|zy #[pp bs 0,yI 3] rfl rfl call58 (dOne_ok ah dl dp bs ac cc Fc (3:Int) H1 N1 K1 qg) ?_
 clear H H1 N1 K1
 rintro _ w84 ⟨TF,Ec,aDH,aKb,rfl,N,H⟩
 refine zjn<|c_cut (fun ρ VP=>∃ (xI:Env) (m5:yLI),ρ=upd (upd (upd (upd (upd xI 0<|pp bs 0) 2<|pp b1 0) 4<|pp b3 0) 5<|pp wt 0) 7 (Sv Vg Q8 Vd)/\(OwnDr fM.length m5)/\(ip<=TF/\TF<=ip+2112)/\Fresh W0.heap.size (Ns)/\St W0 VP ((.box bs [Sv ac ah.length cc,yI TF,.int .u64 Ec] 116)::(rr Vg Q8 Vd 2 1<|m5.map<|Value.int .i64)::(.box wt [yI dy,Sv rG fM.length uc,Sv bE oy.length bD] 27)::(rr rG fM.length uc 2 1<|fM.map<|Value.int .i64)::(rr bE oy.length bD 110 9 yl)::(.box b3 [yN,yN,yN] 31)::(.box b1 [yI 0,yN,yN] 27)::ps) ((sF false Fc ac cc ah)::(qL false zh yl au)::Γ)) ?_ ?_
 ·refine vk _ rfl (fun h91=>?_) (fun h91=>?_)
  ·refine zcr (sp (yI 0)<|zjn<|xg<|zU ((fun Z0 Z1 Z2 Z3 Z4 Z5 Z6 Z7=>fun m' ρ w92=>∃ (xI:Env) (bz:Nat) (ig:yLI),ρ=upd (upd (upd (upd (upd (upd (upd xI 0<|pp bs 0) 2<|pp b1 0) 4<|pp b3 0) 5<|pp wt 0) 7<|Sv Vg Q8 Vd) 8<|yI<|1+pe) 10 (yI bz)/\((bz:Int)<=Q8)/\(TurnTo (1+pe) bz dQ ig)/\m' =(Q8 - (bz:Int)).toNat/\Fresh W0.heap.size (Ns)/\St W0 w92 (Z0::(rr Vg Q8 Vd 2 1<|ig.map<|Value.int .i64)::Z1::Z2::Z3::Z4::Z5::ps) (Z6::Z7::Γ)) _ _ _ _ _ _ _ _) ((Q8 - (0:Int)).toNat) ⟨_,0,dQ,uE7,qf,(by exact TurnTo.zero _ _),rfl,N,H⟩ ?_)
   clear H N
   rintro m' ρ w93 ⟨xI,bz,ig,rfl,i0,o3,rfl,N,H⟩
   have xt:=H.Qc 1 rfl
   have o4:=o3.1
   have o5:=fun h=>o3.at' (c:=bz) h
   have o6:=o2.2 bz
   refine zcc<|sq 2<|oN rfl<|sq 1<|zjn<|cD rfl (fun h94=>?_)<|fun h94=>?_
   ·refine xk (t_n<|xH<|xg<|xZ<|sq 3<|sw<|o_sub (1+pe) 1 rfl rfl (by (first | omega | (have o7:=o5 qf;have o8:=(o6 qf).1;omega)))<|sq 2 ?_)
    obtain ⟨b95,rfl⟩:=H.jg 1 rfl qf
    refine oI rfl rfl<|oL rfl (H.rowInt 1 rfl (iv:=bz) (i:=bz) qf qf)<|sw<|o_sub ((1+pe) - 1) (ig[bz]!) rfl rfl (by (first | omega | (have o7:=o5 qf;have o8:=(o6 qf).1;omega)))<|oI rfl rfl<|sw<|o_storeInt H 1 rfl (((1+pe) - 1) - (ig[bz]!)) sizeOf2 rfl rfl (i:=bz) qf qf fun w96 H=>?_
    try dsimp only [List.set] at H
    refine xW<|b_n<|t_n<|xZ<|sq 1<|sw<|zV bz 1 rfl rfl (by (first | omega | (have o7:=o5 qf;have o8:=(o6 qf).1;omega)))<|sq 1<|xW<|xq (m' :=(Q8 - ((bz+1):Int)).toNat) qf ⟨_,bz+1,_,uE7,?_,?_,rfl,N,H⟩
    ·omega
    ·exact o3.go qf
   refine c_exit<|t_x<|t_x<|b_x<|meet ⟨_,ig,uE5,?_,?_,N,H⟩
   ·first | exact o2.ok' qf qf qf | exact o3.ok' o2 qf qf qf qf
   ·first | assumption | omega
  refine xk<|meet ⟨_,dQ,uE5,?_,?_,N,H⟩
  ·first | exact o2.ok' qf qf qf | exact o3.ok' o2 qf qf qf qf
  ·first | assumption | omega
 clear H N
 rintro ρ w97 ⟨xI,m5,rfl,jo,jp,N,H⟩
 have xt:=H.Qc 1 rfl
 refine t_n<|zcr<|oF rfl<|oL rfl (H.cell 2 rfl rfl)<|sw<|jE H underlying24 ti2 dy.toNat rfl rfl qf qf qf fun tT w99 H=>sw<|jb [yN,yN,Sv (aa tT 0) dy.toNat dy.toNat] [(2,Sv (aa tT 0) dy.toNat dy.toNat)]<|sw<|xU H ti31 [yN,yN,yN] fun AY aJ9 H=>sw<|zC H 0 [yN,yN,Sv (aa tT 0) dy.toNat dy.toNat] sizeOf31 fun agP H=>?_
 try dsimp only [List.set] at H
 refine zjcc<|sp (yI 0)<|zjn<|xg ?_
 replace H:=H.nilRowB 4
 replace H:=H.nilRow 24 1
 replace H:=H.jZ (α:=yLI)
 refine zU ((fun Z0 Z1 Z2 Z3 Z4 Z5 Z6 Z7 Z8=>fun m' ρ JU=>∃ (xI:Env) (bz:Nat) (ez:Int) (fc:Int) (jP:yOA) (vY:Nat) (jO:Nat) (gp:List Bool) (fu:yOA) (Xp:Nat) (fp:Nat) (oS:yLL) (gw:List Value) (QA:yLN),ρ=upd (upd (upd (upd (upd (upd (upd xI 0<|pp bs 0) 2<|pp b1 0) 4<|pp b3 0) 5<|pp wt 0) 7<|Sv Vg Q8 Vd) 11<|pp AY 0) 12 (yI bz)/\((bz:Int)<=fM.length)/\(ip<=ez/\ez<=ip+(2120+20 * bz))/\(StTo dy 6 bz gp oS)/\(AllTo gp)/\m' =(fM.length - (bz:Int)).toNat/\Fresh W0.heap.size (QA::Ns)/\St W0 JU ((rr fu Xp fp 24 1 gw)::(rr jP vY jO 4 1<|gp.map<|Value.bool)::(.box AY [Sv jP vY jO,Sv fu Xp fp,Sv (aa tT 0) dy.toNat dy.toNat] 31)::Z0::(.box bs [Sv ac ah.length cc,yI ez,.int .u64 fc] 116)::Z1::Z2::Z3::Z4::Z5::Z6::ps) ((qL true QA gw oS)::Z7::Z8::Γ)) _ _ _ _ _ _ _ _ _) ((fM.length - (0:Int)).toNat) ⟨_,0,TF,Ec,none,0,0,[],none,0,0,([]:yLL),[],[],uE7,qf,qf,(by exact StTo.nil _ _),(by exact AllTo.nil),rfl,N.emp,H⟩ ?_
 clear H N
 rintro m' ρ Lc ⟨xI,bz,ez,fc,jP,vY,jO,gp,fu,Xp,fp,oS,gw,QA,rfl,i0,t1,t2,t3,rfl,N,H⟩
 have D3:=H.rowNB 1 rfl
 have adL:=H.xe (α:=yLI) 0 rfl 0 rfl qj
 have t4:=t2.la
 have t5:=t2.lb
 refine zcc<|sq 1<|oF rfl<|oL rfl (H.cell 6 rfl rfl)<|oN rfl<|sq 1<|zjn<|cD rfl (fun abN=>?_)<|fun abN=>?_
 ·refine xk (t_n<|xH<|xg<|zcr<|oF rfl<|oL rfl (H.cell 2 rfl rfl)<|sw<|zx H underlying28 ti4 [Bv true] fun Ol aaR H=>sw<|zJ H 2 rfl 0 rfl underlying28 ti4 rfl qj rfl rfl rfl qw qp qf fun B3 C4 aiE H=>?_)
  rw [snocB] at H
  try dsimp only [List.set] at H
  refine oF rfl<|sw<|xO H 3 [Sv B3 (vY+1) C4,Sv fu Xp fp,Sv (aa tT 0) dy.toNat dy.toNat] sizeOf28 fun au3 H=>?_
  try dsimp only [List.set] at H
  refine zjn<|c_cut (fun ρ Rv=>∃ (xI:Env) (Gy:Int) (x2:yLI) (Yn:Int) (S6:yOA) (Rj:Nat) (GM:yOA) (GW:Nat) (wD:yLN),ρ=upd (upd (upd (upd (upd (upd (upd xI 0<|pp bs 0) 2<|pp b1 0) 4<|pp b3 0) 5<|pp wt 0) 7<|Sv Vg Q8 Vd) 11<|pp AY 0) 12 (yI bz)/\(ez<=Gy/\Gy<=ez+20)/\(ja dy (6:Int) x2)/\Fresh W0.heap.size ((QA++wD)::Ns)/\St W0 Rv ((.box bs [Sv ac ah.length cc,yI Gy,.int .u64 Yn] 116)::(.box Ol [Bv true] 4)::(rr S6 (Xp+1) Rj 24 1<|gw++[Sv GM x2.length GW])::(rr B3 (vY+1) C4 4 1 ((gp++[true]).map<|Value.bool))::(.box AY [Sv B3 (vY+1) C4,Sv S6 (Xp+1) Rj,Sv (aa tT 0) dy.toNat dy.toNat] 31)::(rr (aa tT 0) dy.toNat dy.toNat 2 1 ((List.replicate dy.toNat (0:Int)).map<|Value.int .i64))::(rr Vg Q8 Vd 2 1<|m5.map<|Value.int .i64)::(.box wt [yI dy,Sv rG fM.length uc,Sv bE oy.length bD] 27)::(rr rG fM.length uc 2 1<|fM.map<|Value.int .i64)::(rr bE oy.length bD 110 9 yl)::(.box b3 [yN,yN,yN] 31)::(.box b1 [yI 0,yN,yN] 27)::ps) ((qL true (QA++wD) (gw++[Sv GM x2.length GW])<|oS++[x2])::(sF true wD GM GW x2)::(sF false Fc ac cc ah)::(qL false zh yl au)::Γ)) ?_ ?_
  ·refine c_drawK2 rfl H [0,2,4,6,7,8,9,10,11] [0,1,2] fun H=>?_
   have S:=H.zK (0::2::4::zR 6 6) [0,1,2]
   refine tF 0 rfl rfl S ?_
   refine rtl 2 S ?_
   refine tF 3 rfl rfl S ?_
   refine tL 4 rfl rfl (fun _ h=>h.cell 4 rfl rfl) S ?_
   refine jw [1,5] qh qm<|jT rfl ?_<|jT rfl ?_ jy
   ·refine zB (Sv fu Xp fp) isAgg29 rfl (H.cell 3 rfl rfl) (⟨H.pick (0::2::4::zR 6 6) [0,1,2],(ro 5 rfl ?_)⟩)
    have H1:=H.yw 12 3 [5,0,1,2,3,4,6,7,8,9,10,11] [1,0,2] (by simp only [List.length_cons,List.length_append];omega)<|by simp only [List.length_cons,List.length_append];omega
    have N1:Fresh _ (QA::Ns):=N
    have K1:Kept (Ns) ((qL true QA gw oS)::(qL false zh yl au)::Γ):=K0.behind 2 rfl
    replace K1:=K1.cons (F:=QA) 0 rfl rfl
    refine zy #[pp bs 0,yI dy,yI 6] rfl rfl call61 (dFew_ok ah ez fc bs ac cc Fc dy (6:Int) H1 N1 K1 qg qg qg) ?_
    clear H H1 N1 K1
    rintro _ MF ⟨amR,LD,YY,UF,aAV,W2,ao1,PP,rfl,N,H⟩
    obtain rfl:=H.Qc 1 rfl
    refine ⟨H.pick (2::4::zR 6 7) [1,0,2],(ro 6 rfl<|zx H underlying29 ti24 [Sv UF YY.length W2] fun aae auI H=>⟨H.pick (3::5::zR 7 7) [1,0,2],(ro 7 rfl ?_)⟩)⟩
    obtain ⟨oR,N,afh,H⟩:=H.ve 2 rfl N<|fun F hF b hb=>(List.mem_append.1<|show F∈[QA]++Ns from hF).elim (fun h=>(H.vg (L:=[QA]) [1]) F h b hb) fun h=>H.jH (K0.behind 3 rfl) F h b hb
    try dsimp only [List.set] at H
    refine zJ H 4 rfl 0 rfl underlying29 ti24 rfl qj rfl rfl rfl qw qp qf fun ID IY SJ H=>?_
    try dsimp only [List.set] at H
    replace H:=H.QR 2 rfl 0 rfl
    replace N:Fresh W0.heap.size ((QA++oR)::Ns):=(N.qY 2 [1,0]<|by simp only [List.length_cons,List.length_append];omega).join
    refine ⟨H.pick (3::5::zR 7 7) [3,2,4],(tF 8 rfl rfl (H.pick (3::5::zR 7 7) [3,2,4]) ?_)⟩
    refine ro 9 rfl<|xO H 6 [Sv B3 (vY+1) C4,Sv ID (Xp+1) IY,Sv (aa tT 0) dy.toNat dy.toNat] sizeOf29 fun awC H=>?_
    try dsimp only [List.set] at H
    refine ⟨H.pick (3::5::zR 7 7) [3,2,4],(xy qh ((meet ⟨_,amR,YY,LD,ID,IY,UF,W2,oR,uE7,ao1,PP,N,H.qY 14 5 (1::zR 3 11) [0,1,2,4] (by simp only [List.length_cons,List.length_append];omega)<|by simp only [List.length_cons,List.length_append];omega⟩)))⟩
   have H1:=H.yw 12 3 [5,0,1,2,3,4,6,7,8,9,10,11] [1,0,2] (by simp only [List.length_cons,List.length_append];omega)<|by simp only [List.length_cons,List.length_append];omega
   have N1:Fresh _ (QA::Ns):=N
   have K1:Kept (Ns) ((qL true QA gw oS)::(qL false zh yl au)::Γ):=K0.behind 2 rfl
   replace K1:=K1.cons (F:=QA) 0 rfl rfl
   refine zy #[pp bs 0,yI dy,yI 6] rfl rfl call61 (dFew_ok ah ez fc bs ac cc Fc dy (6:Int) H1 N1 K1 qg qg qg) ?_
   clear H H1 N1 K1
   rintro _ agz ⟨UV,T0,HU,uU,apt,uM,Uo,Wk,rfl,N,H⟩
   obtain rfl:=H.Qc 1 rfl
   refine ⟨H.pick (2::4::zR 6 7) [1,0,2],(jw [1,6] qh qm<|jT rfl ?_<|jT rfl ?_ jy)⟩
   ·refine zB (Sv fu Xp fp) isAgg29 rfl (H.cell 5 rfl rfl) (⟨H.pick (2::4::zR 6 7) [1,0,2],(ro 6 rfl<|zx H underlying29 ti24 [Sv uU HU.length uM] fun aIV aIP H=>⟨H.pick (3::5::zR 7 7) [1,0,2],(ro 7 rfl ?_)⟩)⟩)
    obtain ⟨agY,N,aAP,H⟩:=H.ve 2 rfl N<|fun F hF b hb=>(List.mem_append.1<|show F∈[QA]++Ns from hF).elim (fun h=>(H.vg (L:=[QA]) [1]) F h b hb) fun h=>H.jH (K0.behind 3 rfl) F h b hb
    try dsimp only [List.set] at H
    refine zJ H 4 rfl 0 rfl underlying29 ti24 rfl qj rfl rfl rfl qw qp qf fun S9 Te abQ H=>?_
    try dsimp only [List.set] at H
    replace H:=H.QR 2 rfl 0 rfl
    replace N:Fresh W0.heap.size ((QA++agY)::Ns):=(N.qY 2 [1,0]<|by simp only [List.length_cons,List.length_append];omega).join
    refine ⟨H.pick (3::5::zR 7 7) [3,2,4],(tF 8 rfl rfl (H.pick (3::5::zR 7 7) [3,2,4]) ?_)⟩
    refine ro 9 rfl<|xO H 6 [Sv B3 (vY+1) C4,Sv S9 (Xp+1) Te,Sv (aa tT 0) dy.toNat dy.toNat] sizeOf29 fun ab4 H=>?_
    try dsimp only [List.set] at H
    refine ⟨H.pick (3::5::zR 7 7) [3,2,4],(xy qh ((meet ⟨_,UV,HU,T0,S9,Te,uU,uM,agY,uE7,Uo,Wk,N,H.qY 14 5 (1::zR 3 11) [0,1,2,4] (by simp only [List.length_cons,List.length_append];omega)<|by simp only [List.length_cons,List.length_append];omega⟩)))⟩
   refine zx H underlying29 ti24 [Sv uU HU.length uM] fun awr ajO H=>⟨H.pick (3::5::zR 7 7) [1,0,2],(ro 1 rfl<|zB (Sv fu Xp fp) isAgg29 rfl (H.cell 6 rfl rfl)<|⟨H.pick (3::5::zR 7 7) [1,0,2],(ro 7 rfl ?_)⟩)⟩
   obtain ⟨mH,N,al5,H⟩:=H.ve 2 rfl N<|fun F hF b hb=>(List.mem_append.1<|show F∈[QA]++Ns from hF).elim (fun h=>(H.vg (L:=[QA]) [1]) F h b hb) fun h=>H.jH (K0.behind 3 rfl) F h b hb
   try dsimp only [List.set] at H
   refine zJ H 4 rfl 0 rfl underlying29 ti24 rfl qj rfl rfl rfl qw qp qf fun N8 M4 alV H=>?_
   try dsimp only [List.set] at H
   replace H:=H.QR 2 rfl 0 rfl
   replace N:Fresh W0.heap.size ((QA++mH)::Ns):=(N.qY 2 [1,0]<|by simp only [List.length_cons,List.length_append];omega).join
   refine ⟨H.pick (3::5::zR 7 7) [3,2,4],(tF 8 rfl rfl (H.pick (3::5::zR 7 7) [3,2,4]) ?_)⟩
   refine ro 9 rfl<|xO H 6 [Sv B3 (vY+1) C4,Sv N8 (Xp+1) M4,Sv (aa tT 0) dy.toNat dy.toNat] sizeOf29 fun aaU H=>?_
   try dsimp only [List.set] at H
   refine ⟨H.pick (3::5::zR 7 7) [3,2,4],(xy qh ((meet ⟨_,UV,HU,T0,N8,M4,uU,uM,mH,uE7,Uo,Wk,N,H.qY 14 5 (1::zR 3 11) [0,1,2,4] (by simp only [List.length_cons,List.length_append];omega)<|by simp only [List.length_cons,List.length_append];omega⟩)))⟩
  clear H N
  rintro ρ ap1 ⟨xI,Gy,x2,Yn,S6,Rj,GM,GW,wD,rfl,Wg,azY,N,H⟩
  refine b_n<|t_n<|xZ<|sq 1<|sw<|zV bz 1 rfl rfl (by (first | omega | (have o7:=o5 qf;have o8:=(o6 qf).1;omega)))<|sq 1<|xW<|xq (m' :=(fM.length - ((bz+1):Int)).toNat) qf ⟨_,bz+1,_,_,_,_,_,_,_,_,_,_,_,_,uE7,?_,?_,?_,?_,rfl,N,H.qY 12 4 (2::3::4::5::0::zR 6 6) [0,2,3] (by simp only [List.length_cons,List.length_append];omega)<|by simp only [List.length_cons,List.length_append];omega⟩
  ·omega
  ·omega
  ·exact t2.snoc (fun _=>rfl) ql<|fun h=>by cases h
  ·exact t3.snoc
 refine zx4<|xH<|c_drawK2 rfl H [0,1,2,3,4,5,6,7,8] [0,1,2] fun H=>?_
 have S:=H.zK (zR 0 9) [0,1,2]
 refine rt 0 _ (yh (cs:=[yI dy,Sv rG fM.length uc,Sv bE oy.length bD]) isAgg27 sizeOf27 rfl<|fun _ h=>qK (h.cells 6 rfl) 0 3) S ?_
 refine rtl 1 S ?_
 refine rt 2 _ (yh (cs:=[Sv jP vY jO,Sv fu Xp fp,Sv (aa tT 0) dy.toNat dy.toNat]) isAgg31 sizeOf31 rfl<|fun _ h=>qK (h.cells 2 rfl) 0 3) S ?_
 refine ro 3 rfl<|zC H 10 [yI dy,Sv rG fM.length uc,Sv bE oy.length bD] sizeOf27 fun anM H=>?_
 try dsimp only [List.set] at H
 refine ⟨H.pick (zR 0 9) [0,1,2],(rtl 4 (H.pick (zR 0 9) [0,1,2]) ?_)⟩
 refine ro 5 rfl<|zC H 9 [Sv jP vY jO,Sv fu Xp fp,Sv (aa tT 0) dy.toNat dy.toNat] sizeOf31 fun ath H=>?_
 try dsimp only [List.set] at H
 refine ⟨H.pick (zR 0 9) [0,1,2],(xy qh<|t_n<|c_ret<|retCTC H 10 rfl (Sv Vg Q8 Vd) 9 rfl rfl isAgg27 sizeOf27 isAgg31 sizeOf31 rfl rfl rfl ⟨_,rfl,?_⟩)⟩
 have q4:=j4
 exact ⟨ez,fc,dy,fM,au,gp,oS,(List.replicate dy.toNat (0:Int)),m5,rG,fM.length,uc,bE,oy.length,bD,yl,zh,jP,vY,jO,fu,Xp,fp,gw,QA,(aa tT 0),dy.toNat,dy.toNat,Vg,Q8,Vd,qf,(by exact sd.with j2 j3),(by exact stDr_of t2 qf qf qf),(by exact t3),(by exact fun j hj=>j4 j qf),(by exact jo),rfl,N,H.qY 11 3 [4,7,8,1,0,3,5] [1,2,0] (by simp only [List.length_cons,List.length_append];omega)<|by simp only [List.length_cons,List.length_append];omega⟩
theorem a2Tissue_ok (ah:List UInt8) (ac:yOA) (cc:Nat) (Fc:yLN) (H:St W0 w (ps) ((sF false Fc ac cc ah)::Γ)) (N:Fresh W0.heap.size (Ns)) (K0:Kept Ns Γ):Calls Tryz.prog 8 #[Sv ac ah.length cc] w (fun e w' =>∃ v,e=.returned v/\∃ (Ra:Int) (sx:yLI) (gK:List yj) (oi:List Bool) (C8:yLL) (pX:yLI) (K9:yLI) (VN:yOA) (Ur:Nat) (WY:Nat) (eG:yOA) (eo:Nat) (cC:Nat) (bZ:List Value) (aF:yLN) (raA:yOA) (rnA:Nat) (rcA:Nat) (raB:yOA) (rnB:Nat) (rcB:Nat) (rxB:List Value) (rFB:yLN) (raD:yOA) (rnD:Nat) (rcD:Nat) (K4:yOA) (KP:Nat) (Lh:Nat),(SysDr Ra sx gK)/\(StDr Ra sx.length 6 oi C8 pX)/\(AllTo oi)/\(MildTo gK gK.length)/\(OwnDr sx.length K9)/\v=.tuple #[.agg #[yI Ra,Sv VN Ur WY,Sv eG eo cC],Sv K4 KP Lh,.agg #[Sv raA rnA rcA,Sv raB rnB rcB,Sv raD rnD rcD]]/\Fresh W0.heap.size (rFB::Ns)/\St W0 w' ((rr VN Ur WY 2 1<|sx.map<|Value.int .i64)::(rr eG eo cC 110 9 bZ)::(rr raA rnA rcA 4 1<|oi.map<|Value.bool)::(rr raB rnB rcB 24 1 rxB)::(rr raD rnD rcD 2 1<|pX.map<|Value.int .i64)::(rr K4 KP Lh 2 1<|K9.map<|Value.int .i64)::ps) ((sF false Fc ac cc ah)::(qL false aF bZ gK)::(qL true rFB rxB C8)::Γ)):=by
 refine en func8 ntmps8 ?_
 have mw:=qO (H.get 0 rfl).1
 refine zcr<|sw<|xU H ti27 [yI 0,yN,yN] fun b1 w2 H=>sq 1<|sw<|xU H ti31 [yN,yN,yN] fun b3 w4 H=>zjc<|sq 1<|sw<|zX #[Sv ac ah.length cc] rfl rfl call24<|en func24 ntmps24 ?_
 refine zcr<|sq 1<|zjc<|sq 1<|sw<|jb [Sv ac ah.length cc,yI 0,.int .u64 0] [(0,Sv ac ah.length cc)]<|sw<|jq H [Sv ac ah.length cc,yI 0,.int .u64 0] fun b5 w6 H=>sq 1<|zjr<|ret1 (pp b5 0) rfl rfl ⟨_,rfl,?_⟩
 have H1:=H.yw 3 1 [0,1,2] [0] (by simp only [List.length_cons,List.length_append];omega)<|by simp only [List.length_cons,List.length_append];omega
 have N1:Fresh _ (Ns):=N
 have K1:Kept (Ns) (Γ):=K0.behind 0 rfl
 refine sw<|zy #[pp b5 0] rfl rfl call23 (dTissue_ok ah (0:Int) 0 b5 ac cc Fc H1 N1 K1 qg) ?_
 clear H H1 N1 K1
 rintro _ w7 ⟨wK,gE,mJ,mb,ace,abi,acp,aa3,aaj,akU,awA,ai5,aeN,agl,SV,alN,ah3,aaG,awb,rM,TL,aIN,amZ,at6,Lv,aqL,aER,sZ,ahW,awz,Em,hx9,azc,aHG,avl,BS,avt,rfl,N,H⟩
 obtain rfl:=H.Qc 1 rfl
 obtain rfl:=H.xe (α:=yj) 2 rfl 1 rfl qj
 obtain rfl:=H.rowNB 3 rfl
 obtain rfl:=H.xe (α:=yLI) 4 rfl 2 rfl qj
 obtain rfl:=H.Qc 5 rfl
 obtain rfl:=H.Qc 6 rfl
 refine sq 3<|sw<|zC H 8 [yI mJ,Sv akU mb.length ai5,Sv aeN ace.length SV] sizeOf27 fun S8 H=>?_
 try dsimp only [List.set] at H
 refine sq 1<|sw<|zC H 7 [Sv aaG abi.length rM,Sv TL acp.length amZ,Sv aqL aa3.length sZ] sizeOf31 fun w47 H=>?_
 try dsimp only [List.set] at H
 refine zjr<|retCTC H 8 rfl (Sv ahW aaj.length Em) 7 rfl rfl isAgg27 sizeOf27 isAgg31 sizeOf31 rfl rfl rfl ⟨_,rfl,(⟨mJ,mb,ace,abi,acp,aa3,aaj,akU,mb.length,ai5,aeN,ace.length,SV,alN,ah3,aaG,abi.length,rM,TL,acp.length,amZ,at6,Lv,aqL,aa3.length,sZ,ahW,aaj.length,Em,ql,ql,ql,ql,ql,rfl,N,H.qY 9 3 (zR 1 6) [0,1,2] (by simp only [List.length_cons,List.length_append];omega)<|by simp only [List.length_cons,List.length_append];omega⟩)⟩
end
section
section
variable {s : qM} {own : yLI} {n : Nat} {sv L L1 L2 : List zA} {wi : List zk} {d : xm}
abbrev InS (sv:List zA) (i:Int):Prop:=0<=i/\i<=(sv.length:Int) - 1
theorem Va (hk:d.xE=1\/d.xE=2\/d.xE=5\/d.xE=9) (h:¬ InS sv d.fA):doM s own ⟨sv,wi⟩ d=(⟨sv,wi⟩,2):=do_range qf qf h
theorem X9 (hk:d.xE=3\/d.xE=4) (h:¬ InS sv d.fA\/¬ InS sv d.fB\/d.fA=d.fB):doM s own ⟨sv,wi⟩ d=(⟨sv,wi⟩,2):=(do_send hk).trans<|send_range h
theorem doR_post4 (hk:d.xE=3) (h:InS sv d.fA/\InS sv d.fB/\d.fA≠d.fB) (h2:¬ QQ (sv[d.fA.toNat]!)):doM s own ⟨sv,wi⟩ d=(⟨sv,wi⟩,4):=(do_send<|.inl hk).trans<|send_post0 h hk h2
theorem doR_post3 (hk:d.xE=3) (h:InS sv d.fA/\InS sv d.fB/\d.fA≠d.fB) (h2:QQ (sv[d.fA.toNat]!)) (h3:wi.length=12):doM s own ⟨sv,wi⟩ d=(⟨sv,wi⟩,3):=(do_send<|.inl hk).trans<|send_post1 h hk h2 h3
theorem doR_post0 (hk:d.xE=3) (h:InS sv d.fA/\InS sv d.fB/\d.fA≠d.fB) (h2:QQ (sv[d.fA.toNat]!)) (h3:wi.length≠12):doM s own ⟨sv,wi⟩ d=(⟨sv,wi++[⟨(sv[d.fA.toNat]!).qC.qN,d.fA,d.fB,((sv[d.fA.toNat]!).qH.vJ)[d.fB.toNat]!⟩]⟩,0):=(do_send<|.inl hk).trans<|send_post2 h hk h2 h3
theorem doR_back4 (hk:d.xE=4) (h:InS sv d.fA/\InS sv d.fB/\d.fA≠d.fB) (h2:(sv[d.fA.toNat]!).qC.qN=0):doM s own ⟨sv,wi⟩ d=(⟨sv,wi⟩,4):=(do_send<|.inr hk).trans<|send_back0 h qf h2
theorem doR_back3 (hk:d.xE=4) (h:InS sv d.fA/\InS sv d.fB/\d.fA≠d.fB) (h2:(sv[d.fA.toNat]!).qC.qN≠0) (h3:wi.length=12):doM s own ⟨sv,wi⟩ d=(⟨sv,wi⟩,3):=(do_send<|.inr hk).trans<|send_back1 h qf h2 h3
theorem doR_back0 (hk:d.xE=4) (h:InS sv d.fA/\InS sv d.fB/\d.fA≠d.fB) (h2:(sv[d.fA.toNat]!).qC.qN≠0) (h3:wi.length≠12):doM s own ⟨sv,wi⟩ d=(⟨sv,wi++[⟨(sv[d.fA.toNat]!).qC.qN - 1,d.fA,d.fB,((sv[d.fA.toNat]!).qC.xP)[d.fB.toNat]!⟩]⟩,0):=(do_send<|.inr hk).trans<|send_back2 h qf h2 h3
theorem X8 (hk:d.xE=6\/d.xE=7\/d.xE=8) (h:(wi.length:Int)<=d.fA):doM s own ⟨sv,wi⟩ d=(⟨sv,wi⟩,2):=(do_wire hk).trans<|wire_2 h
theorem doR_drop (hk:d.xE=8) (h:d.fA < wi.length):doM s own ⟨sv,wi⟩ d=(⟨sv,wi.eraseIdx d.fA.toNat⟩,0):=(do_wire qf).trans<|wire_drop (by show ¬ (wi.length:Int)<=d.fA;omega) hk
def Stale (sv:List zA) (p:zk):Prop:=(sv[p.fTo.toNat]!).qC.qQ=false\/(sv[p.fTo.toNat]!).qC.qN≠p.qN\/((sv[p.fTo.toNat]!).qC.vz)[p.XZ.toNat]! =true
theorem stale_or (h:(sv[p.fTo.toNat]!).qC.qQ=false\/(sv[p.fTo.toNat]!).qC.qN≠p.qN\/((sv[p.fTo.toNat]!).qC.vz)[p.XZ.toNat]! =true):Stale sv p:=h
theorem fresh_and (h1:(sv[p.fTo.toNat]!).qC.qQ=true) (h2:(sv[p.fTo.toNat]!).qC.qN=p.qN) (h3:((sv[p.fTo.toNat]!).qC.vz)[p.XZ.toNat]! =false):¬ Stale sv p:=by
 rintro (h | h | h)
 ·rw [h1] at h;cases h
 ·exact h h2
 ·rw [h3] at h;cases h
theorem doR_stale7 (hk:d.xE=7) (h:d.fA < wi.length) (h1:Stale sv (wi[d.fA.toNat]!)):doM s own ⟨sv,wi⟩ d=(⟨sv,wi⟩,0):=(do_wire qf).trans ((wire_copy (by show ¬ (wi.length:Int)<=d.fA;omega) hk).trans<|come_0 h1)
theorem doR_stale6 (hk:d.xE=6) (h:d.fA < wi.length) (h1:Stale sv (wi[d.fA.toNat]!)):doM s own ⟨sv,wi⟩ d=(⟨sv,wi.eraseIdx d.fA.toNat⟩,0):=by
 have e:comeM ⟨sv,wi⟩ (wi[d.fA.toNat]!)=(⟨sv,wi⟩,0):=come_0 h1
 rw [do_wire qf,wire_in (by show ¬ (wi.length:Int)<=d.fA;omega) qf qf<|by show (comeM ⟨sv,wi⟩<|wi[d.fA.toNat]!).2=0;rw [e]]
 show (({ (comeM ⟨sv,wi⟩<|wi[d.fA.toNat]!).1 with zu:=(comeM ⟨sv,wi⟩<|wi[d.fA.toNat]!).1.zu.eraseIdx d.fA.toNat }:zQ),(0:Int))=_
 rw [e]
abbrev sumC (sv:List zA) (p:zk):yLL:=Qr (sv[p.fTo.toNat]!).qC.qJ p.qG
theorem doR_come3 (hk:d.xE=6\/d.xE=7) (h:d.fA < wi.length) (h1:¬ Stale sv (wi[d.fA.toNat]!)) (h2:¬ yH (sumC sv<|wi[d.fA.toNat]!) (sumC sv<|wi[d.fA.toNat]!).length):doM s own ⟨sv,wi⟩ d=(⟨sv,wi⟩,3):=by
 have e:comeM ⟨sv,wi⟩ (wi[d.fA.toNat]!)=(⟨sv,wi⟩,3):=come_3 h1 h2
 rw [do_wire qf,wire_no (by show ¬ (wi.length:Int)<=d.fA;omega) qf<|by show (comeM ⟨sv,wi⟩<|wi[d.fA.toNat]!).2≠0;rw [e];exact fun h=>by cases h]
 exact e
theorem srv_set (hi:i < sv.length) (e:L1=sv.set i x):L1[i]! =x:=by rw [e,getset hi,if_pos rfl]
theorem got_sets (hi:p.fTo.toNat < sv.length) (e1:L1=sv.set p.fTo.toNat { sv[p.fTo.toNat]! with qC:={ (sv[p.fTo.toNat]!).qC with qJ:=sumC sv p }})
 (e2:L2=L1.set p.fTo.toNat { L1[p.fTo.toNat]! with qC:={ (L1[p.fTo.toNat]!).qC with vz:=((L1[p.fTo.toNat]!).qC.vz).set p.XZ.toNat true }}):(Xe ⟨sv,wi⟩ p.fTo.toNat<|gotD (sv[p.fTo.toNat]!).qC p)=⟨L2,wi⟩:=by
 rw [e2,srv_set hi e1,e1,List.set_set];rfl
theorem doR_come7 (hk:d.xE=7) (h:d.fA < wi.length) (h1:¬ Stale sv (wi[d.fA.toNat]!)) (h2:yH (sumC sv<|wi[d.fA.toNat]!) (sumC sv<|wi[d.fA.toNat]!).length) (e:(Xe ⟨sv,wi⟩ (wi[d.fA.toNat]!).fTo.toNat<|gotD (sv[(wi[d.fA.toNat]!).fTo.toNat]!).qC<|wi[d.fA.toNat]!)=⟨L,wi⟩):doM s own ⟨sv,wi⟩ d=(⟨L,wi⟩,0):=by
 rw [do_wire qf,wire_copy (by show ¬ (wi.length:Int)<=d.fA;omega) hk]
 exact (come_1 (v:=⟨sv,wi⟩) (p:=wi[d.fA.toNat]!) h1 h2).trans<|by rw [← e]
theorem doR_come6 (hk:d.xE=6) (h:d.fA < wi.length) (h1:¬ Stale sv (wi[d.fA.toNat]!)) (h2:yH (sumC sv<|wi[d.fA.toNat]!) (sumC sv<|wi[d.fA.toNat]!).length) (e:(Xe ⟨sv,wi⟩ (wi[d.fA.toNat]!).fTo.toNat<|gotD (sv[(wi[d.fA.toNat]!).fTo.toNat]!).qC<|wi[d.fA.toNat]!)=⟨L,wi⟩):doM s own ⟨sv,wi⟩ d=(⟨L,wi.eraseIdx d.fA.toNat⟩,0):=by
 have e1:comeM ⟨sv,wi⟩ (wi[d.fA.toNat]!)=(⟨L,wi⟩,0):=(come_1 (v:=⟨sv,wi⟩) (p:=wi[d.fA.toNat]!) h1 h2).trans<|by rw [← e]
 rw [do_wire qf,wire_in (by show ¬ (wi.length:Int)<=d.fA;omega) qf qf<|by show (comeM ⟨sv,wi⟩<|wi[d.fA.toNat]!).2=0;rw [e1]]
 show (({ (comeM ⟨sv,wi⟩<|wi[d.fA.toNat]!).1 with zu:=(comeM ⟨sv,wi⟩<|wi[d.fA.toNat]!).1.zu.eraseIdx d.fA.toNat }:zQ),(0:Int))=_
 rw [e1]
theorem doR_work (hk:d.xE=1) (h:InS sv d.fA):doM s own ⟨sv,wi⟩ d=workM s own ⟨sv,wi⟩ d.fA.toNat:=do_work hk h
theorem doR_save (hk:d.xE=2) (h:InS sv d.fA) (e:L=sv.set d.fA.toNat { sv[d.fA.toNat]! with qH:=(sv[d.fA.toNat]!).qC }):doM s own ⟨sv,wi⟩ d=(⟨L,wi⟩,0):=(do_save (v:=⟨sv,wi⟩) hk h).trans<|by rw [e];rfl
theorem doR_crash (hk:d.xE=9) (h:InS sv d.fA) (e:L=sv.set d.fA.toNat { sv[d.fA.toNat]! with qC:=(sv[d.fA.toNat]!).qH }):doM s own ⟨sv,wi⟩ d=(⟨L,wi⟩,0):=(do_crash (v:=⟨sv,wi⟩) hk h).trans<|by rw [e];rfl
def Ready (x:zA):Prop:=x.qC.qQ=true/\AllGot x.qC.vz x.qC.vz.length/\QQ x
theorem doR_adv4 (hk:d.xE=5) (h:InS sv d.fA) (h1:¬ Ready (sv[d.fA.toNat]!)):doM s own ⟨sv,wi⟩ d=(⟨sv,wi⟩,4):=(do_advance (v:=⟨sv,wi⟩) hk h).trans<|adv_4 (v:=⟨sv,wi⟩) (i:=d.fA.toNat) h1
theorem doR_adv3 (hk:d.xE=5) (h:InS sv d.fA) (h1:Ready (sv[d.fA.toNat]!)) (h2:¬ yH (sumD (sv[d.fA.toNat]!).qC) (sumD (sv[d.fA.toNat]!).qC).length):doM s own ⟨sv,wi⟩ d=(⟨sv,wi⟩,3):=(do_advance (v:=⟨sv,wi⟩) hk h).trans<|adv_3 (v:=⟨sv,wi⟩) (i:=d.fA.toNat) h1 h2
theorem doR_adv0 (hk:d.xE=5) (h:InS sv d.fA) (h1:Ready (sv[d.fA.toNat]!)) (h2:yH (sumD (sv[d.fA.toNat]!).qC) (sumD (sv[d.fA.toNat]!).qC).length) (e:(Xe ⟨sv,wi⟩ d.fA.toNat<|nextD s (sv[d.fA.toNat]!).qC)=⟨L,wi⟩):doM s own ⟨sv,wi⟩ d=(⟨L,wi⟩,0):=(do_advance (v:=⟨sv,wi⟩) hk h).trans ((adv_0 (v:=⟨sv,wi⟩) (i:=d.fA.toNat) h1 h2).trans<|by rw [← e])
theorem adv_sets (hi:i < sv.length) {z:zn} {afn:zn} (hz:z=nextD s (sv[i]!).qC)
 (e:L=(sv.set i { sv[i]! with qC:=afn }).set i { (sv.set i { sv[i]! with qC:=afn })[i]! with qC:=z }):(Xe ⟨sv,wi⟩ i<|nextD s (sv[i]!).qC)=⟨L,wi⟩:=by
 rw [e,srv_set hi rfl,List.set_set,hz];rfl
theorem work_sets {m:Nat} {L3 L4 L5 L6:List zA} (hi:i < sv.length) {b:yLL} {nw:List yLL}
 (e1:L1=sv.set i { sv[i]! with qC:={ (sv[i]!).qC with qG:=b }})
 (e2:L2=L1.set i { L1[i]! with qC:={ (L1[i]!).qC with vJ:=nw }})
 (e3:L3=L2.set i { L2[i]! with qC:={ (L2[i]!).qC with qJ:=nw[i]! }})
 (e4:L4=L3.set i { L3[i]! with qC:={ (L3[i]!).qC with qQ:=true }})
 (e5:L5=L4.set i { L4[i]! with qC:={ (L4[i]!).qC with vz:=List.replicate m false }})
 (e6:L6=L5.set i { L5[i]! with qC:={ (L5[i]!).qC with vz:=((L5[i]!).qC.vz).set i true }})
 (hb:b=bagsD s (sv[i]!).qC) (hn:nw=nowD s own sv.length i (sv[i]!).qC) (hm:m=sv.length):(Xe ⟨sv,wi⟩ i<|workD s own sv.length i (sv[i]!).qC)=⟨L6,wi⟩:=by
 have l1:L1.length=sv.length:=by rw [e1,List.length_set]
 have l2:L2.length=sv.length:=by rw [e2,List.length_set,l1]
 have l3:L3.length=sv.length:=by rw [e3,List.length_set,l2]
 have l4:L4.length=sv.length:=by rw [e4,List.length_set,l3]
 have l5:L5.length=sv.length:=by rw [e5,List.length_set,l4]
 rw [e6,srv_set qf e5,e5,List.set_set,srv_set qf e4,e4,List.set_set,srv_set qf e3,e3,List.set_set,srv_set qf e2,e2,List.set_set,srv_set hi e1,e1,List.set_set,hb,hn,hm];rfl
def Sav (b:Bool) (k:Int) (x:zA):Prop:=(b=true->(k=3/\¬ QQ x)\/(k=4/\x.qC.qN=0))/\(b=false->(k=3->QQ x)/\(k=4->x.qC.qN≠0))
theorem sav_t3 (hk:k=3) (h:¬ QQ x):Sav true k x:=⟨fun _=>.inl ⟨hk,h⟩,fun h=>by cases h⟩
theorem sav_t4 (hk:k=4) (h:x.qC.qN=0):Sav true k x:=⟨fun _=>.inr ⟨hk,h⟩,fun h=>by cases h⟩
theorem sav_f3 (hk:k=3) (h:QQ x):Sav false k x:=⟨(fun h=>by cases h),fun _=>⟨fun _=>h,fun h=>by omega⟩⟩
theorem sav_f4 (hk:k=4) (h:x.qC.qN≠0):Sav false k x:=⟨(fun h=>by cases h),fun _=>⟨(fun h=>by omega),fun _=>h⟩⟩
theorem sav_b4 (hk:k=4):Sav (x.qC.qN == 0) k x:=by
 by_cases h:x.qC.qN=0
 ·rw [beq_iff_eq.2 h];exact sav_t4 hk h
 ·rw [beq_eq_false_iff_ne.2 h];exact sav_f4 hk h
def Sav7 (b:Bool) (k:Int) (x:zA):Prop:=(k=3/\(b=true<->¬ QQ x))\/(k=4/\b=false)
theorem sav7_1 {b:Bool} (hk:k=3) (h1:x.qH.qN=x.qC.qN) (hb:b= !x.qH.qQ):Sav7 b k x:=by
 subst hb
 refine .inl ⟨hk,?_⟩
 cases e:x.qH.qQ with
 | true=>exact ⟨(fun h=>by simp at h),fun h=>absurd ⟨h1,e⟩ h⟩
 | false=>exact ⟨(fun _ h=>by rw [h.2] at e;cases e),fun _=>rfl⟩
theorem sav7_2 (hk:k=3) (h1:x.qH.qN≠x.qC.qN):Sav7 true k x:=.inl ⟨hk,fun _ h=>h1 h.1,fun _=>rfl⟩
theorem sav7_3 (hk:k=4):Sav7 false k x:=.inr ⟨hk,rfl⟩
theorem sav7_t {b:Bool} (j:Sav7 b k x) (h:b=true):Sav true k x:=by
 rcases j with ⟨h1,h2⟩ | ⟨h1,h2⟩
 ·exact sav_t3 h1<|h2.1 h
 ·rw [h] at h2;cases h2
theorem sav7_tb {b:Bool} (j:Sav7 b k x) (h:b=true):Sav b k x:=by
 have:=sav7_t j h
 rw [h];exact this
theorem sav7_f {b:Bool} (j:Sav7 b k x) (h:b=false) (hk:k≠4):Sav false k x:=by
 rcases j with ⟨h1,h2⟩ | ⟨h1,h2⟩
 ·exact sav_f3 h1 (Classical.byContradiction fun x=>by rw [h2.2 x] at h;cases h)
 ·exact absurd h1 hk
end
end
section
section
variable {P : Program} {Q : Exit -> Act -> World -> Prop} {n : Nat} {ρ : Env} {W0 w : World} {ps : List Prv} {Γ : List Fact}
 {d:Nat} {ty:TypeId} {pos:String} {af:Array Edge} {K:Env->World->Prop}
theorem o_over [Dfr] {x:Operand} {A:Addr} {kK:List Value} (H:St W0 w ps Γ) (k:Nat) (hp:ps[k]? =some (.row (Sv (some ⟨b,0,none⟩) nn c) e sz nn xs))
 (hu:P.underlying t=some (.slice e)) (he:TI P e z sz fJ) (hs:ev n ρ s=Sv (some ⟨b,0,none⟩) i c) (hx:ev n ρ x=Sv (some A) m c2)
 (hl:kK.length=m * sz) (hn:∀ q u,kK[q]? =some u->w.cell? (A.add q)=some u) (h1:∀ u∈kK,u.oneCell' =true) (ho:i * sz+kK.length<=xs.length) (hc:i+m<=c)
 (kk:∀ w',St W0 w' (ps.set k<|.row (Sv (some ⟨b,0,none⟩) nn c) e sz nn<|xs.take (i * sz)++kK++xs.drop (i * sz+kK.length)) Γ->K (upd ρ d<|Sv (some ⟨b,0,none⟩) (i+m) c) w'):
 OW P Q ⟨some d,.call ⟨.builtin .append,#[s,x],#[t,t]⟩,ty,pos,af,none⟩ n ρ w K:=by
 obtain ⟨i',hi,LJ,NL,Ls⟩:=info_parts he
 obtain ⟨w',hr,H'⟩:=H.rowSet k hp (i * sz) kK ho h1 (P:=P)
 have hz:i'.size=sz:=by first | exact LJ | exact NL | exact Ls
 have hfc:=run_firstCells_some (P:=P) w sz m A m c2 kK hl hn
 refine QT _ ?_<|kk w' H'
 simp [execOp,resolve,invoke,builtin,hs,hx,Builtin.append_,run_underlying hu,sizeOf,typeInfo,hi,hz,Builtin.lenOf,hc,hfc,Addr.add_lit,hr]
theorem o_noneV [Dfr] {op:Op} {w' :World} (v:Value) (h:(execOp (ev n ρ) ⟨none,op,ty,pos,af,none⟩).run P w=.ok (.value v) w') (k:K ρ w'):OW P Q ⟨none,op,ty,pos,af,none⟩ n ρ w K:=by
 unfold OW
 intro K' hK
 unfold Oper.wp
 rw [XB,h]
 exact hK _ _ k
theorem o_clear [Dfr] {x:Operand} {zs:List Value} (H:St W0 w ps Γ) (k:Nat) (hp:ps[k]? =some (.row (Sv (some ⟨b,0,none⟩) nn c) e sz nn xs))
 (hu:P.underlying t=some (.slice e)) (hz:∀ w,(zeroValue e).run P w=.ok z w) (hx:ev n ρ x=Sv (some ⟨b,i * sz,none⟩) m c2) (hm:0 < m)
 (wr:(Builtin.zeroCells z.cells m).toList=zs) (h1:∀ u∈zs,u.oneCell' =true) (ho:i * sz+zs.length<=xs.length)
 (kk:∀ w',St W0 w' (ps.set k<|.row (Sv (some ⟨b,0,none⟩) nn c) e sz nn<|xs.take (i * sz)++zs++xs.drop (i * sz+zs.length)) Γ->K ρ w'):
 OW P Q ⟨none,.call ⟨.builtin .clear,#[x],#[t]⟩,ty,pos,af,none⟩ n ρ w K:=by
 obtain ⟨w',hr,H'⟩:=H.rowSet k hp (i * sz) zs ho h1 (P:=P)
 obtain ⟨m,rfl⟩:∃ q,m=q+1:=⟨m - 1,by omega⟩
 refine o_noneV (.tuple #[]) ?_<|kk w' H'
 simp [execOp,resolve,invoke,builtin,hx,Builtin.clear_,run_underlying hu,hz,wr,hr]
end
end
section
section
variable {P : Program} {Q : Exit -> Act -> World -> Prop} {n : Nat} {ρ : Env} {W0 w : World} {ps : List Prv} {Γ : List Fact}
 {d:Nat} {op:Op} {ty:TypeId} {pos:String} {af:Array Edge} {K:Env->World->Prop}
theorem St.rowCutN (H:St W0 w ps Γ) (k:Nat) (hp:ps[k]? =some (.row (Sv (some ⟨b,0,none⟩) nn c) e sz nn xs)) (m:Nat) (hm:m<=nn):
 St W0 w (ps.set k<|.row (Sv (some ⟨b,0,none⟩) m c) e sz m<|xs.take<|m * sz) Γ:=
 H.turn k hp (fun h=>by
  have h:w.ownsRow W0.heap.size e sz (Sv (some ⟨b,0,none⟩) nn c) nn xs:=h
  obtain ⟨hl,h | ⟨g,gY,gZ,hv,hB,hg,hn,hmx,KG,ht⟩⟩:=h
  ·simp at h
  ·simp only [Value.slice.injEq] at hv
   obtain ⟨DS,_,hv3⟩:=hv
   have hle:m * sz<=nn * sz:=Nat.mul_le_mul_right _ hm
   refine ⟨by rw [List.length_take];omega,Or.inr ⟨g,gY,gZ,by rw [DS,hv3],hB,hg,by omega,hmx,KG,?_⟩⟩
   rw [← ht,List.take_take];congr 1;omega) rfl
theorem St.rowCap (H:St W0 w ps Γ) (k:Nat) (hp:ps[k]? =some (.row (Sv a nn c) e sz nn xs)):nn<=c:=by
 have h:w.ownsRow W0.heap.size e sz (Sv a nn c) nn xs:=H.has _<|List.mem_of_getElem? hp
 obtain ⟨hl,h | ⟨g,gY,gZ,hv,hB,hg,hn,hmx,KG,ht⟩⟩:=h
 ·simp only [Value.slice.injEq] at h;omega
 ·simp only [Value.slice.injEq] at hv;omega
theorem St.isCap {α:Type} [qI α] (H:St W0 w ps Γ) (k:Nat) {l:List α} (hf:Γ[k]? =some (isF fr F (Sv a m c) l)):l.length<=c:=by
 obtain ⟨⟨a',c',hc,hl,_⟩,_⟩:=H.get k hf
 simp only [List.cons.injEq,Value.slice.injEq,and_true] at hc
 omega
theorem o_up [Dfr] {x:Operand} (kk:Nat) (hu:P.underlying t=some (.slice e)) (he:TI P e z sz fJ) (hx:ev n ρ x=Sv a m c) (hy:ev n ρ y=.int .i64 (kk:Int)) (hk:kk<=c) (k:K (upd ρ d<|Sv a kk c) w):
 OW P Q ⟨some d,.slice t x none (some y) none,ty,pos,af,none⟩ n ρ w K:=QT _ (by
 cases a <;> by_cases h0:c=0 <;> simp [execOp,hx,hy,Instr.sliceAt,Instr.slice,Instr.sliceBounds,Instr.sliceBound,asIntOf,run_underlying hu,he.sizeOf,hk,h0,Addr.add] <;> intro h <;> omega) k
theorem y_up {x:Operand} (kk:Nat) (hu:P.underlying t=some (.slice e)) (he:TI P e z sz fJ) (hx:ev n ρ x=Sv a m c) (hy:ev n ρ y=.int .i64 (kk:Int)) (hk:kk<=c):
 (execOp (ev n ρ) ⟨some d,.slice t x none (some y) none,ty,pos,af,none⟩).run P w=.ok (.value<|Sv a kk c) w:=by
 cases a <;> by_cases h0:c=0 <;> simp [execOp,hx,hy,Instr.sliceAt,Instr.slice,Instr.sliceBounds,Instr.sliceBound,asIntOf,run_underlying hu,he.sizeOf,hk,h0,Addr.add] <;> intro h <;> omega
theorem y_from {x:Operand} (kk:Nat) (hu:P.underlying t=some (.slice e)) (he:TI P e z sz fJ) (hx:ev n ρ x=Sv (some ⟨b,off,none⟩) m c) (hy:ev n ρ y=.int .i64 (kk:Int)) (hk:kk<=m) (hm:m<=c):
 (execOp (ev n ρ) ⟨some d,.slice t x (some y) none none,ty,pos,af,none⟩).run P w=.ok (.value<|Sv (some ⟨b,if c=kk then off else off+kk * sz,none⟩) (m - kk)<|c - kk) w:=by
 by_cases h0:c=kk <;> simp [execOp,hx,hy,Instr.sliceAt,Instr.slice,Instr.sliceBounds,Instr.sliceBound,asIntOf,run_underlying hu,he.sizeOf,hk,h0,Addr.add]
theorem y_3 {x y3:Operand} (k1 k2 k3:Nat) (hu:P.underlying t=some (.slice e)) (he:TI P e z sz fJ) (hx:ev n ρ x=Sv (some ⟨b,off,none⟩) m c)
 (h1:ev n ρ y1=.int .i64 (k1:Int)) (h2:ev n ρ y2=.int .i64 (k2:Int)) (h3:ev n ρ y3=.int .i64 (k3:Int)) (hk:k1<=k2) (hk2:k2<=k3) (hm:k3<=c):
 (execOp (ev n ρ) ⟨some d,.slice t x (some y1) (some y2)<|some y3,ty,pos,af,none⟩).run P w=.ok (.value<|Sv (some ⟨b,if k3=k1 then off else off+k1 * sz,none⟩) (k2 - k1)<|k3 - k1) w:=by
 by_cases h0:k3=k1
 ·subst h0
  obtain rfl:k2=k3:=by omega
  simp [execOp,hx,h1,h2,h3,Instr.sliceAt,Instr.slice,Instr.sliceBounds,Instr.sliceBound,asIntOf,run_underlying hu,he.sizeOf,hm,Addr.add]
 ·simp [execOp,hx,h1,h2,h3,Instr.sliceAt,Instr.slice,Instr.sliceBounds,Instr.sliceBound,asIntOf,run_underlying hu,he.sizeOf,hk,hk2,hm,h0,Addr.add]
theorem y_hiLo {x:Operand} (k1 k2:Nat) (hu:P.underlying t=some (.slice e)) (he:TI P e z sz fJ) (hx:ev n ρ x=Sv (some ⟨b,off,none⟩) m c)
 (h1:ev n ρ y1=.int .i64 (k1:Int)) (h2:ev n ρ y2=.int .i64 (k2:Int)) (hk:k1<=k2) (hm:k2<=c) (hc:k1 < c):
 (execOp (ev n ρ) ⟨some d,.slice t x (some y1) (some y2) none,ty,pos,af,none⟩).run P w=.ok (.value<|Sv (some ⟨b,off+k1 * sz,none⟩) (k2 - k1)<|c - k1) w:=by
 have h0:¬ c=k1:=by omega
 simp [execOp,hx,h1,h2,Instr.sliceAt,Instr.slice,Instr.sliceBounds,Instr.sliceBound,asIntOf,run_underlying hu,he.sizeOf,hk,hm,h0,Addr.add]
end
theorem reps_oneU {α:Type} [qI α] {w:World}:∀ {F:yLN} {vs:List Value} {l:List α},reps w F vs l->∀ u∈vs,u.oneCell' =true
 | _,_,[],⟨_,hv⟩,u,hu=>by rw [hv] at hu;cases hu
 | _,_,x::l,⟨F1,F2,c1,c2,_,hv,h1,h2⟩,u,hu=>by
  rw [hv] at hu
  rcases List.mem_append.1 hu with h | h
  ·exact qI.one h1 u h
  ·exact reps_oneU h2 u h
theorem o_clearAt [Dfr] {P:Program} {Q:Exit->Act->World->Prop} {ρ:Env} {ty:TypeId} {pos:String} {af:Array Edge} {K:Env->World->Prop}
 {t e:TypeId} {x:Operand} {z:Value} {sz b c c2 nn i m off:Nat} {xs zs:List Value} (H:St W0 w ps Γ) (k:Nat) (hp:ps[k]? =some (.row (Sv (some ⟨b,0,none⟩) nn c) e sz nn xs))
 (hu:P.underlying t=some (.slice e)) (hz:∀ w,(zeroValue e).run P w=.ok z w) (hx:ev n ρ x=Sv (some ⟨b,off,none⟩) m c2) (ho' :off=i * sz) (hm:0 < m)
 (wr:(Builtin.zeroCells z.cells m).toList=zs) (h1:∀ u∈zs,u.oneCell' =true) (ho:i * sz+zs.length<=xs.length)
 (kk:∀ w',St W0 w' (ps.set k<|.row (Sv (some ⟨b,0,none⟩) nn c) e sz nn<|xs.take (i * sz)++zs++xs.drop (i * sz+zs.length)) Γ->K ρ w'):
 OW P Q ⟨none,.call ⟨.builtin .clear,#[x],#[t]⟩,ty,pos,af,none⟩ n ρ w K:=o_clear H k hp hu hz (by rw [hx,ho']) hm wr h1 ho kk
theorem reps_head {α:Type} [qI α] {l:List α} (h:reps w F vs l) (k:Nat) (hk:k<=l.length):∃ F',((∀ b∈F',b∈F)/\(F.Nodup->F'.Nodup))/\reps w F' (vs.take<|k * qI.size α) (l.take k):=by
 by_cases e:k=l.length
 ·subst e
  refine ⟨F,⟨fun _ h=>h,fun h=>h⟩,?_⟩
  rw [List.take_length,List.take_of_length_le<|by rw [reps_len h];exact Nat.le_refl _]
  exact h
 ·obtain ⟨G1,Gk,G2,v1,cs,v2,rfl,rfl,m1,m2,_,s1,s2⟩:=reps_get h k qf
  refine ⟨G1,⟨fun b hb=>by simp [hb],fun hn=>?_⟩,?_⟩
  ·rw [List.append_assoc,List.nodup_append] at hn
   exact hn.1
  ·rw [← m1,List.append_assoc,List.take_left]
   exact s1
theorem St.rowHead {α:Type} [qI α] (H:St W0 w ps Γ) (k:Nat) (hp:ps[k]? =some (.row (Sv (some ⟨b,0,none⟩) nn c) e (qI.size α) nn xs)) (j:Nat) {l:List α} (hf:Γ[j]? =some (qL true F xs l)) (m:Nat) (hm:m<=l.length) (hn:m<=nn):
 ∃ xd F',((∀ q∈F',q∈F)/\(F.Nodup->F'.Nodup))/\St W0 w (ps.set k<|.row (Sv (some ⟨b,0,none⟩) m c) e (qI.size α) m xd) (qL true F' xd (l.take m)::Γ):=by
 obtain ⟨F',hs,hr⟩:=reps_head (H.get j hf).1 m hm
 have H' :=H.rowCutN k hp m hn
 exact ⟨_,F',hs,H'.jF j hf (qL true F' (xs.take<|m * qI.size α)<|l.take m) ⟨hr,fun e=>((H.get j hf).2 e).sub hs.1⟩ hs.1⟩
theorem getset_self {α:Type} {l:List α} {k:Nat} {x y:α} (h:l[k]? =some x):(l.set k y)[k]? =some y:=by
 have hk:k < l.length:=(List.getElem?_eq_some_iff.1 h).1
 rw [List.getElem?_set_self hk]
theorem delP (H:St W0 w ps Γ) (k:Nat) (hp:ps[k]? =some (.row (Sv (some ⟨b,0,none⟩) nn c) 77 4 nn xs)) (j:Nat) {l:List zk} (hf:Γ[j]? =some (qL true F xs l))
 (i:Nat) {iv jv:Int} (h1:iv=i) (h2:jv=i+1) (h3:i < nn):Calls Tryz.prog 136 #[Sv (some ⟨b,0,none⟩) nn c,.int .i64 iv,.int .i64 jv] w fun e' w' =>∃ v,e' =.returned v∧
  ∃ xd F',v=Sv (some ⟨b,0,none⟩) (l.eraseIdx i).length c/\((∀ q∈F',q∈F)/\(F.Nodup->F'.Nodup))∧
  St W0 w' (ps.set k<|.row (Sv (some ⟨b,0,none⟩) (l.eraseIdx i).length c) 77 4 (l.eraseIdx i).length xd) (qL true F' xd (l.eraseIdx i)::Γ):=by
 subst h1
 subst h2
 have hc:=H.rowCap k hp
 have hn:=H.xe (α:=zk) k hp j hf qj
 refine en Tryz.func136 Tryz.ntmps136 ?_
 refine xH<|xZ<|sp (Sv none 0 0)<|xW<|t_n<|xH<|xZ<|sps [Sv (some ⟨b,0,none⟩) nn c,.int .i64 i,.int .i64<|i+1,Sv (some ⟨b,0,none⟩) nn c]<|sw<|o_len underlying37 (some ⟨b,0,none⟩) nn c rfl<|sw<|QT _ (y_3 i (i+1) nn underlying37 ti77 rfl rfl rfl rfl qf qf qf)<|xW<|t_n<|xH<|xH<|xZ<|sps [.int .i64 i,.int .i64<|i+1,Bv ((i:Int) == i+1)]<|xW<|t_n<|vk ((i:Int) == i+1) rfl (fun h=>?_)<|fun h=>?_
 ·have:=eq_of_beq h;omega
 refine xk<|t_n<|xH<|xZ<|sp (Sv (some ⟨b,0,none⟩) nn c)<|sw<|o_len underlying37 (some ⟨b,0,none⟩) nn c rfl<|sp (.int .i64 nn)<|xW<|t_n<|xH<|zY 2 rfl H [] [] fun H=>?_
 dsimp only [jR,yE]
 refine rtl 0 (H.pick [] []) ?_
 refine rtl 1 (H.pick [] []) ?_
 refine rt 2 (Sv (some ⟨b,0,none⟩) i c) (fun _ _=>y_up i underlying37 ti77 rfl rfl qf) (H.pick [] []) ?_
 refine rtl 3 (H.pick [] []) ?_
 refine rtl 4 (H.pick [] []) ?_
 refine rt 5 (Sv (some ⟨b,if c=i+1 then 0 else 0+(i+1) * 4,none⟩) (nn - (i+1))<|c - (i+1)) (fun _ _=>y_from (i+1) underlying37 ti77 rfl rfl qf qf) (H.pick [] []) ?_
 refine xy qh<|xM ?_
 have hr:=(H.get j hf).1
 have hxl:=H.rowLen k hp
 obtain ⟨G1,Gk,G2,v1,cs,v2,rfl,rfl,DT,hl2,Ws,hr1,hr2⟩:=reps_get hr i qf
 obtain ⟨p,rfl⟩:∃ p,nn=p+1:=⟨nn - 1,by omega⟩
 have DT:v1.length=i * 4:=DT
 have hl2:cs.length=4:=hl2
 have hl3:v1.length+cs.length+v2.length=(p+1) * 4:=by simpa [Nat.add_assoc] using hxl
 have ei:i+(p+1 - (i+1))=p:=by omega
 have axz:=fun q u h=>H.rowGet (i:=q) (v:=u) k hp h
 refine sw<|o_over (i:=i) (m:=p+1 - (i+1)) (kK:=v2) H k hp underlying37 ti77 rfl rfl qf (fun q u hu=>?_) (reps_oneU hr2) qy qf fun w1 H=>?_
 ·have h:=axz (v1.length+cs.length+q) u (by rw [List.getElem?_append_right qm,List.length_append,Nat.add_sub_cancel_left];exact hu)
  have hq:q < v2.length:=(List.getElem?_eq_some_iff.1 hu).1
  have hci:¬ c=i+1:=by omega
  rw [if_neg hci]
  rw [DT,hl2] at h
  rw [show (⟨b,0+(i+1) * 4,none⟩:Addr).add q=⟨b,i * 4+4+q,none⟩ from by rw [Addr.add_lit,show i * 4+4+q=0+(i+1) * 4+q from by omega]]
  exact h
 rw [ei]
 refine sp (Sv (some ⟨b,0,none⟩) p c)<|xW<|t_n<|xH<|xZ<|sps [Sv (some ⟨b,0,none⟩) p c,Sv (some ⟨b,0,none⟩) p c]<|sw<|o_len underlying37 (some ⟨b,0,none⟩) p c rfl<|sp (.int .i64 (p+1:Nat))<|sw<|QT _ (y_hiLo p (p+1) underlying37 ti77 rfl rfl rfl qf qf qf)<|sw<|o_clearAt (i:=p) H k (by exact getset_self hp) underlying37 (zs:=[.int .i64 0,.int .i64 0,.int .i64 0,Sv none 0 0]) (z:=.agg #[.int .i64 0,.int .i64 0,.int .i64 0,Sv none 0 0]) ?_ rfl qf qf ?_ ?_ ?_ fun w2 H=>?_
 ·exact fun w=>TI.zero ti77 w
 ·rw [show p+1 - p=1 from by omega];kernel_rfl
 ·intro u hu
  simp only [List.mem_cons,List.not_mem_nil,or_false] at hu
  rcases hu with rfl | rfl | rfl | rfl <;> rfl
 ·simp;omega
 refine xW<|t_n<|xH<|xZ<|sps [Sv (some ⟨b,0,none⟩) p c,Sv (some ⟨b,0,none⟩) p c]<|zjr<|ret1 (Sv (some ⟨b,0,none⟩) p c) rfl rfl ⟨_,rfl,?_⟩
 have el:l.eraseIdx i=l.take i++l.drop (i+1):=List.eraseIdx_eq_take_drop_succ ..
 have ell:(l.eraseIdx i).length=p:=by rw [List.length_eraseIdx_of_lt qf];omega
 obtain ⟨g1,gk,g2,u1,IU,u2,hF,hv,m1,m2,_,s1,s2⟩:=reps_get (H.get j hf).1 i qf
 obtain ⟨DS,hv2⟩:=List.append_inj hv<|by simp only [List.length_append];omega
 obtain ⟨rfl,_⟩:=List.append_inj DS qf
 subst hv2
 refine ⟨v1++v2,g1++g2,by rw [ell],⟨fun q hq=>?_,fun Mm=>?_⟩,?_⟩
 ·rw [hF]
  simp only [List.mem_append] at hq ⊢
  rcases hq with h | h <;> simp [h]
 ·rw [hF,List.append_assoc,List.nodup_append,List.nodup_append] at Mm
  rw [List.nodup_append]
  exact ⟨Mm.1,Mm.2.1.2.1,fun x hx y hy=>Mm.2.2 x hx y<|List.mem_append.2<|.inr hy⟩
 have H3:=H.rowCutN k (getset_self<|getset_self hp) p qf
 rw [List.set_set,List.set_set] at H3
 rw [ell]
 have e2:((List.take (p * 4) (List.take (i * 4) (v1++cs++v2)++v2++List.drop (i * 4+v2.length) (v1++cs++v2))++[Value.int .i64 0,.int .i64 0,.int .i64 0,Sv none 0 0]++
  List.drop (p * 4+4) (List.take (i * 4) (v1++cs++v2)++v2++List.drop (i * 4+v2.length) (v1++cs++v2))).take (p * 4))=v1++v2:=by
  rw [← DT,List.append_assoc v1 cs v2,List.take_left]
  have hpl:p * 4=(v1++v2).length:=by simp;omega
  rw [hpl,List.take_left,List.append_assoc,List.take_left]
 have H4:=H3.jF j hf (qL true (g1++g2) (v1++v2)<|l.eraseIdx i) ⟨by rw [el];exact yO s1 s2,fun _=>((H3.get j hf).2 rfl).sub fun q hq=>by
  rw [hF]
  simp only [List.mem_append] at hq ⊢
  rcases hq with h | h <;> simp [h]⟩ (fun q hq=>by
  have hq:q∈g1++g2:=hq
  show q∈G1++Gk++G2
  rw [hF]
  simp only [List.mem_append] at hq ⊢
  rcases hq with h | h <;> simp [h])
 have e3:∀ x y:List Value,x=y->St W0 w2 (ps.set k<|.row (Sv (some ⟨b,0,none⟩) p c) 77 4 p x) (qL true (g1++g2) (v1++v2) (l.eraseIdx i)::Γ)->St W0 w2 (ps.set k<|.row (Sv (some ⟨b,0,none⟩) p c) 77 4 p y) (qL true (g1++g2) (v1++v2) (l.eraseIdx i)::Γ):=fun _ _ e h=>e▸h
 exact e3 _ _ e2 H4
end
section
section
variable {s : qM} {own : yLI} {n : Nat}
theorem jf.nowIn (hg:Giv s own n) (h:jf s own n i d) (hw:d.qQ=true) (hj:j < n):d.vJ.length=n/\Sm2 (d.vJ[j]!)/\PutOk s own j (d.vJ[j]!):=
 have h1:=(h.got hw).2.2.2
 ⟨h1.1,(h1.2 j hj).small hg.sys,h1.2 j hj⟩
theorem jf.lastIn (hg:Giv s own n) (h:jf s own n i d) (hr:d.qN≠0) (hj:j < n):d.xP.length=n/\Sm2 (d.xP[j]!)/\PutOk s own j (d.xP[j]!):=
 have h1:=h.last (by have:=h.rnd;omega)
 ⟨h1.1,(h1.2 j hj).small hg.sys,h1.2 j hj⟩
theorem plusPre (hs:QC s) {a b:yLL} (h1:PutOk s own j a) (h2:PutOk s own j b):(a.length<=b.length/\a.length<=1000000)/\∀ k,k < a.length->(a[k]!).length<=(b[k]!).length/\Mid (a[k]!)/\XV (b[k]!) 1:=by
 have s1:=h1.small hs
 have e1:=h1.len
 have e2:=h2.len
 refine ⟨⟨by omega,s1.1⟩,fun k hk=>?_⟩
 have b1:=h1.bag k qf
 have b2:=h2.bag k qf
 have l1:=b1.2
 have l2:=b2.2
 refine ⟨by omega,(jc b1).mid,fun q hq=>?_⟩
 have:=(jc b2).2 q hq
 omega
theorem jf.sumLen (h:jf s own n i d):(Qr (d.qG++[d.qE]) d.qJ).length=s.qA.length+1:=by
 rw [Qr,Vs]
 exact h.all.len
theorem allGot_of {l:List Bool} (h:anyTo (fun k=>false == l[k]!) l.length=false):AllGot l l.length:=fun j hj=>by
 have:=anyTo_false.1 h j hj
 cases e:l[j]! with
 | true=>rfl
 | false=>rw [e] at this;cases this
theorem notGot_of {l:List Bool} (h:anyTo (fun k=>false == l[k]!) l.length=true):¬ AllGot l l.length:=fun h1=>by
 have h2:anyTo (fun k=>false == l[k]!) l.length=false:=anyTo_false.2 fun j hj=>by rw [h1 j hj];rfl
 rw [h2] at h;cases h
theorem come_len {b:yLL} (hi:i < sv.length) (e:L=sv.set i { sv[i]! with qC:={ (sv[i]!).qC with qJ:=b }}) (h:(sv[i]!).qC.vz.length=m):L.length=sv.length/\(L[i]!).qC.vz.length=m:=by
 refine ⟨by rw [e,List.length_set],?_⟩
 rw [srv_set hi e]
 exact h
theorem set_len (e:L' =L.set i x):L'.length=L.length:=by rw [e,List.length_set]
theorem set_got {g:List Bool} (hi:i < L.length) (e:L' =L.set i { L[i]! with qC:={ (L[i]!).qC with vz:=g }}):(L'[i]!).qC.vz.length=g.length:=by rw [srv_set hi e]
def vG (x:List Bool) (k:Int):List Bool:=List.replicate k.toNat<|x[0]!
theorem view_ok (hg:Giv s own n) (h:jf s own n i d):vM s (⟨vG [true] s.qA.length,d.qG,d.qE⟩:xh):=h.view hg.sys.1
variable {t : xh} {i : Int} {c bQ j : Nat} {L L' : List yLL}
theorem ownAt_e {own:yLI} {p:Nat} (h:p=own.length):vC own p=own[0]! :=by rw [vC,if_pos h]
theorem ownAt_n {own:yLI} {p:Nat} (h:p≠own.length):vC own p=own[p]! :=by rw [vC,if_neg h]
theorem now_pre (hg:Giv s own n) (ht:vM s t) (hc:c < s.qA.length) (hp:bQ<=s.qA.length) (hj:j < n) (e:L=addTo own (jU s t (xw s t) c) (nowTo s t own i n c) bQ):
 L.length=n/\(L[j]!).length=s.qA.length+1/\((L[j]!)[bQ]!).length<=((jU s t (xw s t) c)[bQ]!).length/\Mid ((L[j]!)[bQ]!)/\XV ((jU s t (xw s t) c)[bQ]!) 1:=by
 have hl:zF s=s.qA.length:=rfl
 have sh:=puts_shape (t:=t) (cell:=(c:Int)) hg.sys<|X7 hg.sys ht
 have a:=addTo_at (nowTo_cube (i:=i) hg.sys ht hg.own hg.len c) sh hg.own (by rw [hg.len]) qf bQ qf
 rw [← e] at a
 have kl:=XG hg.sys
 have c1:=hg.sys.1.2.1
 have r:=a.2 j hj
 have r2:=r.2 bQ qf
 have p2:=sh.2 bQ qf
 refine ⟨a.1,r.1,by omega,⟨by omega,fun k hk=>?_⟩,fun k hk=>?_⟩
 ·have:=(r2.2 k qf).1
  omega
 ·have:=p2.2 k qf
  omega
theorem now_ok (hg:Giv s own n) (ht:vM s t) (hc:c<=s.qA.length) (hj:j < n) (e:L=nowTo s t own i n c):L.length=n/\Sm2 (L[j]!):=by
 have hl:zF s=s.qA.length:=rfl
 have a:=nowTo_cube (i:=i) hg.sys ht hg.own hg.len c
 rw [← e] at a
 have kl:=XG hg.sys
 have c1:=hg.sys.1.2.1
 have r:=a.2 j hj
 exact ⟨a.1,⟨by have:=r.1;omega,fun k hk=>by have:=(r.2 k (by have:=r.1;omega)).1;omega⟩⟩
theorem puts_len (hg:Giv s own n) (ht:vM s t) (c:Int):(jU s t (xw s t) c).length=s.qA.length+1:=(puts_shape (t:=t) c hg.sys<|X7 hg.sys ht).1
theorem add_step {nm:yLL} {ah5:List yLL} {o:Int} (e:L=addTo own nm ah5 bQ) (ho:vC own bQ=o) (eL:L' =L.set o.toNat ((L[o.toNat]!).set bQ<|vS ((L[o.toNat]!)[bQ]!) (nm[bQ]!) 1)):L' =addTo own nm ah5 (bQ+1):=by
 subst e
 rw [addTo,ho,eL]
theorem now_end (e:L=addTo own (jU s t (xw s t) c) (nowTo s t own i n c) bQ) (hp:bQ=s.qA.length+1) (ho:own[c]! =i):L=nowTo s t own i n (c+1):=by
 rw [nowTo_yes ho,show zF s+1=bQ from hp.symm]
 exact e
theorem rep_zero {k:Nat} (h:k=m):List.replicate k (ji s<|s.qA.length+1)=nowTo s t own i m 0:=by rw [h];rfl
variable {sv : List zA} {wi : List zk} {iv : Int} {SL : List zA}
theorem workR_4 (h:(sv[iv.toNat]!).qC.qQ=true):workM s own ⟨sv,wi⟩ iv.toNat=(⟨sv,wi⟩,4):=work_4 (v:=⟨sv,wi⟩) h
theorem workR_3 (h:(sv[iv.toNat]!).qC.qQ=false) (h1:(sv[iv.toNat]!).qC.qN=100):workM s own ⟨sv,wi⟩ iv.toNat=(⟨sv,wi⟩,3):=work_3 (v:=⟨sv,wi⟩) (by rw [show ((⟨sv,wi⟩:zQ).qF[iv.toNat]!).qC.qQ=false from h];exact Bool.false_ne_true) h1
theorem now_is (hi:0<=iv) (hc:c=s.qA.length) (e:L=nowTo s (⟨vG [true] s.qA.length,d.qG,d.qE⟩:xh) own iv n c):L=nowD s own n iv.toNat d:=by
 rw [e,hc,nowD,Int.toNat_of_nonneg hi]
 rfl
theorem workR_no (hi:0<=iv) (h:(sv[iv.toNat]!).qC.qQ=false) (h1:(sv[iv.toNat]!).qC.qN≠100) (hc:c=s.qA.length) (e:L=nowTo s (⟨vG [true] s.qA.length,((sv[iv.toNat]!).qC).qG,((sv[iv.toNat]!).qC).qE⟩:xh) own iv sv.length c)
 (hj:j < sv.length) (h2:¬ yH (L[j]!) (L[j]!).length):workM s own ⟨sv,wi⟩ iv.toNat=(⟨sv,wi⟩,3):=
 work_no (v:=⟨sv,wi⟩) (by rw [show ((⟨sv,wi⟩:zQ).qF[iv.toNat]!).qC.qQ=false from h];exact Bool.false_ne_true) h1 (fun x=>h2 (by
  have:=x j hj
  rw [← now_is hi hc e] at this
  exact this))
theorem workR_0 (hi:0<=iv) (h:(sv[iv.toNat]!).qC.qQ=false) (h1:(sv[iv.toNat]!).qC.qN≠100) (hc:c=s.qA.length) (e:L=nowTo s (⟨vG [true] s.qA.length,((sv[iv.toNat]!).qC).qG,((sv[iv.toNat]!).qC).qE⟩:xh) own iv sv.length c)
 (h2:AllB3 L sv.length) (e2:L=nowD s own sv.length iv.toNat (sv[iv.toNat]!).qC->Xe ⟨sv,wi⟩ iv.toNat (workD s own sv.length iv.toNat (sv[iv.toNat]!).qC)=⟨SL,wi⟩):workM s own ⟨sv,wi⟩ iv.toNat=(⟨SL,wi⟩,0):=
 (work_0 (v:=⟨sv,wi⟩) (by rw [show ((⟨sv,wi⟩:zQ).qF[iv.toNat]!).qC.qQ=false from h];exact Bool.false_ne_true) h1 (by
  have h3:=h2
  rw [now_is hi hc e] at h3
  exact h3)).trans (by rw [← e2<|now_is hi hc e])
end
end
section
theorem reps_cut {α:Type} [qI α] {l:List α} (h:reps w F vs l) (i:Nat) (hi:i < l.length):
 ∃ GA GB,((∀ b∈GA++GB,b∈F)/\(F.Nodup->(GA++GB).Nodup))/\reps w GA (vs.take<|i * qI.size α) (l.take i)/\reps w GB (vs.drop ((i+1) * qI.size α)) (l.drop<|i+1):=by
 obtain ⟨G1,Gk,G2,v1,cs,v2,rfl,rfl,m1,m2,_,s1,s2⟩:=reps_get h i hi
 refine ⟨G1,G2,⟨fun b hb=>?_,fun hn=>?_⟩,?_,?_⟩
 ·simp only [List.mem_append] at hb ⊢
  rcases hb with h | h <;> simp [h]
 ·rw [List.append_assoc,List.nodup_append,List.nodup_append] at hn
  rw [List.nodup_append]
  exact ⟨hn.1,hn.2.1.2.1,fun x hx y hy=>hn.2.2 x hx y<|List.mem_append.2<|.inr hy⟩
 ·rw [← m1,List.append_assoc,List.take_left]
  exact s1
 ·have e:(i+1) * qI.size α=(v1++cs).length:=by rw [List.length_append,m1,m2,Nat.add_mul,Nat.one_mul]
  rw [e,List.drop_left]
  exact s2
section
variable {P : Program} {Q : Exit -> Act -> World -> Prop} {n : Nat} {ρ : Env} {W0 w : World} {ps : List Prv} {Γ : List Fact}
 {d:Nat} {ty:TypeId} {pos:String} {af:Array Edge} {K:Env->World->Prop}
theorem y_upI {x:Operand} (kk:Nat) (hu:P.underlying t=some (.slice e)) (he:TI P e z sz fJ) (hx:ev n ρ x=Sv a m c) (hy:ev n ρ y=.int .i64 iv) (hi:iv=(kk:Int)) (hk:kk<=c):
 (execOp (ev n ρ) ⟨some d,.slice t x none (some y) none,ty,pos,af,none⟩).run P w=.ok (.value<|Sv a kk c) w:=by
 subst hi;exact y_up kk hu he hx hy hk
theorem y_fromI {x:Operand} (kk:Nat) (hu:P.underlying t=some (.slice e)) (he:TI P e z sz fJ) (hx:ev n ρ x=Sv (some ⟨b,0,none⟩) m c) (hy:ev n ρ y=.int .i64 iv) (hi:iv=(kk:Int)) (hk:kk<=m) (hm:m<=c):
 (execOp (ev n ρ) ⟨some d,.slice t x (some y) none none,ty,pos,af,none⟩).run P w=.ok (.value<|Sv (some ⟨b,if c=kk then 0 else 0+kk * sz,none⟩) (m - kk)<|c - kk) w:=by
 subst hi;exact y_from kk hu he hx hy hk hm
theorem St.cutRow {α:Type} [qI α] (H:St W0 w ps Γ) (j:Nat) {l:List α} (hf:Γ[j]? =some (qL true F xs l)) (i:Nat) (hi:i < l.length):
 ∃ GA GB,((∀ b∈GA++GB,b∈F)/\(F.Nodup->(GA++GB).Nodup))/\St W0 w ps (qL true GA (xs.take<|i * qI.size α) (l.take i)::qL true GB (xs.drop ((i+1) * qI.size α)) (l.drop<|i+1)::Γ):=by
 obtain ⟨GA,GB,hs,h1,h2⟩:=reps_cut (H.get j hf).1 i hi
 have hA:∀ b∈GA,b∈F:=fun b hb=>hs.1 b<|List.mem_append.2<|.inl hb
 have hB:∀ b∈GB,b∈F:=fun b hb=>hs.1 b<|List.mem_append.2<|.inr hb
 have H1:=H.jF j hf (qL true GB (xs.drop ((i+1) * qI.size α))<|l.drop<|i+1) ⟨h2,fun e=>((H.get j hf).2 e).sub hB⟩ hB
 exact ⟨GA,GB,hs,H1.jF (j+1) hf (qL true GA (xs.take<|i * qI.size α)<|l.take i) ⟨h1,fun e=>((H.get j hf).2 e).sub hA⟩ hA⟩
theorem o_appendV [Dfr] {x:Operand} {cs:List Value} (H:St W0 w ps Γ) (i:Nat) (hp:ps[i]? =some (.row v e sz nn xs)) (k:Nat) (hk:ps[k]? =some (.row (Sv (some ⟨b,0,none⟩) n2 c2) e sz n2 ys))
 (hu:P.underlying t=some (.slice e)) (he:TI P e z sz fJ) (wr:z.cells.size=sz) (h0:0 < sz) (hs:ev n ρ s=v) (hx:ev n ρ x=Sv (some ⟨b,off,none⟩) m c') (hl:cs.length=m * sz)
 (hc:∀ q u,cs[q]? =some u->ys[off+q]? =some u) (h1:∀ u∈cs,u.oneCell' =true) (hm:nn+m<=maxLen) (hb:(nn+m) * fJ <=140737488355328)
 (kk:∀ a c w',St W0 w' (ps.set i<|.row (Sv a (nn+m) c) e sz (nn+m)<|xs++cs) Γ->K (upd ρ d<|Sv a (nn+m) c) w'):
 OW P Q ⟨some d,.call ⟨.builtin .append,#[s,x],#[t,t]⟩,ty,pos,af,none⟩ n ρ w K:=by
 obtain ⟨i',hi,LJ,NL,Ls⟩:=info_parts he
 have gj:w.ownsRow W0.heap.size e sz v nn xs:=H.has _<|List.mem_of_getElem? hp
 obtain ⟨v',w',hr,ho,hg,_,hbl⟩:=run_append_own_at (P:=P) w W0.heap.size t ty e i' z sz fJ hu hi LJ NL Ls wr h0 v nn xs gj ⟨b,off,none⟩ m c' cs hl
  (fun k' u Bh =>by rw [Addr.add_lit];exact H.rowGet k hk<|hc k' u Bh) h1 hm hb H.base.size
 have H' :St W0 w' (ps.set i<|.row v' e sz (nn+m)<|xs++cs) Γ:=H.change i hp hg.os hg.tape hg.output hg.size (fun c hc pH=>hg.block c hc<|fun e' =>pH e'.symm) ho (by
  rcases hbl with h | h
  ·exact Or.inl h
  ·exact Or.inr<|Or.inr ⟨_,h,Nat.le_refl _⟩)
 obtain ⟨a,c,rfl,_⟩:=H'.jW i<|set_at hp
 exact QT _ (by simp [execOp,resolve,invoke,builtin,hs,hx,hr])<|kk a c w' H'
theorem o_appendHd [Dfr] {α:Type} [qI α] {x:Operand} {l:List α} (H:St W0 w ps Γ) (i:Nat) (hp:ps[i]? =some (.row v e (qI.size α) nn xs)) (k:Nat) (hk:ps[k]? =some (.row (Sv (some ⟨b,0,none⟩) n2 c2) e (qI.size α) n2 ys))
 (j:Nat) (hf:Γ[j]? =some (qL fr G (ys.take<|m * qI.size α) l))
 (hu:P.underlying t=some (.slice e)) (he:TI P e z (qI.size α) fJ) (wr:z.cells.size=qI.size α) (h0:0 < qI.size α) (hs:ev n ρ s=v) (hx:ev n ρ x=Sv (some ⟨b,0,none⟩) m c') (TM:m<=n2) (hm:nn+m<=maxLen) (hb:(nn+m) * fJ <=140737488355328)
 (kk:∀ a c w',St W0 w' (ps.set i<|.row (Sv a (nn+m) c) e (qI.size α) (nn+m)<|xs++ys.take (m * qI.size α)) Γ->K (upd ρ d<|Sv a (nn+m) c) w'):
 OW P Q ⟨some d,.call ⟨.builtin .append,#[s,x],#[t,t]⟩,ty,pos,af,none⟩ n ρ w K:=by
 have hl:=H.rowLen k hk
 have hle:m * qI.size α<=n2 * qI.size α:=Nat.mul_le_mul_right _ TM
 refine o_appendV H i hp k hk hu he wr h0 hs hx (by rw [List.length_take];omega) (fun q u h=>?_) (reps_oneU (H.get j hf).1) hm hb kk
 have hq:q < (ys.take<|m * qI.size α).length:=(List.getElem?_eq_some_iff.1 h).1
 rw [List.length_take] at hq
 rw [List.getElem?_take_of_lt qf] at h
 rw [Nat.zero_add];exact h
theorem o_appendTl [Dfr] {α:Type} [qI α] {x:Operand} {p:Nat} {l:List α} (H:St W0 w ps Γ) (i:Nat) (hp:ps[i]? =some (.row v e (qI.size α) nn xs)) (k:Nat) (hk:ps[k]? =some (.row (Sv (some ⟨b,0,none⟩) n2 c2) e (qI.size α) n2 ys))
 (j:Nat) (hf:Γ[j]? =some (qL fr G (ys.drop<|p * qI.size α) l))
 (hu:P.underlying t=some (.slice e)) (he:TI P e z (qI.size α) fJ) (wr:z.cells.size=qI.size α) (h0:0 < qI.size α) (hs:ev n ρ s=v) (hx:ev n ρ x=Sv (some ⟨b,if c2=p then 0 else 0+p * qI.size α,none⟩) (n2 - p) c') (TM:p<=n2) (hn2:n2<=c2) (hm:nn+(n2 - p)<=maxLen) (hb:(nn+(n2 - p)) * fJ <=140737488355328)
 (kk:∀ a c w',St W0 w' (ps.set i<|.row (Sv a (nn+(n2 - p)) c) e (qI.size α) (nn+(n2 - p))<|xs++ys.drop (p * qI.size α)) Γ->K (upd ρ d<|Sv a (nn+(n2 - p)) c) w'):
 OW P Q ⟨some d,.call ⟨.builtin .append,#[s,x],#[t,t]⟩,ty,pos,af,none⟩ n ρ w K:=by
 have hl:=H.rowLen k hk
 have hle:p * qI.size α<=n2 * qI.size α:=Nat.mul_le_mul_right _ TM
 refine o_appendV H i hp k hk hu he wr h0 hs hx (by rw [List.length_drop,Nat.sub_mul];omega) (fun q u h=>?_) (reps_oneU (H.get j hf).1) hm hb kk
 have hq:q < (ys.drop<|p * qI.size α).length:=(List.getElem?_eq_some_iff.1 h).1
 rw [List.length_drop,hl] at hq
 have pH:¬ c2=p:=fun e=>by
  have:n2=p:=by omega
  subst this;omega
 rw [if_neg pH,Nat.zero_add]
 rw [List.getElem?_drop] at h
 exact h
theorem o_appendAl [Dfr] {α:Type} [qI α] {x:Operand} {a0:yOA} {l:List α} (H:St W0 w ps Γ) (i:Nat) (hp:ps[i]? =some (.row v e (qI.size α) nn xs)) (k:Nat) (hk:ps[k]? =some (.row (Sv a0 n2 c2) e (qI.size α) n2 ys))
 (j:Nat) (hf:Γ[j]? =some (qL fr G ys l))
 (hu:P.underlying t=some (.slice e)) (he:TI P e z (qI.size α) fJ) (wr:z.cells.size=qI.size α) (h0:0 < qI.size α) (hs:ev n ρ s=v) (hx:ev n ρ x=Sv a0 n2 c2) (hm:nn+n2<=maxLen) (hb:(nn+n2) * fJ <=140737488355328)
 (kk:∀ a c w',St W0 w' (ps.set i<|.row (Sv a (nn+n2) c) e (qI.size α) (nn+n2)<|xs++ys) Γ->K (upd ρ d<|Sv a (nn+n2) c) w'):
 OW P Q ⟨some d,.call ⟨.builtin .append,#[s,x],#[t,t]⟩,ty,pos,af,none⟩ n ρ w K:=by
 have hl:=H.rowLen k hk
 obtain ⟨i',hi,LJ,NL,Ls⟩:=info_parts he
 rcases a0 with _ | ⟨b,off,sp⟩
 ·have gj:w.ownsRow W0.heap.size e (qI.size α) (Sv none n2 c2) n2 ys:=H.has _ (List.mem_of_getElem? hk)
  obtain ⟨_,h | ⟨g,gY,gZ,hv,_⟩⟩:=gj
  ·have he0:n2=0/\c2=0:=by simp only [Value.slice.injEq] at h;omega
   obtain ⟨rfl,rfl⟩:=he0
   have hy:ys=[]:=List.length_eq_zero_iff.1<|by rw [hl];simp
   subst hy
   obtain ⟨a1,c1,rfl,acD,_⟩:=H.jW i hp
   refine QT (w' :=w) (Sv a1 nn c1) (by simp [execOp,resolve,invoke,builtin,hs,hx,run_append_none hu hi acD]) ?_
   have H' :=kk a1 c1 w
   simp only [Nat.add_zero,List.append_nil] at H'
   refine H' ?_
   have:ps.set i (.row (Sv a1 nn c1) e (qI.size α) nn xs)=ps:=by
    apply List.ext_getElem?
    intro j'
    by_cases hj:i=j'
    ·subst hj
     rw [hp]
     have Bj :i < ps.length:=(List.getElem?_eq_some_iff.1 hp).1
     rw [List.getElem?_set_self Bj]
    ·rw [List.getElem?_set_ne hj]
   rw [this];exact H
  ·cases hv
 ·have gj:w.ownsRow W0.heap.size e (qI.size α) (Sv (some ⟨b,off,sp⟩) n2 c2) n2 ys:=H.has _ (List.mem_of_getElem? hk)
  have ho:off=0/\sp=none:=by
   obtain ⟨_,h | ⟨g,gY,gZ,hv,_⟩⟩:=gj
   ·simp at h
   ·simp only [Value.slice.injEq,Option.some.injEq,Addr.mk.injEq] at hv;exact ⟨hv.1.2.1,hv.1.2.2⟩
  obtain ⟨rfl,rfl⟩:=ho
  exact o_appendV H i hp k hk hu he wr h0 hs hx hl (fun q u h=>by rw [Nat.zero_add];exact h) (reps_oneU (H.get j hf).1) hm hb kk
theorem erase_cut {α:Type} {l:List α} (hi:i < l.length):(([]++l.take i)++([]++l.drop (i+1)))=l.eraseIdx i:=(List.eraseIdx_eq_take_drop_succ ..).symm
end
end
section
section
variable {s : qM} {own : yLI} {n i : Nat} {sv L : List zA} {wi : List zk}
theorem sadv_4 (h:¬ ((sv[i]!).qC.qQ=true/\AllGot (sv[i]!).qC.vz (sv[i]!).qC.vz.length/\QQ (sv[i]!))):Qy s ⟨sv,wi⟩ i=(⟨sv,wi⟩,4):=adv_4 (v:=⟨sv,wi⟩) h
theorem sadv_w (h:(sv[i]!).qC.qQ=false):Qy s ⟨sv,wi⟩ i=(⟨sv,wi⟩,4):=sadv_4 fun x=>by rw [h] at x;exact absurd x.1 Bool.false_ne_true
theorem sadv_g (hb:b < (sv[i]!).qC.vz.length) (h:((sv[i]!).qC.vz)[b]! =false):Qy s ⟨sv,wi⟩ i=(⟨sv,wi⟩,4):=sadv_4 fun x=>by
 have:=x.2.1 b hb
 rw [h] at this
 exact absurd this Bool.false_ne_true
theorem sadv_s (h:¬ QQ (sv[i]!)):Qy s ⟨sv,wi⟩ i=(⟨sv,wi⟩,4):=sadv_4 fun x=>h x.2.2
theorem sadv_3 (hd:d=(sv[i]!).qC) (h1:d.qQ=true) (h2:AllGot d.vz d.vz.length) (h3:QQ (sv[i]!)) (hb:d.qG.length=zF s) (hc:c=d.qG.length)
 (h:¬ (yH (Xt d.qG d.qJ c) (Xt d.qG d.qJ c).length/\BagAny (vS d.qE (d.qJ[d.qG.length]!) 1))):Qy s ⟨sv,wi⟩ i=(⟨sv,wi⟩,3):=by
 subst hd
 subst hc
 rw [hb] at h
 refine adv_3 (v:=⟨sv,wi⟩) ⟨h1,h2,h3⟩ fun x=>h ?_
 have x:yH (sumD (sv[i]!).qC) (sumD (sv[i]!).qC).length:=x
 rw [sum_adv hb] at x
 exact allBags_cat.1 x
theorem sadv_0 (hd:d=(sv[i]!).qC) (h1:d.qQ=true) (h2:AllGot d.vz d.vz.length) (h3:QQ (sv[i]!)) (hb:d.qG.length=zF s) (hc:c=d.qG.length)
 (h:yH (Xt d.qG d.qJ c) (Xt d.qG d.qJ c).length) (h4:BagAny (vS d.qE (d.qJ[d.qG.length]!) 1))
 (e:L=sv.set i { sv[i]! with qC:=⟨d.qN+1,Xt d.qG d.qJ c,vS d.qE (d.qJ[d.qG.length]!) 1,false,[],[],[],d.vJ⟩}):Qy s ⟨sv,wi⟩ i=(⟨L,wi⟩,0):=by
 subst hd
 subst hc
 rw [hb] at h h4 e
 have x:yH (sumD (sv[i]!).qC) (sumD (sv[i]!).qC).length:=by rw [sum_adv hb];exact allBags_cat.2 ⟨h,h4⟩
 have:=adv_0 (s:=s) (v:=⟨sv,wi⟩) (i:=i) ⟨h1,h2,h3⟩ x
 rw [this,e,show nextD s ((⟨sv,wi⟩:zQ).qF[i]!).qC=_ from nextD_adv hb]
 rfl
theorem sadv_cat {p:Nat} (hp:p < d.qG.length):(d.qG++[d.qE])[p]! =d.qG[p]! :=by
 rw [getElem!_pos (d.qG++[d.qE]) p qy,getElem!_pos d.qG p hp,List.getElem_append_left hp]
theorem sadv_end:(d.qG++[d.qE])[d.qG.length]! =d.qE:=by
 rw [getElem!_pos (d.qG++[d.qE]) d.qG.length qm];simp
theorem sadv_row (hg:Giv s own n) (h:jf s own n i d) (hw:d.qQ=true) (hc:c < d.qG.length):
 ((Xt d.qG d.qJ c)[c]!).length<=(d.qJ[c]!).length/\Mid ((Xt d.qG d.qJ c)[c]!)/\XV (d.qJ[c]!) 1:=by
 have h1:=(plusPre hg.sys h.all (h.got hw).2.2.1).2 c qy
 rw [sadv_cat hc] at h1
 rw [advTo_get hc,if_neg qf]
 exact h1
theorem sadv_last (hg:Giv s own n) (h:jf s own n i d) (hw:d.qQ=true):
 d.qE.length<=(d.qJ[d.qG.length]!).length/\Mid d.qE/\XV (d.qJ[d.qG.length]!) 1:=by
 have h1:=(plusPre hg.sys h.all (h.got hw).2.2.1).2 d.qG.length qm
 rw [sadv_end] at h1
 exact h1
theorem sadv_len (h:jf s own n i d) (hw:d.qQ=true):d.qG.length=zF s/\d.qJ.length=d.qG.length+1:=by
 have h1:=h.all.len
 have h2:=(h.got hw).2.2.1.len
 rw [List.length_append,List.length_singleton] at h1
 omega
theorem sadv_step (hc:c < d.qG.length):(Xt d.qG d.qJ c).set c (vS ((Xt d.qG d.qJ c)[c]!) (d.qJ[c]!) 1)=Xt d.qG d.qJ (c+1):=
 advTo_set hc (by rw [advTo_get hc,if_neg qf])
variable {iv : Int} {c : Nat} {d : zn} {LN : List yLL} {SL : List zA} {B : yLL} {G : List Bool}
def gotTo (iv:Int) (k:Nat):List Bool:=(List.range k).map fun (j:Nat)=>((j:Int) == iv)
theorem gotTo_snoc (iv:Int) (k:Nat):gotTo iv k++[((k:Int) == iv)]=gotTo iv (k+1):=by simp [gotTo,List.range_succ]
theorem gotTo_len (iv:Int) (k:Nat):(gotTo iv k).length=k:=by simp [gotTo]
theorem gotTo_all (hi:0<=iv) {k:Nat} (hk:k=n):gotTo iv k=(List.replicate n false).set iv.toNat true:=by
 subst hk
 apply List.ext_getElem (by simp [gotTo])
 intro j h1 h2
 simp only [gotTo,List.getElem_map,List.getElem_range,List.getElem_set,List.getElem_replicate]
 split
 ·simp;omega
 ·simp;omega
theorem sview_ok (hg:Giv s own n) (h:jf s own n i d):vM s (⟨List.replicate s.qA.length true,d.qG,d.qE⟩:xh):=h.view hg.sys.1
theorem sview_w (s:qM) (d:zn):Whole (⟨List.replicate s.qA.length true,d.qG,d.qE⟩:xh):=view_whole (s:=s) d
theorem sb_row (hg:Giv s own n) (hi:0<=iv) (h:jf s own n iv.toNat d) (hc:c < s.qA.length):((jD s own d iv c)[c]!).length=vP s/\Mid ((jD s own d iv c)[c]!):=by
 have:=sBags_row hg h hc
 rwa [Int.toNat_of_nonneg hi] at this
theorem sb_took (hg:Giv s own n) (h:jf s own n i d) (c:Nat):(yF s (xw s (⟨List.replicate s.qA.length true,d.qG,d.qE⟩:xh)) (c:Int) s.qB.length).length=vP s/\XV (yF s (xw s (⟨List.replicate s.qA.length true,d.qG,d.qE⟩:xh)) (c:Int) s.qB.length) (-1):=
 ⟨took_len _ _ _,tookOk hg h c⟩
theorem sb_len (h:jf s own n i d) (c:Nat):(jD s own d iv c).length=s.qA.length:=by
 rw [sBags_len]
 have:=h.all.len
 rw [List.length_append,List.length_singleton] at this
 have e:zF s=s.qA.length:=rfl
 omega
theorem sb_end (hg:Giv s own n) (hi:0<=iv) (h:jf s own n iv.toNat d) (hc:c=s.qA.length):jD s own d iv c=bagsD s d:=by
 have:=sBags_end hg h
 rw [Int.toNat_of_nonneg hi] at this
 rw [hc];exact this
theorem swork_0 (hi:0<=iv) (hd:d=(sv[iv.toNat]!).qC) (h:d.qQ=false) (h1:d.qN≠100) (hc:c=s.qA.length) (e:LN=nowTo s (⟨List.replicate s.qA.length true,d.qG,d.qE⟩:xh) own iv sv.length c)
 (h2:AllB3 LN sv.length) (hB:B=bagsD s d) (hG:G=(List.replicate sv.length false).set iv.toNat true)
 (eL:SL=sv.set iv.toNat { sv[iv.toNat]! with qC:=⟨d.qN,B,d.qE,true,G,LN[iv.toNat]!,LN,d.xP⟩}):workM s own ⟨sv,wi⟩ iv.toNat=(⟨SL,wi⟩,0):=by
 subst hd
 refine workR_0 hi h h1 hc e h2 fun z=>?_
 rw [eL,hB,hG]
 subst z
 rfl
variable {d : xm} {p : zk} {L1 L2 : List zA}
theorem doR_advance {d:xm} (hk:d.xE=5) (h:InS sv d.fA):doM s own ⟨sv,wi⟩ d=Qy s ⟨sv,wi⟩ d.fA.toNat:=do_advance hk h
theorem stale_w (h:(sv[p.fTo.toNat]!).qC.qQ=false):true=true<->Stale sv p:=iff_of_true rfl<|.inl h
theorem stale_r (h:(sv[p.fTo.toNat]!).qC.qN≠p.qN):true=true<->Stale sv p:=iff_of_true rfl<|.inr<|.inl h
theorem stale_g (h1:(sv[p.fTo.toNat]!).qC.qQ=true) (h2:(sv[p.fTo.toNat]!).qC.qN=p.qN):((sv[p.fTo.toNat]!).qC.vz)[p.XZ.toNat]! =true<->Stale sv p:=
 ⟨fun h=>.inr<|.inr h,fun h=>by
  rcases h with h | h | h
  ·rw [h1] at h;cases h
  ·exact absurd h2 h
  ·exact h⟩
theorem fresh_of (h:¬ Stale sv p):(sv[p.fTo.toNat]!).qC.qQ=true:=by
 cases e:(sv[p.fTo.toNat]!).qC.qQ with
 | true=>rfl
 | false=>exact absurd (.inl e) h
theorem sumC_eq (hc:c=(sv[p.fTo.toNat]!).qC.qJ.length):Xa (sv[p.fTo.toNat]!).qC.qJ p.qG c=sumC sv p:=by rw [hc];rfl
theorem sgot_sets (hc:c=(sv[p.fTo.toNat]!).qC.qJ.length) (hi:p.fTo.toNat < sv.length) (e1:L1=sv.set p.fTo.toNat { sv[p.fTo.toNat]! with qC:={ (sv[p.fTo.toNat]!).qC with qJ:=Xa (sv[p.fTo.toNat]!).qC.qJ p.qG c }})
 (e2:L2=L1.set p.fTo.toNat { L1[p.fTo.toNat]! with qC:={ (L1[p.fTo.toNat]!).qC with vz:=((L1[p.fTo.toNat]!).qC.vz).set p.XZ.toNat true }}):(Xe ⟨sv,wi⟩ p.fTo.toNat<|gotD (sv[p.fTo.toNat]!).qC p)=⟨L2,wi⟩:=
 got_sets hi (by rw [e1,sumC_eq hc]) e2
theorem sdoR_post0 {d:xm} (hk:d.xE=3) (h:InS sv d.fA/\InS sv d.fB/\d.fA≠d.fB) (h2:QQ (sv[d.fA.toNat]!)) (h3:wi.length≠12):doM s own ⟨sv,wi⟩ d=(⟨sv,wi++[⟨(sv[d.fA.toNat]!).qH.qN,d.fA,d.fB,((sv[d.fA.toNat]!).qH.vJ)[d.fB.toNat]!⟩]⟩,0):=by
 rw [doR_post0 hk h h2 h3,h2.1]
end
end
section
theorem sadv_ok (s:qM) (own:yLI) (ap:yOA) (cp:Nat) (Fp:yLN) (ar:yOA) (cr:Nat) (Fr:yLN) (ao:yOA) (co:Nat) (Fo:yLN) (sb:Nat) (sv:List zA) (wi:List zk) (bk:Nat) (n:Nat) (eG:yOA) (eo:Nat) (cC:Nat) (bZ:List Value) (aF:yLN) (cM:yOA) (ke:Nat) (bJ:Nat) (bM:List Value) (az:yLN) (iv:Int) (H:St W0 w ((.box bk [pp sb 0,Sv ao own.length co,Sv eG eo cC,Sv cM ke bJ] 86)::(.box sb (yS s ap cp ar cr) 27)::(rr eG eo cC 49 16 bZ)::(rr cM ke bJ 77 4 bM)::ps) ((sF false Fp ap cp s.qA)::(sF false Fr ar cr s.qB)::(sF false Fo ao co own)::(qL true aF bZ sv)::(qL true az bM wi)::Γ)) (N:Fresh W0.heap.size (aF::az::Ns)) (K0:Kept Ns Γ) (p0:Giv s own n) (p1:Vu s own n (⟨sv,wi⟩:zQ)) (p2:0<=iv/\iv < n) (OL:∀ f∈(sF false Fp ap cp s.qA::sF false Fr ar cr s.qB::sF false Fo ao co own::Γ),∀ b∈f.F,b < W0.heap.size):Calls Tryz.prog 109 #[pp bk 0,yI iv] w (fun e w' =>∃ v,e=.returned v/\∃ (pB:List Value) (pJ:yLN) (pN:yOA) (pK:Nat) (pi:Nat) (pC:List Value) (pq:yLN),v=yI ((Qy s (⟨sv,wi⟩:zQ) iv.toNat).2)/\Fresh W0.heap.size (pJ::pq::Ns)/\St W0 w' ((.box bk [pp sb 0,Sv ao own.length co,Sv eG eo cC,Sv pN pK pi] 86)::(.box sb (yS s ap cp ar cr) 27)::(rr eG eo cC 49 16 pB)::(rr pN pK pi 77 4 pC)::ps) ((sF false Fp ap cp s.qA)::(sF false Fr ar cr s.qB)::(sF false Fo ao co own)::(qL true pJ pB ((Qy s (⟨sv,wi⟩:zQ) iv.toNat).1.qF))::(qL true pq pC ((Qy s (⟨sv,wi⟩:zQ) iv.toNat).1.zu))::Γ)):=by
 refine en func109 ntmps109 ?_
 have ug:=qO (H.get 0 rfl).1
 have th:=qO (H.get 1 rfl).1
 have sy:=qO (H.get 2 rfl).1
 obtain rfl:=H.xe (α:=zA) 2 rfl 3 rfl qj
 obtain rfl:=H.xe (α:=zk) 3 rfl 4 rfl qj
 have g1:=p0.sys
 have g2:=p0.len
 have g3:=p0.own
 have g4:=p0.few
 have l1:sv.length=n:=p1.len
 have l2:wi.length<=12:=p1.few
 have y1:jf s own n iv.toNat (sv[iv.toNat]!).qC/\jf s own n iv.toNat (sv[iv.toNat]!).qH:=p1.srv iv.toNat qf
 have y2:=y1.1.small p0
 have y3:=y2.got
 have y0:=y1.1.rnd
 refine zcr<|sp (yI 0)<|zjc<|sq 2<|oF rfl<|oF rfl<|oL rfl (H.cell 0 rfl rfl)<|sp (yI iv) ?_
 obtain ⟨b1,rfl⟩:=H.jg 2 rfl qf
 refine oI rfl rfl<|sq 1<|zjcc<|sq 2<|oF rfl<|oF rfl ?_
 obtain ⟨Xk,Xi,lD,Qg,Qe,f8,zE,Bc,Ak,nL,nE,nI,ze,AW,Bg,sC,sE,sG,wQ,H⟩:=H.vV zg 2 rfl 3 rfl rfl iv.toNat qf
 refine oL rfl (H.xX 2 rfl (wQ 3 _ rfl) qf)<|sp (Bv (!(((sv[iv.toNat]!).qC).qQ)))<|sp (Bv (!(((sv[iv.toNat]!).qC).qQ))) ?_
 cases h4:(!(((sv[iv.toNat]!).qC).qQ))
 ·replace h4:=xJ h4
  refine qV 22 rfl rfl<|sq 1<|qV 22 rfl rfl<|sp (yI iv)<|qV 22 rfl rfl<|sw<|zX #[pp bk 0,yI iv] rfl rfl call105<|en func105 ntmps105 ?_
  refine zcr<|sp (Bv false)<|zjc<|sq 2<|oF rfl<|oF rfl<|oL rfl (H.cell 0 rfl rfl)<|sp (yI iv)<|oI rfl rfl<|sq 1<|zjn<|xH<|zY 2 rfl H [0,1,2,3] [0,1,2,3,4,5,6,7,8,9,10] fun H=>?_
  dsimp only [jR,yE]
  have S:=H.zK (zR 0 4)<|zR 0 11
  refine rtl 0 S ?_
  refine rtl 1 S ?_
  refine tF 2 rfl rfl S ?_
  refine tF 3 rfl rfl S ?_
  obtain ⟨RM,Rt,Tn,Km,Jj,IX,ZQ,abf,acI,I9,JJ,J8,aaL,abk,aaX,Tj,STz,SM,hx7,H⟩:=H.vV jI 2 rfl 9 rfl rfl iv.toNat qf
  have S:=H.zK (zR 0 4)<|zR 6 11
  refine rt 4 _ (jL (off:=0+(iv:Int).toNat * 16+8+0) isAgg2 rfl<|fun _ h=>(h.xX 2 rfl (hx7 0 _ rfl) qf)) S ?_
  refine rtl 5 S ?_
  refine rtl 6 S ?_
  refine tF 7 rfl rfl S ?_
  refine tF 8 rfl rfl S ?_
  refine rt 9 _ (jL (off:=0+(iv:Int).toNat * 16+0+0) isAgg2 rfl<|fun _ h=>(h.xX 2 rfl (wQ 0 _ rfl) qf)) S ?_
  refine rtp 10 (Bv ((((sv[iv.toNat]!).qH).qN:Int) == (((sv[iv.toNat]!).qC).qN))) S ?_
  refine rtp 11 (Bv ((((sv[iv.toNat]!).qH).qN:Int) == (((sv[iv.toNat]!).qC).qN))) S ?_
  cases h8:((((sv[iv.toNat]!).qH).qN:Int) == (((sv[iv.toNat]!).qC).qN))
  ·replace h8:=ne_of_beq_false h8
   refine jA (zR 12 5) 5 (H.pick (zR 0 4)<|zR 6 11)<|xy qh<|xM<|sp (Bv false)<|sp (Bv false)<|zjr<|ret1 (Bv false) rfl rfl ⟨_,rfl,(qV 22 rfl rfl<|sp (Bv true)<|sp (Bv true)<|zjn<|cTr rfl<|zcr<|sp (yI 4)<|zjr<|t_r<|ret1 (yI 4) rfl rfl ⟨_,rfl,?_⟩)⟩
   first | rw [sadv_w ql] | rw [sadv_g (b:=mg) qf ql] | rw [sadv_s<|by rintro ⟨h1,h2⟩;first | contradiction | simp_all]
   all_goals exact ⟨bZ,aF,cM,wi.length,bJ,bM,az,rfl,N,H.qY 4 17 (zR 0 4) (zR 12 5) (by simp only [List.length_cons,List.length_append];omega)<|by simp only [List.length_cons,List.length_append];omega⟩
  replace h8:=eq_of_beq h8
  have S:=H.zK (zR 0 4)<|zR 6 11
  refine rgl 12 24 S ?_
  refine rgl 13 24 S ?_
  refine gF 14 rfl rfl S ?_
  refine gF 15 rfl rfl S ?_
  refine rg 16 _ 24 (jL (off:=0+(iv:Int).toNat * 16+8+3) isAgg4 rfl<|fun _ h=>(h.xX 2 rfl (hx7 3 _ rfl) qf)) S ?_
  refine xy qh<|xM<|sq 2<|zjr<|ret1 (Bv (((sv[iv.toNat]!).qH).qQ)) rfl rfl ⟨_,rfl,(qV 22 rfl rfl<|sq 2<|zjn<|vk _ rfl (fun h9=>?_)<|fun h9=>?_)⟩
  ·replace h9:=xN h9
   refine zcr<|sp (yI 4)<|zjr<|t_r<|ret1 (yI 4) rfl rfl ⟨_,rfl,?_⟩
   first | rw [sadv_w ql] | rw [sadv_g (b:=mg) qf ql] | rw [sadv_s<|by rintro ⟨h1,h2⟩;first | contradiction | simp_all]
   all_goals exact ⟨bZ,aF,cM,wi.length,bJ,bM,az,rfl,N,H.qY 4 17 (zR 0 4) (zR 12 5) (by simp only [List.length_cons,List.length_append];omega)<|by simp only [List.length_cons,List.length_append];omega⟩
  replace h9:=xJ h9
  obtain ⟨y5,y6⟩:=sadv_len y1.1 ql
  have y7:=(y1.1.got ql).1
  refine xk<|t_n<|zcc<|sp (yI 0)<|zjn<|xg<|zU ((fun Z0 Z1 Z2 Z3 Z4 Z5 Z6 Z7 Z8=>fun m' ρ DN=>∃ (xI:Env) (mg:Nat),ρ=upd (upd xI 5<|pp b1<|0+(iv:Int).toNat * 16) 6 (yI mg)/\((mg:Int)<=((((sv[iv.toNat]!).qC).vz).length))/\(AllGot (sv[iv.toNat]!).qC.vz mg)/\m' =(((((sv[iv.toNat]!).qC).vz).length) - (mg:Int)).toNat/\Fresh W0.heap.size (aF::az::Ns)/\St W0 DN (Z0::Z1::Z2::Z3::ps) (Z4::Z5::Z6::Z7::Z8::Γ)) _ _ _ _ _ _ _ _ _) ((((((sv[iv.toNat]!).qC).vz).length) - (0:Int)).toNat) ⟨_,0,uE2,qf,qx,rfl,N,H.qY 4 17 (zR 0 4) (zR 12 5) (by simp only [List.length_cons,List.length_append];omega)<|by simp only [List.length_cons,List.length_append];omega⟩ ?_
  clear H N
  rintro m' ρ KD ⟨xI,mg,rfl,i0,i1,rfl,N,H⟩
  refine zcc<|sq 3<|oF rfl<|oF rfl ?_
  obtain ⟨MC,MR,K5,Ee,Eo,DU,Tg,S3,R9,Fg,ED,EO,TB,R0,S4,PS,M0,Ma,BS,H⟩:=H.vV zg 2 rfl 3 rfl rfl iv.toNat qf
  refine oL rfl (H.xX 2 rfl (BS 4 _ rfl) qf)<|oN rfl<|sq 1<|zjn<|cD rfl (fun lR=>?_)<|fun lR=>?_
  ·refine xk (t_n<|xH<|xg<|zcr<|sq 2<|oF rfl<|oF rfl<|oL rfl (H.xX 2 rfl (BS 4 _ rfl) qf)<|sq 1 ?_)
   obtain ⟨GV,o16,rfl⟩:=H.addr 2 rfl qf
   refine oI rfl rfl<|oL rfl (H.elemBoolN 2 rfl mg qf)<|sq 1<|zjn<|vk _ rfl (fun Dp=>?_)<|fun Dp=>?_
   ·replace Dp:=xN Dp
    refine zcr<|sp (yI 4)<|zjr<|zr5<|ret1 (yI 4) rfl rfl ⟨_,rfl,?_⟩
    first | rw [sadv_w ql] | rw [sadv_g (b:=mg) qf ql] | rw [sadv_s<|by rintro ⟨h1,h2⟩;first | contradiction | simp_all]
    all_goals exact ⟨bZ,aF,cM,wi.length,bJ,bM,az,rfl,N,H.qY 4 11 (zR 0 4) (zR 6 5) (by simp only [List.length_cons,List.length_append];omega)<|by simp only [List.length_cons,List.length_append];omega⟩
   replace Dp:=xJ Dp
   refine xk<|b_n<|t_n<|xZ<|sq 1<|sw<|zV mg 1 rfl rfl qf<|sq 1<|xW<|xq (m' :=(((((sv[iv.toNat]!).qC).vz).length) - ((mg+1):Int)).toNat) qf ⟨_,mg+1,uE2,?_,?_,rfl,N,H.qY 4 11 (zR 0 4) (zR 6 5) (by simp only [List.length_cons,List.length_append];omega)<|by simp only [List.length_cons,List.length_append];omega⟩
   ·omega
   ·exact i1.succ ql
  refine zx4<|zcr<|sq 2<|oF rfl ?_
  have atn:=H.base.size
  have avi:=jB (H.ltN (L:=[aF,az]) [9,10])<|H.ltK<|K0.behind 11 rfl
  refine sw<|oc (l08Copy_ok _ ((sv[iv.toNat]!).qC) (fun r v hv=>H.xX (off:=0+(iv:Int).toNat * 16+0+r) 2 rfl (BS r v hv) qf) (H.get 0 rfl).1 (H.get 1 rfl).1 (H.get 2 rfl).1 (H.get 3 rfl).1 (H.get 4 rfl).1 (H.get 5 rfl).1 qg) ?_
  rintro _ Rr ⟨eO,amx,XD,Of,Li,oo,aa9,ov,iY,ar8,iX,Ew,ab1,eA,uB,bu,eZ,arQ,fb,GY,dn,kG,amV,kN,Dt,bR,rfl,M,K⟩ _
  replace N:=N.merge atn avi M
  replace H:=H.merge K M
  dsimp only [List.cons_append,List.nil_append] at H
  obtain rfl:=H.xe (α:=yLI) 0 rfl 0 rfl qj
  obtain rfl:=H.Qc 1 rfl
  obtain rfl:=H.rowNB 2 rfl
  obtain rfl:=H.xe (α:=yLI) 3 rfl 1 rfl qj
  obtain rfl:=H.xe (α:=yLL) 4 rfl 2 rfl qj
  obtain rfl:=H.xe (α:=yLL) 5 rfl 3 rfl qj
  refine sw<|xU H ti47 [yI 0,yN,yN,Bv false,yN,yN,yN,yN] fun JZ w31 H=>(sw<|zC H 0 [yI (((sv[iv.toNat]!).qC).qN),Sv eO ((((sv[iv.toNat]!).qC).qG).length) XD,Sv oo ((((sv[iv.toNat]!).qC).qE).length) ov,Bv (((sv[iv.toNat]!).qC).qQ),Sv iY ((((sv[iv.toNat]!).qC).vz).length) iX,Sv Ew ((((sv[iv.toNat]!).qC).qJ).length) eA,Sv eZ ((((sv[iv.toNat]!).qC).vJ).length) fb,Sv kG ((((sv[iv.toNat]!).qC).xP).length) kN] sizeOf47 fun Sb H=>?_)
  try dsimp only [List.set] at H
  refine zjcc<|sp (yI 0)<|zjn<|xg<|zU ((fun Z0 Z1 Z2 Z3 Z4 Z5 Z6 Z7 Z8 Z9 fH fZ iw kH mh mj sf Aw=>fun m' ρ w33=>∃ (xI:Env) (c:Nat) (aV:yLL) (QV:List Value) (vU:yLN),ρ=upd (upd (upd xI 5<|pp b1<|0+(iv:Int).toNat * 16) 7<|pp JZ 0) 8 (yI c)/\aV=Xt (sv[iv.toNat]!).qC.qG (sv[iv.toNat]!).qC.qJ c/\((c:Int)<=((((sv[iv.toNat]!).qC).qG).length))/\m' =(((((sv[iv.toNat]!).qC).qG).length) - (c:Int)).toNat/\Fresh W0.heap.size (bu::dn::bR::aF::az::vU::Ns)/\St W0 w33 (Z0::(rr eO ((((sv[iv.toNat]!).qC).qG).length) XD 24 1 QV)::Z1::Z2::Z3::Z4::Z5::Z6::Z7::Z8::Z9::ps) ((qL true vU QV aV)::fH::fZ::iw::kH::mh::mj::sf::Aw::Γ)) _ _ _ _ _ _ _ _ _ _ _ _ _ _ _ _ _ _) ((((((sv[iv.toNat]!).qC).qG).length) - (0:Int)).toNat) ⟨_,0,((sv[iv.toNat]!).qC).qG,Of,Li,uE3,(by exact advTo_zero _ _),qf,rfl,(N.qY 6 [1,2,3,4,5,0]<|by simp only [List.length_cons,List.length_append];omega),H.qY 11 15 (zR 0 11) (0::1::2::3::zR 10 5) (by simp only [List.length_cons,List.length_append];omega)<|by simp only [List.length_cons,List.length_append];omega⟩ ?_
  clear H N
  rintro m' ρ w34 ⟨xI,c,aV,QV,vU,rfl,rfl,i0,rfl,N,H⟩
  have rE:=H.xe (α:=yLI) 1 rfl 0 rfl qj
  have al:=XR (sv[iv.toNat]!).qC.qG (sv[iv.toNat]!).qC.qJ c
  refine zcc<|sp (yI c)<|oF rfl<|oL rfl (H.cell 0 rfl rfl)<|oN rfl<|sq 1<|zjn<|cD rfl (fun Rw=>?_)<|fun Rw=>?_
  ·obtain ⟨u1,u2,u3⟩:=sadv_row p0 y1.1 ql (c:=c) qf
   refine xk<|t_n<|xH<|xg ?_
   obtain ⟨b36,rfl⟩:=H.jg 1 rfl qf
   obtain ⟨b37,rfl⟩:=H.jg 4 rfl qf
   refine c_lateC 2 (fun ρ w40=>∃ (xI:Env) (a38:yOA) (c39:Nat),ρ=upd (upd (upd (upd (upd (upd xI 5<|pp b1<|0+(iv:Int).toNat * 16) 7<|pp JZ 0) 8<|yI c) 59<|Sv (aa b36 0) ((((sv[iv.toNat]!).qC).qG).length) XD) 60<|yI c) 71 (Sv a38 ((vS ((Xt (sv[iv.toNat]!).qC.qG (sv[iv.toNat]!).qC.qJ c)[c]!) ((((sv[iv.toNat]!).qC).qJ)[c]!) 1).length) c39)/\Fresh W0.heap.size (bu::dn::bR::aF::az::vU::Ns)/\St W0 w40 ((rr a38 ((vS ((Xt (sv[iv.toNat]!).qC.qG (sv[iv.toNat]!).qC.qJ c)[c]!) ((((sv[iv.toNat]!).qC).qJ)[c]!) 1).length) c39 2 1 ((vS ((Xt (sv[iv.toNat]!).qC.qG (sv[iv.toNat]!).qC.qJ c)[c]!) ((((sv[iv.toNat]!).qC).qJ)[c]!) 1).map<|Value.int .i64))::(.box JZ [yI (((sv[iv.toNat]!).qC).qN),Sv (aa b36 0) ((((sv[iv.toNat]!).qC).qG).length) XD,Sv oo ((((sv[iv.toNat]!).qC).qE).length) ov,Bv (((sv[iv.toNat]!).qC).qQ),Sv iY ((((sv[iv.toNat]!).qC).vz).length) iX,Sv (aa b37 0) ((((sv[iv.toNat]!).qC).qJ).length) eA,Sv eZ ((((sv[iv.toNat]!).qC).vJ).length) fb,Sv kG ((((sv[iv.toNat]!).qC).xP).length) kN] 47)::(rr (aa b36 0) ((((sv[iv.toNat]!).qC).qG).length) XD 24 1 QV)::(rr oo ((((sv[iv.toNat]!).qC).qE).length) ov 2 1 ((((sv[iv.toNat]!).qC).qE).map<|Value.int .i64))::(rr iY ((((sv[iv.toNat]!).qC).vz).length) iX 4 1 ((((sv[iv.toNat]!).qC).vz).map<|Value.bool))::(rr (aa b37 0) ((((sv[iv.toNat]!).qC).qJ).length) eA 24 1 uB)::(rr eZ ((((sv[iv.toNat]!).qC).vJ).length) fb 29 1 GY)::(rr kG ((((sv[iv.toNat]!).qC).xP).length) kN 29 1 Dt)::(.box bk [pp sb 0,Sv ao own.length co,Sv (aa b1 0) sv.length cC,Sv cM wi.length bJ] 86)::(.box sb (yS s ap cp ar cr) 27)::(rr (aa b1 0) sv.length cC 49 16 bZ)::(rr cM wi.length bJ 77 4 bM)::ps) ((qL true vU QV<|Xt (sv[iv.toNat]!).qC.qG (sv[iv.toNat]!).qC.qJ c)::(qL true bu uB (((sv[iv.toNat]!).qC).qJ))::(qL true dn GY (((sv[iv.toNat]!).qC).vJ))::(qL true bR Dt (((sv[iv.toNat]!).qC).xP))::(sF false Fp ap cp s.qA)::(sF false Fr ar cr s.qB)::(sF false Fo ao co own)::(qL true aF bZ sv)::(qL true az bM wi)::Γ)) rfl H [0,1,2,3,4,5,6,7,8,9,10] [0,1,2,3,4,5,6,7,8] (fun H=>?_) ?_
   ·dsimp only [jR,yE]
    have S:=H.zK (zR 0 11)<|zR 0 9
    refine tF 0 rfl rfl S ?_
    refine tL 1 rfl rfl (fun _ h=>h.cell 0 rfl rfl) S ?_
    refine rtp 2 (yI c) S ?_
    refine tF 3 rfl rfl S ?_
    refine tL 4 rfl rfl (fun _ h=>h.cell 0 rfl rfl) S ?_
    refine rtp 5 (yI c) S ?_
    refine tI 6 rfl rfl rfl S ?_
    refine tF 8 rfl rfl S ?_
    refine tL 9 rfl rfl (fun _ h=>h.cell 0 rfl rfl) S ?_
    refine rtp 10 (yI c) S ?_
    refine tI 11 rfl rfl rfl S ?_
    refine jw [7,12] qh qm<|jT rfl ?_<|jT rfl ?_ jy
    ·obtain ⟨a42,c43,G44,RC,H⟩:=H.yC 1 rfl 0 rfl (iv:=c) c qf qf
     refine zB (Sv a42 (((Xt (sv[iv.toNat]!).qC.qG (sv[iv.toNat]!).qC.qJ c)[c]!).length) c43) isAgg24 rfl ((H.xX 1 rfl RC qf))<|⟨H.pick (zR 0 11)<|zR 1 9,(ro 12 rfl ?_)⟩
     obtain ⟨a46,c47,G48,R6,H⟩:=H.yC 4 rfl 2 rfl (iv:=c) c qf qf
     refine zB (Sv a46 (((((sv[iv.toNat]!).qC).qJ)[c]!).length) c47) isAgg24 rfl ((H.xX 4 rfl R6 qf))<|⟨H.pick (zR 0 11)<|zR 2 9,(ro 13 rfl ?_)⟩
     have aHl:=H.base.size
     have aF7:=jB (H.ltN (L:=[bu,dn,bR,aF,az,vU]) [3,4,5,9,10,2])<|H.ltK<|K0.behind 11 rfl
     refine oc (Qu _ ((Xt (sv[iv.toNat]!).qC.qG (sv[iv.toNat]!).qC.qJ c)[c]!) ((((sv[iv.toNat]!).qC).qJ)[c]!) 1 (H.get 1 rfl).1 (H.get 0 rfl).1 qg qg qg) ?_
     rintro v55 w53 r55 x54
     replace H:=H.zI x54 r55
     obtain ⟨a56,c57,rfl,aHs,aIK⟩:=H.jW 0 rfl
     refine ⟨H.pick (zR 1 11)<|zR 2 9,(xy qh ((meet ⟨_,a56,c57,uE6,N,H.qY 12 11 (zR 0 12) (zR 2 9) (by simp only [List.length_cons,List.length_append];omega)<|by simp only [List.length_cons,List.length_append];omega⟩)))⟩
    obtain ⟨a60,c61,G62,amQ,H⟩:=H.yC 4 rfl 1 rfl (iv:=c) c qf qf
    refine zB (Sv a60 (((((sv[iv.toNat]!).qC).qJ)[c]!).length) c61) isAgg24 rfl ((H.xX 4 rfl amQ qf))<|⟨H.pick (zR 0 11)<|zR 1 9,(ro 7 rfl ?_)⟩
    obtain ⟨a64,c65,G66,ayA,H⟩:=H.yC 1 rfl 1 rfl (iv:=c) c qf qf
    refine zB (Sv a64 (((Xt (sv[iv.toNat]!).qC.qG (sv[iv.toNat]!).qC.qJ c)[c]!).length) c65) isAgg24 rfl ((H.xX 1 rfl ayA qf))<|⟨H.pick (zR 0 11)<|zR 2 9,(ro 13 rfl ?_)⟩
    have aHN:=H.base.size
    have aJ3:=jB (H.ltN (L:=[bu,dn,bR,aF,az,vU]) [3,4,5,9,10,2])<|H.ltK<|K0.behind 11 rfl
    refine oc (Qu _ ((Xt (sv[iv.toNat]!).qC.qG (sv[iv.toNat]!).qC.qJ c)[c]!) ((((sv[iv.toNat]!).qC).qJ)[c]!) 1 (H.get 0 rfl).1 (H.get 1 rfl).1 qg qg qg) ?_
    rintro v73 w71 r73 x72
    replace H:=H.zI x72 r73
    obtain ⟨a74,c75,rfl,aEN,aFi⟩:=H.jW 0 rfl
    refine ⟨H.pick (zR 1 11)<|zR 2 9,(xy qh ((meet ⟨_,a74,c75,uE6,N,H.qY 12 11 (zR 0 12) (zR 2 9) (by simp only [List.length_cons,List.length_append];omega)<|by simp only [List.length_cons,List.length_append];omega⟩)))⟩
   clear H N
   rintro ρ w78 ⟨xI,a38,c39,rfl,N,H⟩
   refine oI rfl rfl ?_
   obtain ⟨G80,N,ax6,H⟩:=H.ve 0 rfl N<|fun F hF b hb=>(List.mem_append.1<|show F∈[bu,dn,bR,aF,az,vU]++Ns from hF).elim (fun h=>(H.vg (L:=[bu,dn,bR,aF,az,vU]) [1,2,3,7,8,0]) F h b hb) fun h=>H.jH (K0.behind 9 rfl) F h b hb
   try dsimp only [List.set] at H
   refine sw<|yZ true H 2 rfl 1 rfl (Sv a38 ((vS ((Xt (sv[iv.toNat]!).qC.qG (sv[iv.toNat]!).qC.qJ c)[c]!) ((((sv[iv.toNat]!).qC).qJ)[c]!) 1).length) c39) 0 rfl rfl sizeOf24 rfl rfl (i:=c) qf qf qm fun w79 amM F83 ab8 H=>?_
   replace N:Fresh W0.heap.size (F83::bu::dn::bR::aF::az::Ns):=(N.qY 7 (6::zR 0 6)<|by simp only [List.length_cons,List.length_append];omega).repl ab8
   try dsimp only [List.set] at H
   refine xW<|b_n<|t_n<|xZ<|sp (yI c)<|sw<|zV c 1 rfl rfl qf<|sq 1<|xW<|xq (m' :=(((((sv[iv.toNat]!).qC).qG).length) - ((c+1):Int)).toNat) qf ⟨_,c+1,_,_,_,uE3,?_,?_,rfl,(N.qY 6 [1,2,3,4,5,0]<|by simp only [List.length_cons,List.length_append];omega),H.qY 12 11 (zR 1 11) (0::zR 3 8) (by simp only [List.length_cons,List.length_append];omega)<|by simp only [List.length_cons,List.length_append];omega⟩
   ·exact sadv_step qf
   ·omega
  obtain ⟨u1,u2,u3⟩:=sadv_last p0 y1.1 ql
  refine zx4<|xH<|zY 3 rfl H [0,1,2,3,4,5,6,7,8,9,10] [0,1,2,3,4,5,6,7,8] fun H=>?_
  dsimp only [jR,yE]
  have S:=H.zK (zR 0 11)<|zR 0 9
  refine tF 0 rfl rfl S ?_
  refine tL 1 rfl rfl (fun _ h=>h.cell 0 rfl rfl) S ?_
  refine tF 2 rfl rfl S ?_
  refine tL 3 rfl rfl (fun _ h=>h.cell 0 rfl rfl) S ?_
  refine tF 4 rfl rfl S ?_
  refine tL 5 rfl rfl (fun _ h=>h.cell 0 rfl rfl) S ?_
  refine tN 6 rfl rfl S ?_
  obtain ⟨b86,rfl⟩:=H.jg 4 rfl qf
  refine tI 7 rfl rfl rfl (H.pick (zR 0 11)<|zR 0 9)<|ro 8 rfl ?_
  obtain ⟨a87,c88,G89,axB,H⟩:=H.yC 4 rfl 1 rfl (iv:=(((sv[iv.toNat]!).qC).qG).length) ((((sv[iv.toNat]!).qC).qG).length) qf qf
  refine zB (Sv a87 (((((sv[iv.toNat]!).qC).qJ)[(((sv[iv.toNat]!).qC).qG).length]!).length) c88) isAgg24 rfl ((H.xX 4 rfl axB qf))<|⟨H.pick (zR 0 11)<|zR 1 9,(xy qh<|xM ?_)⟩
  obtain ⟨G91,aGK,PX⟩:=H.rowIsI 2 rfl
  have apK:=H.base.size
  have ai7:=jB (H.ltN (L:=[bu,dn,bR,aF,az,vU]) [2,3,4,8,9,1])<|H.ltK<|K0.behind 10 rfl
  refine sw<|oc (Qu _ (((sv[iv.toNat]!).qC).qE) ((((sv[iv.toNat]!).qC).qJ)[(((sv[iv.toNat]!).qC).qG).length]!) 1 PX (H.get 0 rfl).1 qg qg qg) ?_
  rintro v99 w97 r99 x98
  replace H:=H.zI x98 r99
  obtain ⟨z0,AT,rfl,anc,aC3⟩:=H.jW 0 rfl
  refine oF rfl<|sw<|xO H 1 [yI (((sv[iv.toNat]!).qC).qN),Sv eO ((((sv[iv.toNat]!).qC).qG).length) XD,Sv z0 ((vS (((sv[iv.toNat]!).qC).qE) ((((sv[iv.toNat]!).qC).qJ)[(((sv[iv.toNat]!).qC).qG).length]!) 1).length) AT,Bv (((sv[iv.toNat]!).qC).qQ),Sv iY ((((sv[iv.toNat]!).qC).vz).length) iX,Sv (aa b86 0) ((((sv[iv.toNat]!).qC).qJ).length) eA,Sv eZ ((((sv[iv.toNat]!).qC).vJ).length) fb,Sv kG ((((sv[iv.toNat]!).qC).xP).length) kN] sizeOf24 fun Lc H=>?_
  try dsimp only [List.set] at H
  refine zjcc<|oF rfl<|oL rfl (H.cell 1 rfl rfl) ?_
  obtain ⟨AU,Mk,atE⟩:=H.rowIsR (α:=yLI) 2 rfl 1 rfl qj
  refine sw<|oq (args_eq (by rw [← Mk])<|l08Bags_ok _ (Xt (sv[iv.toNat]!).qC.qG (sv[iv.toNat]!).qC.qJ c)<|Mk▸atE) H fun awh H=>sp (Bv (!(dec<|yH (Xt (sv[iv.toNat]!).qC.qG (sv[iv.toNat]!).qC.qJ c) (Xt (sv[iv.toNat]!).qC.qG (sv[iv.toNat]!).qC.qJ c).length)))<|sp (Bv (!(dec<|yH (Xt (sv[iv.toNat]!).qC.qG (sv[iv.toNat]!).qC.qJ c) (Xt (sv[iv.toNat]!).qC.qG (sv[iv.toNat]!).qC.qJ c).length))) ?_
  cases Cs:(!(dec (yH (Xt (sv[iv.toNat]!).qC.qG (sv[iv.toNat]!).qC.qJ c) (Xt (sv[iv.toNat]!).qC.qG (sv[iv.toNat]!).qC.qJ c).length)))
  ·replace Cs:=xJ Cs
   replace Cs:=of_dec Cs
   refine qV 88 rfl rfl<|oF rfl<|qV 88 rfl rfl<|oL rfl (H.cell 1 rfl rfl)<|qV 88 rfl rfl ?_
   obtain ⟨aFb,aBc,ax3⟩:=H.rowIsI 0 rfl
   refine sw<|oq (l01Bag_ok _ (vS (((sv[iv.toNat]!).qC).qE) ((((sv[iv.toNat]!).qC).qJ)[(((sv[iv.toNat]!).qC).qG).length]!) 1) ax3) H fun ZY H=>qV 88 rfl rfl<|sq 2<|zjn<|cQ rfl (fun abp=>?_)<|fun abp=>?_
   ·refine zcr (sp (yI 3)<|zjr<|t_r<|ret1 (yI 3) rfl rfl ⟨_,rfl,?_⟩)
    first | rw [sadv_3 rfl ql (fun j hj=>i1 j qf) ⟨by assumption,by assumption⟩ y5 (c:=c) qf<|by rintro ⟨h1,h2⟩;contradiction]
    all_goals exact ⟨bZ,aF,cM,wi.length,bJ,bM,az,rfl,(N.qY 6 [3,4]<|by simp only [List.length_cons,List.length_append];omega),H.qY 12 10 (zR 8 4) (zR 5 5) (by simp only [List.length_cons,List.length_append];omega)<|by simp only [List.length_cons,List.length_append];omega⟩
   refine xk<|t_n<|zcr<|oF rfl<|oL rfl (H.cell 1 rfl rfl)<|sw<|zV (((sv[iv.toNat]!).qC).qN) 1 rfl rfl qf<|oF rfl<|sw<|xO H 1 [yI ((((sv[iv.toNat]!).qC).qN)+1),Sv eO ((((sv[iv.toNat]!).qC).qG).length) XD,Sv z0 ((vS (((sv[iv.toNat]!).qC).qE) ((((sv[iv.toNat]!).qC).qJ)[(((sv[iv.toNat]!).qC).qG).length]!) 1).length) AT,Bv (((sv[iv.toNat]!).qC).qQ),Sv iY ((((sv[iv.toNat]!).qC).vz).length) iX,Sv (aa b86 0) ((((sv[iv.toNat]!).qC).qJ).length) eA,Sv eZ ((((sv[iv.toNat]!).qC).vJ).length) fb,Sv kG ((((sv[iv.toNat]!).qC).xP).length) kN] sizeOf2 fun aEF H=>?_
   try dsimp only [List.set] at H
   refine zjc<|oF rfl<|sw<|xO H 1 [yI ((((sv[iv.toNat]!).qC).qN)+1),Sv eO ((((sv[iv.toNat]!).qC).qG).length) XD,Sv z0 ((vS (((sv[iv.toNat]!).qC).qE) ((((sv[iv.toNat]!).qC).qJ)[(((sv[iv.toNat]!).qC).qG).length]!) 1).length) AT,Bv false,Sv iY ((((sv[iv.toNat]!).qC).vz).length) iX,Sv (aa b86 0) ((((sv[iv.toNat]!).qC).qJ).length) eA,Sv eZ ((((sv[iv.toNat]!).qC).vJ).length) fb,Sv kG ((((sv[iv.toNat]!).qC).xP).length) kN] sizeOf4 fun ayX H=>?_
   try dsimp only [List.set] at H
   refine zjc<|oF rfl<|oL rfl (H.cell 1 rfl rfl)<|oF rfl<|sw<|xO H 1 [yI ((((sv[iv.toNat]!).qC).qN)+1),Sv eO ((((sv[iv.toNat]!).qC).qG).length) XD,Sv z0 ((vS (((sv[iv.toNat]!).qC).qE) ((((sv[iv.toNat]!).qC).qJ)[(((sv[iv.toNat]!).qC).qG).length]!) 1).length) AT,Bv false,Sv iY ((((sv[iv.toNat]!).qC).vz).length) iX,Sv (aa b86 0) ((((sv[iv.toNat]!).qC).qJ).length) eA,Sv eZ ((((sv[iv.toNat]!).qC).vJ).length) fb,Sv eZ ((((sv[iv.toNat]!).qC).vJ).length) fb] sizeOf45 fun Rv H=>?_
   try dsimp only [List.set] at H
   refine zjc<|sw<|jk H underlying45 ti29 fun Lb MF H=>oF rfl<|sw<|xO H 2 [yI ((((sv[iv.toNat]!).qC).qN)+1),Sv eO ((((sv[iv.toNat]!).qC).qG).length) XD,Sv z0 ((vS (((sv[iv.toNat]!).qC).qE) ((((sv[iv.toNat]!).qC).qJ)[(((sv[iv.toNat]!).qC).qG).length]!) 1).length) AT,Bv false,Sv iY ((((sv[iv.toNat]!).qC).vz).length) iX,Sv (aa b86 0) ((((sv[iv.toNat]!).qC).qJ).length) eA,Sv (aa Lb 0) 0 0,Sv eZ ((((sv[iv.toNat]!).qC).vJ).length) fb] sizeOf45 fun Lu H=>?_
   try dsimp only [List.set] at H
   refine zjc<|sw<|jk H underlying28 ti4 fun Ty af4 H=>oF rfl<|sw<|xO H 3 [yI ((((sv[iv.toNat]!).qC).qN)+1),Sv eO ((((sv[iv.toNat]!).qC).qG).length) XD,Sv z0 ((vS (((sv[iv.toNat]!).qC).qE) ((((sv[iv.toNat]!).qC).qJ)[(((sv[iv.toNat]!).qC).qG).length]!) 1).length) AT,Bv false,Sv (aa Ty 0) 0 0,Sv (aa b86 0) ((((sv[iv.toNat]!).qC).qJ).length) eA,Sv (aa Lb 0) 0 0,Sv eZ ((((sv[iv.toNat]!).qC).vJ).length) fb] sizeOf28 fun ahw H=>?_
   try dsimp only [List.set] at H
   refine zjc<|sw<|jk H underlying29 ti24 fun ZA abw H=>oF rfl<|sw<|xO H 4 [yI ((((sv[iv.toNat]!).qC).qN)+1),Sv eO ((((sv[iv.toNat]!).qC).qG).length) XD,Sv z0 ((vS (((sv[iv.toNat]!).qC).qE) ((((sv[iv.toNat]!).qC).qJ)[(((sv[iv.toNat]!).qC).qG).length]!) 1).length) AT,Bv false,Sv (aa Ty 0) 0 0,Sv (aa ZA 0) 0 0,Sv (aa Lb 0) 0 0,Sv eZ ((((sv[iv.toNat]!).qC).vJ).length) fb] sizeOf29 fun aFt H=>?_
   try dsimp only [List.set] at H
   refine zjc<|sq 1<|sw<|zi [yI ((((sv[iv.toNat]!).qC).qN)+1),Sv eO ((((sv[iv.toNat]!).qC).qG).length) XD,Sv z0 ((vS (((sv[iv.toNat]!).qC).qE) ((((sv[iv.toNat]!).qC).qJ)[(((sv[iv.toNat]!).qC).qG).length]!) 1).length) AT,Bv false,Sv (aa Ty 0) 0 0,Sv (aa ZA 0) 0 0,Sv (aa Lb 0) 0 0,Sv eZ ((((sv[iv.toNat]!).qC).vJ).length) fb] isAgg47 sizeOf47 rfl (qK (H.cells 4 rfl) 0 8)<|sq 1<|oF rfl ?_
   have H0:=H
   obtain ⟨oJ,VC,aCY,H⟩:=H.vK (α:=yLI) 5 rfl 1 rfl qj
   replace N:Fresh W0.heap.size (oJ::bu::dn::bR::aF::az::Ns):=Fresh.ice (N.qY 6 (5::zR 0 5)<|by simp only [List.length_cons,List.length_append];omega) H0 5 VC.1 VC.2<|fun F hF b hb=>(List.mem_append.1<|show F∈[bu,dn,bR,aF,az]++Ns from hF).elim (fun h=>(H0.vg (L:=[bu,dn,bR,aF,az]) [2,3,4,8,9]) F h b hb) fun h=>H0.jH (K0.behind 10 rfl) F h b hb
   clear H0
   try dsimp only [List.set] at H
   obtain ⟨oR,N,afh,H⟩:=H.ve 3 rfl N<|fun F hF b hb=>(List.mem_append.1<|show F∈[oJ,bu,dn,bR,aF,az]++Ns from hF).elim (fun h=>(H.vg (L:=[oJ,bu,dn,bR,aF,az]) [0,3,4,5,9,10]) F h b hb) fun h=>H.jH (K0.behind 11 rfl) F h b hb
   try dsimp only [List.set] at H
   replace H:=H.boxRowB 1 [] 0
   try dsimp only [List.set] at H
   obtain ⟨wI,N,aB7,H⟩:=H.freezeB 1 rfl N<|fun F hF b hb=>(List.mem_append.1<|show F∈[oR,oJ,bu,dn,bR,aF,az]++Ns from hF).elim (fun h=>(H.vg (L:=[oR,oJ,bu,dn,bR,aF,az]) [0,1,4,5,6,10,11]) F h b hb) fun h=>H.jH (K0.behind 12 rfl) F h b hb
   try dsimp only [List.set] at H
   replace H:=H.boxRow 0 rfl 1 0 rfl qj
   try dsimp only [List.set] at H
   replace H:=H.jZ (α:=yLI)
   have H0:=H
   obtain ⟨gB,Xs,aoy,H⟩:=H.vK (α:=yLI) 0 rfl 0 rfl qj
   replace N:Fresh W0.heap.size (gB::wI::oR::oJ::bu::dn::bR::aF::az::Ns):=Fresh.ice N.emp H0 0 Xs.1 Xs.2<|fun F hF b hb=>(List.mem_append.1<|show F∈[wI,oR,oJ,bu,dn,bR,aF,az]++Ns from hF).elim (fun h=>(H0.vg (L:=[wI,oR,oJ,bu,dn,bR,aF,az]) [1,2,3,6,7,8,12,13]) F h b hb) fun h=>H0.jH (K0.behind 14 rfl) F h b hb
   clear H0
   try dsimp only [List.set] at H
   replace H:=H.boxRow 2 rfl 1 0 rfl qj
   try dsimp only [List.set] at H
   replace H:=H.jZ (α:=yLL)
   have H0:=H
   obtain ⟨Nf,TU,aBd,H⟩:=H.vK (α:=yLL) 2 rfl 0 rfl qj
   replace N:Fresh W0.heap.size (Nf::gB::wI::oR::oJ::bu::dn::bR::aF::az::Ns):=Fresh.ice N.emp H0 2 TU.1 TU.2<|fun F hF b hb=>(List.mem_append.1<|show F∈[gB,wI,oR,oJ,bu,dn,bR,aF,az]++Ns from hF).elim (fun h=>(H0.vg (L:=[gB,wI,oR,oJ,bu,dn,bR,aF,az]) [1,3,4,5,8,9,10,14,15]) F h b hb) fun h=>H0.jH (K0.behind 16 rfl) F h b hb
   clear H0
   try dsimp only [List.set] at H
   have H0:=H
   obtain ⟨aix,T7,aC6,H⟩:=H.vK (α:=yLL) 9 rfl 10 rfl qj
   replace N:Fresh W0.heap.size (aix::Nf::gB::wI::oR::oJ::bu::bR::aF::az::Ns):=Fresh.ice (N.qY 10 [6,0,1,2,3,4,5,7,8,9]<|by simp only [List.length_cons,List.length_append];omega) H0 9 T7.1 T7.2<|fun F hF b hb=>(List.mem_append.1<|show F∈[Nf,gB,wI,oR,oJ,bu,bR,aF,az]++Ns from hF).elim (fun h=>(H0.vg (L:=[Nf,gB,wI,oR,oJ,bu,bR,aF,az]) [0,2,4,5,6,9,11,15,16]) F h b hb) fun h=>H0.jH (K0.behind 17 rfl) F h b hb
   clear H0
   try dsimp only [List.set] at H
   replace H:=H.mk_DeskD ((((sv[iv.toNat]!).qC).qN)+1) 7 rfl 6 rfl false 5 rfl 3 rfl 1 rfl 0 rfl
   replace N:Fresh W0.heap.size ((oJ++oR++wI++gB++Nf++aix)::bu::bR::aF::az::Ns):=(N.qY 10 [5,4,3,2,1,0,6,7,8,9]<|by simp only [List.length_cons,List.length_append];omega).join.join.join.join.join
   obtain ⟨aDl,U5⟩:∃ z,z=(sv.set iv.toNat { sv[iv.toNat]! with qC:=(⟨(((sv[iv.toNat]!).qC).qN)+1,(Xt (sv[iv.toNat]!).qC.qG (sv[iv.toNat]!).qC.qJ c),vS (((sv[iv.toNat]!).qC).qE) ((((sv[iv.toNat]!).qC).qJ)[(((sv[iv.toNat]!).qC).qG).length]!) 1,false,([]:List Bool),([]:yLL),([]:List yLL),((sv[iv.toNat]!).qC).vJ⟩:zn)}):=⟨_,rfl⟩
   refine sw<|Xu (v:=.agg #[yI ((((sv[iv.toNat]!).qC).qN)+1),Sv eO ((((sv[iv.toNat]!).qC).qG).length) XD,Sv z0 ((vS (((sv[iv.toNat]!).qC).qE) ((((sv[iv.toNat]!).qC).qJ)[(((sv[iv.toNat]!).qC).qG).length]!) 1).length) AT,Bv false,Sv (aa Ty 0) 0 0,Sv (aa ZA 0) 0 0,Sv (aa Lb 0) 0 0,Sv eZ ((((sv[iv.toNat]!).qC).vJ).length) fb]) zg H 13 rfl 17 rfl 0 rfl rfl sizeOf47 rfl rfl rfl iv.toNat qf qf U5 fun ZO aks aeJ aeW H=>?_
   try dsimp only [List.set] at H
   replace N:Fresh W0.heap.size (aeJ::bu::bR::az::Ns):=(N.qY 5 [3,0,1,2,4]<|by simp only [List.length_cons,List.length_append];omega).repl aeW
   refine zjc<|sp (yI 0)<|zjr<|ret1 (yI 0) rfl rfl ⟨_,rfl,?_⟩
   first | rw [sadv_0 rfl ql (fun j hj=>i1 j qf) ⟨by assumption,by assumption⟩ y5 (c:=c) qf ql ql U5]
   all_goals exact ⟨aks,aeJ,cM,wi.length,bJ,bM,az,rfl,(N.qY 4 [0,3]<|by simp only [List.length_cons,List.length_append];omega),H.qY 15 20 (zR 11 4) [15,16,17,0,19] (by simp only [List.length_cons,List.length_append];omega)<|by simp only [List.length_cons,List.length_append];omega⟩
  replace Cs:=xN Cs
  replace Cs:=Qd Cs
  refine zM (zR 89 4)<|sp (Bv true)<|zjn<|cTr rfl<|zcr<|sp (yI 3)<|zjr<|t_r<|ret1 (yI 3) rfl rfl ⟨_,rfl,?_⟩
  first | rw [sadv_3 rfl ql (fun j hj=>i1 j qf) ⟨by assumption,by assumption⟩ y5 (c:=c) qf<|by rintro ⟨h1,h2⟩;contradiction]
  all_goals exact ⟨bZ,aF,cM,wi.length,bJ,bM,az,rfl,(N.qY 6 [3,4]<|by simp only [List.length_cons,List.length_append];omega),H.qY 12 10 (zR 8 4) (zR 5 5) (by simp only [List.length_cons,List.length_append];omega)<|by simp only [List.length_cons,List.length_append];omega⟩
 replace h4:=xN h4
 refine zM (zR 23 4)<|sp (Bv true)<|zjn<|cTr rfl<|zcr<|sp (yI 4)<|zjr<|t_r<|ret1 (yI 4) rfl rfl ⟨_,rfl,?_⟩
 first | rw [sadv_w ql] | rw [sadv_g (b:=mg) qf ql] | rw [sadv_s<|by rintro ⟨h1,h2⟩;first | contradiction | simp_all]
 all_goals exact ⟨bZ,aF,cM,wi.length,bJ,bM,az,rfl,N,H.qY 4 11 (zR 0 4) (zR 6 5) (by simp only [List.length_cons,List.length_append];omega)<|by simp only [List.length_cons,List.length_append];omega⟩
end
end Go.Proofs.YtghikkinnchndaaGreat
