/- Walks and laws, printed by program and by hand: what each function comes to, for all arguments, part 5. -/
import Derived.Test.YtghikkinnchndaaGreatA4
namespace Go.Proofs.YtghikkinnchndaaGreat
open Go.Proofs.Tryz
set_option linter.unusedVariables false
set_option linter.unusedSimpArgs false
set_option maxRecDepth 100000
set_option maxHeartbeats 4000000
open Go.RowKit
open Go.Proofs.Tryz
open Go.Proofs.YtghikkinnchndaaGreat.Tot (tot)
open Go.Proofs.YtghikkinnchndaaGreat.Mark (cnt mrk mkd mkd_mark cnt_mark)
variable {Ns:List yLN} {W0 w:World} {k n:Nat} {l:List xm} {ps:List Prv} {s:qM} {v:zQ} {x:Int} {Γ:List Fact}
section
theorem l08Puts_ok (w:World) (s:qM) (t:xh) (cell:Int) {bs os:Nat} {xf:yOA} {qZ:Nat} {zH:yLN} {xG:yOA} {xC:Nat} {vX:yLN} {bt ot:Nat} {zS:yOA} {zO:Nat} {Qa:yLN} {vZ:yOA} {vT:Nat} {QG:yLN} {zq:yOA} {zo:Nat} {jY:yLN} (hs:yG w bs os [.int .i64 s.qP,Sv xf s.qA.length qZ,Sv xG s.qB.length xC]) (xu:zP w zH xf qZ s.qA) (xY:zP w vX xG xC s.qB) (ht:yG w bt ot [Sv zS t.xn.length zO,Sv vZ t.qG.length vT,Sv zq t.qE.length zo]) (vF:zP w Qa zS zO t.xn) (jM:zP w QG vZ vT t.qG) (zN:zP w jY zq zo t.qE) (k1:QC s) (k2:vM s t) (kw:Whole t) (kc:0<=cell/\cell < s.qA.length):Calls Tryz.prog 154 #[.pointer<|some ⟨bs,os,none⟩,.pointer<|some ⟨bt,ot,none⟩,.int .i64 cell] w (Ret (fun v w' =>∃ (ra0:yOA) (rn0:Nat) (rc0:Nat) (ra1:yOA) (rn1:Nat) (LY:Nat) (rx1:List Value) (rF1:yLN),v=.tuple #[Sv ra0 rn0 rc0,Sv ra1 rn1 LY]/\Fresh w.heap.size [rF1]/\St w w' [rr ra0 rn0 rc0 2 1 ((yF s (xw s t) cell s.qB.length).map<|Value.int .i64),rr ra1 rn1 LY 24 1 rx1] [qL true rF1 rx1<|jU s t (xw s t) cell]) w):=by
 refine en Tryz.func154 Tryz.ntmps154 ?_
 have H:=(((((((St.start w).arg zN).arg jM).arg vF).argAt ht).arg xY).arg xu).argAt hs
 have jJ:=qO xu
 have Qb:=qO xY
 have XE:=qO vF
 have eJ:=qO jM
 have QW:=qO zN
 clear hs xu xY ht vF jM zN
 have N:=Fresh.nil w.heap.size
 have p0:=k1
 have p1:=k2
 have p2:=X7 k1 k2
 have p3:=k1.2.1
 have p6:=p2.1
 have p7:=k2.2.1
 have p8:=XG k1
 have p9:=k1.1.2.1
 have Yx:=k2.1
 have p15:=k1.1
 have p16:=k1.1.1
 have fl:(xw s t).length=s.qB.length:=yc _ _ _ _
 refine zcr<|sq 2<|zjc<|sq 2 ?_
 have sz4:=H.base.size
 refine sw<|oc (l03First_ok _ s t (qK (H.get 0 rfl) 0 3) (H.get 1 rfl).1 (H.get 2 rfl).1 (qK (H.get 3 rfl) 0 3) (H.get 4 rfl).1 (H.get 5 rfl).1 (H.get 6 rfl).1 qg qg) ?_
 rintro _ w2 ⟨ra1,rn1,LY,rfl,M,K⟩ _
 replace H:=H.merge K M
 obtain rfl:=H.Qc 0 rfl
 refine sq 1<|zjc<|sq 2<|oF rfl<|oL rfl (H.vW 0 rfl 0 rfl)<|sw<|jE H underlying24 ti2 s.qP.toNat rfl rfl qf qf qf fun b7 w8 H=>sq 1<|zjc<|sq 1 ?_
 have afO:=H.base.size
 refine sw<|oc (l08Zeros_ok _ s (qK (H.get 0 rfl) 0 3) (H.get 1 rfl).1 (H.get 2 rfl).1 qg) ?_
 rintro _ DN ⟨Kz,rn9,lX,rx9,rF9,rfl,M,K⟩ _
 replace N:=N.merge afO qm M
 replace H:=H.merge K M
 obtain rfl:=H.xe (α:=yLI) 0 rfl 0 rfl qj
 refine sq 1<|zjcc<|sp (.int .i64 0)<|zjn<|xg<|zU ((fun Z0 Z1 Z2 Z3=>fun m' ρ PG=>∃ (xI:Env) (uy:yOA) (vA:Nat) (sY:Nat) (Eu:yLI) (i:Nat) (out:yLL) (Qv:List Value) (Ql:yLN),ρ=upd (upd (upd (upd (upd (upd xI 0<|.pointer<|some ⟨bs,os,none⟩) 2<|.int .i64 cell) 8<|Sv ra1 ((xw s t).length) LY) 9<|Sv uy vA sY) 10<|Sv Kz ((ji s<|s.qA.length+1).length) lX) 11 (.int .i64 i)/\((i:Int)<=((xw s t).length))/\(Ent (s.qA.length+1) (vP s) (fun p q=>XL s t (xw s t) cell i p q) (1000+6000000 * i) out)/\(out.length=s.qA.length+1)/\(TookOk s Eu i)/\(Eu=(yF s (xw s t) cell i))/\m' =(((xw s t).length) - (i:Int)).toNat/\Fresh w.heap.size [Ql]/\St w PG [rr Kz ((ji s<|s.qA.length+1).length) lX 24 1 Qv,rr uy vA sY 2 1<|Eu.map<|Value.int .i64,Z0] [qL true Ql Qv out,Z1,Z2,Z3]) _ _ _ _) ((((xw s t).length) - (0:Int)).toNat) ⟨_,(some ⟨b7,0,none⟩),s.qP.toNat,s.qP.toNat,(List.replicate s.qP.toNat (0:Int)),0,ji s<|s.qA.length+1,rx9,rF9,uE6,qf,(by exact (zeros_ent (B:=0) qf).to (fun _ _=>rfl) qf),(by rw [zeros_len]),(by exact TookOk.zero s),(by rfl),rfl,N,H.pick [0,1,2]<|zR 0 4⟩ ?_
 clear H N
 rintro m' ρ UJ ⟨xI,uy,vA,sY,Eu,i,out,Qv,Ql,rfl,i0,rQ,aAn,tk,Ad,rfl,N,H⟩
 have ary:=H.Qc 1 rfl
 have Vq:=H.xe (α:=yLI) 0 rfl 0 rfl qj
 refine zcc<|sp (.int .i64 i)<|sq 1<|oN rfl<|sq 1<|zjn<|cD rfl (fun Kw=>?_)<|fun Kw=>?_
 ·have q:=p0.rule (i:=i) qf
  have qc:=q.1
  have qk:=q.cell
  have qr:=q.2.1
  have pZ:=q.2.2.2.2.1
  have sJ:=q.2.2.2.2.2.2.2.1
  have sO:=q.2.2.2.2.2.2.2.2.1
  have ln1:=pZ.len
  have ln2:=sJ.len
  have ln3:=sO.len
  have p10:=p2.bd (i:=i) qf
  have qn:=q.2.2.2.1
  refine xk<|t_n<|xH<|xg<|zcr<|sq 2<|oF rfl<|oL rfl (H.vW 1 rfl 2 rfl)<|sp (.int .i64 i) ?_
  have q_:=H.addr 3 rfl qf
  obtain ⟨Wt,o19,rfl⟩:=q_
  have q_:=H.Xh 3 rfl i i qf qf qf
  obtain ⟨apr,aqT,ahe,aiC,aim,akB,ajA,ako,apP,aiz,alX,aeT,arn,asx,asE,agZ,ahc,aqy,H⟩:=q_
  refine oI rfl rfl<|sq 1<|zjcc<|sq 2<|oF rfl<|oL rfl (H.vW 6 rfl 0 rfl)<|sq 1<|sp (Bv (((s.qB[i]!).qX:Int) != cell))<|sp (Bv (((s.qB[i]!).qX:Int) != cell)) ?_
  cases Bi:(((s.qB[i]!).qX:Int) != cell)
  ·replace Bi:=xR Bi
   refine qV 44 rfl rfl<|sq 1<|qV 44 rfl rfl<|sp (.int .i64 i)<|qV 44 rfl rfl ?_
   have q_:=H.jg 2 rfl qf
   obtain ⟨sA,rfl⟩:=q_
   refine oI rfl rfl<|qV 44 rfl rfl<|oL rfl (H.rowInt 2 rfl (iv:=i) (i:=i) qf qf)<|qV 44 rfl rfl<|sp (Bv (((xw s t)[i]! :Int) == 0))<|sp (Bv (((xw s t)[i]! :Int) == 0))<|zjn<|cE rfl (fun Th=>?_)<|fun Th=>?_
   ·refine c_exit (t_x<|b_x<|t_n<|xZ<|sp (.int .i64 i)<|sw<|zV i 1 rfl rfl qf<|sq 1<|xW<|xq (m' :=(((xw s t).length) - ((i+1):Int)).toNat) qf ⟨_,_,_,_,_,i+1,_,_,_,uE6,?_,?_,?_,?_,?_,rfl,N,H.pick [0,1,2]<|zR 7 4⟩)
    ·omega
    ·first | exact rQ.to (fun p q=>by first | rw [puts_no (i:=i) ql] | rw [puts_zero (i:=i) ql]) qf | exact hP.to (fun p q=>by rw [show k=((s.qB[i]!).xx).length by omega,puts_yes (i:=i) ql];simp only [putF];omega) qf
    ·omega
    ·first | exact tk.plus pZ qf | exact tk.keep
    ·first | exact Ad.trans (took_no<|by first | exact fun h=>absurd h.1 ql | exact fun h=>h.2 ql).symm | exact (congrArg (fun z=>vS z _ _) Ad).trans (took_yes ql ql).symm
   ·refine xk (t_n<|xH<|Xj rfl H fun H=>rtl 0 H ?_)
    refine rtl 1 H ?_
    refine rtl 2 H ?_
    refine tF 3 rfl rfl H ?_
    refine tL 4 rfl rfl (fun _ h=>h.vW 6 rfl 2 rfl) H ?_
    refine rtl 5 H ?_
    refine rtp 6 (.int .i64 i) H ?_
    refine tI 7 rfl rfl rfl H ?_
    refine tL 8 rfl rfl (fun _ h=>h.rowInt 2 rfl (iv:=i) (i:=i) qf qf) H ?_
    refine ro 9 rfl ?_
    have q_:=H.rowIsI 1 rfl
    obtain ⟨G26,amg,oZ⟩:=q_
    have q_:=tk.mid qf p8
    obtain ⟨u1,u2⟩:=q_
    have u4:=pZ.Qm (t:=(xw s t)[i]!) qf
    have aFS:=H.base.size
    have aHr:=H.ltN (L:=[Ql]) [7]
    refine oc (args_eq (by rw [← amg])<|Qu _ Eu ((s.qB[i]!).zT) ((xw s t)[i]!) (amg▸oZ) (H.get 0 rfl).1 qg qg qg) ?_
    rintro v34 Sb r34 x33
    replace H:=H.zI x33 r34
    have q_:=H.jW 0 rfl
    obtain ⟨a35,c36,rfl,aEA,aF1⟩:=q_
    refine ⟨H.pick [1,2,3]<|zR 0 11,(rtl 10 (H.pick [1,2,3]<|zR 0 11) ?_)⟩
    refine xy qh<|t_n<|xH<|XQ rfl H [0,2,3] fun H=>?_
    have S:=H.zK [0,2,3]<|zR 0 11
    refine rtl 0 S ?_
    refine rtl 1 S ?_
    refine rtl 2 S ?_
    refine rtl 3 S ?_
    have q_:=H.jg 1 rfl qf
    obtain ⟨WT,rfl⟩:=q_
    have S:=H.zK [0,2,3]<|zR 0 11
    refine tI 4 rfl rfl rfl S ?_
    refine rtl 6 S ?_
    refine rtl 7 S ?_
    refine tF 8 rfl rfl S ?_
    refine tL 9 rfl rfl (fun _ h=>h.vW 6 rfl 5 rfl) S ?_
    refine rtl 10 S ?_
    refine rtp 11 (.int .i64 i) S ?_
    refine tI 12 rfl rfl rfl S ?_
    refine tL 13 rfl rfl (fun _ h=>h.rowInt 2 rfl (iv:=i) (i:=i) qf qf) S ?_
    refine ro 5 rfl ?_
    have q_:=H.Q7 1 rfl 7 rfl (iv:=cell) cell.toNat qf qf
    obtain ⟨a41,c42,G43,s44,Db,H⟩:=q_
    refine zB (Sv a41 ((out[cell.toNat]!).length) c42) isAgg24 rfl (Db)<|⟨H.pick [0,2,3]<|zR 1 11,(ro 14 rfl ?_)⟩
    have q_:=rQ.sh.row (c:=cell.toNat) qf p8 qf
    obtain ⟨u1,u2⟩:=q_
    have u4:=(by first | exact sJ.Qm qf | exact sO.Qm qf | exact qa.Qm qf:XV ((s.qB[i]!).jK) ((xw s t)[i]!))
    have aEk:=H.base.size
    have aDW:=H.ltN (L:=[Ql]) [8]
    refine oc (Qu _ (out[cell.toNat]!) ((s.qB[i]!).jK) ((xw s t)[i]!) (H.get 0 rfl).1 (H.get 4 rfl).1 qg qg qg) ?_
    rintro v51 w49 r51 x50
    replace H:=H.zI x50 r51
    have q_:=H.jW 0 rfl
    obtain ⟨a52,c53,rfl,aF6,aD3⟩:=q_
    refine ⟨H.pick [1,3,4]<|zR 1 11,(tI 15 rfl rfl rfl (H.pick [1,3,4]<|zR 1 11) ?_)⟩
    refine ro 16 rfl ?_
    have q_:=H.ve 0 rfl N<|H.vg [8]
    obtain ⟨gH,N,am8,H⟩:=q_
    refine yZ true H 2 rfl 9 rfl (Sv a52 ((vS (out[cell.toNat]!) ((s.qB[i]!).jK) ((xw s t)[i]!)).length) c53) 0 rfl rfl sizeOf24 rfl rfl (i:=cell.toNat) qf qf qm fun w56 aKH F60 avW H=>?_
    replace N:Fresh w.heap.size [F60]:=(N.pick [1,0]).repl avW
    refine ⟨H.pick [1,3,4]<|zR 3 11,(xy qh<|t_n<|zcr<|sq 2<|oF rfl<|oL rfl (H.vW 11 rfl 1 rfl)<|oN rfl<|sq 1<|zjcc<|sq 1<|sp (Bv<|decide ((cell:Int) > 0))<|zjn<|cD rfl (fun h62=>?_)<|fun h62=>?_)⟩
    ·have q_:∃ z,z=(out.set cell.toNat<|vS (out[cell.toNat]!) ((s.qB[i]!).jK) ((xw s t)[i]!)):=⟨_,rfl⟩
     obtain ⟨Ps,Pq⟩:=q_
     rw [← Pq] at H
     have AS:=Ent.add (D:=1000000) rQ Pq qf (by first | exact pZ.mul qf | exact sJ.mul qf | exact sO.mul qf | exact qa.mul qf) qf
     have ax7:=AS.sh.1
     have f6:=AS
     have pu:=p15.up (c:=cell) qf qf
     have po:outPl s t (s.qB[i]!)=(s.qA[cell.toNat]!).toNat:=by rw [outPl_up qf,(by assumption:(s.qB[i]!).qX=cell),whole_parent kw p15 Yx qf qf]
     refine xZ<|sq 2<|oF rfl<|oL rfl (H.vW 11 rfl 1 rfl)<|sq 1 ?_
     have q_:=H.addr 12 rfl qf
     obtain ⟨b64,o65,rfl⟩:=q_
     refine oI rfl rfl<|oL rfl (H.elemInt 12 rfl cell qf qf)<|sq 1<|zjn<|xH<|XQ rfl H [0,1,3,4] fun H=>?_
     have S:=H.zK [0,1,3,4]<|zR 0 14
     refine rtl 0 S ?_
     refine rtl 1 S ?_
     refine rtl 2 S ?_
     refine rtl 3 S ?_
     refine tI 4 rfl rfl rfl S ?_
     refine rtl 6 S ?_
     refine rtl 7 S ?_
     refine tF 8 rfl rfl S ?_
     refine tL 9 rfl rfl (fun _ h=>h.vW 9 rfl 6 rfl) S ?_
     refine rtl 10 S ?_
     refine rtp 11 (.int .i64 i) S ?_
     refine tI 12 rfl rfl rfl S ?_
     refine tL 13 rfl rfl (fun _ h=>h.rowInt 3 rfl (iv:=i) (i:=i) qf qf) S ?_
     refine ro 5 rfl ?_
     have q_:=H.Q7 2 rfl 0 rfl (iv:=s.qA[cell.toNat]!) ((s.qA[cell.toNat]!).toNat) qf qf
     obtain ⟨a68,c69,V3,s71,h72,H⟩:=q_
     refine zB (Sv a68 ((Ps[(s.qA[cell.toNat]!).toNat]!).length) c69) isAgg24 rfl (h72)<|⟨H.pick [0,1,3,4]<|zR 1 14,(ro 14 rfl ?_)⟩
     have q_:=AS.sh.row (c:=(s.qA[cell.toNat]!).toNat) qf p8 qf
     obtain ⟨u1,u2⟩:=q_
     have u4:=(by first | exact sJ.Qm qf | exact sO.Qm qf | exact qa.Qm qf:XV ((s.qB[i]!).QP) ((xw s t)[i]!))
     have aE7:=H.base.size
     have aEZ:=H.ltN (L:=[F60]) [1]
     refine oc (Qu _ (Ps[(s.qA[cell.toNat]!).toNat]!) ((s.qB[i]!).QP) ((xw s t)[i]!) (H.get 0 rfl).1 (H.get 8 rfl).1 qg qg qg) ?_
     rintro v78 w76 r78 x77
     replace H:=H.zI x77 r78
     have q_:=H.jW 0 rfl
     obtain ⟨a79,c80,rfl,aDx,aFx⟩:=q_
     refine ⟨H.pick [1,2,4,5]<|zR 1 14,(tI 15 rfl rfl rfl (H.pick [1,2,4,5]<|zR 1 14) ?_)⟩
     refine ro 16 rfl ?_
     have q_:=H.ve 0 rfl N<|H.vg [1]
     obtain ⟨G84,N,aIx,H⟩:=q_
     refine yZ true H 3 rfl 2 rfl (Sv a79 ((vS (Ps[(s.qA[cell.toNat]!).toNat]!) ((s.qB[i]!).QP) ((xw s t)[i]!)).length) c80) 0 rfl rfl sizeOf24 rfl rfl (i:=((s.qA[cell.toNat]!).toNat)) qf qf qm fun w83 avB F87 azi H=>?_
     replace N:Fresh w.heap.size [F87]:=(N.pick [1,0]).repl azi
     refine ⟨H.pick [1,2,4,5]<|zR 3 14,(xy qh<|t_n<|zcr<|sp (.int .i64 0)<|zjn<|xg ?_)⟩
     have q_:∃ z,z=(Ps.set ((s.qA[cell.toNat]!).toNat)<|vS (Ps[(s.qA[cell.toNat]!).toNat]!) ((s.qB[i]!).QP) ((xw s t)[i]!)):=⟨_,rfl⟩
     obtain ⟨axY,OG⟩:=q_
     rw [← OG] at H
     have NO:=Ent.add (D:=1000000) AS OG qf (by first | exact pZ.mul qf | exact sJ.mul qf | exact sO.mul qf | exact qa.mul qf) qf
     have awp:=NO.sh.1
     have f6:=NO
     refine zU ((fun Z0 Z1 Z2 Z3 Z4 Z5 Z6 Z7 Z8 Z9 fH fZ iw=>fun m' ρ VP=>∃ (xI:Env) (k:Nat) (eR:yLL) (ln:List Value) (hJ:yLN),ρ=upd (upd (upd (upd (upd (upd (upd (upd (upd (upd (upd (upd (upd xI 0<|.pointer<|some ⟨bs,os,none⟩) 2<|.int .i64 cell) 8<|Sv (some ⟨sA,0,none⟩) ((xw s t).length) LY) 9<|Sv a35 ((vS Eu ((s.qB[i]!).zT) ((xw s t)[i]!)).length) c36) 10<|Sv (some ⟨WT,0,none⟩) ((ji s<|s.qA.length+1).length) lX) 11<|.int .i64 i) 12<|.pointer<|some ⟨Wt,o19+(i:Int).toNat * 9,none⟩) 14<|.int .i64 k) 45<|Sv (some ⟨sA,0,none⟩) ((xw s t).length) LY) 46<|.int .i64 i) 47<|.pointer<|some ⟨sA,0+(i:Int).toNat * 1,none⟩) 48<|.int .i64 ((xw s t)[i]!)) 49 (Bv (((xw s t)[i]! :Int) == 0))/\((k:Int)<=(((s.qB[i]!).xx).length))/\(Ent (s.qA.length+1) (vP s) (fun p q=>XL s t (xw s t) cell i p q+at' p (s.qB[i]!).qX.toNat ((((xw s t))[i]!) * ((s.qB[i]!).jK)[q]!)+at' p (outPl s t<|s.qB[i]!) ((((xw s t))[i]!) * ((s.qB[i]!).QP)[q]!)+intoF (s.qB[i]!) (((xw s t))[i]!) k p q) (3000000+6000000 * i+1000000 * k) eR)/\(eR.length=s.qA.length+1)/\m' =((((s.qB[i]!).xx).length) - (k:Int)).toNat/\Fresh w.heap.size [hJ]/\St w VP [Z0,rr (some ⟨WT,0,none⟩) ((ji s<|s.qA.length+1).length) lX 24 1 ln,Z1,Z2] [qL true hJ ln eR,Z3,Z4,Z5,Z6,Z7,Z8,Z9,fH,fZ,iw]) _ _ _ _ _ _ _ _ _ _ _ _ _) (((((s.qB[i]!).xx).length) - (0:Int)).toNat) ⟨_,0,axY,avB,F87,uE13,qf,(by exact f6.to (fun p q=>by rw [po,(by assumption:(s.qB[i]!).qX=cell)];simp only [intoF];first | omega | (simp only [Int.toNat_natCast];omega)) qf),qf,rfl,N,H.pick (zR 2 4) [0,6,7,8,9,10,11,12,14,15,16]⟩ ?_
     clear H N
     rintro m' ρ w91 ⟨xI,k,eR,ln,hJ,rfl,i0,hP,Sp,rfl,N,H⟩
     have Vq:=H.xe (α:=yLI) 1 rfl 0 rfl qj
     refine zcc<|sp (.int .i64 k)<|sq 2<|oF rfl<|oL rfl (H.vW 7 rfl 7 rfl)<|oN rfl<|sq 1<|zjn<|cD rfl (fun h92=>?_)<|fun h92=>?_
     ·have qi:=q.2.2.2.2.2.2.2.2.2.2 k qf
      have qi1:=qi.1
      have qa:=qi.2.2.1
      have ln4:=qa.len
      refine xk<|t_n<|xH<|xg<|zcr<|sq 2<|oF rfl<|oL rfl (H.vW 7 rfl 7 rfl)<|sp (.int .i64 k) ?_
      have q_:=H.addr 6 rfl qf
      obtain ⟨b93,o94,rfl⟩:=q_
      have q_:=H.QU 6 rfl k k qf qf qf
      obtain ⟨asz,ar4,aso,H⟩:=q_
      refine oI rfl rfl<|oF rfl<|oL rfl (H.vW 1 rfl 0 rfl)<|sq 1<|zjn<|XQ rfl H [0,2,3] fun H=>?_
      have S:=H.zK [0,2,3]<|zR 0 13
      refine rtl 0 S ?_
      refine rtl 1 S ?_
      refine rtl 2 S ?_
      refine rtl 3 S ?_
      refine tI 4 rfl rfl rfl S ?_
      refine rtl 6 S ?_
      refine rtl 7 S ?_
      refine tF 8 rfl rfl S ?_
      refine tL 9 rfl rfl (fun _ h=>h.vW 9 rfl 7 rfl) S ?_
      refine rtp 10 (.int .i64 k) S ?_
      refine tI 11 rfl rfl rfl S ?_
      refine tF 12 rfl rfl S ?_
      refine tL 13 rfl rfl (fun _ h=>h.vW 1 rfl 1 rfl) S ?_
      refine rtl 14 S ?_
      refine rtp 15 (.int .i64 i) S ?_
      refine tI 16 rfl rfl rfl S ?_
      refine tL 17 rfl rfl (fun _ h=>h.rowInt 2 rfl (iv:=i) (i:=i) qf qf) S ?_
      refine ro 5 rfl ?_
      have q_:=H.Q7 1 rfl 2 rfl (iv:=(((s.qB[i]!).xx)[k]!).qX) (((((s.qB[i]!).xx)[k]!).qX).toNat) qf qf
      obtain ⟨a98,c99,aaQ,aFh,axD,H⟩:=q_
      refine zB (Sv a98 ((eR[((((s.qB[i]!).xx)[k]!).qX).toNat]!).length) c99) isAgg24 rfl (axD)<|⟨H.pick [0,2,3]<|zR 1 13,(ro 18 rfl ?_)⟩
      have q_:=hP.sh.row (c:=((((s.qB[i]!).xx)[k]!).qX).toNat) qf p8 qf
      obtain ⟨u1,u2⟩:=q_
      have u4:=(by first | exact sJ.Qm qf | exact sO.Qm qf | exact qa.Qm qf:XV ((((s.qB[i]!).xx)[k]!).XH) ((xw s t)[i]!))
      have aBR:=H.base.size
      have aDg:=H.ltN (L:=[hJ]) [3]
      refine oc (Qu _ (eR[((((s.qB[i]!).xx)[k]!).qX).toNat]!) ((((s.qB[i]!).xx)[k]!).XH) ((xw s t)[i]!) (H.get 0 rfl).1 (H.get 1 rfl).1 qg qg qg) ?_
      rintro aG7 Ln au6 ava
      replace H:=H.zI ava au6
      have q_:=H.jW 0 rfl
      obtain ⟨Ep,D4,rfl,aBV,aCM⟩:=q_
      refine ⟨H.pick [1,3,4]<|zR 1 13,(tI 19 rfl rfl rfl (H.pick [1,3,4]<|zR 1 13) ?_)⟩
      refine ro 20 rfl ?_
      have q_:=H.ve 0 rfl N<|H.vg [3]
      obtain ⟨aIy,N,aA7,H⟩:=q_
      refine yZ true H 2 rfl 4 rfl (Sv Ep ((vS (eR[((((s.qB[i]!).xx)[k]!).qX).toNat]!) ((((s.qB[i]!).xx)[k]!).XH) ((xw s t)[i]!)).length) D4) 0 rfl rfl sizeOf24 rfl rfl (i:=(((((s.qB[i]!).xx)[k]!).qX).toNat)) qf qf qm fun abz azq ata ape H=>?_
      replace N:Fresh w.heap.size [ata]:=(N.pick [1,0]).repl ape
      refine ⟨H.pick [1,3,4]<|zR 3 13,(xy qh<|b_n<|t_n<|xZ<|sp (.int .i64 k)<|sw<|zV k 1 rfl rfl qf<|sq 1<|xW ?_)⟩
      have q_:∃ z,z=(eR.set (((((s.qB[i]!).xx)[k]!).qX).toNat)<|vS (eR[((((s.qB[i]!).xx)[k]!).qX).toNat]!) ((((s.qB[i]!).xx)[k]!).XH) ((xw s t)[i]!)):=⟨_,rfl⟩
      obtain ⟨az8,Fy⟩:=q_
      rw [← Fy] at H
      have Ht:=Ent.add (D:=1000000) hP Fy qf (by first | exact pZ.mul qf | exact sJ.mul qf | exact sO.mul qf | exact qa.mul qf) qf
      have arS:=Ht.sh.1
      have f6:=Ht
      refine xq (m' :=((((s.qB[i]!).xx).length) - ((k+1):Int)).toNat) qf ⟨_,k+1,_,_,_,uE13,?_,?_,?_,rfl,N,H.pick (zR 1 4) (0::zR 6 10)⟩
      ·omega
      ·exact f6.to (fun p q=>by simp only [intoF];omega) qf
      ·omega
     ·refine c_exit (t_x<|t_x<|b_x<|b_n<|t_n<|xZ<|sp (.int .i64 i)<|sw<|zV i 1 rfl rfl qf<|sq 1<|xW<|xq (m' :=(((xw s t).length) - ((i+1):Int)).toNat) qf ⟨_,_,_,_,_,i+1,_,_,_,uE6,?_,?_,?_,?_,?_,rfl,N,H.pick [1,0,3] [0,8,9,10]⟩)
      ·omega
      ·first | exact rQ.to (fun p q=>by first | rw [puts_no (i:=i) ql] | rw [puts_zero (i:=i) ql]) qf | exact hP.to (fun p q=>by rw [show k=((s.qB[i]!).xx).length by omega,puts_yes (i:=i) ql];simp only [putF];omega) qf
      ·omega
      ·first | exact tk.plus pZ qf | exact tk.keep
      ·first | exact Ad.trans (took_no<|by first | exact fun h=>absurd h.1 ql | exact fun h=>h.2 ql).symm | exact (congrArg (fun z=>vS z _ _) Ad).trans (took_yes ql ql).symm
    ·have q_:∃ z,z=(out.set cell.toNat<|vS (out[cell.toNat]!) ((s.qB[i]!).jK) ((xw s t)[i]!)):=⟨_,rfl⟩
     obtain ⟨BD,Gf⟩:=q_
     rw [← Gf] at H
     have sD:=Ent.add (D:=1000000) rQ Gf qf (by first | exact pZ.mul qf | exact sJ.mul qf | exact sO.mul qf | exact qa.mul qf) qf
     have arM:=sD.sh.1
     have f6:=sD
     have po:outPl s t (s.qB[i]!)=s.qA.length:=outPl_root qf
     refine xk<|t_n<|xH<|XQ rfl H [0,1,3,4] fun H=>?_
     have S:=H.zK [0,1,3,4]<|zR 0 14
     refine rtl 0 S ?_
     refine rtl 1 S ?_
     refine rtl 2 S ?_
     refine rtl 3 S ?_
     refine tI 4 rfl rfl rfl S ?_
     refine rtl 6 S ?_
     refine rtl 7 S ?_
     refine tF 8 rfl rfl S ?_
     refine tL 9 rfl rfl (fun _ h=>h.vW 9 rfl 6 rfl) S ?_
     refine rtl 10 S ?_
     refine rtp 11 (.int .i64 i) S ?_
     refine tI 12 rfl rfl rfl S ?_
     refine tL 13 rfl rfl (fun _ h=>h.rowInt 3 rfl (iv:=i) (i:=i) qf qf) S ?_
     refine ro 5 rfl ?_
     have q_:=H.Q7 2 rfl 0 rfl (iv:=s.qA.length) s.qA.length qf qf
     obtain ⟨avy,av8,aHC,aIJ,ayD,H⟩:=q_
     refine zB (Sv avy ((BD[s.qA.length]!).length) av8) isAgg24 rfl (ayD)<|⟨H.pick [0,1,3,4]<|zR 1 14,(ro 14 rfl ?_)⟩
     have q_:=sD.sh.row (c:=s.qA.length) qf p8 qf
     obtain ⟨u1,u2⟩:=q_
     have u4:=(by first | exact sJ.Qm qf | exact sO.Qm qf | exact qa.Qm qf:XV ((s.qB[i]!).QP) ((xw s t)[i]!))
     have aAi:=H.base.size
     have azz:=H.ltN (L:=[F60]) [1]
     refine oc (Qu _ (BD[s.qA.length]!) ((s.qB[i]!).QP) ((xw s t)[i]!) (H.get 0 rfl).1 (H.get 8 rfl).1 qg qg qg) ?_
     rintro aD7 ZO awR ay3
     replace H:=H.zI ay3 awR
     have q_:=H.jW 0 rfl
     obtain ⟨apq,aeL,rfl,aCX,aA0⟩:=q_
     refine ⟨H.pick [1,2,4,5]<|zR 1 14,(tI 15 rfl rfl rfl (H.pick [1,2,4,5]<|zR 1 14) ?_)⟩
     refine ro 16 rfl ?_
     have q_:=H.ve 0 rfl N<|H.vg [1]
     obtain ⟨jN,N,apj,H⟩:=q_
     refine yZ true H 3 rfl 2 rfl (Sv apq ((vS (BD[s.qA.length]!) ((s.qB[i]!).QP) ((xw s t)[i]!)).length) aeL) 0 rfl rfl sizeOf24 rfl rfl (i:=s.qA.length) qf qf qm fun LW aeA alU aiB H=>?_
     replace N:Fresh w.heap.size [alU]:=(N.pick [1,0]).repl aiB
     refine ⟨H.pick [1,2,4,5]<|zR 3 14,(xy qh<|t_n<|zcr<|sp (.int .i64 0)<|zjn<|xg ?_)⟩
     have q_:∃ z,z=(BD.set s.qA.length<|vS (BD[s.qA.length]!) ((s.qB[i]!).QP) ((xw s t)[i]!)):=⟨_,rfl⟩
     obtain ⟨aoh,G5⟩:=q_
     rw [← G5] at H
     have FR:=Ent.add (D:=1000000) sD G5 qf (by first | exact pZ.mul qf | exact sJ.mul qf | exact sO.mul qf | exact qa.mul qf) qf
     have ar0:=FR.sh.1
     have f6:=FR
     refine zU ((fun Z0 Z1 Z2 Z3 Z4 Z5 Z6 Z7 Z8 Z9 fH fZ iw=>fun m' ρ ajy=>∃ (xI:Env) (k:Nat) (eR:yLL) (ln:List Value) (hJ:yLN),ρ=upd (upd (upd (upd (upd (upd (upd (upd (upd (upd (upd (upd (upd xI 0<|.pointer<|some ⟨bs,os,none⟩) 2<|.int .i64 cell) 8<|Sv (some ⟨sA,0,none⟩) ((xw s t).length) LY) 9<|Sv a35 ((vS Eu ((s.qB[i]!).zT) ((xw s t)[i]!)).length) c36) 10<|Sv (some ⟨WT,0,none⟩) ((ji s<|s.qA.length+1).length) lX) 11<|.int .i64 i) 12<|.pointer<|some ⟨Wt,o19+(i:Int).toNat * 9,none⟩) 14<|.int .i64 k) 45<|Sv (some ⟨sA,0,none⟩) ((xw s t).length) LY) 46<|.int .i64 i) 47<|.pointer<|some ⟨sA,0+(i:Int).toNat * 1,none⟩) 48<|.int .i64 ((xw s t)[i]!)) 49 (Bv (((xw s t)[i]! :Int) == 0))/\((k:Int)<=(((s.qB[i]!).xx).length))/\(Ent (s.qA.length+1) (vP s) (fun p q=>XL s t (xw s t) cell i p q+at' p (s.qB[i]!).qX.toNat ((((xw s t))[i]!) * ((s.qB[i]!).jK)[q]!)+at' p (outPl s t<|s.qB[i]!) ((((xw s t))[i]!) * ((s.qB[i]!).QP)[q]!)+intoF (s.qB[i]!) (((xw s t))[i]!) k p q) (3000000+6000000 * i+1000000 * k) eR)/\(eR.length=s.qA.length+1)/\m' =((((s.qB[i]!).xx).length) - (k:Int)).toNat/\Fresh w.heap.size [hJ]/\St w ajy [Z0,rr (some ⟨WT,0,none⟩) ((ji s<|s.qA.length+1).length) lX 24 1 ln,Z1,Z2] [qL true hJ ln eR,Z3,Z4,Z5,Z6,Z7,Z8,Z9,fH,fZ,iw]) _ _ _ _ _ _ _ _ _ _ _ _ _) (((((s.qB[i]!).xx).length) - (0:Int)).toNat) ⟨_,0,aoh,aeA,alU,uE13,qf,(by exact f6.to (fun p q=>by rw [po,(by assumption:(s.qB[i]!).qX=cell)];simp only [intoF];first | omega | (simp only [Int.toNat_natCast];omega)) qf),qf,rfl,N,H.pick (zR 2 4) [0,6,7,8,9,10,11,12,14,15,16]⟩ ?_
     clear H N
     rintro m' ρ OF ⟨xI,k,eR,ln,hJ,rfl,i0,hP,Sp,rfl,N,H⟩
     have Vq:=H.xe (α:=yLI) 1 rfl 0 rfl qj
     refine zcc<|sp (.int .i64 k)<|sq 2<|oF rfl<|oL rfl (H.vW 7 rfl 7 rfl)<|oN rfl<|sq 1<|zjn<|cD rfl (fun as3=>?_)<|fun as3=>?_
     ·have qi:=q.2.2.2.2.2.2.2.2.2.2 k qf
      have qi1:=qi.1
      have qa:=qi.2.2.1
      have ln4:=qa.len
      refine xk<|t_n<|xH<|xg<|zcr<|sq 2<|oF rfl<|oL rfl (H.vW 7 rfl 7 rfl)<|sp (.int .i64 k) ?_
      have q_:=H.addr 6 rfl qf
      obtain ⟨aJP,aHQ,rfl⟩:=q_
      have q_:=H.QU 6 rfl k k qf qf qf
      obtain ⟨aol,ak1,anG,H⟩:=q_
      refine oI rfl rfl<|oF rfl<|oL rfl (H.vW 1 rfl 0 rfl)<|sq 1<|zjn<|XQ rfl H [0,2,3] fun H=>?_
      have S:=H.zK [0,2,3]<|zR 0 13
      refine rtl 0 S ?_
      refine rtl 1 S ?_
      refine rtl 2 S ?_
      refine rtl 3 S ?_
      refine tI 4 rfl rfl rfl S ?_
      refine rtl 6 S ?_
      refine rtl 7 S ?_
      refine tF 8 rfl rfl S ?_
      refine tL 9 rfl rfl (fun _ h=>h.vW 9 rfl 7 rfl) S ?_
      refine rtp 10 (.int .i64 k) S ?_
      refine tI 11 rfl rfl rfl S ?_
      refine tF 12 rfl rfl S ?_
      refine tL 13 rfl rfl (fun _ h=>h.vW 1 rfl 1 rfl) S ?_
      refine rtl 14 S ?_
      refine rtp 15 (.int .i64 i) S ?_
      refine tI 16 rfl rfl rfl S ?_
      refine tL 17 rfl rfl (fun _ h=>h.rowInt 2 rfl (iv:=i) (i:=i) qf qf) S ?_
      refine ro 5 rfl ?_
      have q_:=H.Q7 1 rfl 2 rfl (iv:=(((s.qB[i]!).xx)[k]!).qX) (((((s.qB[i]!).xx)[k]!).qX).toNat) qf qf
      obtain ⟨S9,Te,aGv,aIa,awZ,H⟩:=q_
      refine zB (Sv S9 ((eR[((((s.qB[i]!).xx)[k]!).qX).toNat]!).length) Te) isAgg24 rfl (awZ)<|⟨H.pick [0,2,3]<|zR 1 13,(ro 18 rfl ?_)⟩
      have q_:=hP.sh.row (c:=((((s.qB[i]!).xx)[k]!).qX).toNat) qf p8 qf
      obtain ⟨u1,u2⟩:=q_
      have u4:=(by first | exact sJ.Qm qf | exact sO.Qm qf | exact qa.Qm qf:XV ((((s.qB[i]!).xx)[k]!).XH) ((xw s t)[i]!))
      have aqu:=H.base.size
      have amc:=H.ltN (L:=[hJ]) [3]
      refine oc (Qu _ (eR[((((s.qB[i]!).xx)[k]!).qX).toNat]!) ((((s.qB[i]!).xx)[k]!).XH) ((xw s t)[i]!) (H.get 0 rfl).1 (H.get 1 rfl).1 qg qg qg) ?_
      rintro axj abK acR Zx
      replace H:=H.zI Zx acR
      have q_:=H.jW 0 rfl
      obtain ⟨RH,Su,rfl,ai6,alb⟩:=q_
      refine ⟨H.pick [1,3,4]<|zR 1 13,(tI 19 rfl rfl rfl (H.pick [1,3,4]<|zR 1 13) ?_)⟩
      refine ro 20 rfl ?_
      have q_:=H.ve 0 rfl N<|H.vg [3]
      obtain ⟨aDN,N,aBF,H⟩:=q_
      refine yZ true H 2 rfl 4 rfl (Sv RH ((vS (eR[((((s.qB[i]!).xx)[k]!).qX).toNat]!) ((((s.qB[i]!).xx)[k]!).XH) ((xw s t)[i]!)).length) Su) 0 rfl rfl sizeOf24 rfl rfl (i:=(((((s.qB[i]!).xx)[k]!).qX).toNat)) qf qf qm fun ayZ aBH awN agb H=>?_
      replace N:Fresh w.heap.size [awN]:=(N.pick [1,0]).repl agb
      refine ⟨H.pick [1,3,4]<|zR 3 13,(xy qh<|b_n<|t_n<|xZ<|sp (.int .i64 k)<|sw<|zV k 1 rfl rfl qf<|sq 1<|xW ?_)⟩
      have q_:∃ z,z=(eR.set (((((s.qB[i]!).xx)[k]!).qX).toNat)<|vS (eR[((((s.qB[i]!).xx)[k]!).qX).toNat]!) ((((s.qB[i]!).xx)[k]!).XH) ((xw s t)[i]!)):=⟨_,rfl⟩
      obtain ⟨aB6,Hx⟩:=q_
      rw [← Hx] at H
      have Gi:=Ent.add (D:=1000000) hP Hx qf (by first | exact pZ.mul qf | exact sJ.mul qf | exact sO.mul qf | exact qa.mul qf) qf
      have asW:=Gi.sh.1
      have f6:=Gi
      refine xq (m' :=((((s.qB[i]!).xx).length) - ((k+1):Int)).toNat) qf ⟨_,k+1,_,_,_,uE13,?_,?_,?_,rfl,N,H.pick (zR 1 4) (0::zR 6 10)⟩
      ·omega
      ·exact f6.to (fun p q=>by simp only [intoF];omega) qf
      ·omega
     ·refine c_exit (t_x<|t_x<|b_x<|b_n<|t_n<|xZ<|sp (.int .i64 i)<|sw<|zV i 1 rfl rfl qf<|sq 1<|xW<|xq (m' :=(((xw s t).length) - ((i+1):Int)).toNat) qf ⟨_,_,_,_,_,i+1,_,_,_,uE6,?_,?_,?_,?_,?_,rfl,N,H.pick [1,0,3] [0,8,9,10]⟩)
      ·omega
      ·first | exact rQ.to (fun p q=>by first | rw [puts_no (i:=i) ql] | rw [puts_zero (i:=i) ql]) qf | exact hP.to (fun p q=>by rw [show k=((s.qB[i]!).xx).length by omega,puts_yes (i:=i) ql];simp only [putF];omega) qf
      ·omega
      ·first | exact tk.plus pZ qf | exact tk.keep
      ·first | exact Ad.trans (took_no<|by first | exact fun h=>absurd h.1 ql | exact fun h=>h.2 ql).symm | exact (congrArg (fun z=>vS z _ _) Ad).trans (took_yes ql ql).symm
  ·replace Bi:=bne_iff_ne.1 Bi
   refine zM (zR 45 5)<|sp (Bv true)<|zjn<|cTr rfl<|c_exit<|t_x<|b_x<|t_n<|xZ<|sp (.int .i64 i)<|sw<|zV i 1 rfl rfl qf<|sq 1<|xW<|xq (m' :=(((xw s t).length) - ((i+1):Int)).toNat) qf ⟨_,_,_,_,_,i+1,_,_,_,uE6,?_,?_,?_,?_,?_,rfl,N,H.pick [0,1,2]<|zR 7 4⟩
   ·omega
   ·first | exact rQ.to (fun p q=>by first | rw [puts_no (i:=i) ql] | rw [puts_zero (i:=i) ql]) qf | exact hP.to (fun p q=>by rw [show k=((s.qB[i]!).xx).length by omega,puts_yes (i:=i) ql];simp only [putF];omega) qf
   ·omega
   ·first | exact tk.plus pZ qf | exact tk.keep
   ·first | exact Ad.trans (took_no<|by first | exact fun h=>absurd h.1 ql | exact fun h=>h.2 ql).symm | exact (congrArg (fun z=>vS z _ _) Ad).trans (took_yes ql ql).symm
 ·refine zx4 (zcr<|sq 4<|zjr<|ret2 (Sv uy vA sY) (Sv Kz ((ji s<|s.qA.length+1).length) lX) rfl rfl rfl ⟨_,rfl,?_,H.base⟩)
  obtain rfl:i=s.qB.length:=by omega
  subst Ad
  obtain rfl:out=jU s t (xw s t) cell:=rQ.tab
  exact ⟨uy,vA,sY,Kz,(ji s<|s.qA.length+1).length,lX,Qv,Ql,rfl,N,H.pick [1,0] [0]⟩
theorem sowner_ok (own:yLI) (ao:yOA) (co:Nat) (Fo:yLN) (sb:Nat) (bk:Nat) (eG:yOA) (eo:Nat) (cC:Nat) (cM:yOA) (ke:Nat) (bJ:Nat) (xv:Nat) (H:St W0 w ((.box bk [.pointer<|some ⟨sb,0,none⟩,Sv ao own.length co,Sv eG eo cC,Sv cM ke bJ] 86)::ps) ((sF false Fo ao co own)::Γ)) (N:Fresh W0.heap.size (Ns)) (K0:Kept Ns Γ) (p0:xv<=own.length) (p1:0 < own.length):Calls Tryz.prog 156 #[.pointer<|some ⟨bk,0,none⟩,.int .i64 xv] w (fun e w' =>∃ v,e=.returned v/\v=.int .i64 (vC own xv)/\Fresh W0.heap.size (Ns)/\St W0 w' ((.box bk [.pointer<|some ⟨sb,0,none⟩,Sv ao own.length co,Sv eG eo cC,Sv cM ke bJ] 86)::ps) ((sF false Fo ao co own)::Γ)):=by
 refine en Tryz.func156 Tryz.ntmps156 ?_
 have sy:=qO (H.get 0 rfl).1
 refine zcr<|sp (.int .i64 0)<|zjcc<|sp (.int .i64 xv)<|sq 2<|oF rfl<|oL rfl (H.cell 0 rfl rfl)<|oN rfl<|sq 1<|zjn<|cE rfl (fun h1=>?_)<|fun h1=>?_
 ·refine zcr (sq 2<|oF rfl<|oL rfl (H.cell 0 rfl rfl) ?_)
  obtain ⟨b2,o3,rfl⟩:=H.addr 0 rfl qf
  refine oI rfl rfl<|oL rfl (H.jd 0 rfl 0 qf)<|sq 1<|zjr<|t_r<|ret1 (.int .i64<|own[0]!) rfl rfl ⟨_,rfl,?_⟩
  first | rw [ownAt_e qf] | rw [ownAt_n qf]
  exact ⟨rfl,N,H.qY 1 1 [0] [0] (by simp only [List.length_cons,List.length_append];omega)<|by simp only [List.length_cons,List.length_append];omega⟩
 ·refine xk (t_n<|zcr<|sq 2<|oF rfl<|oL rfl (H.cell 0 rfl rfl)<|sp (.int .i64 xv) ?_)
  obtain ⟨b5,o6,rfl⟩:=H.addr 0 rfl qf
  refine oI rfl rfl<|oL rfl (H.jd 0 rfl xv qf)<|sq 1<|zjr<|ret1 (.int .i64<|own[xv]!) rfl rfl ⟨_,rfl,?_⟩
  first | rw [ownAt_e qf] | rw [ownAt_n qf]
  exact ⟨rfl,N,H.qY 1 1 [0] [0] (by simp only [List.length_cons,List.length_append];omega)<|by simp only [List.length_cons,List.length_append];omega⟩
theorem swork_ok (s:qM) (own:yLI) (ap:yOA) (cp:Nat) (Fp:yLN) (ar:yOA) (cr:Nat) (Fr:yLN) (ao:yOA) (co:Nat) (Fo:yLN) (sb:Nat) (sv:List zA) (wi:List zk) (bk:Nat) (n:Nat) (eG:yOA) (eo:Nat) (cC:Nat) (bZ:List Value) (aF:yLN) (cM:yOA) (ke:Nat) (bJ:Nat) (bM:List Value) (az:yLN) (iv:Int) (H:St W0 w ((.box bk [.pointer<|some ⟨sb,0,none⟩,Sv ao own.length co,Sv eG eo cC,Sv cM ke bJ] 86)::(.box sb [.int .i64 s.qP,Sv ap s.qA.length cp,Sv ar s.qB.length cr] 27)::(rr eG eo cC 49 16 bZ)::(rr cM ke bJ 77 4 bM)::ps) ((sF false Fp ap cp s.qA)::(sF false Fr ar cr s.qB)::(sF false Fo ao co own)::(qL true aF bZ sv)::(qL true az bM wi)::Γ)) (N:Fresh W0.heap.size (aF::az::Ns)) (K0:Kept Ns Γ) (p0:Giv s own n) (p1:Vu s own n (⟨sv,wi⟩:zQ)) (p2:0<=iv/\iv < n) (OL:∀ f∈(sF false Fp ap cp s.qA::sF false Fr ar cr s.qB::sF false Fo ao co own::Γ),∀ b∈f.F,b < W0.heap.size):Calls Tryz.prog 108 #[.pointer<|some ⟨bk,0,none⟩,.int .i64 iv] w (fun e w' =>∃ v,e=.returned v/\∃ (pB:List Value) (pJ:yLN) (pN:yOA) (pK:Nat) (pi:Nat) (pC:List Value) (pq:yLN),v=.int .i64 ((workM s own (⟨sv,wi⟩:zQ) iv.toNat).2)/\Fresh W0.heap.size (pJ::pq::Ns)/\St W0 w' ((.box bk [.pointer<|some ⟨sb,0,none⟩,Sv ao own.length co,Sv eG eo cC,Sv pN pK pi] 86)::(.box sb [.int .i64 s.qP,Sv ap s.qA.length cp,Sv ar s.qB.length cr] 27)::(rr eG eo cC 49 16 pB)::(rr pN pK pi 77 4 pC)::ps) ((sF false Fp ap cp s.qA)::(sF false Fr ar cr s.qB)::(sF false Fo ao co own)::(qL true pJ pB ((workM s own (⟨sv,wi⟩:zQ) iv.toNat).1.qF))::(qL true pq pC ((workM s own (⟨sv,wi⟩:zQ) iv.toNat).1.zu))::Γ)):=by
 refine en Tryz.func108 Tryz.ntmps108 ?_
 have ug:=qO (H.get 0 rfl).1
 have th:=qO (H.get 1 rfl).1
 have sy:=qO (H.get 2 rfl).1
 obtain rfl:=H.xe (α:=zA) 2 rfl 3 rfl qj
 obtain rfl:=H.xe (α:=zk) 3 rfl 4 rfl qj
 have g1:=p0.sys
 have g2:=p0.len
 have g3:=p0.own
 have g4:=p0.few
 have l1:sv.length=n:=p1.len
 have l2:wi.length<=12:=p1.few
 have y1:jf s own n iv.toNat (sv[iv.toNat]!).qC/\jf s own n iv.toNat (sv[iv.toNat]!).qH:=p1.srv iv.toNat qf
 have y2:=y1.1.small p0
 have y3:=y2.got
 have y4:=y2.bags
 have y5:=y2.around
 have y0:=y1.1.rnd
 subst l1
 have p5:=p0.sys.1
 have p6:own.length=s.qA.length:=p0.len
 have p7:=p0.sys.1.2.1
 have p8:zF s=s.qA.length:=rfl
 have v1:=sview_ok p0 y1.1
 have v2:=sview_w s (sv[iv.toNat]!).qC
 obtain ⟨vs,DP⟩:∃ z,(⟨List.replicate s.qA.length true,((sv[iv.toNat]!).qC).qG,((sv[iv.toNat]!).qC).qE⟩:xh)=z:=⟨_,rfl⟩
 have v3:=v1
 rw [DP] at v3
 refine zcr<|sp (.int .i64 0)<|zjcc<|sq 2<|oF rfl<|oF rfl<|oL rfl (H.cell 0 rfl rfl)<|sp (.int .i64 iv) ?_
 obtain ⟨b1,rfl⟩:=H.jg 2 rfl qf
 refine oI rfl rfl<|oF rfl<|oF rfl ?_
 obtain ⟨Xk,Xi,lD,Qg,Qe,f8,zE,Bc,Ak,nL,nE,nI,ze,AW,Bg,sC,sE,sG,wQ,H⟩:=H.vV zg 2 rfl 3 rfl rfl iv.toNat qf
 refine oL rfl (H.xX 2 rfl (wQ 3 _ rfl) qf)<|zjn<|vk _ rfl (fun h4=>?_)<|fun h4=>?_
 ·refine zcr (sp (.int .i64 4)<|zjr<|t_r<|ret1 (.int .i64 4) rfl rfl ⟨_,rfl,?_⟩)
  rw [workR_4 ql]
  exact ⟨bZ,aF,cM,wi.length,bJ,bM,az,rfl,N,H.qY 4 11 (zR 0 4) (zR 6 5) (by simp only [List.length_cons,List.length_append];omega)<|by simp only [List.length_cons,List.length_append];omega⟩
 ·refine xk (t_n<|zcc<|sq 2<|oF rfl<|oF rfl<|oL rfl (H.cell 0 rfl rfl)<|sp (.int .i64 iv)<|oI rfl rfl<|oF rfl<|oF rfl<|oL rfl (H.xX 2 rfl (wQ 0 _ rfl) qf)<|sp (Bv ((((sv[iv.toNat]!).qC).qN:Int) == 100))<|zjn<|cE rfl (fun h5=>?_)<|fun h5=>?_)
  ·refine zcr (sp (.int .i64 3)<|zjr<|t_r<|ret1 (.int .i64 3) rfl rfl ⟨_,rfl,?_⟩)
   subst DP
   first | rw [workR_3 ql ql] | rw [workR_no p2.1 ql ql e2 i2 (j:=rf) qf ql]
   exact ⟨bZ,aF,cM,wi.length,bJ,bM,az,rfl,N,H.qY 4 11 (zR 0 4) (zR 6 5) (by simp only [List.length_cons,List.length_append];omega)<|by simp only [List.length_cons,List.length_append];omega⟩
  ·refine xk (t_n<|zcr<|sq 2<|oF rfl<|oF rfl<|oL rfl (H.cell 0 rfl rfl)<|sp (.int .i64 iv)<|oI rfl rfl<|oF rfl ?_)
   have sz9:=H.base.size
   have av9:=jB (H.ltN (L:=[aF,az]) [9,10])<|H.ltK<|K0.behind 11 rfl
   refine sw<|oc (l08Copy_ok _ ((sv[iv.toNat]!).qC) (fun r v hv=>H.xX (off:=0+(iv:Int).toNat * 16+0+r) 2 rfl (wQ r v hv) qf) (H.get 0 rfl).1 (H.get 1 rfl).1 (H.get 2 rfl).1 (H.get 3 rfl).1 (H.get 4 rfl).1 (H.get 5 rfl).1 qg) ?_
   rintro _ w7 ⟨fQ,arK,Qs,AR,Vk,yu,adD,yt,yo,axw,AI,bV,ac3,bU,ct,ai,eb,auV,ea,em,be,cG,ari,cJ,dz,aP,rfl,M,K⟩ _
   replace N:=N.merge sz9 av9 M
   replace H:=H.merge K M
   dsimp only [List.cons_append,List.nil_append] at H
   obtain rfl:=H.xe (α:=yLI) 0 rfl 0 rfl qj
   obtain rfl:=H.Qc 1 rfl
   obtain rfl:=H.rowNB 2 rfl
   obtain rfl:=H.xe (α:=yLI) 3 rfl 1 rfl qj
   obtain rfl:=H.xe (α:=yLL) 4 rfl 2 rfl qj
   obtain rfl:=H.xe (α:=yLL) 5 rfl 3 rfl qj
   refine sw<|xU H ti47 [.int .i64 0,Sv none 0 0,Sv none 0 0,Bv false,Sv none 0 0,Sv none 0 0,Sv none 0 0,Sv none 0 0] fun lT ZH H=>(sw<|zC H 0 [.int .i64 (((sv[iv.toNat]!).qC).qN),Sv fQ ((((sv[iv.toNat]!).qC).qG).length) Qs,Sv yu ((((sv[iv.toNat]!).qC).qE).length) yt,Bv (((sv[iv.toNat]!).qC).qQ),Sv yo ((((sv[iv.toNat]!).qC).vz).length) AI,Sv bV ((((sv[iv.toNat]!).qC).qJ).length) bU,Sv eb ((((sv[iv.toNat]!).qC).vJ).length) ea,Sv cG ((((sv[iv.toNat]!).qC).xP).length) cJ] sizeOf47 fun Ov H=>?_)
   try dsimp only [List.set] at H
   refine zjc<|sq 1<|sw<|zX #[.pointer<|some ⟨bk,0,none⟩,.pointer<|some ⟨lT,0,none⟩] rfl rfl call152<|en Tryz.func152 Tryz.ntmps152 ?_
   refine zcr<|sw<|xU H ti31 [Sv none 0 0,Sv none 0 0,Sv none 0 0] fun KE SS H=>zjn<|xH<|c_lateC 1 (fun ρ Rf=>∃ (xI:Env) (fh:yOA) (gX:Nat) (su:yOA) (sc:Nat) (IA:Nat) (j0:List Value) (cF:yLN),ρ=upd (upd (upd (upd xI 0<|.pointer<|some ⟨bk,0,none⟩) 4<|.pointer<|some ⟨KE,0,none⟩) 5<|.pointer<|some ⟨IA,0,none⟩) 17 (.agg #[Sv none 0 0,Sv fh ((((sv[iv.toNat]!).qC).qG).length) gX,Sv su ((((sv[iv.toNat]!).qC).qE).length) sc])/\Fresh W0.heap.size (cF::Vk::ai::be::aP::aF::az::Ns)/\St W0 Rf ((.box IA [Sv none 0 0,Sv none 0 0,Sv none 0 0] 31)::(rr su ((((sv[iv.toNat]!).qC).qE).length) sc 2 1 ((((sv[iv.toNat]!).qC).qE).map<|Value.int .i64))::(rr fh ((((sv[iv.toNat]!).qC).qG).length) gX 24 1 j0)::(.box KE [Sv none 0 0,Sv none 0 0,Sv none 0 0] 31)::(.box lT [.int .i64 (((sv[iv.toNat]!).qC).qN),Sv fQ ((((sv[iv.toNat]!).qC).qG).length) Qs,Sv yu ((((sv[iv.toNat]!).qC).qE).length) yt,Bv (((sv[iv.toNat]!).qC).qQ),Sv yo ((((sv[iv.toNat]!).qC).vz).length) AI,Sv bV ((((sv[iv.toNat]!).qC).qJ).length) bU,Sv eb ((((sv[iv.toNat]!).qC).vJ).length) ea,Sv cG ((((sv[iv.toNat]!).qC).xP).length) cJ] 47)::(rr fQ ((((sv[iv.toNat]!).qC).qG).length) Qs 24 1 AR)::(rr yu ((((sv[iv.toNat]!).qC).qE).length) yt 2 1 ((((sv[iv.toNat]!).qC).qE).map<|Value.int .i64))::(rr yo ((((sv[iv.toNat]!).qC).vz).length) AI 4 1 ((((sv[iv.toNat]!).qC).vz).map<|Value.bool))::(rr bV ((((sv[iv.toNat]!).qC).qJ).length) bU 24 1 ct)::(rr eb ((((sv[iv.toNat]!).qC).vJ).length) ea 29 1 em)::(rr cG ((((sv[iv.toNat]!).qC).xP).length) cJ 29 1 dz)::(.box bk [.pointer<|some ⟨sb,0,none⟩,Sv ao own.length co,Sv (some ⟨b1,0,none⟩) sv.length cC,Sv cM wi.length bJ] 86)::(.box sb [.int .i64 s.qP,Sv ap s.qA.length cp,Sv ar s.qB.length cr] 27)::(rr (some ⟨b1,0,none⟩) sv.length cC 49 16 bZ)::(rr cM wi.length bJ 77 4 bM)::ps) ((qL true cF j0 (((sv[iv.toNat]!).qC).qG))::(qL true Vk AR (((sv[iv.toNat]!).qC).qG))::(qL true ai ct (((sv[iv.toNat]!).qC).qJ))::(qL true be em (((sv[iv.toNat]!).qC).vJ))::(qL true aP dz (((sv[iv.toNat]!).qC).xP))::(sF false Fp ap cp s.qA)::(sF false Fr ar cr s.qB)::(sF false Fo ao co own)::(qL true aF bZ sv)::(qL true az bM wi)::Γ)) rfl H [0,1,2,3,4,5,6,7,8,9,10,11] [0,1,2,3,4,5,6,7,8,9,10,11,12,13,14] (fun H=>?_) ?_
   ·dsimp only [jR,yE]
    have S:=H.zK (zR 0 12)<|zR 0 15
    refine rtl 0 S ?_
    refine rtl 1 S ?_
    refine tF 2 rfl rfl S ?_
    refine tL 3 rfl rfl (fun _ h=>h.cell 1 rfl rfl) S ?_
    refine rtl 5 S ?_
    refine rtl 6 S ?_
    refine tF 7 rfl rfl S ?_
    refine tL 8 rfl rfl (fun _ h=>h.cell 1 rfl rfl) S ?_
    refine jw [4,11] qh qm<|jT rfl ?_<|jT rfl ?_ jy
    ·obtain ⟨G31,ay8,Tb⟩:=H.rowIsR (α:=yLI) 2 rfl 0 rfl qj
     have atw:=H.base.size
     have as7:=jB (H.ltN (L:=[Vk,ai,be,aP,aF,az]) [0,1,2,3,13,14])<|H.ltK<|K0.behind 15 rfl
     refine oc (Qn _ (((sv[iv.toNat]!).qC).qG) Tb qg) ?_
     rintro _ P7 ⟨Bb,at1,rM,acE,LT,rfl,M,K⟩ _
     replace N:=N.merge atw as7 M
     replace H:=H.merge K M
     dsimp only [List.cons_append,List.nil_append] at H
     obtain rfl:=H.xe (α:=yLI) 0 rfl 0 rfl qj
     refine ⟨H.pick (zR 1 12)<|zR 1 15,(jw [9,11] qh qm<|jT rfl ?_<|jT rfl ?_ jy)⟩
     ·obtain ⟨G40,aDG,h42⟩:=H.rowIsI 4 rfl
      have aFK:=H.base.size
      have aFY:=jB (H.ltN (L:=[LT,Vk,ai,be,aP,aF,az]) [0,1,2,3,4,14,15])<|H.ltK<|K0.behind 16 rfl
      refine oc (X6 _ (((sv[iv.toNat]!).qC).qE) h42 qg) ?_
      rintro v48 S8 r48 x47
      replace H:=H.zI x47 r48
      obtain ⟨Us,YF,rfl,aFl,aJQ⟩:=H.jW 0 rfl
      refine ⟨H.pick (zR 2 12)<|zR 1 15,(jw [10,11] qh qm<|jT rfl ?_<|jT rfl ?_ jy)⟩
      ·refine jb [Sv none 0 0,Sv Bb ((((sv[iv.toNat]!).qC).qG).length) rM,Sv Us ((((sv[iv.toNat]!).qC).qE).length) YF] [(1,Sv Bb ((((sv[iv.toNat]!).qC).qG).length) rM),(2,Sv Us ((((sv[iv.toNat]!).qC).qE).length) YF)] (⟨H.pick (zR 2 12)<|zR 1 15,(ro 11 rfl<|xU H ti31 [Sv none 0 0,Sv none 0 0,Sv none 0 0] fun b53 w54 H=>⟨H.pick (zR 3 12)<|zR 1 15,(xy qh<|?_)⟩)⟩)
       exact meet ⟨_,Bb,rM,Us,YF,b53,acE,LT,uE4,N,H.qY 15 16 (zR 0 15) (0::1::2::3::4::zR 11 5) (by simp only [List.length_cons,List.length_append];omega)<|by simp only [List.length_cons,List.length_append];omega⟩
      ·refine xU H ti31 [Sv none 0 0,Sv none 0 0,Sv none 0 0] fun PU w56 H=>⟨H.pick (zR 3 12)<|zR 1 15,(ro 10 rfl<|jb [Sv none 0 0,Sv Bb ((((sv[iv.toNat]!).qC).qG).length) rM,Sv Us ((((sv[iv.toNat]!).qC).qE).length) YF] [(1,Sv Bb ((((sv[iv.toNat]!).qC).qG).length) rM),(2,Sv Us ((((sv[iv.toNat]!).qC).qE).length) YF)]<|⟨H.pick (zR 3 12)<|zR 1 15,(xy qh<|?_)⟩)⟩
       exact meet ⟨_,Bb,rM,Us,YF,PU,acE,LT,uE4,N,H.qY 15 16 (zR 0 15) (0::1::2::3::4::zR 11 5) (by simp only [List.length_cons,List.length_append];omega)<|by simp only [List.length_cons,List.length_append];omega⟩
     ·refine xU H ti31 [Sv none 0 0,Sv none 0 0,Sv none 0 0] fun b57 w58 H=>⟨H.pick (zR 2 12)<|zR 1 15,(ro 9 rfl ?_)⟩
      obtain ⟨G59,aub,h61⟩:=H.rowIsI 5 rfl
      have aEW:=H.base.size
      have aKn:=jB (H.ltN (L:=[LT,Vk,ai,be,aP,aF,az]) [0,1,2,3,4,14,15])<|H.ltK<|K0.behind 16 rfl
      refine oc (X6 _ (((sv[iv.toNat]!).qC).qE) h61 qg) ?_
      rintro v67 w65 r67 x66
      replace H:=H.zI x66 r67
      obtain ⟨a68,c69,rfl,aG4,aF3⟩:=H.jW 0 rfl
      refine ⟨H.pick (zR 3 12)<|zR 1 15,(ro 10 rfl<|jb [Sv none 0 0,Sv Bb ((((sv[iv.toNat]!).qC).qG).length) rM,Sv a68 ((((sv[iv.toNat]!).qC).qE).length) c69] [(1,Sv Bb ((((sv[iv.toNat]!).qC).qG).length) rM),(2,Sv a68 ((((sv[iv.toNat]!).qC).qE).length) c69)]<|⟨H.pick (zR 3 12)<|zR 1 15,(xy qh<|?_)⟩)⟩
      exact meet ⟨_,Bb,rM,a68,c69,b57,acE,LT,uE4,N,H.qY 15 16 (1::0::zR 2 13) (0::1::2::3::4::zR 11 5) (by simp only [List.length_cons,List.length_append];omega)<|by simp only [List.length_cons,List.length_append];omega⟩
    ·refine xU H ti31 [Sv none 0 0,Sv none 0 0,Sv none 0 0] fun b72 w73 H=>⟨H.pick (zR 1 12)<|zR 0 15,(ro 4 rfl ?_)⟩
     obtain ⟨G74,ahs,h76⟩:=H.rowIsR (α:=yLI) 3 rfl 0 rfl qj
     have abI:=H.base.size
     have abr:=jB (H.ltN (L:=[Vk,ai,be,aP,aF,az]) [0,1,2,3,13,14])<|H.ltK<|K0.behind 15 rfl
     refine oc (Qn _ (((sv[iv.toNat]!).qC).qG) h76 qg) ?_
     rintro _ w78 ⟨aal,aHL,abU,awv,aph,rfl,M,K⟩ _
     replace N:=N.merge abI abr M
     replace H:=H.merge K M
     dsimp only [List.cons_append,List.nil_append] at H
     obtain rfl:=H.xe (α:=yLI) 0 rfl 0 rfl qj
     refine ⟨H.pick (zR 2 12)<|zR 1 15,(ro 9 rfl ?_)⟩
     obtain ⟨G83,aJ2,h85⟩:=H.rowIsI 5 rfl
     have aGk:=H.base.size
     have aKG:=jB (H.ltN (L:=[aph,Vk,ai,be,aP,aF,az]) [0,1,2,3,4,14,15])<|H.ltK<|K0.behind 16 rfl
     refine oc (X6 _ (((sv[iv.toNat]!).qC).qE) h85 qg) ?_
     rintro v91 w89 r91 x90
     replace H:=H.zI x90 r91
     obtain ⟨a92,c93,rfl,aHo,aEh⟩:=H.jW 0 rfl
     refine ⟨H.pick (zR 3 12)<|zR 1 15,(ro 10 rfl<|jb [Sv none 0 0,Sv aal ((((sv[iv.toNat]!).qC).qG).length) abU,Sv a92 ((((sv[iv.toNat]!).qC).qE).length) c93] [(1,Sv aal ((((sv[iv.toNat]!).qC).qG).length) abU),(2,Sv a92 ((((sv[iv.toNat]!).qC).qE).length) c93)]<|⟨H.pick (zR 3 12)<|zR 1 15,(xy qh<|?_)⟩)⟩
     exact meet ⟨_,aal,abU,a92,c93,b72,awv,aph,uE4,N,H.qY 15 16 (2::0::1::zR 3 12) (0::1::2::3::4::zR 11 5) (by simp only [List.length_cons,List.length_append];omega)<|by simp only [List.length_cons,List.length_append];omega⟩
   ·clear H N
    rintro ρ w96 ⟨xI,fh,gX,su,sc,IA,j0,cF,rfl,N,H⟩
    refine sw<|zC H 0 [Sv none 0 0,Sv fh ((((sv[iv.toNat]!).qC).qG).length) gX,Sv su ((((sv[iv.toNat]!).qC).qE).length) sc] sizeOf31 fun w97 H=>?_
    try dsimp only [List.set] at H
    refine zjcc<|sp (.int .i64 0)<|zjn<|xg ?_
    replace H:=H.nilRowB 4
    refine zU ((fun Z0 Z1 Z2 Z3 Z4 Z5 Z6 Z7 Z8 Z9 fH fZ iw kH mh mj sf Aw DA IJ J5 RN So Z23=>fun m' ρ w98=>∃ (xI:Env) (c:Nat) (jP:yOA) (vY:Nat) (jO:Nat) (gp:List Bool),ρ=upd (upd (upd (upd xI 0<|.pointer<|some ⟨bk,0,none⟩) 4<|.pointer<|some ⟨KE,0,none⟩) 5<|.pointer<|some ⟨IA,0,none⟩) 6 (.int .i64 c)/\gp=List.replicate c true/\((c:Int)<=own.length)/\m' =(own.length - (c:Int)).toNat/\Fresh W0.heap.size (cF::Vk::ai::be::aP::aF::az::Ns)/\St W0 w98 ((rr jP vY jO 4 1<|gp.map<|Value.bool)::(.box IA [Sv jP vY jO,Sv fh ((((sv[iv.toNat]!).qC).qG).length) gX,Sv su ((((sv[iv.toNat]!).qC).qE).length) sc] 31)::Z0::Z1::Z2::Z3::Z4::Z5::Z6::Z7::Z8::Z9::fH::fZ::iw::kH::ps) (mh::mj::sf::Aw::DA::IJ::J5::RN::So::Z23::Γ)) _ _ _ _ _ _ _ _ _ _ _ _ _ _ _ _ _ _ _ _ _ _ _ _) ((own.length - (0:Int)).toNat) ⟨_,0,none,0,0,[],uE4,(by rfl),qf,rfl,N,H⟩ ?_
    clear H N
    rintro m' ρ w99 ⟨xI,c,jP,vY,jO,gp,rfl,rfl,i0,rfl,N,H⟩
    have D3:=H.rowNB 0 rfl
    have rl:(List.replicate c true).length=c:=List.length_replicate
    refine zcc<|sp (.int .i64 c)<|sq 2<|oF rfl<|oL rfl (H.cell 12 rfl rfl)<|oN rfl<|sq 1<|zjn<|cD rfl (fun Ml=>?_)<|fun Ml=>?_
    ·refine xk (t_n<|xH<|xg<|xZ<|oF rfl<|oL rfl (H.cell 1 rfl rfl)<|sw<|zx H underlying28 ti4 [Bv true] fun Nt agP H=>sw<|zJ H 1 rfl 0 rfl underlying28 ti4 rfl qj rfl rfl rfl qw qp qf fun ayO avw ajW H=>?_)
     rw [snocB] at H
     try dsimp only [List.set] at H
     refine oF rfl<|sw<|xO H 2 [Sv ayO (vY+1) avw,Sv fh ((((sv[iv.toNat]!).qC).qG).length) gX,Sv su ((((sv[iv.toNat]!).qC).qE).length) sc] sizeOf28 fun Ln H=>?_
     try dsimp only [List.set] at H
     refine xW<|b_n<|t_n<|xZ<|sp (.int .i64 c)<|sw<|zV c 1 rfl rfl qf<|sq 1<|xW<|xq (m' :=(own.length - ((c+1):Int)).toNat) qf ⟨_,c+1,_,_,_,_,uE4,?_,?_,rfl,N,H.qY 17 10 (zR 1 16) (zR 0 10) (by simp only [List.length_cons,List.length_append];omega)<|by simp only [List.length_cons,List.length_append];omega⟩
     ·exact (List.replicate_succ' ..).symm
     ·omega
    ·obtain rfl:c=s.qA.length:=by omega
     refine zx4<|zcr<|sw<|zi [Sv jP vY jO,Sv fh ((((sv[iv.toNat]!).qC).qG).length) gX,Sv su ((((sv[iv.toNat]!).qC).qE).length) sc] isAgg31 sizeOf31 rfl (qK (H.cells 1 rfl) 0 3)<|sw<|zC H 4 [Sv jP vY jO,Sv fh ((((sv[iv.toNat]!).qC).qG).length) gX,Sv su ((((sv[iv.toNat]!).qC).qE).length) sc] sizeOf31 fun aaR H=>?_
     try dsimp only [List.set] at H
     refine zjr<|retC H 4 rfl rfl isAgg31 sizeOf31 rfl ⟨_,rfl,?_⟩
     replace H:=H.erases [4,1]
     dsimp only [zD,List.eraseIdx,List.set] at H
     refine sw<|xU H ti31 [Sv none 0 0,Sv none 0 0,Sv none 0 0] fun f5 awh H=>sw<|zC H 0 [Sv jP vY jO,Sv fh ((((sv[iv.toNat]!).qC).qG).length) gX,Sv su ((((sv[iv.toNat]!).qC).qE).length) sc] sizeOf31 fun aiE H=>?_
     try dsimp only [List.set] at H
     refine zjc<|sw<|jk H underlying45 ti29 fun Jg Zg H=>sq 1<|zjcc<|sp (.int .i64 0)<|zjn<|xg ?_
     replace H:=H.boxRow 0 rfl 1 0 rfl qj
     try dsimp only [List.set] at H
     replace H:=H.jZ (α:=yLL)
     refine zU ((fun Z0 Z1 Z2 Z3 Z4 Z5 Z6 Z7 Z8 Z9 fH fZ iw kH mh mj sf Aw DA IJ J5 RN So=>fun m' ρ abz=>∃ (xI:Env) (fm:yOA) (QD:Nat) (Q4:Nat) (now:List yLL) (pG:List Value) (fX:yLN) (mg:Nat) (QK:yOA) (QE:Nat) (QI:Nat) (NQ:List Bool),ρ=upd (upd (upd (upd (upd (upd xI 0<|.pointer<|some ⟨bk,0,none⟩) 1<|.int .i64 iv) 5<|.pointer<|some ⟨lT,0,none⟩) 6<|.pointer<|some ⟨f5,0,none⟩) 7<|Sv fm QD Q4) 8 (.int .i64 mg)/\now=List.replicate mg (ji s<|s.qA.length+1)/\NQ=gotTo iv mg/\((mg:Int)<=sv.length)/\m' =(sv.length - (mg:Int)).toNat/\Fresh W0.heap.size (cF::Vk::ai::be::aP::aF::az::fX::Ns)/\St W0 abz ((rr fm QD Q4 29 1 pG)::Z0::Z1::Z2::Z3::(.box lT [.int .i64 (((sv[iv.toNat]!).qC).qN),Sv fQ ((((sv[iv.toNat]!).qC).qG).length) Qs,Sv yu ((((sv[iv.toNat]!).qC).qE).length) yt,Bv (((sv[iv.toNat]!).qC).qQ),Sv QK QE QI,Sv bV ((((sv[iv.toNat]!).qC).qJ).length) bU,Sv eb ((((sv[iv.toNat]!).qC).vJ).length) ea,Sv cG ((((sv[iv.toNat]!).qC).xP).length) cJ] 47)::Z4::Z5::(rr QK QE QI 4 1<|NQ.map<|Value.bool)::Z6::Z7::Z8::Z9::fH::fZ::iw::ps) ((qL true fX pG now)::kH::mh::mj::sf::Aw::DA::IJ::J5::RN::So::Γ)) _ _ _ _ _ _ _ _ _ _ _ _ _ _ _ _ _ _ _ _ _ _ _) ((sv.length - (0:Int)).toNat) ⟨_,(some ⟨Jg,0,none⟩),0,0,([]:List yLL),[],[],0,yo,(((sv[iv.toNat]!).qC).vz).length,AI,((sv[iv.toNat]!).qC).vz,uE6,(by rfl),(by exact (y1.1.rest ql).1),qf,rfl,(N.emp.qY 8 [1,2,3,4,5,6,7,0]<|by simp only [List.length_cons,List.length_append];omega),H⟩ ?_
     clear H N
     rintro m' ρ Pv ⟨xI,fm,QD,Q4,now,pG,fX,mg,QK,QE,QI,NQ,rfl,rfl,rfl,i0,rfl,N,H⟩
     have vo:=H.xe (α:=yLL) 0 rfl 0 rfl qj
     have akF:=H.rowNB 8 rfl
     have zl:(List.replicate mg<|ji s<|s.qA.length+1).length=mg:=List.length_replicate
     have gl:=gotTo_len iv mg
     refine zcc<|sq 3<|oF rfl<|oF rfl<|oL rfl (H.cell 12 rfl rfl)<|oN rfl<|sq 1<|zjn<|cD rfl (fun acU=>?_)<|fun acU=>?_
     ·refine xk (t_n<|xH<|xg<|zcr<|sq 3<|oF rfl<|oL rfl (H.cell 12 rfl rfl) ?_)
      have MP:=H.base.size
      have Ox:=jB (H.ltN (L:=[cF,Vk,ai,be,aP,aF,az,fX]) [1,2,3,4,5,9,10,0])<|H.ltK<|K0.behind 11 rfl
      refine sw<|oc (l08Zeros_ok _ s (qK (H.cells 13 rfl) 0 3) (H.get 6 rfl).1 (H.get 7 rfl).1 qg) ?_
      rintro _ ZK ⟨Pb,afH,Pm,Md,nS,rfl,M,K⟩ _
      replace N:=N.merge MP Ox M
      replace H:=H.merge K M
      dsimp only [List.cons_append,List.nil_append] at H
      obtain rfl:=H.xe (α:=yLI) 0 rfl 0 rfl qj
      refine sw<|zx H underlying45 ti29 [Sv Pb ((ji s<|s.qA.length+1).length) Pm] fun aGL Lu H=>?_
      have H0:=H
      obtain ⟨afX,W3,aBo,H⟩:=H.vK (α:=yLI) 1 rfl 0 rfl qj
      replace N:Fresh W0.heap.size (afX::cF::Vk::ai::be::aP::aF::az::fX::Ns):=Fresh.ice N H0 1 W3.1 W3.2<|fun F hF b hb=>(List.mem_append.1<|show F∈[cF,Vk,ai,be,aP,aF,az,fX]++Ns from hF).elim (fun h=>(H0.vg (L:=[cF,Vk,ai,be,aP,aF,az,fX]) [2,3,4,5,6,10,11,1]) F h b hb) fun h=>H0.jH (K0.behind 12 rfl) F h b hb
      clear H0
      try dsimp only [List.set] at H
      refine sw<|zJ H 2 rfl 0 rfl underlying45 ti29 rfl qj rfl rfl rfl qw qp qf fun ak8 anf ahw H=>?_
      try dsimp only [List.set] at H
      replace H:=H.QR 2 rfl 0 rfl
      replace N:Fresh W0.heap.size ((fX++afX)::cF::Vk::ai::be::aP::aF::az::Ns):=(N.qY 9 (8::zR 0 8)<|by simp only [List.length_cons,List.length_append];omega).join
      refine sq 1<|zjn<|xZ<|oF rfl<|oL rfl (H.cell 7 rfl rfl)<|sq 1<|sp (.int .i64 iv)<|sq 1<|sw<|zx H underlying28 ti4 [Bv ((mg:Int) == iv)] fun JV aGF H=>sw<|zJ H 11 rfl 0 rfl underlying28 ti4 rfl qj rfl rfl rfl qw qp qf fun awW aux SK H=>?_
      rw [snocB] at H
      try dsimp only [List.set] at H
      refine oF rfl<|sw<|xO H 8 [.int .i64 (((sv[iv.toNat]!).qC).qN),Sv fQ ((((sv[iv.toNat]!).qC).qG).length) Qs,Sv yu ((((sv[iv.toNat]!).qC).qE).length) yt,Bv (((sv[iv.toNat]!).qC).qQ),Sv awW (QE+1) aux,Sv bV ((((sv[iv.toNat]!).qC).qJ).length) bU,Sv eb ((((sv[iv.toNat]!).qC).vJ).length) ea,Sv cG ((((sv[iv.toNat]!).qC).xP).length) cJ] sizeOf28 fun azd H=>?_
      try dsimp only [List.set] at H
      refine xW<|b_n<|t_n<|xZ<|sq 1<|sw<|zV mg 1 rfl rfl qf<|sq 1<|xW<|xq (m' :=(sv.length - ((mg+1):Int)).toNat) qf ⟨_,_,_,_,_,_,_,mg+1,_,_,_,_,uE6,?_,?_,?_,rfl,(N.qY 8 [1,2,3,4,5,6,7,0]<|by simp only [List.length_cons,List.length_append];omega),H.qY 19 14 (zR 3 16) (0::zR 4 10) (by simp only [List.length_cons,List.length_append];omega)<|by simp only [List.length_cons,List.length_append];omega⟩
      ·exact (List.replicate_succ' ..).symm
      ·exact gotTo_snoc _ _
      ·omega
     ·refine zx4 (zcc<|sp (.int .i64 0)<|zjn<|xg<|zU ((fun Z0 Z1 Z2 Z3 Z4 Z5 Z6 Z7 Z8 Z9 fH fZ iw kH mh mj sf Aw DA IJ J5 RN So=>fun m' ρ SJ=>∃ (xI:Env) (bz:Nat) (eh:List yLL) (g0:List Value) (yB:yLN) (aV:yLL) (QV:List Value) (vU:yLN),ρ=upd (upd (upd (upd (upd (upd xI 0<|.pointer<|some ⟨bk,0,none⟩) 1<|.int .i64 iv) 5<|.pointer<|some ⟨lT,0,none⟩) 6<|.pointer<|some ⟨f5,0,none⟩) 7<|Sv fm QD Q4) 9 (.int .i64 bz)/\aV=jD s own (sv[iv.toNat]!).qC iv bz/\((bz:Int)<=own.length)/\(eh=nowTo s vs own iv sv.length bz)/\m' =(own.length - (bz:Int)).toNat/\Fresh W0.heap.size (cF::ai::be::aP::aF::az::yB::vU::Ns)/\St W0 SJ ((rr fm QD Q4 29 1 g0)::Z0::Z1::Z2::Z3::Z4::(rr fQ ((((sv[iv.toNat]!).qC).qG).length) Qs 24 1 QV)::Z5::Z6::Z7::Z8::Z9::fH::fZ::iw::kH::ps) ((qL true yB g0 eh)::mh::(qL true vU QV aV)::mj::sf::Aw::DA::IJ::J5::RN::So::Γ)) _ _ _ _ _ _ _ _ _ _ _ _ _ _ _ _ _ _ _ _ _ _ _) ((own.length - (0:Int)).toNat) ⟨_,0,(List.replicate mg<|ji s<|s.qA.length+1),pG,fX,((sv[iv.toNat]!).qC).qG,AR,Vk,uE6,(by rfl),qf,(by exact rep_zero qf),rfl,(N.qY 8 [0,2,3,4,5,6,7,1]<|by simp only [List.length_cons,List.length_append];omega),H⟩ ?_)
      clear H N
      rintro m' ρ LW ⟨xI,bz,eh,g0,yB,aV,QV,vU,rfl,rfl,i0,i2,rfl,N,H⟩
      have vo:=H.xe (α:=yLL) 0 rfl 0 rfl qj
      have rE:=H.xe (α:=yLI) 6 rfl 2 rfl qj
      refine zcc<|sq 3<|oF rfl<|oL rfl (H.cell 12 rfl rfl)<|oN rfl<|sq 1<|zjn<|cD rfl (fun ayK=>?_)<|fun ayK=>?_
      ·obtain ⟨u1,u2⟩:=sb_row p0 p2.1 y1.1 (c:=bz) qf
       obtain ⟨u3,u4⟩:=sb_took p0 y1.1 bz
       have sl:=sb_len (iv:=iv) y1.1 bz
       rw [DP] at u3 u4
       have pl:=puts_len p0 v3 bz
       refine xk<|t_n<|xH<|xg<|zcc<|sq 2<|oF rfl<|oL rfl (H.cell 12 rfl rfl)<|sq 1 ?_
       obtain ⟨mi,ml,rfl⟩:=H.addr 8 rfl qf
       refine oI rfl rfl<|oL rfl (H.jd 8 rfl bz qf)<|sp (.int .i64 iv)<|sq 1<|zjn<|vk _ rfl (fun NJ=>?_)<|fun NJ=>?_
       ·replace NJ:=bne_iff_ne.1 NJ
        refine c_exit<|t_x<|b_x<|t_n<|xZ<|sq 1<|sw<|zV bz 1 rfl rfl qf<|sq 1<|xW<|xq (m' :=(own.length - ((bz+1):Int)).toNat) qf ⟨_,bz+1,_,_,_,_,_,_,uE6,?_,?_,?_,rfl,N,H⟩
        ·first | (subst DP;exact (sBags_yes ql).symm) | exact (sBags_no ql).symm
        ·omega
        ·first | exact i2.trans (nowTo_no ‹_›).symm | exact now_end i3 e3 ‹_›
       ·replace NJ:=xR NJ
        refine xk<|t_n<|zcr<|sq 2<|oF rfl<|oL rfl (H.cell 12 rfl rfl)<|sq 1 ?_
        obtain ⟨j9,ML,awj⟩:=H.rowIsB 2 rfl
        obtain ⟨rq,aoi,A4⟩:=H.rowIsR (α:=yLI) 4 rfl 1 rfl qj
        obtain ⟨aHR,aCF,ayW⟩:=H.rowIsI 3 rfl
        have amk:=H.base.size
        have aeD:=jB (H.ltN (L:=[cF,ai,be,aP,aF,az,yB,vU]) [1,3,4,5,9,10,0,2])<|H.ltK<|K0.behind 11 rfl
        refine sw<|oc (l08Puts_ok _ s (⟨(List.replicate s.qA.length true),(((sv[iv.toNat]!).qC).qG),(((sv[iv.toNat]!).qC).qE)⟩:xh) bz (qK (H.cells 13 rfl) 0 3) (H.get 6 rfl).1 (H.get 7 rfl).1 (by have hz:=(qK (H.cells 1 rfl) 0 3);rw [ML] at hz;exact hz) (ML▸awj) A4 ayW qg qg qg qg) ?_
        rintro _ au9 ⟨mW,atT,nu,abE,avJ,eM,dS,cY,rfl,M,K⟩ _
        replace N:=N.merge amk aeD M
        replace H:=H.merge K M
        dsimp only [List.cons_append,List.nil_append] at H
        obtain rfl:=H.Qc 0 rfl
        obtain rfl:=H.xe (α:=yLI) 1 rfl 0 rfl qj
        refine sq 5<|zjn<|xH ?_
        rw [DP] at H ⊢
        refine zY 2 rfl H [0,1,2,3,4,5,6,7,8,9,10,11,12,13,14,15,16,17] [0,1,2,3,4,5,6,7,8,9,10,11] fun H=>?_
        dsimp only [jR,yE]
        have S:=H.zK (zR 0 18)<|zR 0 12
        refine tF 0 rfl rfl S ?_
        refine tL 1 rfl rfl (fun _ h=>h.cell 7 rfl rfl) S ?_
        refine rtl 2 S ?_
        refine tF 3 rfl rfl S ?_
        refine tL 4 rfl rfl (fun _ h=>h.cell 7 rfl rfl) S ?_
        refine rtl 5 S ?_
        obtain ⟨lK,rfl⟩:=H.jg 8 rfl qf
        have S:=H.zK (zR 0 18)<|zR 0 12
        refine tI 6 rfl rfl rfl S ?_
        refine rtl 8 S ?_
        refine ro 7 rfl ?_
        obtain ⟨avQ,axW,mH,aoN,H⟩:=H.yC 8 rfl 3 rfl (iv:=bz) bz qf qf
        refine zB (Sv avQ (((jD s own (sv[iv.toNat]!).qC iv bz)[bz]!).length) axW) isAgg24 rfl ((H.xX 8 rfl aoN qf))<|⟨H.pick (zR 0 18)<|zR 1 12,(ro 9 rfl ?_)⟩
        obtain ⟨ss,ani,awn⟩:=H.rowIsI 0 rfl
        have aBm:=H.base.size
        have azE:=jB (H.ltN (L:=[cY,cF,ai,be,aP,aF,az,yB,vU]) [1,3,5,6,7,11,12,2,4])<|H.ltK<|K0.behind 13 rfl
        refine oc (Qu _ ((jD s own (sv[iv.toNat]!).qC iv bz)[bz]!) (yF s (xw s vs) bz s.qB.length) (-1) (H.get 0 rfl).1 awn qg qg qg) ?_
        rintro aJE ath awD atP
        replace H:=H.zI atP awD
        obtain ⟨avL,av4,rfl,aC7,azX⟩:=H.jW 0 rfl
        refine ⟨H.pick (zR 1 18)<|zR 1 12,(xy qh<|xM<|oI rfl rfl ?_)⟩
        obtain ⟨aHx,N,aCx,H⟩:=H.ve 0 rfl N<|fun F hF b hb=>(List.mem_append.1<|show F∈[cY,cF,ai,be,aP,aF,az,yB,vU]++Ns from hF).elim (fun h=>(H.vg (L:=[cY,cF,ai,be,aP,aF,az,yB,vU]) [1,3,5,6,7,11,12,2,4]) F h b hb) fun h=>H.jH (K0.behind 13 rfl) F h b hb
        try dsimp only [List.set] at H
        refine sw<|yZ true H 9 rfl 5 rfl (Sv avL ((vS ((jD s own (sv[iv.toNat]!).qC iv bz)[bz]!) (yF s (xw s vs) bz s.qB.length) (-1)).length) av4) 0 rfl rfl sizeOf24 rfl rfl (i:=bz) qf qf qm fun aFC f7 gb ao2 H=>?_
        replace N:Fresh W0.heap.size (gb::cY::cF::ai::be::aP::aF::az::yB::Ns):=(N.qY 10 (9::zR 0 9)<|by simp only [List.length_cons,List.length_append];omega).repl ao2
        try dsimp only [List.set] at H
        refine zjc<|sp (.int .i64 0)<|zjn<|xg<|zU ((fun Z0 Z1 Z2 Z3 Z4 Z5 Z6 Z7 Z8 Z9 fH fZ iw kH mh mj sf Aw DA IJ J5 RN So Z23 Z24 Z25 Z26 Z27=>fun m' ρ ZF=>∃ (xI:Env) (x:Nat) (aJ:List yLL) (yz:List Value) (jC:yLN),ρ=upd (upd (upd (upd (upd (upd (upd (upd xI 0<|.pointer<|some ⟨bk,0,none⟩) 1<|.int .i64 iv) 5<|.pointer<|some ⟨lT,0,none⟩) 6<|.pointer<|some ⟨f5,0,none⟩) 7<|Sv fm QD Q4) 9<|.int .i64 bz) 11<|Sv abE ((jU s vs (xw s vs) bz).length) eM) 12 (.int .i64 x)/\((x:Int)<=((jU s vs (xw s vs) bz).length))/\(aJ=addTo own (jU s vs (xw s vs) bz) (nowTo s vs own iv sv.length bz) x)/\m' =(((jU s vs (xw s vs) bz).length) - (x:Int)).toNat/\Fresh W0.heap.size (gb::cY::cF::ai::be::aP::aF::az::jC::Ns)/\St W0 ZF (Z0::Z1::(rr fm QD Q4 29 1 yz)::Z2::Z3::Z4::Z5::Z6::Z7::Z8::Z9::fH::fZ::iw::kH::mh::mj::sf::ps) (Aw::DA::(qL true jC yz aJ)::IJ::J5::RN::So::Z23::Z24::Z25::Z26::Z27::Γ)) _ _ _ _ _ _ _ _ _ _ _ _ _ _ _ _ _ _ _ _ _ _ _ _ _ _ _ _) ((((jU s vs (xw s vs) bz).length) - (0:Int)).toNat) ⟨_,0,eh,g0,yB,uE8,qf,(by exact i2),rfl,N,H.qY 19 15 (zR 1 18) (0::3::4::5::zR 7 8) (by simp only [List.length_cons,List.length_append];omega)<|by simp only [List.length_cons,List.length_append];omega⟩ ?_
        clear H N
        rintro m' ρ at2 ⟨xI,x,aJ,yz,jC,rfl,i0,i3,rfl,N,H⟩
        have vo:=H.xe (α:=yLL) 2 rfl 2 rfl qj
        refine zcc<|sp (.int .i64 x)<|sq 1<|oN rfl<|sq 1<|zjn<|cD rfl (fun axN=>?_)<|fun axN=>?_
        ·have o1:=p0.own.at (p:=x) qf
         refine xk<|t_n<|xH<|xg<|zcr<|sq 1<|sp (.int .i64 x) ?_
         have H1:=H.yw 18 12 [14,0,1,2,3,4,5,6,7,8,9,10,11,12,13,15,16,17] [9,0,1,2,3,4,5,6,7,8,10,11] (by simp only [List.length_cons,List.length_append];omega)<|by simp only [List.length_cons,List.length_append];omega
         have N1:Fresh _ (gb::cY::cF::ai::be::aP::aF::az::jC::Ns):=N
         have K1:Kept (Ns) ((qL true gb f7 ((jD s own (sv[iv.toNat]!).qC iv bz).set bz<|vS ((jD s own (sv[iv.toNat]!).qC iv bz)[bz]!) (yF s (xw s vs) bz s.qB.length) (-1)))::(qL true cY dS<|jU s vs (xw s vs) bz)::(qL true jC yz aJ)::(qL true cF j0 (((sv[iv.toNat]!).qC).qG))::(qL true ai ct (((sv[iv.toNat]!).qC).qJ))::(qL true be em (((sv[iv.toNat]!).qC).vJ))::(qL true aP dz (((sv[iv.toNat]!).qC).xP))::(sF false Fp ap cp s.qA)::(sF false Fr ar cr s.qB)::(qL true aF bZ sv)::(qL true az bM wi)::Γ):=K0.behind 11 rfl
         replace K1:=K1.cons (F:=jC) 2 rfl rfl
         replace K1:=K1.cons (F:=az) 10 rfl rfl
         replace K1:=K1.cons (F:=aF) 9 rfl rfl
         replace K1:=K1.cons (F:=aP) 6 rfl rfl
         replace K1:=K1.cons (F:=be) 5 rfl rfl
         replace K1:=K1.cons (F:=ai) 4 rfl rfl
         replace K1:=K1.cons (F:=cF) 3 rfl rfl
         replace K1:=K1.cons (F:=cY) 1 rfl rfl
         replace K1:=K1.cons (F:=gb) 0 rfl rfl
         refine sw<|zy #[.pointer<|some ⟨bk,0,none⟩,.int .i64 x] rfl rfl call156 (sowner_ok own (some ⟨mi,ml,none⟩) co Fo sb bk (some ⟨b1,0,none⟩) sv.length cC cM wi.length bJ x H1 N1 K1 qg qg) ?_
         clear H H1 N1 K1
         rintro _ au1 ⟨rfl,N,H⟩
         obtain ⟨n1,n2,n3,n4,n5⟩:=now_pre p0 v3 (c:=bz) (bQ:=x) qf qf (j:=(vC own x).toNat) qf i3
         refine sq 1<|zjn ?_
         obtain ⟨kn,rfl⟩:=H.jg 3 rfl qf
         obtain ⟨mf,rfl⟩:=H.jg 2 rfl qf
         refine c_lateC 2 (fun ρ NE=>∃ (xI:Env) (wH:yOA) (wP:Nat) (Sg:yOA) (Tc:Nat) (alK:yLN),ρ=upd (upd (upd (upd (upd (upd (upd (upd (upd (upd (upd xI 0<|.pointer<|some ⟨bk,0,none⟩) 1<|.int .i64 iv) 5<|.pointer<|some ⟨lT,0,none⟩) 6<|.pointer<|some ⟨f5,0,none⟩) 7<|Sv (some ⟨kn,0,none⟩) QD Q4) 9<|.int .i64 bz) 11<|Sv (some ⟨mf,0,none⟩) ((jU s vs (xw s vs) bz).length) eM) 12<|.int .i64 x) 124<|Sv wH ((aJ[(vC own x:Int).toNat]!).length) wP) 125<|.int .i64 x) 137 (Sv Sg ((vS ((aJ[(vC own x:Int).toNat]!)[x]!) ((jU s vs (xw s vs) bz)[x]!) 1).length) Tc)/\(yz[((vC own x:Int).toNat) * 1+0]? =some (Sv wH ((aJ[(vC own x:Int).toNat]!).length) wP))/\Fresh W0.heap.size (gb::cY::cF::ai::be::aP::aF::az::jC::Ns)/\St W0 NE ((rr Sg ((vS ((aJ[(vC own x:Int).toNat]!)[x]!) ((jU s vs (xw s vs) bz)[x]!) 1).length) Tc 2 1 ((vS ((aJ[(vC own x:Int).toNat]!)[x]!) ((jU s vs (xw s vs) bz)[x]!) 1).map<|Value.int .i64))::(.box bk [.pointer<|some ⟨sb,0,none⟩,Sv (some ⟨mi,ml,none⟩) own.length co,Sv (some ⟨b1,0,none⟩) sv.length cC,Sv cM wi.length bJ] 86)::(rr mW ((yF s (xw s vs) bz s.qB.length).length) nu 2 1 ((yF s (xw s vs) bz s.qB.length).map<|Value.int .i64))::(rr (some ⟨mf,0,none⟩) ((jU s vs (xw s vs) bz).length) eM 24 1 dS)::(rr (some ⟨kn,0,none⟩) QD Q4 29 1 yz)::(.box f5 [Sv jP vY jO,Sv fh ((((sv[iv.toNat]!).qC).qG).length) gX,Sv su ((((sv[iv.toNat]!).qC).qE).length) sc] 31)::(rr jP vY jO 4 1 ((List.replicate s.qA.length true).map<|Value.bool))::(rr su ((((sv[iv.toNat]!).qC).qE).length) sc 2 1 ((((sv[iv.toNat]!).qC).qE).map<|Value.int .i64))::(rr fh ((((sv[iv.toNat]!).qC).qG).length) gX 24 1 j0)::(.box lT [.int .i64 (((sv[iv.toNat]!).qC).qN),Sv (some ⟨lK,0,none⟩) ((((sv[iv.toNat]!).qC).qG).length) Qs,Sv yu ((((sv[iv.toNat]!).qC).qE).length) yt,Bv (((sv[iv.toNat]!).qC).qQ),Sv QK QE QI,Sv bV ((((sv[iv.toNat]!).qC).qJ).length) bU,Sv eb ((((sv[iv.toNat]!).qC).vJ).length) ea,Sv cG ((((sv[iv.toNat]!).qC).xP).length) cJ] 47)::(rr (some ⟨lK,0,none⟩) ((((sv[iv.toNat]!).qC).qG).length) Qs 24 1 f7)::(rr yu ((((sv[iv.toNat]!).qC).qE).length) yt 2 1 ((((sv[iv.toNat]!).qC).qE).map<|Value.int .i64))::(rr QK QE QI 4 1 ((gotTo iv mg).map<|Value.bool))::(rr bV ((((sv[iv.toNat]!).qC).qJ).length) bU 24 1 ct)::(rr eb ((((sv[iv.toNat]!).qC).vJ).length) ea 29 1 em)::(rr cG ((((sv[iv.toNat]!).qC).xP).length) cJ 29 1 dz)::(.box sb [.int .i64 s.qP,Sv ap s.qA.length cp,Sv ar s.qB.length cr] 27)::(rr (some ⟨b1,0,none⟩) sv.length cC 49 16 bZ)::(rr cM wi.length bJ 77 4 bM)::ps) ((sF true alK wH wP<|aJ[(vC own x:Int).toNat]!)::(sF false Fo (some ⟨mi,ml,none⟩) co own)::(qL true gb f7 ((jD s own (sv[iv.toNat]!).qC iv bz).set bz<|vS ((jD s own (sv[iv.toNat]!).qC iv bz)[bz]!) (yF s (xw s vs) bz s.qB.length) (-1)))::(qL true cY dS<|jU s vs (xw s vs) bz)::(qL true jC yz aJ)::(qL true cF j0 (((sv[iv.toNat]!).qC).qG))::(qL true ai ct (((sv[iv.toNat]!).qC).qJ))::(qL true be em (((sv[iv.toNat]!).qC).vJ))::(qL true aP dz (((sv[iv.toNat]!).qC).xP))::(sF false Fp ap cp s.qA)::(sF false Fr ar cr s.qB)::(qL true aF bZ sv)::(qL true az bM wi)::Γ)) rfl H [0,1,2,3,4,5,6,7,8,9,10,11,12,13,14,15,16,17] [0,1,2,3,4,5,6,7,8,9,10,11] (fun H=>?_) ?_
         ·dsimp only [jR,yE]
          refine yR (fun ρ Ka=>∃ (xI:Env) (PI:yOA) (MO:Nat) (RV:yOA) (RE:Nat) (BZ:yOA) (B2:Nat) (wx:yLN) (aqd:yLN) (EY:yLN),ρ=upd (upd (upd (upd (upd (upd (upd (upd (upd (upd (upd (upd xI 0<|.pointer<|some ⟨bk,0,none⟩) 1<|.int .i64 iv) 5<|.pointer<|some ⟨lT,0,none⟩) 6<|.pointer<|some ⟨f5,0,none⟩) 7<|Sv (some ⟨kn,0,none⟩) QD Q4) 9<|.int .i64 bz) 11<|Sv (some ⟨mf,0,none⟩) ((jU s vs (xw s vs) bz).length) eM) 12<|.int .i64 x) 124<|Sv PI ((aJ[(vC own x:Int).toNat]!).length) MO) 125<|.int .i64 x) 132<|Sv BZ (((aJ[(vC own x:Int).toNat]!)[x]!).length) B2) 136 (Sv RV (((jU s vs (xw s vs) bz)[x]!).length) RE)/\(yz[((vC own x:Int).toNat) * 1+0]? =some (Sv PI ((aJ[(vC own x:Int).toNat]!).length) MO))/\(dS[x * 1+0]? =some (Sv RV (((jU s vs (xw s vs) bz)[x]!).length) RE))/\Fresh W0.heap.size (gb::cY::cF::ai::be::aP::aF::az::jC::Ns)/\St W0 Ka ((.box bk [.pointer<|some ⟨sb,0,none⟩,Sv (some ⟨mi,ml,none⟩) own.length co,Sv (some ⟨b1,0,none⟩) sv.length cC,Sv cM wi.length bJ] 86)::(rr mW ((yF s (xw s vs) bz s.qB.length).length) nu 2 1 ((yF s (xw s vs) bz s.qB.length).map<|Value.int .i64))::(rr (some ⟨mf,0,none⟩) ((jU s vs (xw s vs) bz).length) eM 24 1 dS)::(rr (some ⟨kn,0,none⟩) QD Q4 29 1 yz)::(.box f5 [Sv jP vY jO,Sv fh ((((sv[iv.toNat]!).qC).qG).length) gX,Sv su ((((sv[iv.toNat]!).qC).qE).length) sc] 31)::(rr jP vY jO 4 1 ((List.replicate s.qA.length true).map<|Value.bool))::(rr su ((((sv[iv.toNat]!).qC).qE).length) sc 2 1 ((((sv[iv.toNat]!).qC).qE).map<|Value.int .i64))::(rr fh ((((sv[iv.toNat]!).qC).qG).length) gX 24 1 j0)::(.box lT [.int .i64 (((sv[iv.toNat]!).qC).qN),Sv (some ⟨lK,0,none⟩) ((((sv[iv.toNat]!).qC).qG).length) Qs,Sv yu ((((sv[iv.toNat]!).qC).qE).length) yt,Bv (((sv[iv.toNat]!).qC).qQ),Sv QK QE QI,Sv bV ((((sv[iv.toNat]!).qC).qJ).length) bU,Sv eb ((((sv[iv.toNat]!).qC).vJ).length) ea,Sv cG ((((sv[iv.toNat]!).qC).xP).length) cJ] 47)::(rr (some ⟨lK,0,none⟩) ((((sv[iv.toNat]!).qC).qG).length) Qs 24 1 f7)::(rr yu ((((sv[iv.toNat]!).qC).qE).length) yt 2 1 ((((sv[iv.toNat]!).qC).qE).map<|Value.int .i64))::(rr QK QE QI 4 1 ((gotTo iv mg).map<|Value.bool))::(rr bV ((((sv[iv.toNat]!).qC).qJ).length) bU 24 1 ct)::(rr eb ((((sv[iv.toNat]!).qC).vJ).length) ea 29 1 em)::(rr cG ((((sv[iv.toNat]!).qC).xP).length) cJ 29 1 dz)::(.box sb [.int .i64 s.qP,Sv ap s.qA.length cp,Sv ar s.qB.length cr] 27)::(rr (some ⟨b1,0,none⟩) sv.length cC 49 16 bZ)::(rr cM wi.length bJ 77 4 bM)::ps) ((sF true wx RV RE ((jU s vs (xw s vs) bz)[x]!))::(sF true aqd BZ B2 ((aJ[(vC own x:Int).toNat]!)[x]!))::(sF true EY PI MO<|aJ[(vC own x:Int).toNat]!)::(sF false Fo (some ⟨mi,ml,none⟩) co own)::(qL true gb f7 ((jD s own (sv[iv.toNat]!).qC iv bz).set bz<|vS ((jD s own (sv[iv.toNat]!).qC iv bz)[bz]!) (yF s (xw s vs) bz s.qB.length) (-1)))::(qL true cY dS<|jU s vs (xw s vs) bz)::(qL true jC yz aJ)::(qL true cF j0 (((sv[iv.toNat]!).qC).qG))::(qL true ai ct (((sv[iv.toNat]!).qC).qJ))::(qL true be em (((sv[iv.toNat]!).qC).vJ))::(qL true aP dz (((sv[iv.toNat]!).qC).xP))::(sF false Fp ap cp s.qA)::(sF false Fr ar cr s.qB)::(qL true aF bZ sv)::(qL true az bM wi)::Γ)) 1 #[true,true,true,true,true,true,true,true,true,true,true,true,true,true,true,true,false] ?_ fun IM=>?_
          ·rintro ρ atk ⟨xI,PI,MO,RV,RE,BZ,B2,wx,aqd,EY,rfl,amD,aA3,N,H⟩
           refine ro 16 rfl ?_
           have aAR:=H.base.size
           have azo:=jB (H.ltN (L:=[gb,cY,cF,ai,be,aP,aF,az,jC]) [4,5,7,8,9,10,13,14,6])<|H.ltK<|K0.behind 15 rfl
           refine oc (Qu _ ((aJ[(vC own x:Int).toNat]!)[x]!) ((jU s vs (xw s vs) bz)[x]!) 1 (H.get 1 rfl).1 (H.get 0 rfl).1 qg qg qg) ?_
           rintro aD5 agf auj atm
           replace H:=H.zI atm auj
           obtain ⟨Iu,IC,rfl,aCH,aA1⟩:=H.jW 0 rfl
           refine ⟨H.pick (zR 1 18)<|zR 3 12,(xy qh ((meet ⟨_,PI,MO,Iu,IC,EY,uE11,amD,N,H.qY 19 15 (zR 0 19) (zR 2 13) (by simp only [List.length_cons,List.length_append];omega)<|by simp only [List.length_cons,List.length_append];omega⟩)))⟩
          refine yR (fun ρ w229=>∃ (xI:Env) (KY:yOA) (Lr:Nat) (Iy:yOA) (Ko:Nat) (Zf:yLN) (mE:yLN),ρ=upd (upd (upd (upd (upd (upd (upd (upd (upd (upd (upd (upd xI 0<|.pointer<|some ⟨bk,0,none⟩) 1<|.int .i64 iv) 5<|.pointer<|some ⟨lT,0,none⟩) 6<|.pointer<|some ⟨f5,0,none⟩) 7<|Sv (some ⟨kn,0,none⟩) QD Q4) 9<|.int .i64 bz) 11<|Sv (some ⟨mf,0,none⟩) ((jU s vs (xw s vs) bz).length) eM) 12<|.int .i64 x) 124<|Sv KY ((aJ[(vC own x:Int).toNat]!).length) Lr) 125<|.int .i64 x) 132<|Sv Iy (((aJ[(vC own x:Int).toNat]!)[x]!).length) Ko) 135 (.pointer<|some ⟨mf,0+(x:Int).toNat * 1,none⟩)/\(yz[((vC own x:Int).toNat) * 1+0]? =some (Sv KY ((aJ[(vC own x:Int).toNat]!).length) Lr))/\Fresh W0.heap.size (gb::cY::cF::ai::be::aP::aF::az::jC::Ns)/\St W0 w229 ((.box bk [.pointer<|some ⟨sb,0,none⟩,Sv (some ⟨mi,ml,none⟩) own.length co,Sv (some ⟨b1,0,none⟩) sv.length cC,Sv cM wi.length bJ] 86)::(rr mW ((yF s (xw s vs) bz s.qB.length).length) nu 2 1 ((yF s (xw s vs) bz s.qB.length).map<|Value.int .i64))::(rr (some ⟨mf,0,none⟩) ((jU s vs (xw s vs) bz).length) eM 24 1 dS)::(rr (some ⟨kn,0,none⟩) QD Q4 29 1 yz)::(.box f5 [Sv jP vY jO,Sv fh ((((sv[iv.toNat]!).qC).qG).length) gX,Sv su ((((sv[iv.toNat]!).qC).qE).length) sc] 31)::(rr jP vY jO 4 1 ((List.replicate s.qA.length true).map<|Value.bool))::(rr su ((((sv[iv.toNat]!).qC).qE).length) sc 2 1 ((((sv[iv.toNat]!).qC).qE).map<|Value.int .i64))::(rr fh ((((sv[iv.toNat]!).qC).qG).length) gX 24 1 j0)::(.box lT [.int .i64 (((sv[iv.toNat]!).qC).qN),Sv (some ⟨lK,0,none⟩) ((((sv[iv.toNat]!).qC).qG).length) Qs,Sv yu ((((sv[iv.toNat]!).qC).qE).length) yt,Bv (((sv[iv.toNat]!).qC).qQ),Sv QK QE QI,Sv bV ((((sv[iv.toNat]!).qC).qJ).length) bU,Sv eb ((((sv[iv.toNat]!).qC).vJ).length) ea,Sv cG ((((sv[iv.toNat]!).qC).xP).length) cJ] 47)::(rr (some ⟨lK,0,none⟩) ((((sv[iv.toNat]!).qC).qG).length) Qs 24 1 f7)::(rr yu ((((sv[iv.toNat]!).qC).qE).length) yt 2 1 ((((sv[iv.toNat]!).qC).qE).map<|Value.int .i64))::(rr QK QE QI 4 1 ((gotTo iv mg).map<|Value.bool))::(rr bV ((((sv[iv.toNat]!).qC).qJ).length) bU 24 1 ct)::(rr eb ((((sv[iv.toNat]!).qC).vJ).length) ea 29 1 em)::(rr cG ((((sv[iv.toNat]!).qC).xP).length) cJ 29 1 dz)::(.box sb [.int .i64 s.qP,Sv ap s.qA.length cp,Sv ar s.qB.length cr] 27)::(rr (some ⟨b1,0,none⟩) sv.length cC 49 16 bZ)::(rr cM wi.length bJ 77 4 bM)::ps) ((sF true Zf Iy Ko ((aJ[(vC own x:Int).toNat]!)[x]!))::(sF true mE KY Lr<|aJ[(vC own x:Int).toNat]!)::(sF false Fo (some ⟨mi,ml,none⟩) co own)::(qL true gb f7 ((jD s own (sv[iv.toNat]!).qC iv bz).set bz<|vS ((jD s own (sv[iv.toNat]!).qC iv bz)[bz]!) (yF s (xw s vs) bz s.qB.length) (-1)))::(qL true cY dS<|jU s vs (xw s vs) bz)::(qL true jC yz aJ)::(qL true cF j0 (((sv[iv.toNat]!).qC).qG))::(qL true ai ct (((sv[iv.toNat]!).qC).qJ))::(qL true be em (((sv[iv.toNat]!).qC).vJ))::(qL true aP dz (((sv[iv.toNat]!).qC).xP))::(sF false Fp ap cp s.qA)::(sF false Fr ar cr s.qB)::(qL true aF bZ sv)::(qL true az bM wi)::Γ)) 2 #[true,true,true,true,true,true,true,true,true,true,true,true,true,true,true,false,false] ?_ fun Kt=>?_
          ·rintro ρ aku ⟨xI,KY,Lr,Iy,Ko,Zf,mE,rfl,ak5,N,H⟩
           refine ro 15 rfl ?_
           obtain ⟨R7,SA,ay4,Un,H⟩:=H.yC 2 rfl 4 rfl (iv:=x) x qf qf
           refine zB (Sv R7 (((jU s vs (xw s vs) bz)[x]!).length) SA) isAgg24 rfl ((H.xX 2 rfl Un qf))<|⟨H.pick (zR 0 18)<|zR 3 12,(je IM ⟨_,KY,Lr,R7,SA,Iy,Ko,ay4,Zf,mE,uE12,ak5,Un,N,H⟩)⟩
          refine yR (fun ρ apH=>∃ (xI:Env) (Po:yOA) (PE:Nat) (JS:yOA) (JL:Nat) (Kp:Nat) (Tk:Nat) (vD:yLN) (act:yLN) (Og:yOA) (LF:Nat) (Je:yLN) (anK:Nat) (OO:yLN),ρ=upd (upd (upd (upd (upd (upd (upd (upd (upd (upd (upd (upd xI 0<|.pointer<|some ⟨bk,0,none⟩) 1<|.int .i64 iv) 5<|.pointer<|some ⟨lT,0,none⟩) 6<|.pointer<|some ⟨f5,0,none⟩) 7<|Sv (some ⟨kn,0,none⟩) QD Q4) 9<|.int .i64 bz) 11<|Sv (some ⟨mf,0,none⟩) ((jU s vs (xw s vs) bz).length) eM) 12<|.int .i64 x) 124<|Sv Po ((aJ[(vC own x:Int).toNat]!).length) PE) 125<|.int .i64 x) 131<|.pointer<|some ⟨Kp,Tk+(x:Int).toNat * 1,none⟩) 136 (Sv JS (((jU s vs (xw s vs) bz)[x]!).length) JL)/\(yz[((vC own x:Int).toNat) * 1+0]? =some (Sv Po ((aJ[(vC own x:Int).toNat]!).length) PE))/\(dS[x * 1+0]? =some (Sv JS (((jU s vs (xw s vs) bz)[x]!).length) JL))/\Fresh W0.heap.size (gb::cY::cF::ai::be::aP::aF::az::jC::Ns)/\St W0 apH ((.box bk [.pointer<|some ⟨sb,0,none⟩,Sv (some ⟨mi,ml,none⟩) own.length co,Sv (some ⟨b1,0,none⟩) sv.length cC,Sv cM wi.length bJ] 86)::(rr mW ((yF s (xw s vs) bz s.qB.length).length) nu 2 1 ((yF s (xw s vs) bz s.qB.length).map<|Value.int .i64))::(rr (some ⟨mf,0,none⟩) ((jU s vs (xw s vs) bz).length) eM 24 1 dS)::(rr (some ⟨kn,0,none⟩) QD Q4 29 1 yz)::(.box f5 [Sv jP vY jO,Sv fh ((((sv[iv.toNat]!).qC).qG).length) gX,Sv su ((((sv[iv.toNat]!).qC).qE).length) sc] 31)::(rr jP vY jO 4 1 ((List.replicate s.qA.length true).map<|Value.bool))::(rr su ((((sv[iv.toNat]!).qC).qE).length) sc 2 1 ((((sv[iv.toNat]!).qC).qE).map<|Value.int .i64))::(rr fh ((((sv[iv.toNat]!).qC).qG).length) gX 24 1 j0)::(.box lT [.int .i64 (((sv[iv.toNat]!).qC).qN),Sv (some ⟨lK,0,none⟩) ((((sv[iv.toNat]!).qC).qG).length) Qs,Sv yu ((((sv[iv.toNat]!).qC).qE).length) yt,Bv (((sv[iv.toNat]!).qC).qQ),Sv QK QE QI,Sv bV ((((sv[iv.toNat]!).qC).qJ).length) bU,Sv eb ((((sv[iv.toNat]!).qC).vJ).length) ea,Sv cG ((((sv[iv.toNat]!).qC).xP).length) cJ] 47)::(rr (some ⟨lK,0,none⟩) ((((sv[iv.toNat]!).qC).qG).length) Qs 24 1 f7)::(rr yu ((((sv[iv.toNat]!).qC).qE).length) yt 2 1 ((((sv[iv.toNat]!).qC).qE).map<|Value.int .i64))::(rr QK QE QI 4 1 ((gotTo iv mg).map<|Value.bool))::(rr bV ((((sv[iv.toNat]!).qC).qJ).length) bU 24 1 ct)::(rr eb ((((sv[iv.toNat]!).qC).vJ).length) ea 29 1 em)::(rr cG ((((sv[iv.toNat]!).qC).xP).length) cJ 29 1 dz)::(.box sb [.int .i64 s.qP,Sv ap s.qA.length cp,Sv ar s.qB.length cr] 27)::(rr (some ⟨b1,0,none⟩) sv.length cC 49 16 bZ)::(rr cM wi.length bJ 77 4 bM)::ps) ((sF true vD JS JL ((jU s vs (xw s vs) bz)[x]!))::(sF true act Og LF ((aJ[(vC own x:Int).toNat]!)[x]!))::(atF Kp (Tk+(x:Int).toNat * 1) [Sv Og (((aJ[(vC own x:Int).toNat]!)[x]!).length) LF])::(sF true Je (some ⟨Kp,Tk,none⟩) anK<|aJ[(vC own x:Int).toNat]!)::(sF true OO Po PE<|aJ[(vC own x:Int).toNat]!)::(sF false Fo (some ⟨mi,ml,none⟩) co own)::(qL true gb f7 ((jD s own (sv[iv.toNat]!).qC iv bz).set bz<|vS ((jD s own (sv[iv.toNat]!).qC iv bz)[bz]!) (yF s (xw s vs) bz s.qB.length) (-1)))::(qL true cY dS<|jU s vs (xw s vs) bz)::(qL true jC yz aJ)::(qL true cF j0 (((sv[iv.toNat]!).qC).qG))::(qL true ai ct (((sv[iv.toNat]!).qC).qJ))::(qL true be em (((sv[iv.toNat]!).qC).vJ))::(qL true aP dz (((sv[iv.toNat]!).qC).xP))::(sF false Fp ap cp s.qA)::(sF false Fr ar cr s.qB)::(qL true aF bZ sv)::(qL true az bM wi)::Γ)) 2 #[true,true,true,true,true,true,true,true,true,true,true,false,true,true,true,true,false] ?_ fun acj=>?_
          ·rintro ρ Se ⟨xI,Po,PE,JS,JL,Kp,Tk,vD,act,Og,LF,Je,anK,OO,rfl,YB,ahR,N,H⟩
           refine ro 11 rfl<|zB (Sv Og (((aJ[(vC own x:Int).toNat]!)[x]!).length) LF) isAgg24 rfl (H.vW 2 rfl 0 rfl)<|⟨H.pick (zR 0 18)<|zR 5 12,(je IM ⟨_,Po,PE,JS,JL,Og,LF,vD,act,OO,uE12,YB,ahR,N,H.qY 18 17 (zR 0 18) (0::1::zR 4 13) (by simp only [List.length_cons,List.length_append];omega)<|by simp only [List.length_cons,List.length_append];omega⟩)⟩
          refine yR (fun ρ ao3=>∃ (xI:Env) (Na:yOA) (KQ:Nat) (Jz:yOA) (Jo:Nat) (Zq:yLN) (abe:yLN),ρ=upd (upd (upd (upd (upd (upd (upd (upd (upd (upd (upd (upd xI 0<|.pointer<|some ⟨bk,0,none⟩) 1<|.int .i64 iv) 5<|.pointer<|some ⟨lT,0,none⟩) 6<|.pointer<|some ⟨f5,0,none⟩) 7<|Sv (some ⟨kn,0,none⟩) QD Q4) 9<|.int .i64 bz) 11<|Sv (some ⟨mf,0,none⟩) ((jU s vs (xw s vs) bz).length) eM) 12<|.int .i64 x) 123<|.pointer<|some ⟨kn,0+(vC own x:Int).toNat * 1,none⟩) 125<|.int .i64 x) 132<|Sv Jz (((aJ[(vC own x:Int).toNat]!)[x]!).length) Jo) 136 (Sv Na (((jU s vs (xw s vs) bz)[x]!).length) KQ)/\(dS[x * 1+0]? =some (Sv Na (((jU s vs (xw s vs) bz)[x]!).length) KQ))/\Fresh W0.heap.size (gb::cY::cF::ai::be::aP::aF::az::jC::Ns)/\St W0 ao3 ((.box bk [.pointer<|some ⟨sb,0,none⟩,Sv (some ⟨mi,ml,none⟩) own.length co,Sv (some ⟨b1,0,none⟩) sv.length cC,Sv cM wi.length bJ] 86)::(rr mW ((yF s (xw s vs) bz s.qB.length).length) nu 2 1 ((yF s (xw s vs) bz s.qB.length).map<|Value.int .i64))::(rr (some ⟨mf,0,none⟩) ((jU s vs (xw s vs) bz).length) eM 24 1 dS)::(rr (some ⟨kn,0,none⟩) QD Q4 29 1 yz)::(.box f5 [Sv jP vY jO,Sv fh ((((sv[iv.toNat]!).qC).qG).length) gX,Sv su ((((sv[iv.toNat]!).qC).qE).length) sc] 31)::(rr jP vY jO 4 1 ((List.replicate s.qA.length true).map<|Value.bool))::(rr su ((((sv[iv.toNat]!).qC).qE).length) sc 2 1 ((((sv[iv.toNat]!).qC).qE).map<|Value.int .i64))::(rr fh ((((sv[iv.toNat]!).qC).qG).length) gX 24 1 j0)::(.box lT [.int .i64 (((sv[iv.toNat]!).qC).qN),Sv (some ⟨lK,0,none⟩) ((((sv[iv.toNat]!).qC).qG).length) Qs,Sv yu ((((sv[iv.toNat]!).qC).qE).length) yt,Bv (((sv[iv.toNat]!).qC).qQ),Sv QK QE QI,Sv bV ((((sv[iv.toNat]!).qC).qJ).length) bU,Sv eb ((((sv[iv.toNat]!).qC).vJ).length) ea,Sv cG ((((sv[iv.toNat]!).qC).xP).length) cJ] 47)::(rr (some ⟨lK,0,none⟩) ((((sv[iv.toNat]!).qC).qG).length) Qs 24 1 f7)::(rr yu ((((sv[iv.toNat]!).qC).qE).length) yt 2 1 ((((sv[iv.toNat]!).qC).qE).map<|Value.int .i64))::(rr QK QE QI 4 1 ((gotTo iv mg).map<|Value.bool))::(rr bV ((((sv[iv.toNat]!).qC).qJ).length) bU 24 1 ct)::(rr eb ((((sv[iv.toNat]!).qC).vJ).length) ea 29 1 em)::(rr cG ((((sv[iv.toNat]!).qC).xP).length) cJ 29 1 dz)::(.box sb [.int .i64 s.qP,Sv ap s.qA.length cp,Sv ar s.qB.length cr] 27)::(rr (some ⟨b1,0,none⟩) sv.length cC 49 16 bZ)::(rr cM wi.length bJ 77 4 bM)::ps) ((sF true Zq Na KQ ((jU s vs (xw s vs) bz)[x]!))::(sF true abe Jz Jo ((aJ[(vC own x:Int).toNat]!)[x]!))::(sF false Fo (some ⟨mi,ml,none⟩) co own)::(qL true gb f7 ((jD s own (sv[iv.toNat]!).qC iv bz).set bz<|vS ((jD s own (sv[iv.toNat]!).qC iv bz)[bz]!) (yF s (xw s vs) bz s.qB.length) (-1)))::(qL true cY dS<|jU s vs (xw s vs) bz)::(qL true jC yz aJ)::(qL true cF j0 (((sv[iv.toNat]!).qC).qG))::(qL true ai ct (((sv[iv.toNat]!).qC).qJ))::(qL true be em (((sv[iv.toNat]!).qC).vJ))::(qL true aP dz (((sv[iv.toNat]!).qC).xP))::(sF false Fp ap cp s.qA)::(sF false Fr ar cr s.qB)::(qL true aF bZ sv)::(qL true az bM wi)::Γ)) 2 #[true,true,true,false,true,true,true,true,true,true,true,true,true,true,true,true,false] ?_ fun ahG=>?_
          ·rintro ρ amb ⟨xI,Na,KQ,Jz,Jo,Zq,abe,rfl,G0,N,H⟩
           refine jw [3,16] qh qm<|jT rfl ?_<|jT rfl ?_ jy
           ·obtain ⟨ao7,aqq,azh,UQ,H⟩:=H.yC 3 rfl 5 rfl (iv:=vC own x) ((vC own x:Int).toNat) qf qf
            refine zB (Sv ao7 ((aJ[(vC own x:Int).toNat]!).length) aqq) isAgg29 rfl ((H.xX 3 rfl UQ qf))<|⟨H.pick (zR 0 18)<|zR 3 12,(je IM ⟨_,ao7,aqq,Na,KQ,Jz,Jo,Zq,abe,azh,uE12,UQ,G0,N,H.qY 18 15 (zR 0 18) (1::2::0::zR 3 12) (by simp only [List.length_cons,List.length_append];omega)<|by simp only [List.length_cons,List.length_append];omega⟩)⟩
           ·have azS:=H.base.size
            have aCE:=jB (H.ltN (L:=[gb,cY,cF,ai,be,aP,aF,az,jC]) [3,4,6,7,8,9,12,13,5])<|H.ltK<|K0.behind 14 rfl
            refine oc (Qu _ ((aJ[(vC own x:Int).toNat]!)[x]!) ((jU s vs (xw s vs) bz)[x]!) 1 (H.get 1 rfl).1 (H.get 0 rfl).1 qg qg qg) ?_
            rintro aHK aG5 axV avV
            replace H:=H.zI avV axV
            obtain ⟨Zp,aag,rfl,aAm,aAh⟩:=H.jW 0 rfl
            refine ⟨H.pick (zR 1 18)<|zR 2 12,(ro 3 rfl ?_)⟩
            obtain ⟨ag3,anY,awX,TW,H⟩:=H.yC 4 rfl 5 rfl (iv:=vC own x) ((vC own x:Int).toNat) qf qf
            refine zB (Sv ag3 ((aJ[(vC own x:Int).toNat]!).length) anY) isAgg29 rfl ((H.xX 4 rfl TW qf))<|⟨H.pick (zR 1 18)<|zR 3 12,(xy qh ((meet ⟨_,ag3,anY,Zp,aag,awX,uE11,TW,N,H.qY 19 15 (zR 0 19) (0::zR 3 12) (by simp only [List.length_cons,List.length_append];omega)<|by simp only [List.length_cons,List.length_append];omega⟩)))⟩
          refine yR (fun ρ aqZ=>∃ (xI:Env) (Jp:yOA) (Jm:Nat) (EA:Nat) (O1:Nat) (Ek:yLN) (IP:yOA) (Jd:Nat) (ZS:yLN) (ZJ:Nat) (ns:yLN),ρ=upd (upd (upd (upd (upd (upd (upd (upd (upd (upd (upd (upd xI 0<|.pointer<|some ⟨bk,0,none⟩) 1<|.int .i64 iv) 5<|.pointer<|some ⟨lT,0,none⟩) 6<|.pointer<|some ⟨f5,0,none⟩) 7<|Sv (some ⟨kn,0,none⟩) QD Q4) 9<|.int .i64 bz) 11<|Sv (some ⟨mf,0,none⟩) ((jU s vs (xw s vs) bz).length) eM) 12<|.int .i64 x) 124<|Sv Jp ((aJ[(vC own x:Int).toNat]!).length) Jm) 125<|.int .i64 x) 131<|.pointer<|some ⟨EA,O1+(x:Int).toNat * 1,none⟩) 135 (.pointer<|some ⟨mf,0+(x:Int).toNat * 1,none⟩)/\(yz[((vC own x:Int).toNat) * 1+0]? =some (Sv Jp ((aJ[(vC own x:Int).toNat]!).length) Jm))/\Fresh W0.heap.size (gb::cY::cF::ai::be::aP::aF::az::jC::Ns)/\St W0 aqZ ((.box bk [.pointer<|some ⟨sb,0,none⟩,Sv (some ⟨mi,ml,none⟩) own.length co,Sv (some ⟨b1,0,none⟩) sv.length cC,Sv cM wi.length bJ] 86)::(rr mW ((yF s (xw s vs) bz s.qB.length).length) nu 2 1 ((yF s (xw s vs) bz s.qB.length).map<|Value.int .i64))::(rr (some ⟨mf,0,none⟩) ((jU s vs (xw s vs) bz).length) eM 24 1 dS)::(rr (some ⟨kn,0,none⟩) QD Q4 29 1 yz)::(.box f5 [Sv jP vY jO,Sv fh ((((sv[iv.toNat]!).qC).qG).length) gX,Sv su ((((sv[iv.toNat]!).qC).qE).length) sc] 31)::(rr jP vY jO 4 1 ((List.replicate s.qA.length true).map<|Value.bool))::(rr su ((((sv[iv.toNat]!).qC).qE).length) sc 2 1 ((((sv[iv.toNat]!).qC).qE).map<|Value.int .i64))::(rr fh ((((sv[iv.toNat]!).qC).qG).length) gX 24 1 j0)::(.box lT [.int .i64 (((sv[iv.toNat]!).qC).qN),Sv (some ⟨lK,0,none⟩) ((((sv[iv.toNat]!).qC).qG).length) Qs,Sv yu ((((sv[iv.toNat]!).qC).qE).length) yt,Bv (((sv[iv.toNat]!).qC).qQ),Sv QK QE QI,Sv bV ((((sv[iv.toNat]!).qC).qJ).length) bU,Sv eb ((((sv[iv.toNat]!).qC).vJ).length) ea,Sv cG ((((sv[iv.toNat]!).qC).xP).length) cJ] 47)::(rr (some ⟨lK,0,none⟩) ((((sv[iv.toNat]!).qC).qG).length) Qs 24 1 f7)::(rr yu ((((sv[iv.toNat]!).qC).qE).length) yt 2 1 ((((sv[iv.toNat]!).qC).qE).map<|Value.int .i64))::(rr QK QE QI 4 1 ((gotTo iv mg).map<|Value.bool))::(rr bV ((((sv[iv.toNat]!).qC).qJ).length) bU 24 1 ct)::(rr eb ((((sv[iv.toNat]!).qC).vJ).length) ea 29 1 em)::(rr cG ((((sv[iv.toNat]!).qC).xP).length) cJ 29 1 dz)::(.box sb [.int .i64 s.qP,Sv ap s.qA.length cp,Sv ar s.qB.length cr] 27)::(rr (some ⟨b1,0,none⟩) sv.length cC 49 16 bZ)::(rr cM wi.length bJ 77 4 bM)::ps) ((sF true Ek IP Jd ((aJ[(vC own x:Int).toNat]!)[x]!))::(atF EA (O1+(x:Int).toNat * 1) [Sv IP (((aJ[(vC own x:Int).toNat]!)[x]!).length) Jd])::(sF true ZS (some ⟨EA,O1,none⟩) ZJ<|aJ[(vC own x:Int).toNat]!)::(sF true ns Jp Jm<|aJ[(vC own x:Int).toNat]!)::(sF false Fo (some ⟨mi,ml,none⟩) co own)::(qL true gb f7 ((jD s own (sv[iv.toNat]!).qC iv bz).set bz<|vS ((jD s own (sv[iv.toNat]!).qC iv bz)[bz]!) (yF s (xw s vs) bz s.qB.length) (-1)))::(qL true cY dS<|jU s vs (xw s vs) bz)::(qL true jC yz aJ)::(qL true cF j0 (((sv[iv.toNat]!).qC).qG))::(qL true ai ct (((sv[iv.toNat]!).qC).qJ))::(qL true be em (((sv[iv.toNat]!).qC).vJ))::(qL true aP dz (((sv[iv.toNat]!).qC).xP))::(sF false Fp ap cp s.qA)::(sF false Fr ar cr s.qB)::(qL true aF bZ sv)::(qL true az bM wi)::Γ)) 3 #[true,true,true,true,true,true,true,true,true,true,true,false,true,true,true,false,false] ?_ fun ake=>?_
          ·rintro ρ axr ⟨xI,Jp,Jm,EA,O1,Ek,IP,Jd,ZS,ZJ,ns,rfl,Y4,N,H⟩
           refine jw [11,15] qh qm<|jT rfl ?_<|jT rfl ?_ jy
           ·refine zB (Sv IP (((aJ[(vC own x:Int).toNat]!)[x]!).length) Jd) isAgg24 rfl (H.vW 1 rfl 0 rfl)<|⟨H.pick (zR 0 18)<|zR 4 12,(je Kt ⟨_,Jp,Jm,IP,Jd,Ek,ns,uE12,Y4,N,H.qY 18 16 (zR 0 18) (0::zR 3 13) (by simp only [List.length_cons,List.length_append];omega)<|by simp only [List.length_cons,List.length_append];omega⟩)⟩
           ·obtain ⟨ajX,afp,Ed,Wb,H⟩:=H.yC 2 rfl 6 rfl (iv:=x) x qf qf
            refine zB (Sv ajX (((jU s vs (xw s vs) bz)[x]!).length) afp) isAgg24 rfl ((H.xX 2 rfl Wb qf))<|⟨H.pick (zR 0 18)<|zR 5 12,(je acj ⟨_,Jp,Jm,ajX,afp,EA,O1,Ed,Ek,IP,Jd,ZS,ZJ,ns,uE12,Y4,Wb,N,H⟩)⟩
          refine yR (fun ρ ag8=>∃ (xI:Env) (JH:yOA) (IK:Nat) (LM:Nat) (Nn:Nat) (RX:yLN) (TE:yLN) (Iv:yOA) (Kf:Nat) (Zm:yLN) (Zd:Nat),ρ=upd (upd (upd (upd (upd (upd (upd (upd (upd (upd (upd (upd xI 0<|.pointer<|some ⟨bk,0,none⟩) 1<|.int .i64 iv) 5<|.pointer<|some ⟨lT,0,none⟩) 6<|.pointer<|some ⟨f5,0,none⟩) 7<|Sv (some ⟨kn,0,none⟩) QD Q4) 9<|.int .i64 bz) 11<|Sv (some ⟨mf,0,none⟩) ((jU s vs (xw s vs) bz).length) eM) 12<|.int .i64 x) 123<|.pointer<|some ⟨kn,0+(vC own x:Int).toNat * 1,none⟩) 125<|.int .i64 x) 131<|.pointer<|some ⟨LM,Nn+(x:Int).toNat * 1,none⟩) 136 (Sv JH (((jU s vs (xw s vs) bz)[x]!).length) IK)/\(dS[x * 1+0]? =some (Sv JH (((jU s vs (xw s vs) bz)[x]!).length) IK))/\Fresh W0.heap.size (gb::cY::cF::ai::be::aP::aF::az::jC::Ns)/\St W0 ag8 ((.box bk [.pointer<|some ⟨sb,0,none⟩,Sv (some ⟨mi,ml,none⟩) own.length co,Sv (some ⟨b1,0,none⟩) sv.length cC,Sv cM wi.length bJ] 86)::(rr mW ((yF s (xw s vs) bz s.qB.length).length) nu 2 1 ((yF s (xw s vs) bz s.qB.length).map<|Value.int .i64))::(rr (some ⟨mf,0,none⟩) ((jU s vs (xw s vs) bz).length) eM 24 1 dS)::(rr (some ⟨kn,0,none⟩) QD Q4 29 1 yz)::(.box f5 [Sv jP vY jO,Sv fh ((((sv[iv.toNat]!).qC).qG).length) gX,Sv su ((((sv[iv.toNat]!).qC).qE).length) sc] 31)::(rr jP vY jO 4 1 ((List.replicate s.qA.length true).map<|Value.bool))::(rr su ((((sv[iv.toNat]!).qC).qE).length) sc 2 1 ((((sv[iv.toNat]!).qC).qE).map<|Value.int .i64))::(rr fh ((((sv[iv.toNat]!).qC).qG).length) gX 24 1 j0)::(.box lT [.int .i64 (((sv[iv.toNat]!).qC).qN),Sv (some ⟨lK,0,none⟩) ((((sv[iv.toNat]!).qC).qG).length) Qs,Sv yu ((((sv[iv.toNat]!).qC).qE).length) yt,Bv (((sv[iv.toNat]!).qC).qQ),Sv QK QE QI,Sv bV ((((sv[iv.toNat]!).qC).qJ).length) bU,Sv eb ((((sv[iv.toNat]!).qC).vJ).length) ea,Sv cG ((((sv[iv.toNat]!).qC).xP).length) cJ] 47)::(rr (some ⟨lK,0,none⟩) ((((sv[iv.toNat]!).qC).qG).length) Qs 24 1 f7)::(rr yu ((((sv[iv.toNat]!).qC).qE).length) yt 2 1 ((((sv[iv.toNat]!).qC).qE).map<|Value.int .i64))::(rr QK QE QI 4 1 ((gotTo iv mg).map<|Value.bool))::(rr bV ((((sv[iv.toNat]!).qC).qJ).length) bU 24 1 ct)::(rr eb ((((sv[iv.toNat]!).qC).vJ).length) ea 29 1 em)::(rr cG ((((sv[iv.toNat]!).qC).xP).length) cJ 29 1 dz)::(.box sb [.int .i64 s.qP,Sv ap s.qA.length cp,Sv ar s.qB.length cr] 27)::(rr (some ⟨b1,0,none⟩) sv.length cC 49 16 bZ)::(rr cM wi.length bJ 77 4 bM)::ps) ((sF true RX JH IK ((jU s vs (xw s vs) bz)[x]!))::(sF true TE Iv Kf ((aJ[(vC own x:Int).toNat]!)[x]!))::(atF LM (Nn+(x:Int).toNat * 1) [Sv Iv (((aJ[(vC own x:Int).toNat]!)[x]!).length) Kf])::(sF true Zm (some ⟨LM,Nn,none⟩) Zd<|aJ[(vC own x:Int).toNat]!)::(sF false Fo (some ⟨mi,ml,none⟩) co own)::(qL true gb f7 ((jD s own (sv[iv.toNat]!).qC iv bz).set bz<|vS ((jD s own (sv[iv.toNat]!).qC iv bz)[bz]!) (yF s (xw s vs) bz s.qB.length) (-1)))::(qL true cY dS<|jU s vs (xw s vs) bz)::(qL true jC yz aJ)::(qL true cF j0 (((sv[iv.toNat]!).qC).qG))::(qL true ai ct (((sv[iv.toNat]!).qC).qJ))::(qL true be em (((sv[iv.toNat]!).qC).vJ))::(qL true aP dz (((sv[iv.toNat]!).qC).xP))::(sF false Fp ap cp s.qA)::(sF false Fr ar cr s.qB)::(qL true aF bZ sv)::(qL true az bM wi)::Γ)) 3 #[true,true,true,false,true,true,true,true,true,true,true,false,true,true,true,true,false] ?_ fun amr=>?_
          ·rintro ρ ay7 ⟨xI,JH,IK,LM,Nn,RX,TE,Iv,Kf,Zm,Zd,rfl,VG,N,H⟩
           refine jw [3,11] qh qm<|jT rfl ?_<|jT rfl ?_ jy
           ·obtain ⟨aqk,ak9,axm,Ys,H⟩:=H.yC 3 rfl 7 rfl (iv:=vC own x) ((vC own x:Int).toNat) qf qf
            refine zB (Sv aqk ((aJ[(vC own x:Int).toNat]!).length) ak9) isAgg29 rfl ((H.xX 3 rfl Ys qf))<|⟨H.pick (zR 0 18)<|zR 5 12,(je acj ⟨_,aqk,ak9,JH,IK,LM,Nn,RX,TE,Iv,Kf,Zm,Zd,axm,uE12,Ys,VG,N,H.qY 18 17 (zR 0 18) (1::2::3::4::0::zR 5 12) (by simp only [List.length_cons,List.length_append];omega)<|by simp only [List.length_cons,List.length_append];omega⟩)⟩
           ·refine zB (Sv Iv (((aJ[(vC own x:Int).toNat]!)[x]!).length) Kf) isAgg24 rfl (H.vW 2 rfl 0 rfl)<|⟨H.pick (zR 0 18)<|zR 4 12,(je ahG ⟨_,JH,IK,Iv,Kf,RX,TE,uE12,VG,N,H.qY 18 16 (zR 0 18) (0::1::zR 4 12) (by simp only [List.length_cons,List.length_append];omega)<|by simp only [List.length_cons,List.length_append];omega⟩)⟩
          refine yR (fun ρ amX=>∃ (xI:Env) (Om:yOA) (N5:Nat) (K6:yOA) (NU:Nat) (acQ:yLN) (lB:yLN),ρ=upd (upd (upd (upd (upd (upd (upd (upd (upd (upd (upd (upd (upd xI 0<|.pointer<|some ⟨bk,0,none⟩) 1<|.int .i64 iv) 5<|.pointer<|some ⟨lT,0,none⟩) 6<|.pointer<|some ⟨f5,0,none⟩) 7<|Sv (some ⟨kn,0,none⟩) QD Q4) 9<|.int .i64 bz) 11<|Sv (some ⟨mf,0,none⟩) ((jU s vs (xw s vs) bz).length) eM) 12<|.int .i64 x) 124<|Sv Om ((aJ[(vC own x:Int).toNat]!).length) N5) 125<|.int .i64 x) 128<|.pointer<|some ⟨kn,0+(vC own x:Int).toNat * 1,none⟩) 130<|.int .i64 x) 136 (Sv K6 (((jU s vs (xw s vs) bz)[x]!).length) NU)/\(yz[((vC own x:Int).toNat) * 1+0]? =some (Sv Om ((aJ[(vC own x:Int).toNat]!).length) N5))/\(dS[x * 1+0]? =some (Sv K6 (((jU s vs (xw s vs) bz)[x]!).length) NU))/\Fresh W0.heap.size (gb::cY::cF::ai::be::aP::aF::az::jC::Ns)/\St W0 amX ((.box bk [.pointer<|some ⟨sb,0,none⟩,Sv (some ⟨mi,ml,none⟩) own.length co,Sv (some ⟨b1,0,none⟩) sv.length cC,Sv cM wi.length bJ] 86)::(rr mW ((yF s (xw s vs) bz s.qB.length).length) nu 2 1 ((yF s (xw s vs) bz s.qB.length).map<|Value.int .i64))::(rr (some ⟨mf,0,none⟩) ((jU s vs (xw s vs) bz).length) eM 24 1 dS)::(rr (some ⟨kn,0,none⟩) QD Q4 29 1 yz)::(.box f5 [Sv jP vY jO,Sv fh ((((sv[iv.toNat]!).qC).qG).length) gX,Sv su ((((sv[iv.toNat]!).qC).qE).length) sc] 31)::(rr jP vY jO 4 1 ((List.replicate s.qA.length true).map<|Value.bool))::(rr su ((((sv[iv.toNat]!).qC).qE).length) sc 2 1 ((((sv[iv.toNat]!).qC).qE).map<|Value.int .i64))::(rr fh ((((sv[iv.toNat]!).qC).qG).length) gX 24 1 j0)::(.box lT [.int .i64 (((sv[iv.toNat]!).qC).qN),Sv (some ⟨lK,0,none⟩) ((((sv[iv.toNat]!).qC).qG).length) Qs,Sv yu ((((sv[iv.toNat]!).qC).qE).length) yt,Bv (((sv[iv.toNat]!).qC).qQ),Sv QK QE QI,Sv bV ((((sv[iv.toNat]!).qC).qJ).length) bU,Sv eb ((((sv[iv.toNat]!).qC).vJ).length) ea,Sv cG ((((sv[iv.toNat]!).qC).xP).length) cJ] 47)::(rr (some ⟨lK,0,none⟩) ((((sv[iv.toNat]!).qC).qG).length) Qs 24 1 f7)::(rr yu ((((sv[iv.toNat]!).qC).qE).length) yt 2 1 ((((sv[iv.toNat]!).qC).qE).map<|Value.int .i64))::(rr QK QE QI 4 1 ((gotTo iv mg).map<|Value.bool))::(rr bV ((((sv[iv.toNat]!).qC).qJ).length) bU 24 1 ct)::(rr eb ((((sv[iv.toNat]!).qC).vJ).length) ea 29 1 em)::(rr cG ((((sv[iv.toNat]!).qC).xP).length) cJ 29 1 dz)::(.box sb [.int .i64 s.qP,Sv ap s.qA.length cp,Sv ar s.qB.length cr] 27)::(rr (some ⟨b1,0,none⟩) sv.length cC 49 16 bZ)::(rr cM wi.length bJ 77 4 bM)::ps) ((sF true acQ K6 NU ((jU s vs (xw s vs) bz)[x]!))::(sF true lB Om N5<|aJ[(vC own x:Int).toNat]!)::(sF false Fo (some ⟨mi,ml,none⟩) co own)::(qL true gb f7 ((jD s own (sv[iv.toNat]!).qC iv bz).set bz<|vS ((jD s own (sv[iv.toNat]!).qC iv bz)[bz]!) (yF s (xw s vs) bz s.qB.length) (-1)))::(qL true cY dS<|jU s vs (xw s vs) bz)::(qL true jC yz aJ)::(qL true cF j0 (((sv[iv.toNat]!).qC).qG))::(qL true ai ct (((sv[iv.toNat]!).qC).qJ))::(qL true be em (((sv[iv.toNat]!).qC).vJ))::(qL true aP dz (((sv[iv.toNat]!).qC).xP))::(sF false Fp ap cp s.qA)::(sF false Fr ar cr s.qB)::(qL true aF bZ sv)::(qL true az bM wi)::Γ)) 4 #[true,true,true,true,true,true,true,true,false,true,false,false,true,true,true,true,false] ?_ fun agF=>?_
          ·rintro ρ ayF ⟨xI,Om,N5,K6,NU,acQ,lB,rfl,aiV,Mz,N,H⟩
           refine ro 8 rfl ?_
           obtain ⟨aws,apS,atM,alz,H⟩:=H.yC 3 rfl 5 rfl (iv:=vC own x) ((vC own x:Int).toNat) qf qf
           refine zB (Sv aws ((aJ[(vC own x:Int).toNat]!).length) apS) isAgg29 rfl ((H.xX 3 rfl alz qf))<|⟨H.pick (zR 0 18)<|zR 3 12,?_⟩
           obtain ⟨ayd,awk,rfl⟩:=H.addr 0 rfl qf
           obtain ⟨am3,alC,aqp,H⟩:=H.yD 0 rfl x x qf qf qf
           refine tI 10 rfl rfl rfl (H.pick (zR 0 18)<|zR 5 12) ?_
           exact je acj ⟨_,Om,N5,K6,NU,ayd,awk,acQ,aqp,am3,alC,atM,apS,lB,uE12,aiV,Mz,N,H.qY 18 17 (zR 0 18) (3::0::1::2::zR 4 13) (by simp only [List.length_cons,List.length_append];omega)<|by simp only [List.length_cons,List.length_append];omega⟩
          have S:=H.zK (zR 0 18)<|zR 0 12
          refine rtl 0 S ?_
          refine rtl 1 S ?_
          refine tI 2 rfl rfl rfl S ?_
          refine rtp 4 (.int .i64 x) S ?_
          refine rtl 5 S ?_
          refine rtl 6 S ?_
          refine tI 7 rfl rfl rfl S ?_
          refine rtp 9 (.int .i64 x) S ?_
          refine rtl 12 S ?_
          refine rtp 13 (.int .i64 x) S ?_
          refine tI 14 rfl rfl rfl S ?_
          refine jw [3,8,15] qh qm<|jT rfl ?_<|jT rfl ?_<|jT rfl ?_ jy
          ·obtain ⟨Zs,ZU,aiq,Np,H⟩:=H.yC 3 rfl 3 rfl (iv:=vC own x) ((vC own x:Int).toNat) qf qf
           refine zB (Sv Zs ((aJ[(vC own x:Int).toNat]!).length) ZU) isAgg29 rfl ((H.xX 3 rfl Np qf))<|⟨H.pick (zR 0 18)<|zR 1 12,(jw [8,15] qh qm<|jT rfl ?_<|jT rfl ?_ jy)⟩
           ·obtain ⟨atR,agL,axC,agc,H⟩:=H.yC 3 rfl 4 rfl (iv:=vC own x) ((vC own x:Int).toNat) qf qf
            refine zB (Sv atR ((aJ[(vC own x:Int).toNat]!).length) agL) isAgg29 rfl ((H.xX 3 rfl agc qf))<|⟨H.pick (zR 0 18)<|zR 2 12,?_⟩
            obtain ⟨EI,atK,rfl⟩:=H.addr 0 rfl qf
            obtain ⟨amd,ala,akk,H⟩:=H.yD 0 rfl x x qf qf qf
            refine tI 10 rfl rfl rfl (H.pick (zR 0 18)<|zR 4 12) ?_
            exact je ake ⟨_,Zs,ZU,EI,atK,akk,amd,ala,axC,agL,aiq,uE12,Np,N,H⟩
           ·obtain ⟨ags,aiJ,axy,Gl,H⟩:=H.yC 2 rfl 3 rfl (iv:=x) x qf qf
            refine zB (Sv ags (((jU s vs (xw s vs) bz)[x]!).length) aiJ) isAgg24 rfl ((H.xX 2 rfl Gl qf))<|⟨H.pick (zR 0 18)<|zR 2 12,(je agF ⟨_,Zs,ZU,ags,aiJ,axy,aiq,uE13,Np,Gl,N,H⟩)⟩
          ·obtain ⟨avH,acB,als,La,H⟩:=H.yC 3 rfl 3 rfl (iv:=vC own x) ((vC own x:Int).toNat) qf qf
           refine zB (Sv avH ((aJ[(vC own x:Int).toNat]!).length) acB) isAgg29 rfl ((H.xX 3 rfl La qf))<|⟨H.pick (zR 0 18)<|zR 1 12,?_⟩
           obtain ⟨akD,aoz,rfl⟩:=H.addr 0 rfl qf
           obtain ⟨DL,Dk,Fs,H⟩:=H.yD 0 rfl x x qf qf qf
           refine tI 10 rfl rfl rfl (H.pick (zR 0 18)<|zR 3 12)<|jw [3,11,15] qh qm<|jT rfl ?_<|jT rfl ?_<|jT rfl ?_ jy
           ·obtain ⟨aqO,anU,axf,WX,H⟩:=H.yC 3 rfl 6 rfl (iv:=vC own x) ((vC own x:Int).toNat) qf qf
            refine zB (Sv aqO ((aJ[(vC own x:Int).toNat]!).length) anU) isAgg29 rfl ((H.xX 3 rfl WX qf))<|⟨H.pick (zR 0 18)<|zR 4 12,(je ake ⟨_,aqO,anU,akD,aoz,Fs,DL,Dk,als,acB,axf,uE12,WX,N,H.qY 18 16 (zR 0 18) (1::2::3::0::zR 4 12) (by simp only [List.length_cons,List.length_append];omega)<|by simp only [List.length_cons,List.length_append];omega⟩)⟩
           ·refine zB (Sv DL (((aJ[(vC own x:Int).toNat]!)[x]!).length) Dk) isAgg24 rfl (H.vW 1 rfl 0 rfl) (⟨H.pick (zR 0 18)<|zR 3 12,(jw [3,15] qh qm<|jT rfl ?_<|jT rfl ?_ jy)⟩)
            ·obtain ⟨aqj,afv,ays,HQ,H⟩:=H.yC 3 rfl 6 rfl (iv:=vC own x) ((vC own x:Int).toNat) qf qf
             refine zB (Sv aqj ((aJ[(vC own x:Int).toNat]!).length) afv) isAgg29 rfl ((H.xX 3 rfl HQ qf))<|⟨H.pick (zR 0 18)<|zR 4 12,(je Kt ⟨_,aqj,afv,DL,Dk,Fs,ays,uE12,HQ,N,H.qY 18 16 (zR 0 18) (1::0::zR 4 12) (by simp only [List.length_cons,List.length_append];omega)<|by simp only [List.length_cons,List.length_append];omega⟩)⟩
            ·obtain ⟨amu,akL,avZ,U1,H⟩:=H.yC 2 rfl 5 rfl (iv:=x) x qf qf
             refine zB (Sv amu (((jU s vs (xw s vs) bz)[x]!).length) akL) isAgg24 rfl ((H.xX 2 rfl U1 qf))<|⟨H.pick (zR 0 18)<|zR 4 12,(je ahG ⟨_,amu,akL,DL,Dk,avZ,Fs,uE12,U1,N,H.qY 18 16 (zR 0 18) (0::1::zR 4 12) (by simp only [List.length_cons,List.length_append];omega)<|by simp only [List.length_cons,List.length_append];omega⟩)⟩
           ·obtain ⟨an3,afs,auC,Y6,H⟩:=H.yC 2 rfl 5 rfl (iv:=x) x qf qf
            refine zB (Sv an3 (((jU s vs (xw s vs) bz)[x]!).length) afs) isAgg24 rfl ((H.xX 2 rfl Y6 qf))<|⟨H.pick (zR 0 18)<|zR 4 12,(je amr ⟨_,an3,afs,akD,aoz,auC,Fs,DL,Dk,als,acB,uE12,Y6,N,H⟩)⟩
          ·obtain ⟨aaE,abS,alM,Mn,H⟩:=H.yC 2 rfl 2 rfl (iv:=x) x qf qf
           refine zB (Sv aaE (((jU s vs (xw s vs) bz)[x]!).length) abS) isAgg24 rfl ((H.xX 2 rfl Mn qf))<|⟨H.pick (zR 0 18)<|zR 1 12,(jw [3,8] qh qm<|jT rfl ?_<|jT rfl ?_ jy)⟩
           ·obtain ⟨aln,al8,axg,Yp,H⟩:=H.yC 3 rfl 4 rfl (iv:=vC own x) ((vC own x:Int).toNat) qf qf
            refine zB (Sv aln ((aJ[(vC own x:Int).toNat]!).length) al8) isAgg29 rfl ((H.xX 3 rfl Yp qf))<|⟨H.pick (zR 0 18)<|zR 2 12,(je agF ⟨_,aln,al8,aaE,abS,alM,axg,uE13,Yp,Mn,N,H.qY 18 14 (zR 0 18) (1::0::zR 2 12) (by simp only [List.length_cons,List.length_append];omega)<|by simp only [List.length_cons,List.length_append];omega⟩)⟩
           ·obtain ⟨auK,afE,ayi,ap0,H⟩:=H.yC 3 rfl 4 rfl (iv:=vC own x) ((vC own x:Int).toNat) qf qf
            refine zB (Sv auK ((aJ[(vC own x:Int).toNat]!).length) afE) isAgg29 rfl ((H.xX 3 rfl ap0 qf))<|⟨H.pick (zR 0 18)<|zR 2 12,?_⟩
            obtain ⟨at8,av7,rfl⟩:=H.addr 0 rfl qf
            obtain ⟨alu,aoQ,aqf,H⟩:=H.yD 0 rfl x x qf qf qf
            refine tI 10 rfl rfl rfl (H.pick (zR 0 18)<|zR 4 12) ?_
            exact je amr ⟨_,aaE,abS,at8,av7,alM,aqf,alu,aoQ,ayi,afE,uE12,Mn,N,H.qY 18 16 (zR 0 18) (3::0::1::2::zR 4 12) (by simp only [List.length_cons,List.length_append];omega)<|by simp only [List.length_cons,List.length_append];omega⟩
         ·clear H N
          rintro ρ aIp ⟨xI,wH,wP,Sg,Tc,alK,rfl,ae4,N,H⟩
          obtain ⟨ali,aFg,rfl⟩:=H.addr 0 rfl qf
          obtain ⟨aBD,aBT,aAg,H⟩:=H.yD 0 rfl x x qf qf qf
          refine oI rfl rfl ?_
          obtain ⟨anV,N,aDt,H⟩:=H.ve 0 rfl N<|fun F hF b hb=>(List.mem_append.1<|show F∈[gb,cY,cF,ai,be,aP,aF,az,jC]++Ns from hF).elim (fun h=>(H.vg (L:=[gb,cY,cF,ai,be,aP,aF,az,jC]) [4,5,7,8,9,10,13,14,6]) F h b hb) fun h=>H.jH (K0.behind 15 rfl) F h b hb
          try dsimp only [List.set] at H
          have N0:Fresh W0.heap.size (jC::anV::gb::cY::cF::ai::be::aP::aF::az::Ns):=(N.qY 10 (9::zR 0 9)<|by simp only [List.length_cons,List.length_append];omega)
          obtain ⟨azL,aj1⟩:∃ z,z=(aJ.set ((vC own x:Int).toNat) ((aJ[(vC own x:Int).toNat]!).set x (vS ((aJ[(vC own x:Int).toNat]!)[x]!) ((jU s vs (xw s vs) bz)[x]!) 1))):=⟨_,rfl⟩
          refine sw<|o_pokePart Qo.refl H 7 rfl 0 rfl N0 ((sF true anV Sg Tc<|vS ((aJ[(vC own x:Int).toNat]!)[x]!) ((jU s vs (xw s vs) bz)[x]!) 1)::(sF false Fo (some ⟨mi,ml,none⟩) co own)::(qL true gb f7 ((jD s own (sv[iv.toNat]!).qC iv bz).set bz<|vS ((jD s own (sv[iv.toNat]!).qC iv bz)[bz]!) (yF s (xw s vs) bz s.qB.length) (-1)))::(qL true cY dS<|jU s vs (xw s vs) bz)::(qL true cF j0 (((sv[iv.toNat]!).qC).qG))::(qL true ai ct (((sv[iv.toNat]!).qC).qJ))::(qL true be em (((sv[iv.toNat]!).qC).vJ))::(qL true aP dz (((sv[iv.toNat]!).qC).xP))::(sF false Fp ap cp s.qA)::(sF false Fr ar cr s.qB)::(qL true aF bZ sv)::(qL true az bM wi)::Γ) (vw (kept 0 rfl<|QJ N0 0 rfl)<|vw (kept 4 rfl<|Xo OL 2 rfl N0)<|vw (kept 5 rfl<|QJ N0 1 rfl)<|vw (kept 6 rfl<|QJ N0 2 rfl)<|vw (kept 8 rfl<|QJ N0 3 rfl)<|vw (kept 9 rfl<|QJ N0 4 rfl)<|vw (kept 10 rfl<|QJ N0 5 rfl)<|vw (kept 11 rfl<|QJ N0 6 rfl)<|vw (kept 12 rfl<|Xo OL 0 rfl N0)<|vw (kept 13 rfl<|Xo OL 1 rfl N0)<|vw (kept 14 rfl<|QJ N0 7 rfl)<|vw (kept 15 rfl<|QJ N0 8 rfl)<|keeps_old 16 rfl OL 3 rfl N0) ((vC own x:Int).toNat) qf rfl ae4 x qf rfl sizeOf24 rfl qf rfl aj1 fun aDI aKg N H=>(xW<|b_n<|t_n<|xZ<|sp (.int .i64 x)<|sw<|zV x 1 rfl rfl qf<|sq 1<|xW<|xq (m' :=(((jU s vs (xw s vs) bz).length) - ((x+1):Int)).toNat) qf ⟨_,x+1,_,_,_,uE8,?_,?_,rfl,(N.qY 9 [1,2,3,4,5,6,7,8,0]<|by simp only [List.length_cons,List.length_append];omega),H.qY 19 13 [2,3,4,5,6,7,8,9,10,11,12,13,14,15,1,16,17,18] [3,4,0,5,6,7,8,9,10,2,11,12] (by simp only [List.length_cons,List.length_append];omega)<|by simp only [List.length_cons,List.length_append];omega⟩)
          ·omega
          ·exact add_step i3 rfl ql
        ·have e3:x=s.qA.length+1:=by omega
         refine c_exit<|t_x<|t_x<|b_x<|b_n<|t_n<|xZ<|sq 1<|sw<|zV bz 1 rfl rfl qf<|sq 1<|xW<|xq (m' :=(own.length - ((bz+1):Int)).toNat) qf ⟨_,bz+1,_,_,_,_,_,_,uE6,?_,?_,?_,rfl,(N.qY 9 [2,3,4,5,6,7,8,0]<|by simp only [List.length_cons,List.length_append];omega),H.qY 18 12 (zR 2 16) (2::3::0::zR 4 8) (by simp only [List.length_cons,List.length_append];omega)<|by simp only [List.length_cons,List.length_append];omega⟩
         ·first | (subst DP;exact (sBags_yes ql).symm) | exact (sBags_no ql).symm
         ·omega
         ·first | exact i2.trans (nowTo_no ‹_›).symm | exact now_end i3 e3 ‹_›
      ·have e2:bz=s.qA.length:=by omega
       obtain ⟨n6,n7⟩:=now_ok p0 v3 qf (j:=iv.toNat) qf i2
       refine zx4<|zcc<|sp (.int .i64 0)<|zjn<|xg<|zU ((fun Z0 Z1 Z2 Z3 Z4 Z5 Z6 Z7 Z8 Z9 fH fZ iw kH mh mj sf Aw DA IJ J5 RN So Z23 Z24 Z25 Z26=>fun m' ρ avU=>∃ (xI:Env) (rf:Nat),ρ=upd (upd (upd (upd (upd xI 0<|.pointer<|some ⟨bk,0,none⟩) 1<|.int .i64 iv) 5<|.pointer<|some ⟨lT,0,none⟩) 7<|Sv fm QD Q4) 14 (.int .i64 rf)/\((rf:Int)<=QD)/\(AllB3 eh rf)/\m' =(QD - (rf:Int)).toNat/\Fresh W0.heap.size (cF::ai::be::aP::aF::az::yB::vU::Ns)/\St W0 avU (Z0::Z1::Z2::Z3::Z4::Z5::Z6::Z7::Z8::Z9::fH::fZ::iw::kH::mh::mj::ps) (sf::Aw::DA::IJ::J5::RN::So::Z23::Z24::Z25::Z26::Γ)) _ _ _ _ _ _ _ _ _ _ _ _ _ _ _ _ _ _ _ _ _ _ _ _ _ _ _) ((QD - (0:Int)).toNat) ⟨_,0,uE5,qf,qx,rfl,N,H⟩ ?_
       clear H N
       rintro m' ρ auv ⟨xI,rf,rfl,i0,i5,rfl,N,H⟩
       refine zcc<|sq 2<|oN rfl<|sq 1<|zjn<|cD rfl (fun ayL=>?_)<|fun ayL=>?_
       ·refine xk (t_n<|xH<|xg<|zcr<|sq 2 ?_)
        obtain ⟨aJW,rfl⟩:=H.jg 0 rfl qf
        refine oI rfl rfl ?_
        obtain ⟨aHh,aFB,aKD,aht,H⟩:=H.yC 0 rfl 0 rfl (iv:=rf) rf qf qf
        refine oL rfl ((H.xX 0 rfl aht qf))<|sw<|oq (l08Bags_ok _ (eh[rf]!) (H.get 0 rfl).1) H fun aJm H=>sq 1<|zjn<|cQ rfl (fun ayb=>?_)<|fun ayb=>?_
        ·refine zcr (sp (.int .i64 3)<|zjr<|zr5<|ret1 (.int .i64 3) rfl rfl ⟨_,rfl,?_⟩)
         subst DP
         first | rw [workR_3 ql ql] | rw [workR_no p2.1 ql ql e2 i2 (j:=rf) qf ql]
         exact ⟨bZ,aF,cM,wi.length,bJ,bM,az,rfl,(N.qY 8 [4,5]<|by simp only [List.length_cons,List.length_append];omega),H.qY 16 12 (zR 12 4) (zR 7 5) (by simp only [List.length_cons,List.length_append];omega)<|by simp only [List.length_cons,List.length_append];omega⟩
        ·refine xk (b_n<|t_n<|xZ<|sq 1<|sw<|zV rf 1 rfl rfl qf<|sq 1<|xW<|xq (m' :=(QD - ((rf+1):Int)).toNat) qf ⟨_,rf+1,uE5,?_,?_,rfl,N,H.qY 16 12 (zR 0 16) (zR 1 11) (by simp only [List.length_cons,List.length_append];omega)<|by simp only [List.length_cons,List.length_append];omega⟩)
         ·omega
         ·exact i5.succ ql
       ·refine zx4 (zcr<|sq 1<|oF rfl<|sw<|xO H 5 [.int .i64 (((sv[iv.toNat]!).qC).qN),Sv fQ ((((sv[iv.toNat]!).qC).qG).length) Qs,Sv yu ((((sv[iv.toNat]!).qC).qE).length) yt,Bv (((sv[iv.toNat]!).qC).qQ),Sv QK QE QI,Sv bV ((((sv[iv.toNat]!).qC).qJ).length) bU,Sv fm QD Q4,Sv cG ((((sv[iv.toNat]!).qC).xP).length) cJ] sizeOf45 fun auh H=>?_)
        try dsimp only [List.set] at H
        refine zjc<|sq 1<|sp (.int .i64 iv) ?_
        obtain ⟨CX,rfl⟩:=H.jg 0 rfl qf
        refine oI rfl rfl ?_
        obtain ⟨aFn,aIX,aKu,KV,H⟩:=H.yC 0 rfl 0 rfl (iv:=iv) iv.toNat qf qf
        refine oL rfl ((H.xX 0 rfl KV qf)) ?_
        have aeX:=H.base.size
        have aom:=jB (H.ltN (L:=[cF,ai,be,aP,aF,az,yB,vU]) [2,4,5,6,10,11,1,3])<|H.ltK<|K0.behind 12 rfl
        refine sw<|oc (Qn _ (eh[iv.toNat]!) (H.get 0 rfl).1 qg) ?_
        rintro _ aId ⟨HO,aCr,Gv,aAp,tY,rfl,M,K⟩ _
        replace N:=N.merge aeX aom M
        replace H:=H.merge K M
        dsimp only [List.cons_append,List.nil_append] at H
        obtain rfl:=H.xe (α:=yLI) 0 rfl 0 rfl qj
        refine oF rfl<|sw<|xO H 6 [.int .i64 (((sv[iv.toNat]!).qC).qN),Sv fQ ((((sv[iv.toNat]!).qC).qG).length) Qs,Sv yu ((((sv[iv.toNat]!).qC).qE).length) yt,Bv (((sv[iv.toNat]!).qC).qQ),Sv QK QE QI,Sv HO ((eh[iv.toNat]!).length) Gv,Sv (some ⟨CX,0,none⟩) QD Q4,Sv cG ((((sv[iv.toNat]!).qC).xP).length) cJ] sizeOf29 fun aIU H=>?_
        try dsimp only [List.set] at H
        refine zjc<|oF rfl<|sw<|xO H 6 [.int .i64 (((sv[iv.toNat]!).qC).qN),Sv fQ ((((sv[iv.toNat]!).qC).qG).length) Qs,Sv yu ((((sv[iv.toNat]!).qC).qE).length) yt,Bv true,Sv QK QE QI,Sv HO ((eh[iv.toNat]!).length) Gv,Sv (some ⟨CX,0,none⟩) QD Q4,Sv cG ((((sv[iv.toNat]!).qC).xP).length) cJ] sizeOf4 fun avf H=>?_
        try dsimp only [List.set] at H
        refine zjn<|xH<|zY 3 rfl H [0,1,2,3,4,5,6,7,8,9,10,11,12,13,14,15,16] [0,1,2,3,4,5,6,7,8,9,10,11,12] fun H=>?_
        dsimp only [jR,yE]
        have S:=H.zK (zR 0 17)<|zR 0 13
        refine rtl 0 S ?_
        refine rtl 1 S ?_
        refine tF 2 rfl rfl S ?_
        refine tF 3 rfl rfl S ?_
        refine tL 4 rfl rfl (fun _ h=>h.cell 13 rfl rfl) S ?_
        refine rtp 5 (.int .i64 iv) S ?_
        refine rt 6 _ (yh (cs:=[.int .i64 (((sv[iv.toNat]!).qC).qN),Sv fQ ((((sv[iv.toNat]!).qC).qG).length) Qs,Sv yu ((((sv[iv.toNat]!).qC).qE).length) yt,Bv true,Sv QK QE QI,Sv HO ((eh[iv.toNat]!).length) Gv,Sv (some ⟨CX,0,none⟩) QD Q4,Sv cG ((((sv[iv.toNat]!).qC).xP).length) cJ]) isAgg47 sizeOf47 rfl<|fun _ h=>qK (h.cells 6 rfl) 0 8) S ?_
        refine xy qh<|xM<|oI rfl rfl<|oF rfl ?_
        have H0:=H
        obtain ⟨oA,UE,aBC,H⟩:=H.vK (α:=yLI) 7 rfl 4 rfl qj
        replace N:Fresh W0.heap.size (oA::tY::cF::ai::be::aP::aF::az::yB::Ns):=Fresh.ice (N.qY 9 (8::zR 0 8)<|by simp only [List.length_cons,List.length_append];omega) H0 7 UE.1 UE.2<|fun F hF b hb=>(List.mem_append.1<|show F∈[tY,cF,ai,be,aP,aF,az,yB]++Ns from hF).elim (fun h=>(H0.vg (L:=[tY,cF,ai,be,aP,aF,az,yB]) [0,3,5,6,7,11,12,2]) F h b hb) fun h=>H0.jH (K0.behind 13 rfl) F h b hb
        clear H0
        try dsimp only [List.set] at H
        obtain ⟨sg,N,aCa,H⟩:=H.ve 8 rfl N<|fun F hF b hb=>(List.mem_append.1<|show F∈[oA,tY,cF,ai,be,aP,aF,az,yB]++Ns from hF).elim (fun h=>(H.vg (L:=[oA,tY,cF,ai,be,aP,aF,az,yB]) [0,1,4,6,7,8,12,13,3]) F h b hb) fun h=>H.jH (K0.behind 14 rfl) F h b hb
        try dsimp only [List.set] at H
        obtain ⟨wA,N,aCv,H⟩:=H.freezeB 9 rfl N<|fun F hF b hb=>(List.mem_append.1<|show F∈[sg,oA,tY,cF,ai,be,aP,aF,az,yB]++Ns from hF).elim (fun h=>(H.vg (L:=[sg,oA,tY,cF,ai,be,aP,aF,az,yB]) [0,1,2,5,7,8,9,13,14,4]) F h b hb) fun h=>H.jH (K0.behind 15 rfl) F h b hb
        try dsimp only [List.set] at H
        have H0:=H
        obtain ⟨CC,UT,aAw,H⟩:=H.vK (α:=yLI) 0 rfl 3 rfl qj
        replace N:Fresh W0.heap.size (CC::wA::sg::oA::cF::ai::be::aP::aF::az::yB::Ns):=Fresh.ice (N.qY 11 (3::0::1::2::zR 4 7)<|by simp only [List.length_cons,List.length_append];omega) H0 0 UT.1 UT.2<|fun F hF b hb=>(List.mem_append.1<|show F∈[wA,sg,oA,cF,ai,be,aP,aF,az,yB]++Ns from hF).elim (fun h=>(H0.vg (L:=[wA,sg,oA,cF,ai,be,aP,aF,az,yB]) [0,1,2,6,8,9,10,14,15,5]) F h b hb) fun h=>H0.jH (K0.behind 16 rfl) F h b hb
        clear H0
        try dsimp only [List.set] at H
        have H0:=H
        obtain ⟨Lw,VV,aBA,H⟩:=H.vK (α:=yLL) 1 rfl 6 rfl qj
        replace N:Fresh W0.heap.size (Lw::CC::wA::sg::oA::cF::ai::be::aP::aF::az::Ns):=Fresh.ice (N.qY 11 (10::zR 0 10)<|by simp only [List.length_cons,List.length_append];omega) H0 1 VV.1 VV.2<|fun F hF b hb=>(List.mem_append.1<|show F∈[CC,wA,sg,oA,cF,ai,be,aP,aF,az]++Ns from hF).elim (fun h=>(H0.vg (L:=[CC,wA,sg,oA,cF,ai,be,aP,aF,az]) [0,1,2,3,7,9,10,11,15,16]) F h b hb) fun h=>H0.jH (K0.behind 17 rfl) F h b hb
        clear H0
        try dsimp only [List.set] at H
        have H0:=H
        obtain ⟨aon,VZ,aCD,H⟩:=H.vK (α:=yLL) 12 rfl 12 rfl qj
        replace N:Fresh W0.heap.size (aon::Lw::CC::wA::sg::oA::cF::ai::be::aF::az::Ns):=Fresh.ice (N.qY 11 [8,0,1,2,3,4,5,6,7,9,10]<|by simp only [List.length_cons,List.length_append];omega) H0 12 VZ.1 VZ.2<|fun F hF b hb=>(List.mem_append.1<|show F∈[Lw,CC,wA,sg,oA,cF,ai,be,aF,az]++Ns from hF).elim (fun h=>(H0.vg (L:=[Lw,CC,wA,sg,oA,cF,ai,be,aF,az]) [0,1,2,3,4,8,10,11,16,17]) F h b hb) fun h=>H0.jH (K0.behind 18 rfl) F h b hb
        clear H0
        try dsimp only [List.set] at H
        replace H:=H.mk_DeskD (((sv[iv.toNat]!).qC).qN) 5 rfl 4 rfl true 3 rfl 2 rfl 1 rfl 0 rfl
        replace N:Fresh W0.heap.size ((oA++sg++wA++CC++Lw++aon)::cF::ai::be::aF::az::Ns):=(N.qY 11 [5,4,3,2,1,0,6,7,8,9,10]<|by simp only [List.length_cons,List.length_append];omega).join.join.join.join.join
        obtain ⟨azw,WO⟩:∃ z,z=(sv.set iv.toNat { sv[iv.toNat]! with qC:=(⟨((sv[iv.toNat]!).qC).qN,(jD s own (sv[iv.toNat]!).qC iv bz),((sv[iv.toNat]!).qC).qE,true,(gotTo iv mg),(eh[iv.toNat]!),eh,((sv[iv.toNat]!).qC).xP⟩:zn)}):=⟨_,rfl⟩
        refine sw<|Xu (v:=.agg #[.int .i64 (((sv[iv.toNat]!).qC).qN),Sv fQ ((((sv[iv.toNat]!).qC).qG).length) Qs,Sv yu ((((sv[iv.toNat]!).qC).qE).length) yt,Bv true,Sv QK QE QI,Sv HO ((eh[iv.toNat]!).length) Gv,Sv (some ⟨CX,0,none⟩) QD Q4,Sv cG ((((sv[iv.toNat]!).qC).xP).length) cJ]) zg H 15 rfl 18 rfl 0 rfl rfl sizeOf47 rfl rfl rfl iv.toNat qf qf WO fun ayw afj ah4 aip H=>?_
        try dsimp only [List.set] at H
        replace N:Fresh W0.heap.size (ah4::cF::ai::be::az::Ns):=(N.qY 6 [4,0,1,2,3,5]<|by simp only [List.length_cons,List.length_append];omega).repl aip
        refine zjc<|sp (.int .i64 0)<|zjr<|ret1 (.int .i64 0) rfl rfl ⟨_,rfl,?_⟩
        subst DP
        rw [swork_0 p2.1 rfl ql ql e2 i2 (fun j hj=>i5 j qf) (sb_end p0 p2.1 y1.1 e2) (gotTo_all p2.1 qf) WO]
        exact ⟨afj,ah4,cM,wi.length,bJ,bM,az,rfl,(N.qY 5 [0,4]<|by simp only [List.length_cons,List.length_append];omega),H.qY 17 21 (zR 13 4) [16,17,18,0,20] (by simp only [List.length_cons,List.length_append];omega)<|by simp only [List.length_cons,List.length_append];omega⟩
end
section
theorem sdo_ok (s:qM) (own:yLI) (ap:yOA) (cp:Nat) (Fp:yLN) (ar:yOA) (cr:Nat) (Fr:yLN) (ao:yOA) (co:Nat) (Fo:yLN) (sb:Nat) (sv:List zA) (wi:List zk) (bk:Nat) (n:Nat) (eG:yOA) (eo:Nat) (cC:Nat) (bZ:List Value) (aF:yLN) (cM:yOA) (ke:Nat) (bJ:Nat) (bM:List Value) (az:yLN) (d:xm) (H:St W0 w ((.box bk [pp sb 0,Sv ao own.length co,Sv eG eo cC,Sv cM ke bJ] 86)::(.box sb (yS s ap cp ar cr) 27)::(rr eG eo cC 49 16 bZ)::(rr cM ke bJ 77 4 bM)::ps) ((sF false Fp ap cp s.qA)::(sF false Fr ar cr s.qB)::(sF false Fo ao co own)::(qL true aF bZ sv)::(qL true az bM wi)::Γ)) (N:Fresh W0.heap.size (aF::az::Ns)) (K0:Kept Ns Γ) (p0:Giv s own n) (p1:Vu s own n (⟨sv,wi⟩:zQ)) (p2:DeedOk d) (OL:∀ f∈(sF false Fp ap cp s.qA::sF false Fr ar cr s.qB::sF false Fo ao co own::Γ),∀ b∈f.F,b < W0.heap.size):Calls Tryz.prog 65 #[pp bk 0,.agg #[yI d.xE,yI d.fA,yI d.fB]] w (fun e w' =>∃ v,e=.returned v/\∃ (pB:List Value) (pJ:yLN) (pN:yOA) (pK:Nat) (pi:Nat) (pC:List Value) (pq:yLN),v=yI ((doM s own (⟨sv,wi⟩:zQ) d).2)/\Fresh W0.heap.size (pJ::pq::Ns)/\St W0 w' ((.box bk [pp sb 0,Sv ao own.length co,Sv eG eo cC,Sv pN pK pi] 86)::(.box sb (yS s ap cp ar cr) 27)::(rr eG eo cC 49 16 pB)::(rr pN pK pi 77 4 pC)::ps) ((sF false Fp ap cp s.qA)::(sF false Fr ar cr s.qB)::(sF false Fo ao co own)::(qL true pJ pB ((doM s own (⟨sv,wi⟩:zQ) d).1.qF))::(qL true pq pC ((doM s own (⟨sv,wi⟩:zQ) d).1.zu))::Γ)):=by
 refine en func65 ntmps65 ?_
 have ug:=qO (H.get 0 rfl).1
 have th:=qO (H.get 1 rfl).1
 have sy:=qO (H.get 2 rfl).1
 obtain rfl:=H.xe (α:=zA) 2 rfl 3 rfl qj
 obtain rfl:=H.xe (α:=zk) 3 rfl 4 rfl qj
 have g1:=p0.sys
 have g2:=p0.len
 have g3:=p0.own
 have g4:=p0.few
 have l1:sv.length=n:=p1.len
 have l2:wi.length<=12:=p1.few
 have d1:=p2.1
 have d2:=p2.2.1
 have d3:=p2.2.2.1
 refine zcr<|sw<|jq H [yI d.xE,yI d.fA,yI d.fB] fun b1 w2 H=>sp (yI 0)<|zjcc<|oF rfl<|oL rfl (H.cell 0 rfl rfl)<|zjn<|xg<|zcc<|sp (Bv ((d.xE:Int) == 3))<|sp (Bv ((d.xE:Int) == 3))<|zjn<|c_cut (fun ρ w3=>∃ (xI:Env) (t8:Bool),ρ=upd (upd (upd (upd xI 0<|pp bk 0) 3<|pp b1 0) 7<|yI d.xE) 8 (Bv t8)/\(t8=true<->(d.xE=3\/d.xE=4))/\Fresh W0.heap.size (aF::az::Ns)/\St W0 w3 ((.box b1 [yI d.xE,yI d.fA,yI d.fB] 44)::(.box bk [pp sb 0,Sv ao own.length co,Sv eG sv.length cC,Sv cM wi.length bJ] 86)::(.box sb (yS s ap cp ar cr) 27)::(rr eG sv.length cC 49 16 bZ)::(rr cM wi.length bJ 77 4 bM)::ps) ((sF false Fp ap cp s.qA)::(sF false Fr ar cr s.qB)::(sF false Fo ao co own)::(qL true aF bZ sv)::(qL true az bM wi)::Γ)) ?_ ?_
 ·refine cE rfl (fun h4=>?_) (fun h4=>?_)
  ·try (have k8:=j8.1 ql)
   refine xk<|meet ⟨_,(d.xE:Int) == 3,uE4,?_,N,H⟩
   ·first | exact iff_of_true rfl qf | exact beq_iff_eq.trans ⟨fun h=>by omega,fun h=>by omega⟩
  try (have k8:¬ (d.xE=3\/d.xE=4):=fun z=>by have z:=j8.2 z;simp_all)
  refine xZ<|sp (Bv ((d.xE:Int) == 4))<|sp (Bv ((d.xE:Int) == 4))<|xW<|meet ⟨_,(d.xE:Int) == 4,uE4,?_,N,H⟩
  ·first | exact iff_of_true rfl qf | exact beq_iff_eq.trans ⟨fun h=>by omega,fun h=>by omega⟩
 clear H N
 rintro ρ w5 ⟨xI,t8,rfl,j8,N,H⟩
 refine t_n<|vk _ rfl (fun h6=>?_)<|fun h6=>?_
 ·try (have k8:=j8.1 ql)
  refine zcr<|sq 1<|sw<|zi [yI d.xE,yI d.fA,yI d.fB] isAgg44 sizeOf44 rfl (qK (H.cells 0 rfl) 0 3)<|sw<|zX #[pp bk 0,.agg #[yI d.xE,yI d.fA,yI d.fB]] rfl rfl call106<|en func106 ntmps106 ?_
  refine zcr<|sw<|jq H [yI d.xE,yI d.fA,yI d.fB] fun b7 w8 H=>sp (yI 0)<|zjn<|xH<|xH<|zY 1 rfl H [0,1,2,3,4,5] [0,1,2,3,4] fun H=>?_
  dsimp only [jR,yE]
  have S:=H.zK (zR 0 6)<|zR 0 5
  refine tF 0 rfl rfl S ?_
  refine tL 1 rfl rfl (fun _ h=>h.cell 0 rfl rfl) S ?_
  refine rtl 2 S ?_
  refine rtl 3 S ?_
  refine tF 4 rfl rfl S ?_
  refine tF 5 rfl rfl S ?_
  refine tL 6 rfl rfl (fun _ h=>h.cell 2 rfl rfl) S ?_
  refine tN 7 rfl rfl S ?_
  refine rtp 8 (Bv<|decide ((d.fA:Int)>=sv.length)) S ?_
  refine rtp 9 (Bv<|decide ((d.fA:Int)>=sv.length)) S ?_
  cases fe:(decide ((d.fA:Int)>=sv.length))
  ·replace fe:=of_decide_eq_false fe
   have S:=H.zK (zR 0 6)<|zR 0 5
   refine gF 10 rfl rfl S ?_
   refine gL 11 rfl rfl (fun _ h=>h.cell 0 rfl rfl) S ?_
   refine rgl 12 15 S ?_
   refine rgl 13 15 S ?_
   refine gF 14 rfl rfl S ?_
   refine gF 15 rfl rfl S ?_
   refine gL 16 rfl rfl (fun _ h=>h.cell 2 rfl rfl) S ?_
   refine gN 17 rfl rfl S ?_
   refine rgp 18 (Bv<|decide ((d.fB:Int)>=sv.length)) 15 S ?_
   refine rtp 19 (Bv<|decide ((d.fB:Int)>=sv.length)) S ?_
   refine rtp 20 (Bv<|decide ((d.fB:Int)>=sv.length)) S ?_
   cases dZ:(decide ((d.fB:Int)>=sv.length))
   ·replace dZ:=of_decide_eq_false dZ
    have S:=H.zK (zR 0 6)<|zR 0 5
    refine gF 21 rfl rfl S ?_
    refine gL 22 rfl rfl (fun _ h=>h.cell 0 rfl rfl) S ?_
    refine gF 23 rfl rfl S ?_
    refine gL 24 rfl rfl (fun _ h=>h.cell 0 rfl rfl) S ?_
    refine rgl 25 26 S ?_
    refine xy qh<|xM<|sq 1<|zjn<|cE rfl (fun qb=>?_)<|fun qb=>?_
    ·refine zcr (sp (yI 2)<|zjr<|t_r<|ret1 (yI 2) rfl rfl ⟨_,rfl,?_⟩)
     replace H:=H.erases [0]
     dsimp only [zD,List.eraseIdx,List.set] at H
     refine sp (yI 2)<|zjr<|b_r<|t_r<|ret1 (yI 2) rfl rfl ⟨_,rfl,?_⟩
     first | rw [Va qf<|by show ¬ (0<=d.fA/\d.fA<=(sv.length:Int) - 1);omega] | rw [X9 qf<|by first | (left;show ¬ (0<=d.fA/\d.fA<=(sv.length:Int) - 1);omega) | (right;left;show ¬ (0<=d.fB/\d.fB<=(sv.length:Int) - 1);omega) | (right;right;omega)] | rw [X8 qf qf] | (exfalso;omega)
     all_goals exact ⟨bZ,aF,cM,wi.length,bJ,bM,az,rfl,N,H.qY 5 5 (zR 1 4) (zR 0 5) (by simp only [List.length_cons,List.length_append];omega)<|by simp only [List.length_cons,List.length_append];omega⟩
    have y1:jf s own n d.fA.toNat (sv[d.fA.toNat]!).qC/\jf s own n d.fA.toNat (sv[d.fA.toNat]!).qH:=p1.srv d.fA.toNat qf
    refine xk<|t_n<|xH<|zY 2 rfl H [0,1,2,3,4,5] [0,1,2,3,4] fun H=>?_
    dsimp only [jR,yE]
    have S:=H.zK (zR 0 6)<|zR 0 5
    refine rtl 0 S ?_
    refine rtl 1 S ?_
    refine tF 2 rfl rfl S ?_
    refine tF 3 rfl rfl S ?_
    refine tL 4 rfl rfl (fun _ h=>h.cell 2 rfl rfl) S ?_
    refine tF 5 rfl rfl S ?_
    refine tL 6 rfl rfl (fun _ h=>h.cell 0 rfl rfl) S ?_
    refine xy qh<|xM ?_
    obtain ⟨b14,rfl⟩:=H.jg 4 rfl qf
    refine oI rfl rfl<|sq 1<|zjcc<|oF rfl<|oL rfl (H.cell 0 rfl rfl)<|sp (Bv ((d.xE:Int) == 3))<|zjn<|cE rfl (fun h15=>?_)<|fun h15=>?_
    ·refine zcc (sq 1<|oF rfl<|oL rfl (H.cell 0 rfl rfl)<|sw<|zX #[pp bk 0,yI d.fA] rfl rfl call105<|en func105 ntmps105 ?_)
     refine zcr<|sp (Bv false)<|zjc<|sq 2<|oF rfl<|oF rfl<|oL rfl (H.cell 2 rfl rfl)<|sq 1<|oI rfl rfl<|sq 1<|zjn<|xH<|zY 2 rfl H [0,1,2,3,4,5] [0,1,2,3,4] fun H=>?_
     dsimp only [jR,yE]
     have S:=H.zK (zR 0 6)<|zR 0 5
     refine rtl 0 S ?_
     refine rtl 1 S ?_
     refine tF 2 rfl rfl S ?_
     refine tF 3 rfl rfl S ?_
     obtain ⟨al4,aqI,aqC,acl,acG,ZW,asY,arO,ar5,aaM,abR,aa7,asd,asJ,asi,aop,ajd,am2,Jb,H⟩:=H.vV jI 4 rfl 3 rfl rfl d.fA.toNat qf
     have S:=H.zK (zR 0 6)<|zR 6 5
     refine rt 4 _ (jL (off:=0+(d.fA:Int).toNat * 16+8+0) isAgg2 rfl<|fun _ h=>(h.xX 4 rfl (Jb 0 _ rfl) qf)) S ?_
     refine rtl 5 S ?_
     refine rtl 6 S ?_
     refine tF 7 rfl rfl S ?_
     refine tF 8 rfl rfl S ?_
     obtain ⟨ah8,ams,ahh,aaS,aa6,ZV,asH,arX,ask,aat,abG,abW,ark,asg,arq,ajR,apv,alD,ajk,H⟩:=H.vV zg 4 rfl 9 rfl rfl d.fA.toNat qf
     have S:=H.zK (zR 0 6)<|zR 12 5
     refine rt 9 _ (jL (off:=0+(d.fA:Int).toNat * 16+0+0) isAgg2 rfl<|fun _ h=>(h.xX 4 rfl (ajk 0 _ rfl) qf)) S ?_
     refine rtp 10 (Bv ((((sv[d.fA.toNat]!).qH).qN:Int) == (((sv[d.fA.toNat]!).qC).qN))) S ?_
     refine rtp 11 (Bv ((((sv[d.fA.toNat]!).qH).qN:Int) == (((sv[d.fA.toNat]!).qC).qN))) S ?_
     cases J2:((((sv[d.fA.toNat]!).qH).qN:Int) == (((sv[d.fA.toNat]!).qC).qN))
     ·replace J2:=ne_of_beq_false J2
      refine jA (zR 12 5) 5 (H.pick (zR 0 6)<|zR 12 5)<|xy qh<|xM<|sp (Bv false)<|sp (Bv false)<|zjr<|ret1 (Bv false) rfl rfl ⟨_,rfl,(sp (Bv true)<|zjn<|cTr rfl<|zcr<|sp (yI 4)<|zjr<|t_r<|t_r<|ret1 (yI 4) rfl rfl ⟨_,rfl,?_⟩)⟩
      replace H:=H.erases [0]
      dsimp only [zD,List.eraseIdx,List.set] at H
      refine sp (yI 4)<|zjr<|b_r<|t_r<|ret1 (yI 4) rfl rfl ⟨_,rfl,?_⟩
      first | rw [doR_post4 qf ⟨⟨by omega,by omega⟩,⟨by omega,by omega⟩,by omega⟩<|by rintro ⟨h1,h2⟩;first | contradiction | simp_all] | rw [doR_back4 qf ⟨⟨by omega,by omega⟩,⟨by omega,by omega⟩,by omega⟩ ql] | (exfalso;omega)
      all_goals exact ⟨bZ,aF,cM,wi.length,bJ,bM,az,rfl,N,H.qY 5 17 (zR 1 4) (zR 12 5) (by simp only [List.length_cons,List.length_append];omega)<|by simp only [List.length_cons,List.length_append];omega⟩
     replace J2:=eq_of_beq J2
     have S:=H.zK (zR 0 6)<|zR 12 5
     refine rgl 12 24 S ?_
     refine rgl 13 24 S ?_
     refine gF 14 rfl rfl S ?_
     refine gF 15 rfl rfl S ?_
     refine rg 16 _ 24 (jL (off:=0+(d.fA:Int).toNat * 16+8+3) isAgg4 rfl<|fun _ h=>(h.xX 4 rfl (Jb 3 _ rfl) qf)) S ?_
     refine xy qh<|xM<|sq 2<|zjr<|ret1 (Bv (((sv[d.fA.toNat]!).qH).qQ)) rfl rfl ⟨_,rfl,(sq 1<|zjn<|vk _ rfl (fun Bi=>?_)<|fun Bi=>?_)⟩
     ·replace Bi:=xN Bi
      refine zcr<|sp (yI 4)<|zjr<|t_r<|t_r<|ret1 (yI 4) rfl rfl ⟨_,rfl,?_⟩
      replace H:=H.erases [0]
      dsimp only [zD,List.eraseIdx,List.set] at H
      refine sp (yI 4)<|zjr<|b_r<|t_r<|ret1 (yI 4) rfl rfl ⟨_,rfl,?_⟩
      first | rw [doR_post4 qf ⟨⟨by omega,by omega⟩,⟨by omega,by omega⟩,by omega⟩<|by rintro ⟨h1,h2⟩;first | contradiction | simp_all] | rw [doR_back4 qf ⟨⟨by omega,by omega⟩,⟨by omega,by omega⟩,by omega⟩ ql] | (exfalso;omega)
      all_goals exact ⟨bZ,aF,cM,wi.length,bJ,bM,az,rfl,N,H.qY 5 17 (zR 1 4) (zR 12 5) (by simp only [List.length_cons,List.length_append];omega)<|by simp only [List.length_cons,List.length_append];omega⟩
     replace Bi:=xJ Bi
     have y2:=y1.2.nowIn p0 ql (j:=d.fB.toNat) qf
     have y3:=y2.1
     have y4:=y2.2.1
     refine xk<|t_n<|xH<|zY 2 rfl H [0,1,2,3,4,5] [0,1,2,3,4,5,6,7,8,9,10,11,12,13,14,15,16] fun H=>?_
     dsimp only [jR,yE]
     have S:=H.zK (zR 0 6)<|zR 0 17
     refine rtl 0 S ?_
     refine rtl 1 S ?_
     refine rtl 2 S ?_
     refine tF 3 rfl rfl S ?_
     refine tF 4 rfl rfl S ?_
     refine rt 5 _ (jL (off:=0+(d.fA:Int).toNat * 16+8+0) isAgg2 rfl<|fun _ h=>(h.xX 4 rfl (Jb 0 _ rfl) qf)) S ?_
     refine tF 6 rfl rfl S ?_
     refine tL 7 rfl rfl (fun _ h=>h.cell 0 rfl rfl) S ?_
     refine tF 8 rfl rfl S ?_
     refine tL 9 rfl rfl (fun _ h=>h.cell 0 rfl rfl) S ?_
     refine rtl 10 S ?_
     refine rtl 11 S ?_
     refine tF 12 rfl rfl S ?_
     refine tF 13 rfl rfl S ?_
     refine rt 14 _ (jL (off:=0+(d.fA:Int).toNat * 16+8+6) isAgg45 rfl<|fun _ h=>(h.xX 4 rfl (Jb 6 _ rfl) qf)) S ?_
     refine tF 15 rfl rfl S ?_
     refine tL 16 rfl rfl (fun _ h=>h.cell 0 rfl rfl) S ?_
     obtain ⟨TH,o25,rfl⟩:=H.addr 10 rfl qf
     obtain ⟨auF,axF,aFX,H⟩:=H.yD 10 rfl d.fB d.fB.toNat qf qf qf
     refine tI 17 rfl rfl rfl (H.pick (zR 0 6)<|zR 2 17)<|ro 18 rfl<|zB (Sv auF (((((sv[d.fA.toNat]!).qH).vJ)[d.fB.toNat]!).length) axF) isAgg29 rfl (H.vW 1 rfl 0 rfl)<|⟨H.pick (zR 0 6)<|zR 2 17,(ro 19 rfl ?_)⟩
     have Ro:=H.base.size
     have Tf:=jB (H.ltN (L:=[aF,az]) [17,18])<|H.ltK<|K0.behind 19 rfl
     refine oc (Qn _ ((((sv[d.fA.toNat]!).qH).vJ)[d.fB.toNat]!) (H.get 0 rfl).1 qg) ?_
     rintro _ Rf ⟨bA,agl,pt,atU,cF,rfl,M,K⟩ _
     replace N:=N.merge Ro Tf M
     replace H:=H.merge K M
     dsimp only [List.cons_append,List.nil_append] at H
     obtain rfl:=H.xe (α:=yLI) 0 rfl 0 rfl qj
     refine ⟨H.pick (zR 1 6)<|zR 3 17,(ro 20 rfl<|jb [yI (((sv[d.fA.toNat]!).qH).qN),yI d.fA,yI d.fB,Sv bA (((((sv[d.fA.toNat]!).qH).vJ)[d.fB.toNat]!).length) pt] [(0,yI (((sv[d.fA.toNat]!).qH).qN)),(1,yI d.fA),(2,yI d.fB),(3,Sv bA (((((sv[d.fA.toNat]!).qH).vJ)[d.fB.toNat]!).length) pt)]<|⟨H.pick (zR 1 6)<|zR 3 17,(xy qh<|xM ?_)⟩)⟩
     refine sw<|zX #[pp bk 0,.agg #[yI (((sv[d.fA.toNat]!).qH).qN),yI d.fA,yI d.fB,Sv bA (((((sv[d.fA.toNat]!).qH).vJ)[d.fB.toNat]!).length) pt]] rfl rfl call150<|en func150 ntmps150 ?_
     refine zcr<|sw<|jq H [yI (((sv[d.fA.toNat]!).qH).qN),yI d.fA,yI d.fB,Sv bA (((((sv[d.fA.toNat]!).qH).vJ)[d.fB.toNat]!).length) pt] fun b34 P7 H=>sp (yI 0)<|zjcc<|sq 2<|oF rfl<|oF rfl<|oL rfl (H.cell 4 rfl rfl)<|oN rfl<|sp (Bv ((wi.length:Int) == 12))<|zjn<|cE rfl (fun h36=>?_)<|fun h36=>?_
     ·refine zcr (sp (yI 3)<|zjr<|t_r<|ret1 (yI 3) rfl rfl ⟨_,rfl,?_⟩)
      replace H:=H.erases [0]
      dsimp only [zD,List.eraseIdx,List.set] at H
      refine sp (yI 3)<|zjr<|t_r<|ret1 (yI 3) rfl rfl ⟨_,rfl,?_⟩
      replace H:=H.erases [1,0]
      dsimp only [zD,List.eraseIdx,List.set] at H
      refine sp (yI 3)<|zjr<|b_r<|t_r<|ret1 (yI 3) rfl rfl ⟨_,rfl,?_⟩
      first | rw [doR_post3 qf ⟨⟨by omega,by omega⟩,⟨by omega,by omega⟩,by omega⟩ ⟨by assumption,by assumption⟩ qf] | rw [doR_back3 qf ⟨⟨by omega,by omega⟩,⟨by omega,by omega⟩,by omega⟩ ql qf] | rw [doR_come3 qf qf fr<|by rw [← sumC_eq ec];assumption] | (exfalso;omega)
      all_goals exact ⟨bZ,aF,cM,wi.length,bJ,bM,az,rfl,(N.qY 3 [1,2]<|by simp only [List.length_cons,List.length_append];omega),H.qY 5 20 (zR 1 4) (zR 15 5) (by simp only [List.length_cons,List.length_append];omega)<|by simp only [List.length_cons,List.length_append];omega⟩
     refine xk<|t_n<|xH<|zY 4 rfl H [0,2,3,4,5,6] [0,1,2,3,4,5,6,7,8,9,10,11,12,13,14,15,16,17,18,19] fun H=>?_
     dsimp only [jR,yE]
     have S:=H.zK (0::zR 2 5)<|zR 0 20
     refine rtl 0 S ?_
     refine rtl 1 S ?_
     refine rtl 2 S ?_
     refine tF 3 rfl rfl S ?_
     refine tF 4 rfl rfl S ?_
     refine tL 5 rfl rfl (fun _ h=>h.cell 3 rfl rfl) S ?_
     refine rt 6 _ (yh (cs:=[yI (((sv[d.fA.toNat]!).qH).qN),yI d.fA,yI d.fB,Sv bA (((((sv[d.fA.toNat]!).qH).vJ)[d.fB.toNat]!).length) pt]) isAgg77 sizeOf77 rfl<|fun _ h=>qK (h.cells 0 rfl) 0 4) S ?_
     refine ro 7 rfl<|zx H underlying37 ti77 [yI (((sv[d.fA.toNat]!).qH).qN),yI d.fA,yI d.fB,Sv bA (((((sv[d.fA.toNat]!).qH).vJ)[d.fB.toNat]!).length) pt] fun b38 U7 H=>⟨H.pick (1::zR 3 5)<|zR 0 20,(ro 8 rfl ?_)⟩
     have H0:=H
     obtain ⟨G43,apZ,Zz,H⟩:=H.vK (α:=yLI) 2 rfl 0 rfl qj
     replace N:Fresh W0.heap.size (G43::aF::az::Ns):=Fresh.ice N H0 2 apZ.1 apZ.2<|fun F hF b hb=>(List.mem_append.1<|show F∈[aF,az]++Ns from hF).elim (fun h=>(H0.vg (L:=[aF,az]) [18,19]) F h b hb) fun h=>H0.jH (K0.behind 20 rfl) F h b hb
     clear H0
     try dsimp only [List.set] at H
     refine zJ H 8 rfl 0 rfl underlying37 ti77 rfl qj rfl rfl rfl qw qp qf fun a40 c41 TT H=>?_
     try dsimp only [List.set] at H
     replace H:=H.snoc_ParcelD 20 rfl (((sv[d.fA.toNat]!).qH).qN) d.fA d.fB 0 rfl
     replace N:Fresh W0.heap.size ((az++G43)::aF::Ns):=(N.qY 3 [2,0,1]<|by simp only [List.length_cons,List.length_append];omega).join
     refine ⟨H.pick (1::zR 3 5)<|zR 2 20,(xy qh<|xM<|sq 1<|oF rfl<|oF rfl<|sw<|xO H 5 [pp sb 0,Sv ao own.length co,Sv (aa b14 0) sv.length cC,Sv a40 (wi.length+1) c41] sizeOf37 fun S8 H=>?_)⟩
     try dsimp only [List.set] at H
     refine zjc<|sp (yI 0)<|zjr<|ret1 (yI 0) rfl rfl ⟨_,rfl,?_⟩
     replace H:=H.erases [2,1,0]
     dsimp only [zD,List.eraseIdx,List.set] at H
     refine sp (yI 0)<|zjr<|t_r<|ret1 (yI 0) rfl rfl ⟨_,rfl,?_⟩
     replace H:=H.erases [0]
     dsimp only [zD,List.eraseIdx,List.set] at H
     refine sp (yI 0)<|zjr<|b_r<|t_r<|ret1 (yI 0) rfl rfl ⟨_,rfl,?_⟩
     first | rw [sdoR_post0 qf ⟨⟨by omega,by omega⟩,⟨by omega,by omega⟩,by omega⟩ ⟨by assumption,by assumption⟩ qf] | rw [doR_back0 qf ⟨⟨by omega,by omega⟩,⟨by omega,by omega⟩,by omega⟩ ql qf] | (exfalso;omega)
     all_goals exact ⟨bZ,aF,a40,wi.length+1,c41,bM++[Value.int .i64 (((sv[d.fA.toNat]!).qH).qN),Value.int .i64 d.fA,Value.int .i64 d.fB,Value.slice bA (((((sv[d.fA.toNat]!).qH).vJ)[d.fB.toNat]!).length) pt],(az++G43),rfl,(N.qY 2 [1,0]<|by simp only [List.length_cons,List.length_append];omega),H.qY 5 22 (zR 1 4) [17,18,19,20,0] (by simp only [List.length_cons,List.length_append];omega)<|by simp only [List.length_cons,List.length_append];omega⟩
    refine xk<|t_n<|zcc<|sq 2<|oF rfl<|oF rfl ?_
    obtain ⟨aoJ,ajm,ag1,aac,aco,aar,ase,arY,asD,aad,abL,acJ,arL,arJ,arR,apC,aiA,apy,Ag,H⟩:=H.vV zg 4 rfl 3 rfl rfl d.fA.toNat qf
    refine oL rfl (H.xX 4 rfl (Ag 0 _ rfl) qf)<|sp (Bv ((((sv[d.fA.toNat]!).qC).qN:Int) == 0))<|zjn<|cE rfl (fun h49=>?_)<|fun h49=>?_
    ·refine zcr (sp (yI 4)<|zjr<|t_r<|ret1 (yI 4) rfl rfl ⟨_,rfl,?_⟩)
     replace H:=H.erases [0]
     dsimp only [zD,List.eraseIdx,List.set] at H
     refine sp (yI 4)<|zjr<|b_r<|t_r<|ret1 (yI 4) rfl rfl ⟨_,rfl,?_⟩
     first | rw [doR_post4 qf ⟨⟨by omega,by omega⟩,⟨by omega,by omega⟩,by omega⟩<|by rintro ⟨h1,h2⟩;first | contradiction | simp_all] | rw [doR_back4 qf ⟨⟨by omega,by omega⟩,⟨by omega,by omega⟩,by omega⟩ ql] | (exfalso;omega)
     all_goals exact ⟨bZ,aF,cM,wi.length,bJ,bM,az,rfl,N,H.qY 5 11 (zR 1 4) (zR 6 5) (by simp only [List.length_cons,List.length_append];omega)<|by simp only [List.length_cons,List.length_append];omega⟩
    have y0:=y1.1.rnd
    have y2:=y1.1.lastIn p0 ql (j:=d.fB.toNat) qf
    have y3:=y2.1
    have y4:=y2.2.1
    refine xk<|t_n<|xH<|zY 2 rfl H [0,1,2,3,4,5] [0,1,2,3,4,5,6,7,8,9,10] fun H=>?_
    dsimp only [jR,yE]
    have S:=H.zK (zR 0 6)<|zR 0 11
    refine rtl 0 S ?_
    refine rtl 1 S ?_
    refine rtl 2 S ?_
    refine tF 3 rfl rfl S ?_
    refine tF 4 rfl rfl S ?_
    refine rt 5 _ (jL (off:=0+(d.fA:Int).toNat * 16+0+0) isAgg2 rfl<|fun _ h=>(h.xX 4 rfl (Ag 0 _ rfl) qf)) S ?_
    refine rt 6 _ (y_sub (((sv[d.fA.toNat]!).qC).qN) 1 rfl rfl qf) S ?_
    refine tF 7 rfl rfl S ?_
    refine tL 8 rfl rfl (fun _ h=>h.cell 0 rfl rfl) S ?_
    refine tF 9 rfl rfl S ?_
    refine tL 10 rfl rfl (fun _ h=>h.cell 0 rfl rfl) S ?_
    refine rtl 11 S ?_
    refine rtl 12 S ?_
    refine tF 13 rfl rfl S ?_
    refine tF 14 rfl rfl S ?_
    refine rt 15 _ (jL (off:=0+(d.fA:Int).toNat * 16+0+7) isAgg45 rfl<|fun _ h=>(h.xX 4 rfl (Ag 7 _ rfl) qf)) S ?_
    refine tF 16 rfl rfl S ?_
    refine tL 17 rfl rfl (fun _ h=>h.cell 0 rfl rfl) S ?_
    obtain ⟨b51,o52,rfl⟩:=H.addr 5 rfl qf
    obtain ⟨atz,awU,aEt,H⟩:=H.yD 5 rfl d.fB d.fB.toNat qf qf qf
    refine tI 18 rfl rfl rfl (H.pick (zR 0 6)<|zR 2 11)<|ro 19 rfl<|zB (Sv atz (((((sv[d.fA.toNat]!).qC).xP)[d.fB.toNat]!).length) awU) isAgg29 rfl (H.vW 1 rfl 0 rfl)<|⟨H.pick (zR 0 6)<|zR 2 11,(ro 20 rfl ?_)⟩
    have abt:=H.base.size
    have acO:=jB (H.ltN (L:=[aF,az]) [11,12])<|H.ltK<|K0.behind 13 rfl
    refine oc (Qn _ ((((sv[d.fA.toNat]!).qC).xP)[d.fB.toNat]!) (H.get 0 rfl).1 qg) ?_
    rintro _ w56 ⟨Aa,axH,yq,aoI,acn,rfl,M,K⟩ _
    replace N:=N.merge abt acO M
    replace H:=H.merge K M
    dsimp only [List.cons_append,List.nil_append] at H
    obtain rfl:=H.xe (α:=yLI) 0 rfl 0 rfl qj
    refine ⟨H.pick (zR 1 6)<|zR 3 11,(ro 21 rfl<|jb [yI ((((sv[d.fA.toNat]!).qC).qN) - 1),yI d.fA,yI d.fB,Sv Aa (((((sv[d.fA.toNat]!).qC).xP)[d.fB.toNat]!).length) yq] [(0,yI ((((sv[d.fA.toNat]!).qC).qN) - 1)),(1,yI d.fA),(2,yI d.fB),(3,Sv Aa (((((sv[d.fA.toNat]!).qC).xP)[d.fB.toNat]!).length) yq)]<|⟨H.pick (zR 1 6)<|zR 3 11,(xy qh<|xM ?_)⟩)⟩
    refine sw<|zX #[pp bk 0,.agg #[yI ((((sv[d.fA.toNat]!).qC).qN) - 1),yI d.fA,yI d.fB,Sv Aa (((((sv[d.fA.toNat]!).qC).xP)[d.fB.toNat]!).length) yq]] rfl rfl call150<|en func150 ntmps150 ?_
    refine zcr<|sw<|jq H [yI ((((sv[d.fA.toNat]!).qC).qN) - 1),yI d.fA,yI d.fB,Sv Aa (((((sv[d.fA.toNat]!).qC).xP)[d.fB.toNat]!).length) yq] fun b61 w62 H=>sp (yI 0)<|zjcc<|sq 2<|oF rfl<|oF rfl<|oL rfl (H.cell 4 rfl rfl)<|oN rfl<|sp (Bv ((wi.length:Int) == 12))<|zjn<|cE rfl (fun h63=>?_)<|fun h63=>?_
    ·refine zcr (sp (yI 3)<|zjr<|t_r<|ret1 (yI 3) rfl rfl ⟨_,rfl,?_⟩)
     replace H:=H.erases [0]
     dsimp only [zD,List.eraseIdx,List.set] at H
     refine sp (yI 3)<|zjr<|ret1 (yI 3) rfl rfl ⟨_,rfl,?_⟩
     replace H:=H.erases [1,0]
     dsimp only [zD,List.eraseIdx,List.set] at H
     refine sp (yI 3)<|zjr<|b_r<|t_r<|ret1 (yI 3) rfl rfl ⟨_,rfl,?_⟩
     first | rw [doR_post3 qf ⟨⟨by omega,by omega⟩,⟨by omega,by omega⟩,by omega⟩ ⟨by assumption,by assumption⟩ qf] | rw [doR_back3 qf ⟨⟨by omega,by omega⟩,⟨by omega,by omega⟩,by omega⟩ ql qf] | rw [doR_come3 qf qf fr<|by rw [← sumC_eq ec];assumption] | (exfalso;omega)
     all_goals exact ⟨bZ,aF,cM,wi.length,bJ,bM,az,rfl,(N.qY 3 [1,2]<|by simp only [List.length_cons,List.length_append];omega),H.qY 5 14 (zR 1 4) (zR 9 5) (by simp only [List.length_cons,List.length_append];omega)<|by simp only [List.length_cons,List.length_append];omega⟩
    refine xk<|t_n<|xH<|zY 4 rfl H [0,2,3,4,5,6] [0,1,2,3,4,5,6,7,8,9,10,11,12,13] fun H=>?_
    dsimp only [jR,yE]
    have S:=H.zK (0::zR 2 5)<|zR 0 14
    refine rtl 0 S ?_
    refine rtl 1 S ?_
    refine rtl 2 S ?_
    refine tF 3 rfl rfl S ?_
    refine tF 4 rfl rfl S ?_
    refine tL 5 rfl rfl (fun _ h=>h.cell 3 rfl rfl) S ?_
    refine rt 6 _ (yh (cs:=[yI ((((sv[d.fA.toNat]!).qC).qN) - 1),yI d.fA,yI d.fB,Sv Aa (((((sv[d.fA.toNat]!).qC).xP)[d.fB.toNat]!).length) yq]) isAgg77 sizeOf77 rfl<|fun _ h=>qK (h.cells 0 rfl) 0 4) S ?_
    refine ro 7 rfl<|zx H underlying37 ti77 [yI ((((sv[d.fA.toNat]!).qC).qN) - 1),yI d.fA,yI d.fB,Sv Aa (((((sv[d.fA.toNat]!).qC).xP)[d.fB.toNat]!).length) yq] fun NK w66 H=>⟨H.pick (1::zR 3 5)<|zR 0 14,(ro 8 rfl ?_)⟩
    have H0:=H
    obtain ⟨V3,MD,atD,H⟩:=H.vK (α:=yLI) 2 rfl 0 rfl qj
    replace N:Fresh W0.heap.size (V3::aF::az::Ns):=Fresh.ice N H0 2 MD.1 MD.2<|fun F hF b hb=>(List.mem_append.1<|show F∈[aF,az]++Ns from hF).elim (fun h=>(H0.vg (L:=[aF,az]) [12,13]) F h b hb) fun h=>H0.jH (K0.behind 14 rfl) F h b hb
    clear H0
    try dsimp only [List.set] at H
    refine zJ H 8 rfl 0 rfl underlying37 ti77 rfl qj rfl rfl rfl qw qp qf fun VX U3 w69 H=>?_
    try dsimp only [List.set] at H
    replace H:=H.snoc_ParcelD 14 rfl ((((sv[d.fA.toNat]!).qC).qN) - 1) d.fA d.fB 0 rfl
    replace N:Fresh W0.heap.size ((az++V3)::aF::Ns):=(N.qY 3 [2,0,1]<|by simp only [List.length_cons,List.length_append];omega).join
    refine ⟨H.pick (1::zR 3 5)<|zR 2 14,(xy qh<|xM<|sq 1<|oF rfl<|oF rfl<|sw<|xO H 5 [pp sb 0,Sv ao own.length co,Sv (aa b14 0) sv.length cC,Sv VX (wi.length+1) U3] sizeOf37 fun w73 H=>?_)⟩
    try dsimp only [List.set] at H
    refine zjc<|sp (yI 0)<|zjr<|ret1 (yI 0) rfl rfl ⟨_,rfl,?_⟩
    replace H:=H.erases [2,1,0]
    dsimp only [zD,List.eraseIdx,List.set] at H
    refine sp (yI 0)<|zjr<|ret1 (yI 0) rfl rfl ⟨_,rfl,?_⟩
    replace H:=H.erases [0]
    dsimp only [zD,List.eraseIdx,List.set] at H
    refine sp (yI 0)<|zjr<|b_r<|t_r<|ret1 (yI 0) rfl rfl ⟨_,rfl,?_⟩
    first | rw [sdoR_post0 qf ⟨⟨by omega,by omega⟩,⟨by omega,by omega⟩,by omega⟩ ⟨by assumption,by assumption⟩ qf] | rw [doR_back0 qf ⟨⟨by omega,by omega⟩,⟨by omega,by omega⟩,by omega⟩ ql qf] | (exfalso;omega)
    all_goals exact ⟨bZ,aF,VX,wi.length+1,U3,bM++[Value.int .i64 ((((sv[d.fA.toNat]!).qC).qN) - 1),Value.int .i64 d.fA,Value.int .i64 d.fB,Value.slice Aa (((((sv[d.fA.toNat]!).qC).xP)[d.fB.toNat]!).length) yq],(az++V3),rfl,(N.qY 2 [1,0]<|by simp only [List.length_cons,List.length_append];omega),H.qY 5 16 (zR 1 4) [11,12,13,14,0] (by simp only [List.length_cons,List.length_append];omega)<|by simp only [List.length_cons,List.length_append];omega⟩
   replace dZ:=of_decide_eq_true dZ
   refine jA (zR 21 5) 5 (H.pick (zR 0 6)<|zR 0 5)<|xy qh<|xM<|sp (Bv true)<|zjn<|cTr rfl<|zcr<|sp (yI 2)<|zjr<|t_r<|ret1 (yI 2) rfl rfl ⟨_,rfl,?_⟩
   replace H:=H.erases [0]
   dsimp only [zD,List.eraseIdx,List.set] at H
   refine sp (yI 2)<|zjr<|b_r<|t_r<|ret1 (yI 2) rfl rfl ⟨_,rfl,?_⟩
   first | rw [Va qf<|by show ¬ (0<=d.fA/\d.fA<=(sv.length:Int) - 1);omega] | rw [X9 qf<|by first | (left;show ¬ (0<=d.fA/\d.fA<=(sv.length:Int) - 1);omega) | (right;left;show ¬ (0<=d.fB/\d.fB<=(sv.length:Int) - 1);omega) | (right;right;omega)] | rw [X8 qf qf] | (exfalso;omega)
   all_goals exact ⟨bZ,aF,cM,wi.length,bJ,bM,az,rfl,N,H.qY 5 5 (zR 1 4) (zR 0 5) (by simp only [List.length_cons,List.length_append];omega)<|by simp only [List.length_cons,List.length_append];omega⟩
  replace fe:=of_decide_eq_true fe
  refine jA (zR 10 9) 9 (H.pick (zR 0 6)<|zR 0 5) ?_
  have S:=H.zK (zR 0 6)<|zR 0 5
  refine rtp 19 (Bv true) S ?_
  refine rtp 20 (Bv true) S ?_
  refine jA (zR 21 5) 5 (H.pick (zR 0 6)<|zR 0 5)<|xy qh<|xM<|sp (Bv true)<|zjn<|cTr rfl<|zcr<|sp (yI 2)<|zjr<|t_r<|ret1 (yI 2) rfl rfl ⟨_,rfl,?_⟩
  replace H:=H.erases [0]
  dsimp only [zD,List.eraseIdx,List.set] at H
  refine sp (yI 2)<|zjr<|b_r<|t_r<|ret1 (yI 2) rfl rfl ⟨_,rfl,?_⟩
  first | rw [Va qf<|by show ¬ (0<=d.fA/\d.fA<=(sv.length:Int) - 1);omega] | rw [X9 qf<|by first | (left;show ¬ (0<=d.fA/\d.fA<=(sv.length:Int) - 1);omega) | (right;left;show ¬ (0<=d.fB/\d.fB<=(sv.length:Int) - 1);omega) | (right;right;omega)] | rw [X8 qf qf] | (exfalso;omega)
  all_goals exact ⟨bZ,aF,cM,wi.length,bJ,bM,az,rfl,N,H.qY 5 5 (zR 1 4) (zR 0 5) (by simp only [List.length_cons,List.length_append];omega)<|by simp only [List.length_cons,List.length_append];omega⟩
 try (have k8:¬ (d.xE=3\/d.xE=4):=fun z=>by have z:=j8.2 z;simp_all)
 refine zcc<|sp (Bv ((d.xE:Int) == 6))<|sp (Bv ((d.xE:Int) == 6))<|zjn<|c_cut (fun ρ w74=>∃ (xI:Env) (t14:Bool),ρ=upd (upd (upd xI 0<|pp bk 0) 3<|pp b1 0) 14 (Bv t14)/\(t14=true<->(d.xE=6\/d.xE=7\/d.xE=8))/\Fresh W0.heap.size (aF::az::Ns)/\St W0 w74 ((.box b1 [yI d.xE,yI d.fA,yI d.fB] 44)::(.box bk [pp sb 0,Sv ao own.length co,Sv eG sv.length cC,Sv cM wi.length bJ] 86)::(.box sb (yS s ap cp ar cr) 27)::(rr eG sv.length cC 49 16 bZ)::(rr cM wi.length bJ 77 4 bM)::ps) ((sF false Fp ap cp s.qA)::(sF false Fr ar cr s.qB)::(sF false Fo ao co own)::(qL true aF bZ sv)::(qL true az bM wi)::Γ)) ?_ ?_
 ·refine cE rfl (fun h75=>?_) (fun h75=>?_)
  ·try (have Lf:=Ig.1 ql)
   refine xk<|meet ⟨_,(d.xE:Int) == 6,uE3,?_,N,H⟩
   ·first | exact iff_of_true rfl qf | exact beq_iff_eq.trans ⟨fun h=>by omega,fun h=>by omega⟩
  try (have Lf:¬ (d.xE=6\/d.xE=7\/d.xE=8):=fun z=>by have z:=Ig.2 z;simp_all)
  refine zcr<|sp (Bv ((d.xE:Int) == 7))<|sp (Bv ((d.xE:Int) == 7))<|zjn<|cE rfl (fun h76=>?_)<|fun h76=>?_
  ·try (have Lf:=Ig.1 ql)
   refine xk<|meet ⟨_,(d.xE:Int) == 7,uE3,?_,N,H⟩
   ·first | exact iff_of_true rfl qf | exact beq_iff_eq.trans ⟨fun h=>by omega,fun h=>by omega⟩
  try (have Lf:¬ (d.xE=6\/d.xE=7\/d.xE=8):=fun z=>by have z:=Ig.2 z;simp_all)
  refine xZ<|sp (Bv ((d.xE:Int) == 8))<|sp (Bv ((d.xE:Int) == 8))<|xW<|meet ⟨_,(d.xE:Int) == 8,uE3,?_,N,H⟩
  ·first | exact iff_of_true rfl qf | exact beq_iff_eq.trans ⟨fun h=>by omega,fun h=>by omega⟩
 clear H N
 rintro ρ w77 ⟨xI,t14,rfl,Ig,N,H⟩
 refine t_n<|vk _ rfl (fun h78=>?_)<|fun h78=>?_
 ·try (have Lf:=Ig.1 ql)
  refine zcr<|sq 1<|sw<|zi [yI d.xE,yI d.fA,yI d.fB] isAgg44 sizeOf44 rfl (qK (H.cells 0 rfl) 0 3)<|sw<|zX #[pp bk 0,.agg #[yI d.xE,yI d.fA,yI d.fB]] rfl rfl call107<|en func107 ntmps107 ?_
  refine zcr<|sw<|jq H [yI d.xE,yI d.fA,yI d.fB] fun Jq WH H=>sp (yI 0)<|zjn<|xH<|xH<|zY 1 rfl H [0,1,2,3,4,5] [0,1,2,3,4] fun H=>?_
  dsimp only [jR,yE]
  have S:=H.zK (zR 0 6)<|zR 0 5
  refine tF 0 rfl rfl S ?_
  refine tL 1 rfl rfl (fun _ h=>h.cell 0 rfl rfl) S ?_
  refine rtl 2 S ?_
  refine rtl 3 S ?_
  refine tF 4 rfl rfl S ?_
  refine tF 5 rfl rfl S ?_
  refine tL 6 rfl rfl (fun _ h=>h.cell 2 rfl rfl) S ?_
  refine tN 7 rfl rfl S ?_
  refine xy qh<|xM<|sq 1<|zjn<|cD rfl (fun h82=>?_)<|fun h82=>?_
  ·refine zcr (sp (yI 2)<|zjr<|t_r<|ret1 (yI 2) rfl rfl ⟨_,rfl,?_⟩)
   replace H:=H.erases [0]
   dsimp only [zD,List.eraseIdx,List.set] at H
   refine sp (yI 2)<|zjr<|b_r<|t_r<|ret1 (yI 2) rfl rfl ⟨_,rfl,?_⟩
   first | rw [Va qf<|by show ¬ (0<=d.fA/\d.fA<=(sv.length:Int) - 1);omega] | rw [X9 qf<|by first | (left;show ¬ (0<=d.fA/\d.fA<=(sv.length:Int) - 1);omega) | (right;left;show ¬ (0<=d.fB/\d.fB<=(sv.length:Int) - 1);omega) | (right;right;omega)] | rw [X8 qf qf] | (exfalso;omega)
   all_goals exact ⟨bZ,aF,cM,wi.length,bJ,bM,az,rfl,N,H.qY 5 5 (zR 1 4) (zR 0 5) (by simp only [List.length_cons,List.length_append];omega)<|by simp only [List.length_cons,List.length_append];omega⟩
  have y1:ParcelOk s own n (wi[d.fA.toNat]!):=p1.wire d.fA.toNat<|by show _ < wi.length;omega
  have y2:=y1.1
  have y3:=y1.2.1
  have y5:jf s own n (wi[d.fA.toNat]!).fTo.toNat (sv[(wi[d.fA.toNat]!).fTo.toNat]!).qC:=(p1.srv _ qf).1
  refine xk<|t_n<|zcc<|oF rfl<|oL rfl (H.cell 0 rfl rfl)<|sp (Bv ((d.xE:Int) != 8))<|zjn<|vk ((d.xE:Int) != 8) rfl (fun M7=>?_)<|fun M7=>?_
  ·replace M7:=bne_iff_ne.1 M7
   refine xH<|zY 2 rfl H [0,1,2,3,4,5] [0,1,2,3,4] fun H=>?_
   dsimp only [jR,yE]
   have S:=H.zK (zR 0 6)<|zR 0 5
   refine rtl 0 S ?_
   refine rtl 1 S ?_
   refine rtl 2 S ?_
   refine tF 3 rfl rfl S ?_
   refine tF 4 rfl rfl S ?_
   refine tL 5 rfl rfl (fun _ h=>h.cell 2 rfl rfl) S ?_
   refine tF 6 rfl rfl S ?_
   refine tL 7 rfl rfl (fun _ h=>h.cell 0 rfl rfl) S ?_
   obtain ⟨iS,rfl⟩:=H.jg 5 rfl qf
   refine tI 8 rfl rfl rfl (H.pick (zR 0 6)<|zR 0 5)<|xy qh<|xM<|sw<|zX #[pp bk 0,pp iS<|0+(d.fA:Int).toNat * 4] rfl rfl call151<|en func151 ntmps151 ?_
   refine zcr<|sp (yI 0)<|zjn<|xH<|zY 3 rfl H [0,1,2,3,4,5] [0,1,2,3,4] fun H=>?_
   dsimp only [jR,yE]
   have S:=H.zK (zR 0 6)<|zR 0 5
   refine rtl 0 S ?_
   refine rtl 1 S ?_
   refine tF 2 rfl rfl S ?_
   refine tF 3 rfl rfl S ?_
   refine tL 4 rfl rfl (fun _ h=>h.cell 2 rfl rfl) S ?_
   refine rtl 5 S ?_
   refine rtl 6 S ?_
   refine tF 7 rfl rfl S ?_
   obtain ⟨aqU,anN,alZ,R8,H⟩:=H.part_ParcelD Qo.refl 5 rfl 4 rfl rfl d.fA.toNat qf
   refine rt 8 _ (jL (off:=0+(d.fA:Int).toNat * 4+2) isAgg2 rfl<|fun _ h=>(h.xX 5 rfl (R8 2 _ rfl) qf)) (H.pick (zR 0 6)<|zR 1 5) ?_
   refine xy qh<|xM ?_
   obtain ⟨xV,rfl⟩:=H.jg 4 rfl qf
   refine oI rfl rfl<|oF rfl<|sq 1<|zjn<|xH<|xH<|c_cut (fun ρ VP=>∃ (xI:Env) (t46:Bool),ρ=upd (upd (upd xI 1<|pp iS<|0+(d.fA:Int).toNat * 4) 5<|pp xV<|0+((wi[d.fA.toNat]!).fTo:Int).toNat * 16+0) 46 (Bv t46)/\(t46=true<->Stale sv (wi[d.fA.toNat]!))/\Fresh W0.heap.size (aF::az::Ns)/\St W0 VP ((.box Jq [yI d.xE,yI d.fA,yI d.fB] 44)::(.box b1 [yI d.xE,yI d.fA,yI d.fB] 44)::(.box bk [pp sb 0,Sv ao own.length co,Sv (aa xV 0) sv.length cC,Sv (aa iS 0) wi.length bJ] 86)::(.box sb (yS s ap cp ar cr) 27)::(rr (aa xV 0) sv.length cC 49 16 bZ)::(rr (aa iS 0) wi.length bJ 77 4 bM)::ps) ((sF false Fp ap cp s.qA)::(sF false Fr ar cr s.qB)::(sF false Fo ao co own)::(qL true aF bZ sv)::(qL true az bM wi)::Γ)) ?_ ?_
   ·refine zY 1 rfl H [0,1,2,3,4,5] [0,1,2,3,4,5] fun H=>?_
    dsimp only [jR,yE]
    have S:=H.zK (zR 0 6)<|zR 0 6
    refine rtl 0 S ?_
    refine rtl 1 S ?_
    refine tF 2 rfl rfl S ?_
    obtain ⟨aj8,apW,akP,aap,ab5,Zn,arc,arB,arr,abc,ab0,Zi,aq5,asT,asj,ajg,ano,aoq,Kj,H⟩:=H.vV zg 4 rfl 4 rfl rfl (((wi[d.fA.toNat]!).fTo).toNat) qf
    have S:=H.zK (zR 0 6)<|zR 6 6
    refine rt 3 _ (jL (off:=0+((wi[d.fA.toNat]!).fTo:Int).toNat * 16+0+3) isAgg4 rfl<|fun _ h=>(h.xX 4 rfl (Kj 3 _ rfl) qf)) S ?_
    refine rtp 4 (Bv (!(((sv[((wi[d.fA.toNat]!).fTo).toNat]!).qC).qQ))) S ?_
    refine rtp 5 (Bv (!(((sv[((wi[d.fA.toNat]!).fTo).toNat]!).qC).qQ))) S ?_
    cases h94:(!(((sv[((wi[d.fA.toNat]!).fTo).toNat]!).qC).qQ))
    ·replace h94:=xJ h94
     have y6:=y5.got ql
     have y7:=y6.2.1
     have S:=H.zK (zR 0 6)<|zR 6 6
     refine rgl 6 24 S ?_
     refine rgl 7 24 S ?_
     refine gF 8 rfl rfl S ?_
     refine rg 9 _ 24 (jL (off:=0+((wi[d.fA.toNat]!).fTo:Int).toNat * 16+0+0) isAgg2 rfl<|fun _ h=>(h.xX 4 rfl (Kj 0 _ rfl) qf)) S ?_
     refine rgl 10 24 S ?_
     refine rgl 11 24 S ?_
     refine gF 12 rfl rfl S ?_
     refine rg 13 _ 24 (jL (off:=0+(d.fA:Int).toNat * 4+0) isAgg2 rfl<|fun _ h=>(h.xX 5 rfl (R8 0 _ rfl) qf)) S ?_
     refine rgp 14 (Bv ((((sv[((wi[d.fA.toNat]!).fTo).toNat]!).qC).qN:Int) != ((wi[d.fA.toNat]!).qN))) 24 S ?_
     refine rtp 15 (Bv ((((sv[((wi[d.fA.toNat]!).fTo).toNat]!).qC).qN:Int) != ((wi[d.fA.toNat]!).qN))) S ?_
     refine rtp 16 (Bv ((((sv[((wi[d.fA.toNat]!).fTo).toNat]!).qC).qN:Int) != ((wi[d.fA.toNat]!).qN))) S ?_
     cases SH:((((sv[((wi[d.fA.toNat]!).fTo).toNat]!).qC).qN:Int) != ((wi[d.fA.toNat]!).qN))
     ·replace SH:=xR SH
      have S:=H.zK (zR 0 6)<|zR 6 6
      refine rgl 17 35 S ?_
      refine rgl 18 35 S ?_
      refine gF 19 rfl rfl S ?_
      refine rg 20 _ 35 (jL (off:=0+((wi[d.fA.toNat]!).fTo:Int).toNat * 16+0+4) isAgg28 rfl<|fun _ h=>(h.xX 4 rfl (Kj 4 _ rfl) qf)) S ?_
      refine rgl 21 35 S ?_
      refine rgl 22 35 S ?_
      refine gF 23 rfl rfl S ?_
      refine rg 24 _ 35 (jL (off:=0+(d.fA:Int).toNat * 4+1) isAgg2 rfl<|fun _ h=>(h.xX 5 rfl (R8 1 _ rfl) qf)) S ?_
      obtain ⟨b96,o97,rfl⟩:=H.addr 2 rfl qf
      refine gI 25 rfl rfl rfl (H.pick (zR 0 6)<|zR 6 6)<|jw [26] qh qm<|r_opG rfl (e:=35) rfl rfl (zB (Bv ((((sv[((wi[d.fA.toNat]!).fTo).toNat]!).qC).vz)[((wi[d.fA.toNat]!).XZ).toNat]!)) isAgg4 rfl (H.elemBool 2 rfl ((wi[d.fA.toNat]!).XZ) qf qf)<|⟨H.pick (zR 0 6)<|zR 6 6,(xy qh<|xM<|sq 1<|xW ?_)⟩) jy
      refine meet ⟨_,(((sv[((wi[d.fA.toNat]!).fTo).toNat]!).qC).vz)[((wi[d.fA.toNat]!).XZ).toNat]!,uE3,?_,N,H.qY 6 12 (zR 0 6) (zR 7 5) (by simp only [List.length_cons,List.length_append];omega)<|by simp only [List.length_cons,List.length_append];omega⟩
      ·first | exact stale_g ql ql | exact stale_w ql | exact stale_r ql
     replace SH:=bne_iff_ne.1 SH
     refine jA (zR 17 10) 10 (H.pick (zR 0 6)<|zR 6 6)<|xy qh<|xM<|sp (Bv true)<|xW<|meet ⟨_,true,uE3,?_,N,H.qY 6 12 (zR 0 6) (zR 7 5) (by simp only [List.length_cons,List.length_append];omega)<|by simp only [List.length_cons,List.length_append];omega⟩
     ·first | exact stale_g ql ql | exact stale_w ql | exact stale_r ql
    replace h94:=xN h94
    refine jA (zR 6 9) 9 (H.pick (zR 0 6)<|zR 6 6) ?_
    have S:=H.zK (zR 0 6)<|zR 6 6
    refine rtp 15 (Bv true) S ?_
    refine rtp 16 (Bv true) S ?_
    refine jA (zR 17 10) 10 (H.pick (zR 0 6)<|zR 6 6)<|xy qh<|xM<|sp (Bv true)<|xW<|meet ⟨_,true,uE3,?_,N,H.qY 6 12 (zR 0 6) (zR 7 5) (by simp only [List.length_cons,List.length_append];omega)<|by simp only [List.length_cons,List.length_append];omega⟩
    ·first | exact stale_g ql ql | exact stale_w ql | exact stale_r ql
   clear H N
   rintro ρ w99 ⟨xI,t46,rfl,j46,N,H⟩
   refine t_n<|vk _ rfl (fun Ml=>?_)<|fun Ml=>?_
   ·have fs:=j46.1 ql
    refine zcr<|sp (yI 0)<|zjr<|t_r<|ret1 (yI 0) rfl rfl ⟨_,rfl,(sp (yI 0)<|zjc<|sp (yI 0)<|sp (Bv false)<|zjn<|cFr rfl<|xk<|t_n<|zcc<|oF rfl<|oL rfl (H.cell 0 rfl rfl)<|sp (Bv ((d.xE:Int) != 7))<|zjn<|vk ((d.xE:Int) != 7) rfl (fun rj=>?_)<|fun rj=>?_)⟩
    ·replace rj:=bne_iff_ne.1 rj
     refine xH ?_
     have anc:=H.rowCap 5 rfl
     obtain ⟨mY,E2,aeH,H⟩:=H.cutRow 4 rfl d.fA.toNat qf
     refine zY 2 rfl H [0,1,2,3,4,5] [0,1,2,3,4,5,6] fun H=>?_
     dsimp only [jR,yE]
     have S:=H.zK (zR 0 6)<|zR 0 7
     refine rtl 1 S ?_
     refine rtl 2 S ?_
     refine tF 3 rfl rfl S ?_
     refine tF 4 rfl rfl S ?_
     refine tL 5 rfl rfl (fun _ h=>h.cell 2 rfl rfl) S ?_
     refine tF 6 rfl rfl S ?_
     refine tL 7 rfl rfl (fun _ h=>h.cell 0 rfl rfl) S ?_
     refine rt 8 _ (y_add d.fA 1 rfl rfl qf) S ?_
     refine rt 9 (Sv (aa iS<|if bJ=(d.fA.toNat+1) then 0 else 0+(d.fA.toNat+1) * 4) (wi.length - (d.fA.toNat+1))<|bJ - (d.fA.toNat+1)) (fun _ _=>y_fromI (iv:=d.fA+1) (d.fA.toNat+1) underlying37 ti77 rfl rfl qf qf qf) S ?_
     refine ro 0 rfl<|jk H underlying37 ti77 fun avs aus H=>⟨H.pick (zR 1 6)<|zR 0 7,(xy qh<|xM ?_)⟩
     replace H:=H.boxRow 0 rfl 4 0 rfl qj
     try dsimp only [List.set] at H
     replace H:=H.jZ (α:=zk)
     replace H:St _ _ ((rr (aa avs 0) 0 0 77 4 [])::(.box Jq [yI d.xE,yI d.fA,yI d.fB] 44)::(.box b1 [yI d.xE,yI d.fA,yI d.fB] 44)::(.box bk [pp sb 0,Sv ao own.length co,Sv (aa xV 0) sv.length cC,Sv (aa iS 0) wi.length bJ] 86)::(.box sb (yS s ap cp ar cr) 27)::(rr (aa xV 0) sv.length cC 49 16 bZ)::(rr (aa iS 0) wi.length bJ 77 4 bM)::ps) ((qL true [] [] ([]:List zk))::(qL true mY (bM.take<|d.fA.toNat * 4)<|wi.take d.fA.toNat)::(qL true E2 (bM.drop ((d.fA.toNat+1) * 4))<|wi.drop<|d.fA.toNat+1)::(sF false Fp ap cp s.qA)::(sF false Fr ar cr s.qB)::(sF false Fo ao co own)::(qL true aF bZ sv)::(qL true az bM wi)::Γ):=H
     refine sw<|o_appendTl (α:=zk) H 0 rfl 6 rfl 2 rfl underlying37 ti77 rfl qj rfl rfl qf qf qp qf fun Ep D4 au3 H=>?_
     try dsimp only [List.set] at H
     replace H:=H.X3 true 0 rfl 2 rfl qm
     refine sq 1<|zjn<|zY 4 rfl H [0,1,2,3,4,5,6] [0,1,2,3,4,5,6,7,8] fun H=>?_
     dsimp only [jR,yE]
     have S:=H.zK (zR 0 7)<|zR 0 9
     refine rtl 0 S ?_
     refine rtl 2 S ?_
     refine rtl 3 S ?_
     refine tF 4 rfl rfl S ?_
     refine tF 5 rfl rfl S ?_
     refine tL 6 rfl rfl (fun _ h=>h.cell 3 rfl rfl) S ?_
     refine tF 7 rfl rfl S ?_
     refine tL 8 rfl rfl (fun _ h=>h.cell 1 rfl rfl) S ?_
     refine rt 9 (Sv (aa iS 0) d.fA.toNat bJ) (fun _ _=>y_upI (iv:=d.fA) d.fA.toNat underlying37 ti77 rfl rfl qf qf) S ?_
     refine rtl 11 S ?_
     refine ro 1 rfl<|jk H underlying37 ti77 fun atH Pv H=>⟨H.pick (zR 1 7)<|zR 0 9,(ro 10 rfl ?_)⟩
     replace H:=H.boxRow 0 rfl 4 0 rfl qj
     try dsimp only [List.set] at H
     replace H:=H.jZ (α:=zk)
     replace H:St _ _ ((rr (aa atH 0) 0 0 77 4 [])::(rr Ep (0+(wi.length - (d.fA.toNat+1))) D4 77 4 ([]++(bM.drop ((d.fA.toNat+1) * 4))))::(.box Jq [yI d.xE,yI d.fA,yI d.fB] 44)::(.box b1 [yI d.xE,yI d.fA,yI d.fB] 44)::(.box bk [pp sb 0,Sv ao own.length co,Sv (aa xV 0) sv.length cC,Sv (aa iS 0) wi.length bJ] 86)::(.box sb (yS s ap cp ar cr) 27)::(rr (aa xV 0) sv.length cC 49 16 bZ)::(rr (aa iS 0) wi.length bJ 77 4 bM)::ps) ((qL true [] [] ([]:List zk))::(qL true ([]++E2) ([]++(bM.drop ((d.fA.toNat+1) * 4))) ([]++(wi.drop<|d.fA.toNat+1)))::(qL true [] [] ([]:List zk))::(qL true mY (bM.take<|d.fA.toNat * 4)<|wi.take d.fA.toNat)::(qL true E2 (bM.drop ((d.fA.toNat+1) * 4))<|wi.drop<|d.fA.toNat+1)::(sF false Fp ap cp s.qA)::(sF false Fr ar cr s.qB)::(sF false Fo ao co own)::(qL true aF bZ sv)::(qL true az bM wi)::Γ):=H
     refine o_appendHd (α:=zk) H 0 rfl 7 rfl 3 rfl underlying37 ti77 rfl qj rfl rfl qf qp qf fun S6 Rj ZK H=>?_
     try dsimp only [List.set] at H
     replace H:=H.X3 true 0 rfl 3 rfl qm
     refine ⟨H.pick (zR 1 7)<|zR 2 9,(ro 12 rfl<|o_appendAl (α:=zk) H 0 rfl 1 rfl 2 rfl underlying37 ti77 rfl qj rfl rfl qp qf fun apT anQ Rv H=>?_)⟩
     try dsimp only [List.set] at H
     replace H:=H.X3 true 0 rfl 2 rfl qm
     have T9:(∀ b∈(([]++mY)++([]++E2)),b∈az)/\(az.Nodup->(([]++mY)++([]++E2)).Nodup):=by simpa using aeH
     replace N:Fresh W0.heap.size ((([]++mY)++([]++E2))::aF::Ns):=Fresh.less (N.qY 2 [1,0]<|by simp only [List.length_cons,List.length_append];omega) T9.1 T9.2
     rw [erase_cut (l:=wi) (i:=d.fA.toNat) qf] at H
     refine ⟨H.pick (zR 1 7)<|zR 3 9,(xy qh<|xM<|sq 1<|oF rfl<|oF rfl<|sw<|xO H 4 [pp sb 0,Sv ao own.length co,Sv (aa xV 0) sv.length cC,Sv apT ((0+d.fA.toNat)+(0+(wi.length - (d.fA.toNat+1)))) anQ] sizeOf37 fun MF H=>?_)⟩
     try dsimp only [List.set] at H
     refine zjc<|sp (yI 0)<|zjr<|ret1 (yI 0) rfl rfl ⟨_,rfl,?_⟩
     replace H:=H.erases [2,1]
     dsimp only [zD,List.eraseIdx,List.set] at H
     refine sp (yI 0)<|zjr<|b_r<|t_r<|ret1 (yI 0) rfl rfl ⟨_,rfl,?_⟩
     first | rw [doR_drop qf qf] | rw [doR_stale6 qf qf fs] | (exfalso;omega)
     all_goals exact ⟨bZ,aF,apT,(0+d.fA.toNat)+(0+(wi.length - (d.fA.toNat+1))),anQ,([]++(bM.take<|d.fA.toNat * 4))++([]++(bM.drop ((d.fA.toNat+1) * 4))),(([]++mY)++([]++E2)),rfl,(N.qY 2 [1,0]<|by simp only [List.length_cons,List.length_append];omega),H.qY 6 12 [2,3,4,0] [7,8,9,10,0] (by simp only [List.length_cons,List.length_append];omega)<|by simp only [List.length_cons,List.length_append];omega⟩
    replace rj:=xR rj
    refine xk<|t_n<|zcr<|sp (yI 0)<|zjr<|ret1 (yI 0) rfl rfl ⟨_,rfl,?_⟩
    replace H:=H.erases [0]
    dsimp only [zD,List.eraseIdx,List.set] at H
    refine sp (yI 0)<|zjr<|b_r<|t_r<|ret1 (yI 0) rfl rfl ⟨_,rfl,?_⟩
    first | rw [doR_stale7 qf qf fs] | (exfalso;omega)
    all_goals exact ⟨bZ,aF,(aa iS 0),wi.length,bJ,bM,az,rfl,N,H.qY 5 5 (zR 1 4) (zR 0 5) (by simp only [List.length_cons,List.length_append];omega)<|by simp only [List.length_cons,List.length_append];omega⟩
   have fr:¬ Stale sv (wi[d.fA.toNat]!):=fun z=>by have z:=j46.2 z;simp_all
   have y6:=y5.got<|fresh_of fr
   have y7:=y6.2.1
   obtain ⟨y8,y9⟩:=plusPre p0.sys y6.2.2.1 y1.2.2.1
   have y10:=y6.2.2.1.len
   have y11:=y1.2.2.1.len
   refine xk<|t_n<|zcr<|sw<|jk H underlying29 ti24 fun D9 aD8 H=>sq 1<|zjcc<|sp (yI 0)<|zjn<|xg ?_
   replace H:=H.boxRow 0 rfl 1 0 rfl qj
   try dsimp only [List.set] at H
   replace H:=H.jZ (α:=yLI)
   refine zU ((fun Z0 Z1 Z2 Z3 Z4 Z5 Z6 Z7 Z8 Z9 fH=>fun m' ρ af4=>∃ (xI:Env) (vQ:yOA) (vj:Nat) (s9:Nat) (sum:yLL) (Ce:List Value) (nV:yLN) (c:Nat),ρ=upd (upd (upd (upd xI 1<|pp iS<|0+(d.fA:Int).toNat * 4) 5<|pp xV<|0+((wi[d.fA.toNat]!).fTo:Int).toNat * 16+0) 6<|Sv vQ vj s9) 7 (yI c)/\sum=Xa ((sv[(wi[d.fA.toNat]!).fTo.toNat]!).qC).qJ (wi[d.fA.toNat]!).qG c/\((c:Int)<=(((wi[d.fA.toNat]!).qG).length))/\m' =((((wi[d.fA.toNat]!).qG).length) - (c:Int)).toNat/\Fresh W0.heap.size (aF::az::nV::Ns)/\St W0 af4 ((rr vQ vj s9 24 1 Ce)::Z0::Z1::Z2::Z3::Z4::Z5::ps) ((qL true nV Ce sum)::Z6::Z7::Z8::Z9::fH::Γ)) _ _ _ _ _ _ _ _ _ _ _) (((((wi[d.fA.toNat]!).qG).length) - (0:Int)).toNat) ⟨_,(aa D9 0),0,0,([]:yLL),[],[],0,uE4,(by rfl),qf,rfl,(N.emp.qY 3 [1,2,0]<|by simp only [List.length_cons,List.length_append];omega),H⟩ ?_
   clear H N
   rintro m' ρ ahw ⟨xI,vQ,vj,s9,sum,Ce,nV,c,rfl,rfl,i0,rfl,N,H⟩
   have avo:=H.xe (α:=yLI) 0 rfl 0 rfl qj
   have al:=Vs ((sv[(wi[d.fA.toNat]!).fTo.toNat]!).qC).qJ (wi[d.fA.toNat]!).qG c
   refine zcc<|sp (yI c)<|sq 2<|oF rfl ?_
   obtain ⟨ado,adM,acW,Mj,H⟩:=H.part_ParcelD Qo.refl 6 rfl 5 rfl rfl d.fA.toNat qf
   refine oL rfl (H.xX 6 rfl (Mj 3 _ rfl) qf)<|oN rfl<|sq 1<|zjn<|cD rfl (fun aur=>?_)<|fun aur=>?_
   ·obtain ⟨u1,u2,u3⟩:=y9 c qf
    refine xk<|t_n<|xH<|xg ?_
    obtain ⟨JV,aIo,rfl⟩:=H.addr 0 rfl qf
    refine c_lateC 2 (fun ρ SJ=>∃ (xI:Env) (SX:Nat) (ID:yOA) (IY:Nat),ρ=upd (upd (upd (upd (upd (upd xI 1<|pp iS<|0+(d.fA:Int).toNat * 4) 5<|pp xV<|0+((wi[d.fA.toNat]!).fTo:Int).toNat * 16+0) 6<|Sv vQ vj s9) 7<|yI c) 57<|Sv vQ vj s9) 73 (Sv (aa SX 0) 1 1)/\Fresh W0.heap.size (aF::az::nV::Ns)/\St W0 SJ ((.box SX [Sv ID ((vS ((((sv[((wi[d.fA.toNat]!).fTo).toNat]!).qC).qJ)[c]!) (((wi[d.fA.toNat]!).qG)[c]!) 1).length) IY] 24)::(rr ID ((vS ((((sv[((wi[d.fA.toNat]!).fTo).toNat]!).qC).qJ)[c]!) (((wi[d.fA.toNat]!).qG)[c]!) 1).length) IY 2 1 ((vS ((((sv[((wi[d.fA.toNat]!).fTo).toNat]!).qC).qJ)[c]!) (((wi[d.fA.toNat]!).qG)[c]!) 1).map<|Value.int .i64))::(rr vQ vj s9 24 1 Ce)::(.box Jq [yI d.xE,yI d.fA,yI d.fB] 44)::(.box b1 [yI d.xE,yI d.fA,yI d.fB] 44)::(.box bk [pp sb 0,Sv ao own.length co,Sv (aa xV 0) sv.length cC,Sv (aa iS 0) wi.length bJ] 86)::(.box sb (yS s ap cp ar cr) 27)::(rr (aa xV 0) sv.length cC 49 16 bZ)::(rr (aa iS 0) wi.length bJ 77 4 bM)::ps) ((qL true nV Ce<|Xa ((sv[(wi[d.fA.toNat]!).fTo.toNat]!).qC).qJ (wi[d.fA.toNat]!).qG c)::(sF false Fp ap cp s.qA)::(sF false Fr ar cr s.qB)::(sF false Fo ao co own)::(qL true aF bZ sv)::(qL true az bM wi)::Γ)) rfl H [0,1,2,3,4,5,6] [0,1,2,3,4,5,6] (fun H=>?_) ?_
    ·dsimp only [jR,yE]
     have S:=H.zK (zR 0 7)<|zR 0 7
     refine rtl 0 S ?_
     refine rtl 1 S ?_
     refine rtl 2 S ?_
     refine tF 3 rfl rfl S ?_
     obtain ⟨aev,aej,ad2,Yt,W5,V7,akn,afA,anH,Yc,VU,TV,ahH,aqE,ah0,acZ,ad9,aer,alR,H⟩:=H.vV zg 5 rfl 5 rfl rfl (((wi[d.fA.toNat]!).fTo).toNat) qf
     have S:=H.zK (zR 0 7)<|zR 6 7
     refine rt 4 _ (jL (off:=0+((wi[d.fA.toNat]!).fTo:Int).toNat * 16+0+5) isAgg29 rfl<|fun _ h=>(h.xX 5 rfl (alR 5 _ rfl) qf)) S ?_
     refine rtp 5 (yI c) S ?_
     obtain ⟨aE2,aFe,rfl⟩:=H.addr 3 rfl qf
     obtain ⟨WB,UW,aAE,H⟩:=H.yD 3 rfl c c qf qf qf
     have S:=H.zK (zR 0 7)<|zR 8 7
     refine tI 6 rfl rfl rfl S ?_
     refine rtl 8 S ?_
     refine rtl 9 S ?_
     refine tF 10 rfl rfl S ?_
     refine rt 11 _ (jL (off:=0+(d.fA:Int).toNat * 4+3) isAgg29 rfl<|fun _ h=>(h.xX 6 rfl (Mj 3 _ rfl) qf)) S ?_
     refine rtp 12 (yI c) S ?_
     obtain ⟨Uf,WJ,azZ,H⟩:=H.yD 8 rfl c c qf qf qf
     refine tI 13 rfl rfl rfl (H.pick (zR 0 7)<|zR 10 7)<|jw [7,14] qh qm<|jT rfl ?_<|jT rfl ?_ jy
     ·refine zB (Sv WB (((((sv[((wi[d.fA.toNat]!).fTo).toNat]!).qC).qJ)[c]!).length) UW) isAgg24 rfl (H.vW 3 rfl 0 rfl) (⟨H.pick (zR 0 7)<|zR 10 7,(ro 14 rfl<|zB (Sv Uf ((((wi[d.fA.toNat]!).qG)[c]!).length) WJ) isAgg24 rfl (H.vW 1 rfl 0 rfl)<|⟨H.pick (zR 0 7)<|zR 10 7,(ro 15 rfl ?_)⟩)⟩)
      have aCC:=H.base.size
      have aBW:=jB (H.ltN (L:=[aF,az,nV]) [15,16,11])<|H.ltK<|K0.behind 17 rfl
      refine oc (Qu _ ((((sv[((wi[d.fA.toNat]!).fTo).toNat]!).qC).qJ)[c]!) (((wi[d.fA.toNat]!).qG)[c]!) 1 (H.get 2 rfl).1 (H.get 0 rfl).1 qg qg qg) ?_
      rintro aFJ aGO avx auO
      replace H:=H.zI auO avx
      obtain ⟨apz,aiK,rfl,aBS,aCP⟩:=H.jW 0 rfl
      refine ⟨H.pick (zR 1 7)<|zR 10 7,(ro 16 rfl<|zx H underlying29 ti24 [Sv apz ((vS ((((sv[((wi[d.fA.toNat]!).fTo).toNat]!).qC).qJ)[c]!) (((wi[d.fA.toNat]!).qG)[c]!) 1).length) aiK] fun avr aE5 H=>⟨H.pick (zR 2 7)<|zR 10 7,(xy qh ((meet ⟨_,avr,apz,aiK,uE6,N,H.qY 9 17 (zR 0 9) (zR 11 6) (by simp only [List.length_cons,List.length_append];omega)<|by simp only [List.length_cons,List.length_append];omega⟩)))⟩)⟩
     refine zB (Sv Uf ((((wi[d.fA.toNat]!).qG)[c]!).length) WJ) isAgg24 rfl (H.vW 1 rfl 0 rfl)<|⟨H.pick (zR 0 7)<|zR 10 7,(ro 7 rfl<|zB (Sv WB (((((sv[((wi[d.fA.toNat]!).fTo).toNat]!).qC).qJ)[c]!).length) UW) isAgg24 rfl (H.vW 3 rfl 0 rfl)<|⟨H.pick (zR 0 7)<|zR 10 7,(ro 15 rfl ?_)⟩)⟩
     have aqu:=H.base.size
     have amc:=jB (H.ltN (L:=[aF,az,nV]) [15,16,11])<|H.ltK<|K0.behind 17 rfl
     refine oc (Qu _ ((((sv[((wi[d.fA.toNat]!).fTo).toNat]!).qC).qJ)[c]!) (((wi[d.fA.toNat]!).qG)[c]!) 1 (H.get 2 rfl).1 (H.get 0 rfl).1 qg qg qg) ?_
     rintro axj abK acR Zx
     replace H:=H.zI Zx acR
     obtain ⟨RH,Su,rfl,ai6,alb⟩:=H.jW 0 rfl
     refine ⟨H.pick (zR 1 7)<|zR 10 7,(ro 16 rfl<|zx H underlying29 ti24 [Sv RH ((vS ((((sv[((wi[d.fA.toNat]!).fTo).toNat]!).qC).qJ)[c]!) (((wi[d.fA.toNat]!).qG)[c]!) 1).length) Su] fun Ze aty H=>⟨H.pick (zR 2 7)<|zR 10 7,(xy qh ((meet ⟨_,Ze,RH,Su,uE6,N,H.qY 9 17 (zR 0 9) (zR 11 6) (by simp only [List.length_cons,List.length_append];omega)<|by simp only [List.length_cons,List.length_append];omega⟩)))⟩)⟩
    clear H N
    rintro ρ avP ⟨xI,SX,ID,IY,rfl,N,H⟩
    obtain ⟨Kg,N,U8,H⟩:=H.ve 1 rfl N<|fun F hF b hb=>(List.mem_append.1<|show F∈[aF,az,nV]++Ns from hF).elim (fun h=>(H.vg (L:=[aF,az,nV]) [4,5,0]) F h b hb) fun h=>H.jH (K0.behind 6 rfl) F h b hb
    try dsimp only [List.set] at H
    refine sw<|zJ H 2 rfl 0 rfl underlying29 ti24 rfl qj rfl rfl rfl qw qp qf fun agp am7 Sj H=>?_
    try dsimp only [List.set] at H
    replace H:=H.QR 1 rfl 0 rfl
    replace N:Fresh W0.heap.size ((nV++Kg)::aF::az::Ns):=(N.qY 4 [3,0,1,2]<|by simp only [List.length_cons,List.length_append];omega).join
    refine sq 1<|xW<|b_n<|t_n<|xZ<|sp (yI c)<|sw<|zV c 1 rfl rfl qf<|sq 1<|xW<|xq (m' :=((((wi[d.fA.toNat]!).qG).length) - ((c+1):Int)).toNat) qf ⟨_,_,_,_,_,_,_,c+1,uE4,?_,?_,rfl,(N.qY 3 [1,2,0]<|by simp only [List.length_cons,List.length_append];omega),H.qY 9 8 (zR 2 7) (0::zR 3 5) (by simp only [List.length_cons,List.length_append];omega)<|by simp only [List.length_cons,List.length_append];omega⟩
    ·exact addTabTo_snoc _ _ _
    ·omega
   have ec:c=((sv[(wi[d.fA.toNat]!).fTo.toNat]!).qC).qJ.length:=by omega
   refine zx4<|zcc<|sq 1 ?_
   obtain ⟨aH0,YH,ayc⟩:=H.rowIsR (α:=yLI) 0 rfl 1 rfl qj
   refine sw<|oq (args_eq (by rw [← YH])<|l08Bags_ok _ (Xa ((sv[(wi[d.fA.toNat]!).fTo.toNat]!).qC).qJ (wi[d.fA.toNat]!).qG c)<|YH▸ayc) H fun aI5 H=>sq 1<|zjn<|cQ rfl (fun atL=>?_)<|fun atL=>?_
   ·refine zcr (sp (yI 3)<|zjr<|t_r<|ret1 (yI 3) rfl rfl ⟨_,rfl,?_⟩)
    replace H:=H.erases [0]
    dsimp only [zD,List.eraseIdx,List.set] at H
    refine sp (yI 3)<|zjc<|sp (yI 3)<|sp (Bv true)<|zjn<|cTr rfl<|zcr<|sp (yI 3)<|sp (yI 3)<|zjr<|t_r<|ret1 (yI 3) rfl rfl ⟨_,rfl,?_⟩
    replace H:=H.erases [0]
    dsimp only [zD,List.eraseIdx,List.set] at H
    refine sp (yI 3)<|zjr<|b_r<|t_r<|ret1 (yI 3) rfl rfl ⟨_,rfl,?_⟩
    first | rw [doR_post3 qf ⟨⟨by omega,by omega⟩,⟨by omega,by omega⟩,by omega⟩ ⟨by assumption,by assumption⟩ qf] | rw [doR_back3 qf ⟨⟨by omega,by omega⟩,⟨by omega,by omega⟩,by omega⟩ ql qf] | rw [doR_come3 qf qf fr<|by rw [← sumC_eq ec];assumption] | (exfalso;omega)
    all_goals exact ⟨bZ,aF,(aa iS 0),wi.length,bJ,bM,az,rfl,(N.qY 3 [0,1]<|by simp only [List.length_cons,List.length_append];omega),H.qY 5 7 (zR 1 4) (zR 2 5) (by simp only [List.length_cons,List.length_append];omega)<|by simp only [List.length_cons,List.length_append];omega⟩
   refine xk<|t_n<|zcr<|sq 3<|oF rfl ?_
   have H0:=H
   obtain ⟨atC,UA,azP,H⟩:=H.vK (α:=yLI) 0 rfl 1 rfl qj
   replace N:Fresh W0.heap.size (atC::aF::az::Ns):=Fresh.ice (N.qY 3 [2,0,1]<|by simp only [List.length_cons,List.length_append];omega) H0 0 UA.1 UA.2<|fun F hF b hb=>(List.mem_append.1<|show F∈[aF,az]++Ns from hF).elim (fun h=>(H0.vg (L:=[aF,az]) [5,6]) F h b hb) fun h=>H0.jH (K0.behind 7 rfl) F h b hb
   clear H0
   try dsimp only [List.set] at H
   obtain ⟨FX,GP⟩:∃ z,z=(sv.set (((wi[d.fA.toNat]!).fTo).toNat) { sv[((wi[d.fA.toNat]!).fTo).toNat]! with qC:={ sv[((wi[d.fA.toNat]!).fTo).toNat]!.qC with qJ:=(Xa ((sv[(wi[d.fA.toNat]!).fTo.toNat]!).qC).qJ (wi[d.fA.toNat]!).qG c)}}):=⟨_,rfl⟩
   refine sw<|Xu (v:=Sv vQ vj s9) XA H 5 rfl 6 rfl 0 rfl rfl sizeOf29 rfl rfl rfl (((wi[d.fA.toNat]!).fTo).toNat) qf qf GP fun aiQ wZ amN aqi H=>?_
   try dsimp only [List.set] at H
   replace N:Fresh W0.heap.size (amN::az::Ns):=(N.qY 3 [1,0,2]<|by simp only [List.length_cons,List.length_append];omega).repl aqi
   obtain ⟨u1,u2⟩:=come_len qf GP y7
   refine zjn<|xH<|zY 2 rfl H [0,1,2,3,4,5,6] [0,1,2,3,4,5,6,7,8] fun H=>?_
   dsimp only [jR,yE]
   have S:=H.zK (zR 0 7)<|zR 0 9
   refine rtl 0 S ?_
   refine rtl 1 S ?_
   refine tF 2 rfl rfl S ?_
   obtain ⟨adT,adI,ad0,X2,Y8,YP,ame,agy,amp,Yy,Wm,Yo,aob,ahp,afZ,adQ,aey,ac6,Wr,H⟩:=H.vV zg 5 rfl 0 rfl rfl (((wi[d.fA.toNat]!).fTo).toNat) qf
   have S:=H.zK (zR 0 7)<|zR 6 9
   refine rt 3 _ (jL (off:=0+((wi[d.fA.toNat]!).fTo:Int).toNat * 16+0+4) isAgg28 rfl<|fun _ h=>(h.xX 5 rfl (Wr 4 _ rfl) qf)) S ?_
   refine rtl 4 S ?_
   refine rtl 5 S ?_
   refine tF 6 rfl rfl S ?_
   refine rt 7 _ (jL (off:=0+(d.fA:Int).toNat * 4+1) isAgg2 rfl<|fun _ h=>(h.xX 6 rfl (Mj 1 _ rfl) qf)) S ?_
   refine xy qh<|xM ?_
   obtain ⟨aHw,aIF,rfl⟩:=H.addr 2 rfl qf
   refine oI rfl rfl ?_
   have N0:Fresh W0.heap.size (amN::az::Ns):=N
   obtain ⟨Yb,DB⟩:∃ z,z=(FX.set (((wi[d.fA.toNat]!).fTo).toNat) { FX[((wi[d.fA.toNat]!).fTo).toNat]! with qC:={ FX[((wi[d.fA.toNat]!).fTo).toNat]!.qC with vz:=(((FX[((wi[d.fA.toNat]!).fTo).toNat]!).qC.vz).set (((wi[d.fA.toNat]!).XZ).toNat) true)}}):=⟨_,rfl⟩
   refine sw<|o_pokeBool Xn H 6 rfl N0 ((sF false Fp ap cp s.qA)::(sF false Fr ar cr s.qB)::(sF false Fo ao co own)::(qL true az bM wi)::Γ) (vw (kept 10 rfl<|Xo OL 0 rfl N0)<|vw (kept 11 rfl<|Xo OL 1 rfl N0)<|vw (kept 12 rfl<|Xo OL 2 rfl N0)<|vw (kept 14 rfl<|QJ N0 0 rfl)<|keeps_old 15 rfl OL 3 rfl N0) (((wi[d.fA.toNat]!).fTo).toNat) qf rfl (Wr 4 _ rfl) (((wi[d.fA.toNat]!).XZ).toNat) qf sizeOf4 rfl qf rfl DB fun aeG OQ N H=>zjc<|sp (yI 0)<|zjr<|ret1 (yI 0) rfl rfl ⟨_,rfl,?_⟩
   replace H:=H.erases [0]
   dsimp only [zD,List.eraseIdx,List.set] at H
   refine sp (yI 0)<|zjc<|sp (yI 0)<|sp (Bv false)<|zjn<|cFr rfl<|xk<|t_n<|zcc<|oF rfl<|oL rfl (H.cell 0 rfl rfl)<|sp (Bv ((d.xE:Int) != 7))<|zjn<|vk ((d.xE:Int) != 7) rfl (fun Es=>?_)<|fun Es=>?_
   ·replace Es:=bne_iff_ne.1 Es
    refine xH ?_
    have aAY:=H.rowCap 5 rfl
    obtain ⟨IG,wx,ank,H⟩:=H.cutRow 4 rfl d.fA.toNat qf
    refine zY 2 rfl H [0,1,2,3,4,5] [0,1,2,3,4,5,6] fun H=>?_
    dsimp only [jR,yE]
    have S:=H.zK (zR 0 6)<|zR 0 7
    refine rtl 1 S ?_
    refine rtl 2 S ?_
    refine tF 3 rfl rfl S ?_
    refine tF 4 rfl rfl S ?_
    refine tL 5 rfl rfl (fun _ h=>h.cell 2 rfl rfl) S ?_
    refine tF 6 rfl rfl S ?_
    refine tL 7 rfl rfl (fun _ h=>h.cell 0 rfl rfl) S ?_
    refine rt 8 _ (y_add d.fA 1 rfl rfl qf) S ?_
    refine rt 9 (Sv (aa iS<|if bJ=(d.fA.toNat+1) then 0 else 0+(d.fA.toNat+1) * 4) (wi.length - (d.fA.toNat+1))<|bJ - (d.fA.toNat+1)) (fun _ _=>y_fromI (iv:=d.fA+1) (d.fA.toNat+1) underlying37 ti77 rfl rfl qf qf qf) S ?_
    refine ro 0 rfl<|jk H underlying37 ti77 fun aw7 Ka H=>⟨H.pick (zR 1 6)<|zR 0 7,(xy qh<|xM ?_)⟩
    replace H:=H.boxRow 0 rfl 4 0 rfl qj
    try dsimp only [List.set] at H
    replace H:=H.jZ (α:=zk)
    replace H:St _ _ ((rr (aa aw7 0) 0 0 77 4 [])::(.box Jq [yI d.xE,yI d.fA,yI d.fB] 44)::(.box b1 [yI d.xE,yI d.fA,yI d.fB] 44)::(.box bk [pp sb 0,Sv ao own.length co,Sv (aa xV 0) sv.length cC,Sv (aa iS 0) wi.length bJ] 86)::(.box sb (yS s ap cp ar cr) 27)::(rr (aa xV 0) sv.length cC 49 16 wZ)::(rr (aa iS 0) wi.length bJ 77 4 bM)::ps) ((qL true [] [] ([]:List zk))::(qL true IG (bM.take<|d.fA.toNat * 4)<|wi.take d.fA.toNat)::(qL true wx (bM.drop ((d.fA.toNat+1) * 4))<|wi.drop<|d.fA.toNat+1)::(qL true OQ wZ Yb)::(sF false Fp ap cp s.qA)::(sF false Fr ar cr s.qB)::(sF false Fo ao co own)::(qL true az bM wi)::Γ):=H
    refine sw<|o_appendTl (α:=zk) H 0 rfl 6 rfl 2 rfl underlying37 ti77 rfl qj rfl rfl qf qf qp qf fun avE avT aJt H=>?_
    try dsimp only [List.set] at H
    replace H:=H.X3 true 0 rfl 2 rfl qm
    refine sq 1<|zjn<|zY 4 rfl H [0,1,2,3,4,5,6] [0,1,2,3,4,5,6,7,8] fun H=>?_
    dsimp only [jR,yE]
    have S:=H.zK (zR 0 7)<|zR 0 9
    refine rtl 0 S ?_
    refine rtl 2 S ?_
    refine rtl 3 S ?_
    refine tF 4 rfl rfl S ?_
    refine tF 5 rfl rfl S ?_
    refine tL 6 rfl rfl (fun _ h=>h.cell 3 rfl rfl) S ?_
    refine tF 7 rfl rfl S ?_
    refine tL 8 rfl rfl (fun _ h=>h.cell 1 rfl rfl) S ?_
    refine rt 9 (Sv (aa iS 0) d.fA.toNat bJ) (fun _ _=>y_upI (iv:=d.fA) d.fA.toNat underlying37 ti77 rfl rfl qf qf) S ?_
    refine rtl 11 S ?_
    refine ro 1 rfl<|jk H underlying37 ti77 fun CP awQ H=>⟨H.pick (zR 1 7)<|zR 0 9,(ro 10 rfl ?_)⟩
    replace H:=H.boxRow 0 rfl 4 0 rfl qj
    try dsimp only [List.set] at H
    replace H:=H.jZ (α:=zk)
    replace H:St _ _ ((rr (aa CP 0) 0 0 77 4 [])::(rr avE (0+(wi.length - (d.fA.toNat+1))) avT 77 4 ([]++(bM.drop ((d.fA.toNat+1) * 4))))::(.box Jq [yI d.xE,yI d.fA,yI d.fB] 44)::(.box b1 [yI d.xE,yI d.fA,yI d.fB] 44)::(.box bk [pp sb 0,Sv ao own.length co,Sv (aa xV 0) sv.length cC,Sv (aa iS 0) wi.length bJ] 86)::(.box sb (yS s ap cp ar cr) 27)::(rr (aa xV 0) sv.length cC 49 16 wZ)::(rr (aa iS 0) wi.length bJ 77 4 bM)::ps) ((qL true [] [] ([]:List zk))::(qL true ([]++wx) ([]++(bM.drop ((d.fA.toNat+1) * 4))) ([]++(wi.drop<|d.fA.toNat+1)))::(qL true [] [] ([]:List zk))::(qL true IG (bM.take<|d.fA.toNat * 4)<|wi.take d.fA.toNat)::(qL true wx (bM.drop ((d.fA.toNat+1) * 4))<|wi.drop<|d.fA.toNat+1)::(qL true OQ wZ Yb)::(sF false Fp ap cp s.qA)::(sF false Fr ar cr s.qB)::(sF false Fo ao co own)::(qL true az bM wi)::Γ):=H
    refine o_appendHd (α:=zk) H 0 rfl 7 rfl 3 rfl underlying37 ti77 rfl qj rfl rfl qf qp qf fun aIH aKi akh H=>?_
    try dsimp only [List.set] at H
    replace H:=H.X3 true 0 rfl 3 rfl qm
    refine ⟨H.pick (zR 1 7)<|zR 2 9,(ro 12 rfl<|o_appendAl (α:=zk) H 0 rfl 1 rfl 2 rfl underlying37 ti77 rfl qj rfl rfl qp qf fun Iu IC ao9 H=>?_)⟩
    try dsimp only [List.set] at H
    replace H:=H.X3 true 0 rfl 2 rfl qm
    have Vw:(∀ b∈(([]++IG)++([]++wx)),b∈az)/\(az.Nodup->(([]++IG)++([]++wx)).Nodup):=by simpa using ank
    replace N:Fresh W0.heap.size ((([]++IG)++([]++wx))::OQ::Ns):=Fresh.less (N.qY 2 [1,0]<|by simp only [List.length_cons,List.length_append];omega) Vw.1 Vw.2
    rw [erase_cut (l:=wi) (i:=d.fA.toNat) qf] at H
    refine ⟨H.pick (zR 1 7)<|zR 3 9,(xy qh<|xM<|sq 1<|oF rfl<|oF rfl<|sw<|xO H 4 [pp sb 0,Sv ao own.length co,Sv (aa xV 0) sv.length cC,Sv Iu ((0+d.fA.toNat)+(0+(wi.length - (d.fA.toNat+1)))) IC] sizeOf37 fun aGe H=>?_)⟩
    try dsimp only [List.set] at H
    refine zjc<|sp (yI 0)<|zjr<|ret1 (yI 0) rfl rfl ⟨_,rfl,?_⟩
    replace H:=H.erases [2,1]
    dsimp only [zD,List.eraseIdx,List.set] at H
    refine sp (yI 0)<|zjr<|b_r<|t_r<|ret1 (yI 0) rfl rfl ⟨_,rfl,?_⟩
    first | rw [doR_come6 qf qf fr (by rw [← sumC_eq ec];assumption)<|sgot_sets ec qf GP DB] | (exfalso;omega)
    all_goals exact ⟨wZ,OQ,Iu,(0+d.fA.toNat)+(0+(wi.length - (d.fA.toNat+1))),IC,([]++(bM.take<|d.fA.toNat * 4))++([]++(bM.drop ((d.fA.toNat+1) * 4))),(([]++IG)++([]++wx)),rfl,(N.qY 2 [1,0]<|by simp only [List.length_cons,List.length_append];omega),H.qY 6 12 [2,3,4,0] [8,9,10,7,0] (by simp only [List.length_cons,List.length_append];omega)<|by simp only [List.length_cons,List.length_append];omega⟩
   replace Es:=xR Es
   refine xk<|t_n<|zcr<|sp (yI 0)<|zjr<|ret1 (yI 0) rfl rfl ⟨_,rfl,?_⟩
   replace H:=H.erases [0]
   dsimp only [zD,List.eraseIdx,List.set] at H
   refine sp (yI 0)<|zjr<|b_r<|t_r<|ret1 (yI 0) rfl rfl ⟨_,rfl,?_⟩
   first | rw [doR_save qf ⟨by omega,by omega⟩ DB] | rw [doR_crash qf ⟨by omega,by omega⟩ DB] | rw [doR_come7 qf qf fr (by rw [← sumC_eq ec];assumption)<|sgot_sets ec qf GP DB] | (exfalso;omega)
   all_goals exact ⟨wZ,OQ,(aa iS 0),wi.length,bJ,bM,az,rfl,N,H.qY 5 5 (zR 1 4) [1,2,3,0,4] (by simp only [List.length_cons,List.length_append];omega)<|by simp only [List.length_cons,List.length_append];omega⟩
  replace M7:=xR M7
  refine xk<|t_n<|zcc<|oF rfl<|oL rfl (H.cell 0 rfl rfl)<|sp (Bv ((d.xE:Int) != 7))<|zjn<|vk ((d.xE:Int) != 7) rfl (fun Pr=>?_)<|fun Pr=>?_
  ·replace Pr:=bne_iff_ne.1 Pr
   refine xH ?_
   obtain ⟨Ck,rfl⟩:=H.jg 5 rfl qf
   have azC:=H.rowCap 5 rfl
   obtain ⟨Kb,mE,agr,H⟩:=H.cutRow 4 rfl d.fA.toNat qf
   refine zY 2 rfl H [0,1,2,3,4,5] [0,1,2,3,4,5,6] fun H=>?_
   dsimp only [jR,yE]
   have S:=H.zK (zR 0 6)<|zR 0 7
   refine rtl 1 S ?_
   refine rtl 2 S ?_
   refine tF 3 rfl rfl S ?_
   refine tF 4 rfl rfl S ?_
   refine tL 5 rfl rfl (fun _ h=>h.cell 2 rfl rfl) S ?_
   refine tF 6 rfl rfl S ?_
   refine tL 7 rfl rfl (fun _ h=>h.cell 0 rfl rfl) S ?_
   refine rt 8 _ (y_add d.fA 1 rfl rfl qf) S ?_
   refine rt 9 (Sv (aa Ck<|if bJ=(d.fA.toNat+1) then 0 else 0+(d.fA.toNat+1) * 4) (wi.length - (d.fA.toNat+1))<|bJ - (d.fA.toNat+1)) (fun _ _=>y_fromI (iv:=d.fA+1) (d.fA.toNat+1) underlying37 ti77 rfl rfl qf qf qf) S ?_
   refine ro 0 rfl<|jk H underlying37 ti77 fun ZB azg H=>⟨H.pick (zR 1 6)<|zR 0 7,(xy qh<|xM ?_)⟩
   replace H:=H.boxRow 0 rfl 4 0 rfl qj
   try dsimp only [List.set] at H
   replace H:=H.jZ (α:=zk)
   replace H:St _ _ ((rr (aa ZB 0) 0 0 77 4 [])::(.box Jq [yI d.xE,yI d.fA,yI d.fB] 44)::(.box b1 [yI d.xE,yI d.fA,yI d.fB] 44)::(.box bk [pp sb 0,Sv ao own.length co,Sv eG sv.length cC,Sv (aa Ck 0) wi.length bJ] 86)::(.box sb (yS s ap cp ar cr) 27)::(rr eG sv.length cC 49 16 bZ)::(rr (aa Ck 0) wi.length bJ 77 4 bM)::ps) ((qL true [] [] ([]:List zk))::(qL true Kb (bM.take<|d.fA.toNat * 4)<|wi.take d.fA.toNat)::(qL true mE (bM.drop ((d.fA.toNat+1) * 4))<|wi.drop<|d.fA.toNat+1)::(sF false Fp ap cp s.qA)::(sF false Fr ar cr s.qB)::(sF false Fo ao co own)::(qL true aF bZ sv)::(qL true az bM wi)::Γ):=H
   refine sw<|o_appendTl (α:=zk) H 0 rfl 6 rfl 2 rfl underlying37 ti77 rfl qj rfl rfl qf qf qp qf fun R7 SA aI6 H=>?_
   try dsimp only [List.set] at H
   replace H:=H.X3 true 0 rfl 2 rfl qm
   refine sq 1<|zjn<|zY 4 rfl H [0,1,2,3,4,5,6] [0,1,2,3,4,5,6,7,8] fun H=>?_
   dsimp only [jR,yE]
   have S:=H.zK (zR 0 7)<|zR 0 9
   refine rtl 0 S ?_
   refine rtl 2 S ?_
   refine rtl 3 S ?_
   refine tF 4 rfl rfl S ?_
   refine tF 5 rfl rfl S ?_
   refine tL 6 rfl rfl (fun _ h=>h.cell 3 rfl rfl) S ?_
   refine tF 7 rfl rfl S ?_
   refine tL 8 rfl rfl (fun _ h=>h.cell 1 rfl rfl) S ?_
   refine rt 9 (Sv (aa Ck 0) d.fA.toNat bJ) (fun _ _=>y_upI (iv:=d.fA) d.fA.toNat underlying37 ti77 rfl rfl qf qf) S ?_
   refine rtl 11 S ?_
   refine ro 1 rfl<|jk H underlying37 ti77 fun CJ aEn H=>⟨H.pick (zR 1 7)<|zR 0 9,(ro 10 rfl ?_)⟩
   replace H:=H.boxRow 0 rfl 4 0 rfl qj
   try dsimp only [List.set] at H
   replace H:=H.jZ (α:=zk)
   replace H:St _ _ ((rr (aa CJ 0) 0 0 77 4 [])::(rr R7 (0+(wi.length - (d.fA.toNat+1))) SA 77 4 ([]++(bM.drop ((d.fA.toNat+1) * 4))))::(.box Jq [yI d.xE,yI d.fA,yI d.fB] 44)::(.box b1 [yI d.xE,yI d.fA,yI d.fB] 44)::(.box bk [pp sb 0,Sv ao own.length co,Sv eG sv.length cC,Sv (aa Ck 0) wi.length bJ] 86)::(.box sb (yS s ap cp ar cr) 27)::(rr eG sv.length cC 49 16 bZ)::(rr (aa Ck 0) wi.length bJ 77 4 bM)::ps) ((qL true [] [] ([]:List zk))::(qL true ([]++mE) ([]++(bM.drop ((d.fA.toNat+1) * 4))) ([]++(wi.drop<|d.fA.toNat+1)))::(qL true [] [] ([]:List zk))::(qL true Kb (bM.take<|d.fA.toNat * 4)<|wi.take d.fA.toNat)::(qL true mE (bM.drop ((d.fA.toNat+1) * 4))<|wi.drop<|d.fA.toNat+1)::(sF false Fp ap cp s.qA)::(sF false Fr ar cr s.qB)::(sF false Fo ao co own)::(qL true aF bZ sv)::(qL true az bM wi)::Γ):=H
   refine o_appendHd (α:=zk) H 0 rfl 7 rfl 3 rfl underlying37 ti77 rfl qj rfl rfl qf qp qf fun JS JL atO H=>?_
   try dsimp only [List.set] at H
   replace H:=H.X3 true 0 rfl 3 rfl qm
   refine ⟨H.pick (zR 1 7)<|zR 2 9,(ro 12 rfl<|o_appendAl (α:=zk) H 0 rfl 1 rfl 2 rfl underlying37 ti77 rfl qj rfl rfl qp qf fun aeO aqb ama H=>?_)⟩
   try dsimp only [List.set] at H
   replace H:=H.X3 true 0 rfl 2 rfl qm
   have YZ:(∀ b∈(([]++Kb)++([]++mE)),b∈az)/\(az.Nodup->(([]++Kb)++([]++mE)).Nodup):=by simpa using agr
   replace N:Fresh W0.heap.size ((([]++Kb)++([]++mE))::aF::Ns):=Fresh.less (N.qY 2 [1,0]<|by simp only [List.length_cons,List.length_append];omega) YZ.1 YZ.2
   rw [erase_cut (l:=wi) (i:=d.fA.toNat) qf] at H
   refine ⟨H.pick (zR 1 7)<|zR 3 9,(xy qh<|xM<|sq 1<|oF rfl<|oF rfl<|sw<|xO H 4 [pp sb 0,Sv ao own.length co,Sv eG sv.length cC,Sv aeO ((0+d.fA.toNat)+(0+(wi.length - (d.fA.toNat+1)))) aqb] sizeOf37 fun ao0 H=>?_)⟩
   try dsimp only [List.set] at H
   refine zjc<|sp (yI 0)<|zjr<|ret1 (yI 0) rfl rfl ⟨_,rfl,?_⟩
   replace H:=H.erases [2,1]
   dsimp only [zD,List.eraseIdx,List.set] at H
   refine sp (yI 0)<|zjr<|b_r<|t_r<|ret1 (yI 0) rfl rfl ⟨_,rfl,?_⟩
   first | rw [doR_drop qf qf] | rw [doR_stale6 qf qf fs] | (exfalso;omega)
   all_goals exact ⟨bZ,aF,aeO,(0+d.fA.toNat)+(0+(wi.length - (d.fA.toNat+1))),aqb,([]++(bM.take<|d.fA.toNat * 4))++([]++(bM.drop ((d.fA.toNat+1) * 4))),(([]++Kb)++([]++mE)),rfl,(N.qY 2 [1,0]<|by simp only [List.length_cons,List.length_append];omega),H.qY 6 12 [2,3,4,0] [7,8,9,10,0] (by simp only [List.length_cons,List.length_append];omega)<|by simp only [List.length_cons,List.length_append];omega⟩
  replace Pr:=xR Pr
  refine xk<|t_n<|zcr<|sp (yI 0)<|zjr<|ret1 (yI 0) rfl rfl ⟨_,rfl,?_⟩
  replace H:=H.erases [0]
  dsimp only [zD,List.eraseIdx,List.set] at H
  refine sp (yI 0)<|zjr<|b_r<|t_r<|ret1 (yI 0) rfl rfl ⟨_,rfl,?_⟩
  first | rw [doR_stale7 qf qf fs] | (exfalso;omega)
  all_goals exact ⟨bZ,aF,cM,wi.length,bJ,bM,az,rfl,N,H.qY 5 5 (zR 1 4) (zR 0 5) (by simp only [List.length_cons,List.length_append];omega)<|by simp only [List.length_cons,List.length_append];omega⟩
 try (have Lf:¬ (d.xE=6\/d.xE=7\/d.xE=8):=fun z=>by have z:=Ig.2 z;simp_all)
 refine xk<|b_n<|t_n<|xH<|xH<|zY 1 rfl H [0,1,2,3,4] [0,1,2,3,4] fun H=>?_
 dsimp only [jR,yE]
 have S:=H.zK (zR 0 5)<|zR 0 5
 refine tF 0 rfl rfl S ?_
 refine tL 1 rfl rfl (fun _ h=>h.cell 0 rfl rfl) S ?_
 refine rtl 2 S ?_
 refine rtl 3 S ?_
 refine tF 4 rfl rfl S ?_
 refine tF 5 rfl rfl S ?_
 refine tL 6 rfl rfl (fun _ h=>h.cell 1 rfl rfl) S ?_
 refine tN 7 rfl rfl S ?_
 refine xy qh<|xM<|sp (Bv<|decide ((d.fA:Int)>=sv.length))<|zjn<|cD rfl (fun ayG=>?_)<|fun ayG=>?_
 ·refine zcr (sp (yI 2)<|zjr<|t_r<|ret1 (yI 2) rfl rfl ⟨_,rfl,?_⟩)
  first | rw [Va qf<|by show ¬ (0<=d.fA/\d.fA<=(sv.length:Int) - 1);omega] | rw [X9 qf<|by first | (left;show ¬ (0<=d.fA/\d.fA<=(sv.length:Int) - 1);omega) | (right;left;show ¬ (0<=d.fB/\d.fB<=(sv.length:Int) - 1);omega) | (right;right;omega)] | rw [X8 qf qf] | (exfalso;omega)
  all_goals exact ⟨bZ,aF,cM,wi.length,bJ,bM,az,rfl,N,H.qY 5 5 (zR 1 4) (zR 0 5) (by simp only [List.length_cons,List.length_append];omega)<|by simp only [List.length_cons,List.length_append];omega⟩
 refine xk<|t_n<|xH<|zY 2 rfl H [0,1,2,3,4] [0,1,2,3,4] fun H=>?_
 dsimp only [jR,yE]
 have S:=H.zK (zR 0 5)<|zR 0 5
 refine rtl 0 S ?_
 refine rtl 1 S ?_
 refine tF 2 rfl rfl S ?_
 refine tF 3 rfl rfl S ?_
 refine tL 4 rfl rfl (fun _ h=>h.cell 1 rfl rfl) S ?_
 refine tF 5 rfl rfl S ?_
 refine tL 6 rfl rfl (fun _ h=>h.cell 0 rfl rfl) S ?_
 refine xy qh<|xM ?_
 obtain ⟨AC,rfl⟩:=H.jg 3 rfl qf
 refine oI rfl rfl<|sq 1<|zjcc<|oF rfl<|oL rfl (H.cell 0 rfl rfl)<|zjn<|xg<|zcr<|sp (Bv ((d.xE:Int) == 1))<|sp (Bv ((d.xE:Int) == 1))<|zjn<|cE rfl (fun awH=>?_)<|fun awH=>?_
 ·refine zcr (sq 1<|oF rfl<|oL rfl (H.cell 0 rfl rfl) ?_)
  have H1:=H.yw 5 5 [1,2,3,4,0] [0,1,2,3,4] (by simp only [List.length_cons,List.length_append];omega)<|by simp only [List.length_cons,List.length_append];omega
  have N1:Fresh _ (aF::az::Ns):=N
  have K1:Kept (Ns) (Γ):=K0.behind 0 rfl
  refine sw<|zy #[pp bk 0,yI d.fA] rfl rfl call108 (swork_ok s own ap cp Fp ar cr Fr ao co Fo sb sv wi bk _ (aa AC 0) sv.length cC bZ aF cM wi.length bJ bM az d.fA H1 N1 K1 qg qg qg<|zf (zZ OL 0 rfl)<|zf (zZ OL 1 rfl)<|zf (zZ OL 2 rfl)<|olds_drop OL 3 rfl) ?_
  clear H H1 N1 K1
  rintro _ Se ⟨aoa,anO,anx,aDj,an8,af8,amT,rfl,N,H⟩
  obtain rfl:=H.xe (α:=zk) 3 rfl 4 rfl qj
  refine sq 1<|zjr<|b_r<|t_r<|ret1 (yI ((workM s own (⟨sv,wi⟩:zQ) d.fA.toNat).2)) rfl rfl ⟨_,rfl,?_⟩
  first | rw [doR_work qf ⟨by omega,by omega⟩] | rw [doR_advance qf ⟨by omega,by omega⟩] | (exfalso;omega)
  all_goals exact ⟨aoa,anO,anx,((workM s own (⟨sv,wi⟩:zQ) d.fA.toNat).1.zu).length,an8,af8,amT,rfl,N,H.qY 5 5 (zR 0 4) (zR 0 5) (by simp only [List.length_cons,List.length_append];omega)<|by simp only [List.length_cons,List.length_append];omega⟩
 refine zcr<|sp (Bv ((d.xE:Int) == 5))<|sp (Bv ((d.xE:Int) == 5))<|zjn<|cE rfl (fun auS=>?_)<|fun auS=>?_
 ·refine zcr (sq 1<|oF rfl<|oL rfl (H.cell 0 rfl rfl) ?_)
  have H1:=H.yw 5 5 [1,2,3,4,0] [0,1,2,3,4] (by simp only [List.length_cons,List.length_append];omega)<|by simp only [List.length_cons,List.length_append];omega
  have N1:Fresh _ (aF::az::Ns):=N
  have K1:Kept (Ns) (Γ):=K0.behind 0 rfl
  refine sw<|zy #[pp bk 0,yI d.fA] rfl rfl call109 (sadv_ok s own ap cp Fp ar cr Fr ao co Fo sb sv wi bk _ (aa AC 0) sv.length cC bZ aF cM wi.length bJ bM az d.fA H1 N1 K1 qg qg qg<|zf (zZ OL 0 rfl)<|zf (zZ OL 1 rfl)<|zf (zZ OL 2 rfl)<|olds_drop OL 3 rfl) ?_
  clear H H1 N1 K1
  rintro _ ao3 ⟨anv,alh,agC,aDc,afI,akZ,afG,rfl,N,H⟩
  obtain rfl:=H.xe (α:=zk) 3 rfl 4 rfl qj
  refine sq 1<|zjr<|b_r<|t_r<|ret1 (yI ((Qy s (⟨sv,wi⟩:zQ) d.fA.toNat).2)) rfl rfl ⟨_,rfl,?_⟩
  first | rw [doR_work qf ⟨by omega,by omega⟩] | rw [doR_advance qf ⟨by omega,by omega⟩] | (exfalso;omega)
  all_goals exact ⟨anv,alh,agC,((Qy s (⟨sv,wi⟩:zQ) d.fA.toNat).1.zu).length,afI,akZ,afG,rfl,N,H.qY 5 5 (zR 0 4) (zR 0 5) (by simp only [List.length_cons,List.length_append];omega)<|by simp only [List.length_cons,List.length_append];omega⟩
 refine zcr<|sp (Bv ((d.xE:Int) == 2))<|sp (Bv ((d.xE:Int) == 2))<|zjn<|cE rfl (fun atg=>?_)<|fun atg=>?_
 ·refine xZ (sq 3<|oF rfl ?_)
  obtain ⟨adJ,adu,aek,Y0,Ye,Y7,ahE,ajU,ajP,Za,Ux,U9,ag6,ag9,agO,adf,aez,ac5,ail,H⟩:=H.vV zg 3 rfl 3 rfl rfl d.fA.toNat qf
  have y1:jf s own n d.fA.toNat (sv[d.fA.toNat]!).qC/\jf s own n d.fA.toNat (sv[d.fA.toNat]!).qH:=p1.srv d.fA.toNat qf
  have y2:=y1.1.small p0
  have y3:=y1.2.small p0
  have anZ:=H.base.size
  have ao8:=jB (H.ltN (L:=[aF,az]) [9,10])<|H.ltK<|K0.behind 11 rfl
  refine sw<|oc (l08Copy_ok _ ((sv[d.fA.toNat]!).qC) (fun r v hv=>H.xX (off:=0+(d.fA:Int).toNat * 16+0+r) 3 rfl (ail r v hv) qf) (H.get 0 rfl).1 (H.get 1 rfl).1 (H.get 2 rfl).1 (H.get 3 rfl).1 (H.get 4 rfl).1 (H.get 5 rfl).1 qg) ?_
  rintro _ aFP ⟨J3,adZ,Im,aem,aeb,Du,Wu,CB,On,api,LB,Dx,WA,Dl,UK,eP,Pi,ae3,NV,agh,fq,JO,adz,Ku,ac9,dL,rfl,M,K⟩ _
  replace N:=N.merge anZ ao8 M
  replace H:=H.merge K M
  dsimp only [List.cons_append,List.nil_append] at H
  obtain rfl:=H.xe (α:=yLI) 0 rfl 0 rfl qj
  obtain rfl:=H.Qc 1 rfl
  obtain rfl:=H.rowNB 2 rfl
  obtain rfl:=H.xe (α:=yLI) 3 rfl 1 rfl qj
  obtain rfl:=H.xe (α:=yLL) 4 rfl 2 rfl qj
  obtain rfl:=H.xe (α:=yLL) 5 rfl 3 rfl qj
  refine sq 1<|oF rfl ?_
  have H0:=H
  obtain ⟨oB,Wv,aDd,H⟩:=H.vK (α:=yLI) 0 rfl 0 rfl qj
  replace N:Fresh W0.heap.size (oB::eP::fq::dL::aF::az::Ns):=Fresh.ice N H0 0 Wv.1 Wv.2<|fun F hF b hb=>(List.mem_append.1<|show F∈[eP,fq,dL,aF,az]++Ns from hF).elim (fun h=>(H0.vg (L:=[eP,fq,dL,aF,az]) [1,2,3,13,14]) F h b hb) fun h=>H0.jH (K0.behind 15 rfl) F h b hb
  clear H0
  try dsimp only [List.set] at H
  obtain ⟨ns,N,aBv,H⟩:=H.ve 1 rfl N<|fun F hF b hb=>(List.mem_append.1<|show F∈[oB,eP,fq,dL,aF,az]++Ns from hF).elim (fun h=>(H.vg (L:=[oB,eP,fq,dL,aF,az]) [0,2,3,4,14,15]) F h b hb) fun h=>H.jH (K0.behind 16 rfl) F h b hb
  try dsimp only [List.set] at H
  obtain ⟨wu,N,aBI,H⟩:=H.freezeB 2 rfl N<|fun F hF b hb=>(List.mem_append.1<|show F∈[ns,oB,eP,fq,dL,aF,az]++Ns from hF).elim (fun h=>(H.vg (L:=[ns,oB,eP,fq,dL,aF,az]) [0,1,3,4,5,15,16]) F h b hb) fun h=>H.jH (K0.behind 17 rfl) F h b hb
  try dsimp only [List.set] at H
  have H0:=H
  obtain ⟨DF,Yg,aC4,H⟩:=H.vK (α:=yLI) 3 rfl 4 rfl qj
  replace N:Fresh W0.heap.size (DF::wu::ns::oB::fq::dL::aF::az::Ns):=Fresh.ice (N.qY 8 [3,0,1,2,4,5,6,7]<|by simp only [List.length_cons,List.length_append];omega) H0 3 Yg.1 Yg.2<|fun F hF b hb=>(List.mem_append.1<|show F∈[wu,ns,oB,fq,dL,aF,az]++Ns from hF).elim (fun h=>(H0.vg (L:=[wu,ns,oB,fq,dL,aF,az]) [0,1,2,5,6,16,17]) F h b hb) fun h=>H0.jH (K0.behind 18 rfl) F h b hb
  clear H0
  try dsimp only [List.set] at H
  have H0:=H
  obtain ⟨Ed,Yr,azJ,H⟩:=H.vK (α:=yLL) 4 rfl 6 rfl qj
  replace N:Fresh W0.heap.size (Ed::DF::wu::ns::oB::dL::aF::az::Ns):=Fresh.ice (N.qY 8 [4,0,1,2,3,5,6,7]<|by simp only [List.length_cons,List.length_append];omega) H0 4 Yr.1 Yr.2<|fun F hF b hb=>(List.mem_append.1<|show F∈[DF,wu,ns,oB,dL,aF,az]++Ns from hF).elim (fun h=>(H0.vg (L:=[DF,wu,ns,oB,dL,aF,az]) [0,1,2,3,7,17,18]) F h b hb) fun h=>H0.jH (K0.behind 19 rfl) F h b hb
  clear H0
  try dsimp only [List.set] at H
  have H0:=H
  obtain ⟨ald,UU,aDh,H⟩:=H.vK (α:=yLL) 5 rfl 8 rfl qj
  replace N:Fresh W0.heap.size (ald::Ed::DF::wu::ns::oB::aF::az::Ns):=Fresh.ice (N.qY 8 [5,0,1,2,3,4,6,7]<|by simp only [List.length_cons,List.length_append];omega) H0 5 UU.1 UU.2<|fun F hF b hb=>(List.mem_append.1<|show F∈[Ed,DF,wu,ns,oB,aF,az]++Ns from hF).elim (fun h=>(H0.vg (L:=[Ed,DF,wu,ns,oB,aF,az]) [0,1,2,3,4,18,19]) F h b hb) fun h=>H0.jH (K0.behind 20 rfl) F h b hb
  clear H0
  try dsimp only [List.set] at H
  replace H:=H.mk_DeskD (((sv[d.fA.toNat]!).qC).qN) 5 rfl 4 rfl (((sv[d.fA.toNat]!).qC).qQ) 3 rfl 2 rfl 1 rfl 0 rfl
  replace N:Fresh W0.heap.size ((oB++ns++wu++DF++Ed++ald)::aF::az::Ns):=(N.qY 8 [5,4,3,2,1,0,6,7]<|by simp only [List.length_cons,List.length_append];omega).join.join.join.join.join
  obtain ⟨aAk,NN⟩:∃ z,z=(sv.set d.fA.toNat { sv[d.fA.toNat]! with qH:=(⟨((sv[d.fA.toNat]!).qC).qN,((sv[d.fA.toNat]!).qC).qG,((sv[d.fA.toNat]!).qC).qE,((sv[d.fA.toNat]!).qC).qQ,((sv[d.fA.toNat]!).qC).vz,((sv[d.fA.toNat]!).qC).qJ,((sv[d.fA.toNat]!).qC).vJ,((sv[d.fA.toNat]!).qC).xP⟩:zn)}):=⟨_,rfl⟩
  refine sw<|Xu (v:=.agg #[yI (((sv[d.fA.toNat]!).qC).qN),Sv J3 ((((sv[d.fA.toNat]!).qC).qG).length) Im,Sv Du ((((sv[d.fA.toNat]!).qC).qE).length) CB,Bv (((sv[d.fA.toNat]!).qC).qQ),Sv On ((((sv[d.fA.toNat]!).qC).vz).length) LB,Sv Dx ((((sv[d.fA.toNat]!).qC).qJ).length) Dl,Sv Pi ((((sv[d.fA.toNat]!).qC).vJ).length) NV,Sv JO ((((sv[d.fA.toNat]!).qC).xP).length) Ku]) jI H 9 rfl 20 rfl 0 rfl rfl sizeOf47 rfl rfl rfl d.fA.toNat qf qf NN fun at0 afg Ek an5 H=>?_
  try dsimp only [List.set] at H
  replace N:Fresh W0.heap.size (Ek::az::Ns):=(N.qY 3 [1,0,2]<|by simp only [List.length_cons,List.length_append];omega).repl an5
  refine xW<|b_n<|t_n<|zcr<|sp (yI 0)<|zjr<|ret1 (yI 0) rfl rfl ⟨_,rfl,?_⟩
  first | rw [doR_save qf ⟨by omega,by omega⟩ NN] | rw [doR_crash qf ⟨by omega,by omega⟩ NN] | (exfalso;omega)
  all_goals exact ⟨afg,Ek,cM,wi.length,bJ,bM,az,rfl,N,H.qY 11 23 (zR 7 4) [18,19,20,0,22] (by simp only [List.length_cons,List.length_append];omega)<|by simp only [List.length_cons,List.length_append];omega⟩
 refine xZ<|sq 3<|oF rfl ?_
 obtain ⟨adV,adA,aep,Ya,Vc,YR,ajQ,aga,apl,TX,V9,We,anC,apY,alS,aeh,adE,acY,afP,H⟩:=H.vV jI 3 rfl 3 rfl rfl d.fA.toNat qf
 have y1:jf s own n d.fA.toNat (sv[d.fA.toNat]!).qC/\jf s own n d.fA.toNat (sv[d.fA.toNat]!).qH:=p1.srv d.fA.toNat qf
 have y2:=y1.1.small p0
 have y3:=y1.2.small p0
 have agi:=H.base.size
 have aqD:=jB (H.ltN (L:=[aF,az]) [9,10])<|H.ltK<|K0.behind 11 rfl
 refine sw<|oc (l08Copy_ok _ ((sv[d.fA.toNat]!).qH) (fun r v hv=>H.xX (off:=0+(d.fA:Int).toNat * 16+8+r) 3 rfl (afP r v hv) qf) (H.get 0 rfl).1 (H.get 1 rfl).1 (H.get 2 rfl).1 (H.get 3 rfl).1 (H.get 4 rfl).1 (H.get 5 rfl).1 qg) ?_
 rintro _ aGI ⟨JC,adX,JR,adW,aec,Cd,YE,DG,MU,ae1,MH,Ds,YT,DE,Yz,eN,KZ,anL,M6,aiH,fk,IR,ade,IQ,adk,dN,rfl,M,K⟩ _
 replace N:=N.merge agi aqD M
 replace H:=H.merge K M
 dsimp only [List.cons_append,List.nil_append] at H
 obtain rfl:=H.xe (α:=yLI) 0 rfl 0 rfl qj
 obtain rfl:=H.Qc 1 rfl
 obtain rfl:=H.rowNB 2 rfl
 obtain rfl:=H.xe (α:=yLI) 3 rfl 1 rfl qj
 obtain rfl:=H.xe (α:=yLL) 4 rfl 2 rfl qj
 obtain rfl:=H.xe (α:=yLL) 5 rfl 3 rfl qj
 refine sq 1<|oF rfl ?_
 have H0:=H
 obtain ⟨lB,YS,aBp,H⟩:=H.vK (α:=yLI) 0 rfl 0 rfl qj
 replace N:Fresh W0.heap.size (lB::eN::fk::dN::aF::az::Ns):=Fresh.ice N H0 0 YS.1 YS.2<|fun F hF b hb=>(List.mem_append.1<|show F∈[eN,fk,dN,aF,az]++Ns from hF).elim (fun h=>(H0.vg (L:=[eN,fk,dN,aF,az]) [1,2,3,13,14]) F h b hb) fun h=>H0.jH (K0.behind 15 rfl) F h b hb
 clear H0
 try dsimp only [List.set] at H
 obtain ⟨sr,N,aCR,H⟩:=H.ve 1 rfl N<|fun F hF b hb=>(List.mem_append.1<|show F∈[lB,eN,fk,dN,aF,az]++Ns from hF).elim (fun h=>(H.vg (L:=[lB,eN,fk,dN,aF,az]) [0,2,3,4,14,15]) F h b hb) fun h=>H.jH (K0.behind 16 rfl) F h b hb
 try dsimp only [List.set] at H
 obtain ⟨wT,N,aBY,H⟩:=H.freezeB 2 rfl N<|fun F hF b hb=>(List.mem_append.1<|show F∈[sr,lB,eN,fk,dN,aF,az]++Ns from hF).elim (fun h=>(H.vg (L:=[sr,lB,eN,fk,dN,aF,az]) [0,1,3,4,5,15,16]) F h b hb) fun h=>H.jH (K0.behind 17 rfl) F h b hb
 try dsimp only [List.set] at H
 have H0:=H
 obtain ⟨Df,UY,aAL,H⟩:=H.vK (α:=yLI) 3 rfl 4 rfl qj
 replace N:Fresh W0.heap.size (Df::wT::sr::lB::fk::dN::aF::az::Ns):=Fresh.ice (N.qY 8 [3,0,1,2,4,5,6,7]<|by simp only [List.length_cons,List.length_append];omega) H0 3 UY.1 UY.2<|fun F hF b hb=>(List.mem_append.1<|show F∈[wT,sr,lB,fk,dN,aF,az]++Ns from hF).elim (fun h=>(H0.vg (L:=[wT,sr,lB,fk,dN,aF,az]) [0,1,2,5,6,16,17]) F h b hb) fun h=>H0.jH (K0.behind 18 rfl) F h b hb
 clear H0
 try dsimp only [List.set] at H
 have H0:=H
 obtain ⟨L0,Ud,aAx,H⟩:=H.vK (α:=yLL) 4 rfl 6 rfl qj
 replace N:Fresh W0.heap.size (L0::Df::wT::sr::lB::dN::aF::az::Ns):=Fresh.ice (N.qY 8 [4,0,1,2,3,5,6,7]<|by simp only [List.length_cons,List.length_append];omega) H0 4 Ud.1 Ud.2<|fun F hF b hb=>(List.mem_append.1<|show F∈[Df,wT,sr,lB,dN,aF,az]++Ns from hF).elim (fun h=>(H0.vg (L:=[Df,wT,sr,lB,dN,aF,az]) [0,1,2,3,7,17,18]) F h b hb) fun h=>H0.jH (K0.behind 19 rfl) F h b hb
 clear H0
 try dsimp only [List.set] at H
 have H0:=H
 obtain ⟨apm,WU,aCI,H⟩:=H.vK (α:=yLL) 5 rfl 8 rfl qj
 replace N:Fresh W0.heap.size (apm::L0::Df::wT::sr::lB::aF::az::Ns):=Fresh.ice (N.qY 8 [5,0,1,2,3,4,6,7]<|by simp only [List.length_cons,List.length_append];omega) H0 5 WU.1 WU.2<|fun F hF b hb=>(List.mem_append.1<|show F∈[L0,Df,wT,sr,lB,aF,az]++Ns from hF).elim (fun h=>(H0.vg (L:=[L0,Df,wT,sr,lB,aF,az]) [0,1,2,3,4,18,19]) F h b hb) fun h=>H0.jH (K0.behind 20 rfl) F h b hb
 clear H0
 try dsimp only [List.set] at H
 replace H:=H.mk_DeskD (((sv[d.fA.toNat]!).qH).qN) 5 rfl 4 rfl (((sv[d.fA.toNat]!).qH).qQ) 3 rfl 2 rfl 1 rfl 0 rfl
 replace N:Fresh W0.heap.size ((lB++sr++wT++Df++L0++apm)::aF::az::Ns):=(N.qY 8 [5,4,3,2,1,0,6,7]<|by simp only [List.length_cons,List.length_append];omega).join.join.join.join.join
 obtain ⟨aCb,M8⟩:∃ z,z=(sv.set d.fA.toNat { sv[d.fA.toNat]! with qC:=(⟨((sv[d.fA.toNat]!).qH).qN,((sv[d.fA.toNat]!).qH).qG,((sv[d.fA.toNat]!).qH).qE,((sv[d.fA.toNat]!).qH).qQ,((sv[d.fA.toNat]!).qH).vz,((sv[d.fA.toNat]!).qH).qJ,((sv[d.fA.toNat]!).qH).vJ,((sv[d.fA.toNat]!).qH).xP⟩:zn)}):=⟨_,rfl⟩
 refine sw<|Xu (v:=.agg #[yI (((sv[d.fA.toNat]!).qH).qN),Sv JC ((((sv[d.fA.toNat]!).qH).qG).length) JR,Sv Cd ((((sv[d.fA.toNat]!).qH).qE).length) DG,Bv (((sv[d.fA.toNat]!).qH).qQ),Sv MU ((((sv[d.fA.toNat]!).qH).vz).length) MH,Sv Ds ((((sv[d.fA.toNat]!).qH).qJ).length) DE,Sv KZ ((((sv[d.fA.toNat]!).qH).vJ).length) M6,Sv IR ((((sv[d.fA.toNat]!).qH).xP).length) IQ]) zg H 9 rfl 20 rfl 0 rfl rfl sizeOf47 rfl rfl rfl d.fA.toNat qf qf M8 fun aG3 akT aqW afx H=>?_
 try dsimp only [List.set] at H
 replace N:Fresh W0.heap.size (aqW::az::Ns):=(N.qY 3 [1,0,2]<|by simp only [List.length_cons,List.length_append];omega).repl afx
 refine xW<|b_n<|t_n<|zcr<|sp (yI 0)<|zjr<|ret1 (yI 0) rfl rfl ⟨_,rfl,?_⟩
 first | rw [doR_save qf ⟨by omega,by omega⟩ M8] | rw [doR_crash qf ⟨by omega,by omega⟩ M8] | (exfalso;omega)
 all_goals exact ⟨akT,aqW,cM,wi.length,bJ,bM,az,rfl,N,H.qY 11 23 (zR 7 4) [18,19,20,0,22] (by simp only [List.length_cons,List.length_append];omega)<|by simp only [List.length_cons,List.length_append];omega⟩
end
section
def maxTo (l:yLI):Nat->Int
 | 0=>l[0]!
 | k+1=>max (maxTo l k)<|l[k]!
def maxL (l:yLI):Int:=maxTo l l.length
theorem maxTo_one (l:yLI):maxTo l 1=l[0]! :=by
 rw [maxTo,maxTo];omega
theorem maxTo_le {l:yLI} {b:Int}:∀ k,k<=l.length->0 < l.length->(∀ j,j < l.length->l[j]! <=b)->maxTo l k<=b
 | 0,_,h0,h=>h 0 h0
 | k+1,hk,h0,h=>by
  have h1:=maxTo_le k qf h0 h
  have h2:=h k qf
  rw [maxTo];omega
theorem le_maxTo {l:yLI} {j:Nat}:∀ k,j < k->l[j]! <=maxTo l k
 | k+1,hj=>by
  rw [maxTo]
  by_cases e:j=k
  ·subst e;omega
  ·have:=le_maxTo (l:=l) k (show j < k by omega);omega
structure Vt (own:yLI) (n:Nat):Prop where
 one:1<=n/\n<=4
 bds:OwnIn own n
 all:∀ i:Int,0<=i->i < n->i∈own
theorem max_own {own:yLI} (h:Vt own n):maxL own=(n:Int) - 1:=by
 obtain ⟨h0,h1⟩:=h.bds
 have h2:=h.one
 have a:=maxTo_le (b:=(n:Int) - 1) own.length (Nat.le_refl _) h0 (fun j hj=>by have:=h1 j hj;omega)
 obtain ⟨j,hj,e⟩:=List.getElem_of_mem<|h.all ((n:Int) - 1) qf qf
 have b:=le_maxTo (l:=own) (j:=j) own.length hj
 rw [getElem!_pos own j hj,e] at b
 unfold maxL
 omega
theorem min_own {own:yLI} (h:Vt own n):0<=minL own:=by
 obtain ⟨h0,h1⟩:=h.bds
 have:=mt (minL_neg (l:=own) qf).1 (by
  intro x
  exact x fun k hk=>(h1 k hk).1)
 omega
def Xm (own:yLI):Nat:=(maxL own+1).toNat
theorem nSrv_all {own:yLI} (h:Vt own n):Xm own=n:=by
 have:=max_own h
 have:=h.one
 unfold Xm
 omega
theorem rep_at {α:Type} [qI α] {G:yLN} {a:yOA} {m c:Nat} {l:List α} (h:n=m) (k:qI.rep w G [Sv a n c] l):qI.rep w G [Sv a m c] l:=h▸k
theorem run_yes {own:yLI} (h:(doM s own (xF s own v l k).1<|l[k]!).2=0):(xF s own v l k).2+1=(xF s own v l<|k+1).2:=by rw [xF,if_pos h]
theorem run_no {own:yLI} (h:(doM s own (xF s own v l k).1<|l[k]!).2≠0):(xF s own v l k).2=(xF s own v l<|k+1).2:=by rw [xF,if_neg h,Int.add_zero]
theorem beginTo_len (s:qM) (own:yLI) (t:xh) (k:Nat):(QB s own t k).length=k:=by simp [QB]
section
variable {s : qM} {own : yLI} {t : xh} {i c : Nat} {B : yLL} {A : yLI}
def begB (s:qM) (own:yLI) (t:xh) (i c:Nat):yLL:=(List.range<|zF s).map fun j=>if j < c/\own[j]! =(i:Int) then t.qG[j]! else List.replicate (vP s) 0
theorem Vf:(begB s own t i c).length=zF s:=by simp [begB]
theorem begB_get {j:Nat} (hj:j < zF s):(begB s own t i c)[j]! =if j < c/\own[j]! =(i:Int) then t.qG[j]! else List.replicate (vP s) 0:=by
 rw [getElem!_pos (begB s own t i c) j<|by rw [Vf];exact hj];simp [begB]
theorem beg_zero:(ji s<|s.qA.length+1).take s.qA.length=begB s own t i 0:=by
 refine List.ext_getElem (by rw [Vf,List.length_take,zeros_len];show min s.qA.length _=s.qA.length;omega) fun j h1 h2=>?_
 rw [Vf] at h2
 have:=begB_get (s:=s) (own:=own) (t:=t) (i:=i) (c:=0) h2
 rw [if_neg qf,getElem!_pos _ _<|by rw [Vf];exact h2] at this
 rw [this]
 simp [ji,vP]
theorem beg_yes (h:own[c]! =(i:Int)) (hc:c < zF s):(begB s own t i c).set c (t.qG[c]!)=begB s own t i (c+1):=by
 refine ext_get (by simp [Vf]) fun j hj=>?_
 rw [List.length_set,Vf] at hj
 rw [getset<|by rw [Vf];exact hc,begB_get hj,begB_get hj]
 by_cases e:j=c
 ·subst e;rw [if_pos rfl,if_pos ⟨by omega,h⟩]
 ·rw [if_neg e]
  by_cases e2:j < c
  ·have:j < c+1:=by omega
   simp [e2,this]
  ·have:¬ j < c+1:=by omega
   simp [e2,this]
theorem beg_no (h:own[c]! ≠(i:Int)):begB s own t i c=begB s own t i (c+1):=by
 refine ext_get (by simp [Vf]) fun j hj=>?_
 rw [Vf] at hj
 rw [begB_get hj,begB_get hj]
 by_cases e:j=c
 ·subst e;rw [if_neg qf,if_neg<|fun x=>h x.2]
 ·have:j < c+1<->j < c:=by omega
  simp [this]
theorem begin_snoc (hB:B=begB s own t i c) (hc:c=s.qA.length) (hA:A=if own[0]! =(i:Int) then t.qE else List.replicate (vP s) 0):
 QB s own t i++[⟨⟨0,B,A,false,[],[],[],[]⟩,⟨0,B,A,false,[],[],[],[]⟩⟩]=QB s own t (i+1):=by
 have e:(⟨0,B,A,false,[],[],[],[]⟩:zn)=beginD s own t i:=by
  rw [beginD,hB,hA]
  congr 1
  refine List.map_congr_left fun j hj=>?_
  have hj:j < s.qA.length:=List.mem_range.1 hj
  by_cases h:own[j]! =(i:Int)
  ·rw [if_pos ⟨by omega,h⟩,if_pos h]
  ·rw [if_neg<|fun x=>h x.2,if_neg h]
 rw [e]
 simp [QB,List.range_succ]
theorem beg_sm (hs:QC s) (ht:vM s t) (hB:B=begB s own t i c) (hA:A.length<=1000000):SmD (⟨0,B,A,false,[],[],[],[]⟩:zn):=by
 have kl:=XG hs
 have c1:=hs.1.2.1
 refine ⟨⟨?_,fun k hk=>?_⟩,hA,by simp,Sm2.nil,Sm3.nil,Sm3.nil⟩
 ·show B.length<=1000000
  rw [hB,Vf]
  have:zF s=s.qA.length:=rfl
  omega
 ·have hk:k < B.length:=hk
  show (B[k]!).length<=1000000
  rw [hB,Vf] at hk
  have hl:k < s.qA.length:=hk
  rw [hB,begB_get hk]
  split
  ·have:=(jc (ht.2.2.2.2 k<|by rw [ht.2.1];exact hl).1).1
   omega
  ·rw [List.length_replicate];omega
end
theorem old_nil {B:Nat} {f:Fact} (h:f.F=[]):∀ b∈f.F,b < B:=fun b hb=>by rw [h] at hb;cases hb
theorem yG.to {b o:Nat} {cs IU :List Value} (h:yG w b o cs) (e:cs=IU):yG w b o IU :=e▸h
section
variable {s : qM} {own : yLI} {t : xh} {n i c : Nat} {B : yLL} {A : yLI}
def srvTo (own:yLI):Nat->Int
 | 0=>0
 | i+1=>max (srvTo own i)<|own[i]! +1
theorem srvTo_bd (h:Vt own n):∀ i,i<=own.length->0<=srvTo own i/\srvTo own i<=n/\∀ j,j < i->own[j]! +1<=srvTo own i
 | 0,_=>⟨Int.le_refl _,by simp only [srvTo];omega,fun j hj=>by omega⟩
 | i+1,hi=>by
  obtain ⟨h1,h2,h3⟩:=srvTo_bd h i qf
  have h4:=h.bds.2 i qf
  rw [srvTo]
  refine ⟨by omega,by omega,fun j hj=>?_⟩
  by_cases e:j=i
  ·subst e;omega
  ·have:=h3 j qf;omega
theorem srvTo_all (h:Vt own n):srvTo own own.length=n:=by
 obtain ⟨h1,h2,h3⟩:=srvTo_bd h own.length<|Nat.le_refl _
 have h4:=h.one
 obtain ⟨j,hj,e⟩:=List.getElem_of_mem<|h.all ((n:Int) - 1) qf qf
 have b:=h3 j hj
 rw [getElem!_pos own j hj,e] at b
 omega
def yP (s:qM) (own:yLI) (t:xh) (i c:Nat):yLL:=(List.range c).map fun j=>if own[j]! =(i:Int) then t.qG[j]! else List.replicate s.qP.toNat 0
theorem begTo_len:(yP s own t i c).length=c:=by simp [yP]
theorem begTo_yes (h:own[c]! =(i:Int)):yP s own t i c++[t.qG[c]!]=yP s own t i (c+1):=by
 rw [yP,yP,List.range_succ,List.map_append,List.map_singleton,if_pos h]
theorem begTo_no (h:own[c]! ≠(i:Int)):yP s own t i c++[List.replicate s.qP.toNat 0]=yP s own t i (c+1):=by
 rw [yP,yP,List.range_succ,List.map_append,List.map_singleton,if_neg h]
theorem begTo_B (hc:c=s.qA.length):yP s own t i c=begB s own t i c:=by
 subst hc
 unfold yP begB
 refine List.map_congr_left fun j hj=>?_
 have hj:j < s.qA.length:=List.mem_range.1 hj
 by_cases h:own[j]! =(i:Int)
 ·rw [if_pos h,if_pos ⟨hj,h⟩]
 ·rw [if_neg h,if_neg<|fun x=>h x.2];rfl
theorem sbegin_snoc (hc:c=s.qA.length) (hA:A=if own[0]! =(i:Int) then t.qE else List.replicate s.qP.toNat 0):
 QB s own t i++[⟨⟨0,yP s own t i c,A,false,[],[],[],[]⟩,⟨0,yP s own t i c,A,false,[],[],[],[]⟩⟩]=QB s own t (i+1):=
 begin_snoc (begTo_B hc) hc hA
theorem sbeg_sm (hs:QC s) (ht:vM s t) (hc:c=s.qA.length) (hA:A.length<=1000000):SmD (⟨0,yP s own t i c,A,false,[],[],[],[]⟩:zn):=beg_sm hs ht (begTo_B hc) hA
def DrawnD (n:Nat) (d:xm):Prop:=DeedOk d/\(d.xE≠6->d.xE≠7->d.xE≠8->d.fA < n)
def kinds20:yLI:=[1,1,2,2,3,3,3,4,5,5,5,6,6,6,6,7,8,9,1,2]
theorem kinds20_in (j:Nat) (h:j < 20):1<=kinds20[j]! /\kinds20[j]! <=9:=by
 have:∀ j:Nat,j < 20->1<=kinds20[j]! /\kinds20[j]! <=9:=by decide
 exact this j h
theorem emod_srv {m:Int} (hm:1<=m):0<=x % m/\x % m < m:=⟨Int.emod_nonneg _ qf,Int.emod_lt_of_pos _ qf⟩
theorem emod_999 (h:1<=n/\n<=4):0<=x % (n:Int)/\x % (n:Int)<=999:=by
 have:=emod_srv (x:=x) (m:=(n:Int)) qf
 omega
theorem drawnD_of {K a b:Int} (hk:1<=K/\K<=9) (ha:0<=a/\a<=999) (hb:0<=b/\b<=999) (h:K=3\/K=4\/b=0) (h2:K≠6->K≠7->K≠8->a < n):DrawnD n ⟨K,a,b⟩:=⟨⟨hk,ha,hb,h⟩,h2⟩
def Deeds (l:List xm):Prop:=∀ k,k < l.length->DeedOk (l[k]!)
theorem Deeds.nil:Deeds []:=fun k hk=>by simp at hk
theorem Deeds.snoc {d:xm} (h:Deeds l) (hd:DeedOk d):Deeds (l++[d]):=fun k hk=>by
 rw [get_cat hk]
 split
 ·exact h k ql
 ·exact hd
end
end
end Go.Proofs.YtghikkinnchndaaGreat
