/- Walks and laws, printed by program and by hand: what each function comes to, for all arguments, part 5. -/
import Derived.Test.YtjfmcaiombkobaaGreatA4
import Derived.Shelf.SlSortCmp.Whole1
import Derived.Ground.SlsfProg
namespace Go.Proofs.YtjfmcaiombkobaaGreat
open Go.Proofs.Tryz
set_option linter.unusedVariables false
set_option linter.unusedSimpArgs false
set_option maxRecDepth 100000
set_option maxHeartbeats 4000000
open Go.RowKit
open Go.Proofs.Tryz
open Go.Proofs.YtjfmcaiombkobaaGreat.Tot (tot)
open Go.Proofs.YtjfmcaiombkobaaGreat.Mark (cnt mrk mkd mkd_mark cnt_mark)
variable {Fb Fl Fparts FrHave FrHere FrInto FrLack FrNeed FrOut vK xF zQ zo zu:yLN} {XN ab al arHave arHere arLack arNeed arOut qM xX xe xg xq zL:yOA} {a b cn cs l rest:yLI} {c f i k m n q zH:Nat} {e:TypeId} {parts:yLL} {s:qG} {t:qH}
section
variable {qL qX xn xM qZ crNeed crHave crLack crHere crOut XK cl : Nat}
theorem l03Step_ok (w:World) (s:qG) (t:qH) (counts:yLI) {bs os:Nat} {bt ot:Nat} {acounts:yOA} {ccounts:Nat} {Fcounts:yLN} (hs:vg w bs os (yS s qM qL xg qX)) (xf:zP w xF qM qL s.qC) (xE:zP w zu xg qX s.qE) (ht:vg w bt ot (yT t xq xn xX xM xe qZ)) (zk:zP w zQ xq xn t.qI) (zO:zP w vK xX xM t.qP) (xJ:zP w zo xe qZ t.qN) (hcounts:zP w Fcounts acounts ccounts counts) (p0:yj s) (p1:zV s t) (p2:CntOk s counts):Calls Tryz.prog 236 #[pp bs os,pp bt ot,Sv acounts counts.length ccounts] w (Ret (fun v w' =>∃ (ra0Alive:yOA) (rn0Alive:Nat) (rc0Alive:Nat) (ra0Bags:yOA) (rn0Bags:Nat) (rc0Bags:Nat) (rx0Bags:List Value) (rF0Bags:yLN) (ra0Around:yOA) (rn0Around:Nat) (rc0Around:Nat),v=.tuple #[.agg #[Sv ra0Alive rn0Alive rc0Alive,Sv ra0Bags rn0Bags rc0Bags,Sv ra0Around rn0Around rc0Around],yI ((jf s t counts).2)]/\Fresh w.heap.size [rF0Bags]/\St w w' [rr ra0Alive rn0Alive rc0Alive 4 1 ((((jf s t counts).1).qI).map (Value.bool)),rr ra0Bags rn0Bags rc0Bags 27 1 rx0Bags,rr ra0Around rn0Around rc0Around 2 1 ((((jf s t counts).1).qN).map (Value.int .i64))] [xN true rF0Bags rx0Bags (((jf s t counts).1).qP)]) w):=by
 refine en func236 ntmps236 ?_
 have H:=((((((((St.start w).arg hcounts).arg xJ).arg zO).arg zk).Q7 ht).arg xE).arg xf).Q7 hs
 have vH:=qO xf
 have jD:=qO xE
 have yL:=qO zk
 have Qv:=qO zO
 have jQ:=qO xJ
 have nhcounts:=qO hcounts
 clear hs xf xE ht zk zO xJ hcounts
 have N:=Fresh.nil w.heap.size
 have p3:=p0.2.1
 have p6:=p2.1
 have p7:=p1.2.1
 have p8:=kinds_le p0
 have p9:=p0.1.2.1
 have p11:jC s=s.qC.length:=rfl
 have p12:=p1.1
 have p15:=p0.1
 have p16:=p0.1.1
 obtain ⟨q7,q8,q9,q10⟩:=p1.sizes p0.1
 have q13:=fun k hk=>Nat.le_trans (q10 k hk) (by decide:8<=1000000)
 have p14:=restR_len (s:=s) (t:=t) (counts:=counts)
 refine zcr (sw (xH H ti43 [yN,yN,yN] fun b1 w2 H=>sp (yI 0) (zjc (sq 3 ?_))))
 have sz6:=H.base.size
 refine sw (oc (l03Rest_ok _ s t counts (qF (H.get 0 rfl) 0 3) (H.get 1 rfl).1 (H.get 2 rfl).1 (qF (H.get 3 rfl) 0 3) (H.get 4 rfl).1 (H.get 5 rfl).1 (H.get 6 rfl).1 (H.get 7 rfl).1 qg qg qg) ?_)
 rintro _ w4 ⟨ra3a,rn3a,rc3a,rx3a,rF3a,rfl,M,K⟩ _
 replace N:=N.merge sz6 qm M
 replace H:=H.merge K M
 obtain rfl:=H.xB (α:=yLI) 0 rfl 0 rfl qj
 refine sq 5 (zjcc (sq 2 (zjn (cQ rfl (fun h9=>?_) (fun h9=>?_)))))
 ·refine zcr (sw (vG [yN,yN,yN] [] (sw (xY H 1 [yN,yN,yN] sizeOf43 fun w10 H=>sp (yI 4) (zjr (t_r ?_))))))
  replace H:=H.nilRowB 4
  replace H:=H.nilRow 27 1
  replace H:=H.vV (α:=yLI)
  replace H:=H.nilRowI 2
  refine retC2 H 4 rfl (yI 4) rfl isAgg43 sizeOf43 rfl rfl ⟨_,rfl,?_,H.base⟩
  rw [stepBy_no ‹_›]
  exact ⟨none,0,0,none,0,0,[],[],none,0,0,rfl,(N.emp.pick [0]),H.pick [2,1,0] [0]⟩
 have st:=stop_none (n:=counts.length) (P:=BadAt s t counts) (‹IsCh s t counts›).1
 have r1:=restR_len (s:=s) (t:=t) (counts:=counts) (Xo (BadAt s t counts) counts.length)
 refine qU (t_n (zcr (sq 1 ?_)))
 have sz14:=H.base.size
 have lt15:=H.ltN (L:=[rF3a]) [0]
 refine sw (oc (l02Own_ok _ t (qF (H.get 4 rfl) 0 3) (H.get 5 rfl).1 (H.get 6 rfl).1 (H.get 7 rfl).1 qg qg qg qg) ?_)
 rintro _ w12 ⟨Xq,rn11Alive,Xp,ra11Bags,rn11Bags,rc11Bags,rx11Bags,Qe,ra11Around,rn11Around,rc11Around,rfl,M,K⟩ _
 replace N:=N.merge sz14 lt15 M
 replace H:=H.merge K M
 obtain rfl:=H.rowNB 0 rfl
 obtain rfl:=H.xB (α:=yLI) 1 rfl 0 rfl qj
 obtain rfl:=H.yt 2 rfl
 refine sw (xH H ti43 [yN,yN,yN] fun b19 w20 H=>sw (xY H 0 (yT t Xq Xp ra11Bags rc11Bags ra11Around rc11Around) sizeOf43 fun w21 H=>zjc (sq 1 (oF rfl (sw (zI H 0 [Sv Xq t.qI.length Xp,Sv ra3a ((QR s t counts (Xo (BadAt s t counts) counts.length)).length) rc3a,Sv ra11Around t.qN.length rc11Around] sizeOf41 fun w22 H=>zjcc (sp (yI 0) ?_)))))))
 refine zjn (qV ?_)
 refine zA ((fun Z0 Z1 Z2 Z3 Z4 Z5 Z6 Z7 Z8 Z9 Z10 Z11=>fun m' ρ w23=>∃ (xQ:Env) (i:Nat) (Qz:yOA) (Qx:Nat) (Qy:Nat) (out_Around:yLI) (rest:yLL) (x_rest:List Value) (F_rest:yLN),ρ=upd (upd (upd (upd (upd (upd xQ 0 (pp bs os)) 1 (pp bt ot)) 2 (Sv acounts counts.length ccounts)) 6 (pp b1 0)) 10 (pp b19 0)) 11 (yI i)/\((i:Int)<=counts.length)/\(Ent (s.qC.length+1) (Qm s) (fun p q=>base0 s t p q+needS s counts s.qE.length p q+putS s t counts i p q) (20000000+6000000 * i) (rest++[out_Around]))/\(rest.length=s.qC.length)/\m' =(counts.length - (i:Int)).toNat/\Fresh w.heap.size [Qe,F_rest]/\St w w23 [.box b19 [Sv Xq t.qI.length Xp,Sv ra3a ((QR s t counts (Xo (BadAt s t counts) counts.length)).length) rc3a,Sv Qz Qx Qy] 43,Z0,Z1,rr Qz Qx Qy 2 1 (out_Around.map (Value.int .i64)),rr ra3a ((QR s t counts (Xo (BadAt s t counts) counts.length)).length) rc3a 27 1 x_rest,Z2] [Z3,xN true F_rest x_rest rest,Z4,Z5,Z6,Z7,Z8,Z9,Z10,Z11]) _ _ _ _ _ _ _ _ _ _ _ _) ((counts.length - (0:Int)).toNat) ⟨_,0,ra11Around,t.qN.length,rc11Around,t.qN,QR s t counts (Xo (BadAt s t counts) counts.length),rx3a,rF3a,uE6,qf,(by rw [st,p6];exact (rest_ent p0 p1 p2).to (fun _ _=>rfl) qf),qf,rfl,N,H⟩ ?_
 clear H N
 rintro m' ρ w24 ⟨xQ,i,Qz,Qx,Qy,out_Around,rest,x_rest,F_rest,rfl,i0,E_rest,z_rest,rfl,N,H⟩
 have hn_out_Around:=H.yt 3 rfl
 have hn_rest:=H.xB (α:=yLI) 4 rfl 1 rfl qj
 refine zcc (sp (yI i) (sq 1 (oN rfl (sq 1 (zjn (cD rfl (fun h25=>?_) (fun h25=>?_)))))))
 ·have q:=p0.rule (i:=i) qf
  have qc:=q.1
  have qk:=q.cell
  have qr:=q.2.1
  have bn1:=q.2.2.2.2.1
  have bn2:=q.2.2.2.2.2.2.2.1
  have bn3:=q.2.2.2.2.2.2.2.2.1
  have ln1:=bn1.len
  have ln2:=bn2.len
  have ln3:=bn3.len
  have p10:=p2.bd (i:=i) qf
  have qn:=q.2.2.2.1
  refine qU (t_n (xU (qV (zcr (sq 2 (oF rfl (oL rfl (H.xW 2 rfl 2 rfl) (sp (yI i) ?_))))))))
  obtain ⟨b26,o27,rfl⟩:=H.addr 4 rfl qf
  obtain ⟨ae29Need,ce29Need,Fe29Need,ae29Have,ce29Have,Fe29Have,ae29Lack,ce29Lack,Fe29Lack,ae29Here,ce29Here,Fe29Here,ae29Out,ce29Out,Fe29Out,ae29Into,ce29Into,Fe29Into,H⟩:=H.Qc 4 rfl i i qf qf qf
  refine oI rfl rfl (sq 1 (zjcc (sq 1 (sp (yI i) ?_))))
  obtain ⟨b30,o31,rfl⟩:=H.addr 16 rfl qf
  refine oI rfl rfl (oL rfl (H.zB 16 rfl i qf) (sp (Bv ((counts[i]! :Int) == 0)) (zjn (cE rfl (fun h33=>?_) (fun h33=>?_)))))
  ·refine c_exit (t_x (b_x (t_n (xK (sp (yI i) (sw (zi i 1 rfl rfl qf (sq 1 (xP (qW (m' :=(counts.length - ((i+1):Int)).toNat) qf ⟨_,i+1,_,_,_,_,_,_,_,uE6,?_,?_,?_,rfl,N,H.pick (zR 0 6) (zR 7 10)⟩))))))))))
   ·omega
   ·first | exact E_rest.to (fun p q=>by simp only [putS_skip (s:=s) (t:=t) (counts:=counts) (i:=i) ‹_›]) qf | exact E_out_Bags.to (fun p q=>by rw [show k=((s.qE[i]!).xw).length by omega];simp only [putS,putF];omega) qf
   ·omega
  refine qU (t_n (xU ?_))
  refine Qb rfl H [0,1,2,3,5] fun H=>?_
  have S:=H.jr [0,1,2,3,5] (zR 0 17)
  refine tF 0 rfl rfl S ?_
  refine tL 1 rfl rfl (fun _ h=>h.cell 0 rfl rfl) S ?_
  refine rtl 2 S ?_
  refine rtl 3 S ?_
  refine tF 4 rfl rfl S ?_
  refine tL 5 rfl rfl (fun _ h=>h.xW 6 rfl 0 rfl) S ?_
  refine tF 6 rfl rfl S ?_
  refine tL 7 rfl rfl (fun _ h=>h.cell 0 rfl rfl) S ?_
  refine rtl 8 S ?_
  refine rtl 9 S ?_
  refine tF 10 rfl rfl S ?_
  refine tL 11 rfl rfl (fun _ h=>h.xW 6 rfl 0 rfl) S ?_
  obtain ⟨b35,rfl⟩:=H.y5 4 rfl qf
  have S:=H.jr [0,1,2,3,5] (zR 0 17)
  refine tI 12 rfl rfl rfl S ?_
  refine rtl 14 S ?_
  refine rtl 15 S ?_
  refine tF 16 rfl rfl S ?_
  refine tL 17 rfl rfl (fun _ h=>h.xW 6 rfl 5 rfl) S ?_
  refine rtl 18 S ?_
  refine rtp 19 (yI i) S ?_
  refine tI 20 rfl rfl rfl S ?_
  refine tL 21 rfl rfl (fun _ h=>h.zB 16 rfl i qf) S ?_
  refine ro 13 rfl ?_
  obtain ⟨a36,c37,G38,s39,h40,H⟩:=H.jY 4 rfl 8 rfl (iv:=(s.qE[i]!).qR) (((s.qE[i]!).qR).toNat) qf qf
  refine zK (Sv a36 ((rest[((s.qE[i]!).qR).toNat]!).length) c37) isAgg27 rfl (h40) (⟨H.pick [0,1,2,3,5] (zR 1 17),(ro 22 rfl ?_)⟩)
  obtain ⟨u1,u2⟩:=Ent.rowL E_rest (c:=((s.qE[i]!).qR).toNat) qf qf qf qf
  have u4:=(by first | exact bn2.yE qf | exact bn3.yE qf | exact bn4.yE qf:SmallT ((s.qE[i]!).vw) (counts[i]!))
  have sz41:=H.base.size
  have lt42:=H.ltN (L:=[Qe,F_rest]) [8,9]
  refine oc (Xi _ (rest[((s.qE[i]!).qR).toNat]!) ((s.qE[i]!).vw) (counts[i]!) (H.get 0 rfl).1 (H.get 4 rfl).1 qg qg qg) ?_
  rintro v46 w44 r46 x45
  replace H:=H.zt x45 r46
  obtain ⟨a47,c48,rfl,hc49,hm50⟩:=H.jm 0 rfl
  refine ⟨H.pick [1,2,3,4,6] (zR 1 17),(tI 23 rfl rfl rfl (H.pick [1,2,3,4,6] (zR 1 17)) ?_)⟩
  refine ro 24 rfl ?_
  obtain ⟨G52,N,hn53,H⟩:=H.zh 0 rfl N (H.vz [8,9])
  refine jK true H 5 rfl 10 rfl (Sv a47 ((jP (rest[((s.qE[i]!).qR).toNat]!) ((s.qE[i]!).vw) (counts[i]!)).length) c48) 0 rfl rfl sizeOf27 rfl rfl (i:=(((s.qE[i]!).qR).toNat)) qf qf qm fun w51 xs54 F55 hs56 H=>?_
  replace N:Fresh w.heap.size [F55,Qe]:=(N.pick [2,0,1]).repl hs56
  refine ⟨H.pick [1,2,3,4,6] (zR 3 17),(xA qh (t_n (zcc (sq 2 (oF rfl (oL rfl (H.xW 9 rfl 0 rfl) (sp (Bv (((s.qE[i]!).qR:Int) == 0)) (zjn (cE rfl (fun h57=>?_) (fun h57=>?_))))))))))⟩
  ·obtain ⟨bg58,e_bg58⟩:∃ z,z=(rest.set (((s.qE[i]!).qR).toNat) (jP (rest[((s.qE[i]!).qR).toNat]!) ((s.qE[i]!).vw) (counts[i]!))):=⟨_,rfl⟩
   rw [← e_bg58] at H
   have E_bg58:=Ent.addL (D:=1000000) E_rest e_bg58 qf qf (by first | exact bn2.mul qf | exact bn3.mul qf | exact bn4.mul qf) qf
   have z_bg58:bg58.length=s.qC.length:=by rw [e_bg58,List.length_set];omega
   have E_cur:=E_bg58
   refine Qb rfl H (0::zR 2 5) fun H=>?_
   have S:=H.jr (0::zR 2 5) (zR 0 20)
   refine tF 0 rfl rfl S ?_
   refine rtl 2 S ?_
   refine rtl 3 S ?_
   refine tF 4 rfl rfl S ?_
   refine tL 5 rfl rfl (fun _ h=>h.xW 9 rfl 6 rfl) S ?_
   refine rtl 6 S ?_
   refine rtp 7 (yI i) S ?_
   refine tI 8 rfl rfl rfl S ?_
   refine tL 9 rfl rfl (fun _ h=>h.zB 19 rfl i qf) S ?_
   refine ro 1 rfl (zK (Sv Qz Qx Qy) isAgg27 rfl (H.cell 1 rfl rfl) (⟨H.pick (0::zR 2 5) (zR 0 20),(ro 10 rfl ?_)⟩))
   obtain ⟨G60,hn61,h62⟩:=H.QV 4 rfl
   obtain ⟨u1,u2⟩:=Ent.rowN E_bg58 qf qf qf
   have u4:=(by first | exact bn2.yE qf | exact bn3.yE qf | exact bn4.yE qf:SmallT ((s.qE[i]!).QI) (counts[i]!))
   have sz63:=H.base.size
   have lt64:=H.ltN (L:=[F55,Qe]) [0,10]
   refine oc (jo (by rw [← hn61]) (Xi _ out_Around ((s.qE[i]!).QI) (counts[i]!) (hn61▸h62) (H.get 7 rfl).1 qg qg qg)) ?_
   rintro v68 w66 r68 x67
   replace H:=H.zt x67 r68
   obtain ⟨a69,c70,rfl,hc71,hm72⟩:=H.jm 0 rfl
   refine ⟨H.pick (1::zR 3 5) (zR 0 20),(tF 11 rfl rfl (H.pick (1::zR 3 5) (zR 0 20)) ?_)⟩
   refine ro 12 rfl (zI H 2 [Sv Xq t.qI.length Xp,Sv (aa b35 0) ((QR s t counts (Xo (BadAt s t counts) counts.length)).length) rc3a,Sv a69 ((jP out_Around ((s.qE[i]!).QI) (counts[i]!)).length) c70] sizeOf27 fun w73 H=>⟨H.pick (1::zR 3 5) (zR 0 20),(xA qh (t_n (zcr (sp (yI 0) (zjn (qV ?_))))))⟩)
   replace E_bg58:=Ent.addN (D:=1000000) (a' :=jP out_Around ((s.qE[i]!).QI) (counts[i]!)) E_bg58 rfl qf (by first | exact bn2.mul qf | exact bn3.mul qf | exact bn4.mul qf) qf
   have E_cur:=E_bg58
   refine zA ((fun Z0 Z1 Z2 Z3 Z4 Z5 Z6 Z7 Z8 Z9 Z10 Z11 Z12 Z13 Z14 Z15 Z16 Z17 Z18 Z19 Z20 Z21=>fun m' ρ w74=>∃ (xQ:Env) (k:Nat) (out_Bags:yLL) (vM:List Value) (zy:yLN),ρ=upd (upd (upd (upd (upd (upd (upd (upd xQ 0 (pp bs os)) 1 (pp bt ot)) 2 (Sv (aa b30 o31) counts.length ccounts)) 6 (pp b1 0)) 10 (pp b19 0)) 11 (yI i)) 12 (pp b26 (o27+(i:Int).toNat * 9))) 14 (yI k)/\((k:Int)<=(((s.qE[i]!).xw).length))/\(Ent (s.qC.length+1) (Qm s) (fun p q=>base0 s t p q+needS s counts s.qE.length p q+putS s t counts i p q+at' p (s.qE[i]!).qR.toNat (counts[i]! * ((s.qE[i]!).vw)[q]!)+at' p (outPl s t (s.qE[i]!)) (counts[i]! * ((s.qE[i]!).QI)[q]!)+intoF (s.qE[i]!) (counts[i]!) k p q) (22000000+6000000 * i+1000000 * k) (out_Bags++[jP out_Around ((s.qE[i]!).QI) (counts[i]!)]))/\(out_Bags.length=s.qC.length)/\m' =((((s.qE[i]!).xw).length) - (k:Int)).toNat/\Fresh w.heap.size [Qe,zy]/\St w w74 [Z0,Z1,Z2,Z3,Z4,rr (aa b35 0) ((QR s t counts (Xo (BadAt s t counts) counts.length)).length) rc3a 27 1 vM,Z5] [xN true zy vM out_Bags,Z6,Z7,Z8,Z9,Z10,Z11,Z12,Z13,Z14,Z15,Z16,Z17,Z18,Z19,Z20,Z21]) _ _ _ _ _ _ _ _ _ _ _ _ _ _ _ _ _ _ _ _ _ _) (((((s.qE[i]!).xw).length) - (0:Int)).toNat) ⟨_,0,bg58,xs54,F55,uE8,qf,(by exact E_cur.to (fun p q=>by first | (simp only [intoF,outPl_root (s:=s) (t:=t) (r:=s.qE[i]!) ‹_›,jC];omega) | (simp only [intoF,outPl_up (s:=s) (t:=t) (r:=s.qE[i]!) ‹_›];omega)) qf),qf,rfl,(N.pick [1,0]),H.pick (0::zR 2 6) (0::3::4::5::6::7::8::9::10::zR 12 8)⟩ ?_
   clear H N
   rintro m' ρ w75 ⟨xQ,k,out_Bags,vM,zy,rfl,i0,E_out_Bags,z_out_Bags,rfl,N,H⟩
   have XV:=H.xB (α:=yLI) 5 rfl 0 rfl qj
   refine zcc (sp (yI k) (sq 2 (oF rfl (oL rfl (H.xW 7 rfl 7 rfl) (oN rfl (sq 1 (zjn (cD rfl (fun h76=>?_) (fun h76=>?_)))))))))
   ·have qi:=q.2.2.2.2.2.2.2.2.2.2 k qf
    have qi1:=qi.1
    have bn4:=qi.2.2.1
    have ln4:=bn4.len
    refine qU (t_n (xU (qV (zcr (sq 2 (oF rfl (oL rfl (H.xW 7 rfl 7 rfl) (sp (yI k) ?_))))))))
    obtain ⟨b77,o78,rfl⟩:=H.addr 6 rfl qf
    obtain ⟨ae80Bag,ce80Bag,Fe80Bag,H⟩:=H.yY 6 rfl k k qf qf qf
    refine oI rfl rfl (oF rfl (oL rfl (H.xW 1 rfl 0 rfl) (sq 1 (zjn ?_))))
    refine Qb rfl H [0,1,2,3,4,6] fun H=>?_
    have S:=H.jr [0,1,2,3,4,6] (zR 0 19)
    refine tF 0 rfl rfl S ?_
    refine tL 1 rfl rfl (fun _ h=>h.cell 1 rfl rfl) S ?_
    refine rtl 2 S ?_
    refine tF 3 rfl rfl S ?_
    refine tL 4 rfl rfl (fun _ h=>h.cell 1 rfl rfl) S ?_
    refine rtl 5 S ?_
    refine tI 6 rfl rfl rfl S ?_
    refine rtl 8 S ?_
    refine rtl 9 S ?_
    refine tF 10 rfl rfl S ?_
    refine tL 11 rfl rfl (fun _ h=>h.xW 9 rfl 7 rfl) S ?_
    refine rtp 12 (yI k) S ?_
    refine tI 13 rfl rfl rfl S ?_
    refine tF 14 rfl rfl S ?_
    refine tL 15 rfl rfl (fun _ h=>h.xW 1 rfl 1 rfl) S ?_
    refine rtl 16 S ?_
    refine rtp 17 (yI i) S ?_
    refine tI 18 rfl rfl rfl S ?_
    refine tL 19 rfl rfl (fun _ h=>h.zB 18 rfl i qf) S ?_
    refine ro 7 rfl ?_
    obtain ⟨a82,c83,G84,s85,h86,H⟩:=H.jY 5 rfl 2 rfl (iv:=(((s.qE[i]!).xw)[k]!).qR) (((((s.qE[i]!).xw)[k]!).qR).toNat) qf qf
    refine zK (Sv a82 ((out_Bags[((((s.qE[i]!).xw)[k]!).qR).toNat]!).length) c83) isAgg27 rfl (h86) (⟨H.pick [0,1,2,3,4,6] (zR 1 19),(ro 20 rfl ?_)⟩)
    obtain ⟨u1,u2⟩:=Ent.rowL E_out_Bags (c:=((((s.qE[i]!).xw)[k]!).qR).toNat) qf qf qf qf
    have u4:=(by first | exact bn2.yE qf | exact bn3.yE qf | exact bn4.yE qf:SmallT ((((s.qE[i]!).xw)[k]!).QP) (counts[i]!))
    have sz87:=H.base.size
    have lt88:=H.ltN (L:=[Qe,zy]) [11,3]
    refine oc (Xi _ (out_Bags[((((s.qE[i]!).xw)[k]!).qR).toNat]!) ((((s.qE[i]!).xw)[k]!).QP) (counts[i]!) (H.get 0 rfl).1 (H.get 1 rfl).1 qg qg qg) ?_
    rintro v92 w90 r92 x91
    replace H:=H.zt x91 r92
    obtain ⟨a93,c94,rfl,hc95,hm96⟩:=H.jm 0 rfl
    refine ⟨H.pick [1,2,3,4,5,7] (zR 1 19),(tI 21 rfl rfl rfl (H.pick [1,2,3,4,5,7] (zR 1 19)) ?_)⟩
    refine ro 22 rfl ?_
    obtain ⟨G98,N,hn99,H⟩:=H.zh 0 rfl N (H.vz [11,3])
    refine jK true H 6 rfl 4 rfl (Sv a93 ((jP (out_Bags[((((s.qE[i]!).xw)[k]!).qR).toNat]!) ((((s.qE[i]!).xw)[k]!).QP) (counts[i]!)).length) c94) 0 rfl rfl sizeOf27 rfl rfl (i:=(((((s.qE[i]!).xw)[k]!).qR).toNat)) qf qf qm fun w97 xs100 F101 hs102 H=>?_
    replace N:Fresh w.heap.size [F101,Qe]:=(N.pick [2,0,1]).repl hs102
    refine ⟨H.pick [1,2,3,4,5,7] (zR 3 19),(xA qh (b_n (t_n (xK (sp (yI k) (sw (zi k 1 rfl rfl qf (sq 1 (xP ?_)))))))))⟩
    obtain ⟨bg103,e_bg103⟩:∃ z,z=(out_Bags.set (((((s.qE[i]!).xw)[k]!).qR).toNat) (jP (out_Bags[((((s.qE[i]!).xw)[k]!).qR).toNat]!) ((((s.qE[i]!).xw)[k]!).QP) (counts[i]!))):=⟨_,rfl⟩
    rw [← e_bg103] at H
    have E_bg103:=Ent.addL (D:=1000000) E_out_Bags e_bg103 qf qf (by first | exact bn2.mul qf | exact bn3.mul qf | exact bn4.mul qf) qf
    have z_bg103:bg103.length=s.qC.length:=by rw [e_bg103,List.length_set];omega
    have E_cur:=E_bg103
    refine qW (m' :=((((s.qE[i]!).xw).length) - ((k+1):Int)).toNat) qf ⟨_,k+1,_,_,_,uE8,?_,?_,?_,rfl,(N.pick [1,0]),H.pick (zR 1 7) (0::zR 6 16)⟩
    ·omega
    ·exact E_cur.to (fun p q=>by simp only [intoF];omega) qf
    ·omega
   refine c_exit (t_x (t_x (b_x (b_n (t_n (xK (sp (yI i) (sw (zi i 1 rfl rfl qf (sq 1 (xP (qW (m' :=(counts.length - ((i+1):Int)).toNat) qf ⟨_,i+1,_,_,_,_,_,_,_,uE6,?_,?_,?_,rfl,N,H.pick [1,2,3,0,5,6] (8::0::zR 9 8)⟩))))))))))))
   ·omega
   ·first | exact E_rest.to (fun p q=>by simp only [putS_skip (s:=s) (t:=t) (counts:=counts) (i:=i) ‹_›]) qf | exact E_out_Bags.to (fun p q=>by rw [show k=((s.qE[i]!).xw).length by omega];simp only [putS,putF];omega) qf
   ·omega
  obtain ⟨bg104,e_bg104⟩:∃ z,z=(rest.set (((s.qE[i]!).qR).toNat) (jP (rest[((s.qE[i]!).qR).toNat]!) ((s.qE[i]!).vw) (counts[i]!))):=⟨_,rfl⟩
  rw [← e_bg104] at H
  have E_bg104:=Ent.addL (D:=1000000) E_rest e_bg104 qf qf (by first | exact bn2.mul qf | exact bn3.mul qf | exact bn4.mul qf) qf
  have z_bg104:bg104.length=s.qC.length:=by rw [e_bg104,List.length_set];omega
  have E_cur:=E_bg104
  refine zcr (sq 4 (oF rfl (oL rfl (H.xW 9 rfl 0 rfl) (sw (oq (l02Parent_ok _ s t ((s.qE[i]!).qR) (qF (H.get 12 rfl) 0 3) (H.get 13 rfl).1 (H.get 14 rfl).1 (qF (H.get 15 rfl) 0 3) (H.get 16 rfl).1 (H.get 17 rfl).1 (H.get 18 rfl).1 ql ql ql) H fun w105 H=>?_)))))
  have pin:=X3 (s:=s) (t:=t) (c:=((s.qE[i]!).qR)) p0.1 p1.2.2.1 qf qf
  refine sq 1 (zjn ?_)
  refine Qb rfl H [0,1,2,3,4,6] fun H=>?_
  have S:=H.jr [0,1,2,3,4,6] (zR 0 20)
  refine tF 0 rfl rfl S ?_
  refine tL 1 rfl rfl (fun _ h=>h.cell 1 rfl rfl) S ?_
  refine rtl 2 S ?_
  refine tF 3 rfl rfl S ?_
  refine tL 4 rfl rfl (fun _ h=>h.cell 1 rfl rfl) S ?_
  refine rtl 5 S ?_
  refine tI 6 rfl rfl rfl S ?_
  refine rtl 8 S ?_
  refine rtl 9 S ?_
  refine tF 10 rfl rfl S ?_
  refine tL 11 rfl rfl (fun _ h=>h.xW 9 rfl 6 rfl) S ?_
  refine rtl 12 S ?_
  refine rtp 13 (yI i) S ?_
  refine tI 14 rfl rfl rfl S ?_
  refine tL 15 rfl rfl (fun _ h=>h.zB 19 rfl i qf) S ?_
  refine ro 7 rfl ?_
  obtain ⟨a108,c109,G110,s111,h112,H⟩:=H.jY 5 rfl 0 rfl (iv:=xZ s t ((s.qE[i]!).qR)) ((xZ s t ((s.qE[i]!).qR)).toNat) qf qf
  refine zK (Sv a108 ((bg104[(xZ s t ((s.qE[i]!).qR)).toNat]!).length) c109) isAgg27 rfl (h112) (⟨H.pick [0,1,2,3,4,6] (zR 1 20),(ro 16 rfl ?_)⟩)
  obtain ⟨u1,u2⟩:=Ent.rowL E_bg104 (c:=(xZ s t ((s.qE[i]!).qR)).toNat) qf qf qf qf
  have u4:=(by first | exact bn2.yE qf | exact bn3.yE qf | exact bn4.yE qf:SmallT ((s.qE[i]!).QI) (counts[i]!))
  have sz113:=H.base.size
  have lt114:=H.ltN (L:=[F55,Qe]) [1,11]
  refine oc (Xi _ (bg104[(xZ s t ((s.qE[i]!).qR)).toNat]!) ((s.qE[i]!).QI) (counts[i]!) (H.get 0 rfl).1 (H.get 8 rfl).1 qg qg qg) ?_
  rintro v118 w116 r118 x117
  replace H:=H.zt x117 r118
  obtain ⟨a119,c120,rfl,hc121,hm122⟩:=H.jm 0 rfl
  refine ⟨H.pick [1,2,3,4,5,7] (zR 1 20),(tI 17 rfl rfl rfl (H.pick [1,2,3,4,5,7] (zR 1 20)) ?_)⟩
  refine ro 18 rfl ?_
  obtain ⟨G124,N,hn125,H⟩:=H.zh 0 rfl N (H.vz [1,11])
  refine jK true H 6 rfl 2 rfl (Sv a119 ((jP (bg104[(xZ s t ((s.qE[i]!).qR)).toNat]!) ((s.qE[i]!).QI) (counts[i]!)).length) c120) 0 rfl rfl sizeOf27 rfl rfl (i:=((xZ s t ((s.qE[i]!).qR)).toNat)) qf qf qm fun w123 xs126 F127 hs128 H=>?_
  replace N:Fresh w.heap.size [F127,Qe]:=(N.pick [1,0,2]).repl hs128
  refine ⟨H.pick [1,2,3,4,5,7] (zR 3 20),(xA qh (t_n (zcr (sp (yI 0) (zjn (qV ?_))))))⟩
  obtain ⟨bg129,e_bg129⟩:∃ z,z=(bg104.set ((xZ s t ((s.qE[i]!).qR)).toNat) (jP (bg104[(xZ s t ((s.qE[i]!).qR)).toNat]!) ((s.qE[i]!).QI) (counts[i]!))):=⟨_,rfl⟩
  rw [← e_bg129] at H
  have E_bg129:=Ent.addL (D:=1000000) E_bg104 e_bg129 qf qf (by first | exact bn2.mul qf | exact bn3.mul qf | exact bn4.mul qf) qf
  have z_bg129:bg129.length=s.qC.length:=by rw [e_bg129,List.length_set];omega
  have E_cur:=E_bg129
  refine zA ((fun Z0 Z1 Z2 Z3 Z4 Z5 Z6 Z7 Z8 Z9 Z10 Z11 Z12 Z13 Z14 Z15 Z16 Z17 Z18 Z19 Z20=>fun m' ρ w130=>∃ (xQ:Env) (k:Nat) (out_Bags:yLL) (vM:List Value) (zy:yLN),ρ=upd (upd (upd (upd (upd (upd (upd (upd xQ 0 (pp bs os)) 1 (pp bt ot)) 2 (Sv (aa b30 o31) counts.length ccounts)) 6 (pp b1 0)) 10 (pp b19 0)) 11 (yI i)) 12 (pp b26 (o27+(i:Int).toNat * 9))) 14 (yI k)/\((k:Int)<=(((s.qE[i]!).xw).length))/\(Ent (s.qC.length+1) (Qm s) (fun p q=>base0 s t p q+needS s counts s.qE.length p q+putS s t counts i p q+at' p (s.qE[i]!).qR.toNat (counts[i]! * ((s.qE[i]!).vw)[q]!)+at' p (outPl s t (s.qE[i]!)) (counts[i]! * ((s.qE[i]!).QI)[q]!)+intoF (s.qE[i]!) (counts[i]!) k p q) (22000000+6000000 * i+1000000 * k) (out_Bags++[out_Around]))/\(out_Bags.length=s.qC.length)/\m' =((((s.qE[i]!).xw).length) - (k:Int)).toNat/\Fresh w.heap.size [Qe,zy]/\St w w130 [Z0,Z1,Z2,Z3,rr (aa b35 0) ((QR s t counts (Xo (BadAt s t counts) counts.length)).length) rc3a 27 1 vM,Z4] [xN true zy vM out_Bags,Z5,Z6,Z7,Z8,Z9,Z10,Z11,Z12,Z13,Z14,Z15,Z16,Z17,Z18,Z19,Z20]) _ _ _ _ _ _ _ _ _ _ _ _ _ _ _ _ _ _ _ _ _) (((((s.qE[i]!).xw).length) - (0:Int)).toNat) ⟨_,0,bg129,xs126,F127,uE8,qf,(by exact E_cur.to (fun p q=>by first | (simp only [intoF,outPl_root (s:=s) (t:=t) (r:=s.qE[i]!) ‹_›,jC];omega) | (simp only [intoF,outPl_up (s:=s) (t:=t) (r:=s.qE[i]!) ‹_›];omega)) qf),qf,rfl,(N.pick [1,0]),H.pick (zR 2 6) (0::6::7::8::9::10::11::12::13::zR 15 8)⟩ ?_
  clear H N
  rintro m' ρ w131 ⟨xQ,k,out_Bags,vM,zy,rfl,i0,E_out_Bags,z_out_Bags,rfl,N,H⟩
  have XV:=H.xB (α:=yLI) 4 rfl 0 rfl qj
  refine zcc (sp (yI k) (sq 2 (oF rfl (oL rfl (H.xW 7 rfl 7 rfl) (oN rfl (sq 1 (zjn (cD rfl (fun h132=>?_) (fun h132=>?_)))))))))
  ·have qi:=q.2.2.2.2.2.2.2.2.2.2 k qf
   have qi1:=qi.1
   have bn4:=qi.2.2.1
   have ln4:=bn4.len
   refine qU (t_n (xU (qV (zcr (sq 2 (oF rfl (oL rfl (H.xW 7 rfl 7 rfl) (sp (yI k) ?_))))))))
   obtain ⟨b133,o134,rfl⟩:=H.addr 6 rfl qf
   obtain ⟨ae136Bag,ce136Bag,Fe136Bag,H⟩:=H.yY 6 rfl k k qf qf qf
   refine oI rfl rfl (oF rfl (oL rfl (H.xW 1 rfl 0 rfl) (sq 1 (zjn ?_))))
   refine Qb rfl H [0,1,2,3,5] fun H=>?_
   have S:=H.jr [0,1,2,3,5] (zR 0 19)
   refine tF 0 rfl rfl S ?_
   refine tL 1 rfl rfl (fun _ h=>h.cell 0 rfl rfl) S ?_
   refine rtl 2 S ?_
   refine tF 3 rfl rfl S ?_
   refine tL 4 rfl rfl (fun _ h=>h.cell 0 rfl rfl) S ?_
   refine rtl 5 S ?_
   refine tI 6 rfl rfl rfl S ?_
   refine rtl 8 S ?_
   refine rtl 9 S ?_
   refine tF 10 rfl rfl S ?_
   refine tL 11 rfl rfl (fun _ h=>h.xW 9 rfl 7 rfl) S ?_
   refine rtp 12 (yI k) S ?_
   refine tI 13 rfl rfl rfl S ?_
   refine tF 14 rfl rfl S ?_
   refine tL 15 rfl rfl (fun _ h=>h.xW 1 rfl 1 rfl) S ?_
   refine rtl 16 S ?_
   refine rtp 17 (yI i) S ?_
   refine tI 18 rfl rfl rfl S ?_
   refine tL 19 rfl rfl (fun _ h=>h.zB 18 rfl i qf) S ?_
   refine ro 7 rfl ?_
   obtain ⟨a138,c139,G140,s141,h142,H⟩:=H.jY 4 rfl 2 rfl (iv:=(((s.qE[i]!).xw)[k]!).qR) (((((s.qE[i]!).xw)[k]!).qR).toNat) qf qf
   refine zK (Sv a138 ((out_Bags[((((s.qE[i]!).xw)[k]!).qR).toNat]!).length) c139) isAgg27 rfl (h142) (⟨H.pick [0,1,2,3,5] (zR 1 19),(ro 20 rfl ?_)⟩)
   obtain ⟨u1,u2⟩:=Ent.rowL E_out_Bags (c:=((((s.qE[i]!).xw)[k]!).qR).toNat) qf qf qf qf
   have u4:=(by first | exact bn2.yE qf | exact bn3.yE qf | exact bn4.yE qf:SmallT ((((s.qE[i]!).xw)[k]!).QP) (counts[i]!))
   have sz143:=H.base.size
   have lt144:=H.ltN (L:=[Qe,zy]) [11,3]
   refine oc (Xi _ (out_Bags[((((s.qE[i]!).xw)[k]!).qR).toNat]!) ((((s.qE[i]!).xw)[k]!).QP) (counts[i]!) (H.get 0 rfl).1 (H.get 1 rfl).1 qg qg qg) ?_
   rintro v148 w146 r148 x147
   replace H:=H.zt x147 r148
   obtain ⟨a149,c150,rfl,hc151,hm152⟩:=H.jm 0 rfl
   refine ⟨H.pick [1,2,3,4,6] (zR 1 19),(tI 21 rfl rfl rfl (H.pick [1,2,3,4,6] (zR 1 19)) ?_)⟩
   refine ro 22 rfl ?_
   obtain ⟨G154,N,hn155,H⟩:=H.zh 0 rfl N (H.vz [11,3])
   refine jK true H 5 rfl 4 rfl (Sv a149 ((jP (out_Bags[((((s.qE[i]!).xw)[k]!).qR).toNat]!) ((((s.qE[i]!).xw)[k]!).QP) (counts[i]!)).length) c150) 0 rfl rfl sizeOf27 rfl rfl (i:=(((((s.qE[i]!).xw)[k]!).qR).toNat)) qf qf qm fun w153 xs156 F157 hs158 H=>?_
   replace N:Fresh w.heap.size [F157,Qe]:=(N.pick [2,0,1]).repl hs158
   refine ⟨H.pick [1,2,3,4,6] (zR 3 19),(xA qh (b_n (t_n (xK (sp (yI k) (sw (zi k 1 rfl rfl qf (sq 1 (xP ?_)))))))))⟩
   obtain ⟨bg159,e_bg159⟩:∃ z,z=(out_Bags.set (((((s.qE[i]!).xw)[k]!).qR).toNat) (jP (out_Bags[((((s.qE[i]!).xw)[k]!).qR).toNat]!) ((((s.qE[i]!).xw)[k]!).QP) (counts[i]!))):=⟨_,rfl⟩
   rw [← e_bg159] at H
   have E_bg159:=Ent.addL (D:=1000000) E_out_Bags e_bg159 qf qf (by first | exact bn2.mul qf | exact bn3.mul qf | exact bn4.mul qf) qf
   have z_bg159:bg159.length=s.qC.length:=by rw [e_bg159,List.length_set];omega
   have E_cur:=E_bg159
   refine qW (m' :=((((s.qE[i]!).xw).length) - ((k+1):Int)).toNat) qf ⟨_,k+1,_,_,_,uE8,?_,?_,?_,rfl,(N.pick [1,0]),H.pick (zR 1 6) (0::zR 6 16)⟩
   ·omega
   ·exact E_cur.to (fun p q=>by simp only [intoF];omega) qf
   ·omega
  refine c_exit (t_x (t_x (b_x (b_n (t_n (xK (sp (yI i) (sw (zi i 1 rfl rfl qf (sq 1 (xP (qW (m' :=(counts.length - ((i+1):Int)).toNat) qf ⟨_,i+1,_,_,_,_,_,_,_,uE6,?_,?_,?_,rfl,N,H.pick (zR 0 6) (8::0::zR 9 8)⟩))))))))))))
  ·omega
  ·first | exact E_rest.to (fun p q=>by simp only [putS_skip (s:=s) (t:=t) (counts:=counts) (i:=i) ‹_›]) qf | exact E_out_Bags.to (fun p q=>by rw [show k=((s.qE[i]!).xw).length by omega];simp only [putS,putF];omega) qf
  ·omega
 refine zx4 (zcc (sq 2 (oF rfl (oL rfl (H.xW 2 rfl 1 rfl) (oN rfl (sw (o_sub s.qC.length 1 rfl rfl qf (sq 1 (zjn (qV ?_))))))))))
 obtain rfl:i=s.qE.length:=by omega
 have hl:=stepped_live (counts:=counts) p1 (E_rest.to (g:=fun p k=>base0 s t p k+allS s t counts s.qE.length p k) (fun p k=>by rw [allS_eq];omega) (Int.le_refl _)) qf
 obtain ⟨s1,s2⟩:=step_tab2 qf E_rest
 subst s1 s2
 refine zA ((fun Z0 Z1 Z2 Z3 Z4 Z5 Z6 Z7 Z8=>fun m' ρ w160=>∃ (xQ:Env) (c:Int) (out_Alive:List Bool) (out_Bags:yLL) (vM:List Value) (zy:yLN) (j:Nat),ρ=upd (upd (upd (upd (upd xQ 0 (pp bs os)) 2 (Sv acounts counts.length ccounts)) 6 (pp b1 0)) 10 (pp b19 0)) 16 (yI c)/\out_Alive=(xC s counts (xI s t counts) j).qI/\out_Bags=(xC s counts (xI s t counts) j).qP/\(c=(s.qC.length:Int) - 1 - j)/\(j+1<=s.qC.length)/\m' =(c:Int).toNat/\Fresh w.heap.size [Qe,zy]/\St w w160 [Z0,rr Xq t.qI.length Xp 4 1 (out_Alive.map (Value.bool)),Z1,Z2,rr ra3a ((QR s t counts (Xo (BadAt s t counts) counts.length)).length) rc3a 27 1 vM,Z3] [Z4,xN true zy vM out_Bags,Z5,Z6,Z7,Z8]) _ _ _ _ _ _ _ _ _) (((s.qC.length - 1):Int).toNat) ⟨_,s.qC.length - 1,t.qI,(xI s t counts).qP,x_rest,F_rest,0,uE5,(by rfl),(by rfl),qf,qf,rfl,N,H.pick (zR 0 6) [0,1,2,3,4,9]⟩ ?_
 clear H N
 rintro m' ρ w161 ⟨xQ,c,out_Alive,out_Bags,vM,zy,j,rfl,rfl,rfl,ic,jc,rfl,N,H⟩
 have hn_out_Alive:=H.rowNB 1 rfl
 have XV:=H.xB (α:=yLI) 4 rfl 1 rfl qj
 have L:=meltDown_live (counts:=counts) p0 hl j qf
 have L1:=L.alive
 have L2:=L.root
 have L3:=L.bags.1
 rw [← Qi s counts (xI s t counts) j] at H
 refine zcc (sp (yI c) (sp (Bv (decide ((c:Int) > 0))) (zjn (cD rfl (fun h162=>?_) (fun h162=>?_)))))
 ·have cin:CellIn s c:=⟨by omega,by omega⟩
  refine qU (t_n (xU (qV (zcr (sp (Bv false) (zjcc (sp (yI 0) (zjn (qV ?_)))))))))
  refine zA ((fun Z0 Z1 Z2 Z3 Z4 Z5 Z6 Z7 Z8 Z9 Z10 Z11=>fun m' ρ w163=>∃ (xQ:Env) (melts:Bool) (i_1:Nat),ρ=upd (upd (upd (upd (upd (upd (upd xQ 0 (pp bs os)) 2 (Sv acounts counts.length ccounts)) 6 (pp b1 0)) 10 (pp b19 0)) 16 (yI c)) 17 (Bv melts)) 18 (yI i_1)/\melts=dec (QQ s counts c i_1)/\((i_1:Int)<=counts.length)/\m' =(counts.length - (i_1:Int)).toNat/\Fresh w.heap.size [Qe,zy]/\St w w163 [Z0,Z1,Z2,Z3,Z4,Z5] [Z6,Z7,Z8,Z9,Z10,Z11]) _ _ _ _ _ _ _ _ _ _ _ _) ((counts.length - (0:Int)).toNat) ⟨_,false,0,uE7,(by exact (xh (melts_zero _ _ _)).symm),qf,rfl,N,H⟩ ?_
  clear H N
  rintro m' ρ w164 ⟨xQ,melts,i_1,rfl,rfl,i0,rfl,N,H⟩
  refine zcc (sq 2 (oN rfl (sq 1 (zjn (cD rfl (fun h165=>?_) (fun h165=>?_))))))
  ·refine qU (t_n (xU (qV (xK (sp (Bv (dec (QQ s counts c i_1))) (sp (Bv (dec (QQ s counts c i_1))) ?_))))))
   cases h166:((dec (QQ s counts c i_1)))
   ·refine qJ 172 rfl rfl (sq 1 (qJ 172 rfl rfl (sq 1 (qJ 172 rfl rfl ?_))))
    obtain ⟨b167,o168,rfl⟩:=H.addr 5 rfl qf
    refine oI rfl rfl (qJ 172 rfl rfl (oL rfl (H.zB 5 rfl i_1 qf) (qJ 172 rfl rfl (sp (Bv (decide ((counts[i_1]! :Int) > 0))) (qJ 172 rfl rfl (sp (Bv (decide ((counts[i_1]! :Int) > 0))) ?_))))))
    cases h170:(decide ((counts[i_1]! :Int) > 0))
    ·replace h170:=of_decide_eq_false h170
     refine xR (zR 179 8) (qJ 172 rfl rfl (sp (Bv false) (qJ 172 rfl rfl (sp (Bv false) (xR (zR 189 10) (qJ 172 rfl rfl (sp (Bv false) (sp (Bv false) (sp (Bv false) (xP (b_n (t_n (xK (sq 1 (sw (zi i_1 1 rfl rfl qf (sq 1 (xP (qW (m' :=(counts.length - ((i_1+1):Int)).toNat) qf ⟨_,_,i_1+1,uE7,?_,?_,rfl,N,H⟩)))))))))))))))))))
     ·first | exact melts_1 ‹_› | exact melts_2 ‹_› qf | exact melts_3 ‹_› ‹_› | exact melts_4 ‹_› qf ‹_›
     ·omega
    replace h170:=of_decide_eq_true h170
    refine qJ 178 rfl rfl (sq 1 (qJ 178 rfl rfl (sq 1 (qJ 178 rfl rfl (oF rfl (qJ 178 rfl rfl (oL rfl (H.xW 2 rfl 2 rfl) (qJ 178 rfl rfl (sq 1 (qJ 178 rfl rfl ?_))))))))))
    obtain ⟨b171,o172,rfl⟩:=H.addr 4 rfl qf
    obtain ⟨ae174Need,ce174Need,Fe174Need,ae174Have,ce174Have,Fe174Have,ae174Lack,ce174Lack,Fe174Lack,ae174Here,ce174Here,Fe174Here,ae174Out,ce174Out,Fe174Out,ae174Into,ce174Into,Fe174Into,H⟩:=H.Qc 4 rfl i_1 i_1 qf qf qf
    refine oI rfl rfl (qJ 178 rfl rfl (oF rfl (qJ 178 rfl rfl (oL rfl (H.xW 6 rfl 8 rfl) (qJ 172 rfl rfl (sp (Bv ((s.qE[i_1]!).jV)) (qJ 172 rfl rfl (sp (Bv ((s.qE[i_1]!).jV)) ?_))))))))
    cases h175:((s.qE[i_1]!).jV)
    ·rw [h175] at H
     refine xR (zR 189 10) (qJ 172 rfl rfl (sp (Bv false) (sp (Bv false) (sp (Bv false) (xP (b_n (t_n (xK (sq 1 (sw (zi i_1 1 rfl rfl qf (sq 1 (xP (qW (m' :=(counts.length - ((i_1+1):Int)).toNat) qf ⟨_,_,i_1+1,uE7,?_,?_,rfl,N,H.pick (zR 0 6) (zR 7 6)⟩))))))))))))))
     ·first | exact melts_1 ‹_› | exact melts_2 ‹_› qf | exact melts_3 ‹_› ‹_› | exact melts_4 ‹_› qf ‹_›
     ·omega
    rw [h175] at H
    refine qJ 188 rfl rfl (sq 1 (qJ 188 rfl rfl (sq 1 (qJ 188 rfl rfl (oF rfl (qJ 188 rfl rfl (oL rfl (H.xW 9 rfl 2 rfl) (qJ 188 rfl rfl (sq 1 (qJ 188 rfl rfl (oI rfl rfl (qJ 188 rfl rfl (oF rfl (qJ 188 rfl rfl (oL rfl (H.xW 6 rfl 0 rfl) (qJ 188 rfl rfl (sp (yI c) (qJ 188 rfl rfl (sq 1 (qJ 172 rfl rfl (sq 3 (xP (b_n (t_n (xK (sq 1 ?_))))))))))))))))))))))))))
    refine sw (zi i_1 1 rfl rfl qf (sq 1 (xP (qW (m' :=(counts.length - ((i_1+1):Int)).toNat) qf ⟨_,_,i_1+1,uE7,?_,?_,rfl,N,H.pick (zR 0 6) (zR 7 6)⟩))))
    ·first | exact melts_1 ‹_› | exact melts_2 ‹_› qf | exact melts_3 ‹_› ‹_› | exact melts_4 ‹_› qf ‹_›
    ·omega
   refine xR (zR 173 27) (sp (Bv true) (sp (Bv true) (xP (b_n (t_n (xK (sq 1 (sw (zi i_1 1 rfl rfl qf (sq 1 (xP (qW (m' :=(counts.length - ((i_1+1):Int)).toNat) qf ⟨_,_,i_1+1,uE7,?_,?_,rfl,N,H⟩))))))))))))
   ·first | exact melts_1 ‹_› | exact melts_2 ‹_› qf | exact melts_3 ‹_› ‹_› | exact melts_4 ‹_› qf ‹_›
   ·omega
  refine zx4 (zcr (sp (Bv (dec (QQ s counts c i_1))) (zjn (zT _ rfl (fun h176=>?_) (fun h176=>?_)))))
  ·refine xK (sq 1 (sp (yI c) (sw (zN #[pp bs os,pp b19 0,yI c] rfl rfl call252 (en func252 ntmps252 ?_)))))
   refine zcr (sq 2 (sp (yI c) ?_))
   obtain ⟨G177,hn178,h179⟩:=H.rowIsB 1 rfl
   obtain ⟨G180,hn181,h182⟩:=H.XE (α:=yLI) 4 rfl 1 rfl qj
   obtain ⟨G183,hn184,h185⟩:=H.QV 3 rfl
   refine sw (oq (l02Parent_ok _ s (xC s counts (xI s t counts) j) c (qF (H.get 2 rfl) 0 3) (H.get 3 rfl).1 (H.get 4 rfl).1 (by have hz:=(qF (H.cells 0 rfl) 0 3);rw [hn178,hn181,hn184] at hz;exact hz) (hn178▸h179) (hn181▸h182) (hn184▸h185) ql ql ql) H fun w186 H=>?_)
   have pin:=X3 (s:=s) (t:=(xC s counts (xI s t counts) j)) (c:=c) p0.1 L2 qf qf
   refine sq 1 (zjn (xU ?_))
   obtain ⟨b188,rfl⟩:=H.y5 4 rfl qf
   refine c_cut (fun ρ w191=>∃ (xQ:Env) (xs189:List Value) (F190:yLN),ρ=upd (upd (upd xQ 0 (pp bs os)) 1 (pp b19 0)) 2 (yI c)/\Fresh w.heap.size [F190,Qe]/\St w w191 [.box b19 [Sv Xq t.qI.length Xp,Sv (aa b188 0) ((QR s t counts (Xo (BadAt s t counts) counts.length)).length) rc3a,Sv Qz Qx Qy] 43,rr Xq t.qI.length Xp 4 1 (((xC s counts (xI s t counts) j).qI).map (Value.bool)),rr ra11Bags t.qP.length rc11Bags 27 1 rx11Bags,rr Qz Qx Qy 2 1 (((xC s counts (xI s t counts) j).qN).map (Value.int .i64)),rr (aa b188 0) ((QR s t counts (Xo (BadAt s t counts) counts.length)).length) rc3a 27 1 xs189,.box b1 [yN,yN,yN] 43] [xN true F190 xs189 (((xC s counts (xI s t counts) j).qP).set ((xZ s (xC s counts (xI s t counts) j) c).toNat) (jP (((xC s counts (xI s t counts) j).qP)[(xZ s (xC s counts (xI s t counts) j) c).toNat]!) (((xC s counts (xI s t counts) j).qP)[c.toNat]!) 1)),xN true Qe rx11Bags t.qP,atF bs os (yS s qM qL xg qX),sF false xF qM qL s.qC,sF false zu xg qX s.qE,sF false Fcounts acounts ccounts counts]) ?_ ?_
   ·refine Qb rfl H [0,1,2,3,5] fun H=>?_
    have S:=H.jr [0,1,2,3,5] (zR 0 6)
    refine rtl 0 S ?_
    refine rtl 1 S ?_
    refine tF 2 rfl rfl S ?_
    refine tL 3 rfl rfl (fun _ h=>h.cell 0 rfl rfl) S ?_
    refine rtl 4 S ?_
    refine rtl 5 S ?_
    refine rtl 6 S ?_
    refine tF 7 rfl rfl S ?_
    refine tL 8 rfl rfl (fun _ h=>h.cell 0 rfl rfl) S ?_
    refine rtl 9 S ?_
    refine tI 10 rfl rfl rfl S ?_
    refine rtl 12 S ?_
    refine rtl 13 S ?_
    refine tF 14 rfl rfl S ?_
    refine tL 15 rfl rfl (fun _ h=>h.cell 0 rfl rfl) S ?_
    refine rtp 16 (yI c) S ?_
    refine tI 17 rfl rfl rfl S ?_
    refine jb [11,18] qh qm (jM rfl ?_ (jM rfl ?_ jd))
    ·obtain ⟨a193,c194,G195,s196,h197,H⟩:=H.jY 4 rfl 1 rfl (iv:=xZ s (xC s counts (xI s t counts) j) c) ((xZ s (xC s counts (xI s t counts) j) c).toNat) qf qf
     refine zK (Sv a193 ((((xC s counts (xI s t counts) j).qP)[(xZ s (xC s counts (xI s t counts) j) c).toNat]!).length) c194) isAgg27 rfl (h197) (⟨H.pick [0,1,2,3,5] (zR 1 6),(ro 18 rfl ?_)⟩)
     obtain ⟨a198,c199,G200,s201,h202,H⟩:=H.jY 4 rfl 2 rfl (iv:=c) c.toNat qf qf
     refine zK (Sv a198 ((((xC s counts (xI s t counts) j).qP)[c.toNat]!).length) c199) isAgg27 rfl (h202) (⟨H.pick [0,1,2,3,5] (zR 2 6),(ro 19 rfl ?_)⟩)
     obtain ⟨u1,u2,u4⟩:=L.rows p0 (bnd_le qf) (p:=(xZ s (xC s counts (xI s t counts) j) c).toNat) (c:=c.toNat) qf qf
     have sz203:=H.base.size
     have lt204:=H.ltN (L:=[Qe,zy]) [2,3]
     refine oc (Xi _ (((xC s counts (xI s t counts) j).qP)[(xZ s (xC s counts (xI s t counts) j) c).toNat]!) (((xC s counts (xI s t counts) j).qP)[c.toNat]!) 1 (H.get 1 rfl).1 (H.get 0 rfl).1 qg qg qg) ?_
     rintro v208 w206 r208 x207
     replace H:=H.zt x207 r208
     obtain ⟨a209,c210,rfl,hc211,hm212⟩:=H.jm 0 rfl
     refine ⟨H.pick [1,2,3,4,6] (zR 2 6),(tI 20 rfl rfl rfl (H.pick [1,2,3,4,6] (zR 2 6)) ?_)⟩
     refine ro 21 rfl ?_
     obtain ⟨G214,N,hn215,H⟩:=H.zh 0 rfl N (H.vz [2,3])
     refine jK true H 5 rfl 4 rfl (Sv a209 ((jP (((xC s counts (xI s t counts) j).qP)[(xZ s (xC s counts (xI s t counts) j) c).toNat]!) (((xC s counts (xI s t counts) j).qP)[c.toNat]!) 1).length) c210) 0 rfl rfl sizeOf27 rfl rfl (i:=((xZ s (xC s counts (xI s t counts) j) c).toNat)) qf qf qm fun w213 xs216 F217 hs218 H=>?_
     replace N:Fresh w.heap.size [F217,Qe]:=(N.pick [2,0,1]).repl hs218
     refine ⟨H.pick [1,2,3,4,6] (zR 4 6),(xA qh ((meet ⟨_,xs216,F217,uE3,N,H.pick (zR 1 6) [0,4,6,7,8,9]⟩)))⟩
    obtain ⟨a219,c220,G221,s222,h223,H⟩:=H.jY 4 rfl 1 rfl (iv:=c) c.toNat qf qf
    refine zK (Sv a219 ((((xC s counts (xI s t counts) j).qP)[c.toNat]!).length) c220) isAgg27 rfl (h223) (⟨H.pick [0,1,2,3,5] (zR 1 6),(ro 11 rfl ?_)⟩)
    obtain ⟨a224,c225,G226,s227,h228,H⟩:=H.jY 4 rfl 2 rfl (iv:=xZ s (xC s counts (xI s t counts) j) c) ((xZ s (xC s counts (xI s t counts) j) c).toNat) qf qf
    refine zK (Sv a224 ((((xC s counts (xI s t counts) j).qP)[(xZ s (xC s counts (xI s t counts) j) c).toNat]!).length) c225) isAgg27 rfl (h228) (⟨H.pick [0,1,2,3,5] (zR 2 6),(ro 19 rfl ?_)⟩)
    obtain ⟨u1,u2,u4⟩:=L.rows p0 (bnd_le qf) (p:=(xZ s (xC s counts (xI s t counts) j) c).toNat) (c:=c.toNat) qf qf
    have sz229:=H.base.size
    have lt230:=H.ltN (L:=[Qe,zy]) [2,3]
    refine oc (Xi _ (((xC s counts (xI s t counts) j).qP)[(xZ s (xC s counts (xI s t counts) j) c).toNat]!) (((xC s counts (xI s t counts) j).qP)[c.toNat]!) 1 (H.get 0 rfl).1 (H.get 1 rfl).1 qg qg qg) ?_
    rintro v234 w232 r234 x233
    replace H:=H.zt x233 r234
    obtain ⟨a235,c236,rfl,hc237,hm238⟩:=H.jm 0 rfl
    refine ⟨H.pick [1,2,3,4,6] (zR 2 6),(tI 20 rfl rfl rfl (H.pick [1,2,3,4,6] (zR 2 6)) ?_)⟩
    refine ro 21 rfl ?_
    obtain ⟨G240,N,hn241,H⟩:=H.zh 0 rfl N (H.vz [2,3])
    refine jK true H 5 rfl 4 rfl (Sv a235 ((jP (((xC s counts (xI s t counts) j).qP)[(xZ s (xC s counts (xI s t counts) j) c).toNat]!) (((xC s counts (xI s t counts) j).qP)[c.toNat]!) 1).length) c236) 0 rfl rfl sizeOf27 rfl rfl (i:=((xZ s (xC s counts (xI s t counts) j) c).toNat)) qf qf qm fun w239 xs242 F243 hs244 H=>?_
    replace N:Fresh w.heap.size [F243,Qe]:=(N.pick [2,0,1]).repl hs244
    refine ⟨H.pick [1,2,3,4,6] (zR 4 6),(xA qh ((meet ⟨_,xs242,F243,uE3,N,H.pick (zR 1 6) [0,4,6,7,8,9]⟩)))⟩
   clear H N
   rintro ρ w245 ⟨xQ,xs189,F190,rfl,N,H⟩
   refine t_n (xU ?_)
   refine Qb rfl H [0,1,2,3,5] fun H=>?_
   have S:=H.jr [0,1,2,3,5] (zR 0 6)
   refine rtl 0 S ?_
   refine rtl 1 S ?_
   refine tF 2 rfl rfl S ?_
   refine tL 3 rfl rfl (fun _ h=>h.cell 0 rfl rfl) S ?_
   refine rtp 4 (yI c) S ?_
   refine rtl 5 S ?_
   refine rtl 6 S ?_
   refine tF 7 rfl rfl S ?_
   refine tL 8 rfl rfl (fun _ h=>h.xW 2 rfl 0 rfl) S ?_
   refine ro 9 rfl (Qr H underlying27 ti2 s.xO.toNat rfl rfl qf qf qf fun b247 w248 H=>⟨H.pick [1,2,3,4,6] (zR 0 6),(tI 10 rfl rfl rfl (H.pick [1,2,3,4,6] (zR 0 6)) ?_)⟩)
   refine ro 11 rfl ?_
   obtain ⟨G250,N,hn251,H⟩:=H.zh 0 rfl N (H.vz [0,1])
   refine jK true H 5 rfl 1 rfl (Sv (aa b247 0) s.xO.toNat s.xO.toNat) 0 rfl rfl sizeOf27 rfl rfl (i:=c.toNat) qf qf qm fun w249 xs252 F253 hs254 H=>?_
   replace N:Fresh w.heap.size [F253,Qe]:=(N.pick [1,0,2]).repl hs254
   refine ⟨H.pick [1,2,3,4,6] (zR 2 6),(xA qh (t_n (xK (sq 2 (oF rfl (oL rfl (H.cell 1 rfl rfl) (sp (yI c) ?_)))))))⟩
   obtain ⟨b255,rfl⟩:=H.y5 2 rfl qf
   refine oI rfl rfl (sw (QG H 2 rfl false sizeOf4 rfl rfl (i:=c.toNat) qf qf fun w256 H=>xP (ret0 rfl ⟨_,rfl,?_⟩)))
   replace H:=H.erases [0]
   dsimp only [zU,List.eraseIdx] at H
   refine xP (b_n (t_n (xK (sp (yI c) (sw (o_sub c 1 rfl rfl qf (sq 1 (xP ?_))))))))
   rw [Qi] at H
   refine qW (m' :=((c - 1):Int).toNat) qf ⟨_,_,_,_,_,_,j+1,uE5,?_,?_,?_,?_,rfl,(N.pick [1,0]),H.pick (zR 0 6) [3,0,4,5,6,7]⟩
   ·first | (rw [Qw (c:=c) (i:=i_1) ‹_› qf ic];done) | (rw [Qw (c:=c) (i:=i_1) ‹_› qf ic];rfl) | rw [meltDown_no' (c:=c) (i:=i_1) ‹_› qf ic]
   ·first | (rw [Qw (c:=c) (i:=i_1) ‹_› qf ic];done) | (rw [Qw (c:=c) (i:=i_1) ‹_› qf ic];rfl) | rw [meltDown_no' (c:=c) (i:=i_1) ‹_› qf ic]
   ·omega
   ·omega
  refine qU (b_n (t_n (xK (sp (yI c) (sw (o_sub c 1 rfl rfl qf (sq 1 (xP ?_))))))))
  rw [Qi] at H
  refine qW (m' :=((c - 1):Int).toNat) qf ⟨_,_,_,_,_,_,j+1,uE5,?_,?_,?_,?_,rfl,N,H⟩
  ·first | (rw [Qw (c:=c) (i:=i_1) ‹_› qf ic];done) | (rw [Qw (c:=c) (i:=i_1) ‹_› qf ic];rfl) | rw [meltDown_no' (c:=c) (i:=i_1) ‹_› qf ic]
  ·first | (rw [Qw (c:=c) (i:=i_1) ‹_› qf ic];done) | (rw [Qw (c:=c) (i:=i_1) ‹_› qf ic];rfl) | rw [meltDown_no' (c:=c) (i:=i_1) ‹_› qf ic]
  ·omega
  ·omega
 refine zx4 (zcr (sq 1 (sw (zN #[pp bs os,pp b19 0] rfl rfl call253 (en func253 ntmps253 ?_)))))
 refine zcr (sw (xH H ti43 [yN,yN,yN] fun b257 w258 H=>sp (yI 0) (zjcc (sq 2 ?_))))
 obtain ⟨G259,hn260,h261⟩:=H.rowIsB 2 rfl
 obtain ⟨G262,hn263,h264⟩:=H.XE (α:=yLI) 5 rfl 1 rfl qj
 obtain ⟨G265,hn266,h267⟩:=H.QV 4 rfl
 refine sw (oq (l02State_ok _ s (xC s counts (xI s t counts) j) (qF (H.get 2 rfl) 0 3) (H.get 3 rfl).1 (H.get 4 rfl).1 (by have hz:=(qF (H.cells 1 rfl) 0 3);rw [hn260,hn263,hn266] at hz;exact hz) (hn260▸h261) (hn263▸h264) (hn266▸h267) (by first | assumption | exact (And.left (by assumption:yj _)))) H fun w268 H=>sq 1 (zjn (cQ rfl (fun h270=>?_) (fun h270=>?_))))
 ·refine zcr (sw (vG [yN,yN,yN] [] (sw (xY H 0 [yN,yN,yN] sizeOf43 fun w271 H=>sp (yI 3) (zjr (t_r (retC2 H 0 rfl (yI 3) rfl isAgg43 sizeOf43 rfl rfl ⟨_,rfl,?_⟩)))))))
  replace H:=H.erases [0]
  dsimp only [zU,List.eraseIdx] at H
  refine sq 1 (sp (yI 3) (sw (xY H 5 [yN,yN,yN] sizeOf43 fun w272 H=>sp (yI 3) (zjr ?_))))
  replace H:=H.nilRowB 4
  replace H:=H.nilRow 27 1
  replace H:=H.vV (α:=yLI)
  replace H:=H.nilRowI 2
  refine retC2 H 8 rfl (yI 3) rfl isAgg43 sizeOf43 rfl rfl ⟨_,rfl,?_,H.base⟩
  rw [stepBy_yes ‹_›,stepRes,show jC s - 1=j by omega,told_no ‹_›]
  exact ⟨none,0,0,none,0,0,[],[],none,0,0,rfl,(N.emp.pick [0]),H.pick [2,1,0] [0]⟩
 refine qU (t_n (zcr (sq 2 (sw (x8 [Sv Xq t.qI.length Xp,Sv ra3a ((QR s t counts (Xo (BadAt s t counts) counts.length)).length) rc3a,Sv Qz Qx Qy] isAgg43 sizeOf43 rfl (qF (H.cells 1 rfl) 0 3) (sw (xY H 0 [Sv Xq t.qI.length Xp,Sv ra3a ((QR s t counts (Xo (BadAt s t counts) counts.length)).length) rc3a,Sv Qz Qx Qy] sizeOf43 fun w273 H=>sp (yI 0) (zjr ?_))))))))
 refine retC2 H 0 rfl (yI 0) rfl isAgg43 sizeOf43 rfl rfl ⟨_,rfl,?_⟩
 replace H:=H.erases [0]
 dsimp only [zU,List.eraseIdx] at H
 refine sq 1 (sp (yI 0) (sw (xY H 5 [Sv Xq t.qI.length Xp,Sv ra3a ((QR s t counts (Xo (BadAt s t counts) counts.length)).length) rc3a,Sv Qz Qx Qy] sizeOf43 fun w274 H=>sp (yI 0) (zjr (retC2 H 5 rfl (yI 0) rfl isAgg43 sizeOf43 rfl rfl ⟨_,rfl,?_,H.base⟩)))))
 rw [stepBy_yes ‹_›,stepRes,show jC s - 1=j by omega,told_yes ‹_›]
 exact ⟨Xq,t.qI.length,Xp,ra3a,(QR s t counts (Xo (BadAt s t counts) counts.length)).length,rc3a,vM,zy,Qz,Qx,Qy,rfl,(N.pick [1]),H.pick [1,4,3] [1]⟩
theorem isShell_ok (w:World) (s:qG) (xf:zP w xF qM qL s.qC) (xE:zP w zu xg qX s.qE):Calls Tryz.prog 158 #[.agg #[yI s.xO,Sv qM s.qC.length qL,Sv xg s.qE.length qX]] w (Ret (fun v w' =>v=Bv (dec (yD s))) w):=by
 refine en func158 ntmps158 ?_
 have H:=((St.start w).arg xE).arg xf
 have vH:=qO xf
 have jD:=qO xE
 clear xf xE
 have N:=Fresh.nil w.heap.size
 refine zcr (sw (zY H (yS s qM qL xg qX) fun b1 w2 H=>sp (Bv false) (zjcc (oF rfl (oL rfl (H.cell 0 rfl rfl) (sw (oq (yx w2 s.xO 1 8) H fun w3 H=>sp (Bv (!(inR s.xO 1 8))) (sp (Bv (!(inR s.xO 1 8))) ?_))))))))
 cases h5:(!(inR s.xO 1 8))
 ·replace h5:=qY h5
  replace h5:=jL.1 h5
  refine qJ 9 rfl rfl (oF rfl (qJ 9 rfl rfl (oL rfl (H.cell 0 rfl rfl) (qJ 9 rfl rfl (sw (oq (sizeI_ok _ s.qC (H.get 0 rfl).1) H fun w6 H=>qJ 9 rfl rfl (sw (oq (yx w6 (s.qC.length:Int) 1 6) H fun w8 H=>qJ 9 rfl rfl (sp (Bv (!(inR (s.qC.length:Int) 1 6))) (sp (Bv (!(inR (s.qC.length:Int) 1 6))) (sp (Bv (!(inR (s.qC.length:Int) 1 6))) ?_)))))))))))
  cases h10:(!(inR (s.qC.length:Int) 1 6))
  ·replace h10:=qY h10
   replace h10:=jL.1 h10
   refine qJ 16 rfl rfl (oF rfl (qJ 16 rfl rfl (oL rfl (H.cell 0 rfl rfl) (qJ 16 rfl rfl ?_))))
   obtain ⟨b11,o12,rfl⟩:=H.addr 0 rfl qf
   refine oI rfl rfl (qJ 16 rfl rfl (oL rfl (H.zB 0 rfl 0 qf) (qJ 16 rfl rfl (sp (Bv ((s.qC[0]! :Int) != (-1))) (sp (Bv ((s.qC[0]! :Int) != (-1))) (zjn (zT ((s.qC[0]! :Int) != (-1)) rfl (fun h14=>?_) (fun h14=>?_))))))))
   ·replace h14:=bne_iff_ne.1 h14
    refine zcr (sp (Bv false) (zjr (t_r (rH1 (Bv false) H ?_))))
    rw [xh (fun h=>by obtain ⟨h1,h2,h3,h4⟩:=h;first | omega | (have:=h4 (c+1) qf qf;rw [← dg qf] at this;omega))]
   replace h14:=xu h14
   refine qU (t_n (zcc (oF rfl (oL rfl (H.cell 0 rfl rfl) (sw (o_tail H 0 rfl 1 underlying27 ti2 rfl qf fun a15 G16 hG17 H=>?_))))))
   have hl18:(s.qC.drop 1).length=s.qC.length - 1:=List.length_drop
   refine oN rfl (sp (yI 0) (zjn (qV ?_)))
   refine zA ((fun Z0 Z1 Z2 Z3=>fun m' ρ w19=>∃ (xQ:Env) (c:Nat),ρ=upd (upd (upd xQ 25 (Sv a15 ((s.qC.drop 1).length) (qL - 1))) 26 (yI ((s.qC.drop 1).length))) 27 (yI c)/\((c:Int)<=((s.qC.drop 1).length))/\(FrameTo s (c+1))/\m' =(((s.qC.drop 1).length) - (c:Int)).toNat/\Fresh w.heap.size []/\St w w19 [Z0] [Z1,Z2,Z3]) _ _ _ _) ((((s.qC.drop 1).length) - (0:Int)).toNat) ⟨_,0,uE3,qf,(by exact FrameTo.one s),rfl,N,H⟩ ?_
   clear H N
   rintro m' ρ w20 ⟨xQ,c,rfl,i0,i1,rfl,N,H⟩
   have dg:=drop_get (l:=s.qC) (k:=c)
   refine zcr (sq 1 (zjn (xU (cD rfl (fun h21=>?_) (fun h21=>?_)))))
   ·refine qU (t_n (xU (qV (zcr (sp (yI c) ?_)))))
    obtain ⟨b22,o23,rfl⟩:=H.addr 0 rfl qf
    refine oI rfl rfl (oL rfl (H.zB 0 rfl c qf) (sp (yI c) (sq 1 (zjc (sq 1 (sp (yI c) (sw (oq (yx w20 ((s.qC.drop 1)[c]!) 0 c) H fun w25 H=>sq 1 (zjn (zT _ rfl (fun h27=>?_) (fun h27=>?_)))))))))))
    ·replace h27:=xm h27
     replace h27:=yu h27
     refine zcr (sp (Bv false) (zjr (zr5 (rH1 (Bv false) H ?_))))
     rw [xh (fun h=>by obtain ⟨h1,h2,h3,h4⟩:=h;first | omega | (have:=h4 (c+1) qf qf;rw [← dg qf] at this;omega))]
    replace h27:=qY h27
    replace h27:=jL.1 h27
    refine qU (b_n (t_n (xK (sw (zi c 1 rfl rfl qf (sq 1 (xP (qW (m' :=(((s.qC.drop 1).length) - ((c+1):Int)).toNat) qf ⟨_,c+1,uE3,?_,?_,rfl,N,H⟩))))))))
    ·omega
    ·exact i1.succ (by rw [← dg qf];omega)
   refine zx4 (zcr (sp (Bv true) (zjr (rH1 (Bv true) H ?_))))
   rw [jS ⟨by omega,by omega,by omega,(show s.qC.length=c+1 by omega)▸i1⟩]
  replace h10:=xm h10
  replace h10:=yu h10
  refine xR (zR 17 5) (sp (Bv true) (zjn (cTr rfl (zcr (sp (Bv false) (zjr (t_r (rH1 (Bv false) H ?_))))))))
  rw [xh (fun h=>by obtain ⟨h1,h2,h3,h4⟩:=h;first | omega | (have:=h4 (c+1) qf qf;rw [← dg qf] at this;omega))]
 replace h5:=xm h5
 replace h5:=yu h5
 refine xR (zR 10 5) (sp (Bv true) (sp (Bv true) (xR (zR 17 5) (sp (Bv true) (zjn (cTr rfl (zcr (sp (Bv false) (zjr (t_r (rH1 (Bv false) H ?_)))))))))))
 rw [xh (fun h=>by obtain ⟨h1,h2,h3,h4⟩:=h;first | omega | (have:=h4 (c+1) qf qf;rw [← dg qf] at this;omega))]
theorem isCell_ok (w:World) (s:qG) (c:Int) (xf:zP w xF qM qL s.qC) (xE:zP w zu xg qX s.qE):Calls Tryz.prog 196 #[.agg #[yI s.xO,Sv qM s.qC.length qL,Sv xg s.qE.length qX],yI c] w (Ret (fun v w' =>v=Bv (inR c 0 ((s.qC.length:Int) - 1))) w):=by
 refine en func196 ntmps196 ?_
 have H:=((St.start w).arg xE).arg xf
 have vH:=qO xf
 have jD:=qO xE
 clear xf xE
 have N:=Fresh.nil w.heap.size
 refine zcr (sw (zY H (yS s qM qL xg qX) fun b1 w2 H=>sp (Bv false) (zjc (sp (yI c) (oF rfl (oL rfl (H.cell 0 rfl rfl) (sw (oq (sizeI_ok _ s.qC (H.get 0 rfl).1) H fun w3 H=>sw (o_sub (s.qC.length:Int) 1 rfl rfl qf (sw (oq (yx w3 c 0 ((s.qC.length:Int) - 1)) H fun w5 H=>sq 1 (zjr (rH1 (Bv (inR c 0 ((s.qC.length:Int) - 1))) H ?_)))))))))))))
 rfl
theorem lies_ok (w:World) (s:qG) (c:Int) (within:Int) (xf:zP w xF qM qL s.qC) (xE:zP w zu xg qX s.qE) (p0:yD s) (p1:CellIn s c):Calls Tryz.prog 197 #[.agg #[yI s.xO,Sv qM s.qC.length qL,Sv xg s.qE.length qX],yI c,yI within] w (Ret (fun v w' =>v=Bv (dec (Lies s.qC within c))) w):=by
 refine en func197 ntmps197 ?_
 have H:=((St.start w).arg xE).arg xf
 have vH:=qO xf
 have jD:=qO xE
 clear xf xE
 have N:=Fresh.nil w.heap.size
 have p2:=p0.step p1.1 p1.2
 refine zcr (sw (zY H (yS s qM qL xg qX) fun b1 w2 H=>sp (Bv false) (zjcc (oF rfl (oL rfl (H.cell 0 rfl rfl) (sp (yI c) ?_))))))
 obtain ⟨b3,o4,rfl⟩:=H.addr 0 rfl qf
 refine oI rfl rfl (oL rfl (H.XX 0 rfl c qf qf) (sq 1 (zjn (qV ?_))))
 refine zA ((fun Z0 Z1 Z2=>fun m' ρ w6=>∃ (xQ:Env) (c_1:Int),ρ=upd (upd (upd xQ 1 (yI c_1)) 2 (yI within)) 3 (pp b1 0)/\(-1<=c_1/\c_1<=(s.qC.length:Int) - 1)/\(Lies s.qC within c<->0<=c_1/\(c_1=within\/Lies s.qC within c_1))/\m' =(c_1+1).toNat/\Fresh w.heap.size []/\St w w6 [Z0] [Z1,Z2]) _ _ _) (((s.qC[c.toNat]!)+1).toNat) ⟨_,s.qC[c.toNat]!,uE3,qf,(by exact lies_up p0 p1),rfl,N,H⟩ ?_
 clear H N
 rintro m' ρ w7 ⟨xQ,c_1,rfl,i0,i1,rfl,N,H⟩
 have up:=fun h=>p0.step (c:=c_1) h i0.2
 refine zcc (sq 1 (sp (Bv (decide ((c_1:Int)>=0))) (zjn (cD rfl (fun h8=>?_) (fun h8=>?_)))))
 ·refine qU (t_n (xU (qV (zcr (sq 3 (zjn (cE rfl (fun h9=>?_) (fun h9=>?_))))))))
  ·refine zcr (sp (Bv true) (zjr (zr5 (rH1 (Bv true) H ?_))))
   rw [jS (i1.2 ⟨by omega,.inl ‹_›⟩)]
  refine qU (b_n (t_n (xK (oF rfl (oL rfl (H.cell 0 rfl rfl) (sq 1 (oI rfl rfl (oL rfl (H.XX 0 rfl c_1 qf qf) (sq 1 (xP ?_))))))))))
  have up1:=up qf
  refine qW (m' :=((s.qC[c_1.toNat]!)+1).toNat) qf ⟨_,_,uE3,?_,?_,rfl,N,H⟩
  ·omega
  ·exact i1.trans ⟨fun h=>(lies_up p0 ⟨by omega,by omega⟩).1 (h.2.resolve_left ‹_›),fun h=>⟨by omega,.inr ((lies_up p0 ⟨by omega,by omega⟩).2 h)⟩⟩
 refine zx4 (zcr (sp (Bv false) (zjr (rH1 (Bv false) H ?_))))
 rw [xh (fun h=>by have:=(i1.1 h).1;omega)]
theorem isRule_ok (w:World) (s:qG) (r:zZ) (xf:zP w xF qM qL s.qC) (xE:zP w zu xg qX s.qE) (hrNeed:zP w FrNeed arNeed crNeed r.vF) (hrHave:zP w FrHave arHave crHave r.vJ) (hrLack:zP w FrLack arLack crLack r.vY) (hrHere:zP w FrHere arHere crHere r.vw) (hrOut:zP w FrOut arOut crOut r.QI) (hrInto:zP w FrInto XN XK r.xw) (p0:yD s):Calls Tryz.prog 159 #[.agg #[yI s.xO,Sv qM s.qC.length qL,Sv xg s.qE.length qX],.agg #[yI r.qR,yI r.jR,Sv arNeed r.vF.length crNeed,Sv arHave r.vJ.length crHave,Sv arLack r.vY.length crLack,Sv arHere r.vw.length crHere,Sv arOut r.QI.length crOut,Sv XN r.xw.length XK,Bv r.jV]] w (Ret (fun v w' =>v=Bv (dec (RuleOk s r))) w):=by
 refine en func159 ntmps159 ?_
 have H:=((((((((St.start w).arg hrInto).arg hrOut).arg hrHere).arg hrLack).arg hrHave).arg hrNeed).arg xE).arg xf
 have vH:=qO xf
 have jD:=qO xE
 have nhrNeed:=qO hrNeed
 have nhrHave:=qO hrHave
 have nhrLack:=qO hrLack
 have nhrHere:=qO hrHere
 have nhrOut:=qO hrOut
 have nhrInto:=qO hrInto
 clear xf xE hrNeed hrHave hrLack hrHere hrOut hrInto
 have N:=Fresh.nil w.heap.size
 refine zcr (sw (zY H (yS s qM qL xg qX) fun b1 w2 H=>sw (zY H [yI r.qR,yI r.jR,Sv arNeed r.vF.length crNeed,Sv arHave r.vJ.length crHave,Sv arLack r.vY.length crLack,Sv arHere r.vw.length crHere,Sv arOut r.QI.length crOut,Sv XN r.xw.length XK,Bv r.jV] fun b3 w4 H=>sp (Bv false) (zjcc ?_))))
 refine sw (x8 (yS s qM qL xg qX) isAgg37 sizeOf37 rfl (qF (H.cells 1 rfl) 0 3) (oF rfl (oL rfl (H.cell 0 rfl rfl) (sw (oq (isCell_ok _ s r.qR (H.get 0 rfl).1 (H.get 1 rfl).1) H fun w6 H=>sp (Bv (!(inR r.qR 0 ((s.qC.length:Int) - 1)))) (sp (Bv (!(inR r.qR 0 ((s.qC.length:Int) - 1)))) ?_))))))
 cases h8:(!(inR r.qR 0 ((s.qC.length:Int) - 1)))
 ·replace h8:=qY h8
  replace h8:=jL.1 h8
  refine qJ 14 rfl rfl (oF rfl (qJ 14 rfl rfl (oL rfl (H.cell 0 rfl rfl) (qJ 14 rfl rfl (sw (oq (yx w6 r.jR 0 9) H fun w9 H=>qJ 14 rfl rfl (sp (Bv (!(inR r.jR 0 9))) (sp (Bv (!(inR r.jR 0 9))) (sp (Bv (!(inR r.jR 0 9))) ?_)))))))))
  cases h11:(!(inR r.jR 0 9))
  ·replace h11:=qY h11
   replace h11:=jL.1 h11
   refine qJ 20 rfl rfl (oF rfl (qJ 20 rfl rfl (oL rfl (H.cell 0 rfl rfl) (qJ 20 rfl rfl (sp (Bv r.jV) ?_)))))
   cases h12:(r.jV)
   ·rw [h12] at H
    refine xR [24,25,26] (qJ 20 rfl rfl (sp (Bv false) (sp (Bv false) (sp (Bv false) (qJ 29 rfl rfl (oF rfl (qJ 29 rfl rfl (oL rfl (H.cell 0 rfl rfl) (qJ 29 rfl rfl (oN rfl (qJ 29 rfl rfl (sp (Bv (decide ((r.xw.length:Int) > 3))) (sp (Bv (decide ((r.xw.length:Int) > 3))) (zjn (cD rfl (fun h13=>?_) (fun h13=>?_))))))))))))))))
    ·refine zcr (sp (Bv false) (zjr (t_r (rH1 (Bv false) H ?_))))
     rw [xh (fun h=>by obtain ⟨h1,h2,h3,h4,h5,h6,h7,h8,h9,h10,h11⟩:=h;first | contradiction | omega | exact h3 ⟨‹_›,‹_›⟩ | (obtain ⟨q1,q2,q3,q4,q5⟩:=h11 i qf;first | contradiction | omega | (have:=q5 qf;omega)) | (refine absurd ?_ ‹¬ vk _ _›;rcases (show k=0\/k=1\/k=2\/k=3\/k=4 by omega) with e | e | e | e | e <;> subst e <;> assumption))]
    refine qU (t_n (zcc (oF rfl (oL rfl (H.cell 0 rfl rfl) (oF rfl (oL rfl (H.cell 0 rfl rfl) (oF rfl (oL rfl (H.cell 0 rfl rfl) (oF rfl (oL rfl (H.cell 0 rfl rfl) (oF rfl (oL rfl (H.cell 0 rfl rfl) (sw (o_buildF H underlying41 ti27 [Sv arNeed r.vF.length crNeed,Sv arHave r.vJ.length crHave,Sv arLack r.vY.length crLack,Sv arHere r.vw.length crHere,Sv arOut r.QI.length crOut] rfl (by simp [Value.cells]) rfl qj qj fun b14 w15 H=>oN rfl (sp (yI 0) (zjn (qV ?_)))))))))))))))))
    replace H:=H.boxRow 0 rfl 1 5 rfl qj
    replace H:=H.vV (α:=yLI)
    replace H:=H.Xl false 7 rfl 0 rfl qm
    replace H:=H.Xl false 7 rfl 0 rfl qm
    replace H:=H.Xl false 7 rfl 0 rfl qm
    replace H:=H.Xl false 7 rfl 0 rfl qm
    replace H:=H.Xl false 7 rfl 0 rfl qm
    refine zA ((fun Z0 Z1 Z2 Z3 Z4 Z5 Z6 Z7 Z8 Z9 Z10 Z11=>fun m' ρ w16=>∃ (xQ:Env) (k:Nat),ρ=upd (upd (upd (upd (upd xQ 2 (pp b1 0)) 3 (pp b3 0)) 45 (Sv (aa b14 0) 5 5)) 46 (yI 5)) 47 (yI k)/\((k:Int)<=5)/\(∀ j,j < k->vk s.xO ([r.vF,r.vJ,r.vY,r.vw,r.QI][j]!))/\m' =(5 - (k:Int)).toNat/\Fresh w.heap.size []/\St w w16 [Z0,Z1,Z2] [Z3,Z4,Z5,Z6,Z7,Z8,Z9,Z10,Z11]) _ _ _ _ _ _ _ _ _ _ _ _) ((5 - (0:Int)).toNat) ⟨_,0,uE5,qf,(by intro j hj;omega),rfl,N,H.pick [0,1,2] (0::zR 6 8)⟩ ?_
    clear H N
    rintro m' ρ w17 ⟨xQ,k,rfl,i0,i1,rfl,N,H⟩
    refine zcr (sp (Bv (decide ((k:Int) < 5))) (zjn (xU (cD rfl (fun h18=>?_) (fun h18=>?_)))))
    ·refine qU (t_n (xU (qV (zcr (oI rfl rfl ?_)))))
     obtain ⟨a19,c20,G21,s22,h23,H⟩:=H.jY 0 rfl 0 rfl (iv:=k) k qf qf
     refine oL rfl (h23) (sq 1 (zjc (oF rfl (oL rfl (H.cell 2 rfl rfl) (sq 1 (sw (oq (XR _ s.xO ([r.vF,r.vJ,r.vY,r.vw,r.QI][k]!) (H.get 0 rfl).1) H fun w24 H=>sq 1 (zjn (cQ rfl (fun h26=>?_) (fun h26=>?_))))))))))
     ·refine zcr (sp (Bv false) (zjr (zr5 (rH1 (Bv false) H ?_))))
      rw [xh (fun h=>by obtain ⟨h1,h2,h3,h4,h5,h6,h7,h8,h9,h10,h11⟩:=h;first | contradiction | omega | exact h3 ⟨‹_›,‹_›⟩ | (obtain ⟨q1,q2,q3,q4,q5⟩:=h11 i qf;first | contradiction | omega | (have:=q5 qf;omega)) | (refine absurd ?_ ‹¬ vk _ _›;rcases (show k=0\/k=1\/k=2\/k=3\/k=4 by omega) with e | e | e | e | e <;> subst e <;> assumption))]
     refine qU (b_n (t_n (xK (sw (zi k 1 rfl rfl qf (sq 1 (xP (qW (m' :=(5 - ((k+1):Int)).toNat) qf ⟨_,k+1,uE5,?_,?_,rfl,N,H.pick [0,1,2] (zR 1 9)⟩))))))))
     ·omega
     ·intro j hj;by_cases e:j=k;(subst e;assumption);exact i1 j qf
    refine zx4 (zcc (oF rfl (oL rfl (H.cell 1 rfl rfl) (oN rfl (sp (yI 0) (zjn (qV ?_)))))))
    have n1:vk s.xO r.vF:=i1 0 qf
    have n2:vk s.xO r.vJ:=i1 1 qf
    have n3:vk s.xO r.vY:=i1 2 qf
    have n4:vk s.xO r.vw:=i1 3 qf
    have n5:vk s.xO r.QI:=i1 4 qf
    refine zA ((fun Z0 Z1 Z2 Z3 Z4 Z5 Z6 Z7 Z8 Z9 Z10 Z11=>fun m' ρ w27=>∃ (xQ:Env) (i:Nat),ρ=upd (upd (upd (upd (upd xQ 2 (pp b1 0)) 3 (pp b3 0)) 58 (Sv XN r.xw.length XK)) 59 (yI r.xw.length)) 60 (yI i)/\((i:Int)<=r.xw.length)/\(IntosTo s r i)/\m' =(r.xw.length - (i:Int)).toNat/\Fresh w.heap.size []/\St w w27 [Z0,Z1,Z2] [Z3,Z4,Z5,Z6,Z7,Z8,Z9,Z10,Z11]) _ _ _ _ _ _ _ _ _ _ _ _) ((r.xw.length - (0:Int)).toNat) ⟨_,0,uE5,qf,qx,rfl,N,H⟩ ?_
    clear H N
    rintro m' ρ w28 ⟨xQ,i,rfl,i0,i2,rfl,N,H⟩
    refine zcr (sq 1 (zjn (xU (cD rfl (fun h29=>?_) (fun h29=>?_)))))
    ·refine qU (t_n (xU (qV (zcr (sp (yI i) ?_)))))
     obtain ⟨b30,o31,rfl⟩:=H.addr 8 rfl qf
     obtain ⟨ae33Bag,ce33Bag,Fe33Bag,H⟩:=H.yY 8 rfl i i qf qf qf
     refine oI rfl rfl (sw (x8 [yI ((r.xw[i]!).qR),Sv ae33Bag (((r.xw[i]!).QP).length) ce33Bag] isAgg160 sizeOf160 rfl (qF (H.get 1 rfl) 0 2) (sw (xH H ti160 [yI 0,yN] fun b34 w35 H=>sp (yI i) (sw (xY H 0 [yI ((r.xw[i]!).qR),Sv ae33Bag (((r.xw[i]!).QP).length) ce33Bag] sizeOf160 fun w36 H=>zjn (xU ?_)))))))
     refine jw rfl H fun H=>rt 0 _ (yl (cs:=(yS s qM qL xg qX)) isAgg37 sizeOf37 rfl (fun _ h=>qF (h.cells 3 rfl) 0 3)) H ?_
     refine tF 1 rfl rfl H ?_
     refine tL 2 rfl rfl (fun _ h=>h.cell 0 rfl rfl) H ?_
     refine ro 3 rfl (oq (isCell_ok _ s ((r.xw[i]!).qR) (H.get 3 rfl).1 (H.get 4 rfl).1) H fun w39 H=>⟨H,(rtp 4 (Bv (!(inR ((r.xw[i]!).qR) 0 ((s.qC.length:Int) - 1)))) H ?_)⟩)
     refine rtp 5 (Bv (!(inR ((r.xw[i]!).qR) 0 ((s.qC.length:Int) - 1)))) H ?_
     cases h41:(!(inR ((r.xw[i]!).qR) 0 ((s.qC.length:Int) - 1)))
     ·replace h41:=qY h41
      replace h41:=jL.1 h41
      refine rg 6 _ 70 (yl (cs:=(yS s qM qL xg qX)) isAgg37 sizeOf37 rfl (fun _ h=>qF (h.cells 3 rfl) 0 3)) H ?_
      refine gF 7 rfl rfl H ?_
      refine gL 8 rfl rfl (fun _ h=>h.cell 0 rfl rfl) H ?_
      refine gF 9 rfl rfl H ?_
      refine gL 10 rfl rfl (fun _ h=>h.cell 2 rfl rfl) H ?_
      refine jb [11] qh qm (XI rfl (e:=70) rfl rfl (oq (lies_ok _ s ((r.xw[i]!).qR) r.qR (H.get 3 rfl).1 (H.get 4 rfl).1 qg qg) H fun w43 H=>⟨H,(rgp 12 (Bv (!(dec (Lies s.qC r.qR ((r.xw[i]!).qR))))) 70 H ?_)⟩) jd)
      refine rtp 13 (Bv (!(dec (Lies s.qC r.qR ((r.xw[i]!).qR))))) H ?_
      refine rtp 14 (Bv (!(dec (Lies s.qC r.qR ((r.xw[i]!).qR))))) H ?_
      cases h45:(!(dec (Lies s.qC r.qR ((r.xw[i]!).qR))))
      ·replace h45:=qY h45
       replace h45:=yU h45
       refine gF 15 rfl rfl H ?_
       refine gL 16 rfl rfl (fun _ h=>h.cell 3 rfl rfl) H ?_
       refine gF 17 rfl rfl H ?_
       refine gL 18 rfl rfl (fun _ h=>h.cell 0 rfl rfl) H ?_
       refine jb [19] qh qm (XI rfl (e:=79) rfl rfl (oq (XR _ s.xO ((r.xw[i]!).QP) (H.get 0 rfl).1) H fun w46 H=>⟨H,(rgp 20 (Bv (!(dec (vk s.xO ((r.xw[i]!).QP))))) 79 H ?_)⟩) jd)
       refine rtp 21 (Bv (!(dec (vk s.xO ((r.xw[i]!).QP))))) H ?_
       refine rtp 22 (Bv (!(dec (vk s.xO ((r.xw[i]!).QP))))) H ?_
       cases h48:(!(dec (vk s.xO ((r.xw[i]!).QP))))
       ·replace h48:=qY h48
        replace h48:=yU h48
        refine gF 23 rfl rfl H ?_
        refine gL 24 rfl rfl (fun _ h=>h.cell 0 rfl rfl) H ?_
        refine jb [25] qh qm (XI rfl (e:=87) rfl rfl ?_ jd)
        have sm:Small ((r.xw[i]!).QP):=vP (by first | assumption | exact i1 0 qf)
        refine oq (XC _ ((r.xw[i]!).QP) (H.get 0 rfl).1 (by first | assumption | exact vP ql | exact yX ql)) H fun w49 H=>⟨H,(rgp 26 (Bv ((Xh ((r.xw[i]!).QP):Int) == 0)) 87 H ?_)⟩
        refine rtp 27 (Bv ((Xh ((r.xw[i]!).QP):Int) == 0)) H ?_
        refine rtp 28 (Bv ((Xh ((r.xw[i]!).QP):Int) == 0)) H ?_
        cases h51:((Xh ((r.xw[i]!).QP):Int) == 0)
        ·replace h51:=ne_of_beq_false h51
         refine rgp 29 (yI i) 93 H ?_
         refine rgp 30 (Bv (decide ((i:Int) > 0))) 93 H ?_
         refine rgp 31 (Bv (decide ((i:Int) > 0))) 93 H ?_
         cases h52:(decide ((i:Int) > 0))
         ·replace h52:=of_decide_eq_false h52
          refine zS (zR 32 10) 10 (H) (rgp 42 (Bv false) 93 H ?_)
          refine rtp 43 (Bv false) H ?_
          refine xA qh (t_n (cFr rfl (qU (b_n (t_n (xK (sw (zi i 1 rfl rfl qf (sq 1 (xP (qW (m' :=(r.xw.length - ((i+1):Int)).toNat) qf ⟨_,i+1,uE5,?_,?_,rfl,N,H.pick [1,2,3] (zR 2 9)⟩)))))))))))
          ·omega
          ·exact i2.succ ⟨‹_›,‹_›,‹_›,‹_›,fun hk=>by omega⟩
         replace h52:=of_decide_eq_true h52
         refine gF 32 rfl rfl H ?_
         refine gL 33 rfl rfl (fun _ h=>h.cell 0 rfl rfl) H ?_
         refine gF 34 rfl rfl H ?_
         refine gL 35 rfl rfl (fun _ h=>h.cell 2 rfl rfl) H ?_
         refine rgp 36 (yI i) 96 H ?_
         refine rg 37 _ 96 (y_sub i 1 rfl rfl qf) H ?_
         obtain ⟨ae53Bag,ce53Bag,Fe53Bag,H⟩:=H.yY 10 rfl (i - 1) (i - 1) qf qf qf
         have S:=H.jr (zR 0 4) (zR 2 11)
         refine gI 38 rfl rfl rfl S ?_
         refine gF 39 rfl rfl S ?_
         refine jb [40] qh qm (XI rfl (e:=96) rfl rfl (zK (yI ((r.xw[i - 1]!).qR)) isAgg2 rfl (H.xW 1 rfl 0 rfl) (⟨H.pick (zR 0 4) (zR 2 11),?_⟩)) jd)
         have S:=H.jr (zR 0 4) (zR 2 11)
         refine rgl 41 96 S ?_
         refine rgl 42 93 S ?_
         refine rtl 43 S ?_
         refine xA qh (t_n (cD rfl (fun h54=>?_) (fun h54=>?_)))
         ·refine zcr (sp (Bv false) (zjr (zr5 (rH1 (Bv false) H ?_))))
          rw [xh (fun h=>by obtain ⟨h1,h2,h3,h4,h5,h6,h7,h8,h9,h10,h11⟩:=h;first | contradiction | omega | exact h3 ⟨‹_›,‹_›⟩ | (obtain ⟨q1,q2,q3,q4,q5⟩:=h11 i qf;first | contradiction | omega | (have:=q5 qf;omega)) | (refine absurd ?_ ‹¬ vk _ _›;rcases (show k=0\/k=1\/k=2\/k=3\/k=4 by omega) with e | e | e | e | e <;> subst e <;> assumption))]
         refine qU (b_n (t_n (xK (sw (zi i 1 rfl rfl qf (sq 1 (xP (qW (m' :=(r.xw.length - ((i+1):Int)).toNat) qf ⟨_,i+1,uE5,?_,?_,rfl,N,H.pick [1,2,3] (zR 4 9)⟩))))))))
         ·omega
         ·exact i2.succ ⟨‹_›,‹_›,‹_›,‹_›,fun hk=>by omega⟩
        replace h51:=eq_of_beq h51
        refine zS (zR 29 14) 14 (H) (rtp 43 (Bv true) H ?_)
        refine xA qh (t_n (cTr rfl (zcr (sp (Bv false) (zjr (zr5 (rH1 (Bv false) H ?_)))))))
        rw [xh (fun h=>by obtain ⟨h1,h2,h3,h4,h5,h6,h7,h8,h9,h10,h11⟩:=h;first | contradiction | omega | exact h3 ⟨‹_›,‹_›⟩ | (obtain ⟨q1,q2,q3,q4,q5⟩:=h11 i qf;first | contradiction | omega | (have:=q5 qf;omega)) | (refine absurd ?_ ‹¬ vk _ _›;rcases (show k=0\/k=1\/k=2\/k=3\/k=4 by omega) with e | e | e | e | e <;> subst e <;> assumption))]
       replace h48:=xm h48
       replace h48:=zX h48
       refine zS (zR 23 4) 4 (H) (rtp 27 (Bv true) H ?_)
       refine rtp 28 (Bv true) H ?_
       refine zS (zR 29 14) 14 (H) (rtp 43 (Bv true) H ?_)
       refine xA qh (t_n (cTr rfl (zcr (sp (Bv false) (zjr (zr5 (rH1 (Bv false) H ?_)))))))
       rw [xh (fun h=>by obtain ⟨h1,h2,h3,h4,h5,h6,h7,h8,h9,h10,h11⟩:=h;first | contradiction | omega | exact h3 ⟨‹_›,‹_›⟩ | (obtain ⟨q1,q2,q3,q4,q5⟩:=h11 i qf;first | contradiction | omega | (have:=q5 qf;omega)) | (refine absurd ?_ ‹¬ vk _ _›;rcases (show k=0\/k=1\/k=2\/k=3\/k=4 by omega) with e | e | e | e | e <;> subst e <;> assumption))]
      replace h45:=xm h45
      replace h45:=zX h45
      refine zS (zR 15 6) 6 (H) (rtp 21 (Bv true) H ?_)
      refine rtp 22 (Bv true) H ?_
      refine zS (zR 23 4) 4 (H) (rtp 27 (Bv true) H ?_)
      refine rtp 28 (Bv true) H ?_
      refine zS (zR 29 14) 14 (H) (rtp 43 (Bv true) H ?_)
      refine xA qh (t_n (cTr rfl (zcr (sp (Bv false) (zjr (zr5 (rH1 (Bv false) H ?_)))))))
      rw [xh (fun h=>by obtain ⟨h1,h2,h3,h4,h5,h6,h7,h8,h9,h10,h11⟩:=h;first | contradiction | omega | exact h3 ⟨‹_›,‹_›⟩ | (obtain ⟨q1,q2,q3,q4,q5⟩:=h11 i qf;first | contradiction | omega | (have:=q5 qf;omega)) | (refine absurd ?_ ‹¬ vk _ _›;rcases (show k=0\/k=1\/k=2\/k=3\/k=4 by omega) with e | e | e | e | e <;> subst e <;> assumption))]
     replace h41:=xm h41
     replace h41:=yu h41
     refine zS (zR 6 7) 7 (H) (rtp 13 (Bv true) H ?_)
     refine rtp 14 (Bv true) H ?_
     refine zS (zR 15 6) 6 (H) (rtp 21 (Bv true) H ?_)
     refine rtp 22 (Bv true) H ?_
     refine zS (zR 23 4) 4 (H) (rtp 27 (Bv true) H ?_)
     refine rtp 28 (Bv true) H ?_
     refine zS (zR 29 14) 14 (H) (rtp 43 (Bv true) H ?_)
     refine xA qh (t_n (cTr rfl (zcr (sp (Bv false) (zjr (zr5 (rH1 (Bv false) H ?_)))))))
     rw [xh (fun h=>by obtain ⟨h1,h2,h3,h4,h5,h6,h7,h8,h9,h10,h11⟩:=h;first | contradiction | omega | exact h3 ⟨‹_›,‹_›⟩ | (obtain ⟨q1,q2,q3,q4,q5⟩:=h11 i qf;first | contradiction | omega | (have:=q5 qf;omega)) | (refine absurd ?_ ‹¬ vk _ _›;rcases (show k=0\/k=1\/k=2\/k=3\/k=4 by omega) with e | e | e | e | e <;> subst e <;> assumption))]
    refine zx4 (zcr (oF rfl (oL rfl (H.cell 1 rfl rfl) ?_)))
    have sm:Small r.vF:=vP (by first | assumption | exact i1 0 qf)
    refine sw (oq (XC _ r.vF (H.get 3 rfl).1 (by first | assumption | exact vP ql | exact yX ql)) H fun w55 H=>sp (Bv (decide ((Xh r.vF:Int) > 0))) (sp (Bv (decide ((Xh r.vF:Int) > 0))) (zjr (rH1 (Bv (decide ((Xh r.vF:Int) > 0))) H (congrArg Value.bool (dec_eq ?_))))))
    rw [decide_eq_true_iff]
    exact ⟨fun h=>⟨by omega,by omega,by simp_all,by omega,n1,n2,n3,n4,n5,by omega,(show i=r.xw.length by omega)▸i2⟩,fun h=>by have:=h.2.2.2.2.2.2.2.2.2.1;have:=sum_nonneg n1.1;omega⟩
   rw [h12] at H
   refine qJ 23 rfl rfl (oF rfl (qJ 23 rfl rfl (oL rfl (H.cell 0 rfl rfl) (qJ 23 rfl rfl (sp (Bv ((r.qR:Int) == 0)) (qJ 20 rfl rfl (sp (Bv ((r.qR:Int) == 0)) (sp (Bv ((r.qR:Int) == 0)) (sp (Bv ((r.qR:Int) == 0)) ?_)))))))))
   cases h57:((r.qR:Int) == 0)
   ·replace h57:=ne_of_beq_false h57
    refine qJ 29 rfl rfl (oF rfl (qJ 29 rfl rfl (oL rfl (H.cell 0 rfl rfl) (qJ 29 rfl rfl (oN rfl (qJ 29 rfl rfl (sp (Bv (decide ((r.xw.length:Int) > 3))) (sp (Bv (decide ((r.xw.length:Int) > 3))) (zjn (cD rfl (fun h58=>?_) (fun h58=>?_)))))))))))
    ·refine zcr (sp (Bv false) (zjr (t_r (rH1 (Bv false) H ?_))))
     rw [xh (fun h=>by obtain ⟨h1,h2,h3,h4,h5,h6,h7,h8,h9,h10,h11⟩:=h;first | contradiction | omega | exact h3 ⟨‹_›,‹_›⟩ | (obtain ⟨q1,q2,q3,q4,q5⟩:=h11 i qf;first | contradiction | omega | (have:=q5 qf;omega)) | (refine absurd ?_ ‹¬ vk _ _›;rcases (show k=0\/k=1\/k=2\/k=3\/k=4 by omega) with e | e | e | e | e <;> subst e <;> assumption))]
    refine qU (t_n (zcc (oF rfl (oL rfl (H.cell 0 rfl rfl) (oF rfl (oL rfl (H.cell 0 rfl rfl) (oF rfl (oL rfl (H.cell 0 rfl rfl) (oF rfl (oL rfl (H.cell 0 rfl rfl) (oF rfl (oL rfl (H.cell 0 rfl rfl) (sw (o_buildF H underlying41 ti27 [Sv arNeed r.vF.length crNeed,Sv arHave r.vJ.length crHave,Sv arLack r.vY.length crLack,Sv arHere r.vw.length crHere,Sv arOut r.QI.length crOut] rfl (by simp [Value.cells]) rfl qj qj fun b59 w60 H=>oN rfl (sp (yI 0) (zjn (qV ?_)))))))))))))))))
    replace H:=H.boxRow 0 rfl 1 5 rfl qj
    replace H:=H.vV (α:=yLI)
    replace H:=H.Xl false 7 rfl 0 rfl qm
    replace H:=H.Xl false 7 rfl 0 rfl qm
    replace H:=H.Xl false 7 rfl 0 rfl qm
    replace H:=H.Xl false 7 rfl 0 rfl qm
    replace H:=H.Xl false 7 rfl 0 rfl qm
    refine zA ((fun Z0 Z1 Z2 Z3 Z4 Z5 Z6 Z7 Z8 Z9 Z10 Z11=>fun m' ρ w61=>∃ (xQ:Env) (k:Nat),ρ=upd (upd (upd (upd (upd xQ 2 (pp b1 0)) 3 (pp b3 0)) 45 (Sv (aa b59 0) 5 5)) 46 (yI 5)) 47 (yI k)/\((k:Int)<=5)/\(∀ j,j < k->vk s.xO ([r.vF,r.vJ,r.vY,r.vw,r.QI][j]!))/\m' =(5 - (k:Int)).toNat/\Fresh w.heap.size []/\St w w61 [Z0,Z1,Z2] [Z3,Z4,Z5,Z6,Z7,Z8,Z9,Z10,Z11]) _ _ _ _ _ _ _ _ _ _ _ _) ((5 - (0:Int)).toNat) ⟨_,0,uE5,qf,(by intro j hj;omega),rfl,N,H.pick [0,1,2] (0::zR 6 8)⟩ ?_
    clear H N
    rintro m' ρ w62 ⟨xQ,k,rfl,i0,i1,rfl,N,H⟩
    refine zcr (sp (Bv (decide ((k:Int) < 5))) (zjn (xU (cD rfl (fun h63=>?_) (fun h63=>?_)))))
    ·refine qU (t_n (xU (qV (zcr (oI rfl rfl ?_)))))
     obtain ⟨a64,c65,G66,s67,h68,H⟩:=H.jY 0 rfl 0 rfl (iv:=k) k qf qf
     refine oL rfl (h68) (sq 1 (zjc (oF rfl (oL rfl (H.cell 2 rfl rfl) (sq 1 (sw (oq (XR _ s.xO ([r.vF,r.vJ,r.vY,r.vw,r.QI][k]!) (H.get 0 rfl).1) H fun w69 H=>sq 1 (zjn (cQ rfl (fun h71=>?_) (fun h71=>?_))))))))))
     ·refine zcr (sp (Bv false) (zjr (zr5 (rH1 (Bv false) H ?_))))
      rw [xh (fun h=>by obtain ⟨h1,h2,h3,h4,h5,h6,h7,h8,h9,h10,h11⟩:=h;first | contradiction | omega | exact h3 ⟨‹_›,‹_›⟩ | (obtain ⟨q1,q2,q3,q4,q5⟩:=h11 i qf;first | contradiction | omega | (have:=q5 qf;omega)) | (refine absurd ?_ ‹¬ vk _ _›;rcases (show k=0\/k=1\/k=2\/k=3\/k=4 by omega) with e | e | e | e | e <;> subst e <;> assumption))]
     refine qU (b_n (t_n (xK (sw (zi k 1 rfl rfl qf (sq 1 (xP (qW (m' :=(5 - ((k+1):Int)).toNat) qf ⟨_,k+1,uE5,?_,?_,rfl,N,H.pick [0,1,2] (zR 1 9)⟩))))))))
     ·omega
     ·intro j hj;by_cases e:j=k;(subst e;assumption);exact i1 j qf
    refine zx4 (zcc (oF rfl (oL rfl (H.cell 1 rfl rfl) (oN rfl (sp (yI 0) (zjn (qV ?_)))))))
    have n1:vk s.xO r.vF:=i1 0 qf
    have n2:vk s.xO r.vJ:=i1 1 qf
    have n3:vk s.xO r.vY:=i1 2 qf
    have n4:vk s.xO r.vw:=i1 3 qf
    have n5:vk s.xO r.QI:=i1 4 qf
    refine zA ((fun Z0 Z1 Z2 Z3 Z4 Z5 Z6 Z7 Z8 Z9 Z10 Z11=>fun m' ρ w72=>∃ (xQ:Env) (i:Nat),ρ=upd (upd (upd (upd (upd xQ 2 (pp b1 0)) 3 (pp b3 0)) 58 (Sv XN r.xw.length XK)) 59 (yI r.xw.length)) 60 (yI i)/\((i:Int)<=r.xw.length)/\(IntosTo s r i)/\m' =(r.xw.length - (i:Int)).toNat/\Fresh w.heap.size []/\St w w72 [Z0,Z1,Z2] [Z3,Z4,Z5,Z6,Z7,Z8,Z9,Z10,Z11]) _ _ _ _ _ _ _ _ _ _ _ _) ((r.xw.length - (0:Int)).toNat) ⟨_,0,uE5,qf,qx,rfl,N,H⟩ ?_
    clear H N
    rintro m' ρ w73 ⟨xQ,i,rfl,i0,i2,rfl,N,H⟩
    refine zcr (sq 1 (zjn (xU (cD rfl (fun h74=>?_) (fun h74=>?_)))))
    ·refine qU (t_n (xU (qV (zcr (sp (yI i) ?_)))))
     obtain ⟨b75,o76,rfl⟩:=H.addr 8 rfl qf
     obtain ⟨ae78Bag,ce78Bag,Fe78Bag,H⟩:=H.yY 8 rfl i i qf qf qf
     refine oI rfl rfl (sw (x8 [yI ((r.xw[i]!).qR),Sv ae78Bag (((r.xw[i]!).QP).length) ce78Bag] isAgg160 sizeOf160 rfl (qF (H.get 1 rfl) 0 2) (sw (xH H ti160 [yI 0,yN] fun b79 w80 H=>sp (yI i) (sw (xY H 0 [yI ((r.xw[i]!).qR),Sv ae78Bag (((r.xw[i]!).QP).length) ce78Bag] sizeOf160 fun w81 H=>zjn (xU ?_)))))))
     refine jw rfl H fun H=>rt 0 _ (yl (cs:=(yS s qM qL xg qX)) isAgg37 sizeOf37 rfl (fun _ h=>qF (h.cells 3 rfl) 0 3)) H ?_
     refine tF 1 rfl rfl H ?_
     refine tL 2 rfl rfl (fun _ h=>h.cell 0 rfl rfl) H ?_
     refine ro 3 rfl (oq (isCell_ok _ s ((r.xw[i]!).qR) (H.get 3 rfl).1 (H.get 4 rfl).1) H fun w84 H=>⟨H,(rtp 4 (Bv (!(inR ((r.xw[i]!).qR) 0 ((s.qC.length:Int) - 1)))) H ?_)⟩)
     refine rtp 5 (Bv (!(inR ((r.xw[i]!).qR) 0 ((s.qC.length:Int) - 1)))) H ?_
     cases h86:(!(inR ((r.xw[i]!).qR) 0 ((s.qC.length:Int) - 1)))
     ·replace h86:=qY h86
      replace h86:=jL.1 h86
      refine rg 6 _ 70 (yl (cs:=(yS s qM qL xg qX)) isAgg37 sizeOf37 rfl (fun _ h=>qF (h.cells 3 rfl) 0 3)) H ?_
      refine gF 7 rfl rfl H ?_
      refine gL 8 rfl rfl (fun _ h=>h.cell 0 rfl rfl) H ?_
      refine gF 9 rfl rfl H ?_
      refine gL 10 rfl rfl (fun _ h=>h.cell 2 rfl rfl) H ?_
      refine jb [11] qh qm (XI rfl (e:=70) rfl rfl (oq (lies_ok _ s ((r.xw[i]!).qR) r.qR (H.get 3 rfl).1 (H.get 4 rfl).1 qg qg) H fun w88 H=>⟨H,(rgp 12 (Bv (!(dec (Lies s.qC r.qR ((r.xw[i]!).qR))))) 70 H ?_)⟩) jd)
      refine rtp 13 (Bv (!(dec (Lies s.qC r.qR ((r.xw[i]!).qR))))) H ?_
      refine rtp 14 (Bv (!(dec (Lies s.qC r.qR ((r.xw[i]!).qR))))) H ?_
      cases h90:(!(dec (Lies s.qC r.qR ((r.xw[i]!).qR))))
      ·replace h90:=qY h90
       replace h90:=yU h90
       refine gF 15 rfl rfl H ?_
       refine gL 16 rfl rfl (fun _ h=>h.cell 3 rfl rfl) H ?_
       refine gF 17 rfl rfl H ?_
       refine gL 18 rfl rfl (fun _ h=>h.cell 0 rfl rfl) H ?_
       refine jb [19] qh qm (XI rfl (e:=79) rfl rfl (oq (XR _ s.xO ((r.xw[i]!).QP) (H.get 0 rfl).1) H fun w91 H=>⟨H,(rgp 20 (Bv (!(dec (vk s.xO ((r.xw[i]!).QP))))) 79 H ?_)⟩) jd)
       refine rtp 21 (Bv (!(dec (vk s.xO ((r.xw[i]!).QP))))) H ?_
       refine rtp 22 (Bv (!(dec (vk s.xO ((r.xw[i]!).QP))))) H ?_
       cases h93:(!(dec (vk s.xO ((r.xw[i]!).QP))))
       ·replace h93:=qY h93
        replace h93:=yU h93
        refine gF 23 rfl rfl H ?_
        refine gL 24 rfl rfl (fun _ h=>h.cell 0 rfl rfl) H ?_
        refine jb [25] qh qm (XI rfl (e:=87) rfl rfl ?_ jd)
        have sm:Small ((r.xw[i]!).QP):=vP (by first | assumption | exact i1 0 qf)
        refine oq (XC _ ((r.xw[i]!).QP) (H.get 0 rfl).1 (by first | assumption | exact vP ql | exact yX ql)) H fun w94 H=>⟨H,(rgp 26 (Bv ((Xh ((r.xw[i]!).QP):Int) == 0)) 87 H ?_)⟩
        refine rtp 27 (Bv ((Xh ((r.xw[i]!).QP):Int) == 0)) H ?_
        refine rtp 28 (Bv ((Xh ((r.xw[i]!).QP):Int) == 0)) H ?_
        cases h96:((Xh ((r.xw[i]!).QP):Int) == 0)
        ·replace h96:=ne_of_beq_false h96
         refine rgp 29 (yI i) 93 H ?_
         refine rgp 30 (Bv (decide ((i:Int) > 0))) 93 H ?_
         refine rgp 31 (Bv (decide ((i:Int) > 0))) 93 H ?_
         cases h97:(decide ((i:Int) > 0))
         ·replace h97:=of_decide_eq_false h97
          refine zS (zR 32 10) 10 (H) (rgp 42 (Bv false) 93 H ?_)
          refine rtp 43 (Bv false) H ?_
          refine xA qh (t_n (cFr rfl (qU (b_n (t_n (xK (sw (zi i 1 rfl rfl qf (sq 1 (xP (qW (m' :=(r.xw.length - ((i+1):Int)).toNat) qf ⟨_,i+1,uE5,?_,?_,rfl,N,H.pick [1,2,3] (zR 2 9)⟩)))))))))))
          ·omega
          ·exact i2.succ ⟨‹_›,‹_›,‹_›,‹_›,fun hk=>by omega⟩
         replace h97:=of_decide_eq_true h97
         refine gF 32 rfl rfl H ?_
         refine gL 33 rfl rfl (fun _ h=>h.cell 0 rfl rfl) H ?_
         refine gF 34 rfl rfl H ?_
         refine gL 35 rfl rfl (fun _ h=>h.cell 2 rfl rfl) H ?_
         refine rgp 36 (yI i) 96 H ?_
         refine rg 37 _ 96 (y_sub i 1 rfl rfl qf) H ?_
         obtain ⟨ae98Bag,ce98Bag,Fe98Bag,H⟩:=H.yY 10 rfl (i - 1) (i - 1) qf qf qf
         have S:=H.jr (zR 0 4) (zR 2 11)
         refine gI 38 rfl rfl rfl S ?_
         refine gF 39 rfl rfl S ?_
         refine jb [40] qh qm (XI rfl (e:=96) rfl rfl (zK (yI ((r.xw[i - 1]!).qR)) isAgg2 rfl (H.xW 1 rfl 0 rfl) (⟨H.pick (zR 0 4) (zR 2 11),?_⟩)) jd)
         have S:=H.jr (zR 0 4) (zR 2 11)
         refine rgl 41 96 S ?_
         refine rgl 42 93 S ?_
         refine rtl 43 S ?_
         refine xA qh (t_n (cD rfl (fun h99=>?_) (fun h99=>?_)))
         ·refine zcr (sp (Bv false) (zjr (zr5 (rH1 (Bv false) H ?_))))
          rw [xh (fun h=>by obtain ⟨h1,h2,h3,h4,h5,h6,h7,h8,h9,h10,h11⟩:=h;first | contradiction | omega | exact h3 ⟨‹_›,‹_›⟩ | (obtain ⟨q1,q2,q3,q4,q5⟩:=h11 i qf;first | contradiction | omega | (have:=q5 qf;omega)) | (refine absurd ?_ ‹¬ vk _ _›;rcases (show k=0\/k=1\/k=2\/k=3\/k=4 by omega) with e | e | e | e | e <;> subst e <;> assumption))]
         refine qU (b_n (t_n (xK (sw (zi i 1 rfl rfl qf (sq 1 (xP (qW (m' :=(r.xw.length - ((i+1):Int)).toNat) qf ⟨_,i+1,uE5,?_,?_,rfl,N,H.pick [1,2,3] (zR 4 9)⟩))))))))
         ·omega
         ·exact i2.succ ⟨‹_›,‹_›,‹_›,‹_›,fun hk=>by omega⟩
        replace h96:=eq_of_beq h96
        refine zS (zR 29 14) 14 (H) (rtp 43 (Bv true) H ?_)
        refine xA qh (t_n (cTr rfl (zcr (sp (Bv false) (zjr (zr5 (rH1 (Bv false) H ?_)))))))
        rw [xh (fun h=>by obtain ⟨h1,h2,h3,h4,h5,h6,h7,h8,h9,h10,h11⟩:=h;first | contradiction | omega | exact h3 ⟨‹_›,‹_›⟩ | (obtain ⟨q1,q2,q3,q4,q5⟩:=h11 i qf;first | contradiction | omega | (have:=q5 qf;omega)) | (refine absurd ?_ ‹¬ vk _ _›;rcases (show k=0\/k=1\/k=2\/k=3\/k=4 by omega) with e | e | e | e | e <;> subst e <;> assumption))]
       replace h93:=xm h93
       replace h93:=zX h93
       refine zS (zR 23 4) 4 (H) (rtp 27 (Bv true) H ?_)
       refine rtp 28 (Bv true) H ?_
       refine zS (zR 29 14) 14 (H) (rtp 43 (Bv true) H ?_)
       refine xA qh (t_n (cTr rfl (zcr (sp (Bv false) (zjr (zr5 (rH1 (Bv false) H ?_)))))))
       rw [xh (fun h=>by obtain ⟨h1,h2,h3,h4,h5,h6,h7,h8,h9,h10,h11⟩:=h;first | contradiction | omega | exact h3 ⟨‹_›,‹_›⟩ | (obtain ⟨q1,q2,q3,q4,q5⟩:=h11 i qf;first | contradiction | omega | (have:=q5 qf;omega)) | (refine absurd ?_ ‹¬ vk _ _›;rcases (show k=0\/k=1\/k=2\/k=3\/k=4 by omega) with e | e | e | e | e <;> subst e <;> assumption))]
      replace h90:=xm h90
      replace h90:=zX h90
      refine zS (zR 15 6) 6 (H) (rtp 21 (Bv true) H ?_)
      refine rtp 22 (Bv true) H ?_
      refine zS (zR 23 4) 4 (H) (rtp 27 (Bv true) H ?_)
      refine rtp 28 (Bv true) H ?_
      refine zS (zR 29 14) 14 (H) (rtp 43 (Bv true) H ?_)
      refine xA qh (t_n (cTr rfl (zcr (sp (Bv false) (zjr (zr5 (rH1 (Bv false) H ?_)))))))
      rw [xh (fun h=>by obtain ⟨h1,h2,h3,h4,h5,h6,h7,h8,h9,h10,h11⟩:=h;first | contradiction | omega | exact h3 ⟨‹_›,‹_›⟩ | (obtain ⟨q1,q2,q3,q4,q5⟩:=h11 i qf;first | contradiction | omega | (have:=q5 qf;omega)) | (refine absurd ?_ ‹¬ vk _ _›;rcases (show k=0\/k=1\/k=2\/k=3\/k=4 by omega) with e | e | e | e | e <;> subst e <;> assumption))]
     replace h86:=xm h86
     replace h86:=yu h86
     refine zS (zR 6 7) 7 (H) (rtp 13 (Bv true) H ?_)
     refine rtp 14 (Bv true) H ?_
     refine zS (zR 15 6) 6 (H) (rtp 21 (Bv true) H ?_)
     refine rtp 22 (Bv true) H ?_
     refine zS (zR 23 4) 4 (H) (rtp 27 (Bv true) H ?_)
     refine rtp 28 (Bv true) H ?_
     refine zS (zR 29 14) 14 (H) (rtp 43 (Bv true) H ?_)
     refine xA qh (t_n (cTr rfl (zcr (sp (Bv false) (zjr (zr5 (rH1 (Bv false) H ?_)))))))
     rw [xh (fun h=>by obtain ⟨h1,h2,h3,h4,h5,h6,h7,h8,h9,h10,h11⟩:=h;first | contradiction | omega | exact h3 ⟨‹_›,‹_›⟩ | (obtain ⟨q1,q2,q3,q4,q5⟩:=h11 i qf;first | contradiction | omega | (have:=q5 qf;omega)) | (refine absurd ?_ ‹¬ vk _ _›;rcases (show k=0\/k=1\/k=2\/k=3\/k=4 by omega) with e | e | e | e | e <;> subst e <;> assumption))]
    refine zx4 (zcr (oF rfl (oL rfl (H.cell 1 rfl rfl) ?_)))
    have sm:Small r.vF:=vP (by first | assumption | exact i1 0 qf)
    refine sw (oq (XC _ r.vF (H.get 3 rfl).1 (by first | assumption | exact vP ql | exact yX ql)) H fun w100 H=>sp (Bv (decide ((Xh r.vF:Int) > 0))) (sp (Bv (decide ((Xh r.vF:Int) > 0))) (zjr (rH1 (Bv (decide ((Xh r.vF:Int) > 0))) H (congrArg Value.bool (dec_eq ?_))))))
    rw [decide_eq_true_iff]
    exact ⟨fun h=>⟨by omega,by omega,by simp_all,by omega,n1,n2,n3,n4,n5,by omega,(show i=r.xw.length by omega)▸i2⟩,fun h=>by have:=h.2.2.2.2.2.2.2.2.2.1;have:=sum_nonneg n1.1;omega⟩
   replace h57:=eq_of_beq h57
   refine xR (zR 30 4) (sp (Bv true) (zjn (cTr rfl (zcr (sp (Bv false) (zjr (t_r (rH1 (Bv false) H ?_))))))))
   rw [xh (fun h=>by obtain ⟨h1,h2,h3,h4,h5,h6,h7,h8,h9,h10,h11⟩:=h;first | contradiction | omega | exact h3 ⟨‹_›,‹_›⟩ | (obtain ⟨q1,q2,q3,q4,q5⟩:=h11 i qf;first | contradiction | omega | (have:=q5 qf;omega)) | (refine absurd ?_ ‹¬ vk _ _›;rcases (show k=0\/k=1\/k=2\/k=3\/k=4 by omega) with e | e | e | e | e <;> subst e <;> assumption))]
  replace h11:=xm h11
  replace h11:=yu h11
  refine xR (zR 21 7) (sp (Bv true) (sp (Bv true) (xR (zR 30 4) (sp (Bv true) (zjn (cTr rfl (zcr (sp (Bv false) (zjr (t_r (rH1 (Bv false) H ?_)))))))))))
  rw [xh (fun h=>by obtain ⟨h1,h2,h3,h4,h5,h6,h7,h8,h9,h10,h11⟩:=h;first | contradiction | omega | exact h3 ⟨‹_›,‹_›⟩ | (obtain ⟨q1,q2,q3,q4,q5⟩:=h11 i qf;first | contradiction | omega | (have:=q5 qf;omega)) | (refine absurd ?_ ‹¬ vk _ _›;rcases (show k=0\/k=1\/k=2\/k=3\/k=4 by omega) with e | e | e | e | e <;> subst e <;> assumption))]
 replace h8:=xm h8
 replace h8:=yu h8
 refine xR (zR 15 4) (sp (Bv true) (sp (Bv true) (xR (zR 21 7) (sp (Bv true) (sp (Bv true) (xR (zR 30 4) (sp (Bv true) (zjn (cTr rfl (zcr (sp (Bv false) (zjr (t_r (rH1 (Bv false) H ?_))))))))))))))
 rw [xh (fun h=>by obtain ⟨h1,h2,h3,h4,h5,h6,h7,h8,h9,h10,h11⟩:=h;first | contradiction | omega | exact h3 ⟨‹_›,‹_›⟩ | (obtain ⟨q1,q2,q3,q4,q5⟩:=h11 i qf;first | contradiction | omega | (have:=q5 qf;omega)) | (refine absurd ?_ ‹¬ vk _ _›;rcases (show k=0\/k=1\/k=2\/k=3\/k=4 by omega) with e | e | e | e | e <;> subst e <;> assumption))]
theorem validSystem_ok (w:World) (s:qG) (xf:zP w xF qM qL s.qC) (xE:zP w zu xg qX s.qE):Calls Tryz.prog 124 #[.agg #[yI s.xO,Sv qM s.qC.length qL,Sv xg s.qE.length qX]] w (Ret (fun v w' =>v=Bv (dec (yj s))) w):=by
 refine en func124 ntmps124 ?_
 have H:=((St.start w).arg xE).arg xf
 have vH:=qO xf
 have jD:=qO xE
 clear xf xE
 have N:=Fresh.nil w.heap.size
 have p1:=fun h:yD s=>h.2.1
 refine zcr (sw (zY H (yS s qM qL xg qX) fun b1 w2 H=>sp (Bv false) (zjcc (sw (x8 (yS s qM qL xg qX) isAgg37 sizeOf37 rfl (qF (H.cells 0 rfl) 0 3) (sw (oq (isShell_ok _ s (H.get 0 rfl).1 (H.get 1 rfl).1) H fun w4 H=>sp (Bv (!(dec (yD s)))) (sp (Bv (!(dec (yD s)))) ?_))))))))
 cases h6:(!(dec (yD s)))
 ·replace h6:=qY h6
  replace h6:=yU h6
  refine qJ 9 rfl rfl (oF rfl (qJ 9 rfl rfl (oL rfl (H.cell 0 rfl rfl) (qJ 9 rfl rfl (oN rfl (qJ 9 rfl rfl (sp (Bv (decide ((s.qE.length:Int) > 16))) (sp (Bv (decide ((s.qE.length:Int) > 16))) (zjn (cD rfl (fun h7=>?_) (fun h7=>?_)))))))))))
  ·refine zcr (sp (Bv false) (zjr (t_r (rH1 (Bv false) H ?_))))
   rw [xh (fun h=>by obtain ⟨h1,h2,h3⟩:=h;first | contradiction | omega | (obtain ⟨r1,r2⟩:=h3 k qf;first | contradiction | (have:=XY (s:=s) (k:=k+1) q1 q2;omega)))]
  refine qU (t_n (zcr (sw (vG [yI 0,yI 0,yI 0,yI 0,yI 0,yI 0] [] (sw (xH H ti197 [yI 0,yI 0,yI 0,yI 0,yI 0,yI 0] fun b8 w9 H=>sw (xY H 0 [yI 0,yI 0,yI 0,yI 0,yI 0,yI 0] sizeOf197 fun w10 H=>zjcc (oF rfl (oL rfl (H.cell 1 rfl rfl) (oN rfl (sp (yI 0) (zjn (qV ?_)))))))))))))
  have p2:=p1 ‹_›
  refine zA ((fun Z0 Z1 Z2=>fun m' ρ w11=>∃ (xQ:Env) (k:Nat) (many:yLI),ρ=upd (upd (upd (upd (upd xQ 1 (pp b1 0)) 3 (pp b8 0)) 17 (Sv xg s.qE.length qX)) 18 (yI s.qE.length)) 19 (yI k)/\many=counts6 s k/\((k:Int)<=s.qE.length)/\(RulesTo s k)/\m' =(s.qE.length - (k:Int)).toNat/\Fresh w.heap.size []/\St w w11 [.box b8 (many.map (Value.int .i64)) 197,Z0] [Z1,Z2]) _ _ _) ((s.qE.length - (0:Int)).toNat) ⟨_,0,[0,0,0,0,0,0],uE5,(by exact counts6_zero s),qf,qx,rfl,N,H⟩ ?_
  clear H N
  rintro m' ρ w12 ⟨xQ,k,many,rfl,rfl,i0,i1,rfl,N,H⟩
  refine zcr (sq 1 (zjn (xU (cD rfl (fun h13=>?_) (fun h13=>?_)))))
  ·refine qU (t_n (xU (qV (zcr ?_))))
   obtain ⟨b14,o15,rfl⟩:=H.addr 1 rfl qf
   obtain ⟨ae17Need,ce17Need,Fe17Need,ae17Have,ce17Have,Fe17Have,ae17Lack,ce17Lack,Fe17Lack,ae17Here,ce17Here,Fe17Here,ae17Out,ce17Out,Fe17Out,ae17Into,ce17Into,Fe17Into,H⟩:=H.Qc 1 rfl k k qf qf qf
   refine oI rfl rfl (sw (x8 [yI ((s.qE[k]!).qR),yI ((s.qE[k]!).jR),Sv ae17Need (((s.qE[k]!).vF).length) ce17Need,Sv ae17Have (((s.qE[k]!).vJ).length) ce17Have,Sv ae17Lack (((s.qE[k]!).vY).length) ce17Lack,Sv ae17Here (((s.qE[k]!).vw).length) ce17Here,Sv ae17Out (((s.qE[k]!).QI).length) ce17Out,Sv ae17Into (((s.qE[k]!).xw).length) ce17Into,Bv ((s.qE[k]!).jV)] isAgg120 sizeOf120 rfl (qF (H.get 6 rfl) 0 9) ?_))
   refine sw (xH H ti120 [yI 0,yI 0,yN,yN,yN,yN,yN,yN,Bv false] fun b18 w19 H=>sw (xY H 0 [yI ((s.qE[k]!).qR),yI ((s.qE[k]!).jR),Sv ae17Need (((s.qE[k]!).vF).length) ce17Need,Sv ae17Have (((s.qE[k]!).vJ).length) ce17Have,Sv ae17Lack (((s.qE[k]!).vY).length) ce17Lack,Sv ae17Here (((s.qE[k]!).vw).length) ce17Here,Sv ae17Out (((s.qE[k]!).QI).length) ce17Out,Sv ae17Into (((s.qE[k]!).xw).length) ce17Into,Bv ((s.qE[k]!).jV)] sizeOf120 fun w20 H=>?_))
   refine zjcc (sw (x8 [yI s.xO,Sv qM s.qC.length qL,Sv (aa b14 o15) s.qE.length qX] isAgg37 sizeOf37 rfl (qF (H.cells 2 rfl) 0 3) ?_))
   refine sw (x8 [yI ((s.qE[k]!).qR),yI ((s.qE[k]!).jR),Sv ae17Need (((s.qE[k]!).vF).length) ce17Need,Sv ae17Have (((s.qE[k]!).vJ).length) ce17Have,Sv ae17Lack (((s.qE[k]!).vY).length) ce17Lack,Sv ae17Here (((s.qE[k]!).vw).length) ce17Here,Sv ae17Out (((s.qE[k]!).QI).length) ce17Out,Sv ae17Into (((s.qE[k]!).xw).length) ce17Into,Bv ((s.qE[k]!).jV)] isAgg120 sizeOf120 rfl (qF (H.cells 0 rfl) 0 9) ?_)
   refine sw (oq (isRule_ok _ s (s.qE[k]!) (H.get 7 rfl).1 (H.get 8 rfl).1 (H.get 0 rfl).1 (H.get 1 rfl).1 (H.get 2 rfl).1 (H.get 3 rfl).1 (H.get 4 rfl).1 (H.get 5 rfl).1 qg) H fun w22 H=>?_)
   have q:=fun h:RuleOk s (s.qE[k]!)=>(show 0<=(s.qE[k]!).qR/\(s.qE[k]!).qR<=5 from ⟨h.1.1,by have:=h.1.2;omega⟩)
   refine sq 1 (zjn (cQ rfl (fun h24=>?_) (fun h24=>?_)))
   ·refine zcr (sp (Bv false) (zjr (t_r (zr5 (rH1 (Bv false) H ?_)))))
    rw [xh (fun h=>by obtain ⟨h1,h2,h3⟩:=h;first | contradiction | omega | (obtain ⟨r1,r2⟩:=h3 k qf;first | contradiction | (have:=XY (s:=s) (k:=k+1) q1 q2;omega)))]
   obtain ⟨q1,q2⟩:=q ‹_›
   have q3:=XY (s:=s) (k:=k) q1 q2
   have q4:=ofCell_bd s.qE (s.qE[k]!).qR k
   refine qU (t_n (zcr (oF rfl (oL rfl (H.cell 0 rfl rfl) (sw (o_idxArr ((s.qE[k]!).qR) underlying197 ti3 rfl rfl qf qf (oL rfl (H.cell 1 rfl (ints_at (iv:=(s.qE[k]!).qR) (i:=(((s.qE[k]!).qR).toNat)) qf (by simp only [List.length_set,List.length_cons,List.length_nil,counts6_len];omega))) (sw (zi ((counts6 s k)[((s.qE[k]!).qR).toNat]!) 1 rfl rfl qf (sw (o_idxArr ((s.qE[k]!).qR) underlying197 ti3 rfl rfl qf qf ?_)))))))))))
   refine sw (o_storeArr H 1 rfl (((counts6 s k)[((s.qE[k]!).qR).toNat]!)+1) sizeOf3 rfl rfl (i:=(((s.qE[k]!).qR).toNat)) qf (by simp only [List.length_set,List.length_cons,List.length_nil,counts6_len];omega) fun w25 H=>?_)
   rw [counts6_succ q1 q2] at H
   refine zjc (oF rfl (oL rfl (H.cell 0 rfl rfl) (sw (o_idxArr ((s.qE[k]!).qR) underlying197 ti3 rfl rfl qf qf (oL rfl (H.cell 1 rfl (ints_at (iv:=(s.qE[k]!).qR) (i:=(((s.qE[k]!).qR).toNat)) qf (by simp only [List.length_set,List.length_cons,List.length_nil,counts6_len];omega))) (sp (Bv (decide (((counts6 s (k+1))[((s.qE[k]!).qR).toNat]! :Int) > 8))) (zjn (cD rfl (fun h26=>?_) (fun h26=>?_)))))))))
   ·refine zcr (sp (Bv false) (zjr (zr5 (rH1 (Bv false) H ?_))))
    rw [xh (fun h=>by obtain ⟨h1,h2,h3⟩:=h;first | contradiction | omega | (obtain ⟨r1,r2⟩:=h3 k qf;first | contradiction | (have:=XY (s:=s) (k:=k+1) q1 q2;omega)))]
   refine qU (b_n (t_n (xK (sw (zi k 1 rfl rfl qf (sq 1 (xP (qW (m' :=(s.qE.length - ((k+1):Int)).toNat) qf ⟨_,k+1,_,uE5,?_,?_,?_,rfl,N,H.pick [1,2] [7,8]⟩))))))))
   ·rfl
   ·omega
   ·exact i1.succ ‹_› (by have:=XY (s:=s) (k:=k+1) q1 q2;omega)
  refine zx4 (zcr (sp (Bv true) (zjr (rH1 (Bv true) H ?_))))
  rw [jS ⟨by assumption,by omega,(show s.qE.length=k by omega)▸i1⟩]
 replace h6:=xm h6
 replace h6:=zX h6
 refine xR (zR 10 4) (sp (Bv true) (zjn (cTr rfl (zcr (sp (Bv false) (zjr (t_r (rH1 (Bv false) H ?_))))))))
 rw [xh (fun h=>by obtain ⟨h1,h2,h3⟩:=h;first | contradiction | omega | (obtain ⟨r1,r2⟩:=h3 k qf;first | contradiction | (have:=XY (s:=s) (k:=k+1) q1 q2;omega)))]
theorem validState_ok (w:World) (s:qG) (t:qH) (xf:zP w xF qM qL s.qC) (xE:zP w zu xg qX s.qE) (zk:zP w zQ xq xn t.qI) (zO:zP w vK xX xM t.qP) (xJ:zP w zo xe qZ t.qN):Calls Tryz.prog 77 #[.agg #[yI s.xO,Sv qM s.qC.length qL,Sv xg s.qE.length qX],.agg #[Sv xq t.qI.length xn,Sv xX t.qP.length xM,Sv xe t.qN.length qZ]] w (Ret (fun v w' =>v=Bv (dec (yj s/\zV s t))) w):=by
 refine en func77 ntmps77 ?_
 have H:=(((((St.start w).arg xJ).arg zO).arg zk).arg xE).arg xf
 have vH:=qO xf
 have jD:=qO xE
 have yL:=qO zk
 have Qv:=qO zO
 have jQ:=qO xJ
 clear xf xE zk zO xJ
 have N:=Fresh.nil w.heap.size
 refine zcr (sw (zY H (yS s qM qL xg qX) fun b1 w2 H=>sw (zY H (yT t xq xn xX xM xe qZ) fun b3 w4 H=>sp (Bv false) (zjcc (sw (x8 (yS s qM qL xg qX) isAgg37 sizeOf37 rfl (qF (H.cells 1 rfl) 0 3) (sw (oq (validSystem_ok _ s (H.get 0 rfl).1 (H.get 1 rfl).1) H fun w6 H=>sp (Bv (!(dec (yj s)))) (sp (Bv (!(dec (yj s)))) ?_)))))))))
 cases h8:(!(dec (yj s)))
 ·replace h8:=qY h8
  replace h8:=yU h8
  have z1:=(‹yj s›:yj s).1.2.1
  refine qJ 10 rfl rfl (oF rfl (qJ 10 rfl rfl (oL rfl (H.cell 0 rfl rfl) (qJ 10 rfl rfl (oN rfl (qJ 10 rfl rfl (oF rfl (qJ 10 rfl rfl (oL rfl (H.cell 1 rfl rfl) (qJ 10 rfl rfl (oN rfl (qJ 10 rfl rfl (sp (Bv ((t.qI.length:Int) != s.qC.length)) (sp (Bv ((t.qI.length:Int) != s.qC.length)) (sp (Bv ((t.qI.length:Int) != s.qC.length)) ?_)))))))))))))))
  cases h9:((t.qI.length:Int) != s.qC.length)
  ·replace h9:=xu h9
   refine qJ 19 rfl rfl (oF rfl (qJ 19 rfl rfl (oL rfl (H.cell 0 rfl rfl) (qJ 19 rfl rfl (oN rfl (qJ 19 rfl rfl (oF rfl (qJ 19 rfl rfl (oL rfl (H.cell 1 rfl rfl) (qJ 19 rfl rfl (oN rfl (qJ 19 rfl rfl (sp (Bv ((t.qP.length:Int) != s.qC.length)) (sp (Bv ((t.qP.length:Int) != s.qC.length)) (sp (Bv ((t.qP.length:Int) != s.qC.length)) ?_)))))))))))))))
   cases h10:((t.qP.length:Int) != s.qC.length)
   ·replace h10:=xu h10
    refine qJ 28 rfl rfl (oF rfl (qJ 28 rfl rfl (oL rfl (H.cell 0 rfl rfl) (qJ 28 rfl rfl ?_))))
    obtain ⟨b11,o12,rfl⟩:=H.addr 2 rfl qf
    refine oI rfl rfl (qJ 28 rfl rfl (oL rfl (H.elemBoolN 2 rfl 0 qf) (qJ 28 rfl rfl (sp (Bv (!(t.qI[0]!))) (sp (Bv (!(t.qI[0]!))) (sp (Bv (!(t.qI[0]!))) ?_))))))
    cases h14:(!(t.qI[0]!))
    ·replace h14:=qY h14
     refine qJ 35 rfl rfl (oF rfl (qJ 35 rfl rfl (oL rfl (H.cell 1 rfl rfl) (qJ 35 rfl rfl (oF rfl (qJ 35 rfl rfl (oL rfl (H.cell 0 rfl rfl) (qJ 35 rfl rfl (sw (oq (XR _ s.xO t.qN (H.get 4 rfl).1) H fun w15 H=>qJ 35 rfl rfl (sq 2 (zjn (cQ rfl (fun h17=>?_) (fun h17=>?_))))))))))))))
     ·refine zcr (sp (Bv false) (zjr (t_r (rH1 (Bv false) H ?_))))
      rw [xh (fun h=>by obtain ⟨h0,h1,h2,h3,h4,h5⟩:=h;first | contradiction | omega | (simp_all;done) | (obtain ⟨q1,q2⟩:=h5 c qf;first | contradiction | (have:=q2 ql;omega)))]
     refine qU (t_n (zcc (oF rfl (oL rfl (H.cell 0 rfl rfl) (oN rfl (sp (yI 0) (zjn (qV ?_))))))))
     refine zA ((fun Z0 Z1 Z2 Z3 Z4 Z5 Z6=>fun m' ρ w18=>∃ (xQ:Env) (c:Nat),ρ=upd (upd (upd (upd (upd xQ 2 (pp b1 0)) 3 (pp b3 0)) 44 (Sv xX t.qP.length xM)) 45 (yI t.qP.length)) 46 (yI c)/\((c:Int)<=t.qP.length)/\(BagsTo s t c)/\m' =(t.qP.length - (c:Int)).toNat/\Fresh w.heap.size []/\St w w18 [Z0,Z1] [Z2,Z3,Z4,Z5,Z6]) _ _ _ _ _ _ _) ((t.qP.length - (0:Int)).toNat) ⟨_,0,uE5,qf,qx,rfl,N,H⟩ ?_
     clear H N
     rintro m' ρ w19 ⟨xQ,c,rfl,i0,i1,rfl,N,H⟩
     refine zcr (sq 1 (zjn (xU (cD rfl (fun h20=>?_) (fun h20=>?_)))))
     ·refine qU (t_n (xU (qV (zcr (sp (yI c) ?_)))))
      obtain ⟨b21,o22,rfl⟩:=H.addr 3 rfl qf
      obtain ⟨ae24,ce24,Fe24,H⟩:=H.ji 3 rfl c c qf qf qf
      refine oI rfl rfl (oL rfl (H.xW 1 rfl 0 rfl) (sp (yI c) (sq 1 (zjc (oF rfl (oL rfl (H.cell 1 rfl rfl) (sq 1 (sw (oq (XR _ s.xO (t.qP[c]!) (H.get 0 rfl).1) H fun w25 H=>sp (Bv (!(dec (vk s.xO (t.qP[c]!))))) (sp (Bv (!(dec (vk s.xO (t.qP[c]!))))) ?_))))))))))
      cases h27:(!(dec (vk s.xO (t.qP[c]!))))
      ·replace h27:=qY h27
       replace h27:=yU h27
       refine qJ 56 rfl rfl (oF rfl (qJ 56 rfl rfl (oL rfl (H.cell 0 rfl rfl) (qJ 56 rfl rfl (sp (yI c) (qJ 56 rfl rfl (oI rfl rfl (qJ 56 rfl rfl (oL rfl (H.elemBoolN 4 rfl c qf) (qJ 56 rfl rfl (sp (Bv (!(t.qI[c]!))) (qJ 56 rfl rfl (sp (Bv (!(t.qI[c]!))) ?_)))))))))))))
       cases h28:(!(t.qI[c]!))
       ·replace h28:=qY h28
        refine xR [64,65,66] (qJ 56 rfl rfl (sp (Bv false) (sp (Bv false) (zjn (cFr rfl (qU (b_n (t_n (xK (sw (zi c 1 rfl rfl qf (sq 1 (xP (qW (m' :=(t.qP.length - ((c+1):Int)).toNat) qf ⟨_,c+1,uE5,?_,?_,rfl,N,H.pick [0,1] (zR 2 5)⟩))))))))))))))
        ·omega
        ·exact i1.succ ‹_› (fun hk=>by first | omega | simp_all)
       replace h28:=xm h28
       refine qJ 63 rfl rfl (sq 1 (qJ 63 rfl rfl (sw (oq (XC _ (t.qP[c]!) (H.get 0 rfl).1 (by first | assumption | exact vP ql | exact yX ql)) H fun w29 H=>qJ 63 rfl rfl (sp (Bv (decide ((Xh (t.qP[c]!):Int) > 0))) (qJ 56 rfl rfl (sp (Bv (decide ((Xh (t.qP[c]!):Int) > 0))) (sp (Bv (decide ((Xh (t.qP[c]!):Int) > 0))) (zjn (cD rfl (fun h31=>?_) (fun h31=>?_)))))))))))
       ·refine zcr (sp (Bv false) (zjr (zr5 (rH1 (Bv false) H ?_))))
        rw [xh (fun h=>by obtain ⟨h0,h1,h2,h3,h4,h5⟩:=h;first | contradiction | omega | (simp_all;done) | (obtain ⟨q1,q2⟩:=h5 c qf;first | contradiction | (have:=q2 ql;omega)))]
       refine qU (b_n (t_n (xK (sw (zi c 1 rfl rfl qf (sq 1 (xP (qW (m' :=(t.qP.length - ((c+1):Int)).toNat) qf ⟨_,c+1,uE5,?_,?_,rfl,N,H.pick [0,1] (zR 2 5)⟩))))))))
       ·omega
       ·exact i1.succ ‹_› (fun hk=>by first | omega | simp_all)
      replace h27:=xm h27
      replace h27:=zX h27
      refine xR (zR 57 11) (sp (Bv true) (zjn (cTr rfl (zcr (sp (Bv false) (zjr (zr5 (rH1 (Bv false) H ?_))))))))
      rw [xh (fun h=>by obtain ⟨h0,h1,h2,h3,h4,h5⟩:=h;first | contradiction | omega | (simp_all;done) | (obtain ⟨q1,q2⟩:=h5 c qf;first | contradiction | (have:=q2 ql;omega)))]
     refine zx4 (zcr (sp (Bv true) (zjr (rH1 (Bv true) H ?_))))
     rw [jS ⟨by assumption,by omega,by omega,by first | assumption | simp_all,by assumption,(show t.qP.length=c by omega)▸i1⟩]
    replace h14:=xm h14
    refine xR (zR 36 6) (sp (Bv true) (zjn (cTr rfl (zcr (sp (Bv false) (zjr (t_r (rH1 (Bv false) H ?_))))))))
    rw [xh (fun h=>by obtain ⟨h0,h1,h2,h3,h4,h5⟩:=h;first | contradiction | omega | (simp_all;done) | (obtain ⟨q1,q2⟩:=h5 c qf;first | contradiction | (have:=q2 ql;omega)))]
   replace h10:=bne_iff_ne.1 h10
   refine xR (zR 29 5) (sp (Bv true) (sp (Bv true) (xR (zR 36 6) (sp (Bv true) (zjn (cTr rfl (zcr (sp (Bv false) (zjr (t_r (rH1 (Bv false) H ?_)))))))))))
   rw [xh (fun h=>by obtain ⟨h0,h1,h2,h3,h4,h5⟩:=h;first | contradiction | omega | (simp_all;done) | (obtain ⟨q1,q2⟩:=h5 c qf;first | contradiction | (have:=q2 ql;omega)))]
  replace h9:=bne_iff_ne.1 h9
  refine xR (zR 20 7) (sp (Bv true) (sp (Bv true) (xR (zR 29 5) (sp (Bv true) (sp (Bv true) (xR (zR 36 6) (sp (Bv true) (zjn (cTr rfl (zcr (sp (Bv false) (zjr (t_r (rH1 (Bv false) H ?_))))))))))))))
  rw [xh (fun h=>by obtain ⟨h0,h1,h2,h3,h4,h5⟩:=h;first | contradiction | omega | (simp_all;done) | (obtain ⟨q1,q2⟩:=h5 c qf;first | contradiction | (have:=q2 ql;omega)))]
 replace h8:=xm h8
 replace h8:=zX h8
 refine xR (zR 11 7) (sp (Bv true) (sp (Bv true) (xR (zR 20 7) (sp (Bv true) (sp (Bv true) (xR (zR 29 5) (sp (Bv true) (sp (Bv true) (xR (zR 36 6) (sp (Bv true) (zjn (cTr rfl (zcr (sp (Bv false) (zjr (t_r (rH1 (Bv false) H ?_)))))))))))))))))
 rw [xh (fun h=>by obtain ⟨h0,h1,h2,h3,h4,h5⟩:=h;first | contradiction | omega | (simp_all;done) | (obtain ⟨q1,q2⟩:=h5 c qf;first | contradiction | (have:=q2 ql;omega)))]
theorem parentNow_ok (w:World) (s:qG) (t:qH) (c:Int) (xf:zP w xF qM qL s.qC) (xE:zP w zu xg qX s.qE) (zk:zP w zQ xq xn t.qI) (zO:zP w vK xX xM t.qP) (xJ:zP w zo xe qZ t.qN) (p0:yD s) (p1:CellIn s c) (p2:t.qI.length=s.qC.length):Calls Tryz.prog 166 #[.agg #[yI s.xO,Sv qM s.qC.length qL,Sv xg s.qE.length qX],.agg #[Sv xq t.qI.length xn,Sv xX t.qP.length xM,Sv xe t.qN.length qZ],yI c] w (Ret (fun v w' =>v=yI (xZ s t c)) w):=by
 refine en func166 ntmps166 ?_
 have H:=(((((St.start w).arg xJ).arg zO).arg zk).arg xE).arg xf
 have vH:=qO xf
 have jD:=qO xE
 have yL:=qO zk
 have Qv:=qO zO
 have jQ:=qO xJ
 clear xf xE zk zO xJ
 have N:=Fresh.nil w.heap.size
 have p3:=p0.step p1.1 p1.2
 refine zcr (sw (zY H (yS s qM qL xg qX) fun b1 w2 H=>sw (zY H (yT t xq xn xX xM xe qZ) fun b3 w4 H=>sp (yI 0) (zjc (oF rfl (oL rfl (H.cell 1 rfl rfl) (sp (yI c) ?_)))))))
 obtain ⟨b5,o6,rfl⟩:=H.addr 0 rfl qf
 refine oI rfl rfl (oL rfl (H.XX 0 rfl c qf qf) (sq 1 (zjn (xU (qV ?_)))))
 refine zA ((fun Z0 Z1 Z2 Z3 Z4 Z5 Z6=>fun m' ρ w8=>∃ (xQ:Env) (p:Int) (n:Nat),ρ=upd (upd (upd xQ 3 (pp b1 0)) 4 (pp b3 0)) 7 (yI p)/\(-1<=p/\p<=(s.qC.length:Int) - 1)/\(p < n)/\(xZ s t c=climb s.qC t.qI n p)/\m' =(p+1).toNat/\Fresh w.heap.size []/\St w w8 [Z0,Z1] [Z2,Z3,Z4,Z5,Z6]) _ _ _ _ _ _ _) (((s.qC[c.toNat]!)+1).toNat) ⟨_,s.qC[c.toNat]!,s.qC.length,uE3,qf,qf,(by rfl),rfl,N,H⟩ ?_
 clear H N
 rintro m' ρ w9 ⟨xQ,p,n,rfl,i0,i1,i2,rfl,N,H⟩
 have up:=fun h=>p0.step (c:=p) h i0.2
 refine zcc (sp (yI p) (sp (Bv (decide ((p:Int)>=0))) (sp (Bv (decide ((p:Int)>=0))) ?_)))
 cases h10:(decide ((p:Int)>=0))
 ·replace h10:=of_decide_eq_false h10
  refine xR (zR 16 6) (sp (Bv false) (zjn (cFr rfl (zx4 (zcr (sp (yI p) (sp (yI p) (zjr (rH1 (yI p) H ?_)))))))))
  rw [i2,climb_end (by first | omega | simp_all)]
 replace h10:=of_decide_eq_true h10
 refine qJ 15 rfl rfl (oF rfl (qJ 15 rfl rfl (oL rfl (H.cell 0 rfl rfl) (qJ 15 rfl rfl (sp (yI p) (qJ 15 rfl rfl ?_))))))
 obtain ⟨b11,o12,rfl⟩:=H.addr 2 rfl qf
 refine oI rfl rfl (qJ 15 rfl rfl (oL rfl (H.elemBool 2 rfl p qf qf) (qJ 15 rfl rfl (sq 2 (zjn (zT _ rfl (fun h14=>?_) (fun h14=>?_)))))))
 ·replace h14:=xm h14
  refine qU (t_n (qV (xK (oF rfl (oL rfl (H.cell 1 rfl rfl) (sp (yI p) (oI rfl rfl (oL rfl (H.XX 0 rfl p qf qf) (sq 1 (xP (b_n ?_)))))))))))
  have up1:=up qf
  refine qW (m' :=((s.qC[p.toNat]!)+1).toNat) qf ⟨_,_,n - 1,uE3,?_,?_,?_,rfl,N,H⟩
  ·omega
  ·omega
  ·exact i2.trans (climb_go qf qf ‹_›)
 replace h14:=qY h14
 refine zx4 (zcr (sp (yI p) (sp (yI p) (zjr (rH1 (yI p) H ?_)))))
 rw [i2,climb_end (by first | omega | simp_all)]
theorem XL (w:World) (t:qH) (zk:zP w zQ xq xn t.qI) (zO:zP w vK xX xM t.qP) (xJ:zP w zo xe qZ t.qN) (p0:t.qI.length<=1000000) (p1:t.qN.length<=1000000) (p2:t.qP.length<=1000000) (p3:∀ j,j < t.qP.length->(t.qP[j]!).length<=1000000):Calls Tryz.prog 79 #[.agg #[Sv xq t.qI.length xn,Sv xX t.qP.length xM,Sv xe t.qN.length qZ]] w (Ret (fun v w' =>∃ (raAlive:yOA) (rnAlive:Nat) (rcAlive:Nat) (raBags:yOA) (rnBags:Nat) (rcBags:Nat) (rxBags:List Value) (rFBags:yLN) (raAround:yOA) (rnAround:Nat) (rcAround:Nat),v=.agg #[Sv raAlive rnAlive rcAlive,Sv raBags rnBags rcBags,Sv raAround rnAround rcAround]/\Fresh w.heap.size [rFBags]/\St w w' [rr raAlive rnAlive rcAlive 4 1 (t.qI.map (Value.bool)),rr raBags rnBags rcBags 27 1 rxBags,rr raAround rnAround rcAround 2 1 (t.qN.map (Value.int .i64))] [xN true rFBags rxBags t.qP]) w):=by
 refine en func79 ntmps79 ?_
 have H:=(((St.start w).arg xJ).arg zO).arg zk
 have yL:=qO zk
 have Qv:=qO zO
 have jQ:=qO xJ
 clear zk zO xJ
 have N:=Fresh.nil w.heap.size
 refine zcr (sw (zY H (yT t xq xn xX xM xe qZ) fun b1 w2 H=>sw (xH H ti43 [yN,yN,yN] fun b3 w4 H=>zjn (xU ?_))))
 refine c_cut (fun ρ w10=>∃ (xQ:Env) (b5:Nat) (ra6:yOA) (rc7:Nat) (a8:yOA) (c9:Nat),ρ=upd (upd (upd xQ 1 (pp b1 0)) 2 (pp b3 0)) 3 (pp b5 0)/\Fresh w.heap.size []/\St w w10 [.box b5 [Sv ra6 t.qI.length rc7,yN,Sv a8 t.qN.length c9] 43,rr a8 t.qN.length c9 2 1 (t.qN.map (Value.int .i64)),rr ra6 t.qI.length rc7 4 1 (t.qI.map (Value.bool)),.box b3 [yN,yN,yN] 43,.box b1 (yT t xq xn xX xM xe qZ) 43] [sF false zQ xq xn t.qI,sF false vK xX xM t.qP,sF false zo xe qZ t.qN]) ?_ ?_
 ·refine jw rfl H fun H=>tF 0 rfl rfl H ?_
  refine tL 1 rfl rfl (fun _ h=>h.cell 1 rfl rfl) H ?_
  refine tF 3 rfl rfl H ?_
  refine tL 4 rfl rfl (fun _ h=>h.cell 1 rfl rfl) H ?_
  refine jb [2,7] qh qm (jM rfl ?_ (jM rfl ?_ jd))
  ·have sz15:=H.base.size
   refine oc (cloneB_ok _ t.qI (H.get 0 rfl).1 qg) ?_
   rintro _ w13 ⟨ra12,rn12,rc12,rfl,M,K⟩ _
   replace H:=H.merge K M
   obtain rfl:=H.rowNB 0 rfl
   refine ⟨H.pick [1,2] [0,1,2],(jb [5,7] qh qm (jM rfl ?_ (jM rfl ?_ jd)))⟩
   ·have sz18:=H.base.size
    refine oc (cloneI_ok _ t.qN (H.get 2 rfl).1 qg) ?_
    rintro v23 w21 r23 x22
    replace H:=H.zt x22 r23
    obtain ⟨a24,c25,rfl,hc26,hm27⟩:=H.jm 0 rfl
    refine ⟨H.pick [2,3] [0,1,2],(jb [6,7] qh qm (jM rfl ?_ (jM rfl ?_ jd)))⟩
    ·refine vG [Sv ra12 t.qI.length rc12,yN,Sv a24 t.qN.length c25] [(0,Sv ra12 t.qI.length rc12),(2,Sv a24 t.qN.length c25)] (⟨H.pick [2,3] [0,1,2],(ro 7 rfl (xH H ti43 [yN,yN,yN] fun b28 w29 H=>⟨H.pick [3,4] [0,1,2],(ro 8 rfl (xY H 0 [Sv ra12 t.qI.length rc12,yN,Sv a24 t.qN.length c25] sizeOf43 fun w30 H=>⟨H.pick [3,4] [0,1,2],(xA qh ((meet ⟨_,b28,ra12,rc12,a24,c25,uE3,N,H⟩)))⟩))⟩))⟩)
    refine xH H ti43 [yN,yN,yN] fun b31 w32 H=>⟨H.pick [3,4] [0,1,2],(ro 6 rfl (vG [Sv ra12 t.qI.length rc12,yN,Sv a24 t.qN.length c25] [(0,Sv ra12 t.qI.length rc12),(2,Sv a24 t.qN.length c25)] (⟨H.pick [3,4] [0,1,2],(ro 8 rfl (xY H 0 [Sv ra12 t.qI.length rc12,yN,Sv a24 t.qN.length c25] sizeOf43 fun w33 H=>⟨H.pick [3,4] [0,1,2],(xA qh ((meet ⟨_,b31,ra12,rc12,a24,c25,uE3,N,H⟩)))⟩))⟩)))⟩
   refine xH H ti43 [yN,yN,yN] fun b34 w35 H=>⟨H.pick [2,3] [0,1,2],(ro 5 rfl ?_)⟩
   have sz36:=H.base.size
   refine oc (cloneI_ok _ t.qN (H.get 2 rfl).1 qg) ?_
   rintro v41 w39 r41 x40
   replace H:=H.zt x40 r41
   obtain ⟨a42,c43,rfl,hc44,hm45⟩:=H.jm 0 rfl
   refine ⟨H.pick [3,4] [0,1,2],(ro 6 rfl (vG [Sv ra12 t.qI.length rc12,yN,Sv a42 t.qN.length c43] [(0,Sv ra12 t.qI.length rc12),(2,Sv a42 t.qN.length c43)] (⟨H.pick [3,4] [0,1,2],(ro 8 rfl (xY H 1 [Sv ra12 t.qI.length rc12,yN,Sv a42 t.qN.length c43] sizeOf43 fun w46 H=>⟨H.pick [3,4] [0,1,2],(xA qh ((meet ⟨_,b34,ra12,rc12,a42,c43,uE3,N,H.pick [1,0,2,3,4] [0,1,2]⟩)))⟩))⟩)))⟩
  refine xH H ti43 [yN,yN,yN] fun b47 w48 H=>⟨H.pick [1,2] [0,1,2],(ro 2 rfl ?_)⟩
  have sz52:=H.base.size
  refine oc (cloneB_ok _ t.qI (H.get 0 rfl).1 qg) ?_
  rintro _ w50 ⟨ra49,rn49,rc49,rfl,M,K⟩ _
  replace H:=H.merge K M
  obtain rfl:=H.rowNB 0 rfl
  refine ⟨H.pick [2,3] [0,1,2],(ro 5 rfl ?_)⟩
  have sz55:=H.base.size
  refine oc (cloneI_ok _ t.qN (H.get 2 rfl).1 qg) ?_
  rintro v60 w58 r60 x59
  replace H:=H.zt x59 r60
  obtain ⟨a61,c62,rfl,hc63,hm64⟩:=H.jm 0 rfl
  refine ⟨H.pick [3,4] [0,1,2],(ro 6 rfl (vG [Sv ra49 t.qI.length rc49,yN,Sv a61 t.qN.length c62] [(0,Sv ra49 t.qI.length rc49),(2,Sv a61 t.qN.length c62)] (⟨H.pick [3,4] [0,1,2],(ro 8 rfl (xY H 2 [Sv ra49 t.qI.length rc49,yN,Sv a61 t.qN.length c62] sizeOf43 fun w65 H=>⟨H.pick [3,4] [0,1,2],(xA qh ((meet ⟨_,b47,ra49,rc49,a61,c62,uE3,N,H.pick [2,0,1,3,4] [0,1,2]⟩)))⟩))⟩)))⟩
 clear H N
 rintro ρ w66 ⟨xQ,b5,ra6,rc7,a8,c9,rfl,N,H⟩
 refine t_n (zcc (oF rfl (oL rfl (H.cell 4 rfl rfl) (oN rfl (sp (yI 0) (zjn (qV ?_)))))))
 replace H:=H.nilRow 27 1
 replace H:=H.vV (α:=yLI)
 refine zA ((fun Z0 Z1 Z2 Z3 Z4 Z5 Z6=>fun m' ρ w67=>∃ (xQ:Env) (k:Nat) (jX:yOA) (vN:Nat) (jW:Nat) (out_Bags:yLL) (vM:List Value) (zy:yLN),ρ=upd (upd (upd (upd (upd xQ 2 (pp b3 0)) 3 (pp b5 0)) 14 (Sv xX t.qP.length xM)) 15 (yI t.qP.length)) 16 (yI k)/\out_Bags=t.qP.take k/\((k:Int)<=t.qP.length)/\m' =(t.qP.length - (k:Int)).toNat/\Fresh w.heap.size [zy]/\St w w67 [rr jX vN jW 27 1 vM,.box b5 [Sv ra6 t.qI.length rc7,Sv jX vN jW,Sv a8 t.qN.length c9] 43,Z0,Z1,Z2,Z3] [xN true zy vM out_Bags,Z4,Z5,Z6]) _ _ _ _ _ _ _) ((t.qP.length - (0:Int)).toNat) ⟨_,0,none,0,0,([]:yLL),[],[],uE5,(by rfl),qf,rfl,N.emp,H⟩ ?_
 clear H N
 rintro m' ρ w68 ⟨xQ,k,jX,vN,jW,out_Bags,vM,zy,rfl,rfl,i0,rfl,N,H⟩
 have XV:=H.xB (α:=yLI) 0 rfl 0 rfl qj
 have p4:=p3 k
 rw [List.length_take_of_le qf] at XV
 refine zcr (sq 1 (zjn (xU (cD rfl (fun h69=>?_) (fun h69=>?_)))))
 ·refine qU (t_n (xU (qV (zcr ?_))))
  obtain ⟨b70,o71,rfl⟩:=H.addr 2 rfl qf
  obtain ⟨ae73,ce73,Fe73,H⟩:=H.ji 2 rfl k k qf qf qf
  refine oI rfl rfl (oL rfl (H.xW 1 rfl 0 rfl) (sq 1 (zjn ?_)))
  refine c_cut (fun ρ w79=>∃ (xQ:Env) (a74:yOA) (c75:Nat) (a76:yOA) (c77:Nat) (G78:yLN),ρ=upd (upd (upd (upd (upd xQ 2 (pp b3 0)) 3 (pp b5 0)) 14 (Sv (aa b70 o71) t.qP.length xM)) 15 (yI t.qP.length)) 16 (yI k)/\Fresh w.heap.size [(zy++G78)]/\St w w79 [rr a74 (vN+1) c75 27 1 (vM++[Sv a76 ((t.qP[k]!).length) c77]),.box b5 [Sv ra6 t.qI.length rc7,Sv a74 (vN+1) c75,Sv a8 t.qN.length c9] 43,rr a8 t.qN.length c9 2 1 (t.qN.map (Value.int .i64)),rr ra6 t.qI.length rc7 4 1 (t.qI.map (Value.bool)),.box b3 [yN,yN,yN] 43,.box b1 [Sv xq t.qI.length xn,Sv (aa b70 o71) t.qP.length xM,Sv xe t.qN.length qZ] 43] [xN true (zy++G78) (vM++[Sv a76 ((t.qP[k]!).length) c77]) ((t.qP.take k)++[(t.qP[k]!)]),sF true G78 a76 c77 (t.qP[k]!),sF false Fe73 ae73 ce73 (t.qP[k]!),atF b70 (o71+(k:Int).toNat * 1) [Sv ae73 ((t.qP[k]!).length) ce73],sF false zQ xq xn t.qI,sF false vK (aa b70 o71) xM t.qP,sF false zo xe qZ t.qN]) ?_ ?_
  ·refine Qb rfl H (zR 2 4) fun H=>?_
   have S:=H.jr (zR 2 4) (zR 0 6)
   refine tF 0 rfl rfl S ?_
   refine rtl 2 S ?_
   refine jb [1,3] qh qm (jM rfl ?_ (jM rfl ?_ jd))
   ·refine zK (Sv jX vN jW) isAgg41 rfl (H.cell 1 rfl rfl) (⟨H.pick (zR 2 4) (zR 0 6),(ro 3 rfl ?_)⟩)
    have sz81:=H.base.size
    have lt82:=H.ltN (L:=[zy]) [2]
    refine oc (cloneI_ok _ (t.qP[k]!) (H.get 0 rfl).1 qg) ?_
    rintro v86 w84 r86 x85
    replace H:=H.zt x85 r86
    obtain ⟨a87,c88,rfl,hc89,hm90⟩:=H.jm 0 rfl
    refine ⟨H.pick (zR 3 4) (zR 0 6),(ro 4 rfl (xx H underlying41 ti27 [Sv a87 ((t.qP[k]!).length) c88] fun b91 w92 H=>⟨H.pick (zR 4 4) (zR 0 6),(ro 5 rfl ?_)⟩))⟩
    obtain ⟨G96,N,hn97,H⟩:=H.zh 1 rfl N (H.vz [2])
    refine zG H 2 rfl 0 rfl underlying41 ti27 rfl qj rfl rfl rfl qw qp qf fun a93 c94 w95 H=>?_
    replace H:=H.yC 3 rfl 0 rfl
    replace N:Fresh w.heap.size [(zy++G96)]:=(N.pick [1,0]).join
    refine ⟨H.pick (zR 4 4) (zR 2 6),(tF 6 rfl rfl (H.pick (zR 4 4) (zR 2 6)) ?_)⟩
    refine ro 7 rfl (zI H 3 [Sv ra6 t.qI.length rc7,Sv a93 (vN+1) c94,Sv a8 t.qN.length c9] sizeOf41 fun w98 H=>⟨H.pick (zR 4 4) (zR 2 6),(xA qh ((meet ⟨_,a93,c94,a87,c88,G96,uE5,N,H.pick (zR 2 6) [0,1,2,3,5,6,7]⟩)))⟩)
   have sz99:=H.base.size
   have lt100:=H.ltN (L:=[zy]) [2]
   refine oc (cloneI_ok _ (t.qP[k]!) (H.get 0 rfl).1 qg) ?_
   rintro v104 w102 r104 x103
   replace H:=H.zt x103 r104
   obtain ⟨a105,c106,rfl,hc107,hm108⟩:=H.jm 0 rfl
   refine ⟨H.pick (zR 3 4) (zR 0 6),(jb [1,4] qh qm (jM rfl ?_ (jM rfl ?_ jd)))⟩
   ·refine zK (Sv jX vN jW) isAgg41 rfl (H.cell 2 rfl rfl) (⟨H.pick (zR 3 4) (zR 0 6),(ro 4 rfl (xx H underlying41 ti27 [Sv a105 ((t.qP[k]!).length) c106] fun b109 w110 H=>⟨H.pick (zR 4 4) (zR 0 6),(ro 5 rfl ?_)⟩))⟩)
    obtain ⟨G114,N,hn115,H⟩:=H.zh 1 rfl N (H.vz [2])
    refine zG H 2 rfl 0 rfl underlying41 ti27 rfl qj rfl rfl rfl qw qp qf fun a111 c112 w113 H=>?_
    replace H:=H.yC 3 rfl 0 rfl
    replace N:Fresh w.heap.size [(zy++G114)]:=(N.pick [1,0]).join
    refine ⟨H.pick (zR 4 4) (zR 2 6),(tF 6 rfl rfl (H.pick (zR 4 4) (zR 2 6)) ?_)⟩
    refine ro 7 rfl (zI H 3 [Sv ra6 t.qI.length rc7,Sv a111 (vN+1) c112,Sv a8 t.qN.length c9] sizeOf41 fun w116 H=>⟨H.pick (zR 4 4) (zR 2 6),(xA qh ((meet ⟨_,a111,c112,a105,c106,G114,uE5,N,H.pick (zR 2 6) [0,1,2,3,5,6,7]⟩)))⟩)
   refine xx H underlying41 ti27 [Sv a105 ((t.qP[k]!).length) c106] fun b117 w118 H=>⟨H.pick (zR 4 4) (zR 0 6),(ro 1 rfl (zK (Sv jX vN jW) isAgg41 rfl (H.cell 3 rfl rfl) (⟨H.pick (zR 4 4) (zR 0 6),(ro 5 rfl ?_)⟩)))⟩
   obtain ⟨G122,N,hn123,H⟩:=H.zh 1 rfl N (H.vz [2])
   refine zG H 2 rfl 0 rfl underlying41 ti27 rfl qj rfl rfl rfl qw qp qf fun a119 c120 w121 H=>?_
   replace H:=H.yC 3 rfl 0 rfl
   replace N:Fresh w.heap.size [(zy++G122)]:=(N.pick [1,0]).join
   refine ⟨H.pick (zR 4 4) (zR 2 6),(tF 6 rfl rfl (H.pick (zR 4 4) (zR 2 6)) ?_)⟩
   refine ro 7 rfl (zI H 3 [Sv ra6 t.qI.length rc7,Sv a119 (vN+1) c120,Sv a8 t.qN.length c9] sizeOf41 fun w124 H=>⟨H.pick (zR 4 4) (zR 2 6),(xA qh ((meet ⟨_,a119,c120,a105,c106,G122,uE5,N,H.pick (zR 2 6) [0,1,2,3,5,6,7]⟩)))⟩)
  clear H N
  rintro ρ w125 ⟨xQ,a74,c75,a76,c77,G78,rfl,N,H⟩
  refine b_n (t_n (xK (sw (zi k 1 rfl rfl qf (sq 1 (xP (qW (m' :=(t.qP.length - ((k+1):Int)).toNat) qf ⟨_,k+1,_,_,_,_,_,_,uE5,?_,?_,rfl,N,H.pick (zR 0 6) [0,4,5,6]⟩)))))))
  ·exact take_snoc qf
  ·omega
 refine zx4 (zcr (sw (x8 [Sv ra6 t.qI.length rc7,Sv jX vN jW,Sv a8 t.qN.length c9] isAgg43 sizeOf43 rfl (qF (H.cells 1 rfl) 0 3) (sw (xY H 4 [Sv ra6 t.qI.length rc7,Sv jX vN jW,Sv a8 t.qN.length c9] sizeOf43 fun w126 H=>zjr (retC H 4 rfl rfl isAgg43 sizeOf43 rfl ⟨_,rfl,?_,H.base⟩))))))
 obtain rfl:k=t.qP.length:=by omega
 rw [List.take_length] at H
 exact ⟨ra6,t.qI.length,rc7,jX,vN,jW,vM,zy,a8,t.qN.length,c9,rfl,N,H.pick [3,0,2] [0]⟩
theorem isEnabled_ok (w:World) (s:qG) (t:qH) (r:zZ) (xf:zP w xF qM qL s.qC) (xE:zP w zu xg qX s.qE) (zk:zP w zQ xq xn t.qI) (zO:zP w vK xX xM t.qP) (xJ:zP w zo xe qZ t.qN) (hrNeed:zP w FrNeed arNeed crNeed r.vF) (hrHave:zP w FrHave arHave crHave r.vJ) (hrLack:zP w FrLack arLack crLack r.vY) (hrHere:zP w FrHere arHere crHere r.vw) (hrOut:zP w FrOut arOut crOut r.QI) (hrInto:zP w FrInto XN XK r.xw) (p0:yj s) (p1:zV s t) (p2:RuleOk s r):Calls Tryz.prog 131 #[.agg #[yI s.xO,Sv qM s.qC.length qL,Sv xg s.qE.length qX],.agg #[Sv xq t.qI.length xn,Sv xX t.qP.length xM,Sv xe t.qN.length qZ],.agg #[yI r.qR,yI r.jR,Sv arNeed r.vF.length crNeed,Sv arHave r.vJ.length crHave,Sv arLack r.vY.length crLack,Sv arHere r.vw.length crHere,Sv arOut r.QI.length crOut,Sv XN r.xw.length XK,Bv r.jV]] w (Ret (fun v w' =>v=Bv (dec (EnOk s t r))) w):=by
 refine en func131 ntmps131 ?_
 have H:=(((((((((((St.start w).arg hrInto).arg hrOut).arg hrHere).arg hrLack).arg hrHave).arg hrNeed).arg xJ).arg zO).arg zk).arg xE).arg xf
 have vH:=qO xf
 have jD:=qO xE
 have yL:=qO zk
 have Qv:=qO zO
 have jQ:=qO xJ
 have nhrNeed:=qO hrNeed
 have nhrHave:=qO hrHave
 have nhrLack:=qO hrLack
 have nhrHere:=qO hrHere
 have nhrOut:=qO hrOut
 have nhrInto:=qO hrInto
 clear xf xE zk zO xJ hrNeed hrHave hrLack hrHere hrOut hrInto
 have N:=Fresh.nil w.heap.size
 have p3:=p2.1
 have p4:=p1.1
 have p5:=p1.2.1
 have p6:=(p1.bagLen (k:=r.qR.toNat) qf).len
 have p7:=p2.2.2.2.2.1.len
 have p8:=p2.2.2.2.2.2.1.len
 have p9:=p2.2.2.2.2.2.2.1.len
 have p10:=vP p2.2.2.2.2.2.2.1
 have p11:=p0.1
 have p12:=p2.2.2.2.2.2.2.2.2.2.2
 have p13:=kinds_le p0
 refine zcr (sw (zY H (yS s qM qL xg qX) fun b1 w2 H=>sw (zY H (yT t xq xn xX xM xe qZ) fun b3 w4 H=>sw (zY H [yI r.qR,yI r.jR,Sv arNeed r.vF.length crNeed,Sv arHave r.vJ.length crHave,Sv arLack r.vY.length crLack,Sv arHere r.vw.length crHere,Sv arOut r.QI.length crOut,Sv XN r.xw.length XK,Bv r.jV] fun b5 w6 H=>sp (Bv false) (zjcc (oF rfl ?_))))))
 refine oL rfl (H.cell 1 rfl rfl) (oF rfl (oL rfl (H.cell 0 rfl rfl) ?_))
 obtain ⟨b7,o8,rfl⟩:=H.addr 2 rfl qf
 refine oI rfl rfl (oL rfl (H.elemBool 2 rfl r.qR qf qf) (sq 1 (zjn (zT _ rfl (fun h10=>?_) (fun h10=>?_)))))
 ·replace h10:=xm h10
  refine zcr (sp (Bv false) (zjr (t_r (rH1 (Bv false) H ?_))))
  rw [xh (fun h=>by obtain ⟨h1,h2,h3,h4,h5⟩:=h;first | exact ft h1 ‹_› | exact ft h2 ‹_› | exact ft h3 ‹_› | exact h4 ⟨‹_›,‹_›⟩ | (obtain ⟨q1,q2⟩:=h5 i qf;first | exact ft q1 ‹_› | exact absurd q2 ‹_›))]
 replace h10:=qY h10
 refine qU (t_n (zcr (oF rfl (oL rfl (H.cell 1 rfl rfl) (oF rfl (oL rfl (H.cell 0 rfl rfl) ?_))))))
 obtain ⟨b11,o12,rfl⟩:=H.addr 3 rfl qf
 obtain ⟨ae14,ce14,Fe14,H⟩:=H.ji 3 rfl r.qR r.qR.toNat qf qf qf
 refine oI rfl rfl (oL rfl (H.xW 1 rfl 0 rfl) (sq 1 (zjcc (oF rfl (oL rfl (H.cell 0 rfl rfl) (sq 1 (sw (oq (isWithin_ok _ r.vF (t.qP[r.qR.toNat]!) (H.get 7 rfl).1 (H.get 0 rfl).1 qg qg) H fun w15 H=>sp (Bv (!(within r.vF (t.qP[r.qR.toNat]!)))) (sp (Bv (!(within r.vF (t.qP[r.qR.toNat]!)))) ?_)))))))))
 cases h17:(!(within r.vF (t.qP[r.qR.toNat]!)))
 ·replace h17:=qY h17
  refine qJ 26 rfl rfl (oF rfl (qJ 26 rfl rfl (oL rfl (H.cell 0 rfl rfl) (qJ 26 rfl rfl (sq 1 (qJ 26 rfl rfl (sw (oq (isWithin_ok _ r.vJ (t.qP[r.qR.toNat]!) (H.get 8 rfl).1 (H.get 0 rfl).1 qg qg) H fun w18 H=>qJ 26 rfl rfl (sp (Bv (!(within r.vJ (t.qP[r.qR.toNat]!)))) (sp (Bv (!(within r.vJ (t.qP[r.qR.toNat]!)))) (sp (Bv (!(within r.vJ (t.qP[r.qR.toNat]!)))) ?_)))))))))))
  cases h20:(!(within r.vJ (t.qP[r.qR.toNat]!)))
  ·replace h20:=qY h20
   refine qJ 33 rfl rfl (oF rfl (qJ 33 rfl rfl (oL rfl (H.cell 0 rfl rfl) (qJ 33 rfl rfl (sw (oq (XC _ r.vY (H.get 9 rfl).1 (by first | assumption | exact vP ql | exact yX ql)) H fun w21 H=>qJ 33 rfl rfl (sp (Bv (decide ((Xh r.vY:Int) > 0))) (qJ 33 rfl rfl (sp (Bv (decide ((Xh r.vY:Int) > 0))) ?_)))))))))
   cases h23:(decide ((Xh r.vY:Int) > 0))
   ·replace h23:=of_decide_eq_false h23
    refine xR (zR 39 4) (qJ 33 rfl rfl (sp (Bv false) (sp (Bv false) (zjn (cFr rfl (qU (t_n (zcr (oF rfl (oL rfl (H.cell 0 rfl rfl) (sp (.func (.func 165) #[] #[pp b3 0,pp b1 0,pp b5 0]) (sw (zN #[Sv XN r.xw.length XK,.func (.func 165) #[] #[pp b3 0,pp b1 0,pp b5 0]] rfl rfl call164 (en func164 ntmps164 ?_))))))))))))))
    refine zcr (sp (Bv false) (zjc (sq 1 (sp (.func (.func 165) #[] #[pp b3 0,pp b1 0,pp b5 0]) (sw (zN #[Sv XN r.xw.length XK,.func (.func 165) #[] #[pp b3 0,pp b1 0,pp b5 0]] rfl rfl call198 (en func198 ntmps198 ?_)))))))
    refine zcr (sp (yI 0) (zjcc (sq 1 (oN rfl (sp (yI 0) (zjn (qV ?_)))))))
    refine zA ((fun Z0 Z1 Z2 Z3 Z4 Z5 Z6 Z7 Z8 Z9 Z10 Z11 Z12 Z13 Z14 Z15=>fun m' ρ w24=>∃ (xQ:Env) (i:Nat),ρ=upd (upd (upd (upd xQ 0 (Sv XN r.xw.length XK)) 1 (.func (.func 165) #[] #[pp b3 0,pp b1 0,pp b5 0])) 7 (yI r.xw.length)) 8 (yI i)/\((i:Int)<=r.xw.length)/\(IntoUp s t r i)/\m' =(r.xw.length - (i:Int)).toNat/\Fresh w.heap.size []/\St w w24 [Z0,Z1,Z2] [Z3,Z4,Z5,Z6,Z7,Z8,Z9,Z10,Z11,Z12,Z13,Z14,Z15]) _ _ _ _ _ _ _ _ _ _ _ _ _ _ _ _) ((r.xw.length - (0:Int)).toNat) ⟨_,0,uE4,qf,qx,rfl,N,H⟩ ?_
    clear H N
    rintro m' ρ w25 ⟨xQ,i,rfl,i0,i1,rfl,N,H⟩
    refine zcr (sq 1 (zjn (xU (cD rfl (fun h26=>?_) (fun h26=>?_)))))
    ·have q:=(p12 i qf).1
     have q1:=q.1
     have q2:=q.2
     refine qU (t_n (xU (qV (zcr (sp (yI i) (sp (yI i) (zjc (sp (.func (.func 165) #[] #[pp b3 0,pp b1 0,pp b5 0]) (sq 1 (sp (yI i) ?_))))))))))
     obtain ⟨b27,o28,rfl⟩:=H.addr 12 rfl qf
     obtain ⟨ae30Bag,ce30Bag,Fe30Bag,H⟩:=H.yY 12 rfl i i qf qf qf
     refine oI rfl rfl (sw (x8 [yI ((r.xw[i]!).qR),Sv ae30Bag (((r.xw[i]!).QP).length) ce30Bag] isAgg160 sizeOf160 rfl (qF (H.get 1 rfl) 0 2) (sw (zN #[.agg #[yI ((r.xw[i]!).qR),Sv ae30Bag (((r.xw[i]!).QP).length) ce30Bag],pp b3 0,pp b1 0,pp b5 0] rfl rfl call165 (en func165 ntmps165 ?_)))))
     refine zcr (sw (zY H [yI ((r.xw[i]!).qR),Sv ae30Bag (((r.xw[i]!).QP).length) ce30Bag] fun b31 w32 H=>sp (Bv false) (zjn (xU ?_))))
     refine jw rfl H fun H=>tF 0 rfl rfl H ?_
     refine tL 1 rfl rfl (fun _ h=>h.cell 2 rfl rfl) H ?_
     refine tF 2 rfl rfl H ?_
     refine tL 3 rfl rfl (fun _ h=>h.cell 0 rfl rfl) H ?_
     refine tI 4 rfl rfl rfl H ?_
     refine tL 5 rfl rfl (fun _ h=>h.elemBool 6 rfl ((r.xw[i]!).qR) qf qf) H ?_
     refine rtp 6 (Bv (!(t.qI[((r.xw[i]!).qR).toNat]!))) H ?_
     refine rtp 7 (Bv (!(t.qI[((r.xw[i]!).qR).toNat]!))) H ?_
     cases h34:(!(t.qI[((r.xw[i]!).qR).toNat]!))
     ·replace h34:=qY h34
      refine rg 8 _ 13 (yl (cs:=(yS s qM qL xg qX)) isAgg37 sizeOf37 rfl (fun _ h=>qF (h.cells 3 rfl) 0 3)) H ?_
      refine rg 9 _ 13 (yl (cs:=[Sv (aa b7 o8) t.qI.length xn,Sv (aa b11 o12) t.qP.length xM,Sv xe t.qN.length qZ]) isAgg43 sizeOf43 rfl (fun _ h=>qF (h.cells 2 rfl) 0 3)) H ?_
      refine gF 10 rfl rfl H ?_
      refine gL 11 rfl rfl (fun _ h=>h.cell 0 rfl rfl) H ?_
      refine gF 13 rfl rfl H ?_
      refine gL 14 rfl rfl (fun _ h=>h.cell 1 rfl rfl) H ?_
      refine jb [12] qh qm (XI rfl (e:=13) rfl rfl (oq (parentNow_ok _ s t ((r.xw[i]!).qR) (H.get 4 rfl).1 (H.get 5 rfl).1 (H.get 6 rfl).1 (H.get 7 rfl).1 (H.get 8 rfl).1 qg qg qg) H fun w36 H=>⟨H,(rgl 15 13 H ?_)⟩) jd)
      refine rtl 16 H ?_
      refine rtl 17 H ?_
      refine xA qh (t_n (c_ret (ret1 (Bv ((xZ s t ((r.xw[i]!).qR):Int) != r.qR)) rfl rfl ⟨_,rfl,?_⟩)))
      replace H:=H.erases [0]
      dsimp only [zU,List.eraseIdx] at H
      refine zjn (zT _ rfl (fun h38=>?_) (fun h38=>?_))
      ·replace h38:=bne_iff_ne.1 h38
       refine zcr (sp (yI i) (sp (yI i) (zjr (zr5 (ret1 (yI i) rfl rfl ⟨_,rfl,(sw (o_pure (Bv true) (by show some (Value.bool (decide ((i:Int)>=0)))=some (Value.bool true);rw [decide_eq_true qf]) (sp (Bv true) (zjr (ret1 (Bv true) rfl rfl ⟨_,rfl,(sp (Bv false) (sp (Bv false) (zjr (rH1 (Bv false) H ?_))))⟩)))))⟩)))))
       rw [xh (fun h=>by obtain ⟨h1,h2,h3,h4,h5⟩:=h;first | exact ft h1 ‹_› | exact ft h2 ‹_› | exact ft h3 ‹_› | exact h4 ⟨‹_›,‹_›⟩ | (obtain ⟨q1,q2⟩:=h5 i qf;first | exact ft q1 ‹_› | exact absurd q2 ‹_›))]
      replace h38:=xu h38
      refine qU (b_n (t_n (xK (sw (zi i 1 rfl rfl qf (sq 1 (xP (qW (m' :=(r.xw.length - ((i+1):Int)).toNat) qf ⟨_,i+1,uE4,?_,?_,rfl,N,H.pick [0,1,2] (zR 2 13)⟩))))))))
      ·omega
      ·exact i1.succ ‹_› ‹_›
     replace h34:=xm h34
     refine zS (zR 8 8) 8 (H) (rtp 16 (Bv true) H ?_)
     refine rtp 17 (Bv true) H ?_
     refine xA qh (t_n (c_ret (ret1 (Bv true) rfl rfl ⟨_,rfl,?_⟩)))
     replace H:=H.erases [0]
     dsimp only [zU,List.eraseIdx] at H
     refine zjn (cTr rfl (zcr (sp (yI i) (sp (yI i) (zjr (zr5 (ret1 (yI i) rfl rfl ⟨_,rfl,(sw (o_pure (Bv true) (by show some (Value.bool (decide ((i:Int)>=0)))=some (Value.bool true);rw [decide_eq_true qf]) (sp (Bv true) (zjr (ret1 (Bv true) rfl rfl ⟨_,rfl,(sp (Bv false) (sp (Bv false) (zjr (rH1 (Bv false) H ?_))))⟩)))))⟩)))))))
     rw [xh (fun h=>by obtain ⟨h1,h2,h3,h4,h5⟩:=h;first | exact ft h1 ‹_› | exact ft h2 ‹_› | exact ft h3 ‹_› | exact h4 ⟨‹_›,‹_›⟩ | (obtain ⟨q1,q2⟩:=h5 i qf;first | exact ft q1 ‹_› | exact absurd q2 ‹_›))]
    refine zx4 (zcr (sq 1 (zjr (ret1 (yI (-1)) rfl rfl ⟨_,rfl,(sp (Bv false) (sp (Bv false) (zjr (ret1 (Bv false) rfl rfl ⟨_,rfl,(sp (Bv true) (sp (Bv true) (zjr (rH1 (Bv true) H ?_))))⟩))))⟩))))
    rw [jS ⟨by assumption,by assumption,by assumption,fun ⟨u,v⟩=>by first | omega | exact ft v ‹_›,(show i=r.xw.length by omega)▸i1⟩]
   replace h23:=of_decide_eq_true h23
   refine qJ 38 rfl rfl (oF rfl (qJ 38 rfl rfl (oL rfl (H.cell 0 rfl rfl) (qJ 38 rfl rfl (sq 1 (qJ 38 rfl rfl (sw (oq (isWithin_ok _ r.vY (t.qP[r.qR.toNat]!) (H.get 9 rfl).1 (H.get 0 rfl).1 qg qg) H fun w39 H=>qJ 33 rfl rfl (sq 2 (zjn (zT _ rfl (fun h41=>?_) (fun h41=>?_))))))))))))
   ·refine zcr (sp (Bv false) (zjr (t_r (rH1 (Bv false) H ?_))))
    rw [xh (fun h=>by obtain ⟨h1,h2,h3,h4,h5⟩:=h;first | exact ft h1 ‹_› | exact ft h2 ‹_› | exact ft h3 ‹_› | exact h4 ⟨‹_›,‹_›⟩ | (obtain ⟨q1,q2⟩:=h5 i qf;first | exact ft q1 ‹_› | exact absurd q2 ‹_›))]
   refine qU (t_n (zcr (oF rfl (oL rfl (H.cell 0 rfl rfl) (sp (.func (.func 165) #[] #[pp b3 0,pp b1 0,pp b5 0]) (sw (zN #[Sv XN r.xw.length XK,.func (.func 165) #[] #[pp b3 0,pp b1 0,pp b5 0]] rfl rfl call164 (en func164 ntmps164 ?_))))))))
   refine zcr (sp (Bv false) (zjc (sq 1 (sp (.func (.func 165) #[] #[pp b3 0,pp b1 0,pp b5 0]) (sw (zN #[Sv XN r.xw.length XK,.func (.func 165) #[] #[pp b3 0,pp b1 0,pp b5 0]] rfl rfl call198 (en func198 ntmps198 ?_)))))))
   refine zcr (sp (yI 0) (zjcc (sq 1 (oN rfl (sp (yI 0) (zjn (qV ?_)))))))
   refine zA ((fun Z0 Z1 Z2 Z3 Z4 Z5 Z6 Z7 Z8 Z9 Z10 Z11 Z12 Z13 Z14 Z15=>fun m' ρ w42=>∃ (xQ:Env) (i:Nat),ρ=upd (upd (upd (upd xQ 0 (Sv XN r.xw.length XK)) 1 (.func (.func 165) #[] #[pp b3 0,pp b1 0,pp b5 0])) 7 (yI r.xw.length)) 8 (yI i)/\((i:Int)<=r.xw.length)/\(IntoUp s t r i)/\m' =(r.xw.length - (i:Int)).toNat/\Fresh w.heap.size []/\St w w42 [Z0,Z1,Z2] [Z3,Z4,Z5,Z6,Z7,Z8,Z9,Z10,Z11,Z12,Z13,Z14,Z15]) _ _ _ _ _ _ _ _ _ _ _ _ _ _ _ _) ((r.xw.length - (0:Int)).toNat) ⟨_,0,uE4,qf,qx,rfl,N,H⟩ ?_
   clear H N
   rintro m' ρ w43 ⟨xQ,i,rfl,i0,i1,rfl,N,H⟩
   refine zcr (sq 1 (zjn (xU (cD rfl (fun h44=>?_) (fun h44=>?_)))))
   ·have q:=(p12 i qf).1
    have q1:=q.1
    have q2:=q.2
    refine qU (t_n (xU (qV (zcr (sp (yI i) (sp (yI i) (zjc (sp (.func (.func 165) #[] #[pp b3 0,pp b1 0,pp b5 0]) (sq 1 (sp (yI i) ?_))))))))))
    obtain ⟨b45,o46,rfl⟩:=H.addr 12 rfl qf
    obtain ⟨ae48Bag,ce48Bag,Fe48Bag,H⟩:=H.yY 12 rfl i i qf qf qf
    refine oI rfl rfl (sw (x8 [yI ((r.xw[i]!).qR),Sv ae48Bag (((r.xw[i]!).QP).length) ce48Bag] isAgg160 sizeOf160 rfl (qF (H.get 1 rfl) 0 2) (sw (zN #[.agg #[yI ((r.xw[i]!).qR),Sv ae48Bag (((r.xw[i]!).QP).length) ce48Bag],pp b3 0,pp b1 0,pp b5 0] rfl rfl call165 (en func165 ntmps165 ?_)))))
    refine zcr (sw (zY H [yI ((r.xw[i]!).qR),Sv ae48Bag (((r.xw[i]!).QP).length) ce48Bag] fun b49 w50 H=>sp (Bv false) (zjn (xU ?_))))
    refine jw rfl H fun H=>tF 0 rfl rfl H ?_
    refine tL 1 rfl rfl (fun _ h=>h.cell 2 rfl rfl) H ?_
    refine tF 2 rfl rfl H ?_
    refine tL 3 rfl rfl (fun _ h=>h.cell 0 rfl rfl) H ?_
    refine tI 4 rfl rfl rfl H ?_
    refine tL 5 rfl rfl (fun _ h=>h.elemBool 6 rfl ((r.xw[i]!).qR) qf qf) H ?_
    refine rtp 6 (Bv (!(t.qI[((r.xw[i]!).qR).toNat]!))) H ?_
    refine rtp 7 (Bv (!(t.qI[((r.xw[i]!).qR).toNat]!))) H ?_
    cases h52:(!(t.qI[((r.xw[i]!).qR).toNat]!))
    ·replace h52:=qY h52
     refine rg 8 _ 13 (yl (cs:=(yS s qM qL xg qX)) isAgg37 sizeOf37 rfl (fun _ h=>qF (h.cells 3 rfl) 0 3)) H ?_
     refine rg 9 _ 13 (yl (cs:=[Sv (aa b7 o8) t.qI.length xn,Sv (aa b11 o12) t.qP.length xM,Sv xe t.qN.length qZ]) isAgg43 sizeOf43 rfl (fun _ h=>qF (h.cells 2 rfl) 0 3)) H ?_
     refine gF 10 rfl rfl H ?_
     refine gL 11 rfl rfl (fun _ h=>h.cell 0 rfl rfl) H ?_
     refine gF 13 rfl rfl H ?_
     refine gL 14 rfl rfl (fun _ h=>h.cell 1 rfl rfl) H ?_
     refine jb [12] qh qm (XI rfl (e:=13) rfl rfl (oq (parentNow_ok _ s t ((r.xw[i]!).qR) (H.get 4 rfl).1 (H.get 5 rfl).1 (H.get 6 rfl).1 (H.get 7 rfl).1 (H.get 8 rfl).1 qg qg qg) H fun w54 H=>⟨H,(rgl 15 13 H ?_)⟩) jd)
     refine rtl 16 H ?_
     refine rtl 17 H ?_
     refine xA qh (t_n (c_ret (ret1 (Bv ((xZ s t ((r.xw[i]!).qR):Int) != r.qR)) rfl rfl ⟨_,rfl,?_⟩)))
     replace H:=H.erases [0]
     dsimp only [zU,List.eraseIdx] at H
     refine zjn (zT _ rfl (fun h56=>?_) (fun h56=>?_))
     ·replace h56:=bne_iff_ne.1 h56
      refine zcr (sp (yI i) (sp (yI i) (zjr (zr5 (ret1 (yI i) rfl rfl ⟨_,rfl,(sw (o_pure (Bv true) (by show some (Value.bool (decide ((i:Int)>=0)))=some (Value.bool true);rw [decide_eq_true qf]) (sp (Bv true) (zjr (ret1 (Bv true) rfl rfl ⟨_,rfl,(sp (Bv false) (sp (Bv false) (zjr (rH1 (Bv false) H ?_))))⟩)))))⟩)))))
      rw [xh (fun h=>by obtain ⟨h1,h2,h3,h4,h5⟩:=h;first | exact ft h1 ‹_› | exact ft h2 ‹_› | exact ft h3 ‹_› | exact h4 ⟨‹_›,‹_›⟩ | (obtain ⟨q1,q2⟩:=h5 i qf;first | exact ft q1 ‹_› | exact absurd q2 ‹_›))]
     replace h56:=xu h56
     refine qU (b_n (t_n (xK (sw (zi i 1 rfl rfl qf (sq 1 (xP (qW (m' :=(r.xw.length - ((i+1):Int)).toNat) qf ⟨_,i+1,uE4,?_,?_,rfl,N,H.pick [0,1,2] (zR 2 13)⟩))))))))
     ·omega
     ·exact i1.succ ‹_› ‹_›
    replace h52:=xm h52
    refine zS (zR 8 8) 8 (H) (rtp 16 (Bv true) H ?_)
    refine rtp 17 (Bv true) H ?_
    refine xA qh (t_n (c_ret (ret1 (Bv true) rfl rfl ⟨_,rfl,?_⟩)))
    replace H:=H.erases [0]
    dsimp only [zU,List.eraseIdx] at H
    refine zjn (cTr rfl (zcr (sp (yI i) (sp (yI i) (zjr (zr5 (ret1 (yI i) rfl rfl ⟨_,rfl,(sw (o_pure (Bv true) (by show some (Value.bool (decide ((i:Int)>=0)))=some (Value.bool true);rw [decide_eq_true qf]) (sp (Bv true) (zjr (ret1 (Bv true) rfl rfl ⟨_,rfl,(sp (Bv false) (sp (Bv false) (zjr (rH1 (Bv false) H ?_))))⟩)))))⟩)))))))
    rw [xh (fun h=>by obtain ⟨h1,h2,h3,h4,h5⟩:=h;first | exact ft h1 ‹_› | exact ft h2 ‹_› | exact ft h3 ‹_› | exact h4 ⟨‹_›,‹_›⟩ | (obtain ⟨q1,q2⟩:=h5 i qf;first | exact ft q1 ‹_› | exact absurd q2 ‹_›))]
   refine zx4 (zcr (sq 1 (zjr (ret1 (yI (-1)) rfl rfl ⟨_,rfl,(sp (Bv false) (sp (Bv false) (zjr (ret1 (Bv false) rfl rfl ⟨_,rfl,(sp (Bv true) (sp (Bv true) (zjr (rH1 (Bv true) H ?_))))⟩))))⟩))))
   rw [jS ⟨by assumption,by assumption,by assumption,fun ⟨u,v⟩=>by first | omega | exact ft v ‹_›,(show i=r.xw.length by omega)▸i1⟩]
  replace h20:=xm h20
  refine xR (zR 34 10) (sp (Bv true) (zjn (cTr rfl (zcr (sp (Bv false) (zjr (t_r (rH1 (Bv false) H ?_))))))))
  rw [xh (fun h=>by obtain ⟨h1,h2,h3,h4,h5⟩:=h;first | exact ft h1 ‹_› | exact ft h2 ‹_› | exact ft h3 ‹_› | exact h4 ⟨‹_›,‹_›⟩ | (obtain ⟨q1,q2⟩:=h5 i qf;first | exact ft q1 ‹_› | exact absurd q2 ‹_›))]
 replace h17:=xm h17
 refine xR (zR 27 5) (sp (Bv true) (sp (Bv true) (xR (zR 34 10) (sp (Bv true) (zjn (cTr rfl (zcr (sp (Bv false) (zjr (t_r (rH1 (Bv false) H ?_)))))))))))
 rw [xh (fun h=>by obtain ⟨h1,h2,h3,h4,h5⟩:=h;first | exact ft h1 ‹_› | exact ft h2 ‹_› | exact ft h3 ‹_› | exact h4 ⟨‹_›,‹_›⟩ | (obtain ⟨q1,q2⟩:=h5 i qf;first | exact ft q1 ‹_› | exact absurd q2 ‹_›))]
theorem cloneSS_ok (w:World) (l:yLL) (hl:zP w Fl al cl l) (p0:l.length<=1000000):Calls Tryz.prog 132 #[Sv al l.length cl] w (Ret (fun v w' =>∃ (ra:yOA) (rn:Nat) (rc:Nat) (rx:List Value) (rF:yLN),v=Sv ra rn rc/\(∀ b∈rF,b∈Fl)/\St w w' [rr ra rn rc 27 1 rx] [xN false rF rx l]) w):=by
 refine en func132 ntmps132 ?_
 have H:=(St.start w).arg hl
 have nhl:=qO hl
 clear hl
 have N:=Fresh.nil w.heap.size
 refine zcr (sq 1 (zjcc (sq 1 (sw (o_eqnil underlying41 al l.length cl rfl (zjn (zT _ rfl (fun h1=>?_) (fun h1=>?_))))))))
 ·refine zcr (sq 1 (zjr (t_r ?_)))
  replace H:=H.nilRow 27 1
  replace H:=H.vV (α:=yLI)
  refine rH1 yN H ?_
  obtain rfl:=H.nilOf 1 rfl ‹_›
  replace H:=H.unfree 0 rfl
  exact ⟨none,0,0,[],[],rfl,(by intro b hb;first | (simp at hb;done) | exact id b (by simpa using hb)),H.pick [0] [0]⟩
 refine qU (t_n (zcr (sw (zW H underlying41 ti27 fun b2 w3 H=>sq 1 ?_))))
 replace H:=H.boxRow 0 rfl 1 0 rfl qj
 replace H:=H.vV (α:=yLI)
 refine sw (o_appendFR H 0 rfl 1 rfl underlying41 ti27 rfl qj rfl rfl qp qf fun a4 c5 w6 us7 G8 H hG9=>?_)
 replace H:=H.repsCat false 1 rfl 0 rfl qm
 refine sq 1 (zjr (rH1 (Sv a4 (0+l.length) c5) H (⟨a4,0+l.length,c5,[]++us7,([]++G8),rfl,(by intro b hb;first | (simp at hb;done) | exact hG9 b (by simpa using hb)),H.pick [0] [0]⟩)))
theorem timesIn_ok (w:World) (l:yLI) (m:yLI) {am:yOA} {cm:Nat} {Fm:yLN} (hl:zP w Fl al cl l) (hm:zP w Fm am cm m) (p0:l.length<=m.length) (p2:∀ q,q < l.length->0<=m[q]! /\m[q]! <=1000):Calls Tryz.prog 242 #[Sv al l.length cl,Sv am m.length cm] w (Ret (fun v w' =>v=yI (jF l m)) w):=by
 refine en func242 ntmps242 ?_
 have H:=((St.start w).arg hm).arg hl
 have nhl:=qO hl
 have nhm:=qO hm
 clear hl hm
 have N:=Fresh.nil w.heap.size
 refine zcr (sp (yI 0) (zjc (sq 1 (zjcc (sq 1 (oN rfl (sp (yI 0) (zjn (qV ?_)))))))))
 refine zA ((fun Z0 Z1=>fun m' ρ w1=>∃ (xQ:Env) (most:Int) (k:Nat),ρ=upd (upd (upd (upd (upd xQ 1 (Sv am m.length cm)) 5 (yI most)) 8 (Sv al l.length cl)) 9 (yI l.length)) 10 (yI k)/\most=Qq l m k/\((k:Int)<=l.length)/\m' =(l.length - (k:Int)).toNat/\Fresh w.heap.size []/\St w w1 [] [Z0,Z1]) _ _) ((l.length - (0:Int)).toNat) ⟨_,1000,0,uE5,(by rfl),qf,rfl,N,H⟩ ?_
 clear H N
 rintro m' ρ w2 ⟨xQ,most,k,rfl,rfl,i0,rfl,N,H⟩
 refine zcr (sq 1 (zjn (xU (cD rfl (fun h3=>?_) (fun h3=>?_)))))
 ·refine qU (t_n (xU (qV (zcr (sp (yI k) ?_)))))
  obtain ⟨b4,o5,rfl⟩:=H.addr 0 rfl qf
  refine oI rfl rfl (oL rfl (H.zB 0 rfl k qf) (sp (yI k) (sq 1 (zjc (sq 1 (sp (Bv (decide ((l[k]! :Int) > 0))) (zjn (cD rfl (fun h7=>?_) (fun h7=>?_)))))))))
  ·refine xK (sq 2 (sp (yI k) ?_))
   obtain ⟨b8,o9,rfl⟩:=H.addr 1 rfl qf
   refine oI rfl rfl (oL rfl (H.zB 1 rfl k qf) (sq 1 (sw (o_quo (m[k]!) (l[k]!) rfl rfl (by (have:=p2 k qf;omega)) (by (have:=p2 k qf;omega)) (sw (o_min (Qq l m k) ((m[k]!) / (l[k]!)) rfl rfl (sq 1 (xP (b_n (t_n (xK (sw (zi k 1 rfl rfl (by (have:=p2 k qf;omega)) (sq 1 (xP (qW (m' :=(l.length - ((k+1):Int)).toNat) qf ⟨_,_,k+1,uE5,?_,?_,rfl,N,H⟩))))))))))))))))
   ·first | exact (timesTo_pos qf).symm | exact (timesTo_skip qf).symm
   ·omega
  refine qU (b_n (t_n (xK (sw (zi k 1 rfl rfl (by (have:=p2 k qf;omega)) (sq 1 (xP (qW (m' :=(l.length - ((k+1):Int)).toNat) qf ⟨_,_,k+1,uE5,?_,?_,rfl,N,H⟩))))))))
  ·first | exact (timesTo_pos qf).symm | exact (timesTo_skip qf).symm
  ·omega
 refine zx4 (zcr (sq 2 (zjr (rH1 (yI (Qq l m k)) H ?_))))
 obtain rfl:k=l.length:=by omega
 rfl
theorem applicable_ok (w:World) (s:qG) (t:qH) (xf:zP w xF qM qL s.qC) (xE:zP w zu xg qX s.qE) (zk:zP w zQ xq xn t.qI) (zO:zP w vK xX xM t.qP) (xJ:zP w zo xe qZ t.qN) (p0:yj s) (p1:zV s t):Calls Tryz.prog 81 #[.agg #[yI s.xO,Sv qM s.qC.length qL,Sv xg s.qE.length qX],.agg #[Sv xq t.qI.length xn,Sv xX t.qP.length xM,Sv xe t.qN.length qZ]] w (Ret (fun v w' =>∃ (ra:yOA) (rn:Nat) (rc:Nat),v=Sv ra rn rc/\Fresh w.heap.size []/\St w w' [rr ra rn rc 2 1 ((appls s t).map (Value.int .i64))] []) w):=by
 refine en func81 ntmps81 ?_
 have H:=(((((St.start w).arg xJ).arg zO).arg zk).arg xE).arg xf
 have vH:=qO xf
 have jD:=qO xE
 have yL:=qO zk
 have Qv:=qO zO
 have jQ:=qO xJ
 clear xf xE zk zO xJ
 have N:=Fresh.nil w.heap.size
 have p2:=p0.2.1
 have p3:=p0.1.2.1
 refine zcr (sw (zY H (yS s qM qL xg qX) fun b1 w2 H=>sw (zY H (yT t xq xn xX xM xe qZ) fun b3 w4 H=>sq 1 (zjc (sw (vG [yI 0,yI 0,yI 0,yI 0,yI 0,yI 0] [] (sw (xH H ti165 [yI 0,yI 0,yI 0,yI 0,yI 0,yI 0] fun b5 w6 H=>?_))))))))
 refine sw (xY H 0 [yI 0,yI 0,yI 0,yI 0,yI 0,yI 0] sizeOf165 fun w7 H=>zjcc (sp (yI 0) (zjn (qV ?_))))
 refine zA ((fun Z0 Z1 Z2 Z3 Z4 Z5 Z6=>fun m' ρ w8=>∃ (xQ:Env) (c:Nat) (top:yLI),ρ=upd (upd (upd (upd xQ 2 (pp b1 0)) 3 (pp b3 0)) 5 (pp b5 0)) 13 (yI c)/\top=minus c/\((c:Int)<=6)/\m' =(6 - (c:Int)).toNat/\Fresh w.heap.size []/\St w w8 [.box b5 (top.map (Value.int .i64)) 165,Z0,Z1] [Z2,Z3,Z4,Z5,Z6]) _ _ _ _ _ _ _) ((6 - (0:Int)).toNat) ⟨_,0,[0,0,0,0,0,0],uE4,(by rfl),qf,rfl,N,H⟩ ?_
 clear H N
 rintro m' ρ w9 ⟨xQ,c,top,rfl,rfl,i0,rfl,N,H⟩
 refine zcr (sp (Bv (decide ((c:Int) < 6))) (zjn (xU (cD rfl (fun h10=>?_) (fun h10=>?_)))))
 ·refine qU (t_n (xU (qV (zcr (sp (yI c) (sp (yI c) (zjn (xK (sp (yI c) (sw (o_idxArr c underlying165 ti2 rfl rfl qf qf (sw (o_storeArr H 0 rfl (-1) sizeOf2 rfl rfl (i:=c) qf (by simp only [List.length_set,List.length_cons,List.length_nil,minus_len,Xf];omega) fun w11 H=>xP (b_n (t_n (xK (sw (zi c 1 rfl rfl qf (sq 1 (xP (qW (m' :=(6 - ((c+1):Int)).toNat) qf ⟨_,c+1,_,uE4,?_,?_,rfl,N,H⟩)))))))))))))))))))))
  ·exact minus_set qf
  ·omega
 refine zx4 (zcc (oF rfl (oL rfl (H.cell 2 rfl rfl) (oN rfl (sp (yI 0) (zjn (qV ?_)))))))
 refine zA ((fun Z0 Z1 Z2 Z3 Z4 Z5 Z6=>fun m' ρ w12=>∃ (xQ:Env) (k:Nat) (top_1:yLI),ρ=upd (upd (upd (upd (upd (upd xQ 2 (pp b1 0)) 3 (pp b3 0)) 5 (pp b5 0)) 20 (Sv xg s.qE.length qX)) 21 (yI s.qE.length)) 22 (yI k)/\top_1=bests s t (-1) 6 k/\((k:Int)<=s.qE.length)/\m' =(s.qE.length - (k:Int)).toNat/\Fresh w.heap.size []/\St w w12 [.box b5 (top_1.map (Value.int .i64)) 165,Z0,Z1] [Z2,Z3,Z4,Z5,Z6]) _ _ _ _ _ _ _) ((s.qE.length - (0:Int)).toNat) ⟨_,0,(minus c),uE6,(by exact minus_six qf s t),qf,rfl,N,H⟩ ?_
 clear H N
 rintro m' ρ w13 ⟨xQ,k,top_1,rfl,rfl,i0,rfl,N,H⟩
 refine zcr (sq 1 (zjn (xU (cD rfl (fun h14=>?_) (fun h14=>?_)))))
 ·have q:=p0.rule (i:=k) qf
  have qc:=q.1
  have qk:=q.cell
  have qr:=q.2.1
  have q6:(s.qE[k]!).qR.toNat < 6:=by omega
  refine qU (t_n (xU (qV (zcr ?_))))
  obtain ⟨b15,o16,rfl⟩:=H.addr 1 rfl qf
  obtain ⟨ae18Need,ce18Need,Fe18Need,ae18Have,ce18Have,Fe18Have,ae18Lack,ce18Lack,Fe18Lack,ae18Here,ce18Here,Fe18Here,ae18Out,ce18Out,Fe18Out,ae18Into,ce18Into,Fe18Into,H⟩:=H.Qc 1 rfl k k qf qf qf
  refine oI rfl rfl (sw (x8 [yI ((s.qE[k]!).qR),yI ((s.qE[k]!).jR),Sv ae18Need (((s.qE[k]!).vF).length) ce18Need,Sv ae18Have (((s.qE[k]!).vJ).length) ce18Have,Sv ae18Lack (((s.qE[k]!).vY).length) ce18Lack,Sv ae18Here (((s.qE[k]!).vw).length) ce18Here,Sv ae18Out (((s.qE[k]!).QI).length) ce18Out,Sv ae18Into (((s.qE[k]!).xw).length) ce18Into,Bv ((s.qE[k]!).jV)] isAgg120 sizeOf120 rfl (qF (H.get 6 rfl) 0 9) ?_))
  refine sw (xH H ti120 [yI 0,yI 0,yN,yN,yN,yN,yN,yN,Bv false] fun b19 w20 H=>sw (xY H 0 [yI ((s.qE[k]!).qR),yI ((s.qE[k]!).jR),Sv ae18Need (((s.qE[k]!).vF).length) ce18Need,Sv ae18Have (((s.qE[k]!).vJ).length) ce18Have,Sv ae18Lack (((s.qE[k]!).vY).length) ce18Lack,Sv ae18Here (((s.qE[k]!).vw).length) ce18Here,Sv ae18Out (((s.qE[k]!).QI).length) ce18Out,Sv ae18Into (((s.qE[k]!).xw).length) ce18Into,Bv ((s.qE[k]!).jV)] sizeOf120 fun w21 H=>?_))
  refine zjc (sw (x8 [yI s.xO,Sv qM s.qC.length qL,Sv (aa b15 o16) s.qE.length qX] isAgg37 sizeOf37 rfl (qF (H.cells 3 rfl) 0 3) (sw (x8 (yT t xq xn xX xM xe qZ) isAgg43 sizeOf43 rfl (qF (H.cells 2 rfl) 0 3) ?_))))
  refine sw (x8 [yI ((s.qE[k]!).qR),yI ((s.qE[k]!).jR),Sv ae18Need (((s.qE[k]!).vF).length) ce18Need,Sv ae18Have (((s.qE[k]!).vJ).length) ce18Have,Sv ae18Lack (((s.qE[k]!).vY).length) ce18Lack,Sv ae18Here (((s.qE[k]!).vw).length) ce18Here,Sv ae18Out (((s.qE[k]!).QI).length) ce18Out,Sv ae18Into (((s.qE[k]!).xw).length) ce18Into,Bv ((s.qE[k]!).jV)] isAgg120 sizeOf120 rfl (qF (H.cells 0 rfl) 0 9) ?_)
  refine sw (oq (isEnabled_ok _ s t (s.qE[k]!) (H.get 7 rfl).1 (H.get 8 rfl).1 (H.get 9 rfl).1 (H.get 10 rfl).1 (H.get 11 rfl).1 (H.get 0 rfl).1 (H.get 1 rfl).1 (H.get 2 rfl).1 (H.get 3 rfl).1 (H.get 4 rfl).1 (H.get 5 rfl).1 qg qg qg) H fun w23 H=>zjn (cP rfl (fun h25=>?_) (fun h25=>?_)))
  ·refine Qb rfl H [0,2,3] fun H=>?_
   have S:=H.jr [0,2,3] (zR 0 12)
   refine tF 0 rfl rfl S ?_
   refine tL 1 rfl rfl (fun _ h=>h.cell 0 rfl rfl) S ?_
   refine tF 2 rfl rfl S ?_
   refine tL 3 rfl rfl (fun _ h=>h.cell 0 rfl rfl) S ?_
   refine rt 4 _ (y_idxArr b5 (0) 6 ((s.qE[k]!).qR) underlying165 ti2 rfl rfl qf qf) S ?_
   refine tF 6 rfl rfl S ?_
   refine tL 7 rfl rfl (fun _ h=>h.cell 0 rfl rfl) S ?_
   refine ro 5 rfl (zK (yI ((bests s t (-1) 6 k)[((s.qE[k]!).qR).toNat]!)) isAgg2 rfl (H.cell 1 rfl (ints_at (iv:=(s.qE[k]!).qR) (i:=(((s.qE[k]!).qR).toNat)) qf (by simp only [List.length_set,List.length_cons,List.length_nil,minus_len,Xf];omega))) (⟨H.pick [0,2,3] (zR 0 12),?_⟩))
   have S:=H.jr [0,2,3] (zR 0 12)
   refine rt 8 _ (y_max ((bests s t (-1) 6 k)[((s.qE[k]!).qR).toNat]!) ((s.qE[k]!).jR) rfl rfl) S ?_
   refine rt 9 _ (y_idxArr b5 (0) 6 ((s.qE[k]!).qR) underlying165 ti2 rfl rfl qf qf) S ?_
   refine ro 10 rfl (o_storeArr H 1 rfl (max ((bests s t (-1) 6 k)[((s.qE[k]!).qR).toNat]!) ((s.qE[k]!).jR)) sizeOf2 rfl rfl (i:=(((s.qE[k]!).qR).toNat)) qf (by simp only [List.length_set,List.length_cons,List.length_nil,minus_len,Xf];omega) fun w27 H=>⟨H.pick [0,2,3] (zR 0 12),(xA qh (b_n (t_n (xK (sw (zi k 1 rfl rfl qf (sq 1 (xP (qW (m' :=(s.qE.length - ((k+1):Int)).toNat) qf ⟨_,k+1,_,uE6,?_,?_,rfl,N,H.pick [1,2,3] (zR 7 5)⟩)))))))))⟩)
   ·first | exact bests_set ‹_› qf | exact bests_skip ‹_›
   ·omega
  refine qU (b_n (t_n (xK (sw (zi k 1 rfl rfl qf (sq 1 (xP (qW (m' :=(s.qE.length - ((k+1):Int)).toNat) qf ⟨_,k+1,_,uE6,?_,?_,rfl,N,H.pick [1,2,3] (zR 7 5)⟩))))))))
  ·first | exact bests_set ‹_› qf | exact bests_skip ‹_›
  ·omega
 refine zx4 (zcr (sw (zW H underlying27 ti2 fun b28 w29 H=>sq 1 (zjcc (oF rfl (oL rfl (H.cell 3 rfl rfl) (oN rfl (sp (yI 0) (zjn (qV ?_))))))))))
 replace H:=H.vI 0 [] 0
 refine zA ((fun Z0 Z1 Z2 Z3 Z4 Z5 Z6 Z7=>fun m' ρ w30=>∃ (xQ:Env) (jl:yOA) (vC:Nat) (jh:Nat) (out:yLI) (i:Nat),ρ=upd (upd (upd (upd (upd (upd (upd xQ 2 (pp b1 0)) 3 (pp b3 0)) 5 (pp b5 0)) 9 (Sv jl vC jh)) 43 (Sv xg s.qE.length qX)) 44 (yI s.qE.length)) 45 (yI i)/\out=applL s t i/\((i:Int)<=s.qE.length)/\m' =(s.qE.length - (i:Int)).toNat/\Fresh w.heap.size []/\St w w30 [rr jl vC jh 2 1 (out.map (Value.int .i64)),Z0,Z1,Z2] [Z3,Z4,Z5,Z6,Z7]) _ _ _ _ _ _ _ _) ((s.qE.length - (0:Int)).toNat) ⟨_,(aa b28 0),0,0,([]:yLI),0,uE7,(by rfl),qf,rfl,N,H⟩ ?_
 clear H N
 rintro m' ρ w31 ⟨xQ,jl,vC,jh,out,i,rfl,rfl,i0,rfl,N,H⟩
 have hn_out:=H.yt 0 rfl
 have ll:=applL_le s t i
 refine zcr (sq 1 (zjn (xU (cD rfl (fun h32=>?_) (fun h32=>?_)))))
 ·have q:=p0.rule (i:=i) qf
  have qc:=q.1
  have qk:=q.cell
  have qr:=q.2.1
  have q6:(s.qE[i]!).qR.toNat < 6:=by omega
  refine qU (t_n (xU (qV (zcr (sp (yI i) ?_)))))
  obtain ⟨b33,o34,rfl⟩:=H.addr 1 rfl qf
  obtain ⟨ae36Need,ce36Need,Fe36Need,ae36Have,ce36Have,Fe36Have,ae36Lack,ce36Lack,Fe36Lack,ae36Here,ce36Here,Fe36Here,ae36Out,ce36Out,Fe36Out,ae36Into,ce36Into,Fe36Into,H⟩:=H.Qc 1 rfl i i qf qf qf
  refine oI rfl rfl (sw (x8 [yI ((s.qE[i]!).qR),yI ((s.qE[i]!).jR),Sv ae36Need (((s.qE[i]!).vF).length) ce36Need,Sv ae36Have (((s.qE[i]!).vJ).length) ce36Have,Sv ae36Lack (((s.qE[i]!).vY).length) ce36Lack,Sv ae36Here (((s.qE[i]!).vw).length) ce36Here,Sv ae36Out (((s.qE[i]!).QI).length) ce36Out,Sv ae36Into (((s.qE[i]!).xw).length) ce36Into,Bv ((s.qE[i]!).jV)] isAgg120 sizeOf120 rfl (qF (H.get 6 rfl) 0 9) ?_))
  refine sw (xH H ti120 [yI 0,yI 0,yN,yN,yN,yN,yN,yN,Bv false] fun b37 w38 H=>sp (yI i) ?_)
  refine sw (xY H 0 [yI ((s.qE[i]!).qR),yI ((s.qE[i]!).jR),Sv ae36Need (((s.qE[i]!).vF).length) ce36Need,Sv ae36Have (((s.qE[i]!).vJ).length) ce36Have,Sv ae36Lack (((s.qE[i]!).vY).length) ce36Lack,Sv ae36Here (((s.qE[i]!).vw).length) ce36Here,Sv ae36Out (((s.qE[i]!).QI).length) ce36Out,Sv ae36Into (((s.qE[i]!).xw).length) ce36Into,Bv ((s.qE[i]!).jV)] sizeOf120 fun w39 H=>zjn (xU ?_))
  refine jw rfl H fun H=>tF 0 rfl rfl H ?_
  refine tL 1 rfl rfl (fun _ h=>h.cell 0 rfl rfl) H ?_
  refine tF 2 rfl rfl H ?_
  refine tL 3 rfl rfl (fun _ h=>h.cell 0 rfl rfl) H ?_
  refine rt 4 _ (y_idxArr b5 (0) 6 ((s.qE[i]!).qR) underlying165 ti2 rfl rfl qf qf) H ?_
  refine tL 5 rfl rfl (fun _ h=>h.cell 2 rfl (ints_at (iv:=(s.qE[i]!).qR) (i:=(((s.qE[i]!).qR).toNat)) qf (by simp only [List.length_set,List.length_cons,List.length_nil,minus_len,Xf];omega))) H ?_
  refine rtp 6 (Bv (((s.qE[i]!).jR:Int) == ((bests s t (-1) 6 k)[((s.qE[i]!).qR).toNat]!))) H ?_
  refine rtp 7 (Bv (((s.qE[i]!).jR:Int) == ((bests s t (-1) 6 k)[((s.qE[i]!).qR).toNat]!))) H ?_
  cases h41:(((s.qE[i]!).jR:Int) == ((bests s t (-1) 6 k)[((s.qE[i]!).qR).toNat]!))
  ·replace h41:=ne_of_beq_false h41
   refine zS (zR 8 4) 4 (H) (rtp 12 (Bv false) H ?_)
   refine xA qh (t_n (cFr rfl (qU (b_n (t_n (xK (sw (zi i 1 rfl rfl qf (sq 1 (xP (qW (m' :=(s.qE.length - ((i+1):Int)).toNat) qf ⟨_,_,_,_,_,i+1,uE7,?_,?_,rfl,N,H.pick (zR 1 4) (zR 7 5)⟩)))))))))))
   ·first | exact applL_yes (appl_yes (n:=6) (z:= -1) (k:=k) qf qf qf q6 ‹_› ‹_›) | exact applL_no (appl_no (n:=6) (z:= -1) (k:=k) qf qf qf q6 ‹_›) | exact applL_no (fun h=>‹¬ EnOk _ _ _› h.1)
   ·omega
  replace h41:=eq_of_beq h41
  refine rg 8 _ 57 (yl (cs:=[yI s.xO,Sv qM s.qC.length qL,Sv (aa b33 o34) s.qE.length qX]) isAgg37 sizeOf37 rfl (fun _ h=>qF (h.cells 4 rfl) 0 3)) H ?_
  refine rg 9 _ 57 (yl (cs:=(yT t xq xn xX xM xe qZ)) isAgg43 sizeOf43 rfl (fun _ h=>qF (h.cells 3 rfl) 0 3)) H ?_
  refine rg 10 _ 57 (yl (cs:=[yI ((s.qE[i]!).qR),yI ((s.qE[i]!).jR),Sv ae36Need (((s.qE[i]!).vF).length) ce36Need,Sv ae36Have (((s.qE[i]!).vJ).length) ce36Have,Sv ae36Lack (((s.qE[i]!).vY).length) ce36Lack,Sv ae36Here (((s.qE[i]!).vw).length) ce36Here,Sv ae36Out (((s.qE[i]!).QI).length) ce36Out,Sv ae36Into (((s.qE[i]!).xw).length) ce36Into,Bv ((s.qE[i]!).jV)]) isAgg120 sizeOf120 rfl (fun _ h=>qF (h.cells 0 rfl) 0 9)) H ?_
  refine jb [11] qh qm (XI rfl (e:=57) rfl rfl (oq (isEnabled_ok _ s t (s.qE[i]!) (H.get 7 rfl).1 (H.get 8 rfl).1 (H.get 9 rfl).1 (H.get 10 rfl).1 (H.get 11 rfl).1 (H.get 0 rfl).1 (H.get 1 rfl).1 (H.get 2 rfl).1 (H.get 3 rfl).1 (H.get 4 rfl).1 (H.get 5 rfl).1 qg qg qg) H fun w43 H=>⟨H,(rtl 12 H ?_)⟩) jd)
  refine xA qh (t_n (cP rfl (fun h45=>?_) (fun h45=>?_)))
  ·refine xK (sq 1 (sp (yI i) (sw (xx H underlying27 ti2 [yI i] fun b46 w47 H=>sw (zG H 2 rfl 0 rfl underlying27 ti2 rfl qj rfl rfl rfl qw qp qf fun a48 c49 w50 H=>?_)))))
   rw [snocI] at H
   refine sq 1 (xP (b_n (t_n (xK (sw (zi i 1 rfl rfl qf (sq 1 (xP (qW (m' :=(s.qE.length - ((i+1):Int)).toNat) qf ⟨_,_,_,_,_,i+1,uE7,?_,?_,rfl,N,H.pick (zR 2 4) (zR 7 5)⟩)))))))))
   ·first | exact applL_yes (appl_yes (n:=6) (z:= -1) (k:=k) qf qf qf q6 ‹_› ‹_›) | exact applL_no (appl_no (n:=6) (z:= -1) (k:=k) qf qf qf q6 ‹_›) | exact applL_no (fun h=>‹¬ EnOk _ _ _› h.1)
   ·omega
  refine qU (b_n (t_n (xK (sw (zi i 1 rfl rfl qf (sq 1 (xP (qW (m' :=(s.qE.length - ((i+1):Int)).toNat) qf ⟨_,_,_,_,_,i+1,uE7,?_,?_,rfl,N,H.pick (zR 1 4) (zR 7 5)⟩))))))))
  ·first | exact applL_yes (appl_yes (n:=6) (z:= -1) (k:=k) qf qf qf q6 ‹_› ‹_›) | exact applL_no (appl_no (n:=6) (z:= -1) (k:=k) qf qf qf q6 ‹_›) | exact applL_no (fun h=>‹¬ EnOk _ _ _› h.1)
  ·omega
 refine zx4 (zcr (sq 2 (zjr (rH1 (Sv jl vC jh) H ?_))))
 obtain rfl:i=s.qE.length:=by omega
 exact ⟨jl,vC,jh,rfl,N,H.pick [0] []⟩
end
section
noncomputable def ownL (e:TypeId) (s:qG) (t:qH) (n q:Nat):List (OwnI e):=(List.range n).map fun (c:Nat)=>⟨((appls s t).take q).filter fun x=>decide ((s.qE[x.toNat]!).qR=(c:Int))⟩
theorem ownL_len (e:TypeId) (s:qG) (t:qH) (n q:Nat):(ownL e s t n q).length=n:=by simp [ownL]
theorem ownL_get (h:c < n):(ownL e s t n q)[c]! =⟨((appls s t).take q).filter fun x=>decide ((s.qE[x.toNat]!).qR=(c:Int))⟩:=by
 rw [getElem!_pos (ownL e s t n q) c (by rw [ownL_len];exact h)];simp [ownL]
theorem ownL_zero (e:TypeId) (s:qG) (t:qH) (n:Nat):List.replicate n (⟨[]⟩:OwnI e)=ownL e s t n 0:=by
 refine List.ext_getElem (by simp [ownL]) fun i h1 h2=>by simp [ownL]
theorem ownL_set (hq:q < (appls s t).length) (hc:(s.qE[((appls s t)[q]!).toNat]!).qR.toNat=c) (h0:0<=(s.qE[((appls s t)[q]!).toNat]!).qR) (hn:c < n)
 {l:List (OwnI e)} (hl:l=(ownL e s t n q).set c ⟨((ownL e s t n q)[c]!).l++[(appls s t)[q]!]⟩):l=ownL e s t n (q+1):=by
 subst hl
 refine List.ext_getElem (by simp [ownL]) fun i h1 h2=>?_
 have hi:i < n:=by simpa [ownL] using h1
 rw [← getElem!_pos _ i h1,← getElem!_pos _ i h2,getset (by rw [ownL_len];exact hn),ownL_get (q:=q+1) hi]
 rw [← take_snoc hq,List.filter_append]
 by_cases e' :i=c
 ·subst e'
  rw [if_pos rfl,ownL_get hi,List.filter_cons_of_pos (a:=(appls s t)[q]!) (decide_eq_true qf),List.filter_nil]
 ·rw [if_neg e',ownL_get hi]
  rw [List.filter_cons_of_neg (a:=(appls s t)[q]!) (fun h=>by have:=of_decide_eq_true h;omega),List.filter_nil,List.append_nil]
theorem ownL_le (h:c < n):((ownL e s t n q)[c]!).l.length<=(appls s t).length:=by
 rw [ownL_get h]
 exact Nat.le_trans (List.length_filter_le _ _) (by rw [List.length_take];omega)
noncomputable def cellsR (s:qG) (t:qH) (n:Nat):yLL:=(List.range n).map (vU s t)
theorem cellsR_len (s:qG) (t:qH) (n:Nat):(cellsR s t n).length=n:=by simp [cellsR]
theorem cellsR_get (h:c < n):(cellsR s t n)[c]! =vU s t c:=by
 rw [getElem!_pos (cellsR s t n) c (by rw [cellsR_len];exact h)];simp [cellsR]
theorem ownL_end (h:(appls s t).length<=q):(ownL e s t n q).map OwnI.l=cellsR s t n:=by
 unfold ownL cellsR
 rw [List.take_of_length_le h,List.map_map]
 rfl
theorem own_bad (hs:yj s) (hq:q < (appls s t).length) (h1:Xh (t.qP[(s.qE[((appls s t)[q]!).toNat]!).qR.toNat]!) > 16):¬ GoodP s t s.qC.length:=by
 have hm:(appls s t)[q]! ∈appls s t:=by rw [getElem!_pos _ q hq];exact List.getElem_mem hq
 obtain ⟨a,b,d⟩:=mem_applL.1 hm
 have hc:=(hs.rule b).1
 have hcl:=(hs.rule b).cell
 refine bad_sum (c:=(s.qE[((appls s t)[q]!).toNat]!).qR.toNat) hcl (fun h0=>?_) h1
 have:(appls s t)[q]! ∈vU s t (s.qE[((appls s t)[q]!).toNat]!).qR.toNat:=by
  unfold vU cellT
  exact List.mem_filter.2 ⟨hm,decide_eq_true (Int.toNat_of_nonneg hc.1).symm⟩
 rw [List.eq_nil_of_length_eq_zero h0] at this
 simp at this
noncomputable def Xx (s:qG) (t:qH) (k:Nat):List inCellD:=(XH s t k).map fun c=>⟨vU s t c,(cellP s t c).1⟩
theorem cells_len (s:qG) (t:qH) (k:Nat):(Xx s t k).length=(xy s t k).length:=by simp [Xx,xy]
theorem cells_yes (h:¬ (vU s t k).length=0):Xx s t k++[⟨vU s t k,(cellP s t k).1⟩]=Xx s t (k+1):=by simp [Xx,live_yes h]
theorem cells_no (h:(vU s t k).length=0):Xx s t k=Xx s t (k+1):=by simp [Xx,live_no h]
theorem cells_at (h:i < (Xx s t k).length):((Xx s t k)[i]!).frules=(xy s t k)[i]! /\((Xx s t k)[i]!).fpackings=(zl s t k)[i]! :=by
 have h1:i < (xy s t k).length:=by rw [← cells_len];exact h
 have h2:i < (zl s t k).length:=by rw [packsL_le];exact h1
 rw [getElem!_pos _ i h,getElem!_pos _ i h1,getElem!_pos _ i h2]
 simp [Xx,xy,zl]
theorem prod_stop {all:List yLL} (h:∀ j,j < n->all[j]! ≠[]) (hi:i < n) {G:yLL} {r:yLI} (hG:G.length=Q9 all i) (hk:k<=G.length) (h1:(nextK G r (all[i]!) k).length > 300):Q9 all n > 300:=by
 rw [nextK_len hk] at h1
 have h2:=prod_mono h (show i+1<=n from hi) (Nat.le_refl _)
 rw [Q9,← hG] at h2
 have h3:=Nat.mul_le_mul_right (all[i]!).length hk
 omega
theorem appls_inH (hq:q < (appls s t).length):0<=(appls s t)[q]! /\((appls s t)[q]!).toNat < s.qE.length/\Appl s t ((appls s t)[q]!).toNat:=by
 have hm:(appls s t)[q]! ∈appls s t:=by rw [getElem!_pos _ q hq];exact List.getElem_mem hq
 exact mem_applL.1 hm
theorem bagAny_okH:vk (l.length:Int) l<->BagAny l:=⟨fun h=>h.1,fun h=>⟨h,rfl⟩⟩
theorem sumTo_ge {l:yLI} (h:∀ k,k < l.length->0<=l[k]!):∀ n,n<=l.length->0<=sumTo l n/\∀ j,j < n->l[j]! <=sumTo l n
 | 0,_=>⟨by simp [sumTo],fun j hj=>by omega⟩
 | n+1,hn=>by
  obtain ⟨h1,h2⟩:=sumTo_ge h n qf
  have h3:=h n qf
  rw [sumTo]
  refine ⟨by omega,fun j hj=>?_⟩
  by_cases e:j=n
  ·subst e;omega
  ·have:=h2 j qf;omega
theorem XQ.bags (h:XQ parts rest) (h1:1<=parts.length):
 BagAny rest/\parts.length<=8/\∀ i,i < parts.length->BagAny (parts[i]!)/\(parts[i]!).length=rest.length/\Xh (parts[i]!)≠0:=by
 obtain ⟨K,hK,hP,hR,hn⟩:=h
 have bag:∀ i,i < parts.length->BagAny (parts[i]!)/\(parts[i]!).length=rest.length/\Xh (parts[i]!)≠0:=fun i hi=>by
  obtain ⟨hl,hb,j,hj,hp⟩:=hP i hi
  refine ⟨⟨fun k hk=>hb k qf,by omega,by omega⟩,by have:=hR.1;omega,?_⟩
  have:=(sumTo_ge (l:=parts[i]!) (fun k hk=>(hb k qf).1) _ (Nat.le_refl _)).2 j qf
  unfold Xh;omega
 obtain ⟨hl,_,j,hj,_⟩:=hP 0 qf
 exact ⟨⟨fun k hk=>hR.2 k (by have:=hR.1;omega),by have:=hR.1;omega,by have:=hR.1;omega⟩,hn,bag⟩
theorem pack_begin {n:Int} (hc:i < cn.length) (h2:cn.take i=cs.take i):(cn.set i n).take (i+1)=cs.take i++[n]:=by
 rw [List.take_add_one,List.take_set_of_le (Nat.le_refl _),h2,List.getElem?_set_self hc];rfl
theorem pack_keep {c2:yLI} {n:Int} (h:c2.take (i+1)=(cn.set i n).take (i+1)) (h2:cn.take i=cs.take i):c2.take i=cs.take i:=by
 have:=congrArg (List.take i) h
 rwa [List.take_take,List.take_take,Nat.min_eq_left qf,List.take_set_of_le (Nat.le_refl _),h2] at this
theorem pack_stepI {out:yLL} (hf:i+f=parts.length) (hp:i < parts.length) (hc:cn.length=parts.length) (h2:cn.take i=cs.take i)
 (h:(gath out (begins (cs.take i) (jZ parts (f - 1) i rest n))).length<=2000):
 gath (gath out (begins (cs.take i) (jZ parts (f - 1) i rest n))) (begins ((cn.set i (n:Int)).take (i+1)) (packs parts (parts.length - (i+1)) (i+1) (jP rest (parts[i]!) (-(n:Int)))))=gath out (begins (cs.take i) (jZ parts (f - 1) i rest (n+1))):=by
 rw [pack_begin qf h2,← gath_step h,show parts.length - (i+1)=f - 1 by omega]
theorem pack_startI {out:yLL} (h:out.length<=2000):out=gath out (begins (cs.take i) (jZ parts f i rest 0)):=by
 rw [packsTo_zero];exact (gath_nil qf).symm
theorem pack_fullI {out:yLL} (hl:i=parts.length) (hc:cs.length=parts.length) (h:FullOk parts rest) (ho:out.length<=2000):
 gath out (begins (cs.take i) (packs parts (parts.length - i) i rest))=out++[cs]:=by
 rw [show parts.length - i=0 by omega,packs_full h,begins_one,gath_one ho,List.take_of_length_le qf]
theorem pack_noneI {out:yLL} (hl:i=parts.length) (h:¬ FullOk parts rest) (ho:out.length<=2000):
 gath out (begins (cs.take i) (packs parts (parts.length - i) i rest))=out:=by
 rw [show parts.length - i=0 by omega,packs_none h];exact gath_nil qf
theorem pack_endI {out:yLL} (hf:i+f=parts.length) (hp:i < parts.length) (hn:(n:Int)<=jF (parts[i]!) rest+1)
 (h0:0<=jF (parts[i]!) rest) (h:¬ (n:Int)<=jF (parts[i]!) rest\/¬ (gath out (begins (cs.take i) (jZ parts (f - 1) i rest n))).length<=2000):
 gath out (begins (cs.take i) (packs parts (parts.length - i) i rest))=gath out (begins (cs.take i) (jZ parts (f - 1) i rest n)):=by
 obtain ⟨f,rfl⟩:∃ g,f=g+1:=⟨f - 1,by omega⟩
 rw [show parts.length - i=f+1 by omega]
 rw [show f+1 - 1=f from rfl] at h ⊢
 exact (gath_end qf (by rcases h with h | h;(left;omega);(right;omega))).symm
theorem all_bI (h:¬ Xh b > 16) (h1:(gath ([]:yLL) (begins (cs.take 0) (packs parts (parts.length - 0) 0 b))).length > 2000):yg b parts=([],3):=by
 rw [show cs.take 0=[] from rfl,begins_nil] at h1
 have h2:(packs parts parts.length 0 b).length > 2000:=gath_all.1 h1
 rw [yg,if_neg h,if_pos h2]
theorem all_0I (h:¬ Xh b > 16) (h1:¬ (gath ([]:yLL) (begins (cs.take 0) (packs parts (parts.length - 0) 0 b))).length > 2000):yg b parts=(gath ([]:yLL) (begins (cs.take 0) (packs parts (parts.length - 0) 0 b)),0):=by
 rw [show cs.take 0=[] from rfl,begins_nil] at h1 ⊢
 have h2:¬ (packs parts parts.length 0 b).length > 2000:=fun h=>h1 (gath_all.2 h)
 rw [yg,if_neg h,if_neg h2,show parts.length - 0=parts.length from rfl,gath_few h2]
end
section
variable {cb : Nat}
theorem isBag_ok (w:World) (l:yLI) {cl:Nat} (hl:zP w Fl al cl l):Calls Tryz.prog 254 #[Sv al l.length cl] w (Ret (fun v w' =>v=Bv (dec (BagAny l))) w):=by
 refine en func254 ntmps254 ?_
 have H:=(St.start w).arg hl
 have nhl:=qO hl
 clear hl
 have N:=Fresh.nil w.heap.size
 refine zcr (sp (Bv false) (zjc (sq 1 (sw (oq (sizeI_ok _ l (H.get 0 rfl).1) H fun w1 H=>sq 1 (sw (oq (XR _ (l.length:Int) l (H.get 0 rfl).1) H fun w3 H=>sq 1 (zjr (rH1 (Bv (dec (vk (l.length:Int) l))) H ?_)))))))))
 rw [dec_congr bagAny_okH]
theorem isFull_ok (w:World) (rest:yLI) (parts:yLL) {arest:yOA} {crest:Nat} {Frest:yLN} (hrest:zP w Frest arest crest rest) (hparts:zP w Fparts zL zH parts) (p0:XQ parts rest):Calls Tryz.prog 221 #[Sv arest rest.length crest,Sv zL parts.length zH] w (Ret (fun v w' =>v=Bv (dec (FullOk parts rest))) w):=by
 refine en func221 ntmps221 ?_
 have H:=((St.start w).arg hparts).arg hrest
 have nhrest:=qO hrest
 have nhparts:=qO hparts
 clear hrest hparts
 have N:=Fresh.nil w.heap.size
 refine zcr (sw (zY H [Sv arest rest.length crest] fun b1 w2 H=>sp (Bv false) (zjc (sq 1 (sp (.func (.func 244) #[] #[pp b1 0]) (sw (zN #[Sv zL parts.length zH,.func (.func 244) #[] #[pp b1 0]] rfl rfl call114 (en func114 ntmps114 ?_))))))))
 refine zcr (sp (Bv false) (zjc (sq 1 (sp (.func (.func 244) #[] #[pp b1 0]) (sw (zN #[Sv zL parts.length zH,.func (.func 244) #[] #[pp b1 0]] rfl rfl call156 (en func156 ntmps156 ?_)))))))
 refine zcr (sp (yI 0) (zjcc (sq 1 (oN rfl (sp (yI 0) (zjn (qV ?_)))))))
 refine zA ((fun Z0 Z1 Z2=>fun m' ρ w3=>∃ (xQ:Env) (i:Nat),ρ=upd (upd (upd (upd xQ 0 (Sv zL parts.length zH)) 1 (.func (.func 244) #[] #[pp b1 0])) 7 (yI parts.length)) 8 (yI i)/\((i:Int)<=parts.length)/\(FullTo parts rest i)/\m' =(parts.length - (i:Int)).toNat/\Fresh w.heap.size []/\St w w3 [Z0] [Z1,Z2]) _ _ _) ((parts.length - (0:Int)).toNat) ⟨_,0,uE4,qf,(by first | trivial | exact fun j hj=>by omega),rfl,N,H⟩ ?_
 clear H N
 rintro m' ρ w4 ⟨xQ,i,rfl,i0,i1,rfl,N,H⟩
 refine zcr (sq 1 (zjn (xU (cD rfl (fun h5=>?_) (fun h5=>?_)))))
 ·obtain ⟨t1,t2,t3,t4,t5⟩:=p0.times (k:=i) qf
  refine qU (t_n (xU (qV (zcr (sp (yI i) (sp (yI i) (zjc (sp (.func (.func 244) #[] #[pp b1 0]) (sq 1 (sp (yI i) ?_))))))))))
  obtain ⟨b6,o7,rfl⟩:=H.addr 1 rfl qf
  obtain ⟨ae9,ce9,Fe9,H⟩:=H.ji 1 rfl i i qf qf qf
  refine oI rfl rfl (oL rfl (H.xW 1 rfl 0 rfl) (sw (zN #[Sv ae9 ((parts[i]!).length) ce9,pp b1 0] rfl rfl call244 (en func244 ntmps244 ?_))))
  refine zcr (sp (Bv false) (zjc (sq 1 (oL rfl (H.cell 0 rfl rfl) (sw (oq (isWithin_ok _ (parts[i]!) rest (H.get 0 rfl).1 (H.get 2 rfl).1 qg qg) H fun w10 H=>sq 1 (zjr (ret1 (Bv (within (parts[i]!) rest)) rfl rfl ⟨_,rfl,(zjn (zT _ rfl (fun h12=>?_) (fun h12=>?_)))⟩))))))))
  ·refine zcr (sp (yI i) (sp (yI i) (zjr (zr5 (ret1 (yI i) rfl rfl ⟨_,rfl,(sw (o_pure (Bv true) (by show some (Value.bool (decide ((i:Int)>=0)))=some (Value.bool true);rw [decide_eq_true qf]) (sp (Bv true) (zjr (ret1 (Bv true) rfl rfl ⟨_,rfl,(sp (Bv false) (sp (Bv false) (zjr (rH1 (Bv false) H ?_))))⟩)))))⟩)))))
   rw [xh (fun h=>by have:=h i qf;simp_all)]
  refine qU (b_n (t_n (xK (sw (zi i 1 rfl rfl qf (sq 1 (xP (qW (m' :=(parts.length - ((i+1):Int)).toNat) qf ⟨_,i+1,uE4,?_,?_,rfl,N,H.pick [0] [2,3]⟩))))))))
  ·omega
  ·first | trivial | exact i1.succ ‹_›
 refine zx4 (zcr (sq 1 (zjr (ret1 (yI (-1)) rfl rfl ⟨_,rfl,(sp (Bv false) (sp (Bv false) (zjr (ret1 (Bv false) rfl rfl ⟨_,rfl,(sp (Bv true) (sp (Bv true) (zjr (rH1 (Bv true) H ?_))))⟩))))⟩))))
 rw [jS (show FullOk parts rest from fun j hj=>i1 j qf)]
theorem bagAndParts_ok (w:World) (b:yLI) (parts:yLL) (hb:zP w Fb ab cb b) (hparts:zP w Fparts zL zH parts) (p0:XQ parts b) (p1:1<=parts.length):Calls Tryz.prog 239 #[Sv ab b.length cb,Sv zL parts.length zH] w (Ret (fun v w' =>v=yI 0) w):=by
 refine en func239 ntmps239 ?_
 have H:=((St.start w).arg hparts).arg hb
 have nhb:=qO hb
 have nhparts:=qO hparts
 clear hb hparts
 have N:=Fresh.nil w.heap.size
 obtain ⟨pb,pl,pk⟩:=p0.bags p1
 refine zcr (sp (yI 0) (zjcc (sq 1 (sw (oq (isBag_ok _ b (H.get 0 rfl).1) H fun w2 H=>sq 1 (zjn (cQ rfl (fun h4=>?_) (fun h4=>?_))))))))
 ·refine zcr (sp (yI 1) (zjr (t_r (rH1 (yI 1) H ?_))))
  exfalso;first | omega | exact ‹¬ BagAny _› pb
 refine qU (t_n (zcr (sq 1 (oN rfl (sq 2 (oN rfl (sw (Qr H underlying27 ti2 parts.length rfl rfl qf qf qf fun b5 w6 H=>sw (zN #[yI b.length,Sv zL parts.length zH,Sv (aa b5 0) parts.length parts.length] rfl rfl call255 (en func255 ntmps255 ?_))))))))))
 refine zcr (sp (yI 0) (zjcc (sq 1 (sw (zN #[Sv zL parts.length zH,.func (.func 258) #[] #[]] rfl rfl call114 (en func114 ntmps114 ?_))))))
 refine zcr (sp (Bv false) (zjc (sq 1 (sp (.func (.func 258) #[] #[]) (sw (zN #[Sv zL parts.length zH,.func (.func 258) #[] #[]] rfl rfl call156 (en func156 ntmps156 ?_)))))))
 refine zcr (sp (yI 0) (zjcc (sq 1 (oN rfl (sp (yI 0) (zjn (qV ?_)))))))
 refine zA ((fun Z0 Z1 Z2=>fun m' ρ w7=>∃ (xQ:Env) (i:Nat),ρ=upd (upd (upd (upd xQ 0 (Sv zL parts.length zH)) 1 (.func (.func 258) #[] #[])) 7 (yI parts.length)) 8 (yI i)/\((i:Int)<=parts.length)/\(True)/\m' =(parts.length - (i:Int)).toNat/\Fresh w.heap.size []/\St w w7 [Z0] [Z1,Z2]) _ _ _) ((parts.length - (0:Int)).toNat) ⟨_,0,uE4,qf,(by first | trivial | exact fun j hj=>by omega),rfl,N,H⟩ ?_
 clear H N
 rintro m' ρ w8 ⟨xQ,i,rfl,i0,i1,rfl,N,H⟩
 refine zcr (sq 1 (zjn (xU (cD rfl (fun h9=>?_) (fun h9=>?_)))))
 ·refine qU (t_n (xU (qV (zcr (sp (yI i) (sp (yI i) (zjc (sp (.func (.func 258) #[] #[]) (sq 1 (sp (yI i) ?_))))))))))
  obtain ⟨b10,o11,rfl⟩:=H.addr 1 rfl qf
  obtain ⟨ae13,ce13,Fe13,H⟩:=H.ji 1 rfl i i qf qf qf
  refine oI rfl rfl (oL rfl (H.xW 1 rfl 0 rfl) (sw (zN #[Sv ae13 ((parts[i]!).length) ce13] rfl rfl call258 (en func258 ntmps258 ?_))))
  refine zcr (sp (Bv false) (zjc (sq 1 (sw (oq (isBag_ok _ (parts[i]!) (H.get 0 rfl).1) H fun w15 H=>sq 2 (zjr (ret1 (Bv (!(dec (BagAny (parts[i]!))))) rfl rfl ⟨_,rfl,(zjn (cQ rfl (fun h17=>?_) (fun h17=>?_)))⟩)))))))
  ·exact absurd (pk i qf).1 h17
  refine qU (b_n (t_n (xK (sw (zi i 1 rfl rfl qf (sq 1 (xP (qW (m' :=(parts.length - ((i+1):Int)).toNat) qf ⟨_,i+1,uE4,?_,?_,rfl,N,H.pick [0] [2,3]⟩))))))))
  ·omega
  ·first | trivial | exact i1.succ ‹_›
 refine zx4 (zcr (sq 1 (zjr (ret1 (yI (-1)) rfl rfl ⟨_,rfl,(sp (Bv false) (sp (Bv false) (zjr (ret1 (Bv false) rfl rfl ⟨_,rfl,(zjn (cFr rfl (qU (t_n (zcc (sq 1 (oN rfl (sp (Bv (decide ((parts.length:Int) > 8))) (sp (Bv (decide ((parts.length:Int) > 8))) ?_)))))))))⟩))))⟩))))
 cases h18:(decide ((parts.length:Int) > 8))
 ·replace h18:=of_decide_eq_false h18
  refine qJ 14 rfl rfl (sq 1 (qJ 14 rfl rfl (oN rfl (qJ 14 rfl rfl (sq 1 (qJ 14 rfl rfl (oN rfl (qJ 14 rfl rfl (sq 2 (zjn (zT _ rfl (fun h=>absurd rfl (bne_iff_ne.1 h)) (fun h19=>?_))))))))))))
  replace h19:=xu h19
  refine qU (t_n (zcc (sq 1 (oN rfl (sp (yI 0) (zjn (qV ?_)))))))
  refine zA ((fun Z0 Z1 Z2=>fun m' ρ w20=>∃ (xQ:Env) (i_1:Nat),ρ=upd (upd (upd (upd (upd xQ 0 (yI b.length)) 2 (Sv (aa b5 0) parts.length parts.length)) 21 (Sv zL parts.length zH)) 22 (yI parts.length)) 23 (yI i_1)/\((i_1:Int)<=parts.length)/\m' =(parts.length - (i_1:Int)).toNat/\Fresh w.heap.size []/\St w w20 [Z0] [Z1,Z2]) _ _ _) ((parts.length - (0:Int)).toNat) ⟨_,0,uE5,qf,rfl,N,H⟩ ?_
  clear H N
  rintro m' ρ w21 ⟨xQ,i_1,rfl,i0,rfl,N,H⟩
  refine zcr (sq 1 (zjn (xU (cD rfl (fun h22=>?_) (fun h22=>?_)))))
  ·obtain ⟨r1,r2,r3⟩:=pk i_1 qf
   have r4:=yX r1
   have r5:(List.replicate parts.length (0:Int))[i_1]! =0:=by rw [getElem!_pos _ i_1 qy];simp
   refine qU (t_n (xU (qV (zcr (sq 1 ?_)))))
   obtain ⟨b23,o24,rfl⟩:=H.addr 1 rfl qf
   obtain ⟨ae26,ce26,Fe26,H⟩:=H.ji 1 rfl i_1 i_1 qf qf qf
   refine oI rfl rfl (oL rfl (H.xW 1 rfl 0 rfl) (sq 2 (zjc (sq 1 (oN rfl (sq 1 (sp (Bv (((parts[i_1]!).length:Int) != b.length)) (sp (Bv (((parts[i_1]!).length:Int) != b.length)) ?_))))))))
   cases h27:(((parts[i_1]!).length:Int) != b.length)
   ·replace h27:=xu h27
    refine qJ 32 rfl rfl (sq 1 (qJ 32 rfl rfl (sw (oq (XC _ (parts[i_1]!) (H.get 0 rfl).1 (by first | assumption | exact vP ql | exact yX ql)) H fun w28 H=>qJ 32 rfl rfl (sp (Bv ((Xh (parts[i_1]!):Int) == 0)) (sp (Bv ((Xh (parts[i_1]!):Int) == 0)) (sp (Bv ((Xh (parts[i_1]!):Int) == 0)) ?_)))))))
    cases h30:((Xh (parts[i_1]!):Int) == 0)
    ·replace h30:=ne_of_beq_false h30
     refine qJ 37 rfl rfl (sq 1 (qJ 37 rfl rfl (sq 1 (qJ 37 rfl rfl (oI rfl rfl (qJ 37 rfl rfl (oL rfl (H.rowInt 0 rfl (iv:=i_1) (i:=i_1) qf qf) (qJ 37 rfl rfl (sw (oq (yx w28 ((List.replicate parts.length (0:Int))[i_1]!) 0 1000) H fun w31 H=>qJ 37 rfl rfl (sp (Bv (!(inR ((List.replicate parts.length (0:Int))[i_1]!) 0 1000))) (sp (Bv (!(inR ((List.replicate parts.length (0:Int))[i_1]!) 0 1000))) (zjn (zT (!(inR ((List.replicate parts.length (0:Int))[i_1]!) 0 1000)) rfl (fun h33=>?_) (fun h33=>?_)))))))))))))))
     ·replace h33:=xm h33
      replace h33:=yu h33
      refine zcr (sp (yI 2) (zjr (zr5 (ret1 (yI 2) rfl rfl ⟨_,rfl,(sp (yI 2) (zjr (rH1 (yI 2) H ?_)))⟩))))
      exfalso;first | omega | exact ‹¬ BagAny _› pb
     replace h33:=qY h33
     replace h33:=jL.1 h33
     refine qU (b_n (t_n (xK (sw (zi i_1 1 rfl rfl qf (sq 1 (xP (qW (m' :=(parts.length - ((i_1+1):Int)).toNat) qf ⟨_,i_1+1,uE5,?_,rfl,N,H.pick [0] [2,3]⟩))))))))
     ·omega
    replace h30:=eq_of_beq h30
    refine xR (zR 38 6) (sp (Bv true) (zjn (cTr rfl (zcr (sp (yI 2) (zjr (zr5 (ret1 (yI 2) rfl rfl ⟨_,rfl,(sp (yI 2) (zjr (rH1 (yI 2) H ?_)))⟩))))))))
    exfalso;first | omega | exact ‹¬ BagAny _› pb
   replace h27:=bne_iff_ne.1 h27
   refine xR [33,34,35] (sp (Bv true) (sp (Bv true) (xR (zR 38 6) (sp (Bv true) (zjn (cTr rfl (zcr (sp (yI 2) (zjr (zr5 (ret1 (yI 2) rfl rfl ⟨_,rfl,(sp (yI 2) (zjr (rH1 (yI 2) H ?_)))⟩)))))))))))
   exfalso;first | omega | exact ‹¬ BagAny _› pb
  refine zx4 (zcr (sp (yI 0) (zjr (ret1 (yI 0) rfl rfl ⟨_,rfl,(sp (yI 0) (zjr (rH1 (yI 0) H ?_)))⟩))))
  rfl
 replace h18:=of_decide_eq_true h18
 refine xR (zR 15 5) (sp (Bv true) (zjn (cTr rfl (zcr (sp (yI 2) (zjr (t_r (ret1 (yI 2) rfl rfl ⟨_,rfl,(sp (yI 2) (zjr (rH1 (yI 2) H ?_)))⟩))))))))
 exfalso;first | omega | exact ‹¬ BagAny _› pb
def packFrom_ok_S (f:Nat):Prop:=∀ {W0 w:World} {ps:List Prv} {Γ:List Fact} {Ns:List yLN} (i:Nat) (rest:yLI) (parts:yLL) (out:yLL) (cs:yLI) (arest:yOA) (crest:Nat) (Frest:yLN) (zL:yOA) (zH:Nat) (Fparts:yLN) (bp:Nat) (bi:Nat) (bq:Nat) (bo:Nat) (bl:Nat) (bc:Nat) (bf:Nat) (raout:yOA) (rnout:Nat) (rcout:Nat) (rxout:List Value) (rFout:yLN) (racs:yOA) (rncs:Nat) (rccs:Nat) (H:St W0 w ((.box bp [Sv zL parts.length zH] 41)::(.box bi [.func (.func 220) #[] #[pp bq 0]] 84)::(.box bq [Sv zL parts.length zH] 41)::(.box bo [pp bl 0] 273)::(.box bl [Sv raout rnout rcout] 275)::(.box bc [Sv racs rncs rccs] 27)::(.box bf [.func (.func 240) #[] #[pp bp 0,pp bi 0,pp bo 0,pp bc 0,pp bf 0]] 276)::(rr raout rnout rcout 27 1 rxout)::(rr racs rncs rccs 2 1 (cs.map (Value.int .i64)))::ps) ((sF false Frest arest crest rest)::(sF false Fparts zL zH parts)::(xN true rFout rxout out)::Γ)) (N:Fresh W0.heap.size (rFout::Ns)) (K0:Kept Ns Γ) (p0:i+f=parts.length) (p1:XQ parts rest) (p2:out.length<=2000) (p3:cs.length=parts.length),Calls Tryz.prog 240 #[yI i,Sv arest rest.length crest,pp bp 0,pp bi 0,pp bo 0,pp bc 0,pp bf 0] w (fun e w' =>∃ v,e=.returned v/\∃ (cs_:yLI) (raout_:yOA) (rnout_:Nat) (rcout_:Nat) (rxout_:List Value) (rFout_:yLN),(cs_.length=cs.length)/\(cs_.take i=cs.take i)/\v=Bv (dec ((gath out (begins (cs.take i) (packs parts (parts.length - i) i rest))).length<=2000))/\Fresh W0.heap.size (rFout_::Ns)/\St W0 w' ((.box bp [Sv zL parts.length zH] 41)::(.box bi [.func (.func 220) #[] #[pp bq 0]] 84)::(.box bq [Sv zL parts.length zH] 41)::(.box bo [pp bl 0] 273)::(.box bl [Sv raout_ rnout_ rcout_] 275)::(.box bc [Sv racs rncs rccs] 27)::(.box bf [.func (.func 240) #[] #[pp bp 0,pp bi 0,pp bo 0,pp bc 0,pp bf 0]] 276)::(rr raout_ rnout_ rcout_ 27 1 rxout_)::(rr racs rncs rccs 2 1 (cs_.map (Value.int .i64)))::ps) ((sF false Frest arest crest rest)::(sF false Fparts zL zH parts)::(xN true rFout_ rxout_ (gath out (begins (cs.take i) (packs parts (parts.length - i) i rest))))::Γ))
theorem packFrom_ok_step (f:Nat) (IH:∀ k,k < f->packFrom_ok_S k) {W0 w:World} {ps:List Prv} {Γ:List Fact} {Ns:List yLN} (i:Nat) (rest:yLI) (parts:yLL) (out:yLL) (cs:yLI) (arest:yOA) (crest:Nat) (Frest:yLN) (zL:yOA) (zH:Nat) (Fparts:yLN) (bp:Nat) (bi:Nat) (bq:Nat) (bo:Nat) (bl:Nat) (bc:Nat) (bf:Nat) (raout:yOA) (rnout:Nat) (rcout:Nat) (rxout:List Value) (rFout:yLN) (racs:yOA) (rncs:Nat) (rccs:Nat) (H:St W0 w ((.box bp [Sv zL parts.length zH] 41)::(.box bi [.func (.func 220) #[] #[pp bq 0]] 84)::(.box bq [Sv zL parts.length zH] 41)::(.box bo [pp bl 0] 273)::(.box bl [Sv raout rnout rcout] 275)::(.box bc [Sv racs rncs rccs] 27)::(.box bf [.func (.func 240) #[] #[pp bp 0,pp bi 0,pp bo 0,pp bc 0,pp bf 0]] 276)::(rr raout rnout rcout 27 1 rxout)::(rr racs rncs rccs 2 1 (cs.map (Value.int .i64)))::ps) ((sF false Frest arest crest rest)::(sF false Fparts zL zH parts)::(xN true rFout rxout out)::Γ)) (N:Fresh W0.heap.size (rFout::Ns)) (K0:Kept Ns Γ) (p0:i+f=parts.length) (p1:XQ parts rest) (p2:out.length<=2000) (p3:cs.length=parts.length):Calls Tryz.prog 240 #[yI i,Sv arest rest.length crest,pp bp 0,pp bi 0,pp bo 0,pp bc 0,pp bf 0] w (fun e w' =>∃ v,e=.returned v/\∃ (cs_:yLI) (raout_:yOA) (rnout_:Nat) (rcout_:Nat) (rxout_:List Value) (rFout_:yLN),(cs_.length=cs.length)/\(cs_.take i=cs.take i)/\v=Bv (dec ((gath out (begins (cs.take i) (packs parts (parts.length - i) i rest))).length<=2000))/\Fresh W0.heap.size (rFout_::Ns)/\St W0 w' ((.box bp [Sv zL parts.length zH] 41)::(.box bi [.func (.func 220) #[] #[pp bq 0]] 84)::(.box bq [Sv zL parts.length zH] 41)::(.box bo [pp bl 0] 273)::(.box bl [Sv raout_ rnout_ rcout_] 275)::(.box bc [Sv racs rncs rccs] 27)::(.box bf [.func (.func 240) #[] #[pp bp 0,pp bi 0,pp bo 0,pp bc 0,pp bf 0]] 276)::(rr raout_ rnout_ rcout_ 27 1 rxout_)::(rr racs rncs rccs 2 1 (cs_.map (Value.int .i64)))::ps) ((sF false Frest arest crest rest)::(sF false Fparts zL zH parts)::(xN true rFout_ rxout_ (gath out (begins (cs.take i) (packs parts (parts.length - i) i rest))))::Γ)):=by
 refine en func240 ntmps240 ?_
 have nrest:=qO (H.get 0 rfl).1
 have nparts:=qO (H.get 1 rfl).1
 obtain rfl:=H.xB (α:=yLI) 7 rfl 2 rfl qj
 obtain rfl:=H.yt 8 rfl
 have p4:=p1.small
 refine zcr (sp (Bv false) (zjcc (sp (yI i) (oL rfl (H.cell 0 rfl rfl) (oN rfl (sq 1 (zjn (cE rfl (fun h1=>?_) (fun h1=>?_)))))))))
 ·refine zcr (oL rfl (H.cell 1 rfl rfl) (sq 1 (sw (zN #[Sv arest rest.length crest,pp bq 0] rfl rfl call220 (en func220 ntmps220 ?_)))))
  refine zcr (sp (Bv false) (zjc (sq 1 (oL rfl (H.cell 2 rfl rfl) (sw (oq (isFull_ok _ rest parts (H.get 0 rfl).1 (H.get 1 rfl).1 qg) H fun w3 H=>sq 1 (zjr (ret1 (Bv (dec (FullOk parts rest))) rfl rfl ⟨_,rfl,(sp (Bv (!(dec (FullOk parts rest)))) (sp (Bv (!(dec (FullOk parts rest)))) ?_))⟩))))))))
  cases h5:(!(dec (FullOk parts rest)))
  ·replace h5:=qY h5
   replace h5:=yU h5
   refine qJ 19 rfl rfl (oL rfl (H.cell 3 rfl rfl) (qJ 19 rfl rfl (oL rfl (H.cell 5 rfl rfl) (qJ 19 rfl rfl (sw (zN #[pp bl 0,Sv racs cs.length rccs] rfl rfl call241 (en func241 ntmps241 ?_)))))))
   refine zcr (sp (Bv false) (zjcc (sq 2 (oF rfl (oL rfl (H.cell 4 rfl rfl) (oN rfl (sp (Bv (decide ((out.length:Int) > 2000))) (zjn (cD rfl (fun h6=>?_) (fun h6=>?_))))))))))
   ·refine zcr (sp (Bv false) (zjr (t_r (ret1 (Bv false) rfl rfl ⟨_,rfl,(sp (Bv false) (sp (Bv false) (zjr (t_r (ret1 (Bv false) rfl rfl ⟨_,rfl,?_⟩)))))⟩))))
    exfalso;omega
   refine qU (t_n (xU ?_))
   refine c_cut (fun ρ w12=>∃ (xQ:Env) (a7:yOA) (c8:Nat) (a9:yOA) (c10:Nat) (G11:yLN),ρ=upd xQ 0 (pp bl 0)/\Fresh W0.heap.size ((rFout++G11)::Ns)/\St W0 w12 ((.box bp [Sv zL parts.length zH] 41)::(.box bi [.func (.func 220) #[] #[pp bq 0]] 84)::(.box bq [Sv zL parts.length zH] 41)::(.box bo [pp bl 0] 273)::(.box bl [Sv a7 (out.length+1) c8] 275)::(.box bc [Sv racs cs.length rccs] 27)::(.box bf [.func (.func 240) #[] #[pp bp 0,pp bi 0,pp bo 0,pp bc 0,pp bf 0]] 276)::(rr a7 (out.length+1) c8 27 1 (rxout++[Sv a9 cs.length c10]))::(rr racs cs.length rccs 2 1 (cs.map (Value.int .i64)))::ps) ((xN true (rFout++G11) (rxout++[Sv a9 cs.length c10]) (out++[cs]))::(sF true G11 a9 c10 cs)::(sF false Frest arest crest rest)::(sF false Fparts zL zH parts)::Γ)) ?_ ?_
   ·refine c_drawK2 rfl H [0,1,2,3,5,6,8] [0,1,2] fun H=>?_
    have S:=H.jr [0,1,2,3,5,6,8] [0,1,2]
    refine rtl 0 S ?_
    refine rtl 1 S ?_
    refine rtl 2 S ?_
    refine tF 3 rfl rfl S ?_
    refine rtl 5 S ?_
    refine jb [4,6] qh qm (jM rfl ?_ (jM rfl ?_ jd))
    ·refine zK (Sv raout out.length rcout) isAgg41 rfl (H.cell 4 rfl rfl) (⟨H.pick [0,1,2,3,5,6,8] [0,1,2],(ro 6 rfl ?_)⟩)
     obtain ⟨G14,hn15,h16⟩:=H.QV 8 rfl
     have sz17:=H.base.size
     have lt18:=all_two (H.ltN (L:=[rFout]) [2]) (H.ltK (K0.behind 3 rfl))
     refine oc (cloneI_ok _ cs h16 qg) ?_
     rintro v22 w20 r22 x21
     replace H:=H.zt x21 r22
     obtain ⟨a23,c24,rfl,hc25,hm26⟩:=H.jm 0 rfl
     refine ⟨H.pick [1,2,3,4,6,7,9] [0,1,2],(ro 7 rfl (xx H underlying41 ti27 [Sv a23 cs.length c24] fun b27 w28 H=>⟨H.pick [2,3,4,5,7,8,10] [0,1,2],(ro 8 rfl ?_)⟩))⟩
     obtain ⟨G32,N,hn33,H⟩:=H.zh 1 rfl N (fun F hF b hb=>(List.mem_append.1 (show F∈[rFout]++Ns from hF)).elim (fun h=>(H.vz (L:=[rFout]) [2]) F h b hb) fun h=>H.XM (K0.behind 3 rfl) F h b hb)
     try dsimp only [List.set] at H
     refine zG H 9 rfl 0 rfl underlying41 ti27 rfl qj rfl rfl rfl qw qp qf fun a29 c30 w31 H=>?_
     try dsimp only [List.set] at H
     replace H:=H.yC 3 rfl 0 rfl
     replace N:Fresh W0.heap.size ((rFout++G32)::Ns):=(N.vW 2 [1,0] qo).join
     refine ⟨H.pick [2,3,4,5,7,8,10] [2,3,4],?_⟩
     have S:=H.jr [2,3,4,5,7,8,10] [2,3,4]
     refine rtl 9 S ?_
     refine tF 10 rfl rfl S ?_
     refine ro 11 rfl (zI H 6 [Sv a29 (out.length+1) c30] sizeOf41 fun w34 H=>?_)
     try dsimp only [List.set] at H
     refine ⟨H.pick [2,3,4,5,7,8,10] [2,3,4],(xA qh ((meet ⟨_,a29,c30,a23,c24,G32,uE1,N,H.vW 11 5 (zR 2 9) (zR 0 4) qo qo⟩)))⟩
    obtain ⟨G35,hn36,h37⟩:=H.QV 8 rfl
    have sz38:=H.base.size
    have lt39:=all_two (H.ltN (L:=[rFout]) [2]) (H.ltK (K0.behind 3 rfl))
    refine oc (cloneI_ok _ cs h37 qg) ?_
    rintro v43 w41 r43 x42
    replace H:=H.zt x42 r43
    obtain ⟨a44,c45,rfl,hc46,hm47⟩:=H.jm 0 rfl
    refine ⟨H.pick [1,2,3,4,6,7,9] [0,1,2],(jb [4,7] qh qm (jM rfl ?_ (jM rfl ?_ jd)))⟩
    ·refine zK (Sv raout out.length rcout) isAgg41 rfl (H.cell 5 rfl rfl) (⟨H.pick [1,2,3,4,6,7,9] [0,1,2],(ro 7 rfl (xx H underlying41 ti27 [Sv a44 cs.length c45] fun b48 w49 H=>⟨H.pick [2,3,4,5,7,8,10] [0,1,2],(ro 8 rfl ?_)⟩))⟩)
     obtain ⟨G53,N,hn54,H⟩:=H.zh 1 rfl N (fun F hF b hb=>(List.mem_append.1 (show F∈[rFout]++Ns from hF)).elim (fun h=>(H.vz (L:=[rFout]) [2]) F h b hb) fun h=>H.XM (K0.behind 3 rfl) F h b hb)
     try dsimp only [List.set] at H
     refine zG H 9 rfl 0 rfl underlying41 ti27 rfl qj rfl rfl rfl qw qp qf fun a50 c51 w52 H=>?_
     try dsimp only [List.set] at H
     replace H:=H.yC 3 rfl 0 rfl
     replace N:Fresh W0.heap.size ((rFout++G53)::Ns):=(N.vW 2 [1,0] qo).join
     refine ⟨H.pick [2,3,4,5,7,8,10] [2,3,4],?_⟩
     have S:=H.jr [2,3,4,5,7,8,10] [2,3,4]
     refine rtl 9 S ?_
     refine tF 10 rfl rfl S ?_
     refine ro 11 rfl (zI H 6 [Sv a50 (out.length+1) c51] sizeOf41 fun w55 H=>?_)
     try dsimp only [List.set] at H
     refine ⟨H.pick [2,3,4,5,7,8,10] [2,3,4],(xA qh ((meet ⟨_,a50,c51,a44,c45,G53,uE1,N,H.vW 11 5 (zR 2 9) (zR 0 4) qo qo⟩)))⟩
    refine xx H underlying41 ti27 [Sv a44 cs.length c45] fun b56 w57 H=>⟨H.pick [2,3,4,5,7,8,10] [0,1,2],(ro 4 rfl (zK (Sv raout out.length rcout) isAgg41 rfl (H.cell 6 rfl rfl) (⟨H.pick [2,3,4,5,7,8,10] [0,1,2],(ro 8 rfl ?_)⟩)))⟩
    obtain ⟨G61,N,hn62,H⟩:=H.zh 1 rfl N (fun F hF b hb=>(List.mem_append.1 (show F∈[rFout]++Ns from hF)).elim (fun h=>(H.vz (L:=[rFout]) [2]) F h b hb) fun h=>H.XM (K0.behind 3 rfl) F h b hb)
    try dsimp only [List.set] at H
    refine zG H 9 rfl 0 rfl underlying41 ti27 rfl qj rfl rfl rfl qw qp qf fun a58 c59 w60 H=>?_
    try dsimp only [List.set] at H
    replace H:=H.yC 3 rfl 0 rfl
    replace N:Fresh W0.heap.size ((rFout++G61)::Ns):=(N.vW 2 [1,0] qo).join
    refine ⟨H.pick [2,3,4,5,7,8,10] [2,3,4],?_⟩
    have S:=H.jr [2,3,4,5,7,8,10] [2,3,4]
    refine rtl 9 S ?_
    refine tF 10 rfl rfl S ?_
    refine ro 11 rfl (zI H 6 [Sv a58 (out.length+1) c59] sizeOf41 fun w63 H=>?_)
    try dsimp only [List.set] at H
    refine ⟨H.pick [2,3,4,5,7,8,10] [2,3,4],(xA qh ((meet ⟨_,a58,c59,a44,c45,G61,uE1,N,H.vW 11 5 (zR 2 9) (zR 0 4) qo qo⟩)))⟩
   clear H N
   rintro ρ w64 ⟨xQ,a7,c8,a9,c10,G11,rfl,N,H⟩
   refine t_n (zcr (sq 2 (oF rfl (oL rfl (H.cell 4 rfl rfl) (oN rfl (sp (Bv (decide ((out.length+1:Int)<=2000))) (sp (Bv (decide ((out.length+1:Int)<=2000))) (zjr (ret1 (Bv (decide ((out.length+1:Int)<=2000))) rfl rfl ⟨_,rfl,(sp (Bv (decide ((out.length+1:Int)<=2000))) (sp (Bv (decide ((out.length+1:Int)<=2000))) (zjr (t_r (ret1 (Bv (decide ((out.length+1:Int)<=2000))) rfl rfl ⟨_,rfl,?_⟩)))))⟩)))))))))
   rw [pack_fullI qf p3 ‹FullOk _ _› p2,show decide ((out.length+1:Int)<=2000)=dec ((out++[cs]).length<=2000) from dec_eq qy]
   exact ⟨cs,a7,out.length+1,c8,rxout++[Value.slice a9 cs.length c10],(rFout++G11),(by first | rfl | omega | (have:=‹_=(List.set _ _ _).length›;rw [List.length_set] at this;omega)),(by first | rfl | assumption | exact pack_keep ‹_› j2),rfl,N,H.vW 9 4 (zR 0 9) [2,3,0] qo qo⟩
  replace h5:=xm h5
  replace h5:=zX h5
  refine xR [20,21,22] (sp (Bv true) (sp (Bv true) (zjr (t_r (ret1 (Bv true) rfl rfl ⟨_,rfl,?_⟩)))))
  rw [pack_noneI qf ‹_› p2,jS p2]
  exact ⟨cs,raout,out.length,rcout,rxout,rFout,(by first | rfl | omega | (have:=‹_=(List.set _ _ _).length›;rw [List.length_set] at this;omega)),(by first | rfl | assumption | exact pack_keep ‹_› j2),rfl,N,H.vW 9 3 (zR 0 9) [0,1,2] qo qo⟩
 refine qU (t_n (zcc (sp (yI 0) (zjn (qV ?_)))))
 obtain ⟨t1,t2,t3,t4,t5,t6⟩:=p1.times (k:=i) qf
 refine zA ((fun Z0 Z1 Z2 Z3 Z4 Z5 Z6 Z7=>fun m' ρ w65=>∃ (xQ:Env) (n:Nat) (a_out_lists:yOA) (n_out_lists:Nat) (c_out_lists:Nat) (out_lists:yLL) (x_out_lists:List Value) (Xd:yLN) (cs_1:yLI),ρ=upd (upd (upd (upd (upd (upd xQ 0 (yI i)) 1 (Sv arest rest.length crest)) 2 (pp bp 0)) 5 (pp bc 0)) 6 (pp bf 0)) 10 (yI n)/\out_lists=(gath out (begins (cs.take i) (jZ parts (f - 1) i rest n)))/\((n:Int)<=jF (parts[i]!) rest+1)/\(cs_1.length=parts.length)/\(cs_1.take i=cs.take i)/\((gath out (begins (cs.take i) (jZ parts (f - 1) i rest n))).length<=2000)/\m' =(jF (parts[i]!) rest+1 - (n:Int)).toNat/\Fresh W0.heap.size (Xd::Ns)/\St W0 w65 (Z0::Z1::Z2::Z3::(.box bl [Sv a_out_lists n_out_lists c_out_lists] 275)::Z4::Z5::(rr a_out_lists n_out_lists c_out_lists 27 1 x_out_lists)::(rr racs cs.length rccs 2 1 (cs_1.map (Value.int .i64)))::ps) (Z6::Z7::(xN true Xd x_out_lists out_lists)::Γ)) _ _ _ _ _ _ _ _) ((jF (parts[i]!) rest+1 - (0:Int)).toNat) ⟨_,0,raout,out.length,rcout,out,rxout,rFout,cs,uE6,(by exact pack_startI p2),qf,ql,(by rfl),(by rw [← pack_startI p2];exact p2),rfl,N,H⟩ ?_
 clear H N
 rintro m' ρ w66 ⟨xQ,n,a_out_lists,n_out_lists,c_out_lists,out_lists,x_out_lists,Xd,cs_1,rfl,rfl,i0,j1,j2,j3,rfl,N,H⟩
 have hn_out_lists:=H.xB (α:=yLI) 7 rfl 2 rfl qj
 have hn_cs:=H.yt 8 rfl
 refine zcc (sp (yI n) (oL rfl (H.cell 0 rfl rfl) (sp (yI i) ?_)))
 obtain ⟨b67,o68,rfl⟩:=H.addr 1 rfl qf
 obtain ⟨ae70,ce70,Fe70,H⟩:=H.ji 1 rfl i i qf qf qf
 refine oI rfl rfl (oL rfl (H.xW 1 rfl 0 rfl) (sq 1 ?_))
 obtain ⟨t1,t2,t3,t4,t5,t6⟩:=p1.times (k:=i) qf
 refine sw (oq (timesIn_ok _ (parts[i]!) rest (H.get 0 rfl).1 (H.get 2 rfl).1 qg qg) H fun w72 H=>sq 1 (zjn (cD rfl (fun h74=>?_) (fun h74=>?_))))
 ·refine qU (t_n (xU (qV (zcr (oL rfl (H.cell 5 rfl rfl) (sp (yI i) (sp (yI n) ?_)))))))
  obtain ⟨b75,rfl⟩:=H.y5 8 rfl qf
  refine oI rfl rfl (sw (XB H 8 rfl n sizeOf2 rfl rfl (i:=i) qf qf fun w76 H=>?_))
  try dsimp only [List.set] at H
  refine zjn (xU ?_)
  refine c_drawK2 rfl H [0,1,2,3,5,6] [0,1,2,3] fun H=>?_
  have S:=H.jr [0,1,2,3,5,6] (zR 0 4)
  refine tL 0 rfl rfl (fun _ h=>h.cell 5 rfl rfl) S ?_
  refine rtp 1 (yI i) S ?_
  refine rt 2 _ (y_add i 1 rfl rfl qf) S ?_
  refine rtl 3 S ?_
  refine tL 4 rfl rfl (fun _ h=>h.cell 0 rfl rfl) S ?_
  refine rtp 5 (yI i) S ?_
  refine tI 6 rfl rfl rfl S ?_
  refine tL 7 rfl rfl (fun _ h=>h.xW 1 rfl 0 rfl) S ?_
  refine rtp 8 (yI n) S ?_
  refine rt 9 _ (y_neg n rfl qf) S ?_
  refine ro 10 rfl ?_
  obtain ⟨u1,u2,u3,u4⟩:=p1.plus (k:=i) qf (n:=(n:Int)) qf qf
  have sz78:=H.base.size
  have lt79:=all_two (H.ltN (L:=[Xd]) [4]) (H.ltK (K0.behind 5 rfl))
  refine oc (plus_ok _ rest (parts[i]!) (-n) (H.get 2 rfl).1 (H.get 0 rfl).1 qg qg qg) ?_
  rintro v83 w81 r83 x82
  replace H:=H.zt x82 r83
  obtain ⟨a84,c85,rfl,hc86,hm87⟩:=H.jm 0 rfl
  refine ⟨H.pick [1,2,3,4,6,7] (zR 0 4),(ro 11 rfl ?_)⟩
  obtain ⟨G88,N,hn89,H⟩:=H.zh 0 rfl N (fun F hF b hb=>(List.mem_append.1 (show F∈[Xd]++Ns from hF)).elim (fun h=>(H.vz (L:=[Xd]) [4]) F h b hb) fun h=>H.XM (K0.behind 5 rfl) F h b hb)
  try dsimp only [List.set] at H
  replace H:=H.ja 0 rfl
  have H1:=H.pickE 10 7 [1,2,3,4,5,6,7,8,9,0] [0,5,6,0,1,2,3,4] qo qo
  have N1:Fresh _ (Xd::G88::Ns):=(N.vW 2 [1,0] qo)
  have K1:Kept (Ns) ((sF false G88 a84 c85 (jP rest (parts[i]!) (-n)))::(sF true G88 a84 c85 (jP rest (parts[i]!) (-n)))::(sF false Fe70 ae70 ce70 (parts[i]!))::(atF b67 (o68+(i:Int).toNat * 1) [Sv ae70 ((parts[i]!).length) ce70])::(sF false Frest arest crest rest)::Γ):=K0.behind 5 rfl
  replace K1:=K1.cons (F:=G88) 0 rfl rfl
  refine jg #[yI (i+1),Sv a84 ((jP rest (parts[i]!) (-n)).length) c85,pp bp 0,pp bi 0,pp bo 0,pp bc 0,pp bf 0] rfl rfl call240 (IH (f - 1) qf (i+1) (jP rest (parts[i]!) (-n)) parts (gath out (begins (cs.take i) (jZ parts (f - 1) i rest n))) (cs_1.set i n) a84 c85 G88 (aa b67 o68) zH Fparts bp bi bq bo bl bc bf a_out_lists n_out_lists c_out_lists x_out_lists Xd (aa b75 0) cs.length rccs H1 N1 K1 qf (by first | assumption | exact u4) (by first | assumption | exact j3 | (simp;done)) (by first | assumption | (rw [List.length_set];exact j1) | (simp;done))) ?_
  clear H H1 N1 K1
  rintro _ w90 ⟨zl94,ra95,rn96,rc97,rx98,rF99,hx92,hx93,rfl,N,H⟩
  obtain rfl:=H.xB (α:=yLI) 7 rfl 2 rfl qj
  refine ⟨H.pick [0,1,2,3,5,6] [5,6,7,1],(rtp 12 (Bv (!(dec ((gath (gath out (begins (cs.take i) (jZ parts (f - 1) i rest n))) (begins ((cs_1.set i n).take (i+1)) (packs parts (parts.length - (i+1)) (i+1) (jP rest (parts[i]!) (-n))))).length<=2000)))) (H.pick [0,1,2,3,5,6] [5,6,7,1]) ?_)⟩
  refine xA qh (t_n (cQ rfl (fun h100=>?_) (fun h100=>?_)))
  ·refine zcr (sp (Bv false) (zjr (zr5 (ret1 (Bv false) rfl rfl ⟨_,rfl,?_⟩))))
   have e1:=pack_stepI (out:=out) p0 qf j1 j2 j3
   have e2:=‹¬ (gath (gath _ _) _).length<=2000›
   rw [e1] at e2
   rw [pack_endI (n:=n+1) p0 qf qf qf (.inr e2),← e1,xh (by rw [e1];exact e2)]
   exact ⟨zl94,ra95,(gath (gath out (begins (cs.take i) (jZ parts (f - 1) i rest n))) (begins ((cs_1.set i n).take (i+1)) (packs parts (parts.length - (i+1)) (i+1) (jP rest (parts[i]!) (-n))))).length,rc97,rx98,rF99,(by first | rfl | omega | (have:=‹_=(List.set _ _ _).length›;rw [List.length_set] at this;omega)),(by first | rfl | assumption | exact pack_keep ‹_› j2),rfl,(N.vW 2 [0] qo),H.vW 10 8 (zR 0 9) [7,1,2] qo qo⟩
  refine qU (b_n (t_n (xK (sp (yI n) (sw (zi n 1 rfl rfl qf (sq 1 (xP (qW (m' :=(jF (parts[i]!) rest+1 - ((n+1):Int)).toNat) qf ⟨_,n+1,_,_,_,_,_,_,_,uE6,?_,?_,?_,?_,?_,rfl,(N.vW 2 [0] qo),H.vW 10 8 (zR 0 9) [7,1,2] qo qo⟩)))))))))
  ·exact pack_stepI p0 qf j1 j2 j3
  ·omega
  ·have:=‹_=(List.set _ _ _).length›;rw [List.length_set] at this;omega
  ·exact pack_keep ‹_› j2
  ·rw [← pack_stepI p0 qf j1 j2 j3];assumption
 refine zx4 (zcr (sp (Bv true) (zjr (ret1 (Bv true) rfl rfl ⟨_,rfl,?_⟩))))
 rw [pack_endI (f:=f) (n:=n) p0 qf i0 qf (.inl qf),jS j3]
 exact ⟨cs_1,a_out_lists,n_out_lists,c_out_lists,x_out_lists,Xd,(by first | rfl | omega | (have:=‹_=(List.set _ _ _).length›;rw [List.length_set] at this;omega)),(by first | rfl | assumption | exact pack_keep ‹_› j2),rfl,N,H.vW 9 5 (zR 0 9) [2,3,4] qo qo⟩
theorem packFrom_ok (f:Nat):packFrom_ok_S f:=Nat.strongRecOn (motive:=packFrom_ok_S) f fun f IH=>by unfold packFrom_ok_S;intros;apply packFrom_ok_step f IH <;> assumption
theorem maxPack_ok (w:World) (b:yLI) (parts:yLL) (hb:zP w Fb ab cb b) (hparts:zP w Fparts zL zH parts) (p0:XQ parts b) (p1:1<=parts.length):Calls Tryz.prog 199 #[Sv ab b.length cb,Sv zL parts.length zH] w (Ret (fun v w' =>∃ (ra0:yOA) (rn0:Nat) (rc0:Nat) (rx0:List Value) (rF0:yLN),v=.tuple #[Sv ra0 rn0 rc0,yI ((yg b parts).2)]/\Fresh w.heap.size [rF0]/\St w w' [rr ra0 rn0 rc0 27 1 rx0] [xN true rF0 rx0 ((yg b parts).1)]) w):=by
 refine en func199 ntmps199 ?_
 have H:=((St.start w).arg hparts).arg hb
 have nhb:=qO hb
 have nhparts:=qO hparts
 clear hb hparts
 have N:=Fresh.nil w.heap.size
 have p3:=p0.small
 have p4:=p0.smallB
 refine zcr (sw (zY H [Sv zL parts.length zH] fun b1 w2 H=>sq 1 (sp (yI 0) (zjc (sq 1 (oL rfl (H.cell 0 rfl rfl) (sp (.func (.func 220) #[] #[pp b1 0]) (sw (zN #[Sv ab b.length cb,Sv zL parts.length zH,.func (.func 220) #[] #[pp b1 0]] rfl rfl call219 (en func219 ntmps219 ?_))))))))))
 refine zcr (sw (zY H [Sv zL parts.length zH] fun b3 w4 H=>sw (zY H [.func (.func 220) #[] #[pp b1 0]] fun b5 w6 H=>sq 1 (sp (yI 0) (zjcc (sq 1 (oL rfl (H.cell 1 rfl rfl) (sw (oq (bagAndParts_ok _ b parts (H.get 0 rfl).1 (H.get 1 rfl).1 qg qg) H fun w8 H=>sp (yI 0) (zjc (sp (yI 0) (sp (Bv false) (zjn (cFr rfl (qU (t_n (zcc (sq 1 ?_))))))))))))))))))
 refine sw (oq (XC _ b (H.get 0 rfl).1 (by first | assumption | exact vP ql | exact yX ql)) H fun w10 H=>sp (Bv (decide ((Xh b:Int) > 16))) (zjn (cD rfl (fun h12=>?_) (fun h12=>?_))))
 ·refine zcr (sq 1 (sp (yI 3) (zjr (t_r (ret2 yN (yI 3) rfl rfl rfl ⟨_,rfl,?_⟩)))))
  replace H:=H.erases [1,0]
  dsimp only [zU,List.eraseIdx] at H
  refine sq 1 (sp (yI 3) (sq 1 (sp (yI 3) (zjr ?_))))
  replace H:=H.nilRow 27 1
  replace H:=H.vV (α:=yLI)
  refine ret2 yN (yI 3) rfl rfl rfl ⟨_,rfl,?_,H.base⟩
  first | rw [all_a ql] | rw [all_bI (cs:=(List.replicate parts.length (0:Int))) ql qf]
  exact ⟨none,0,0,[],[],rfl,N.emp,H.pick [0] [0]⟩
 refine qU (t_n (xU ?_))
 refine c_cut (fun ρ w17=>∃ (xQ:Env) (b13:Nat) (b14:Nat) (b15:Nat) (b16:Nat),ρ=upd (upd (upd (upd (upd xQ 0 (Sv ab b.length cb)) 4 (pp b3 0)) 5 (pp b5 0)) 9 (pp b13 0)) 10 (pp b14 0)/\Fresh w.heap.size []/\St w w17 [.box b14 [Sv (aa b15 0) parts.length parts.length] 27,.box b13 [pp b16 0] 273,rr (aa b15 0) parts.length parts.length 2 1 ((List.replicate parts.length (0:Int)).map (Value.int .i64)),.box b16 [yN] 275,.box b5 [.func (.func 220) #[] #[pp b1 0]] 84,.box b3 [Sv zL parts.length zH] 41,.box b1 [Sv zL parts.length zH] 41] [sF false Fb ab cb b,sF false Fparts zL zH parts]) ?_ ?_
 ·refine jw rfl H fun H=>?_
  refine Xm (fun ρ w23=>∃ (xQ:Env) (b19:Nat) (b20:Nat) (b21:Nat),ρ=upd (upd (upd (upd (upd (upd (upd xQ 0 (Sv ab b.length cb)) 4 (pp b3 0)) 5 (pp b5 0)) 9 (pp b20 0)) 10 (pp b21 0)) 22 (pp b19 0)) 24 (yI parts.length)/\Fresh w.heap.size []/\St w w23 [.box b21 [yN] 27,.box b20 [.pointer none] 273,.box b19 [yN] 275,.box b5 [.func (.func 220) #[] #[pp b1 0]] 84,.box b3 [Sv zL parts.length zH] 41,.box b1 [Sv zL parts.length zH] 41] [sF false Fb ab cb b,sF false Fparts zL zH parts]) 3 #[true,true,true,true,false,true,true,false,false] ?_ fun L22=>?_
  ·rintro ρ w24 ⟨xQ,b19,b20,b21,rfl,N,H⟩
   refine jb [4,7] qh qm (jM rfl ?_ (jM rfl ?_ jd))
   ·refine Qr H underlying27 ti2 parts.length rfl rfl qf qf qf fun b25 w26 H=>⟨H.pick [4,5,6] [0,1],(ro 7 rfl (zI H 2 [pp b19 0] sizeOf273 fun w27 H=>⟨H.pick [4,5,6] [0,1],(ro 8 rfl (zI H 1 [Sv (aa b25 0) parts.length parts.length] sizeOf27 fun w28 H=>⟨H.pick [4,5,6] [0,1],(xA qh ((meet ⟨_,b20,b21,b25,b19,uE5,N,H.pick [1,2,0,3,4,5,6] [0,1]⟩)))⟩))⟩))⟩
   refine zI H 1 [pp b19 0] sizeOf273 fun w29 H=>⟨H.pick [3,4,5] [0,1],(ro 4 rfl (Qr H underlying27 ti2 parts.length rfl rfl qf qf qf fun b30 w31 H=>⟨H.pick [4,5,6] [0,1],(ro 8 rfl (zI H 1 [Sv (aa b30 0) parts.length parts.length] sizeOf27 fun w32 H=>⟨H.pick [4,5,6] [0,1],(xA qh ((meet ⟨_,b20,b21,b30,b19,uE5,N,H.pick [1,2,0,3,4,5,6] [0,1]⟩)))⟩))⟩))⟩
  refine Xm (fun ρ w36=>∃ (xQ:Env) (b33:Nat) (b34:Nat),ρ=upd (upd (upd (upd (upd xQ 0 (Sv ab b.length cb)) 4 (pp b3 0)) 5 (pp b5 0)) 22 (pp b33 0)) 25 (Sv (aa b34 0) parts.length parts.length)/\Fresh w.heap.size []/\St w w36 [rr (aa b34 0) parts.length parts.length 2 1 ((List.replicate parts.length (0:Int)).map (Value.int .i64)),.box b33 [yN] 275,.box b5 [.func (.func 220) #[] #[pp b1 0]] 84,.box b3 [Sv zL parts.length zH] 41,.box b1 [Sv zL parts.length zH] 41] [sF false Fb ab cb b,sF false Fparts zL zH parts]) 4 #[true,true,true,true,true,false,false,false,false] ?_ fun L35=>?_
  ·rintro ρ w37 ⟨xQ,b33,b34,rfl,N,H⟩
   refine jb [5,6] qh qm (jM rfl ?_ (jM rfl ?_ jd))
   ·refine xH H ti273 [.pointer none] fun b38 w39 H=>⟨H.pick [3,4,5] [0,1],(ro 6 rfl (xH H ti27 [yN] fun b40 w41 H=>⟨H.pick [4,5,6] [0,1],(ro 7 rfl (zI H 1 [pp b33 0] sizeOf273 fun w42 H=>⟨H.pick [4,5,6] [0,1],(ro 8 rfl (zI H 0 [Sv (aa b34 0) parts.length parts.length] sizeOf27 fun w43 H=>⟨H.pick [4,5,6] [0,1],(xA qh ((meet ⟨_,b38,b40,b34,b33,uE5,N,H⟩)))⟩))⟩))⟩))⟩
   refine xH H ti27 [yN] fun b44 w45 H=>⟨H.pick [3,4,5] [0,1],(ro 5 rfl (xH H ti273 [.pointer none] fun b46 w47 H=>⟨H.pick [4,5,6] [0,1],(ro 7 rfl (zI H 0 [pp b33 0] sizeOf273 fun w48 H=>⟨H.pick [4,5,6] [0,1],(ro 8 rfl (zI H 1 [Sv (aa b34 0) parts.length parts.length] sizeOf27 fun w49 H=>⟨H.pick [4,5,6] [0,1],(xA qh ((meet ⟨_,b46,b44,b34,b33,uE5,N,H.pick (1::0::zR 2 5) [0,1]⟩)))⟩))⟩))⟩))⟩
  refine Xm (fun ρ w53=>∃ (xQ:Env) (b50:Nat) (b51:Nat),ρ=upd (upd (upd (upd (upd (upd xQ 0 (Sv ab b.length cb)) 4 (pp b3 0)) 5 (pp b5 0)) 9 (pp b51 0)) 22 (pp b50 0)) 24 (yI parts.length)/\Fresh w.heap.size []/\St w w53 [.box b51 [.pointer none] 273,.box b50 [yN] 275,.box b5 [.func (.func 220) #[] #[pp b1 0]] 84,.box b3 [Sv zL parts.length zH] 41,.box b1 [Sv zL parts.length zH] 41] [sF false Fb ab cb b,sF false Fparts zL zH parts]) 4 #[true,true,true,true,false,true,false,false,false] ?_ fun L52=>?_
  ·rintro ρ w54 ⟨xQ,b50,b51,rfl,N,H⟩
   refine jb [4,6] qh qm (jM rfl ?_ (jM rfl ?_ jd))
   ·refine Qr H underlying27 ti2 parts.length rfl rfl qf qf qf fun b55 w56 H=>⟨H.pick [3,4,5] [0,1],(ro 6 rfl (xH H ti27 [yN] fun b57 w58 H=>⟨H.pick [4,5,6] [0,1],(ro 7 rfl (zI H 2 [pp b50 0] sizeOf273 fun w59 H=>⟨H.pick [4,5,6] [0,1],(ro 8 rfl (zI H 0 [Sv (aa b55 0) parts.length parts.length] sizeOf27 fun w60 H=>⟨H.pick [4,5,6] [0,1],(xA qh ((meet ⟨_,b51,b57,b55,b50,uE5,N,H.pick [0,2,1,3,4,5,6] [0,1]⟩)))⟩))⟩))⟩))⟩
   refine xH H ti27 [yN] fun b61 w62 H=>⟨H.pick [3,4,5] [0,1],(Qo L22 ⟨_,b50,b51,b61,uE7,N,H⟩)⟩
  refine Xm (fun ρ w66=>∃ (xQ:Env) (b63:Nat) (b64:Nat),ρ=upd (upd (upd (upd (upd (upd xQ 0 (Sv ab b.length cb)) 4 (pp b3 0)) 5 (pp b5 0)) 10 (pp b64 0)) 22 (pp b63 0)) 24 (yI parts.length)/\Fresh w.heap.size []/\St w w66 [.box b64 [yN] 27,.box b63 [yN] 275,.box b5 [.func (.func 220) #[] #[pp b1 0]] 84,.box b3 [Sv zL parts.length zH] 41,.box b1 [Sv zL parts.length zH] 41] [sF false Fb ab cb b,sF false Fparts zL zH parts]) 4 #[true,true,true,true,false,false,true,false,false] ?_ fun L65=>?_
  ·rintro ρ w67 ⟨xQ,b63,b64,rfl,N,H⟩
   refine jb [4,5] qh qm (jM rfl ?_ (jM rfl ?_ jd))
   ·refine Qr H underlying27 ti2 parts.length rfl rfl qf qf qf fun b68 w69 H=>⟨H.pick [3,4,5] [0,1],(ro 5 rfl (xH H ti273 [.pointer none] fun b70 w71 H=>⟨H.pick [4,5,6] [0,1],(ro 7 rfl (zI H 0 [pp b63 0] sizeOf273 fun w72 H=>⟨H.pick [4,5,6] [0,1],(ro 8 rfl (zI H 2 [Sv (aa b68 0) parts.length parts.length] sizeOf27 fun w73 H=>⟨H.pick [4,5,6] [0,1],(xA qh ((meet ⟨_,b70,b64,b68,b63,uE5,N,H.pick [2,0,1,3,4,5,6] [0,1]⟩)))⟩))⟩))⟩))⟩
   refine xH H ti273 [.pointer none] fun b74 w75 H=>⟨H.pick [3,4,5] [0,1],(Qo L22 ⟨_,b63,b74,b64,uE7,N,H.pick [1,0,2,3,4,5] [0,1]⟩)⟩
  refine Xm (fun ρ w79=>∃ (xQ:Env) (b76:Nat) (b77:Nat),ρ=upd (upd (upd (upd (upd (upd xQ 0 (Sv ab b.length cb)) 4 (pp b3 0)) 5 (pp b5 0)) 9 (pp b77 0)) 21 (.agg #[yN])) 25 (Sv (aa b76 0) parts.length parts.length)/\Fresh w.heap.size []/\St w w79 [.box b77 [.pointer none] 273,rr (aa b76 0) parts.length parts.length 2 1 ((List.replicate parts.length (0:Int)).map (Value.int .i64)),.box b5 [.func (.func 220) #[] #[pp b1 0]] 84,.box b3 [Sv zL parts.length zH] 41,.box b1 [Sv zL parts.length zH] 41] [sF false Fb ab cb b,sF false Fparts zL zH parts]) 4 #[true,false,true,true,true,true,false,false,false] ?_ fun L78=>?_
  ·rintro ρ w80 ⟨xQ,b76,b77,rfl,N,H⟩
   refine jb [1,6] qh qm (jM rfl ?_ (jM rfl ?_ jd))
   ·refine zY H [yN] fun b81 w82 H=>⟨H.pick [3,4,5] [0,1],(ro 6 rfl (xH H ti27 [yN] fun b83 w84 H=>⟨H.pick [4,5,6] [0,1],(ro 7 rfl (zI H 2 [pp b81 0] sizeOf273 fun w85 H=>⟨H.pick [4,5,6] [0,1],(ro 8 rfl (zI H 0 [Sv (aa b76 0) parts.length parts.length] sizeOf27 fun w86 H=>⟨H.pick [4,5,6] [0,1],(xA qh ((meet ⟨_,b77,b83,b76,b81,uE5,N,H.pick [0,2,3,1,4,5,6] [0,1]⟩)))⟩))⟩))⟩))⟩
   refine xH H ti27 [yN] fun b87 w88 H=>⟨H.pick [3,4,5] [0,1],(ro 1 rfl (zY H [yN] fun b89 w90 H=>⟨H.pick [4,5,6] [0,1],(ro 7 rfl (zI H 2 [pp b89 0] sizeOf273 fun w91 H=>⟨H.pick [4,5,6] [0,1],(ro 8 rfl (zI H 1 [Sv (aa b76 0) parts.length parts.length] sizeOf27 fun w92 H=>⟨H.pick [4,5,6] [0,1],(xA qh ((meet ⟨_,b77,b87,b76,b89,uE5,N,H.pick [1,2,3,0,4,5,6] [0,1]⟩)))⟩))⟩))⟩))⟩
  refine Xm (fun ρ w96=>∃ (xQ:Env) (b93:Nat) (b94:Nat),ρ=upd (upd (upd (upd (upd (upd xQ 0 (Sv ab b.length cb)) 4 (pp b3 0)) 5 (pp b5 0)) 10 (pp b94 0)) 21 (.agg #[yN])) 25 (Sv (aa b93 0) parts.length parts.length)/\Fresh w.heap.size []/\St w w96 [.box b94 [yN] 27,rr (aa b93 0) parts.length parts.length 2 1 ((List.replicate parts.length (0:Int)).map (Value.int .i64)),.box b5 [.func (.func 220) #[] #[pp b1 0]] 84,.box b3 [Sv zL parts.length zH] 41,.box b1 [Sv zL parts.length zH] 41] [sF false Fb ab cb b,sF false Fparts zL zH parts]) 4 #[true,false,true,true,true,false,true,false,false] ?_ fun L95=>?_
  ·rintro ρ w97 ⟨xQ,b93,b94,rfl,N,H⟩
   refine jb [1,5] qh qm (jM rfl ?_ (jM rfl ?_ jd))
   ·refine zY H [yN] fun b98 w99 H=>⟨H.pick [3,4,5] [0,1],(ro 5 rfl (xH H ti273 [.pointer none] fun b100 w101 H=>⟨H.pick [4,5,6] [0,1],(ro 7 rfl (zI H 0 [pp b98 0] sizeOf273 fun w102 H=>⟨H.pick [4,5,6] [0,1],(ro 8 rfl (zI H 2 [Sv (aa b93 0) parts.length parts.length] sizeOf27 fun w103 H=>⟨H.pick [4,5,6] [0,1],(xA qh ((meet ⟨_,b100,b94,b93,b98,uE5,N,H.pick [2,0,3,1,4,5,6] [0,1]⟩)))⟩))⟩))⟩))⟩
   refine xH H ti273 [.pointer none] fun b104 w105 H=>⟨H.pick [3,4,5] [0,1],(ro 1 rfl (zY H [yN] fun b106 w107 H=>⟨H.pick [4,5,6] [0,1],(ro 7 rfl (zI H 1 [pp b106 0] sizeOf273 fun w108 H=>⟨H.pick [4,5,6] [0,1],(ro 8 rfl (zI H 2 [Sv (aa b93 0) parts.length parts.length] sizeOf27 fun w109 H=>⟨H.pick [4,5,6] [0,1],(xA qh ((meet ⟨_,b104,b94,b93,b106,uE5,N,H.pick [2,1,3,0,4,5,6] [0,1]⟩)))⟩))⟩))⟩))⟩
  refine Xm (fun ρ w113=>∃ (xQ:Env) (b110:Nat) (b111:Nat),ρ=upd (upd (upd (upd (upd (upd (upd xQ 0 (Sv ab b.length cb)) 4 (pp b3 0)) 5 (pp b5 0)) 9 (pp b110 0)) 10 (pp b111 0)) 21 (.agg #[yN])) 24 (yI parts.length)/\Fresh w.heap.size []/\St w w113 [.box b111 [yN] 27,.box b110 [.pointer none] 273,.box b5 [.func (.func 220) #[] #[pp b1 0]] 84,.box b3 [Sv zL parts.length zH] 41,.box b1 [Sv zL parts.length zH] 41] [sF false Fb ab cb b,sF false Fparts zL zH parts]) 4 #[true,false,true,true,false,true,true,false,false] ?_ fun L112=>?_
  ·rintro ρ w114 ⟨xQ,b110,b111,rfl,N,H⟩
   refine jb [1,4] qh qm (jM rfl ?_ (jM rfl ?_ jd))
   ·refine zY H [yN] fun b115 w116 H=>⟨H.pick [3,4,5] [0,1],(Qo L22 ⟨_,b115,b110,b111,uE7,N,H.pick [1,2,0,3,4,5] [0,1]⟩)⟩
   refine Qr H underlying27 ti2 parts.length rfl rfl qf qf qf fun b117 w118 H=>⟨H.pick [3,4,5] [0,1],(ro 1 rfl (zY H [yN] fun b119 w120 H=>⟨H.pick [4,5,6] [0,1],(ro 7 rfl (zI H 3 [pp b119 0] sizeOf273 fun w121 H=>⟨H.pick [4,5,6] [0,1],(ro 8 rfl (zI H 2 [Sv (aa b117 0) parts.length parts.length] sizeOf27 fun w122 H=>⟨H.pick [4,5,6] [0,1],(xA qh ((meet ⟨_,b110,b111,b117,b119,uE5,N,H.pick [2,3,1,0,4,5,6] [0,1]⟩)))⟩))⟩))⟩))⟩
  refine Xm (fun ρ w125=>∃ (xQ:Env) (b123:Nat),ρ=upd (upd (upd (upd (upd xQ 0 (Sv ab b.length cb)) 4 (pp b3 0)) 5 (pp b5 0)) 21 (.agg #[yN])) 25 (Sv (aa b123 0) parts.length parts.length)/\Fresh w.heap.size []/\St w w125 [rr (aa b123 0) parts.length parts.length 2 1 ((List.replicate parts.length (0:Int)).map (Value.int .i64)),.box b5 [.func (.func 220) #[] #[pp b1 0]] 84,.box b3 [Sv zL parts.length zH] 41,.box b1 [Sv zL parts.length zH] 41] [sF false Fb ab cb b,sF false Fparts zL zH parts]) 5 #[true,false,true,true,true,false,false,false,false] ?_ fun L124=>?_
  ·rintro ρ w126 ⟨xQ,b123,rfl,N,H⟩
   refine jb [1,5,6] qh qm (jM rfl ?_ (jM rfl ?_ (jM rfl ?_ jd)))
   ·refine zY H [yN] fun b127 w128 H=>⟨H.pick [2,3,4] [0,1],(Qo L35 ⟨_,b127,b123,uE5,N,H.pick [1,0,2,3,4] [0,1]⟩)⟩
   ·refine xH H ti273 [.pointer none] fun b129 w130 H=>⟨H.pick [2,3,4] [0,1],(Qo L78 ⟨_,b123,b129,uE6,N,H⟩)⟩
   refine xH H ti27 [yN] fun b131 w132 H=>⟨H.pick [2,3,4] [0,1],(Qo L95 ⟨_,b123,b131,uE6,N,H⟩)⟩
  refine Xm (fun ρ w135=>∃ (xQ:Env) (b133:Nat),ρ=upd (upd (upd (upd (upd (upd xQ 0 (Sv ab b.length cb)) 4 (pp b3 0)) 5 (pp b5 0)) 9 (pp b133 0)) 21 (.agg #[yN])) 24 (yI parts.length)/\Fresh w.heap.size []/\St w w135 [.box b133 [.pointer none] 273,.box b5 [.func (.func 220) #[] #[pp b1 0]] 84,.box b3 [Sv zL parts.length zH] 41,.box b1 [Sv zL parts.length zH] 41] [sF false Fb ab cb b,sF false Fparts zL zH parts]) 5 #[true,false,true,true,false,true,false,false,false] ?_ fun L134=>?_
  ·rintro ρ w136 ⟨xQ,b133,rfl,N,H⟩
   refine jb [1,4,6] qh qm (jM rfl ?_ (jM rfl ?_ (jM rfl ?_ jd)))
   ·refine zY H [yN] fun b137 w138 H=>⟨H.pick [2,3,4] [0,1],(Qo L52 ⟨_,b137,b133,uE6,N,H.pick [1,0,2,3,4] [0,1]⟩)⟩
   ·refine Qr H underlying27 ti2 parts.length rfl rfl qf qf qf fun b139 w140 H=>⟨H.pick [2,3,4] [0,1],(Qo L78 ⟨_,b139,b133,uE6,N,H.pick [1,0,2,3,4] [0,1]⟩)⟩
   refine xH H ti27 [yN] fun b141 w142 H=>⟨H.pick [2,3,4] [0,1],(Qo L112 ⟨_,b133,b141,uE7,N,H⟩)⟩
  refine Xm (fun ρ w145=>∃ (xQ:Env) (b143:Nat),ρ=upd (upd (upd (upd (upd (upd xQ 0 (Sv ab b.length cb)) 4 (pp b3 0)) 5 (pp b5 0)) 10 (pp b143 0)) 21 (.agg #[yN])) 24 (yI parts.length)/\Fresh w.heap.size []/\St w w145 [.box b143 [yN] 27,.box b5 [.func (.func 220) #[] #[pp b1 0]] 84,.box b3 [Sv zL parts.length zH] 41,.box b1 [Sv zL parts.length zH] 41] [sF false Fb ab cb b,sF false Fparts zL zH parts]) 5 #[true,false,true,true,false,false,true,false,false] ?_ fun L144=>?_
  ·rintro ρ w146 ⟨xQ,b143,rfl,N,H⟩
   refine jb [1,4,5] qh qm (jM rfl ?_ (jM rfl ?_ (jM rfl ?_ jd)))
   ·refine zY H [yN] fun b147 w148 H=>⟨H.pick [2,3,4] [0,1],(Qo L65 ⟨_,b147,b143,uE6,N,H.pick [1,0,2,3,4] [0,1]⟩)⟩
   ·refine Qr H underlying27 ti2 parts.length rfl rfl qf qf qf fun b149 w150 H=>⟨H.pick [2,3,4] [0,1],(Qo L95 ⟨_,b149,b143,uE6,N,H.pick [1,0,2,3,4] [0,1]⟩)⟩
   refine xH H ti273 [.pointer none] fun b151 w152 H=>⟨H.pick [2,3,4] [0,1],(Qo L112 ⟨_,b151,b143,uE7,N,H.pick [1,0,2,3,4] [0,1]⟩)⟩
  refine Xm (fun ρ w156=>∃ (xQ:Env) (b153:Nat) (b154:Nat),ρ=upd (upd (upd (upd (upd xQ 0 (Sv ab b.length cb)) 4 (pp b3 0)) 5 (pp b5 0)) 9 (pp b154 0)) 25 (Sv (aa b153 0) parts.length parts.length)/\Fresh w.heap.size []/\St w w156 [.box b154 [.pointer none] 273,rr (aa b153 0) parts.length parts.length 2 1 ((List.replicate parts.length (0:Int)).map (Value.int .i64)),.box b5 [.func (.func 220) #[] #[pp b1 0]] 84,.box b3 [Sv zL parts.length zH] 41,.box b1 [Sv zL parts.length zH] 41] [sF false Fb ab cb b,sF false Fparts zL zH parts]) 5 #[false,false,true,true,true,true,false,false,false] ?_ fun L155=>?_
  ·rintro ρ w157 ⟨xQ,b153,b154,rfl,N,H⟩
   refine jb [0,6] qh qm (jM rfl ?_ (jM rfl ?_ jd))
   ·refine vG [yN] [] (⟨H.pick [2,3,4] [0,1],(Qo L78 ⟨_,b153,b154,uE6,N,H⟩)⟩)
   refine xH H ti27 [yN] fun b158 w159 H=>⟨H.pick [3,4,5] [0,1],(ro 0 rfl (vG [yN] [] (⟨H.pick [3,4,5] [0,1],(ro 1 rfl (zY H [yN] fun b160 w161 H=>⟨H.pick [4,5,6] [0,1],(ro 7 rfl (zI H 2 [pp b160 0] sizeOf273 fun w162 H=>⟨H.pick [4,5,6] [0,1],(ro 8 rfl (zI H 1 [Sv (aa b153 0) parts.length parts.length] sizeOf27 fun w163 H=>⟨H.pick [4,5,6] [0,1],(xA qh ((meet ⟨_,b154,b158,b153,b160,uE5,N,H.pick [1,2,3,0,4,5,6] [0,1]⟩)))⟩))⟩))⟩))⟩)))⟩
  refine Xm (fun ρ w167=>∃ (xQ:Env) (b164:Nat) (b165:Nat),ρ=upd (upd (upd (upd (upd xQ 0 (Sv ab b.length cb)) 4 (pp b3 0)) 5 (pp b5 0)) 10 (pp b165 0)) 25 (Sv (aa b164 0) parts.length parts.length)/\Fresh w.heap.size []/\St w w167 [.box b165 [yN] 27,rr (aa b164 0) parts.length parts.length 2 1 ((List.replicate parts.length (0:Int)).map (Value.int .i64)),.box b5 [.func (.func 220) #[] #[pp b1 0]] 84,.box b3 [Sv zL parts.length zH] 41,.box b1 [Sv zL parts.length zH] 41] [sF false Fb ab cb b,sF false Fparts zL zH parts]) 5 #[false,false,true,true,true,false,true,false,false] ?_ fun L166=>?_
  ·rintro ρ w168 ⟨xQ,b164,b165,rfl,N,H⟩
   refine jb [0,5] qh qm (jM rfl ?_ (jM rfl ?_ jd))
   ·refine vG [yN] [] (⟨H.pick [2,3,4] [0,1],(Qo L95 ⟨_,b164,b165,uE6,N,H⟩)⟩)
   refine xH H ti273 [.pointer none] fun b169 w170 H=>⟨H.pick [3,4,5] [0,1],(ro 0 rfl (vG [yN] [] (⟨H.pick [3,4,5] [0,1],(ro 1 rfl (zY H [yN] fun b171 w172 H=>⟨H.pick [4,5,6] [0,1],(ro 7 rfl (zI H 1 [pp b171 0] sizeOf273 fun w173 H=>⟨H.pick [4,5,6] [0,1],(ro 8 rfl (zI H 2 [Sv (aa b164 0) parts.length parts.length] sizeOf27 fun w174 H=>⟨H.pick [4,5,6] [0,1],(xA qh ((meet ⟨_,b169,b165,b164,b171,uE5,N,H.pick [2,1,3,0,4,5,6] [0,1]⟩)))⟩))⟩))⟩))⟩)))⟩
  refine Xm (fun ρ w178=>∃ (xQ:Env) (b175:Nat) (b176:Nat),ρ=upd (upd (upd (upd (upd (upd xQ 0 (Sv ab b.length cb)) 4 (pp b3 0)) 5 (pp b5 0)) 9 (pp b175 0)) 10 (pp b176 0)) 24 (yI parts.length)/\Fresh w.heap.size []/\St w w178 [.box b176 [yN] 27,.box b175 [.pointer none] 273,.box b5 [.func (.func 220) #[] #[pp b1 0]] 84,.box b3 [Sv zL parts.length zH] 41,.box b1 [Sv zL parts.length zH] 41] [sF false Fb ab cb b,sF false Fparts zL zH parts]) 5 #[false,false,true,true,false,true,true,false,false] ?_ fun L177=>?_
  ·rintro ρ w179 ⟨xQ,b175,b176,rfl,N,H⟩
   refine jb [0,4] qh qm (jM rfl ?_ (jM rfl ?_ jd))
   ·refine vG [yN] [] (⟨H.pick [2,3,4] [0,1],(Qo L112 ⟨_,b175,b176,uE7,N,H⟩)⟩)
   refine Qr H underlying27 ti2 parts.length rfl rfl qf qf qf fun b180 w181 H=>⟨H.pick [3,4,5] [0,1],(ro 0 rfl (vG [yN] [] (⟨H.pick [3,4,5] [0,1],(ro 1 rfl (zY H [yN] fun b182 w183 H=>⟨H.pick [4,5,6] [0,1],(ro 7 rfl (zI H 3 [pp b182 0] sizeOf273 fun w184 H=>⟨H.pick [4,5,6] [0,1],(ro 8 rfl (zI H 2 [Sv (aa b180 0) parts.length parts.length] sizeOf27 fun w185 H=>⟨H.pick [4,5,6] [0,1],(xA qh ((meet ⟨_,b175,b176,b180,b182,uE5,N,H.pick [2,3,1,0,4,5,6] [0,1]⟩)))⟩))⟩))⟩))⟩)))⟩
  refine tL 2 rfl rfl (fun _ h=>h.cell 1 rfl rfl) H ?_
  refine tN 3 rfl rfl H ?_
  refine jb [0,4,5,6] qh qm (jM rfl ?_ (jM rfl ?_ (jM rfl ?_ (jM rfl ?_ jd))))
  ·refine vG [yN] [] (⟨H,(jb [1,4,5,6] qh qm (jM rfl ?_ (jM rfl ?_ (jM rfl ?_ (jM rfl ?_ jd)))))⟩)
   ·refine zY H [yN] fun b186 w187 H=>⟨H.pick [1,2,3] [0,1],(jb [4,5,6] qh qm (jM rfl ?_ (jM rfl ?_ (jM rfl ?_ jd))))⟩
    ·refine Qr H underlying27 ti2 parts.length rfl rfl qf qf qf fun b188 w189 H=>⟨H.pick [2,3,4] [0,1],(Qo L35 ⟨_,b186,b188,uE5,N,H⟩)⟩
    ·refine xH H ti273 [.pointer none] fun b190 w191 H=>⟨H.pick [2,3,4] [0,1],(Qo L52 ⟨_,b186,b190,uE6,N,H⟩)⟩
    refine xH H ti27 [yN] fun b192 w193 H=>⟨H.pick [2,3,4] [0,1],(Qo L65 ⟨_,b186,b192,uE6,N,H⟩)⟩
   ·refine Qr H underlying27 ti2 parts.length rfl rfl qf qf qf fun b194 w195 H=>⟨H.pick [1,2,3] [0,1],(Qo L124 ⟨_,b194,uE5,N,H⟩)⟩
   ·refine xH H ti273 [.pointer none] fun b196 w197 H=>⟨H.pick [1,2,3] [0,1],(Qo L134 ⟨_,b196,uE6,N,H⟩)⟩
   refine xH H ti27 [yN] fun b198 w199 H=>⟨H.pick [1,2,3] [0,1],(Qo L144 ⟨_,b198,uE6,N,H⟩)⟩
  ·refine Qr H underlying27 ti2 parts.length rfl rfl qf qf qf fun b200 w201 H=>⟨H.pick [1,2,3] [0,1],(jb [0,5,6] qh qm (jM rfl ?_ (jM rfl ?_ (jM rfl ?_ jd))))⟩
   ·refine vG [yN] [] (⟨H.pick [1,2,3] [0,1],(Qo L124 ⟨_,b200,uE5,N,H⟩)⟩)
   ·refine xH H ti273 [.pointer none] fun b202 w203 H=>⟨H.pick [2,3,4] [0,1],(Qo L155 ⟨_,b200,b202,uE5,N,H⟩)⟩
   refine xH H ti27 [yN] fun b204 w205 H=>⟨H.pick [2,3,4] [0,1],(Qo L166 ⟨_,b200,b204,uE5,N,H⟩)⟩
  ·refine xH H ti273 [.pointer none] fun b206 w207 H=>⟨H.pick [1,2,3] [0,1],(jb [0,4,6] qh qm (jM rfl ?_ (jM rfl ?_ (jM rfl ?_ jd))))⟩
   ·refine vG [yN] [] (⟨H.pick [1,2,3] [0,1],(Qo L134 ⟨_,b206,uE6,N,H⟩)⟩)
   ·refine Qr H underlying27 ti2 parts.length rfl rfl qf qf qf fun b208 w209 H=>⟨H.pick [2,3,4] [0,1],(Qo L155 ⟨_,b208,b206,uE5,N,H.pick [1,0,2,3,4] [0,1]⟩)⟩
   refine xH H ti27 [yN] fun b210 w211 H=>⟨H.pick [2,3,4] [0,1],(Qo L177 ⟨_,b206,b210,uE6,N,H⟩)⟩
  refine xH H ti27 [yN] fun b212 w213 H=>⟨H.pick [1,2,3] [0,1],(jb [0,4,5] qh qm (jM rfl ?_ (jM rfl ?_ (jM rfl ?_ jd))))⟩
  ·refine vG [yN] [] (⟨H.pick [1,2,3] [0,1],(Qo L144 ⟨_,b212,uE6,N,H⟩)⟩)
  ·refine Qr H underlying27 ti2 parts.length rfl rfl qf qf qf fun b214 w215 H=>⟨H.pick [2,3,4] [0,1],(Qo L166 ⟨_,b214,b212,uE5,N,H.pick [1,0,2,3,4] [0,1]⟩)⟩
  refine xH H ti273 [.pointer none] fun b216 w217 H=>⟨H.pick [2,3,4] [0,1],(Qo L177 ⟨_,b216,b212,uE6,N,H.pick [1,0,2,3,4] [0,1]⟩)⟩
 clear H N
 rintro ρ w218 ⟨xQ,b13,b14,b15,b16,rfl,N,H⟩
 refine t_n (zcr (sw (xH H ti276 [.nilFunc] fun b219 w220 H=>zjc (sp (.func (.func 240) #[] #[pp b3 0,pp b5 0,pp b13 0,pp b14 0,pp b219 0]) (sw (zI H 0 [.func (.func 240) #[] #[pp b3 0,pp b5 0,pp b13 0,pp b14 0,pp b219 0]] sizeOf276 fun w221 H=>zjc (oL rfl (H.cell 0 rfl rfl) (sq 1 ?_))))))))
 replace H:=H.nilRow 27 1
 replace H:=H.vV (α:=yLI)
 have H1:St w w221 [.box b3 [Sv zL parts.length zH] 41,.box b5 [.func (.func 220) #[] #[pp b1 0]] 84,.box b1 [Sv zL parts.length zH] 41,.box b13 [pp b16 0] 273,.box b16 [yN] 275,.box b14 [Sv (aa b15 0) parts.length parts.length] 27,.box b219 [.func (.func 240) #[] #[pp b3 0,pp b5 0,pp b13 0,pp b14 0,pp b219 0]] 276,rr none 0 0 27 1 [],rr (aa b15 0) parts.length parts.length 2 1 ((List.replicate parts.length (0:Int)).map (Value.int .i64))] [sF false Fb ab cb b,sF false Fparts zL zH parts,xN true [] [] ([]:yLL)]:=H.pick [7,6,8,3,5,2,1,0,4] [1,2,0]
 have N1:Fresh _ [[]]:=N.emp
 have K1:Kept [] []:=Kept.nil _
 refine sw (jg #[yI 0,Sv ab b.length cb,pp b3 0,pp b5 0,pp b13 0,pp b14 0,pp b219 0] rfl rfl call240 (packFrom_ok parts.length 0 b parts ([]:yLL) (List.replicate parts.length (0:Int)) ab cb Fb zL zH Fparts b3 b5 b1 b13 b16 b14 b219 none 0 0 [] [] (aa b15 0) parts.length parts.length H1 N1 K1 qf (by first | assumption | exact u4) (by first | assumption | exact j3 | (simp;done)) (by first | assumption | (rw [List.length_set];exact j1) | (simp;done))) ?_)
 clear H H1 N1 K1
 rintro _ w222 ⟨zl226,ra227,rn228,rc229,rx230,rF231,hx224,hx225,rfl,N,H⟩
 obtain rfl:=H.xB (α:=yLI) 7 rfl 2 rfl qj
 refine zjc (oL rfl (H.cell 3 rfl rfl) (sw (zN #[pp b16 0] rfl rfl call243 (en func243 ntmps243 ?_))))
 refine zcr (sq 1 (sp (yI 0) (zjcc (sq 2 (oF rfl (oL rfl (H.cell 4 rfl rfl) (oN rfl (sp (Bv (decide (((gath ([]:yLL) (begins ((List.replicate parts.length (0:Int)).take 0) (packs parts (parts.length - 0) 0 b))).length:Int) > 2000))) (zjn (cD rfl (fun h232=>?_) (fun h232=>?_)))))))))))
 ·refine zcr (sq 1 (sp (yI 3) (zjr (t_r (ret2 yN (yI 3) rfl rfl rfl ⟨_,rfl,(sq 1 (sp (yI 3) (sq 1 (sp (yI 3) (zjr (ret2 yN (yI 3) rfl rfl rfl ⟨_,rfl,?_⟩))))))⟩)))))
  replace H:=H.erases [8,7,6,5,4,3,1,0]
  dsimp only [zU,List.eraseIdx] at H
  refine sq 1 (sp (yI 3) (sq 1 (sp (yI 3) (zjr ?_))))
  replace H:=H.nilRow 27 1
  replace H:=H.vV (α:=yLI)
  refine ret2 yN (yI 3) rfl rfl rfl ⟨_,rfl,?_,H.base⟩
  first | rw [all_a ql] | rw [all_bI (cs:=(List.replicate parts.length (0:Int))) ql qf]
  exact ⟨none,0,0,[],[],rfl,(N.emp.pick [0]),H.pick [0] [0]⟩
 refine qU (t_n (zcr (sq 2 (oF rfl (oL rfl (H.cell 4 rfl rfl) (sq 1 (sp (yI 0) (zjr (ret2 (Sv ra227 ((gath ([]:yLL) (begins ((List.replicate parts.length (0:Int)).take 0) (packs parts (parts.length - 0) 0 b))).length) rc229) (yI 0) rfl rfl rfl ⟨_,rfl,?_⟩)))))))))
 refine sq 1 (sp (yI 0) (sq 1 (sp (yI 0) (zjr (ret2 (Sv ra227 ((gath ([]:yLL) (begins ((List.replicate parts.length (0:Int)).take 0) (packs parts (parts.length - 0) 0 b))).length) rc229) (yI 0) rfl rfl rfl ⟨_,rfl,?_⟩)))))
 replace H:=H.erases [8,6,5,4,3,1,0]
 dsimp only [zU,List.eraseIdx] at H
 refine sq 1 (sp (yI 0) (sq 1 (sp (yI 0) (zjr (ret2 (Sv ra227 ((gath ([]:yLL) (begins ((List.replicate parts.length (0:Int)).take 0) (packs parts (parts.length - 0) 0 b))).length) rc229) (yI 0) rfl rfl rfl ⟨_,rfl,?_,H.base⟩)))))
 rw [all_0I (cs:=(List.replicate parts.length (0:Int))) ql qf]
 exact ⟨ra227,(gath ([]:yLL) (begins ((List.replicate parts.length (0:Int)).take 0) (packs parts (parts.length - 0) 0 b))).length,rc229,rx230,rF231,rfl,N,H.pick [1] [2]⟩
end
section
open Go.RowKit Go.Shelf Go.Lib Go.Sort
def cmpL:yLI->yLI->Int
 | [],[]=>0
 | [],_::_=> -1
 | _::_,[]=>1
 | x::a,y::b=>if x < y then -1 else if y < x then 1 else cmpL a b
theorem cmpL_refl:∀ a,cmpL a a=0
 | []=>rfl
 | x::a=>by rw [cmpL,if_neg (Int.lt_irrefl x),if_neg (Int.lt_irrefl x),cmpL_refl a]
theorem cmpL_trans:∀ {a b c:yLI},cmpL a b < 0->cmpL b c < 0->cmpL a c < 0
 | [],[],_,h,_=>by simp [cmpL] at h
 | [],_::_,[],_,h=>by simp [cmpL] at h
 | [],_::_,_::_,_,_=>by simp [cmpL]
 | _::_,[],_,h,_=>by simp [cmpL] at h
 | _::_,_::_,[],_,h=>by simp [cmpL] at h
 | x::a,y::b,z::c,h1,h2=>by
  rw [cmpL] at h1 h2 ⊢
  by_cases e1:x < y
  ·by_cases e2:y < z
   ·rw [if_pos qf];omega
   ·rw [if_neg e2] at h2
    by_cases e3:z < y
    ·rw [if_pos e3] at h2;omega
    ·rw [if_pos qf];omega
  ·rw [if_neg e1] at h1
   by_cases e2:y < x
   ·rw [if_pos e2] at h1;omega
   ·rw [if_neg e2] at h1
    by_cases e3:y < z
    ·rw [if_pos qf];omega
    ·rw [if_neg e3] at h2
     by_cases e4:z < y
     ·rw [if_pos e4] at h2;omega
     ·rw [if_neg e4] at h2
      rw [if_neg qf,if_neg qf]
      exact cmpL_trans h1 h2
theorem cmpL_ntrans:∀ {a b c:yLI},¬ cmpL a b < 0->¬ cmpL b c < 0->¬ cmpL a c < 0
 | [],[],[],_,_=>by simp [cmpL]
 | _::_,_,[],_,_=>by simp [cmpL]
 | [],_::_,_,h,_=>by simp [cmpL] at h
 | _,[],_::_,_,h=>by simp [cmpL] at h
 | x::a,y::b,z::c,h1,h2=>by
  rw [cmpL] at h1 h2 ⊢
  by_cases e1:x < y
  ·rw [if_pos e1] at h1;omega
  ·rw [if_neg e1] at h1
   by_cases e2:y < z
   ·rw [if_pos e2] at h2;omega
   ·rw [if_neg e2] at h2
    rw [if_neg qf]
    by_cases e3:z < x
    ·rw [if_pos e3];omega
    ·rw [if_neg e3]
     have ey:¬ y < x:=by omega
     have ez:¬ z < y:=by omega
     rw [if_neg ey] at h1
     rw [if_neg ez] at h2
     exact cmpL_ntrans h1 h2
theorem drop_cons (h:i < l.length):l.drop i=l[i]! :: l.drop (i+1):=by
 rw [getElem!_pos l i h];exact (List.drop_eq_getElem_cons h)
theorem cmp_a (h:i < a.length) (h1:b.length<=i):cmpL (a.drop i) (b.drop i)=1:=by rw [drop_cons h,List.drop_eq_nil_of_le h1,cmpL]
theorem cmp_b (h:a.length<=i) (h1:i < b.length):cmpL (a.drop i) (b.drop i)= -1:=by rw [drop_cons h1,List.drop_eq_nil_of_le h,cmpL]
theorem cmp_c (h:a.length<=i) (h1:b.length<=i):cmpL (a.drop i) (b.drop i)=0:=by rw [List.drop_eq_nil_of_le h,List.drop_eq_nil_of_le h1,cmpL]
theorem cmp_d (h:i < a.length) (h1:i < b.length) (h2:a[i]! < b[i]!):cmpL (a.drop i) (b.drop i)= -1:=by rw [drop_cons h,drop_cons h1,cmpL,if_pos h2]
theorem cmp_e (h:i < a.length) (h1:i < b.length) (h2:a[i]! > b[i]!):cmpL (a.drop i) (b.drop i)=1:=by rw [drop_cons h,drop_cons h1,cmpL,if_neg qf,if_pos h2]
theorem cmp_f (h:i < a.length) (h1:i < b.length) (h2:¬ a[i]! < b[i]!) (h3:¬ a[i]! > b[i]!):cmpL (a.drop i) (b.drop i)=cmpL (a.drop (i+1)) (b.drop (i+1)):=by rw [drop_cons h,drop_cons h1,cmpL,if_neg h2,if_neg h3]
theorem cmpL_ahead:∀ {a b:yLI},a.length=b.length->(cmpL a b < 0<->ahead a b)
 | [],[],_=>⟨fun h=>by simp [cmpL] at h,fun ⟨i,h,_⟩=>by simp at h⟩
 | x::a,[],h=>by simp at h
 | [],y::b,h=>by simp at h
 | x::a,y::b,h=>by
  have ih:=cmpL_ahead (a:=a) (b:=b) (by simpa using h)
  rw [cmpL]
  constructor
  ·intro h1
   by_cases e:x < y
   ·exact ⟨0,by simp,fun j hj=>by omega,by simpa using e⟩
   ·rw [if_neg e] at h1
    by_cases e2:y < x
    ·rw [if_pos e2] at h1;omega
    ·rw [if_neg e2] at h1
     obtain ⟨i,h2,h3,h4⟩:=ih.1 h1
     refine ⟨i+1,by simp;omega,fun j hj=>?_,by simpa using h4⟩
     cases j with
     | zero=>simp;omega
     | succ j=>simpa using h3 j qf
  ·rintro ⟨i,h2,h3,h4⟩
   cases i with
   | zero=>rw [if_pos (by simpa using h4)];omega
   | succ i=>
    have h0:=h3 0 qf
    simp only [List.getElem!_cons_zero] at h0
    rw [if_neg qf,if_neg qf]
    exact ih.2 ⟨i,by simpa using h2,fun j hj=>by simpa using h3 (j+1) qf,by simpa using h4⟩
section
variable {W0 w : World} {ps : List Prv} {Γ : List Fact}
theorem sw_block {α:Type} [Inhabited α] {enc:α->Value} {blk:Nat} {d:Array α} {os:Array Obj} (hk:k < w.heap.size) (hne:k≠blk):(sortWorld enc w blk 0 m d os).heap[k]? =w.heap[k]? :=by
 unfold sortWorld putRow mapBlock grow
 show ((Sort.ahead w m).heap.modify blk _++os)[k]? =_
 have hs:((Sort.ahead w m).heap.modify blk (onCells (putCells enc 0 d))).size=w.heap.size:=by rw [Array.size_modify];rfl
 rw [Array.getElem?_append_left (by rw [hs];exact hk),Array.getElem?_modify,if_neg (Ne.symm hne)]
 rfl
theorem sw_row {α:Type} [Inhabited α] {enc:α->Value} {blk:Nat} {d:Array α} {os:Array Obj} {cur:Array Value} (h:w.heap[blk]? =some (.cells cur e (0,0))):(sortWorld enc w blk 0 m d os).heap[blk]? =some (.cells (putCells enc 0 d cur) e (0,0)):=by
 have hk:blk < w.heap.size:=(Array.getElem?_eq_some_iff.1 h).1
 unfold sortWorld putRow mapBlock grow
 show ((Sort.ahead w m).heap.modify blk _++os)[blk]? =_
 have hs:((Sort.ahead w m).heap.modify blk (onCells (putCells enc 0 d))).size=w.heap.size:=by rw [Array.size_modify];rfl
 rw [Array.getElem?_append_left (by rw [hs];exact hk),Array.getElem?_modify,if_pos rfl]
 show (w.heap[blk]?).map _=_
 rw [h]
 rfl
theorem sortRow {P:Program} {ρ:Ren} (L:SlLaysF.n6 P ρ) {g:Nat} (eg:∀ args w,(callFunc g args).run P w=.ok (.enter g args) w)
 (cmp:∀ (W:World) (x y:yLI) (a:yOA) (c:Nat) (F:yLN) (a' :yOA) (c' :Nat) (F' :yLN),qK.rep W F [Sv a x.length c] x->qK.rep W F' [Sv a' y.length c'] y→
  Calls P g #[Sv a x.length c,Sv a' y.length c'] W fun e w' =>e=.returned (.int .i64 (cmpL x y))/\w' =W)
 (H:St W0 w ps Γ) (k:Nat) {b c:Nat} {e:TypeId} {nn:Nat} {xs:List Value} (hp:ps[k]? =some (.row (Sv (some ⟨b,0,none⟩) nn c) e 1 nn xs)) (j:Nat) {fr:Bool} {F:yLN} {l:yLL} (hf:Γ[j]? =some (xN fr F xs l)) (h0:0 < l.length) (hsz:l.length < 4611686018427387904):
 Calls P (ρ.f 6) #[Sv (some ⟨b,0,none⟩) nn c,.func (.func g) #[] #[]] w fun e' w' =>∃ v,e' =.returned v/\∃ xs' F' l',v=.tuple #[]/\F'.Perm F/\l.Perm l' /\(∀ i j,i < j->j < l'.length->¬ cmpL (l'[j]!) (l'[i]!) < 0)∧
  St W0 w' (ps.set k (.row (Sv (some ⟨b,0,none⟩) nn c) e 1 nn xs')) (xN fr F' xs' l'::Γ):=by
 have ho:=(H.has _ (List.mem_of_getElem? hp):w.ownsRow W0.heap.size e 1 _ nn xs)
 obtain ⟨hr,hfr⟩:=H.get j hf
 have hxl:xs.length=l.length:=by have:=XA hr;simpa [qK.size] using this
 have hnn:nn=l.length:=by have:=ho.1;omega
 subst hnn
 obtain ⟨hl,h | ⟨g',cap,cur,hv,hB,hg,hn,hm,hcs,ht⟩⟩:=ho
 ·simp at h
 simp only [Value.slice.injEq,Option.some.injEq,Addr.mk.injEq,and_true] at hv
 obtain ⟨rfl,_,rfl⟩:=hv
 have hF:=(H.facts _ (List.mem_of_getElem? hf)).2
 have hbF:∀ x∈F,x≠b:=fun x hx e' =>(hF x hx).2 k (by simp [jq,hp,Prv.blk,Value.ownBlock,e'])
 let enc:Nat->Value:=fun i=>xs[i % l.length]!
 let cf:Nat->Nat->Int:=fun i j=>cmpL (l[i % l.length]!) (l[j % l.length]!)
 have hmod:∀ i,i % l.length < l.length:=fun i=>Nat.mod_lt _ h0
 have hrep:∀ i,∃ a c' G,(∀ x∈G,x∈F)/\enc i=Sv a (l[i % l.length]!).length c' /\qK.rep w G [Sv a (l[i % l.length]!).length c'] (l[i % l.length]!):=fun i=>by
  obtain ⟨F1,Fk,F2,v1,cs,v2,hFe,hxe,hl1,hl2,hu,_,_⟩:=reps_get hr (i % l.length) (hmod i)
  obtain ⟨a,c',rfl,hx⟩:=id hu
  have hl1' :v1.length=i % l.length:=by rw [hl1];exact Nat.mul_one _
  refine ⟨a,c',Fk,fun x hx=>by rw [hFe];simp [hx],?_,?_⟩
  ·show xs[i % l.length]! =_
   rw [getElem!_pos l _ (hmod i),getElem!_pos xs _ (by rw [hxl];exact hmod i)]
   have:xs[i % l.length]? =some (Sv a (l[i % l.length]'(hmod i)).length c'):=by
    refine (congrArg (fun z:List Value=>z[i % l.length]?) hxe).trans ?_
    show (v1++[_]++v2)[i % l.length]? =_
    rw [List.append_assoc,List.getElem?_append_right qf]
    simp [hl1']
   exact (List.getElem?_eq_some_iff.1 this).2
  ·rw [getElem!_pos l _ (hmod i)];exact hu
 have hO:OneCell enc:=fun i=>by obtain ⟨a,c',G,_,he,_⟩:=hrep i;show Value.oneCell' (enc i)=true;rw [he];rfl
 have hS:SWO (ltOf cf):=by
  refine ⟨fun x=>?_,fun x y z h1 h2=>?_,fun x y z h1 h2=>?_⟩ <;> unfold ltOf at *
  ·show decide (cmpL _ _ < 0)=false
   rw [cmpL_refl];rfl
  ·exact decide_eq_true (cmpL_trans (of_decide_eq_true h1) (of_decide_eq_true h2))
  ·exact decide_eq_false (cmpL_ntrans (of_decide_eq_false h1) (of_decide_eq_false h2))
 let d:Array Nat:=Array.range l.length
 have hds:d.size=l.length:=Array.size_range
 have hdi:∀ i,i < l.length->d[i]! =i:=fun i hi=>by rw [getElem!_pos d i (by rw [hds];exact hi)];exact Array.getElem_range _
 have hcx:∀ i,i < l.length->cur[i]? =some (enc i):=fun i hi=>by
  have h1:xs[i]? =some (enc i):=by
   show xs[i]? =some (xs[i % l.length]!)
   rw [Nat.mod_eq_of_lt hi,getElem!_pos xs i qf]
   exact List.getElem?_eq_getElem qf
  rw [← ht,List.getElem?_take,if_pos qf] at h1
  simpa using h1
 have hH:Holds enc w b 0 d:=fun i hi=>by
  have hi' :i < l.length:=by rw [hds] at hi;exact hi
  rw [hdi i hi',Nat.zero_add]
  constructor
  ·rw [World.cell?,hg];exact hcx i hi'
  ·rw [World.frozen?,hg];simp
 have hcmp:CmpLays1 P g #[] enc cf b 0 d.size w:=fun m os dk hs x y=>by
  obtain ⟨a,c1,G,hG,he,hx⟩:=hrep x
  obtain ⟨a2,c2,G2,hG2,he2,hy⟩:=hrep y
  have st:∀ z∈F,(sortWorld enc w b 0 m dk os).heap[z]? =w.heap[z]? :=fun z hz=>sw_block (hF z hz).1 (hbF z hz)
  rw [he,he2]
  refine (cmp _ _ _ a c1 G a2 c2 G2 (qK.stay hx fun z hz=>st z (hG z hz)) (qK.stay hy fun z hz=>st z (hG2 z hz))).mono fun e' w' h=>⟨h.1,0,#[],?_⟩
  rw [grow_empty];exact h.2
 have hblk:b < w.heap.size:=(Array.getElem?_eq_some_iff.1 hg).1
 have hc:=Any.slices_SortFunc L enc hO cf hS g #[] b 0 c d w eg hcmp hH hblk (by rw [hds];exact hsz)
 rw [hds] at hc
 refine hc.mono fun e' w' ⟨he,d',n,os,hpm,hso,hw⟩=>⟨_,he,?_⟩
 have hd' :d'.size=l.length:=hpm.1.trans hds
 have hperm:d'.toList.Perm (List.range l.length):=by
  have:=hpm.2.2
  rw [Array.extract_eq_self_of_le qf,Array.extract_eq_self_of_le qf] at this
  simpa [d] using this
 have hlt:∀ x∈d'.toList,x < l.length:=fun x hx=>List.mem_range.1 (hperm.subset hx)
 -- the pairs
 have hz:(xs.zip l).Perm (d'.toList.map fun i=>(xs[i]!,l[i]!)):=by
  have e1:xs.zip l=(List.range l.length).map fun i=>(xs[i]!,l[i]!):=by
   refine List.ext_getElem (by simp [hxl]) fun i h1 h2=>?_
   have hi:i < l.length:=by simpa using h2
   rw [List.getElem_zip,List.getElem_map,List.getElem_range,getElem!_pos xs i qf,getElem!_pos l i hi]
  rw [e1]
  exact (hperm.map _).symm
 have hr' :reps w F ((xs.zip l).map Prod.fst) ((xs.zip l).map Prod.snd):=by rw [zip_fst hxl,zip_snd hxl];exact hr
 obtain ⟨F',hF',hr2⟩:=reps_perm rfl hz hr'
 rw [List.map_map,List.map_map] at hr2
 refine ⟨d'.toList.map fun i=>xs[i]!,F',d'.toList.map fun i=>l[i]!,rfl,hF',?_,?_,?_⟩
 ·have:=hz.map Prod.snd
  rw [zip_snd hxl,List.map_map] at this
  exact this
 ·intro i j hij hj
  rw [List.length_map,Array.length_toList,hd'] at hj
  have hge:∀ q,q < l.length->(d'.toList.map fun i=>l[i]!)[q]! =l[d'[q]! % l.length]! :=fun q hq=>by
   rw [getElem!_pos _ q (by simp [hd',hq]),List.getElem_map,Array.getElem_toList]
   have:d'[q]! =d'[q]:=getElem!_pos d' q qf
   rw [this,Nat.mod_eq_of_lt (hlt _ qm)]
  rw [hge i qf,hge j hj]
  exact of_decide_eq_false (hso i j (Nat.zero_le _) hij hj)
 ·subst hw
  have hcells:∀ q,q < l.length->(putCells enc 0 d' cur)[q]? =some (xs[d'[q]!]!):=fun q hq=>by
   unfold putCells
   rw [Array.getElem?_mapIdx]
   have hcq:=hcx q hq
   rw [hcq]
   simp only [Option.map_some,Nat.zero_le,true_and,Nat.zero_add,hd',if_pos hq,Nat.sub_zero]
   show some (xs[d'[q]! % l.length]!)=_
   have:d'[q]! =d'[q]:=getElem!_pos d' q qf
   rw [this,Nat.mod_eq_of_lt (hlt _ qm)]
  have hown:(sortWorld enc w b 0 n d' os).ownsRow W0.heap.size e 1 (Sv (some ⟨b,0,none⟩) l.length c) l.length (d'.toList.map fun i=>xs[i]!):=by
   refine ⟨by simp [hd'],Or.inr ⟨b,c,putCells enc 0 d' cur,rfl,hB,sw_row hg,hn,hm,by unfold putCells;rw [Array.size_mapIdx];exact hcs,?_⟩⟩
   rw [Nat.mul_one]
   refine List.ext_getElem? fun q=>?_
   rw [List.getElem?_take]
   split
   ·next hq=>
    rw [Array.getElem?_toList,hcells q hq,List.getElem?_map,Array.getElem?_toList]
    have:d'[q]! =d'[q]:=getElem!_pos d' q qf
    rw [this,Array.getElem?_eq_getElem qf]
    rfl
   ·next hq=>rw [List.getElem?_eq_none qy]
  have hsize:w.heap.size<=(sortWorld enc w b 0 n d' os).heap.size:=by
   unfold sortWorld putRow mapBlock grow
   show _<=((Sort.ahead w n).heap.modify b _++os).size
   rw [Array.size_append,Array.size_modify]
   exact Nat.le_add_right _ _
  have H1:=H.change k hp (w' :=sortWorld enc w b 0 n d' os) (p' :=.row (Sv (some ⟨b,0,none⟩) l.length c) e 1 l.length (d'.toList.map fun i=>xs[i]!)) rfl rfl rfl hsize (fun i hi hne=>sw_block hi (fun e2=>hne (by subst e2;rfl))) hown (Or.inl rfl)
  refine H1.add _ ⟨?_,fun e2 x hx=>?_⟩ fun x hx=>?_
  ·exact XJ hr2 fun z hz=>sw_block (hF z (hF'.subset hz)).1 (hbF z (hF'.subset hz))
  ·have h2:=hfr e2 x (hF'.subset hx)
   obtain ⟨o1,o2,ho⟩:=h2
   exact ⟨o1,o2,(sw_block (hF x (hF'.subset hx)).1 (hbF x (hF'.subset hx))).trans ho⟩
  ·refine ⟨Nat.lt_of_lt_of_le (hF x (hF'.subset hx)).1 hsize,fun i hi=>?_⟩
   have h3:=(hF x (hF'.subset hx)).2
   by_cases e3:i=k
   ·subst e3
    have:(ps.set i (Prv.row (Sv (some ⟨b,0,none⟩) l.length c) e 1 l.length (d'.toList.map fun i=>xs[i]!)))[i]? =some (Prv.row (Sv (some ⟨b,0,none⟩) l.length c) e 1 l.length (d'.toList.map fun i=>xs[i]!)):=set_at hp
    simp only [jq,this,Option.bind_some,Prv.blk,Value.ownBlock,Option.some.injEq] at hi
    exact hbF x (hF'.subset hx) hi.symm
   ·have:jq (ps.set k (Prv.row (Sv (some ⟨b,0,none⟩) l.length c) e 1 l.length (d'.toList.map fun i=>xs[i]!))) i=jq ps i:=by unfold jq;rw [List.getElem?_set_ne (Ne.symm e3)]
    rw [this] at hi
    exact h3 i hi
end
end
section
theorem compareL_ok (w:World) (a:yLI) (b:yLI) (aa:yOA) (ca:Nat) (Fa:yLN) (ab:yOA) (cb:Nat) (Fb:yLN) (ha:zP w Fa aa ca a) (hb:zP w Fb ab cb b):Calls Tryz.prog 173 #[Sv aa a.length ca,Sv ab b.length cb] w (Ret (fun v w' =>v=yI (cmpL a b)/\w' =w) w):=by
 refine en func173 ntmps173 ?_
 have H:=((St.start w).arg hb).arg ha
 have nha:=qO ha
 have nhb:=qO hb
 clear ha hb
 have N:=Fresh.nil w.heap.size
 refine zcr (sp (yI 0) (zjcc (sq 1 (oN rfl (sp (yI 0) (zjn (qV ?_)))))))
 refine zA ((fun Z0 Z1=>fun m' ρ w1=>∃ (xQ:Env) (i:Nat),ρ=upd (upd (upd (upd (upd xQ 0 (Sv aa a.length ca)) 1 (Sv ab b.length cb)) 9 (Sv aa a.length ca)) 10 (yI a.length)) 11 (yI i)/\((i:Int)<=a.length)/\(w1=w)/\(cmpL a b=cmpL (a.drop i) (b.drop i))/\(i<=b.length)/\m' =(a.length - (i:Int)).toNat/\Fresh w.heap.size []/\St w w1 [] [Z0,Z1]) _ _) ((a.length - (0:Int)).toNat) ⟨_,0,uE5,qf,(by rfl),(by rfl),qf,rfl,N,H⟩ ?_
 clear H N
 rintro m' ρ w2 ⟨xQ,i,rfl,i0,wk,i1,i2,rfl,N,H⟩
 refine zcr (sq 1 (zjn (xU (cD rfl (fun h3=>?_) (fun h3=>?_)))))
 ·refine qU (t_n (xU (qV (zcr (sp (yI i) ?_)))))
  obtain ⟨b4,o5,rfl⟩:=H.addr 0 rfl qf
  refine oI rfl rfl (oL rfl (H.zB 0 rfl i qf) (sp (yI i) (sq 1 (zjcc (sp (yI i) (sq 1 (oN rfl (sq 1 (zjn (cD rfl (fun h7=>?_) (fun h7=>?_)))))))))))
  ·refine zcr (sp (yI 1) (zjr (t_r (zr5 (rH1 (yI 1) H (⟨?_,wk⟩))))))
   rw [i1,show cmpL (a.drop i) (b.drop i)=1 by first | exact cmp_a qf qf | exact cmp_e qf qf ‹_›]
  refine qU (t_n (zcr (sq 1 (sp (yI i) ?_))))
  obtain ⟨b8,o9,rfl⟩:=H.addr 1 rfl qf
  refine oI rfl rfl (oL rfl (H.zB 1 rfl i qf) (sq 1 (zjc (sq 2 (sw (zN #[yI (a[i]!),yI (b[i]!)] rfl rfl call201 (en func201 ntmps201 ?_)))))))
  refine zcr (sp (yI 0) (zjc (sq 1 (sw (zN #[yI (a[i]!)] rfl rfl call209 (en func209 ntmps209 ?_))))))
  refine zcr (sp (Bv false) (zjc (sq 4 (zjr (ret1 (Bv ((a[i]! :Int) != (a[i]!))) rfl rfl ⟨_,rfl,(sq 1 (zjc (sq 1 (sw (zN #[yI (b[i]!)] rfl rfl call209 (en func209 ntmps209 ?_))))))⟩)))))
  refine zcr (sp (Bv false) (zjc (sq 4 (zjr (ret1 (Bv ((b[i]! :Int) != (b[i]!))) rfl rfl ⟨_,rfl,(sq 1 (zjcc (sq 1 (zjn (zT _ rfl (fun h=>absurd rfl (bne_iff_ne.1 h)) (fun h11=>?_))))))⟩)))))
  replace h11:=xu h11
  refine qU (t_n (zcc (sq 1 (zjn (zT _ rfl (fun h=>absurd rfl (bne_iff_ne.1 h)) (fun h12=>?_))))))
  replace h12:=xu h12
  refine qU (t_n (zcc (sq 3 (zjn (cD rfl (fun h13=>?_) (fun h13=>?_))))))
  ·refine zcr (sq 1 (zjr (t_r (ret1 (yI (-1)) rfl rfl ⟨_,rfl,(sq 1 (zjc (sq 1 (sp (Bv true) (zjn (cTr rfl (zcr (sq 2 (zjr (zr5 (rH1 (yI (-1)) H (⟨?_,wk⟩))))))))))))⟩))))
   rw [i1,show cmpL (a.drop i) (b.drop i)= -1 by first | exact cmp_b qf qf | exact cmp_d qf qf ‹_›]
  refine qU (t_n (zcc (sq 3 (zjn (cD rfl (fun h14=>?_) (fun h14=>?_))))))
  ·refine zcr (sp (yI 1) (zjr (t_r (ret1 (yI 1) rfl rfl ⟨_,rfl,(sp (yI 1) (zjc (sp (yI 1) (sp (Bv true) (zjn (cTr rfl (zcr (sp (yI 1) (sp (yI 1) (zjr (zr5 (rH1 (yI 1) H (⟨?_,wk⟩)))))))))))))⟩))))
   rw [i1,show cmpL (a.drop i) (b.drop i)=1 by first | exact cmp_a qf qf | exact cmp_e qf qf ‹_›]
  refine qU (t_n (zcr (sp (yI 0) (zjr (ret1 (yI 0) rfl rfl ⟨_,rfl,(sp (yI 0) (zjc (sp (yI 0) (sp (Bv false) (zjn (cFr rfl (qU (b_n (t_n (xK (sw (zi i 1 rfl rfl qf (sq 1 (xP (qW (m' :=(a.length - ((i+1):Int)).toNat) qf ⟨_,i+1,uE5,?_,?_,?_,?_,rfl,N,H⟩)))))))))))))))⟩)))))
  ·omega
  ·exact wk
  ·exact i1.trans (cmp_f qf qf ‹_› ‹_›)
  ·omega
 refine zx4 (zcc (sq 1 (oN rfl (sq 1 (oN rfl (sq 1 (zjn (cD rfl (fun h15=>?_) (fun h15=>?_)))))))))
 ·refine zcr (sq 1 (zjr (t_r (rH1 (yI (-1)) H (⟨?_,wk⟩)))))
  rw [i1,show cmpL (a.drop i) (b.drop i)= -1 by first | exact cmp_b qf qf | exact cmp_d qf qf ‹_›]
 refine qU (t_n (zcr (sp (yI 0) (zjr (rH1 (yI 0) H (⟨?_,wk⟩))))))
 rw [i1,cmp_c qf qf]
def sortL_ren:Go.Shelf.Ren:=⟨fun | 6=>172 | 15=>146 | 14=>200 | 28=>186 | 29=>187 | 20=>222 | 21=>223 | 22=>224 | 23=>225 | 24=>226 | 25=>227 | 26=>228 | 27=>229 | 46=>245 | 47=>205 | 48=>206 | 49=>246 | 50=>247 | 57=>256 | n=>n,fun | 22=>41 | 24=>27 | 25=>213 | 3=>3 | 39=>181 | 0=>0 | 53=>227 | 55=>136 | 4=>4 | 46=>219 | 45=>218 | 50=>224 | 5=>5 | 9=>9 | 66=>240 | 70=>244 | 76=>259 | 77=>260 | n=>n,fun | n=>n⟩
theorem sortL:Go.Proofs.SlLaysF.n6 Tryz.prog sortL_ren:={
 mixed:=by kernel_rfl
 f6:=⟨Tryz.f172.name,by decide,Tryz.func172.trans (congrArg some (by kernel_rfl))⟩
 f14:=⟨Tryz.f200.name,by decide,Tryz.func200.trans (congrArg some (by kernel_rfl))⟩
 f15:=Tryz.func146.trans (congrArg some (by kernel_rfl))
 f20:=⟨Tryz.f222.name,by decide,Tryz.func222.trans (congrArg some (by kernel_rfl))⟩
 f21:=⟨Tryz.f223.name,by decide,Tryz.func223.trans (congrArg some (by kernel_rfl))⟩
 f22:=⟨Tryz.f224.name,by decide,Tryz.func224.trans (congrArg some (by kernel_rfl))⟩
 f23:=⟨Tryz.f225.name,by decide,Tryz.func225.trans (congrArg some (by kernel_rfl))⟩
 f24:=⟨Tryz.f226.name,by decide,Tryz.func226.trans (congrArg some (by kernel_rfl))⟩
 f25:=⟨Tryz.f227.name,by decide,Tryz.func227.trans (congrArg some (by kernel_rfl))⟩
 f26:=⟨Tryz.f228.name,by decide,Tryz.func228.trans (congrArg some (by kernel_rfl))⟩
 f27:=⟨Tryz.f229.name,by decide,Tryz.func229.trans (congrArg some (by kernel_rfl))⟩
 f28:=Tryz.func186.trans (congrArg some (by kernel_rfl))
 f29:=Tryz.func187.trans (congrArg some (by kernel_rfl))
 f46:=⟨Tryz.f245.name,by decide,Tryz.func245.trans (congrArg some (by kernel_rfl))⟩
 f47:=Tryz.func205.trans (congrArg some (by kernel_rfl))
 f48:=Tryz.func206.trans (congrArg some (by kernel_rfl))
 f49:=⟨Tryz.f246.name,by decide,Tryz.func246.trans (congrArg some (by kernel_rfl))⟩
 f50:=⟨Tryz.f247.name,by decide,Tryz.func247.trans (congrArg some (by kernel_rfl))⟩
 f57:=⟨Tryz.f256.name,by decide,Tryz.func256.trans (congrArg some (by kernel_rfl))⟩
 t0:=underlying0
 a0:=isAgg0
 z0:=sizeOf0
 v0:=zeroValue0
 t3:=underlying3
 a3:=isAgg3
 z3:=sizeOf3
 v3:=zeroValue3
 t4:=underlying4
 a4:=isAgg4
 z4:=sizeOf4
 v4:=zeroValue4
 t5:=underlying5
 a5:=isAgg5
 z5:=sizeOf5
 v5:=zeroValue5
 t9:=underlying9
 a9:=isAgg9
 z9:=sizeOf9
 v9:=zeroValue9
 t22:=underlying41
 a22:=isAgg41
 z22:=sizeOf41
 v22:=zeroValue41
 a24:=isAgg27
 z24:=sizeOf27
 t25:=underlying213
 a25:=isAgg213
 z25:=sizeOf213
 v25:=zeroValue213
 t39:=underlying181
 a39:=isAgg181
 z39:=sizeOf181
 v39:=zeroValue181
 t45:=underlying218
 a45:=isAgg218
 z45:=sizeOf218
 v45:=zeroValue218
 t46:=underlying219
 a46:=isAgg219
 z46:=sizeOf219
 v46:=zeroValue219
 t50:=underlying224
 a50:=isAgg224
 z50:=sizeOf224
 v50:=zeroValue224
 t53:=underlying227
 a53:=isAgg227
 z53:=sizeOf227
 v53:=zeroValue227
 t55:=underlying136
 a55:=isAgg136
 z55:=sizeOf136
 v55:=zeroValue136
 t66:=underlying240
 a66:=isAgg240
 z66:=sizeOf240
 v66:=zeroValue240
 t70:=underlying244
 a70:=isAgg244
 z70:=sizeOf244
 v70:=zeroValue244
 t76:=underlying259
 a76:=isAgg259
 z76:=sizeOf259
 v76:=zeroValue259
 t77:=underlying260
 a77:=isAgg260
 z77:=sizeOf260
 v77:=zeroValue260 }
theorem cmpSort (W:World) (x y:yLI) (a:yOA) (c:Nat) (F:yLN) (a' :yOA) (c' :Nat) (F' :yLN) (hx:zP W F a c x) (hy:qK.rep W F' [Sv a' y.length c'] y):
 Calls Tryz.prog 173 #[Sv a x.length c,Sv a' y.length c'] W fun e w' =>e=.returned (yI (cmpL x y))/\w' =W:=
 (compareL_ok W x y a c F a' c' F' hx hy).mono fun _ _ ⟨_,he,⟨hv,hw⟩,_⟩=>⟨he.trans (by rw [hv]),hw⟩
theorem choices_ok (w:World) (s:qG) (t:qH) {qL:Nat} {qX:Nat} {xn:Nat} {xM:Nat} {qZ:Nat} (xf:zP w xF qM qL s.qC) (xE:zP w zu xg qX s.qE) (zk:zP w zQ xq xn t.qI) (zO:zP w vK xX xM t.qP) (xJ:zP w zo xe qZ t.qN) (p0:yj s) (p1:zV s t):Calls Tryz.prog 140 #[.agg #[yI s.xO,Sv qM s.qC.length qL,Sv xg s.qE.length qX],.agg #[Sv xq t.qI.length xn,Sv xX t.qP.length xM,Sv xe t.qN.length qZ]] w (Ret (fun v w' =>∃ (ra0:yOA) (rn0:Nat) (rc0:Nat) (rx0:List Value) (rF0:yLN),v=.tuple #[Sv ra0 rn0 rc0,yI ((jG s t).2)]/\Fresh w.heap.size [rF0]/\St w w' [rr ra0 rn0 rc0 27 1 rx0] [xN true rF0 rx0 ((jG s t).1)]) w):=by
 refine en func140 ntmps140 ?_
 have H:=(((((St.start w).arg xJ).arg zO).arg zk).arg xE).arg xf
 have vH:=qO xf
 have jD:=qO xE
 have yL:=qO zk
 have Qv:=qO zO
 have jQ:=qO xJ
 clear xf xE zk zO xJ
 have N:=Fresh.nil w.heap.size
 have A:=H.ltN (L:=[xF,zu,zQ,vK,zo]) (zR 0 5)
 have p2:=p0.2.1
 have p3:=p0.1.2.1
 have p4:=p1.1
 have p5:=p1.2.1
 refine zcr (sw (zY H (yS s qM qL xg qX) fun b1 w2 H=>sw (zY H (yT t xq xn xX xM xe qZ) fun b3 w4 H=>sq 1 (sp (yI 0) (zjc (sw (x8 (yS s qM qL xg qX) isAgg37 sizeOf37 rfl (qF (H.cells 1 rfl) 0 3) ?_)))))))
 refine sw (x8 (yT t xq xn xX xM xe qZ) isAgg43 sizeOf43 rfl (qF (H.cells 0 rfl) 0 3) (sw (zN #[.agg #[yI s.xO,Sv qM s.qC.length qL,Sv xg s.qE.length qX],.agg #[Sv xq t.qI.length xn,Sv xX t.qP.length xM,Sv xe t.qN.length qZ]] rfl rfl call171 (en func171 ntmps171 ?_))))
 refine zcr (sw (zY H (yS s qM qL xg qX) fun b5 w6 H=>sw (zY H (yT t xq xn xX xM xe qZ) fun b7 w8 H=>sq 1 (sp (yI 0) (zjc (oF rfl (oL rfl (H.cell 1 rfl rfl) (oN rfl (sw (o_makeZ (⟨[]⟩:OwnI 2) H underlying41 ti27 qj (fun _=>⟨yN,rfl,Or.inl ⟨rfl,rfl,rfl⟩⟩) s.qC.length rfl rfl qf qf qf fun b9 w10 xs11 H=>?_))))))))))
 refine sq 1 (zjcc (sw (x8 (yS s qM qL xg qX) isAgg37 sizeOf37 rfl (qF (H.cells 2 rfl) 0 3) (sw (x8 (yT t xq xn xX xM xe qZ) isAgg43 sizeOf43 rfl (qF (H.cells 1 rfl) 0 3) ?_)))))
 have sz15:=H.base.size
 refine sw (oc (applicable_ok _ s t (H.get 1 rfl).1 (H.get 2 rfl).1 (H.get 3 rfl).1 (H.get 4 rfl).1 (H.get 5 rfl).1 qg qg) ?_)
 rintro _ w13 ⟨ra12,rn12,rc12,rfl,M,K⟩ _
 replace H:=H.merge K M
 obtain rfl:=H.yt 0 rfl
 have al:(appls s t).length<=s.qE.length:=applL_le s t s.qE.length
 refine oN rfl (sp (yI 0) (zjn (qV ?_)))
 refine zA ((fun Z0 Z1 Z2 Z3 Z4 Z5 Z6 Z7 Z8 Z9=>fun m' ρ w18=>∃ (xQ:Env) (k:Nat) (own:List (OwnI 2)) (x_own:List Value) (F_own:yLN),ρ=upd (upd (upd (upd (upd (upd xQ 2 (pp b5 0)) 3 (pp b7 0)) 6 (Sv (aa b9 0) s.qC.length s.qC.length)) 24 (Sv ra12 ((appls s t).length) rc12)) 25 (yI ((appls s t).length))) 26 (yI k)/\own=(ownL 2 s t s.qC.length k)/\((k:Int)<=((appls s t).length))/\m' =(((appls s t).length) - (k:Int)).toNat/\Fresh w.heap.size [F_own]/\St w w18 [Z0,rr (aa b9 0) s.qC.length s.qC.length 27 1 x_own,Z1,Z2,Z3,Z4] [xN true F_own x_own own,Z5,Z6,Z7,Z8,Z9]) _ _ _ _ _ _ _ _ _ _) ((((appls s t).length) - (0:Int)).toNat) ⟨_,0,(List.replicate s.qC.length (⟨[]⟩:OwnI 2)),xs11,[],uE6,(by exact ownL_zero 2 s t _),qf,rfl,N.emp,H⟩ ?_
 clear H N
 rintro m' ρ w19 ⟨xQ,k,own,x_own,F_own,rfl,rfl,i0,rfl,N,H⟩
 have hn_own:=H.xB (α:=OwnI 2) 1 rfl 0 rfl qj
 have ol:=ownL_len 2 s t s.qC.length k
 refine zcr (sq 1 (zjn (xU (cD rfl (fun h20=>?_) (fun h20=>?_)))))
 ·obtain ⟨a0,a1,a2⟩:=appls_inH (s:=s) (t:=t) (q:=k) qf
  have q:=p0.rule (i:=((appls s t)[k]!).toNat) qf
  have qc:=q.1
  have qk:(s.qE[((appls s t)[k]!).toNat]!).qR.toNat < s.qC.length:=q.cell
  have le:=ownL_le (e:=2) (s:=s) (t:=t) (n:=s.qC.length) (q:=k) (c:=(s.qE[((appls s t)[k]!).toNat]!).qR.toNat) qf
  have sm:=vP (p1.2.2.2.2 (s.qE[((appls s t)[k]!).toNat]!).qR.toNat qf).1
  refine qU (t_n (xU (qV (zcr ?_))))
  obtain ⟨b21,rfl⟩:=H.y5 0 rfl qf
  refine oI rfl rfl (oL rfl (H.rowInt 0 rfl (iv:=k) (i:=k) qf qf) (sq 1 (zjc (oF rfl (oL rfl (H.cell 3 rfl rfl) (sq 1 ?_))))))
  obtain ⟨b22,o23,rfl⟩:=H.addr 2 rfl qf
  obtain ⟨ae25Need,ce25Need,Fe25Need,ae25Have,ce25Have,Fe25Have,ae25Lack,ce25Lack,Fe25Lack,ae25Here,ce25Here,Fe25Here,ae25Out,ce25Out,Fe25Out,ae25Into,ce25Into,Fe25Into,H⟩:=H.Qc 2 rfl ((appls s t)[k]!) (((appls s t)[k]!).toNat) qf qf qf
  refine oI rfl rfl (oF rfl (oL rfl (H.xW 6 rfl 0 rfl) (sq 1 (zjcc (oF rfl (oL rfl (H.cell 2 rfl rfl) (sq 1 ?_)))))))
  obtain ⟨b26,o27,rfl⟩:=H.addr 11 rfl qf
  obtain ⟨ae29,ce29,Fe29,H⟩:=H.ji 11 rfl ((s.qE[((appls s t)[k]!).toNat]!).qR) (((s.qE[((appls s t)[k]!).toNat]!).qR).toNat) qf qf qf
  refine oI rfl rfl (oL rfl (H.xW 1 rfl 0 rfl) (sw (oq (XC _ (t.qP[((s.qE[((appls s t)[k]!).toNat]!).qR).toNat]!) (H.get 0 rfl).1 (by first | assumption | exact vP ql | exact yX ql)) H fun w30 H=>sp (Bv (decide ((Xh (t.qP[((s.qE[((appls s t)[k]!).toNat]!).qR).toNat]!):Int) > 16))) (zjn (cD rfl (fun h32=>?_) (fun h32=>?_))))))
  ·refine zcr (sq 1 (sp (yI 3) (zjr (t_r (zr5 (ret2 yN (yI 3) rfl rfl rfl ⟨_,rfl,?_⟩))))))
   replace H:=H.erases [3,2,1,0]
   dsimp only [zU,List.eraseIdx] at H
   refine sq 2 (sp (yI 3) (sq 1 (sp (yI 3) (zjcc (sp (yI 3) (sp (Bv true) (zjn (cTr rfl (zcr (sp (yI 3) (sq 1 (sp (yI 3) (zjr (t_r ?_))))))))))))))
   replace H:=H.nilRow 27 1
   replace H:=H.vV (α:=yLI)
   refine ret2 yN (yI 3) rfl rfl rfl ⟨_,rfl,?_,H.base⟩
   first | rw [cho_3 (.inl (own_bad p0 (q:=k) qf qf))] | rw [cho_3 (.inr (prod_stop (G:=(Qa s.qE.length (xy s t s.qC.length) (zl s t s.qC.length) k_1)) (r:=((xy s t s.qC.length)[k_1]!)) (k:=k_51+1) (i:=k_1) kn qf (QW _) qf (by rw [← nextX_end (x:=k_52) qf qf];omega)))]
   exact ⟨none,0,0,[],[],rfl,(N.emp.pick [0]),H.pick [0] [0]⟩
  refine qU (t_n (xK (sq 4 (oI rfl rfl ?_))))
  replace N:Fresh w.heap.size [F_own]:=N
  obtain ⟨a33,c34,F35,h36,N,H⟩:=H.openI 1 rfl 9 rfl N (iv:=(s.qE[((appls s t)[k]!).toNat]!).qR) (((s.qE[((appls s t)[k]!).toNat]!).qR).toNat) qf qf [sF false xF qM qL s.qC,sF false zu (aa b22 o23) qX s.qE,sF false zQ xq xn t.qI,sF false vK (aa b26 o27) xM t.qP,sF false zo xe qZ t.qN] (keepA A N (zR 10 5) rfl rfl)
  refine oL rfl h36 (sq 1 (sw (xx H underlying27 ti2 [yI ((appls s t)[k]!)] fun b37 w38 H=>sw (zG H 1 rfl 0 rfl underlying27 ti2 rfl qj rfl rfl rfl qw qp qf fun a39 c40 w41 H=>?_))))
  rw [snocI] at H
  refine oI rfl rfl (sw (o_closeI H 3 rfl 1 qj rfl 0 rfl (c:=(((s.qE[((appls s t)[k]!).toNat]!).qR).toNat)) (N:Fresh w.heap.size [F35]) (H.vz []) sizeOf27 rfl rfl qf qf fun w42 F43 N H=>xP (b_n (t_n (xK (sw (zi k 1 rfl rfl qf (sq 1 (xP (qW (m' :=(((appls s t).length) - ((k+1):Int)).toNat) qf ⟨_,k+1,_,_,_,uE6,?_,?_,rfl,N,H.pick (zR 2 6) (0::zR 2 5)⟩))))))))))
  ·exact ownL_set qf rfl qf qf (by rw [List.set_set])
  ·omega
 refine zx4 (zcr (sw (zW H underlying207 ti211 fun b44 w45 H=>sq 1 (zjcc (sq 1 (oN rfl (sp (yI 0) (zjn (qV ?_)))))))))
 replace H:=H.ofOwn 0 rfl
 rw [ownL_end qf] at H
 have cl:=cellsR_len s t s.qC.length
 replace H:=H.boxRow 0 rfl 2 0 rfl qj
 replace H:=H.vV (α:=inCellD)
 replace H:St _ _ [rr (aa b44 0) 0 0 211 2 [],rr ra12 ((appls s t).length) rc12 2 1 ((appls s t).map (Value.int .i64)),rr (aa b9 0) s.qC.length s.qC.length 27 1 x_own,.box b7 (yT t xq xn xX xM xe qZ) 43,.box b5 (yS s qM qL xg qX) 37,.box b3 (yT t xq xn xX xM xe qZ) 43,.box b1 (yS s qM qL xg qX) 37] [xN true [] [] ([]:List inCellD),xN true F_own x_own (cellsR s t s.qC.length),xN true F_own x_own (ownL 2 s t s.qC.length k),sF false xF qM qL s.qC,sF false zu xg qX s.qE,sF false zQ xq xn t.qI,sF false vK xX xM t.qP,sF false zo xe qZ t.qN]:=H
 refine zA ((fun Z0 Z1 Z2 Z3 Z4 Z5 Z6 Z7 Z8 Z9 Z10 Z11 Z12=>fun m' ρ w46=>∃ (xQ:Env) (jl:yOA) (vC:Nat) (jh:Nat) (out:List inCellD) (Xk:List Value) (yZ:yLN) (c:Nat),ρ=upd (upd (upd (upd (upd (upd xQ 2 (pp b5 0)) 3 (pp b7 0)) 10 (Sv jl vC jh)) 55 (Sv (aa b9 0) s.qC.length s.qC.length)) 56 (yI s.qC.length)) 57 (yI c)/\out=(Xx s t c)/\((c:Int)<=s.qC.length)/\(GoodP s t c)/\m' =(s.qC.length - (c:Int)).toNat/\Fresh w.heap.size [F_own]/\St w w46 [rr jl vC jh 211 2 Xk,Z0,Z1,Z2,Z3,Z4,Z5] [xN true yZ Xk out,Z6,Z7,Z8,Z9,Z10,Z11,Z12]) _ _ _ _ _ _ _ _ _ _ _ _ _) ((s.qC.length - (0:Int)).toNat) ⟨_,(aa b44 0),0,0,([]:List inCellD),[],[],0,uE6,(by rfl),qf,qx,rfl,N,H⟩ ?_
 clear H N
 rintro m' ρ w47 ⟨xQ,jl,vC,jh,out,Xk,yZ,c,rfl,rfl,i0,gp,rfl,N,H⟩
 have hn_out:=H.xB (α:=inCellD) 0 rfl 0 rfl qj
 have ce:=cells_len s t c
 have rl:=rules_le s t c
 refine zcr (sq 1 (zjn (xU (cD rfl (fun h48=>?_) (fun h48=>?_)))))
 ·refine qU (t_n (xU (qV (zcr (sp (yI c) (oI rfl rfl ?_))))))
  obtain ⟨a49,c50,G51,s52,h53,H⟩:=H.jY 2 rfl 1 rfl (iv:=c) c qf qf
  refine oL rfl (h53) (sp (yI c) (sq 1 (zjcc (sq 1 (oN rfl (sp (Bv ((((cellsR s t s.qC.length)[c]!).length:Int) == 0)) (zjn (cE rfl (fun h54=>?_) (fun h54=>?_)))))))))
  ·rw [cellsR_get (s:=s) (t:=t) (n:=s.qC.length) (c:=c) qf] at H h54 ⊢
   refine c_exit (t_x (b_x (t_n (xK (sw (zi c 1 rfl rfl qf (sq 1 (xP (qW (m' :=(s.qC.length - ((c+1):Int)).toNat) qf ⟨_,_,_,_,_,_,_,c+1,uE6,?_,?_,?_,rfl,N,H.pick (zR 0 7) (zR 1 8)⟩)))))))))
   ·first | exact cells_yes qf | exact cells_no qf
   ·omega
   ·exact gp.succ (by first | exact .inl qf | exact .inr (show (yg _ _).2=0 from ‹_›))
  rw [cellsR_get (s:=s) (t:=t) (n:=s.qC.length) (c:=c) qf] at H h54 ⊢
  refine qU (t_n (zcr (sw (zW H underlying41 ti27 fun b55 w56 H=>sq 1 (zjcc (sq 1 (oN rfl (sp (yI 0) (zjn (qV ?_))))))))))
  replace H:=H.boxRow 0 rfl 1 0 rfl qj
  replace H:=H.vV (α:=yLI)
  replace H:=H.unfree 0 rfl
  refine zA ((fun Z0 Z1 Z2 Z3 Z4 Z5 Z6 Z7 Z8 Z9 Z10 Z11 Z12 Z13 Z14 Z15=>fun m' ρ w57=>∃ (xQ:Env) (a_needs:yOA) (n_needs:Nat) (c_needs:Nat) (needs:yLL) (x_needs:List Value) (F_needs:yLN) (k_1:Nat),ρ=upd (upd (upd (upd (upd (upd (upd (upd (upd (upd (upd (upd xQ 2 (pp b5 0)) 3 (pp b7 0)) 10 (Sv jl vC jh)) 11 (yI c)) 12 (Sv a49 ((vU s t c).length) c50)) 13 (Sv a_needs n_needs c_needs)) 55 (Sv (aa b9 0) s.qC.length s.qC.length)) 56 (yI s.qC.length)) 57 (yI c)) 66 (Sv a49 ((vU s t c).length) c50)) 67 (yI ((vU s t c).length))) 68 (yI k_1)/\needs=(vT s ((vU s t c).take k_1))/\((k_1:Int)<=((vU s t c).length))/\m' =(((vU s t c).length) - (k_1:Int)).toNat/\Fresh w.heap.size [F_own]/\St w w57 [rr a_needs n_needs c_needs 27 1 x_needs,Z0,Z1,Z2,Z3,Z4,Z5,Z6] [xN false F_needs x_needs needs,Z7,Z8,Z9,Z10,Z11,Z12,Z13,Z14,Z15]) _ _ _ _ _ _ _ _ _ _ _ _ _ _ _ _) ((((vU s t c).length) - (0:Int)).toNat) ⟨_,(aa b55 0),0,0,([]:yLL),[],[],0,uE12,(by rfl),qf,rfl,N,H.pick (zR 0 8) (0::zR 2 9)⟩ ?_
  clear H N
  rintro m' ρ w58 ⟨xQ,a_needs,n_needs,c_needs,needs,x_needs,F_needs,k_1,rfl,rfl,i0,rfl,N,H⟩
  have hn_needs:=H.xB (α:=yLI) 0 rfl 0 rfl qj
  have nl:=Xt s ((vU s t c).take k_1)
  have tl:=List.length_take_le k_1 (vU s t c)
  have cl8:=cellR_len (t:=t) p0 c
  refine zcr (sq 1 (zjn (xU (cD rfl (fun h59=>?_) (fun h59=>?_)))))
  ·obtain ⟨e1,e2,e3,e4⟩:=cellR_at (s:=s) (t:=t) (c:=c) (j:=k_1) qf
   refine qU (t_n (xU (qV (zcr ?_))))
   obtain ⟨b60,o61,rfl⟩:=H.addr 1 rfl qf
   refine oI rfl rfl (oL rfl (H.zB 1 rfl k_1 qf) (sq 1 (zjn (xK (sq 1 (oF rfl (oL rfl (H.cell 5 rfl rfl) (sq 1 ?_))))))))
   obtain ⟨b63,o64,rfl⟩:=H.addr 6 rfl qf
   obtain ⟨ae66Need,ce66Need,Fe66Need,ae66Have,ce66Have,Fe66Have,ae66Lack,ce66Lack,Fe66Lack,ae66Here,ce66Here,Fe66Here,ae66Out,ce66Out,Fe66Out,ae66Into,ce66Into,Fe66Into,H⟩:=H.Qc 6 rfl ((vU s t c)[k_1]!) (((vU s t c)[k_1]!).toNat) qf qf qf
   refine oI rfl rfl (oF rfl (oL rfl (H.xW 6 rfl 2 rfl) (sw (xx H underlying41 ti27 [Sv ae66Need (((s.qE[((vU s t c)[k_1]!).toNat]!).vF).length) ce66Need] fun b67 w68 H=>sw (zG H 1 rfl 0 rfl underlying41 ti27 rfl qj rfl rfl rfl qw qp qf fun a69 c70 w71 H=>?_)))))
   replace H:=H.yC 7 rfl 0 rfl
   refine sq 1 (xP (b_n (t_n (xK (sw (zi k_1 1 rfl rfl qf (sq 1 (xP (qW (m' :=(((vU s t c).length) - ((k_1+1):Int)).toNat) qf ⟨_,_,_,_,_,_,_,k_1+1,uE12,?_,?_,rfl,N,H.pick (zR 1 8) (0::zR 9 9)⟩)))))))))
   ·exact needs_take qf
   ·omega
  rw [List.take_of_length_le (l:=vU s t c) (i:=k_1) qf] at H
  refine zx4 (zcr (oF rfl (oL rfl (H.cell 4 rfl rfl) (sp (yI c) ?_))))
  obtain ⟨b72,o73,rfl⟩:=H.addr 8 rfl qf
  obtain ⟨ae75,ce75,Fe75,H⟩:=H.ji 8 rfl c c qf qf qf
  refine oI rfl rfl (oL rfl (H.xW 1 rfl 0 rfl) (sq 1 ?_))
  obtain ⟨G76,hn77,h78⟩:=H.XE (α:=yLI) 0 rfl 2 rfl qj
  have cp:=cell_pack p0 p1 (c:=c) qf
  have nl2:=Xt s (vU s t c)
  have sz82:=H.base.size
  have lt83:=H.ltN (L:=[F_own]) [5]
  refine sw (oc (jo (by rw [← hn77]) (maxPack_ok _ (t.qP[c]!) (vT s (vU s t c)) (H.get 0 rfl).1 (hn77▸h78) qg qg)) ?_)
  rintro _ w80 ⟨ra79a,rn79a,rc79a,rx79a,rF79a,rfl,M,K⟩ _
  replace N:=N.merge sz82 lt83 M
  replace H:=H.merge K M
  obtain rfl:=H.xB (α:=yLI) 0 rfl 0 rfl qj
  refine sq 5 (zjcc (sq 1 (sp (Bv (((yg (t.qP[c]!) (vT s (vU s t c))).2:Int) != 0)) (zjn ?_))))
  refine zT (((yg (t.qP[c]!) (vT s (vU s t c))).2:Int) != 0) rfl (fun h85=>?_) (fun h85=>?_)
  ·replace h85:=bne_iff_ne.1 h85
   refine zcr (sq 3 (zjr (t_r (zr5 (ret2 yN (yI ((yg (t.qP[c]!) (vT s (vU s t c))).2)) rfl rfl rfl ⟨_,rfl,?_⟩)))))
   replace H:=H.erases [6,5,4,3,2,1,0]
   dsimp only [zU,List.eraseIdx] at H
   refine sq 5 (zjcc (sq 1 (sp (Bv (((yg (t.qP[c]!) (vT s (vU s t c))).2:Int) != 0)) (zjn (zT (((yg (t.qP[c]!) (vT s (vU s t c))).2:Int) != 0) rfl (fun h86=>?_) (fun h=>absurd (xu h) h85))))))
   replace h86:=bne_iff_ne.1 h86
   refine zcr (sq 3 (zjr (t_r ?_)))
   replace H:=H.nilRow 27 1
   replace H:=H.vV (α:=yLI)
   refine ret2 yN (yI ((yg (t.qP[c]!) (vT s (vU s t c))).2)) rfl rfl rfl ⟨_,rfl,?_,H.base⟩
   rw [cho_code (bad_code (c:=c) qf qf ‹_›) ‹_›]
   exact ⟨none,0,0,[],[],rfl,(N.emp.pick [0]),H.pick [0] [0]⟩
  replace h85:=xu h85
  refine qU (t_n (xK (sq 3 (sw (vG [Sv a49 ((vU s t c).length) c50,Sv ra79a (((yg (t.qP[c]!) (vT s (vU s t c))).1).length) rc79a] [(0,Sv a49 ((vU s t c).length) c50),(1,Sv ra79a (((yg (t.qP[c]!) (vT s (vU s t c))).1).length) rc79a)] (sw (xx H underlying207 ti211 [Sv a49 ((vU s t c).length) c50,Sv ra79a (((yg (t.qP[c]!) (vT s (vU s t c))).1).length) rc79a] fun b87 w88 H=>?_)))))))
  have H0:=H
  obtain ⟨G92,hg94,hn93,H⟩:=H.Qj (α:=yLI) 1 rfl 0 rfl qj
  replace N:Fresh w.heap.size [G92,F_own]:=Fresh.ice N H0 1 hg94.1 hg94.2 (H0.vz [6])
  clear H0
  refine sw (zG H 3 rfl 0 rfl underlying207 ti211 rfl qj rfl rfl rfl qw qp qf fun a89 c90 w91 H=>?_)
  replace H:=H.snoc_inCellD 6 rfl 5 rfl 0 rfl
  refine sq 1 (xP (b_n (t_n (xK (sw (zi c 1 rfl rfl qf (sq 1 (xP (qW (m' :=(s.qC.length - ((c+1):Int)).toNat) qf ⟨_,_,_,_,_,_,_,c+1,uE6,?_,?_,?_,rfl,(N.pick [1]),H.pick (zR 3 7) (0::zR 8 7)⟩)))))))))
  ·first | exact cells_yes qf | exact cells_no qf
  ·omega
  ·exact gp.succ (by first | exact .inl qf | exact .inr (show (yg _ _).2=0 from ‹_›))
 refine zx4 (zcr (sq 2 (sp (yI 0) (zjr (ret2 (Sv jl vC jh) (yI 0) rfl rfl rfl ⟨_,rfl,?_⟩)))))
 replace H:=H.erases [4,3,2,1]
 dsimp only [zU,List.eraseIdx] at H
 obtain rfl:c=s.qC.length:=by omega
 have kn:=packsL_ne p0 p1 (k:=s.qC.length) qf gp
 have kr:=rules_le s t s.qC.length
 have kl:=packsL_le s t s.qC.length
 have ce:=cells_len s t s.qC.length
 refine sq 2 (sp (yI 0) (sq 1 (sp (yI 0) (zjcc (sp (yI 0) (sp (Bv false) (zjn (cFr rfl (qU (t_n (zcr (oF rfl (oL rfl (H.cell 2 rfl rfl) (oN rfl (sw (Qr H underlying27 ti2 s.qE.length rfl rfl qf qf qf fun b95 w96 H=>sw (xx H underlying41 ti27 [Sv (aa b95 0) s.qE.length s.qE.length] fun b97 w98 H=>sq 1 (zjcc ?_))))))))))))))))))
 refine sq 1 (oN rfl (sp (yI 0) (zjn (qV ?_))))
 obtain ⟨G99,hg101,hn100,H⟩:=H.Qj (α:=inCellD) 2 rfl 0 rfl qj
 replace H:=H.boxRow 0 rfl 1 1 rfl qj
 replace H:=H.vV (α:=yLI)
 obtain ⟨G102,N,hn103,H⟩:=H.zh 1 rfl N (H.vz [3])
 replace H:=H.Xl true 0 rfl 1 rfl qm
 replace N:Fresh w.heap.size [(G102++[]),F_own]:=(N.emp.pick [1,0,2]).join
 refine zA ((fun Z0 Z1 Z2 Z3 Z4 Z5 Z6 Z7=>fun m' ρ w104=>∃ (xQ:Env) (a_out_1:yOA) (QY:Nat) (X0:Nat) (out_1:yLL) (x_out_1:List Value) (F_out_1:yLN) (k_1:Nat),ρ=upd (upd (upd (upd xQ 8 (Sv a_out_1 QY X0)) 33 (Sv jl vC jh)) 34 (yI vC)) 35 (yI k_1)/\out_1=(Qa s.qE.length (xy s t s.qC.length) (zl s t s.qC.length) k_1)/\((k_1:Int)<=vC)/\((Qa s.qE.length (xy s t s.qC.length) (zl s t s.qC.length) k_1).length<=300)/\m' =(vC - (k_1:Int)).toNat/\Fresh w.heap.size [F_out_1]/\St w w104 [rr a_out_1 QY X0 27 1 x_out_1,Z0,Z1] [xN true F_out_1 x_out_1 out_1,Z2,Z3,Z4,Z5,Z6,Z7]) _ _ _ _ _ _ _ _) ((vC - (0:Int)).toNat) ⟨_,(aa b97 0),1,1,[(List.replicate s.qE.length (0:Int))],[Sv (aa b95 0) s.qE.length s.qE.length],(G102++[]),0,uE4,(by rfl),qf,(by rw [QW];show 1<=300;omega),rfl,(N.pick [0]),H.pick [0,3,4] (0::3::zR 7 5)⟩ ?_
 clear H N
 rintro m' ρ w105 ⟨xQ,a_out_1,QY,X0,out_1,x_out_1,F_out_1,k_1,rfl,rfl,i0,g3,rfl,N,H⟩
 have hn_out:=H.xB (α:=yLI) 0 rfl 0 rfl qj
 refine zcr (sq 1 (zjn (xU (cD rfl (fun h106=>?_) (fun h106=>?_)))))
 ·obtain ⟨gb,gc⟩:=cell_few (s:=s) (t:=t) (n:=s.qC.length) (i:=k_1) p0 qf
  refine qU (t_n (xU (qV (zcr ?_))))
  have hl109:=H.isLen 1 rfl
  obtain ⟨b107,o108,rfl⟩:=H.addr 1 rfl qf
  obtain ⟨ae110rules,ce110rules,Fe110rules,ae110packings,ce110packings,Fe110packings,H⟩:=H.elem_inCellD 1 rfl k_1 k_1 qf qf qf
  refine oI rfl rfl (sw (x8 [Sv ae110rules ((((Xx s t s.qC.length)[k_1]!).frules).length) ce110rules,Sv ae110packings ((((Xx s t s.qC.length)[k_1]!).fpackings).length) ce110packings] isAgg211 sizeOf211 rfl (qF (H.get 2 rfl) 0 2) (sw (xH H ti211 [yN,yN] fun b111 w112 H=>sw (xY H 0 [Sv ae110rules ((((Xx s t s.qC.length)[k_1]!).frules).length) ce110rules,Sv ae110packings ((((Xx s t s.qC.length)[k_1]!).fpackings).length) ce110packings] sizeOf211 fun w113 H=>zjc (sw (zW H underlying41 ti27 fun b114 w115 H=>?_)))))))
  refine sq 1 (zjcc (sq 1 (oN rfl (sp (yI 0) (zjn (qV ?_))))))
  obtain ⟨ce1,ce2⟩:=cells_at (s:=s) (t:=t) (k:=s.qC.length) (i:=k_1) qf
  rw [ce1,ce2] at H
  replace H:=H.boxRow 0 rfl 1 0 rfl qj
  replace H:=H.vV (α:=yLI)
  refine zA ((fun Z0 Z1 Z2 Z3 Z4 Z5 Z6 Z7 Z8 Z9 Z10 Z11 Z12 Z13=>fun m' ρ w116=>∃ (xQ:Env) (a_next:yOA) (n_next:Nat) (c_next:Nat) (next:yLL) (x_next:List Value) (F_next:yLN) (k_51:Nat),ρ=upd (upd (upd (upd (upd (upd (upd (upd xQ 10 (pp b111 0)) 11 (Sv a_next n_next c_next)) 33 (Sv (aa b107 o108) vC jh)) 34 (yI vC)) 35 (yI k_1)) 40 (Sv a_out_1 QY X0)) 41 (yI QY)) 42 (yI k_51)/\next=(nextK (Qa s.qE.length (xy s t s.qC.length) (zl s t s.qC.length) k_1) ((xy s t s.qC.length)[k_1]!) ((zl s t s.qC.length)[k_1]!) k_51)/\((k_51:Int)<=QY)/\((nextK (Qa s.qE.length (xy s t s.qC.length) (zl s t s.qC.length) k_1) ((xy s t s.qC.length)[k_1]!) ((zl s t s.qC.length)[k_1]!) k_51).length<=300)/\m' =(QY - (k_51:Int)).toNat/\Fresh w.heap.size [F_out_1,F_next]/\St w w116 [rr a_next n_next c_next 27 1 x_next,Z0,Z1,Z2,Z3] [xN true F_next x_next next,Z4,Z5,Z6,Z7,Z8,Z9,Z10,Z11,Z12,Z13]) _ _ _ _ _ _ _ _ _ _ _ _ _ _) ((QY - (0:Int)).toNat) ⟨_,(aa b114 0),0,0,([]:yLL),[],[],0,uE8,(by rfl),qf,(by show 0<=300;omega),rfl,(N.emp.pick [1,0]),H⟩ ?_
  clear H N
  rintro m' ρ w117 ⟨xQ,a_next,n_next,c_next,next,x_next,F_next,k_51,rfl,rfl,i0,n3,rfl,N,H⟩
  have hn_next:=H.xB (α:=yLI) 0 rfl 0 rfl qj
  refine zcr (sq 1 (zjn (xU (cD rfl (fun h118=>?_) (fun h118=>?_)))))
  ·refine qU (t_n (xU (qV (zcr ?_))))
   obtain ⟨b119,rfl⟩:=H.y5 2 rfl qf
   refine oI rfl rfl ?_
   obtain ⟨a120,c121,G122,s123,h124,H⟩:=H.jY 2 rfl 4 rfl (iv:=k_51) k_51 qf qf
   refine oL rfl (h124) (sq 1 (zjcc (oF rfl (oL rfl (H.cell 1 rfl rfl) (oN rfl (sp (yI 0) (zjn (qV ?_))))))))
   refine zA ((fun Z0 Z1 Z2 Z3 Z4 Z5 Z6 Z7 Z8 Z9 Z10 Z11 Z12 Z13 Z14=>fun m' ρ w125=>∃ (xQ:Env) (a_next_1:yOA) (n_next_1:Nat) (c_next_1:Nat) (next_1:yLL) (x_next_1:List Value) (XD:yLN) (k_52:Nat),ρ=upd (upd (upd (upd (upd (upd (upd (upd (upd (upd (upd (upd xQ 10 (pp b111 0)) 11 (Sv a_next_1 n_next_1 c_next_1)) 13 (Sv a120 (((Qa s.qE.length (xy s t s.qC.length) (zl s t s.qC.length) k_1)[k_51]!).length) c121)) 33 (Sv (aa b107 o108) vC jh)) 34 (yI vC)) 35 (yI k_1)) 40 (Sv (aa b119 0) QY X0)) 41 (yI QY)) 42 (yI k_51)) 47 (Sv ae110packings (((zl s t s.qC.length)[k_1]!).length) ce110packings)) 48 (yI (((zl s t s.qC.length)[k_1]!).length))) 49 (yI k_52)/\next_1=(nextX (Qa s.qE.length (xy s t s.qC.length) (zl s t s.qC.length) k_1) ((xy s t s.qC.length)[k_1]!) ((zl s t s.qC.length)[k_1]!) k_51 k_52)/\((k_52:Int)<=(((zl s t s.qC.length)[k_1]!).length))/\m' =((((zl s t s.qC.length)[k_1]!).length) - (k_52:Int)).toNat/\Fresh w.heap.size [F_out_1,XD]/\St w w125 [rr a_next_1 n_next_1 c_next_1 27 1 x_next_1,Z0,Z1,Z2,Z3] [Z4,xN true XD x_next_1 next_1,Z5,Z6,Z7,Z8,Z9,Z10,Z11,Z12,Z13,Z14]) _ _ _ _ _ _ _ _ _ _ _ _ _ _ _) (((((zl s t s.qC.length)[k_1]!).length) - (0:Int)).toNat) ⟨_,a_next,n_next,c_next,(nextK (Qa s.qE.length (xy s t s.qC.length) (zl s t s.qC.length) k_1) ((xy s t s.qC.length)[k_1]!) ((zl s t s.qC.length)[k_1]!) k_51),x_next,F_next,0,uE12,(by exact nextX_zero _ _ _ _),qf,rfl,N,H⟩ ?_
   clear H N
   rintro m' ρ w126 ⟨xQ,a_next_1,n_next_1,c_next_1,next_1,x_next_1,XD,k_52,rfl,rfl,i0,rfl,N,H⟩
   have hn_next:=H.xB (α:=yLI) 0 rfl 1 rfl qj
   refine zcr (sq 1 (zjn (xU (cD rfl (fun h127=>?_) (fun h127=>?_)))))
   ·have nx:=nextX_len (r:=((xy s t s.qC.length)[k_1]!)) (show k_51 < (Qa s.qE.length (xy s t s.qC.length) (zl s t s.qC.length) k_1).length by omega) (show k_52<=((zl s t s.qC.length)[k_1]!).length by omega)
    have nk:=nextK_len (r:=((xy s t s.qC.length)[k_1]!)) (P:=((zl s t s.qC.length)[k_1]!)) (show k_51<=(Qa s.qE.length (xy s t s.qC.length) (zl s t s.qC.length) k_1).length by omega)
    have g1:=prodG_at (n:=s.qE.length) (rs:=(xy s t s.qC.length)) (all:=(zl s t s.qC.length)) (i:=k_1) (k:=k_51) qf
    have g2:=pack_at (s:=s) (t:=t) (n:=s.qC.length) (i:=k_1) (x:=k_52) qf qf
    refine qU (t_n (xU (qV (zcr ?_))))
    obtain ⟨b128,o129,rfl⟩:=H.addr 3 rfl qf
    obtain ⟨ae131,ce131,Fe131,H⟩:=H.ji 3 rfl k_52 k_52 qf qf qf
    refine oI rfl rfl (oL rfl (H.xW 1 rfl 0 rfl) (sq 1 (zjc (sq 1 ?_))))
    have sz132:=H.base.size
    have lt133:=H.ltN (L:=[F_out_1,XD]) [7,3]
    refine sw (oc (cloneI_ok _ ((Qa s.qE.length (xy s t s.qC.length) (zl s t s.qC.length) k_1)[k_51]!) (H.get 2 rfl).1 qg) ?_)
    rintro v137 w135 r137 x136
    replace H:=H.zt x136 r137
    obtain ⟨a138,c139,rfl,hc140,hm141⟩:=H.jm 0 rfl
    refine sq 1 (zjcc (oF rfl (oL rfl (H.cell 2 rfl rfl) (oN rfl (sp (yI 0) (zjn (qV ?_)))))))
    refine zA ((fun Z0 Z1 Z2 Z3 Z4 Z5 Z6 Z7 Z8 Z9 Z10 Z11 Z12 Z13 Z14 Z15 Z16 Z17 Z18=>fun m' ρ w142=>∃ (xQ:Env) (k_53:Nat) (own_1:yLI),ρ=upd (upd (upd (upd (upd (upd (upd (upd (upd (upd (upd (upd (upd (upd (upd (upd (upd xQ 10 (pp b111 0)) 11 (Sv a_next_1 n_next_1 c_next_1)) 13 (Sv a120 (((Qa s.qE.length (xy s t s.qC.length) (zl s t s.qC.length) k_1)[k_51]!).length) c121)) 15 (Sv ae131 ((((zl s t s.qC.length)[k_1]!)[k_52]!).length) ce131)) 16 (Sv a138 (((Qa s.qE.length (xy s t s.qC.length) (zl s t s.qC.length) k_1)[k_51]!).length) c139)) 33 (Sv (aa b107 o108) vC jh)) 34 (yI vC)) 35 (yI k_1)) 40 (Sv (aa b119 0) QY X0)) 41 (yI QY)) 42 (yI k_51)) 47 (Sv (aa b128 o129) (((zl s t s.qC.length)[k_1]!).length) ce110packings)) 48 (yI (((zl s t s.qC.length)[k_1]!).length))) 49 (yI k_52)) 56 (Sv ae110rules (((xy s t s.qC.length)[k_1]!).length) ce110rules)) 57 (yI (((xy s t s.qC.length)[k_1]!).length))) 58 (yI k_53)/\own_1=(setTo ((Qa s.qE.length (xy s t s.qC.length) (zl s t s.qC.length) k_1)[k_51]!) ((xy s t s.qC.length)[k_1]!) (((zl s t s.qC.length)[k_1]!)[k_52]!) k_53)/\((k_53:Int)<=(((xy s t s.qC.length)[k_1]!).length))/\m' =((((xy s t s.qC.length)[k_1]!).length) - (k_53:Int)).toNat/\Fresh w.heap.size [F_out_1,XD]/\St w w142 [rr a138 (((Qa s.qE.length (xy s t s.qC.length) (zl s t s.qC.length) k_1)[k_51]!).length) c139 2 1 (own_1.map (Value.int .i64)),Z0,Z1,Z2,Z3,Z4] [Z5,Z6,Z7,Z8,Z9,Z10,Z11,Z12,Z13,Z14,Z15,Z16,Z17,Z18]) _ _ _ _ _ _ _ _ _ _ _ _ _ _ _ _ _ _ _) (((((xy s t s.qC.length)[k_1]!).length) - (0:Int)).toNat) ⟨_,0,((Qa s.qE.length (xy s t s.qC.length) (zl s t s.qC.length) k_1)[k_51]!),uE17,(by rfl),qf,rfl,N,H⟩ ?_
    clear H N
    rintro m' ρ w143 ⟨xQ,k_53,own_1,rfl,rfl,i0,rfl,N,H⟩
    have hn_own:=H.yt 0 rfl
    have sl:=setTo_len ((Qa s.qE.length (xy s t s.qC.length) (zl s t s.qC.length) k_1)[k_51]!) ((xy s t s.qC.length)[k_1]!) (((zl s t s.qC.length)[k_1]!)[k_52]!) k_53
    refine zcr (sq 1 (zjn (xU (cD rfl (fun h144=>?_) (fun h144=>?_)))))
    ·obtain ⟨g3',g4⟩:=choice_at (s:=s) (t:=t) (n:=s.qC.length) (i:=k_1) (r:=k_53) qf qf
     refine qU (t_n (xU (qV (zcr (sq 1 ?_)))))
     obtain ⟨b145,o146,rfl⟩:=H.addr 4 rfl qf
     refine oI rfl rfl (oL rfl (H.zB 4 rfl k_53 qf) (sq 2 (zjn (xK (sq 4 ?_)))))
     obtain ⟨b148,o149,rfl⟩:=H.addr 0 rfl qf
     refine oI rfl rfl (oL rfl (H.zB 0 rfl k_53 qf) ?_)
     obtain ⟨b151,rfl⟩:=H.y5 0 rfl qf
     refine oI rfl rfl (sw (XB H 0 rfl ((((zl s t s.qC.length)[k_1]!)[k_52]!)[k_53]!) sizeOf2 rfl rfl (i:=((((xy s t s.qC.length)[k_1]!)[k_53]!).toNat)) qf qf fun w152 H=>xP (b_n (t_n (xK (sw (zi k_53 1 rfl rfl qf (sq 1 (xP (qW (m' :=((((xy s t s.qC.length)[k_1]!).length) - ((k_53+1):Int)).toNat) qf ⟨_,k_53+1,_,uE17,?_,?_,rfl,N,H⟩))))))))))
     ·rfl
     ·omega
    refine zx4 (xK (sq 2 (sw (xx H underlying41 ti27 [Sv a138 (((Qa s.qE.length (xy s t s.qC.length) (zl s t s.qC.length) k_1)[k_51]!).length) c139] fun b153 w154 H=>?_))))
    obtain ⟨G158,N,hn159,H⟩:=H.zh 1 rfl N (H.vz [7,3])
    refine sw (zG H 2 rfl 0 rfl underlying41 ti27 rfl qj rfl rfl rfl qw qp qf fun a155 c156 w157 H=>?_)
    replace H:=H.yC 4 rfl 0 rfl
    replace N:Fresh w.heap.size [(XD++G158),F_out_1]:=(N.pick [2,0,1]).join
    refine sq 1 (xP (b_n (t_n (xK (sw (zi k_52 1 rfl rfl qf (sq 1 (xP (qW (m' :=((((zl s t s.qC.length)[k_1]!).length) - ((k_52+1):Int)).toNat) qf ⟨_,_,_,_,_,_,_,k_52+1,uE12,?_,?_,rfl,(N.pick [1,0]),H.pick (zR 2 5) (4::0::zR 6 10)⟩)))))))))
    ·exact nextX_succ qf (by rw [show k_53=((xy s t s.qC.length)[k_1]!).length by omega];rfl)
    ·omega
   refine zx4 (zcr (sq 1 (oN rfl (sp (Bv (decide ((n_next_1:Int) > 300))) (zjn (cD rfl (fun h160=>?_) (fun h160=>?_)))))))
   ·refine zcr (sq 1 (sp (yI 3) (zjr (zr5 (zr5 ?_)))))
    replace H:=H.nilRow 27 1
    replace H:=H.vV (α:=yLI)
    refine ret2 yN (yI 3) rfl rfl rfl ⟨_,rfl,?_,H.base⟩
    first | rw [cho_3 (.inl (own_bad p0 (q:=k) qf qf))] | rw [cho_3 (.inr (prod_stop (G:=(Qa s.qE.length (xy s t s.qC.length) (zl s t s.qC.length) k_1)) (r:=((xy s t s.qC.length)[k_1]!)) (k:=k_51+1) (i:=k_1) kn qf (QW _) qf (by rw [← nextX_end (x:=k_52) qf qf];omega)))]
    exact ⟨none,0,0,[],[],rfl,(N.emp.pick [0]),H.pick [0] [0]⟩
   refine qU (b_n (t_n (xK (sw (zi k_51 1 rfl rfl qf (sq 1 (xP (qW (m' :=(QY - ((k_51+1):Int)).toNat) qf ⟨_,_,_,_,_,_,_,k_51+1,uE8,?_,?_,?_,rfl,N,H.pick (zR 0 5) (zR 1 11)⟩))))))))
   ·exact nextX_end qf qf
   ·omega
   ·rw [← nextX_end (x:=k_52) qf qf];omega
  refine zx4 (xK (sq 2 (xP (b_n (t_n (xK (sw (zi k_1 1 rfl rfl qf (sq 1 (xP (qW (m' :=(vC - ((k_1+1):Int)).toNat) qf ⟨_,_,_,_,_,_,_,k_1+1,uE4,?_,?_,?_,rfl,(N.pick [1]),H.pick [0,3,4] (0::zR 5 6)⟩)))))))))))
  ·rw [show k_51=(Qa s.qE.length (xy s t s.qC.length) (zl s t s.qC.length) k_1).length by omega];rfl
  ·omega
  ·show (nextK (Qa s.qE.length (xy s t s.qC.length) (zl s t s.qC.length) k_1) ((xy s t s.qC.length)[k_1]!) ((zl s t s.qC.length)[k_1]!) (Qa s.qE.length (xy s t s.qC.length) (zl s t s.qC.length) k_1).length).length<=300;rw [← show k_51=(Qa s.qE.length (xy s t s.qC.length) (zl s t s.qC.length) k_1).length by omega];exact n3
 obtain rfl:k_1=(zl s t s.qC.length).length:=by omega
 have on:0 < (Qa s.qE.length (xy s t s.qC.length) (zl s t s.qC.length) (zl s t s.qC.length).length).length:=by rw [QW];exact prod_mono kn (Nat.zero_le _) (Nat.le_refl _)
 have kc:¬ Q9 (zl s t s.qC.length) (zl s t s.qC.length).length > 300:=by rw [QW] at g3;omega
 refine zx4 (zcr (sq 1 ?_))
 obtain ⟨b161,rfl⟩:=H.y5 0 rfl qf
 refine sw (jg #[Sv (aa b161 0) QY X0,.func (.func 173) #[] #[]] rfl rfl call172 (sortRow sortL call173 cmpSort H 0 rfl 0 rfl qf qf) ?_)
 rintro _ w162 ⟨xs163,F164,l165,rfl,hF166,hp167,hs168,H⟩
 replace N:Fresh w.heap.size [F164]:=Fresh.perm N hF166
 refine zjc (sq 2 (sp (yI 0) (zjr (ret2 (Sv (aa b161 0) QY X0) (yI 0) rfl rfl rfl ⟨_,rfl,?_,H.base⟩))))
 rw [cho_0 gp kc hp167 (in_order (Nat.le_refl _) fun a b h1 h2 h3=>hs168 a b h1 h2 ((cmpL_ahead ((perm_rows hp167 b qf).trans (perm_rows hp167 a qf).symm)).2 h3))]
 exact ⟨(aa b161 0),QY,X0,xs163,F164,rfl,N,H.pick [0] [0]⟩
end
end Go.Proofs.YtjfmcaiombkobaaGreat
