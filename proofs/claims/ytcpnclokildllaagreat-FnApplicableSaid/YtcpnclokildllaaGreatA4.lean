/- Walks and laws, printed by program and by hand: what each function comes to, for all arguments, part 4. -/
import Derived.Test.YtcpnclokildllaaGreatA3
namespace Go.Proofs.YtcpnclokildllaaGreat
open Go.Proofs.Tryz
set_option linter.unusedVariables false
set_option linter.unusedSimpArgs false
open Go.Proofs.YtcpnclokildllaaGreat.Tot (tot)
open Go.Proofs.YtcpnclokildllaaGreat.Mark (cnt mrk mkd mkd_mark cnt_mark)
section
open Go.Proofs.Tryz
open Go.RowKit
set_option linter.unusedVariables false
set_option linter.unusedSimpArgs false
set_option maxRecDepth 100000
set_option maxHeartbeats 4000000
variable {bs os qC qK bt ot qQ qY qL ccounts cl ca cb QH Xd yZ QG Xc yY ccs : Nat}
theorem l03Step_ok (w:World) (s:qI) (t:qP) (counts:yLI) {qE:yOA} {xe:yLN} {qO:yOA} {xE:yLN} {qU:yOA} {xO:yLN} {xf:yOA} {zo:yLN} {qM:yOA} {xB:yLN} {acounts:yOA} {Fcounts:yLN} (hs:jk w bs os (yS s qE qC qO qK)) (qZ:qX.rep w xe [Sv qE s.qA.length qC] s.qA) (xC:qX.rep w xE [Sv qO s.qB.length qK] s.qB) (ht:jk w bt ot (yT t qU qQ xf qY qM qL)) (xQ:qX.rep w xO [Sv qU t.qG.length qQ] t.qG) (zA:qX.rep w zo [Sv xf t.qH.length qY] t.qH) (xH:qX.rep w xB [Sv qM t.qF.length qL] t.qF) (hcounts:qX.rep w Fcounts [Sv acounts counts.length ccounts] counts) (p0:zQ s) (p1:xI s t) (p2:XZ s counts):Calls Tryz.prog 57 #[pp bs os,pp bt ot,Sv acounts counts.length ccounts] w (Ret (fun v w' =>∃ (ra0Alive:yOA) (rn0Alive:Nat) (rc0Alive:Nat) (ra0Bags:yOA) (rn0Bags:Nat) (rc0Bags:Nat) (rx0Bags:List Value) (rF0Bags:yLN) (ra0Around:yOA) (rn0Around:Nat) (rc0Around:Nat),v=.tuple #[.agg #[Sv ra0Alive rn0Alive rc0Alive,Sv ra0Bags rn0Bags rc0Bags,Sv ra0Around rn0Around rc0Around],yI ((zl s t counts).2)]∧Fresh w.heap.size [rF0Bags]∧St w w' [rr ra0Alive rn0Alive rc0Alive 4 1 ((((zl s t counts).1).qG).map (Value.bool)),rr ra0Bags rn0Bags rc0Bags 24 1 rx0Bags,rr ra0Around rn0Around rc0Around 2 1 ((((zl s t counts).1).qF).map (Value.int .i64))] [xN true rF0Bags rx0Bags (((zl s t counts).1).qH)]) w):=by
 refine en func57 ntmps57 ?_
 have H:=((((((((St.start w).arg hcounts).arg xH).arg zA).arg xQ).Vf ht).arg xC).arg qZ).Vf hs
 have zX:=qV qZ
 have jo:=qV xC
 have yC:=qV xQ
 have Qm:=qV zA
 have jH:=qV xH
 have nhcounts:=qV hcounts
 clear hs qZ xC ht xQ zA xH hcounts
 have N:=Fresh.nil w.heap.size
 have p3:=p0.2.1
 have p6:=p2.1
 have p7:=p1.2.1
 have p8:=kinds_le p0
 have p9:=p0.1.2.1
 have p11:xP s=s.qA.length:=rfl
 have p12:=p1.1
 have p15:=p0.1
 have p16:=p0.1.1
 obtain ⟨q7,q8,q9,q10⟩:=p1.sizes p0.1
 have q13:=fun k hk=>Nat.le_trans (q10 k hk) (by decide:8≤1000000)
 have p14:=restR_len (s:=s) (t:=t) (counts:=counts)
 refine zcr (sw (xZ H ti31 [yN,yN,yN] fun b1 w2 H=>sp (yI 0) (zjc (sps [pp bs os,pp bt ot,Sv acounts counts.length ccounts] ?_))))
 have sz6:=H.base.size
 refine sw (oc (l03Rest_ok _ s t counts (qJ (H.get 0 rfl) 0 3) (H.get 1 rfl).1 (H.get 2 rfl).1 (qJ (H.get 3 rfl) 0 3) (H.get 4 rfl).1 (H.get 5 rfl).1 (H.get 6 rfl).1 (H.get 7 rfl).1 qg qg qg) ?_)
 rintro _ w4 ⟨ra3a,rn3a,rc3a,rx3a,rF3a,rfl,M,K⟩ _
 replace N:=N.merge sz6 qm M
 replace H:=H.merge K M
 obtain rfl:=H.x8 (α:=yLI) 0 rfl 0 rfl qj
 refine sps [.tuple #[Sv ra3a ((yP s t counts (QV (Yh s t counts) counts.length)).length) rc3a,Bv (dec (IsCh s t counts))],Sv ra3a ((yP s t counts (QV (Yh s t counts) counts.length)).length) rc3a,Bv (dec (IsCh s t counts)),Sv ra3a ((yP s t counts (QV (Yh s t counts) counts.length)).length) rc3a,Bv (dec (IsCh s t counts))] (zjcc (sps [Bv (dec (IsCh s t counts)),Bv (!(dec (IsCh s t counts)))] (zjn (cQ rfl (fun h9=>?_) (fun h9=>?_)))))
 ·skip
  refine zcr (sw (vX [yN,yN,yN] [] (sw (zu H 1 [yN,yN,yN] sizeOf31 fun w10 H=>sp (yI 4) (zjr (t_r ?_))))))
  replace H:=H.nilRowB 4
  replace H:=H.nilRow 24 1
  replace H:=H.vT (α:=yLI)
  replace H:=H.nilRowI 2
  refine retC2 H 4 rfl (yI 4) rfl isAgg31 sizeOf31 rfl rfl ⟨_,rfl,?_,H.base⟩
  rw [stepBy_no ‹_›]
  exact ⟨none,0,0,none,0,0,[],[],none,0,0,rfl,(N.emp.pick [0]),H.pick [2,1,0] [0]⟩
 have st:=stop_none (n:=counts.length) (P:=Yh s t counts) (‹IsCh s t counts›).1
 have r1:=restR_len (s:=s) (t:=t) (counts:=counts) (QV (Yh s t counts) counts.length)
 refine xk (t_n (zcr (sp (pp bt ot) ?_)))
 have sz14:=H.base.size
 have lt15:=H.ltN (L:=[rF3a]) [0]
 refine sw (oc (l02Own_ok _ t (qJ (H.get 4 rfl) 0 3) (H.get 5 rfl).1 (H.get 6 rfl).1 (H.get 7 rfl).1 qg qg qg qg) ?_)
 rintro _ w12 ⟨Qp,rn11Alive,Qo,ra11Bags,rn11Bags,rc11Bags,VR,Qc,ra11Around,rn11Around,rc11Around,rfl,M,K⟩ _
 replace N:=N.merge sz14 lt15 M
 replace H:=H.merge K M
 obtain rfl:=H.rowNB 0 rfl
 obtain rfl:=H.x8 (α:=yLI) 1 rfl 0 rfl qj
 obtain rfl:=H.yx 2 rfl
 refine sw (xZ H ti31 [yN,yN,yN] fun b19 w20 H=>sw (zu H 0 (yT t Qp Qo ra11Bags rc11Bags ra11Around rc11Around) sizeOf31 fun w21 H=>zjc (sp (Sv ra3a ((yP s t counts (QV (Yh s t counts) counts.length)).length) rc3a) (oF rfl (sw (zh H 0 [Sv Qp t.qG.length Qo,Sv ra3a ((yP s t counts (QV (Yh s t counts) counts.length)).length) rc3a,Sv ra11Around t.qF.length rc11Around] sizeOf29 fun w22 H=>zjcc (sp (yI 0) ?_)))))))
 refine zjn (xg ?_)
 refine zJ (fun m' ρ w23=>∃ (xY:Env) (i:Nat) (jK:yOA) (jI:Nat) (jJ:Nat) (out_Around:yLI) (rest:yLL) (x_rest:List Value) (F_rest:yLN),ρ=upd (upd (upd (upd (upd (upd xY 0 (pp bs os)) 1 (pp bt ot)) 2 (Sv acounts counts.length ccounts)) 6 (pp b1 0)) 10 (pp b19 0)) 11 (yI i)∧((i:Int)≤counts.length)∧(Ent (s.qA.length+1) (zI s) (fun p q=>base0 s t p q+V5 s counts s.qB.length p q+putS s t counts i p q) (20000000+6000000 * i) (rest++[out_Around]))∧(rest.length=s.qA.length)∧m' =(counts.length - (i:Int)).toNat∧Fresh w.heap.size [Qc,F_rest]∧St w w23 [.box b19 [Sv Qp t.qG.length Qo,Sv ra3a ((yP s t counts (QV (Yh s t counts) counts.length)).length) rc3a,Sv jK jI jJ] 31,rr Qp t.qG.length Qo 4 1 (t.qG.map (Value.bool)),rr ra11Bags t.qH.length rc11Bags 24 1 VR,rr jK jI jJ 2 1 (out_Around.map (Value.int .i64)),rr ra3a ((yP s t counts (QV (Yh s t counts) counts.length)).length) rc3a 24 1 x_rest,.box b1 [yN,yN,yN] 31] [xN true Qc VR t.qH,xN true F_rest x_rest rest,atF bs os (yS s qE qC qO qK),sF false xe qE qC s.qA,sF false xE qO qK s.qB,atF bt ot (yT t qU qQ xf qY qM qL),sF false xO qU qQ t.qG,sF false zo xf qY t.qH,sF false xB qM qL t.qF,sF false Fcounts acounts ccounts counts]) ((counts.length - (0:Int)).toNat) ⟨_,0,ra11Around,t.qF.length,rc11Around,t.qF,yP s t counts (QV (Yh s t counts) counts.length),rx3a,rF3a,uE6,qf,(by rw [st,p6];exact (rest_ent p0 p1 p2).to (fun _ _=>rfl) qf),qf,rfl,N,H⟩ ?_
 clear H N
 rintro m' ρ w24 ⟨xY,i,jK,jI,jJ,out_Around,rest,x_rest,F_rest,rfl,i0,E_rest,z_rest,rfl,N,H⟩
 have hn_out_Around:=H.yx 3 rfl
 have hn_rest:=H.x8 (α:=yLI) 4 rfl 1 rfl qj
 refine zcc (sps [yI i,Sv acounts counts.length ccounts] (oN rfl (sp (Bv (decide ((i:Int) < counts.length))) (zjn (cD rfl (fun h25=>?_) (fun h25=>?_))))))
 ·skip
  have q:=p0.rule (i:=i) qf
  have qc:=q.1
  have qk:=q.cell
  have qr:=q.2.1
  have bn1:=q.2.2.2.2.1
  have bn2:=q.2.2.2.2.2.2.2.1
  have bn3:=q.2.2.2.2.2.2.2.2.1
  have ln1:=bn1.len
  have ln2:=bn2.len
  have ln3:=bn3.len
  have p10:=p2.bd (i:=i) qf
  have qn:=q.2.2.2.1
  refine xk (t_n (zf (xg (zcr (sps [pp bs os,pp bs os] (oF rfl (oL rfl (H.x9 2 rfl 2 rfl) (sp (yI i) ?_))))))))
  obtain ⟨b26,o27,rfl⟩:=H.addr 4 rfl qf
  obtain ⟨ae29Need,ce29Need,Fe29Need,ae29Have,ce29Have,Fe29Have,ae29Lack,ce29Lack,Fe29Lack,ae29Here,ce29Here,Fe29Here,ae29Out,ce29Out,Fe29Out,ae29Into,ce29Into,Fe29Into,H⟩:=H.yH 4 rfl i i qf qf qf
  refine oI rfl rfl (sp (pp b26 (o27+(i:Int).toNat * 9)) (zjcc (sps [Sv acounts counts.length ccounts,yI i] ?_)))
  obtain ⟨b30,o31,rfl⟩:=H.addr 16 rfl qf
  refine oI rfl rfl (oL rfl (H.yF 16 rfl i qf qf) (sp (Bv ((counts[i]! :Int) == 0)) (zjn (cE rfl (fun h33=>?_) (fun h33=>?_)))))
  ·skip
   refine c_exit (t_x (b_x (t_n (zg (sp (yI i) (sw (zL i 1 rfl rfl qf (sp (yI (i+1)) (zi (xq (m' :=(counts.length - ((i+1):Int)).toNat) qf ⟨_,i+1,jK,jI,jJ,out_Around,rest,x_rest,F_rest,uE6,?_,?_,?_,rfl,N,H.pick [0,1,2,3,4,5] [7,8,9,10,11,12,13,14,15,16]⟩))))))))))
   · omega
   · first | exact E_rest.to (fun p q=>by simp only [putS_skip (s:=s) (t:=t) (counts:=counts) (i:=i) ‹_›]) qf | exact E_out_Bags.to (fun p q=>by rw [show k=((s.qB[i]!).qW).length by omega];simp only [putS,putF];omega) qf
   · omega
  refine xk (t_n (zf ?_))
  refine yR rfl H [0,1,2,3,5] fun H=>?_
  have S:=H.yj [0,1,2,3,5] [0,1,2,3,4,5,6,7,8,9,10,11,12,13,14,15,16]
  refine tF 0 rfl rfl S ?_
  refine tL 1 rfl rfl (fun _ h=>h.cell 0 rfl rfl) S ?_
  refine rtp 2 (pp b26 (o27+(i:Int).toNat * 9)) S ?_
  refine rtp 3 (pp b26 (o27+(i:Int).toNat * 9)) S ?_
  refine tF 4 rfl rfl S ?_
  refine tL 5 rfl rfl (fun _ h=>h.x9 6 rfl 0 rfl) S ?_
  refine tF 6 rfl rfl S ?_
  refine tL 7 rfl rfl (fun _ h=>h.cell 0 rfl rfl) S ?_
  refine rtp 8 (pp b26 (o27+(i:Int).toNat * 9)) S ?_
  refine rtp 9 (pp b26 (o27+(i:Int).toNat * 9)) S ?_
  refine tF 10 rfl rfl S ?_
  refine tL 11 rfl rfl (fun _ h=>h.x9 6 rfl 0 rfl) S ?_
  obtain ⟨b35,rfl⟩:=H.Qe 4 rfl qf
  have S:=H.yj [0,1,2,3,5] [0,1,2,3,4,5,6,7,8,9,10,11,12,13,14,15,16]
  refine tI 12 rfl rfl rfl S ?_
  refine rtp 14 (pp b26 (o27+(i:Int).toNat * 9)) S ?_
  refine rtp 15 (pp b26 (o27+(i:Int).toNat * 9)) S ?_
  refine tF 16 rfl rfl S ?_
  refine tL 17 rfl rfl (fun _ h=>h.x9 6 rfl 5 rfl) S ?_
  refine rtp 18 (Sv (aa b30 o31) counts.length ccounts) S ?_
  refine rtp 19 (yI i) S ?_
  refine tI 20 rfl rfl rfl S ?_
  refine tL 21 rfl rfl (fun _ h=>h.yV 16 rfl i qf) S ?_
  refine ro 13 rfl ?_
  obtain ⟨a36,c37,G38,s39,h40,H⟩:=H.jP 4 rfl 8 rfl (iv:=(s.qB[i]!).qN) (((s.qB[i]!).qN).toNat) qf qf
  refine zF (Sv a36 ((rest[((s.qB[i]!).qN).toNat]!).length) c37) isAgg24 rfl (h40) (⟨H.pick [0,1,2,3,5] [1,2,3,4,5,6,7,8,9,10,11,12,13,14,15,16,17],(ro 22 rfl ?_)⟩)
  obtain ⟨u1,u2⟩:=Ent.rowL E_rest (c:=((s.qB[i]!).qN).toNat) qf qf qf qf
  have u4:=(by first | exact bn2.jA qf | exact bn3.jA qf | exact bn4.jA qf:Vb ((s.qB[i]!).zH) (counts[i]!))
  have sz41:=H.base.size
  have lt42:=H.ltN (L:=[Qc,F_rest]) [8,9]
  refine oc (X4 _ (rest[((s.qB[i]!).qN).toNat]!) ((s.qB[i]!).zH) (counts[i]!) (H.get 0 rfl).1 (H.get 4 rfl).1 qg qg qg) ?_
  rintro v46 w44 r46 x45
  replace H:=H.zB x45 r46
  obtain ⟨a47,c48,rfl,hc49,hm50⟩:=H.jG 0 rfl
  refine ⟨H.pick [1,2,3,4,6] [1,2,3,4,5,6,7,8,9,10,11,12,13,14,15,16,17],(tI 23 rfl rfl rfl (H.pick [1,2,3,4,6] [1,2,3,4,5,6,7,8,9,10,11,12,13,14,15,16,17]) ?_)⟩
  refine ro 24 rfl ?_
  obtain ⟨G52,N,hn53,H⟩:=H.zT 0 rfl N (H.jR [8,9])
  refine jy true H 5 rfl 10 rfl (Sv a47 ((vZ (rest[((s.qB[i]!).qN).toNat]!) ((s.qB[i]!).zH) (counts[i]!)).length) c48) 0 rfl rfl sizeOf24 rfl rfl (i:=(((s.qB[i]!).qN).toNat)) qf qf qm fun w51 xs54 F55 hs56 H=>?_
  replace N:Fresh w.heap.size [F55,Qc]:=(N.pick [2,0,1]).repl hs56
  refine ⟨H.pick [1,2,3,4,6] [3,4,5,6,7,8,9,10,11,12,13,14,15,16,17,18,19],(xJ qh (t_n (zcc (sps [pp b26 (o27+(i:Int).toNat * 9),pp b26 (o27+(i:Int).toNat * 9)] (oF rfl (oL rfl (H.x9 9 rfl 0 rfl) (sp (Bv (((s.qB[i]!).qN:Int) == 0)) (zjn (cE rfl (fun h57=>?_) (fun h57=>?_))))))))))⟩
  ·skip
   obtain ⟨bg58,e_bg58⟩:∃ z,z=(rest.set (((s.qB[i]!).qN).toNat) (vZ (rest[((s.qB[i]!).qN).toNat]!) ((s.qB[i]!).zH) (counts[i]!))):=⟨_,rfl⟩
   rw [← e_bg58] at H
   have E_bg58:=Ent.addL (D:=1000000) E_rest e_bg58 qf qf (by first | exact bn2.mul qf | exact bn3.mul qf | exact bn4.mul qf) qf
   have z_bg58:bg58.length=s.qA.length:=by rw [e_bg58,List.length_set];omega
   have E_cur:=E_bg58
   refine yR rfl H [0,2,3,4,5,6] fun H=>?_
   have S:=H.yj [0,2,3,4,5,6] [0,1,2,3,4,5,6,7,8,9,10,11,12,13,14,15,16,17,18,19]
   refine tF 0 rfl rfl S ?_
   refine rtp 2 (pp b26 (o27+(i:Int).toNat * 9)) S ?_
   refine rtp 3 (pp b26 (o27+(i:Int).toNat * 9)) S ?_
   refine tF 4 rfl rfl S ?_
   refine tL 5 rfl rfl (fun _ h=>h.x9 9 rfl 6 rfl) S ?_
   refine rtp 6 (Sv (aa b30 o31) counts.length ccounts) S ?_
   refine rtp 7 (yI i) S ?_
   refine tI 8 rfl rfl rfl S ?_
   refine tL 9 rfl rfl (fun _ h=>h.yV 19 rfl i qf) S ?_
   refine ro 1 rfl (zF (Sv jK jI jJ) isAgg24 rfl (H.cell 1 rfl rfl) (⟨H.pick [0,2,3,4,5,6] [0,1,2,3,4,5,6,7,8,9,10,11,12,13,14,15,16,17,18,19],(ro 10 rfl ?_)⟩))
   obtain ⟨G60,hn61,h62⟩:=H.QW 4 rfl
   obtain ⟨u1,u2⟩:=Ent.rowN E_bg58 qf qf qf
   have u4:=(by first | exact bn2.jA qf | exact bn3.jA qf | exact bn4.jA qf:Vb ((s.qB[i]!).jC) (counts[i]!))
   have sz63:=H.base.size
   have lt64:=H.ltN (L:=[F55,Qc]) [0,10]
   refine oc (args_eq (by rw [← hn61]) (X4 _ out_Around ((s.qB[i]!).jC) (counts[i]!) (hn61▸h62) (H.get 7 rfl).1 qg qg qg)) ?_
   rintro v68 w66 r68 x67
   replace H:=H.zB x67 r68
   obtain ⟨a69,c70,rfl,hc71,hm72⟩:=H.jG 0 rfl
   refine ⟨H.pick [1,3,4,5,6,7] [0,1,2,3,4,5,6,7,8,9,10,11,12,13,14,15,16,17,18,19],(tF 11 rfl rfl (H.pick [1,3,4,5,6,7] [0,1,2,3,4,5,6,7,8,9,10,11,12,13,14,15,16,17,18,19]) ?_)⟩
   refine ro 12 rfl (zh H 2 [Sv Qp t.qG.length Qo,Sv (aa b35 0) ((yP s t counts (QV (Yh s t counts) counts.length)).length) rc3a,Sv a69 ((vZ out_Around ((s.qB[i]!).jC) (counts[i]!)).length) c70] sizeOf24 fun w73 H=>⟨H.pick [1,3,4,5,6,7] [0,1,2,3,4,5,6,7,8,9,10,11,12,13,14,15,16,17,18,19],(xJ qh (t_n (zcr (sp (yI 0) (zjn (xg ?_))))))⟩)
   replace E_bg58:=Ent.addN (D:=1000000) (a' :=vZ out_Around ((s.qB[i]!).jC) (counts[i]!)) E_bg58 rfl qf (by first | exact bn2.mul qf | exact bn3.mul qf | exact bn4.mul qf) qf
   have E_cur:=E_bg58
   refine zJ (fun m' ρ w74=>∃ (xY:Env) (k:Nat) (out_Bags:yLL) (vg:List Value) (zq:yLN),ρ=upd (upd (upd (upd (upd (upd (upd (upd xY 0 (pp bs os)) 1 (pp bt ot)) 2 (Sv (aa b30 o31) counts.length ccounts)) 6 (pp b1 0)) 10 (pp b19 0)) 11 (yI i)) 12 (pp b26 (o27+(i:Int).toNat * 9))) 14 (yI k)∧((k:Int)≤(((s.qB[i]!).qW).length))∧(Ent (s.qA.length+1) (zI s) (fun p q=>base0 s t p q+V5 s counts s.qB.length p q+putS s t counts i p q+at' p (s.qB[i]!).qN.toNat (counts[i]! * ((s.qB[i]!).zH)[q]!)+at' p (outPl s t (s.qB[i]!)) (counts[i]! * ((s.qB[i]!).jC)[q]!)+XX (s.qB[i]!) (counts[i]!) k p q) (22000000+6000000 * i+1000000 * k) (out_Bags++[vZ out_Around ((s.qB[i]!).jC) (counts[i]!)]))∧(out_Bags.length=s.qA.length)∧m' =((((s.qB[i]!).qW).length) - (k:Int)).toNat∧Fresh w.heap.size [Qc,zq]∧St w w74 [rr a69 ((vZ out_Around ((s.qB[i]!).jC) (counts[i]!)).length) c70 2 1 ((vZ out_Around ((s.qB[i]!).jC) (counts[i]!)).map (Value.int .i64)),.box b19 [Sv Qp t.qG.length Qo,Sv (aa b35 0) ((yP s t counts (QV (Yh s t counts) counts.length)).length) rc3a,Sv a69 ((vZ out_Around ((s.qB[i]!).jC) (counts[i]!)).length) c70] 31,rr Qp t.qG.length Qo 4 1 (t.qG.map (Value.bool)),rr ra11Bags t.qH.length rc11Bags 24 1 VR,rr jK jI jJ 2 1 (out_Around.map (Value.int .i64)),rr (aa b35 0) ((yP s t counts (QV (Yh s t counts) counts.length)).length) rc3a 24 1 vg,.box b1 [yN,yN,yN] 31] [xN true zq vg out_Bags,sF false Fe29Need ae29Need ce29Need ((s.qB[i]!).xR),sF false Fe29Have ae29Have ce29Have ((s.qB[i]!).zM),sF false Fe29Lack ae29Lack ce29Lack ((s.qB[i]!).zK),sF false Fe29Here ae29Here ce29Here ((s.qB[i]!).zH),sF false Fe29Out ae29Out ce29Out ((s.qB[i]!).jC),sF false Fe29Into ae29Into ce29Into ((s.qB[i]!).qW),atF b26 (o27+(i:Int).toNat * 9) [yI ((s.qB[i]!).qN),yI ((s.qB[i]!).vP),Sv ae29Need (((s.qB[i]!).xR).length) ce29Need,Sv ae29Have (((s.qB[i]!).zM).length) ce29Have,Sv ae29Lack (((s.qB[i]!).zK).length) ce29Lack,Sv ae29Here (((s.qB[i]!).zH).length) ce29Here,Sv ae29Out (((s.qB[i]!).jC).length) ce29Out,Sv ae29Into (((s.qB[i]!).qW).length) ce29Into,Bv ((s.qB[i]!).vF)],xN true Qc VR t.qH,atF bs os [yI s.xh,Sv qE s.qA.length qC,Sv (aa b26 o27) s.qB.length qK],sF false xe qE qC s.qA,sF false xE (aa b26 o27) qK s.qB,atF bt ot (yT t qU qQ xf qY qM qL),sF false xO qU qQ t.qG,sF false zo xf qY t.qH,sF false xB qM qL t.qF,sF false Fcounts (aa b30 o31) ccounts counts]) (((((s.qB[i]!).qW).length) - (0:Int)).toNat) ⟨_,0,bg58,xs54,F55,uE8,qf,(by exact E_cur.to (fun p q=>by first | (simp only [XX,outPl_root (s:=s) (t:=t) (r:=s.qB[i]!) ‹_›,xP];omega) | (simp only [XX,outPl_up (s:=s) (t:=t) (r:=s.qB[i]!) ‹_›];omega)) qf),qf,rfl,(N.pick [1,0]),H.pick [0,2,3,4,5,6,7] [0,3,4,5,6,7,8,9,10,12,13,14,15,16,17,18,19]⟩ ?_
   clear H N
   rintro m' ρ w75 ⟨xY,k,out_Bags,vg,zq,rfl,i0,E_out_Bags,z_out_Bags,rfl,N,H⟩
   have V7:=H.x8 (α:=yLI) 5 rfl 0 rfl qj
   refine zcc (sps [yI k,pp b26 (o27+(i:Int).toNat * 9),pp b26 (o27+(i:Int).toNat * 9)] (oF rfl (oL rfl (H.x9 7 rfl 7 rfl) (oN rfl (sp (Bv (decide ((k:Int) < (((s.qB[i]!).qW).length)))) (zjn (cD rfl (fun h76=>?_) (fun h76=>?_))))))))
   ·skip
    have qi:=q.2.2.2.2.2.2.2.2.2.2 k qf
    have qi1:=qi.1
    have bn4:=qi.2.2.1
    have ln4:=bn4.len
    refine xk (t_n (zf (xg (zcr (sps [pp b26 (o27+(i:Int).toNat * 9),pp b26 (o27+(i:Int).toNat * 9)] (oF rfl (oL rfl (H.x9 7 rfl 7 rfl) (sp (yI k) ?_))))))))
    obtain ⟨b77,o78,rfl⟩:=H.addr 6 rfl qf
    obtain ⟨ae80Bag,ce80Bag,Fe80Bag,H⟩:=H.Qd 6 rfl k k qf qf qf
    refine oI rfl rfl (oF rfl (oL rfl (H.x9 1 rfl 0 rfl) (sp (yI ((((s.qB[i]!).qW)[k]!).qN)) (zjn ?_))))
    refine yR rfl H [0,1,2,3,4,6] fun H=>?_
    have S:=H.yj [0,1,2,3,4,6] [0,1,2,3,4,5,6,7,8,9,10,11,12,13,14,15,16,17,18]
    refine tF 0 rfl rfl S ?_
    refine tL 1 rfl rfl (fun _ h=>h.cell 1 rfl rfl) S ?_
    refine rtp 2 (yI ((((s.qB[i]!).qW)[k]!).qN)) S ?_
    refine tF 3 rfl rfl S ?_
    refine tL 4 rfl rfl (fun _ h=>h.cell 1 rfl rfl) S ?_
    refine rtp 5 (yI ((((s.qB[i]!).qW)[k]!).qN)) S ?_
    refine tI 6 rfl rfl rfl S ?_
    refine rtp 8 (pp b26 (o27+(i:Int).toNat * 9)) S ?_
    refine rtp 9 (pp b26 (o27+(i:Int).toNat * 9)) S ?_
    refine tF 10 rfl rfl S ?_
    refine tL 11 rfl rfl (fun _ h=>h.x9 9 rfl 7 rfl) S ?_
    refine rtp 12 (yI k) S ?_
    refine tI 13 rfl rfl rfl S ?_
    refine tF 14 rfl rfl S ?_
    refine tL 15 rfl rfl (fun _ h=>h.x9 1 rfl 1 rfl) S ?_
    refine rtp 16 (Sv (aa b30 o31) counts.length ccounts) S ?_
    refine rtp 17 (yI i) S ?_
    refine tI 18 rfl rfl rfl S ?_
    refine tL 19 rfl rfl (fun _ h=>h.yV 18 rfl i qf) S ?_
    refine ro 7 rfl ?_
    obtain ⟨a82,c83,G84,s85,h86,H⟩:=H.jP 5 rfl 2 rfl (iv:=(((s.qB[i]!).qW)[k]!).qN) (((((s.qB[i]!).qW)[k]!).qN).toNat) qf qf
    refine zF (Sv a82 ((out_Bags[((((s.qB[i]!).qW)[k]!).qN).toNat]!).length) c83) isAgg24 rfl (h86) (⟨H.pick [0,1,2,3,4,6] [1,2,3,4,5,6,7,8,9,10,11,12,13,14,15,16,17,18,19],(ro 20 rfl ?_)⟩)
    obtain ⟨u1,u2⟩:=Ent.rowL E_out_Bags (c:=((((s.qB[i]!).qW)[k]!).qN).toNat) qf qf qf qf
    have u4:=(by first | exact bn2.jA qf | exact bn3.jA qf | exact bn4.jA qf:Vb ((((s.qB[i]!).qW)[k]!).QP) (counts[i]!))
    have sz87:=H.base.size
    have lt88:=H.ltN (L:=[Qc,zq]) [11,3]
    refine oc (X4 _ (out_Bags[((((s.qB[i]!).qW)[k]!).qN).toNat]!) ((((s.qB[i]!).qW)[k]!).QP) (counts[i]!) (H.get 0 rfl).1 (H.get 1 rfl).1 qg qg qg) ?_
    rintro v92 w90 r92 x91
    replace H:=H.zB x91 r92
    obtain ⟨a93,c94,rfl,hc95,hm96⟩:=H.jG 0 rfl
    refine ⟨H.pick [1,2,3,4,5,7] [1,2,3,4,5,6,7,8,9,10,11,12,13,14,15,16,17,18,19],(tI 21 rfl rfl rfl (H.pick [1,2,3,4,5,7] [1,2,3,4,5,6,7,8,9,10,11,12,13,14,15,16,17,18,19]) ?_)⟩
    refine ro 22 rfl ?_
    obtain ⟨G98,N,hn99,H⟩:=H.zT 0 rfl N (H.jR [11,3])
    refine jy true H 6 rfl 4 rfl (Sv a93 ((vZ (out_Bags[((((s.qB[i]!).qW)[k]!).qN).toNat]!) ((((s.qB[i]!).qW)[k]!).QP) (counts[i]!)).length) c94) 0 rfl rfl sizeOf24 rfl rfl (i:=(((((s.qB[i]!).qW)[k]!).qN).toNat)) qf qf qm fun w97 xs100 F101 hs102 H=>?_
    replace N:Fresh w.heap.size [F101,Qc]:=(N.pick [2,0,1]).repl hs102
    refine ⟨H.pick [1,2,3,4,5,7] [3,4,5,6,7,8,9,10,11,12,13,14,15,16,17,18,19,20,21],(xJ qh (b_n (t_n (zg (sp (yI k) (sw (zL k 1 rfl rfl qf (sp (yI (k+1)) (zi ?_)))))))))⟩
    obtain ⟨bg103,e_bg103⟩:∃ z,z=(out_Bags.set (((((s.qB[i]!).qW)[k]!).qN).toNat) (vZ (out_Bags[((((s.qB[i]!).qW)[k]!).qN).toNat]!) ((((s.qB[i]!).qW)[k]!).QP) (counts[i]!))):=⟨_,rfl⟩
    rw [← e_bg103] at H
    have E_bg103:=Ent.addL (D:=1000000) E_out_Bags e_bg103 qf qf (by first | exact bn2.mul qf | exact bn3.mul qf | exact bn4.mul qf) qf
    have z_bg103:bg103.length=s.qA.length:=by rw [e_bg103,List.length_set];omega
    have E_cur:=E_bg103
    refine xq (m' :=((((s.qB[i]!).qW).length) - ((k+1):Int)).toNat) qf ⟨_,k+1,bg103,xs100,F101,uE8,?_,?_,?_,rfl,(N.pick [1,0]),H.pick [1,2,3,4,5,6,7] [0,6,7,8,9,10,11,12,13,14,15,16,17,18,19,20,21]⟩
    · omega
    · exact E_cur.to (fun p q=>by simp only [XX];omega) qf
    · omega
   refine c_exit (t_x (t_x (b_x (b_n (t_n (zg (sp (yI i) (sw (zL i 1 rfl rfl qf (sp (yI (i+1)) (zi (xq (m' :=(counts.length - ((i+1):Int)).toNat) qf ⟨_,i+1,a69,(vZ out_Around ((s.qB[i]!).jC) (counts[i]!)).length,c70,vZ out_Around ((s.qB[i]!).jC) (counts[i]!),out_Bags,vg,zq,uE6,?_,?_,?_,rfl,N,H.pick [1,2,3,0,5,6] [8,0,9,10,11,12,13,14,15,16]⟩))))))))))))
   · omega
   · first | exact E_rest.to (fun p q=>by simp only [putS_skip (s:=s) (t:=t) (counts:=counts) (i:=i) ‹_›]) qf | exact E_out_Bags.to (fun p q=>by rw [show k=((s.qB[i]!).qW).length by omega];simp only [putS,putF];omega) qf
   · omega
  obtain ⟨bg104,e_bg104⟩:∃ z,z=(rest.set (((s.qB[i]!).qN).toNat) (vZ (rest[((s.qB[i]!).qN).toNat]!) ((s.qB[i]!).zH) (counts[i]!))):=⟨_,rfl⟩
  rw [← e_bg104] at H
  have E_bg104:=Ent.addL (D:=1000000) E_rest e_bg104 qf qf (by first | exact bn2.mul qf | exact bn3.mul qf | exact bn4.mul qf) qf
  have z_bg104:bg104.length=s.qA.length:=by rw [e_bg104,List.length_set];omega
  have E_cur:=E_bg104
  refine zcr (sps [pp bs os,pp bt ot,pp b26 (o27+(i:Int).toNat * 9),pp b26 (o27+(i:Int).toNat * 9)] (oF rfl (oL rfl (H.x9 9 rfl 0 rfl) (sw (oq (l02Parent_ok _ s t ((s.qB[i]!).qN) (qJ (H.get 12 rfl) 0 3) (H.get 13 rfl).1 (H.get 14 rfl).1 (qJ (H.get 15 rfl) 0 3) (H.get 16 rfl).1 (H.get 17 rfl).1 (H.get 18 rfl).1 ql ql ql) H fun w105 H=>?_)))))
  have pin:=XD (s:=s) (t:=t) (c:=((s.qB[i]!).qN)) p0.1 p1.2.2.1 qf qf
  refine sp (yI (xm s t ((s.qB[i]!).qN))) (zjn ?_)
  refine yR rfl H [0,1,2,3,4,6] fun H=>?_
  have S:=H.yj [0,1,2,3,4,6] [0,1,2,3,4,5,6,7,8,9,10,11,12,13,14,15,16,17,18,19]
  refine tF 0 rfl rfl S ?_
  refine tL 1 rfl rfl (fun _ h=>h.cell 1 rfl rfl) S ?_
  refine rtp 2 (yI (xm s t ((s.qB[i]!).qN))) S ?_
  refine tF 3 rfl rfl S ?_
  refine tL 4 rfl rfl (fun _ h=>h.cell 1 rfl rfl) S ?_
  refine rtp 5 (yI (xm s t ((s.qB[i]!).qN))) S ?_
  refine tI 6 rfl rfl rfl S ?_
  refine rtp 8 (pp b26 (o27+(i:Int).toNat * 9)) S ?_
  refine rtp 9 (pp b26 (o27+(i:Int).toNat * 9)) S ?_
  refine tF 10 rfl rfl S ?_
  refine tL 11 rfl rfl (fun _ h=>h.x9 9 rfl 6 rfl) S ?_
  refine rtp 12 (Sv (aa b30 o31) counts.length ccounts) S ?_
  refine rtp 13 (yI i) S ?_
  refine tI 14 rfl rfl rfl S ?_
  refine tL 15 rfl rfl (fun _ h=>h.yV 19 rfl i qf) S ?_
  refine ro 7 rfl ?_
  obtain ⟨a108,c109,G110,s111,h112,H⟩:=H.jP 5 rfl 0 rfl (iv:=xm s t ((s.qB[i]!).qN)) ((xm s t ((s.qB[i]!).qN)).toNat) qf qf
  refine zF (Sv a108 ((bg104[(xm s t ((s.qB[i]!).qN)).toNat]!).length) c109) isAgg24 rfl (h112) (⟨H.pick [0,1,2,3,4,6] [1,2,3,4,5,6,7,8,9,10,11,12,13,14,15,16,17,18,19,20],(ro 16 rfl ?_)⟩)
  obtain ⟨u1,u2⟩:=Ent.rowL E_bg104 (c:=(xm s t ((s.qB[i]!).qN)).toNat) qf qf qf qf
  have u4:=(by first | exact bn2.jA qf | exact bn3.jA qf | exact bn4.jA qf:Vb ((s.qB[i]!).jC) (counts[i]!))
  have sz113:=H.base.size
  have lt114:=H.ltN (L:=[F55,Qc]) [1,11]
  refine oc (X4 _ (bg104[(xm s t ((s.qB[i]!).qN)).toNat]!) ((s.qB[i]!).jC) (counts[i]!) (H.get 0 rfl).1 (H.get 8 rfl).1 qg qg qg) ?_
  rintro v118 w116 r118 x117
  replace H:=H.zB x117 r118
  obtain ⟨a119,c120,rfl,hc121,hm122⟩:=H.jG 0 rfl
  refine ⟨H.pick [1,2,3,4,5,7] [1,2,3,4,5,6,7,8,9,10,11,12,13,14,15,16,17,18,19,20],(tI 17 rfl rfl rfl (H.pick [1,2,3,4,5,7] [1,2,3,4,5,6,7,8,9,10,11,12,13,14,15,16,17,18,19,20]) ?_)⟩
  refine ro 18 rfl ?_
  obtain ⟨G124,N,hn125,H⟩:=H.zT 0 rfl N (H.jR [1,11])
  refine jy true H 6 rfl 2 rfl (Sv a119 ((vZ (bg104[(xm s t ((s.qB[i]!).qN)).toNat]!) ((s.qB[i]!).jC) (counts[i]!)).length) c120) 0 rfl rfl sizeOf24 rfl rfl (i:=((xm s t ((s.qB[i]!).qN)).toNat)) qf qf qm fun w123 xs126 F127 hs128 H=>?_
  replace N:Fresh w.heap.size [F127,Qc]:=(N.pick [1,0,2]).repl hs128
  refine ⟨H.pick [1,2,3,4,5,7] [3,4,5,6,7,8,9,10,11,12,13,14,15,16,17,18,19,20,21,22],(xJ qh (t_n (zcr (sp (yI 0) (zjn (xg ?_))))))⟩
  obtain ⟨bg129,e_bg129⟩:∃ z,z=(bg104.set ((xm s t ((s.qB[i]!).qN)).toNat) (vZ (bg104[(xm s t ((s.qB[i]!).qN)).toNat]!) ((s.qB[i]!).jC) (counts[i]!))):=⟨_,rfl⟩
  rw [← e_bg129] at H
  have E_bg129:=Ent.addL (D:=1000000) E_bg104 e_bg129 qf qf (by first | exact bn2.mul qf | exact bn3.mul qf | exact bn4.mul qf) qf
  have z_bg129:bg129.length=s.qA.length:=by rw [e_bg129,List.length_set];omega
  have E_cur:=E_bg129
  refine zJ (fun m' ρ w130=>∃ (xY:Env) (k:Nat) (out_Bags:yLL) (vg:List Value) (zq:yLN),ρ=upd (upd (upd (upd (upd (upd (upd (upd xY 0 (pp bs os)) 1 (pp bt ot)) 2 (Sv (aa b30 o31) counts.length ccounts)) 6 (pp b1 0)) 10 (pp b19 0)) 11 (yI i)) 12 (pp b26 (o27+(i:Int).toNat * 9))) 14 (yI k)∧((k:Int)≤(((s.qB[i]!).qW).length))∧(Ent (s.qA.length+1) (zI s) (fun p q=>base0 s t p q+V5 s counts s.qB.length p q+putS s t counts i p q+at' p (s.qB[i]!).qN.toNat (counts[i]! * ((s.qB[i]!).zH)[q]!)+at' p (outPl s t (s.qB[i]!)) (counts[i]! * ((s.qB[i]!).jC)[q]!)+XX (s.qB[i]!) (counts[i]!) k p q) (22000000+6000000 * i+1000000 * k) (out_Bags++[out_Around]))∧(out_Bags.length=s.qA.length)∧m' =((((s.qB[i]!).qW).length) - (k:Int)).toNat∧Fresh w.heap.size [Qc,zq]∧St w w130 [.box b19 [Sv Qp t.qG.length Qo,Sv (aa b35 0) ((yP s t counts (QV (Yh s t counts) counts.length)).length) rc3a,Sv jK jI jJ] 31,rr Qp t.qG.length Qo 4 1 (t.qG.map (Value.bool)),rr ra11Bags t.qH.length rc11Bags 24 1 VR,rr jK jI jJ 2 1 (out_Around.map (Value.int .i64)),rr (aa b35 0) ((yP s t counts (QV (Yh s t counts) counts.length)).length) rc3a 24 1 vg,.box b1 [yN,yN,yN] 31] [xN true zq vg out_Bags,sF false Fe29Need ae29Need ce29Need ((s.qB[i]!).xR),sF false Fe29Have ae29Have ce29Have ((s.qB[i]!).zM),sF false Fe29Lack ae29Lack ce29Lack ((s.qB[i]!).zK),sF false Fe29Here ae29Here ce29Here ((s.qB[i]!).zH),sF false Fe29Out ae29Out ce29Out ((s.qB[i]!).jC),sF false Fe29Into ae29Into ce29Into ((s.qB[i]!).qW),atF b26 (o27+(i:Int).toNat * 9) [yI ((s.qB[i]!).qN),yI ((s.qB[i]!).vP),Sv ae29Need (((s.qB[i]!).xR).length) ce29Need,Sv ae29Have (((s.qB[i]!).zM).length) ce29Have,Sv ae29Lack (((s.qB[i]!).zK).length) ce29Lack,Sv ae29Here (((s.qB[i]!).zH).length) ce29Here,Sv ae29Out (((s.qB[i]!).jC).length) ce29Out,Sv ae29Into (((s.qB[i]!).qW).length) ce29Into,Bv ((s.qB[i]!).vF)],xN true Qc VR t.qH,atF bs os [yI s.xh,Sv qE s.qA.length qC,Sv (aa b26 o27) s.qB.length qK],sF false xe qE qC s.qA,sF false xE (aa b26 o27) qK s.qB,atF bt ot (yT t qU qQ xf qY qM qL),sF false xO qU qQ t.qG,sF false zo xf qY t.qH,sF false xB qM qL t.qF,sF false Fcounts (aa b30 o31) ccounts counts]) (((((s.qB[i]!).qW).length) - (0:Int)).toNat) ⟨_,0,bg129,xs126,F127,uE8,qf,(by exact E_cur.to (fun p q=>by first | (simp only [XX,outPl_root (s:=s) (t:=t) (r:=s.qB[i]!) ‹_›,xP];omega) | (simp only [XX,outPl_up (s:=s) (t:=t) (r:=s.qB[i]!) ‹_›];omega)) qf),qf,rfl,(N.pick [1,0]),H.pick [2,3,4,5,6,7] [0,6,7,8,9,10,11,12,13,15,16,17,18,19,20,21,22]⟩ ?_
  clear H N
  rintro m' ρ w131 ⟨xY,k,out_Bags,vg,zq,rfl,i0,E_out_Bags,z_out_Bags,rfl,N,H⟩
  have V7:=H.x8 (α:=yLI) 4 rfl 0 rfl qj
  refine zcc (sps [yI k,pp b26 (o27+(i:Int).toNat * 9),pp b26 (o27+(i:Int).toNat * 9)] (oF rfl (oL rfl (H.x9 7 rfl 7 rfl) (oN rfl (sp (Bv (decide ((k:Int) < (((s.qB[i]!).qW).length)))) (zjn (cD rfl (fun h132=>?_) (fun h132=>?_))))))))
  ·skip
   have qi:=q.2.2.2.2.2.2.2.2.2.2 k qf
   have qi1:=qi.1
   have bn4:=qi.2.2.1
   have ln4:=bn4.len
   refine xk (t_n (zf (xg (zcr (sps [pp b26 (o27+(i:Int).toNat * 9),pp b26 (o27+(i:Int).toNat * 9)] (oF rfl (oL rfl (H.x9 7 rfl 7 rfl) (sp (yI k) ?_))))))))
   obtain ⟨b133,o134,rfl⟩:=H.addr 6 rfl qf
   obtain ⟨ae136Bag,ce136Bag,Fe136Bag,H⟩:=H.Qd 6 rfl k k qf qf qf
   refine oI rfl rfl (oF rfl (oL rfl (H.x9 1 rfl 0 rfl) (sp (yI ((((s.qB[i]!).qW)[k]!).qN)) (zjn ?_))))
   refine yR rfl H [0,1,2,3,5] fun H=>?_
   have S:=H.yj [0,1,2,3,5] [0,1,2,3,4,5,6,7,8,9,10,11,12,13,14,15,16,17,18]
   refine tF 0 rfl rfl S ?_
   refine tL 1 rfl rfl (fun _ h=>h.cell 0 rfl rfl) S ?_
   refine rtp 2 (yI ((((s.qB[i]!).qW)[k]!).qN)) S ?_
   refine tF 3 rfl rfl S ?_
   refine tL 4 rfl rfl (fun _ h=>h.cell 0 rfl rfl) S ?_
   refine rtp 5 (yI ((((s.qB[i]!).qW)[k]!).qN)) S ?_
   refine tI 6 rfl rfl rfl S ?_
   refine rtp 8 (pp b26 (o27+(i:Int).toNat * 9)) S ?_
   refine rtp 9 (pp b26 (o27+(i:Int).toNat * 9)) S ?_
   refine tF 10 rfl rfl S ?_
   refine tL 11 rfl rfl (fun _ h=>h.x9 9 rfl 7 rfl) S ?_
   refine rtp 12 (yI k) S ?_
   refine tI 13 rfl rfl rfl S ?_
   refine tF 14 rfl rfl S ?_
   refine tL 15 rfl rfl (fun _ h=>h.x9 1 rfl 1 rfl) S ?_
   refine rtp 16 (Sv (aa b30 o31) counts.length ccounts) S ?_
   refine rtp 17 (yI i) S ?_
   refine tI 18 rfl rfl rfl S ?_
   refine tL 19 rfl rfl (fun _ h=>h.yV 18 rfl i qf) S ?_
   refine ro 7 rfl ?_
   obtain ⟨a138,c139,G140,s141,h142,H⟩:=H.jP 4 rfl 2 rfl (iv:=(((s.qB[i]!).qW)[k]!).qN) (((((s.qB[i]!).qW)[k]!).qN).toNat) qf qf
   refine zF (Sv a138 ((out_Bags[((((s.qB[i]!).qW)[k]!).qN).toNat]!).length) c139) isAgg24 rfl (h142) (⟨H.pick [0,1,2,3,5] [1,2,3,4,5,6,7,8,9,10,11,12,13,14,15,16,17,18,19],(ro 20 rfl ?_)⟩)
   obtain ⟨u1,u2⟩:=Ent.rowL E_out_Bags (c:=((((s.qB[i]!).qW)[k]!).qN).toNat) qf qf qf qf
   have u4:=(by first | exact bn2.jA qf | exact bn3.jA qf | exact bn4.jA qf:Vb ((((s.qB[i]!).qW)[k]!).QP) (counts[i]!))
   have sz143:=H.base.size
   have lt144:=H.ltN (L:=[Qc,zq]) [11,3]
   refine oc (X4 _ (out_Bags[((((s.qB[i]!).qW)[k]!).qN).toNat]!) ((((s.qB[i]!).qW)[k]!).QP) (counts[i]!) (H.get 0 rfl).1 (H.get 1 rfl).1 qg qg qg) ?_
   rintro v148 w146 r148 x147
   replace H:=H.zB x147 r148
   obtain ⟨a149,c150,rfl,hc151,hm152⟩:=H.jG 0 rfl
   refine ⟨H.pick [1,2,3,4,6] [1,2,3,4,5,6,7,8,9,10,11,12,13,14,15,16,17,18,19],(tI 21 rfl rfl rfl (H.pick [1,2,3,4,6] [1,2,3,4,5,6,7,8,9,10,11,12,13,14,15,16,17,18,19]) ?_)⟩
   refine ro 22 rfl ?_
   obtain ⟨G154,N,hn155,H⟩:=H.zT 0 rfl N (H.jR [11,3])
   refine jy true H 5 rfl 4 rfl (Sv a149 ((vZ (out_Bags[((((s.qB[i]!).qW)[k]!).qN).toNat]!) ((((s.qB[i]!).qW)[k]!).QP) (counts[i]!)).length) c150) 0 rfl rfl sizeOf24 rfl rfl (i:=(((((s.qB[i]!).qW)[k]!).qN).toNat)) qf qf qm fun w153 xs156 F157 hs158 H=>?_
   replace N:Fresh w.heap.size [F157,Qc]:=(N.pick [2,0,1]).repl hs158
   refine ⟨H.pick [1,2,3,4,6] [3,4,5,6,7,8,9,10,11,12,13,14,15,16,17,18,19,20,21],(xJ qh (b_n (t_n (zg (sp (yI k) (sw (zL k 1 rfl rfl qf (sp (yI (k+1)) (zi ?_)))))))))⟩
   obtain ⟨bg159,e_bg159⟩:∃ z,z=(out_Bags.set (((((s.qB[i]!).qW)[k]!).qN).toNat) (vZ (out_Bags[((((s.qB[i]!).qW)[k]!).qN).toNat]!) ((((s.qB[i]!).qW)[k]!).QP) (counts[i]!))):=⟨_,rfl⟩
   rw [← e_bg159] at H
   have E_bg159:=Ent.addL (D:=1000000) E_out_Bags e_bg159 qf qf (by first | exact bn2.mul qf | exact bn3.mul qf | exact bn4.mul qf) qf
   have z_bg159:bg159.length=s.qA.length:=by rw [e_bg159,List.length_set];omega
   have E_cur:=E_bg159
   refine xq (m' :=((((s.qB[i]!).qW).length) - ((k+1):Int)).toNat) qf ⟨_,k+1,bg159,xs156,F157,uE8,?_,?_,?_,rfl,(N.pick [1,0]),H.pick [1,2,3,4,5,6] [0,6,7,8,9,10,11,12,13,14,15,16,17,18,19,20,21]⟩
   · omega
   · exact E_cur.to (fun p q=>by simp only [XX];omega) qf
   · omega
  refine c_exit (t_x (t_x (b_x (b_n (t_n (zg (sp (yI i) (sw (zL i 1 rfl rfl qf (sp (yI (i+1)) (zi (xq (m' :=(counts.length - ((i+1):Int)).toNat) qf ⟨_,i+1,jK,jI,jJ,out_Around,out_Bags,vg,zq,uE6,?_,?_,?_,rfl,N,H.pick [0,1,2,3,4,5] [8,0,9,10,11,12,13,14,15,16]⟩))))))))))))
  · omega
  · first | exact E_rest.to (fun p q=>by simp only [putS_skip (s:=s) (t:=t) (counts:=counts) (i:=i) ‹_›]) qf | exact E_out_Bags.to (fun p q=>by rw [show k=((s.qB[i]!).qW).length by omega];simp only [putS,putF];omega) qf
  · omega
 refine zx4 (zcc (sps [pp bs os,pp bs os] (oF rfl (oL rfl (H.x9 2 rfl 1 rfl) (oN rfl (sw (o_sub s.qA.length 1 rfl rfl qf (sp (yI (s.qA.length - 1)) (zjn (xg ?_))))))))))
 obtain rfl:i=s.qB.length:=by omega
 have hl:=stepped_live (counts:=counts) p1 (E_rest.to (g:=fun p k=>base0 s t p k+allS s t counts s.qB.length p k) (fun p k=>by rw [allS_eq];omega) (Int.le_refl _)) qf
 obtain ⟨s1,s2⟩:=step_tab2 qf E_rest
 subst s1 s2
 refine zJ (fun m' ρ w160=>∃ (xY:Env) (c:Int) (out_Alive:List Bool) (out_Bags:yLL) (vg:List Value) (zq:yLN) (j:Nat),ρ=upd (upd (upd (upd (upd xY 0 (pp bs os)) 2 (Sv acounts counts.length ccounts)) 6 (pp b1 0)) 10 (pp b19 0)) 16 (yI c)∧out_Alive=(xu s counts (xw s t counts) j).qG∧out_Bags=(xu s counts (xw s t counts) j).qH∧(c=(s.qA.length:Int) - 1 - j)∧(j+1≤s.qA.length)∧m' =(c:Int).toNat∧Fresh w.heap.size [Qc,zq]∧St w w160 [.box b19 [Sv Qp t.qG.length Qo,Sv ra3a ((yP s t counts (QV (Yh s t counts) counts.length)).length) rc3a,Sv jK jI jJ] 31,rr Qp t.qG.length Qo 4 1 (out_Alive.map (Value.bool)),rr ra11Bags t.qH.length rc11Bags 24 1 VR,rr jK jI jJ 2 1 (((xw s t counts).qF).map (Value.int .i64)),rr ra3a ((yP s t counts (QV (Yh s t counts) counts.length)).length) rc3a 24 1 vg,.box b1 [yN,yN,yN] 31] [xN true Qc VR t.qH,xN true zq vg out_Bags,atF bs os (yS s qE qC qO qK),sF false xe qE qC s.qA,sF false xE qO qK s.qB,sF false Fcounts acounts ccounts counts]) (((s.qA.length - 1):Int).toNat) ⟨_,s.qA.length - 1,t.qG,(xw s t counts).qH,x_rest,F_rest,0,uE5,(by rfl),(by rfl),qf,qf,rfl,N,H.pick [0,1,2,3,4,5] [0,1,2,3,4,9]⟩ ?_
 clear H N
 rintro m' ρ w161 ⟨xY,c,out_Alive,out_Bags,vg,zq,j,rfl,rfl,rfl,ic,jc,rfl,N,H⟩
 have hn_out_Alive:=H.rowNB 1 rfl
 have V7:=H.x8 (α:=yLI) 4 rfl 1 rfl qj
 have L:=meltDown_live (counts:=counts) p0 hl j qf
 have L1:=L.alive
 have L2:=L.root
 have L3:=L.bags.1
 rw [← Qh s counts (xw s t counts) j] at H
 refine zcc (sps [yI c,Bv (decide ((c:Int) > 0))] (zjn (cD rfl (fun h162=>?_) (fun h162=>?_))))
 ·skip
  have cin:CellIn s c:=⟨by omega,by omega⟩
  refine xk (t_n (zf (xg (zcr (sp (Bv false) (zjcc (sp (yI 0) (zjn (xg ?_)))))))))
  refine zJ (fun m' ρ w163=>∃ (xY:Env) (melts:Bool) (i_1:Nat),ρ=upd (upd (upd (upd (upd (upd (upd xY 0 (pp bs os)) 2 (Sv acounts counts.length ccounts)) 6 (pp b1 0)) 10 (pp b19 0)) 16 (yI c)) 17 (Bv melts)) 18 (yI i_1)∧melts=dec (Xf s counts c i_1)∧((i_1:Int)≤counts.length)∧m' =(counts.length - (i_1:Int)).toNat∧Fresh w.heap.size [Qc,zq]∧St w w163 [.box b19 [Sv Qp t.qG.length Qo,Sv ra3a ((yP s t counts (QV (Yh s t counts) counts.length)).length) rc3a,Sv jK jI jJ] 31,rr Qp t.qG.length Qo 4 1 (((xu s counts (xw s t counts) j).qG).map (Value.bool)),rr ra11Bags t.qH.length rc11Bags 24 1 VR,rr jK jI jJ 2 1 (((xu s counts (xw s t counts) j).qF).map (Value.int .i64)),rr ra3a ((yP s t counts (QV (Yh s t counts) counts.length)).length) rc3a 24 1 vg,.box b1 [yN,yN,yN] 31] [xN true Qc VR t.qH,xN true zq vg ((xu s counts (xw s t counts) j).qH),atF bs os (yS s qE qC qO qK),sF false xe qE qC s.qA,sF false xE qO qK s.qB,sF false Fcounts acounts ccounts counts]) ((counts.length - (0:Int)).toNat) ⟨_,false,0,uE7,(by exact (xy (melts_zero _ _ _)).symm),qf,rfl,N,H⟩ ?_
  clear H N
  rintro m' ρ w164 ⟨xY,melts,i_1,rfl,rfl,i0,rfl,N,H⟩
  refine zcc (sps [yI i_1,Sv acounts counts.length ccounts] (oN rfl (sp (Bv (decide ((i_1:Int) < counts.length))) (zjn (cD rfl (fun h165=>?_) (fun h165=>?_))))))
  ·skip
   refine xk (t_n (zf (xg (zg (sps [Bv (dec (Xf s counts c i_1)),Bv (dec (Xf s counts c i_1))] ?_)))))
   cases h166:((dec (Xf s counts c i_1)))
   ·skip
    refine qR 172 rfl rfl (sp (Sv acounts counts.length ccounts) (qR 172 rfl rfl (sp (yI i_1) (qR 172 rfl rfl ?_))))
    obtain ⟨b167,o168,rfl⟩:=H.addr 5 rfl qf
    refine oI rfl rfl (qR 172 rfl rfl (oL rfl (H.yF 5 rfl i_1 qf qf) (qR 172 rfl rfl (sp (Bv (decide ((counts[i_1]! :Int) > 0))) (qR 172 rfl rfl (sp (Bv (decide ((counts[i_1]! :Int) > 0))) ?_))))))
    cases h170:(decide ((counts[i_1]! :Int) > 0))
    ·skip
     replace h170:=of_decide_eq_false h170
     refine xW [179,180,181,182,183,184,185,186] (qR 172 rfl rfl (sp (Bv false) (qR 172 rfl rfl (sp (Bv false) (xW [189,190,191,192,193,194,195,196,197,198] (qR 172 rfl rfl (sps [Bv false,Bv false,Bv false] (zi (b_n (t_n (zg (sp (yI i_1) (sw (zL i_1 1 rfl rfl qf (sp (yI (i_1+1)) (zi (xq (m' :=(counts.length - ((i_1+1):Int)).toNat) qf ⟨_,false,i_1+1,uE7,?_,?_,rfl,N,H⟩)))))))))))))))))
     · first | exact melts_1 ‹_› | exact melts_2 ‹_› qf | exact melts_3 ‹_› ‹_› | exact melts_4 ‹_› qf ‹_›
     · omega
    replace h170:=of_decide_eq_true h170
    refine qR 178 rfl rfl (sp (pp bs os) (qR 178 rfl rfl (sp (pp bs os) (qR 178 rfl rfl (oF rfl (qR 178 rfl rfl (oL rfl (H.x9 2 rfl 2 rfl) (qR 178 rfl rfl (sp (yI i_1) (qR 178 rfl rfl ?_))))))))))
    obtain ⟨b171,o172,rfl⟩:=H.addr 4 rfl qf
    obtain ⟨ae174Need,ce174Need,Fe174Need,ae174Have,ce174Have,Fe174Have,ae174Lack,ce174Lack,Fe174Lack,ae174Here,ce174Here,Fe174Here,ae174Out,ce174Out,Fe174Out,ae174Into,ce174Into,Fe174Into,H⟩:=H.yH 4 rfl i_1 i_1 qf qf qf
    refine oI rfl rfl (qR 178 rfl rfl (oF rfl (qR 178 rfl rfl (oL rfl (H.x9 6 rfl 8 rfl) (qR 172 rfl rfl (sp (Bv ((s.qB[i_1]!).vF)) (qR 172 rfl rfl (sp (Bv ((s.qB[i_1]!).vF)) ?_))))))))
    cases h175:((s.qB[i_1]!).vF)
    ·skip
     rw [h175] at H
     refine xW [189,190,191,192,193,194,195,196,197,198] (qR 172 rfl rfl (sps [Bv false,Bv false,Bv false] (zi (b_n (t_n (zg (sp (yI i_1) (sw (zL i_1 1 rfl rfl qf (sp (yI (i_1+1)) (zi (xq (m' :=(counts.length - ((i_1+1):Int)).toNat) qf ⟨_,false,i_1+1,uE7,?_,?_,rfl,N,H.pick [0,1,2,3,4,5] [7,8,9,10,11,12]⟩))))))))))))
     · first | exact melts_1 ‹_› | exact melts_2 ‹_› qf | exact melts_3 ‹_› ‹_› | exact melts_4 ‹_› qf ‹_›
     · omega
    rw [h175] at H
    refine qR 188 rfl rfl (sp (pp bs os) (qR 188 rfl rfl (sp (pp bs os) (qR 188 rfl rfl (oF rfl (qR 188 rfl rfl (oL rfl (H.x9 9 rfl 2 rfl) (qR 188 rfl rfl (sp (yI i_1) (qR 188 rfl rfl (oI rfl rfl (qR 188 rfl rfl (oF rfl (qR 188 rfl rfl (oL rfl (H.x9 6 rfl 0 rfl) (qR 188 rfl rfl (sp (yI c) (qR 188 rfl rfl (sp (Bv (((s.qB[i_1]!).qN:Int) == c)) (qR 172 rfl rfl (sps [Bv (((s.qB[i_1]!).qN:Int) == c),Bv (((s.qB[i_1]!).qN:Int) == c),Bv (((s.qB[i_1]!).qN:Int) == c)] (zi (b_n (t_n (zg (sp (yI i_1) ?_))))))))))))))))))))))))))
    refine sw (zL i_1 1 rfl rfl qf (sp (yI (i_1+1)) (zi (xq (m' :=(counts.length - ((i_1+1):Int)).toNat) qf ⟨_,((s.qB[i_1]!).qN:Int) == c,i_1+1,uE7,?_,?_,rfl,N,H.pick [0,1,2,3,4,5] [7,8,9,10,11,12]⟩))))
    · first | exact melts_1 ‹_› | exact melts_2 ‹_› qf | exact melts_3 ‹_› ‹_› | exact melts_4 ‹_› qf ‹_›
    · omega
   refine xW [173,174,175,176,177,178,179,180,181,182,183,184,185,186,187,188,189,190,191,192,193,194,195,196,197,198,199] (sps [Bv true,Bv true] (zi (b_n (t_n (zg (sp (yI i_1) (sw (zL i_1 1 rfl rfl qf (sp (yI (i_1+1)) (zi (xq (m' :=(counts.length - ((i_1+1):Int)).toNat) qf ⟨_,true,i_1+1,uE7,?_,?_,rfl,N,H⟩)))))))))))
   · first | exact melts_1 ‹_› | exact melts_2 ‹_› qf | exact melts_3 ‹_› ‹_› | exact melts_4 ‹_› qf ‹_›
   · omega
  refine zx4 (zcr (sp (Bv (dec (Xf s counts c i_1))) (zjn (xK ((dec (Xf s counts c i_1))) rfl (fun h176=>?_) (fun h176=>?_)))))
  ·skip
   refine zg (sps [pp bs os,yI c] (sw (vk #[pp bs os,pp b19 0,yI c] rfl rfl call114 (en func114 ntmps114 ?_))))
   refine zcr (sps [pp bs os,pp b19 0,yI c] ?_)
   obtain ⟨G177,hn178,h179⟩:=H.rowIsB 1 rfl
   obtain ⟨G180,hn181,h182⟩:=H.QK (α:=yLI) 4 rfl 1 rfl qj
   obtain ⟨G183,hn184,h185⟩:=H.QW 3 rfl
   refine sw (oq (l02Parent_ok _ s (xu s counts (xw s t counts) j) c (qJ (H.get 2 rfl) 0 3) (H.get 3 rfl).1 (H.get 4 rfl).1 (by have hz:=(qJ (H.cells 0 rfl) 0 3);rw [hn178,hn181,hn184] at hz;exact hz) (hn178▸h179) (hn181▸h182) (hn184▸h185) ql ql ql) H fun w186 H=>?_)
   have pin:=XD (s:=s) (t:=(xu s counts (xw s t counts) j)) (c:=c) p0.1 L2 qf qf
   refine sp (yI (xm s (xu s counts (xw s t counts) j) c)) (zjn (zf ?_))
   obtain ⟨b188,rfl⟩:=H.Qe 4 rfl qf
   refine c_cut (fun ρ w191=>∃ (xY:Env) (xs189:List Value) (F190:yLN),ρ=upd (upd (upd xY 0 (pp bs os)) 1 (pp b19 0)) 2 (yI c)∧Fresh w.heap.size [F190,Qc]∧St w w191 [.box b19 [Sv Qp t.qG.length Qo,Sv (aa b188 0) ((yP s t counts (QV (Yh s t counts) counts.length)).length) rc3a,Sv jK jI jJ] 31,rr Qp t.qG.length Qo 4 1 (((xu s counts (xw s t counts) j).qG).map (Value.bool)),rr ra11Bags t.qH.length rc11Bags 24 1 VR,rr jK jI jJ 2 1 (((xu s counts (xw s t counts) j).qF).map (Value.int .i64)),rr (aa b188 0) ((yP s t counts (QV (Yh s t counts) counts.length)).length) rc3a 24 1 xs189,.box b1 [yN,yN,yN] 31] [xN true F190 xs189 (((xu s counts (xw s t counts) j).qH).set ((xm s (xu s counts (xw s t counts) j) c).toNat) (vZ (((xu s counts (xw s t counts) j).qH)[(xm s (xu s counts (xw s t counts) j) c).toNat]!) (((xu s counts (xw s t counts) j).qH)[c.toNat]!) 1)),xN true Qc VR t.qH,atF bs os (yS s qE qC qO qK),sF false xe qE qC s.qA,sF false xE qO qK s.qB,sF false Fcounts acounts ccounts counts]) ?_ ?_
   ·skip
    refine yR rfl H [0,1,2,3,5] fun H=>?_
    have S:=H.yj [0,1,2,3,5] [0,1,2,3,4,5]
    refine rtp 0 (pp b19 0) S ?_
    refine rtp 1 (pp b19 0) S ?_
    refine tF 2 rfl rfl S ?_
    refine tL 3 rfl rfl (fun _ h=>h.cell 0 rfl rfl) S ?_
    refine rtp 4 (yI (xm s (xu s counts (xw s t counts) j) c)) S ?_
    refine rtp 5 (pp b19 0) S ?_
    refine rtp 6 (pp b19 0) S ?_
    refine tF 7 rfl rfl S ?_
    refine tL 8 rfl rfl (fun _ h=>h.cell 0 rfl rfl) S ?_
    refine rtp 9 (yI (xm s (xu s counts (xw s t counts) j) c)) S ?_
    refine tI 10 rfl rfl rfl S ?_
    refine rtp 12 (pp b19 0) S ?_
    refine rtp 13 (pp b19 0) S ?_
    refine tF 14 rfl rfl S ?_
    refine tL 15 rfl rfl (fun _ h=>h.cell 0 rfl rfl) S ?_
    refine rtp 16 (yI c) S ?_
    refine tI 17 rfl rfl rfl S ?_
    refine jb [11,18] qh qm (jQ rfl ?_ (jQ rfl ?_ jd))
    ·skip
     obtain ⟨a193,c194,G195,s196,h197,H⟩:=H.jP 4 rfl 1 rfl (iv:=xm s (xu s counts (xw s t counts) j) c) ((xm s (xu s counts (xw s t counts) j) c).toNat) qf qf
     refine zF (Sv a193 ((((xu s counts (xw s t counts) j).qH)[(xm s (xu s counts (xw s t counts) j) c).toNat]!).length) c194) isAgg24 rfl (h197) (⟨H.pick [0,1,2,3,5] [1,2,3,4,5,6],(ro 18 rfl ?_)⟩)
     obtain ⟨a198,c199,G200,s201,h202,H⟩:=H.jP 4 rfl 2 rfl (iv:=c) c.toNat qf qf
     refine zF (Sv a198 ((((xu s counts (xw s t counts) j).qH)[c.toNat]!).length) c199) isAgg24 rfl (h202) (⟨H.pick [0,1,2,3,5] [2,3,4,5,6,7],(ro 19 rfl ?_)⟩)
     obtain ⟨u1,u2,u4⟩:=L.rows p0 (bnd_le qf) (p:=(xm s (xu s counts (xw s t counts) j) c).toNat) (c:=c.toNat) qf qf
     have sz203:=H.base.size
     have lt204:=H.ltN (L:=[Qc,zq]) [2,3]
     refine oc (X4 _ (((xu s counts (xw s t counts) j).qH)[(xm s (xu s counts (xw s t counts) j) c).toNat]!) (((xu s counts (xw s t counts) j).qH)[c.toNat]!) 1 (H.get 1 rfl).1 (H.get 0 rfl).1 qg qg qg) ?_
     rintro v208 w206 r208 x207
     replace H:=H.zB x207 r208
     obtain ⟨a209,c210,rfl,hc211,hm212⟩:=H.jG 0 rfl
     refine ⟨H.pick [1,2,3,4,6] [2,3,4,5,6,7],(tI 20 rfl rfl rfl (H.pick [1,2,3,4,6] [2,3,4,5,6,7]) ?_)⟩
     refine ro 21 rfl ?_
     obtain ⟨G214,N,hn215,H⟩:=H.zT 0 rfl N (H.jR [2,3])
     refine jy true H 5 rfl 4 rfl (Sv a209 ((vZ (((xu s counts (xw s t counts) j).qH)[(xm s (xu s counts (xw s t counts) j) c).toNat]!) (((xu s counts (xw s t counts) j).qH)[c.toNat]!) 1).length) c210) 0 rfl rfl sizeOf24 rfl rfl (i:=((xm s (xu s counts (xw s t counts) j) c).toNat)) qf qf qm fun w213 xs216 F217 hs218 H=>?_
     replace N:Fresh w.heap.size [F217,Qc]:=(N.pick [2,0,1]).repl hs218
     refine ⟨H.pick [1,2,3,4,6] [4,5,6,7,8,9],(xJ qh ((meet ⟨_,xs216,F217,uE3,N,H.pick [1,2,3,4,5,6] [0,4,6,7,8,9]⟩)))⟩
    obtain ⟨a219,c220,G221,s222,h223,H⟩:=H.jP 4 rfl 1 rfl (iv:=c) c.toNat qf qf
    refine zF (Sv a219 ((((xu s counts (xw s t counts) j).qH)[c.toNat]!).length) c220) isAgg24 rfl (h223) (⟨H.pick [0,1,2,3,5] [1,2,3,4,5,6],(ro 11 rfl ?_)⟩)
    obtain ⟨a224,c225,G226,s227,h228,H⟩:=H.jP 4 rfl 2 rfl (iv:=xm s (xu s counts (xw s t counts) j) c) ((xm s (xu s counts (xw s t counts) j) c).toNat) qf qf
    refine zF (Sv a224 ((((xu s counts (xw s t counts) j).qH)[(xm s (xu s counts (xw s t counts) j) c).toNat]!).length) c225) isAgg24 rfl (h228) (⟨H.pick [0,1,2,3,5] [2,3,4,5,6,7],(ro 19 rfl ?_)⟩)
    obtain ⟨u1,u2,u4⟩:=L.rows p0 (bnd_le qf) (p:=(xm s (xu s counts (xw s t counts) j) c).toNat) (c:=c.toNat) qf qf
    have sz229:=H.base.size
    have lt230:=H.ltN (L:=[Qc,zq]) [2,3]
    refine oc (X4 _ (((xu s counts (xw s t counts) j).qH)[(xm s (xu s counts (xw s t counts) j) c).toNat]!) (((xu s counts (xw s t counts) j).qH)[c.toNat]!) 1 (H.get 0 rfl).1 (H.get 1 rfl).1 qg qg qg) ?_
    rintro v234 w232 r234 x233
    replace H:=H.zB x233 r234
    obtain ⟨a235,c236,rfl,hc237,hm238⟩:=H.jG 0 rfl
    refine ⟨H.pick [1,2,3,4,6] [2,3,4,5,6,7],(tI 20 rfl rfl rfl (H.pick [1,2,3,4,6] [2,3,4,5,6,7]) ?_)⟩
    refine ro 21 rfl ?_
    obtain ⟨G240,N,hn241,H⟩:=H.zT 0 rfl N (H.jR [2,3])
    refine jy true H 5 rfl 4 rfl (Sv a235 ((vZ (((xu s counts (xw s t counts) j).qH)[(xm s (xu s counts (xw s t counts) j) c).toNat]!) (((xu s counts (xw s t counts) j).qH)[c.toNat]!) 1).length) c236) 0 rfl rfl sizeOf24 rfl rfl (i:=((xm s (xu s counts (xw s t counts) j) c).toNat)) qf qf qm fun w239 xs242 F243 hs244 H=>?_
    replace N:Fresh w.heap.size [F243,Qc]:=(N.pick [2,0,1]).repl hs244
    refine ⟨H.pick [1,2,3,4,6] [4,5,6,7,8,9],(xJ qh ((meet ⟨_,xs242,F243,uE3,N,H.pick [1,2,3,4,5,6] [0,4,6,7,8,9]⟩)))⟩
   clear H N
   rintro ρ w245 ⟨xY,xs189,F190,rfl,N,H⟩
   refine t_n (zf ?_)
   refine yR rfl H [0,1,2,3,5] fun H=>?_
   have S:=H.yj [0,1,2,3,5] [0,1,2,3,4,5]
   refine rtp 0 (pp b19 0) S ?_
   refine rtp 1 (pp b19 0) S ?_
   refine tF 2 rfl rfl S ?_
   refine tL 3 rfl rfl (fun _ h=>h.cell 0 rfl rfl) S ?_
   refine rtp 4 (yI c) S ?_
   refine rtp 5 (pp bs os) S ?_
   refine rtp 6 (pp bs os) S ?_
   refine tF 7 rfl rfl S ?_
   refine tL 8 rfl rfl (fun _ h=>h.x9 2 rfl 0 rfl) S ?_
   refine ro 9 rfl (ji H underlying24 ti2 s.xh.toNat rfl rfl qf qf qf fun b247 w248 H=>⟨H.pick [1,2,3,4,6] [0,1,2,3,4,5],(tI 10 rfl rfl rfl (H.pick [1,2,3,4,6] [0,1,2,3,4,5]) ?_)⟩)
   refine ro 11 rfl ?_
   obtain ⟨G250,N,hn251,H⟩:=H.zT 0 rfl N (H.jR [0,1])
   refine jy true H 5 rfl 1 rfl (Sv (aa b247 0) s.xh.toNat s.xh.toNat) 0 rfl rfl sizeOf24 rfl rfl (i:=c.toNat) qf qf qm fun w249 xs252 F253 hs254 H=>?_
   replace N:Fresh w.heap.size [F253,Qc]:=(N.pick [1,0,2]).repl hs254
   refine ⟨H.pick [1,2,3,4,6] [2,3,4,5,6,7],(xJ qh (t_n (zg (sps [pp b19 0,pp b19 0] (oF rfl (oL rfl (H.cell 1 rfl rfl) (sp (yI c) ?_)))))))⟩
   obtain ⟨b255,rfl⟩:=H.Qe 2 rfl qf
   refine oI rfl rfl (sw (Q9 H 2 rfl false sizeOf4 rfl rfl (i:=c.toNat) qf qf fun w256 H=>zi (ret0 rfl ⟨_,rfl,?_⟩)))
   replace H:=H.erases [0]
   dsimp only [vM,List.eraseIdx] at H
   refine zi (b_n (t_n (zg (sp (yI c) (sw (o_sub c 1 rfl rfl qf (sp (yI (c - 1)) (zi ?_))))))))
   rw [Qh] at H
   refine xq (m' :=((c - 1):Int).toNat) qf ⟨_,c - 1,(((xu s counts (xw s t counts) j).qG).set c.toNat false),((((xu s counts (xw s t counts) j).qH).set ((xm s (xu s counts (xw s t counts) j) c).toNat) (vZ (((xu s counts (xw s t counts) j).qH)[(xm s (xu s counts (xw s t counts) j) c).toNat]!) (((xu s counts (xw s t counts) j).qH)[c.toNat]!) 1)).set c.toNat (List.replicate s.xh.toNat (0:Int))),xs252,F253,j+1,uE5,?_,?_,?_,?_,rfl,(N.pick [1,0]),H.pick [0,1,2,3,4,5] [3,0,4,5,6,7]⟩
   · first | (rw [Q4 (c:=c) (i:=i_1) ‹_› qf ic];done) | (rw [Q4 (c:=c) (i:=i_1) ‹_› qf ic];rfl) | rw [meltDown_no' (c:=c) (i:=i_1) ‹_› qf ic]
   · first | (rw [Q4 (c:=c) (i:=i_1) ‹_› qf ic];done) | (rw [Q4 (c:=c) (i:=i_1) ‹_› qf ic];rfl) | rw [meltDown_no' (c:=c) (i:=i_1) ‹_› qf ic]
   · omega
   · omega
  refine xk (b_n (t_n (zg (sp (yI c) (sw (o_sub c 1 rfl rfl qf (sp (yI (c - 1)) (zi ?_))))))))
  rw [Qh] at H
  refine xq (m' :=((c - 1):Int).toNat) qf ⟨_,c - 1,((xu s counts (xw s t counts) j).qG),((xu s counts (xw s t counts) j).qH),vg,zq,j+1,uE5,?_,?_,?_,?_,rfl,N,H⟩
  · first | (rw [Q4 (c:=c) (i:=i_1) ‹_› qf ic];done) | (rw [Q4 (c:=c) (i:=i_1) ‹_› qf ic];rfl) | rw [meltDown_no' (c:=c) (i:=i_1) ‹_› qf ic]
  · first | (rw [Q4 (c:=c) (i:=i_1) ‹_› qf ic];done) | (rw [Q4 (c:=c) (i:=i_1) ‹_› qf ic];rfl) | rw [meltDown_no' (c:=c) (i:=i_1) ‹_› qf ic]
  · omega
  · omega
 refine zx4 (zcr (sp (pp bs os) (sw (vk #[pp bs os,pp b19 0] rfl rfl call115 (en func115 ntmps115 ?_)))))
 refine zcr (sw (xZ H ti31 [yN,yN,yN] fun b257 w258 H=>sp (yI 0) (zjcc (sps [pp bs os,pp b19 0] ?_))))
 obtain ⟨G259,hn260,h261⟩:=H.rowIsB 2 rfl
 obtain ⟨G262,hn263,h264⟩:=H.QK (α:=yLI) 5 rfl 1 rfl qj
 obtain ⟨G265,hn266,h267⟩:=H.QW 4 rfl
 refine sw (oq (l02State_ok _ s (xu s counts (xw s t counts) j) (qJ (H.get 2 rfl) 0 3) (H.get 3 rfl).1 (H.get 4 rfl).1 (by have hz:=(qJ (H.cells 1 rfl) 0 3);rw [hn260,hn263,hn266] at hz;exact hz) (hn260▸h261) (hn263▸h264) (hn266▸h267) (by first | assumption | exact (And.left (by assumption:zQ _)))) H fun w268 H=>sp (Bv (!(dec (xI s (xu s counts (xw s t counts) j))))) (zjn (cQ rfl (fun h270=>?_) (fun h270=>?_))))
 ·skip
  refine zcr (sw (vX [yN,yN,yN] [] (sw (zu H 0 [yN,yN,yN] sizeOf31 fun w271 H=>sp (yI 3) (zjr (t_r (retC2 H 0 rfl (yI 3) rfl isAgg31 sizeOf31 rfl rfl ⟨_,rfl,?_⟩)))))))
  replace H:=H.erases [0]
  dsimp only [vM,List.eraseIdx] at H
  refine sps [.agg #[yN,yN,yN],yI 3] (sw (zu H 5 [yN,yN,yN] sizeOf31 fun w272 H=>sp (yI 3) (zjr ?_)))
  replace H:=H.nilRowB 4
  replace H:=H.nilRow 24 1
  replace H:=H.vT (α:=yLI)
  replace H:=H.nilRowI 2
  refine retC2 H 8 rfl (yI 3) rfl isAgg31 sizeOf31 rfl rfl ⟨_,rfl,?_,H.base⟩
  rw [Xx ‹_›,stepRes,show xP s - 1=j by omega,told_no ‹_›]
  exact ⟨none,0,0,none,0,0,[],[],none,0,0,rfl,(N.emp.pick [0]),H.pick [2,1,0] [0]⟩
 refine xk (t_n (zcr (sps [pp b19 0,pp b19 0] (sw (xU [Sv Qp t.qG.length Qo,Sv ra3a ((yP s t counts (QV (Yh s t counts) counts.length)).length) rc3a,Sv jK jI jJ] isAgg31 sizeOf31 rfl (qJ (H.cells 1 rfl) 0 3) (sw (zu H 0 [Sv Qp t.qG.length Qo,Sv ra3a ((yP s t counts (QV (Yh s t counts) counts.length)).length) rc3a,Sv jK jI jJ] sizeOf31 fun w273 H=>sp (yI 0) (zjr ?_))))))))
 refine retC2 H 0 rfl (yI 0) rfl isAgg31 sizeOf31 rfl rfl ⟨_,rfl,?_⟩
 replace H:=H.erases [0]
 dsimp only [vM,List.eraseIdx] at H
 refine sps [.agg #[Sv Qp t.qG.length Qo,Sv ra3a ((yP s t counts (QV (Yh s t counts) counts.length)).length) rc3a,Sv jK jI jJ],yI 0] (sw (zu H 5 [Sv Qp t.qG.length Qo,Sv ra3a ((yP s t counts (QV (Yh s t counts) counts.length)).length) rc3a,Sv jK jI jJ] sizeOf31 fun w274 H=>sp (yI 0) (zjr (retC2 H 5 rfl (yI 0) rfl isAgg31 sizeOf31 rfl rfl ⟨_,rfl,?_,H.base⟩))))
 rw [Xx ‹_›,stepRes,show xP s - 1=j by omega,told_yes ‹_›]
 exact ⟨Qp,t.qG.length,Qo,ra3a,(yP s t counts (QV (Yh s t counts) counts.length)).length,rc3a,vg,zq,jK,jI,jJ,rfl,(N.pick [1]),H.pick [1,4,3] [1]⟩
theorem isEnabled_ok (w:World) (s:qI) (t:qP) (r:jL) {qE:yOA} {xe:yLN} {qO:yOA} {xE:yLN} {qU:yOA} {xO:yLN} {xf:yOA} {zo:yLN} {qM:yOA} {xB:yLN} {jW:yOA} {jT:Nat} {XF:yLN} {jY:yOA} {jV:Nat} {XI:yLN} {jX:yOA} {jU:Nat} {XG:yLN} {jO:yOA} {jM:Nat} {XH:yLN} {Qs:yOA} {Qr:Nat} {FrOut:yLN} {jE:yOA} {jD:Nat} {VJ:yLN} (qZ:qX.rep w xe [Sv qE s.qA.length qC] s.qA) (xC:qX.rep w xE [Sv qO s.qB.length qK] s.qB) (xQ:qX.rep w xO [Sv qU t.qG.length qQ] t.qG) (zA:qX.rep w zo [Sv xf t.qH.length qY] t.qH) (xH:qX.rep w xB [Sv qM t.qF.length qL] t.qF) (hrNeed:qX.rep w XF [Sv jW r.xR.length jT] r.xR) (hrHave:qX.rep w XI [Sv jY r.zM.length jV] r.zM) (hrLack:qX.rep w XG [Sv jX r.zK.length jU] r.zK) (hrHere:qX.rep w XH [Sv jO r.zH.length jM] r.zH) (hrOut:qX.rep w FrOut [Sv Qs r.jC.length Qr] r.jC) (hrInto:qX.rep w VJ [Sv jE r.qW.length jD] r.qW) (p0:zQ s) (p1:xI s t) (p2:RuleOk s r):Calls Tryz.prog 84 #[.agg #[yI s.xh,Sv qE s.qA.length qC,Sv qO s.qB.length qK],.agg #[Sv qU t.qG.length qQ,Sv xf t.qH.length qY,Sv qM t.qF.length qL],.agg #[yI r.qN,yI r.vP,Sv jW r.xR.length jT,Sv jY r.zM.length jV,Sv jX r.zK.length jU,Sv jO r.zH.length jM,Sv Qs r.jC.length Qr,Sv jE r.qW.length jD,Bv r.vF]] w (Ret (fun v w' =>v=Bv (dec (EnOk s t r))) w):=by
 refine en func84 ntmps84 ?_
 have H:=(((((((((((St.start w).arg hrInto).arg hrOut).arg hrHere).arg hrLack).arg hrHave).arg hrNeed).arg xH).arg zA).arg xQ).arg xC).arg qZ
 have zX:=qV qZ
 have jo:=qV xC
 have yC:=qV xQ
 have Qm:=qV zA
 have jH:=qV xH
 have nhrNeed:=qV hrNeed
 have nhrHave:=qV hrHave
 have nhrLack:=qV hrLack
 have nhrHere:=qV hrHere
 have nhrOut:=qV hrOut
 have nhrInto:=qV hrInto
 clear qZ xC xQ zA xH hrNeed hrHave hrLack hrHere hrOut hrInto
 have N:=Fresh.nil w.heap.size
 have p3:=p2.1
 have p4:=p1.1
 have p5:=p1.2.1
 have p6:=(p1.bagLen (k:=r.qN.toNat) qf).len
 have p7:=p2.2.2.2.2.1.len
 have p8:=p2.2.2.2.2.2.1.len
 have p9:=p2.2.2.2.2.2.2.1.len
 have p10:=vz p2.2.2.2.2.2.2.1
 have p11:=p0.1
 have p12:=p2.2.2.2.2.2.2.2.2.2.2
 have p13:=kinds_le p0
 refine zcr (sw (zW H (yS s qE qC qO qK) fun b1 w2 H=>sw (zW H (yT t qU qQ xf qY qM qL) fun b3 w4 H=>sw (zW H [yI r.qN,yI r.vP,Sv jW r.xR.length jT,Sv jY r.zM.length jV,Sv jX r.zK.length jU,Sv jO r.zH.length jM,Sv Qs r.jC.length Qr,Sv jE r.qW.length jD,Bv r.vF] fun b5 w6 H=>sp (Bv false) (zjcc (oF rfl ?_))))))
 refine oL rfl (H.cell 1 rfl rfl) (oF rfl (oL rfl (H.cell 0 rfl rfl) ?_))
 obtain ⟨b7,o8,rfl⟩:=H.addr 2 rfl qf
 refine oI rfl rfl (oL rfl (H.Vx 2 rfl r.qN qf qf) (sp (Bv (!(t.qG[r.qN.toNat]!))) (zjn (xK (!(t.qG[r.qN.toNat]!)) rfl (fun h10=>?_) (fun h10=>?_)))))
 ·skip
  replace h10:=xM h10
  refine zcr (sp (Bv false) (zjr (t_r (ret1 (Bv false) rfl rfl ⟨_,rfl,?_,H.base⟩))))
  rw [xy (fun h=>by obtain ⟨h1,h2,h3,h4,h5⟩:=h;first | exact ft h1 ‹_› | exact ft h2 ‹_› | exact ft h3 ‹_› | exact h4 ⟨‹_›,‹_›⟩ | (obtain ⟨q1,q2⟩:=h5 i qf;first | exact ft q1 ‹_› | exact absurd q2 ‹_›))]
 replace h10:=xG h10
 refine xk (t_n (zcr (oF rfl (oL rfl (H.cell 1 rfl rfl) (oF rfl (oL rfl (H.cell 0 rfl rfl) ?_))))))
 obtain ⟨b11,o12,rfl⟩:=H.addr 3 rfl qf
 obtain ⟨ae14,ce14,Fe14,H⟩:=H.jq 3 rfl r.qN r.qN.toNat qf qf qf
 refine oI rfl rfl (oL rfl (H.x9 1 rfl 0 rfl) (sp (Sv ae14 ((t.qH[r.qN.toNat]!).length) ce14) (zjcc (oF rfl (oL rfl (H.cell 0 rfl rfl) (sp (Sv ae14 ((t.qH[r.qN.toNat]!).length) ce14) (sw (oq (isWithin_ok _ r.xR (t.qH[r.qN.toNat]!) (H.get 7 rfl).1 (H.get 0 rfl).1 qg qg) H fun w15 H=>sps [Bv (!(within r.xR (t.qH[r.qN.toNat]!))),Bv (!(within r.xR (t.qH[r.qN.toNat]!)))] ?_))))))))
 cases h17:(!(within r.xR (t.qH[r.qN.toNat]!)))
 ·skip
  replace h17:=xG h17
  refine qR 26 rfl rfl (oF rfl (qR 26 rfl rfl (oL rfl (H.cell 0 rfl rfl) (qR 26 rfl rfl (sp (Sv ae14 ((t.qH[r.qN.toNat]!).length) ce14) (qR 26 rfl rfl (sw (oq (isWithin_ok _ r.zM (t.qH[r.qN.toNat]!) (H.get 8 rfl).1 (H.get 0 rfl).1 qg qg) H fun w18 H=>qR 26 rfl rfl (sps [Bv (!(within r.zM (t.qH[r.qN.toNat]!))),Bv (!(within r.zM (t.qH[r.qN.toNat]!))),Bv (!(within r.zM (t.qH[r.qN.toNat]!)))] ?_)))))))))
  cases h20:(!(within r.zM (t.qH[r.qN.toNat]!)))
  ·skip
   replace h20:=xG h20
   refine qR 33 rfl rfl (oF rfl (qR 33 rfl rfl (oL rfl (H.cell 0 rfl rfl) (qR 33 rfl rfl (sw (oq (X6 _ r.zK (H.get 9 rfl).1 (by first | assumption | exact vz ql | exact Qa ql)) H fun w21 H=>qR 33 rfl rfl (sp (Bv (decide ((Xh r.zK:Int) > 0))) (qR 33 rfl rfl (sp (Bv (decide ((Xh r.zK:Int) > 0))) ?_)))))))))
   cases h23:(decide ((Xh r.zK:Int) > 0))
   ·skip
    replace h23:=of_decide_eq_false h23
    refine xW [39,40,41,42] (qR 33 rfl rfl (sps [Bv false,Bv false] (zjn (xK false rfl (fun h=>absurd h qj) (fun _=>xk (t_n (zcr (oF rfl (oL rfl (H.cell 0 rfl rfl) (sp (.func (.func 154) #[] #[pp b3 0,pp b1 0,pp b5 0]) (sw (vk #[Sv jE r.qW.length jD,.func (.func 154) #[] #[pp b3 0,pp b1 0,pp b5 0]] rfl rfl call153 (en func153 ntmps153 ?_)))))))))))))
    refine zcr (sp (Bv false) (zjc (sps [Sv jE r.qW.length jD,.func (.func 154) #[] #[pp b3 0,pp b1 0,pp b5 0]] (sw (vk #[Sv jE r.qW.length jD,.func (.func 154) #[] #[pp b3 0,pp b1 0,pp b5 0]] rfl rfl call192 (en func192 ntmps192 ?_))))))
    refine zcr (sp (yI 0) (zjcc (sp (Sv jE r.qW.length jD) (oN rfl (sp (yI 0) (zjn (xg ?_)))))))
    refine zJ (fun m' ρ w24=>∃ (xY:Env) (i:Nat),ρ=upd (upd (upd (upd xY 0 (Sv jE r.qW.length jD)) 1 (.func (.func 154) #[] #[pp b3 0,pp b1 0,pp b5 0])) 7 (yI r.qW.length)) 8 (yI i)∧((i:Int)≤r.qW.length)∧(IntoUp s t r i)∧m' =(r.qW.length - (i:Int)).toNat∧Fresh w.heap.size []∧St w w24 [.box b5 [yI r.qN,yI r.vP,Sv jW r.xR.length jT,Sv jY r.zM.length jV,Sv jX r.zK.length jU,Sv jO r.zH.length jM,Sv Qs r.jC.length Qr,Sv jE r.qW.length jD,Bv r.vF] 56,.box b3 [Sv (aa b7 o8) t.qG.length qQ,Sv (aa b11 o12) t.qH.length qY,Sv qM t.qF.length qL] 31,.box b1 (yS s qE qC qO qK) 27] [sF false Fe14 ae14 ce14 (t.qH[r.qN.toNat]!),atF b11 (o12+(r.qN:Int).toNat * 1) [Sv ae14 ((t.qH[r.qN.toNat]!).length) ce14],sF false xe qE qC s.qA,sF false xE qO qK s.qB,sF false xO (aa b7 o8) qQ t.qG,sF false zo (aa b11 o12) qY t.qH,sF false xB qM qL t.qF,sF false XF jW jT r.xR,sF false XI jY jV r.zM,sF false XG jX jU r.zK,sF false XH jO jM r.zH,sF false FrOut Qs Qr r.jC,sF false VJ jE jD r.qW]) ((r.qW.length - (0:Int)).toNat) ⟨_,0,uE4,qf,qx,rfl,N,H⟩ ?_
    clear H N
    rintro m' ρ w25 ⟨xY,i,rfl,i0,i1,rfl,N,H⟩
    refine zcr (sp (Bv (decide ((i:Int) < r.qW.length))) (zjn (zf (cD rfl (fun h26=>?_) (fun h26=>?_)))))
    ·skip
     have q:=(p12 i qf).1
     have q1:=q.1
     have q2:=q.2
     refine xk (t_n (zf (xg (zcr (sps [yI i,yI i] (zjc (sps [.func (.func 154) #[] #[pp b3 0,pp b1 0,pp b5 0],Sv jE r.qW.length jD,yI i] ?_)))))))
     obtain ⟨b27,o28,rfl⟩:=H.addr 12 rfl qf
     obtain ⟨ae30Bag,ce30Bag,Fe30Bag,H⟩:=H.Qd 12 rfl i i qf qf qf
     refine oI rfl rfl (sw (xU [yI ((r.qW[i]!).qN),Sv ae30Bag (((r.qW[i]!).QP).length) ce30Bag] isAgg142 sizeOf142 rfl (qJ (H.get 1 rfl) 0 2) (sw (vk #[.agg #[yI ((r.qW[i]!).qN),Sv ae30Bag (((r.qW[i]!).QP).length) ce30Bag],pp b3 0,pp b1 0,pp b5 0] rfl rfl call154 (en func154 ntmps154 ?_)))))
     refine zcr (sw (zW H [yI ((r.qW[i]!).qN),Sv ae30Bag (((r.qW[i]!).QP).length) ce30Bag] fun b31 w32 H=>sp (Bv false) (zjn (zf ?_))))
     refine yl rfl H fun H=>tF 0 rfl rfl H ?_
     refine tL 1 rfl rfl (fun _ h=>h.cell 2 rfl rfl) H ?_
     refine tF 2 rfl rfl H ?_
     refine tL 3 rfl rfl (fun _ h=>h.cell 0 rfl rfl) H ?_
     refine tI 4 rfl rfl rfl H ?_
     refine tL 5 rfl rfl (fun _ h=>h.Vx 6 rfl ((r.qW[i]!).qN) qf qf) H ?_
     refine rtp 6 (Bv (!(t.qG[((r.qW[i]!).qN).toNat]!))) H ?_
     refine rtp 7 (Bv (!(t.qG[((r.qW[i]!).qN).toNat]!))) H ?_
     cases h34:(!(t.qG[((r.qW[i]!).qN).toNat]!))
     ·skip
      replace h34:=xG h34
      refine rg 8 (.agg #[yI s.xh,Sv qE s.qA.length qC,Sv qO s.qB.length qK]) 13 (Qv (cs:=(yS s qE qC qO qK)) isAgg27 sizeOf27 rfl (fun _ h=>qJ (h.cells 3 rfl) 0 3)) H ?_
      refine rg 9 (.agg #[Sv (aa b7 o8) t.qG.length qQ,Sv (aa b11 o12) t.qH.length qY,Sv qM t.qF.length qL]) 13 (Qv (cs:=[Sv (aa b7 o8) t.qG.length qQ,Sv (aa b11 o12) t.qH.length qY,Sv qM t.qF.length qL]) isAgg31 sizeOf31 rfl (fun _ h=>qJ (h.cells 2 rfl) 0 3)) H ?_
      refine gF 10 rfl rfl H ?_
      refine gL 11 rfl rfl (fun _ h=>h.cell 0 rfl rfl) H ?_
      refine gF 13 rfl rfl H ?_
      refine gL 14 rfl rfl (fun _ h=>h.cell 1 rfl rfl) H ?_
      refine jb [12] qh qm (Vh rfl (e:=13) rfl rfl (oq (parentNow_ok _ s t ((r.qW[i]!).qN) (H.get 4 rfl).1 (H.get 5 rfl).1 (H.get 6 rfl).1 (H.get 7 rfl).1 (H.get 8 rfl).1 qg qg qg) H fun w36 H=>⟨H,(rgp 15 (Bv ((xm s t ((r.qW[i]!).qN):Int) != r.qN)) 13 H ?_)⟩) jd)
      refine rtp 16 (Bv ((xm s t ((r.qW[i]!).qN):Int) != r.qN)) H ?_
      refine rtp 17 (Bv ((xm s t ((r.qW[i]!).qN):Int) != r.qN)) H ?_
      refine xJ qh (t_n (c_ret (ret1 (Bv ((xm s t ((r.qW[i]!).qN):Int) != r.qN)) rfl rfl ⟨_,rfl,?_⟩)))
      replace H:=H.erases [0]
      dsimp only [vM,List.eraseIdx] at H
      refine zjn (xK ((xm s t ((r.qW[i]!).qN):Int) != r.qN) rfl (fun h38=>?_) (fun h38=>?_))
      ·skip
       replace h38:=bne_iff_ne.1 h38
       refine zcr (sps [yI i,yI i] (zjr (zr5 (ret1 (yI i) rfl rfl ⟨_,rfl,(sw (o_pure (Bv true) (by show some (Value.bool (decide ((i:Int)≥0)))=some (Value.bool true);rw [decide_eq_true qf]) (sp (Bv true) (zjr (ret1 (Bv true) rfl rfl ⟨_,rfl,(sps [Bv false,Bv false] (zjr (ret1 (Bv false) rfl rfl ⟨_,rfl,?_,H.base⟩)))⟩)))))⟩))))
       rw [xy (fun h=>by obtain ⟨h1,h2,h3,h4,h5⟩:=h;first | exact ft h1 ‹_› | exact ft h2 ‹_› | exact ft h3 ‹_› | exact h4 ⟨‹_›,‹_›⟩ | (obtain ⟨q1,q2⟩:=h5 i qf;first | exact ft q1 ‹_› | exact absurd q2 ‹_›))]
      replace h38:=xF h38
      refine xk (b_n (t_n (zg (sw (zL i 1 rfl rfl qf (sp (yI (i+1)) (zi (xq (m' :=(r.qW.length - ((i+1):Int)).toNat) qf ⟨_,i+1,uE4,?_,?_,rfl,N,H.pick [0,1,2] [2,3,4,5,6,7,8,9,10,11,12,13,14]⟩))))))))
      · omega
      · exact i1.succ ‹_› ‹_›
     replace h34:=xM h34
     refine zV [8,9,10,11,12,13,14,15] 8 (H) (rtp 16 (Bv true) H ?_)
     refine rtp 17 (Bv true) H ?_
     refine xJ qh (t_n (c_ret (ret1 (Bv true) rfl rfl ⟨_,rfl,?_⟩)))
     replace H:=H.erases [0]
     dsimp only [vM,List.eraseIdx] at H
     refine zjn (xK true rfl (fun _=>zcr (sps [yI i,yI i] (zjr (zr5 (ret1 (yI i) rfl rfl ⟨_,rfl,(sw (o_pure (Bv true) (by show some (Value.bool (decide ((i:Int)≥0)))=some (Value.bool true);rw [decide_eq_true qf]) (sp (Bv true) (zjr (ret1 (Bv true) rfl rfl ⟨_,rfl,(sps [Bv false,Bv false] (zjr (ret1 (Bv false) rfl rfl ⟨_,rfl,?_,H.base⟩)))⟩)))))⟩))))) (fun h=>absurd h qj))
     rw [xy (fun h=>by obtain ⟨h1,h2,h3,h4,h5⟩:=h;first | exact ft h1 ‹_› | exact ft h2 ‹_› | exact ft h3 ‹_› | exact h4 ⟨‹_›,‹_›⟩ | (obtain ⟨q1,q2⟩:=h5 i qf;first | exact ft q1 ‹_› | exact absurd q2 ‹_›))]
    refine zx4 (zcr (sp (yI (-1)) (zjr (ret1 (yI (-1)) rfl rfl ⟨_,rfl,(sps [Bv false,Bv false] (zjr (ret1 (Bv false) rfl rfl ⟨_,rfl,(sps [Bv true,Bv true] (zjr (ret1 (Bv true) rfl rfl ⟨_,rfl,?_,H.base⟩)))⟩)))⟩))))
    rw [yh ⟨by assumption,by assumption,by assumption,fun ⟨u,v⟩=>by first | omega | exact ft v ‹_›,(show i=r.qW.length by omega)▸i1⟩]
   replace h23:=of_decide_eq_true h23
   refine qR 38 rfl rfl (oF rfl (qR 38 rfl rfl (oL rfl (H.cell 0 rfl rfl) (qR 38 rfl rfl (sp (Sv ae14 ((t.qH[r.qN.toNat]!).length) ce14) (qR 38 rfl rfl (sw (oq (isWithin_ok _ r.zK (t.qH[r.qN.toNat]!) (H.get 9 rfl).1 (H.get 0 rfl).1 qg qg) H fun w39 H=>qR 33 rfl rfl (sps [Bv (within r.zK (t.qH[r.qN.toNat]!)),Bv (within r.zK (t.qH[r.qN.toNat]!))] (zjn (xK (within r.zK (t.qH[r.qN.toNat]!)) rfl (fun h41=>?_) (fun h41=>?_))))))))))))
   ·skip
    refine zcr (sp (Bv false) (zjr (t_r (ret1 (Bv false) rfl rfl ⟨_,rfl,?_,H.base⟩))))
    rw [xy (fun h=>by obtain ⟨h1,h2,h3,h4,h5⟩:=h;first | exact ft h1 ‹_› | exact ft h2 ‹_› | exact ft h3 ‹_› | exact h4 ⟨‹_›,‹_›⟩ | (obtain ⟨q1,q2⟩:=h5 i qf;first | exact ft q1 ‹_› | exact absurd q2 ‹_›))]
   refine xk (t_n (zcr (oF rfl (oL rfl (H.cell 0 rfl rfl) (sp (.func (.func 154) #[] #[pp b3 0,pp b1 0,pp b5 0]) (sw (vk #[Sv jE r.qW.length jD,.func (.func 154) #[] #[pp b3 0,pp b1 0,pp b5 0]] rfl rfl call153 (en func153 ntmps153 ?_))))))))
   refine zcr (sp (Bv false) (zjc (sps [Sv jE r.qW.length jD,.func (.func 154) #[] #[pp b3 0,pp b1 0,pp b5 0]] (sw (vk #[Sv jE r.qW.length jD,.func (.func 154) #[] #[pp b3 0,pp b1 0,pp b5 0]] rfl rfl call192 (en func192 ntmps192 ?_))))))
   refine zcr (sp (yI 0) (zjcc (sp (Sv jE r.qW.length jD) (oN rfl (sp (yI 0) (zjn (xg ?_)))))))
   refine zJ (fun m' ρ w42=>∃ (xY:Env) (i:Nat),ρ=upd (upd (upd (upd xY 0 (Sv jE r.qW.length jD)) 1 (.func (.func 154) #[] #[pp b3 0,pp b1 0,pp b5 0])) 7 (yI r.qW.length)) 8 (yI i)∧((i:Int)≤r.qW.length)∧(IntoUp s t r i)∧m' =(r.qW.length - (i:Int)).toNat∧Fresh w.heap.size []∧St w w42 [.box b5 [yI r.qN,yI r.vP,Sv jW r.xR.length jT,Sv jY r.zM.length jV,Sv jX r.zK.length jU,Sv jO r.zH.length jM,Sv Qs r.jC.length Qr,Sv jE r.qW.length jD,Bv r.vF] 56,.box b3 [Sv (aa b7 o8) t.qG.length qQ,Sv (aa b11 o12) t.qH.length qY,Sv qM t.qF.length qL] 31,.box b1 (yS s qE qC qO qK) 27] [sF false Fe14 ae14 ce14 (t.qH[r.qN.toNat]!),atF b11 (o12+(r.qN:Int).toNat * 1) [Sv ae14 ((t.qH[r.qN.toNat]!).length) ce14],sF false xe qE qC s.qA,sF false xE qO qK s.qB,sF false xO (aa b7 o8) qQ t.qG,sF false zo (aa b11 o12) qY t.qH,sF false xB qM qL t.qF,sF false XF jW jT r.xR,sF false XI jY jV r.zM,sF false XG jX jU r.zK,sF false XH jO jM r.zH,sF false FrOut Qs Qr r.jC,sF false VJ jE jD r.qW]) ((r.qW.length - (0:Int)).toNat) ⟨_,0,uE4,qf,qx,rfl,N,H⟩ ?_
   clear H N
   rintro m' ρ w43 ⟨xY,i,rfl,i0,i1,rfl,N,H⟩
   refine zcr (sp (Bv (decide ((i:Int) < r.qW.length))) (zjn (zf (cD rfl (fun h44=>?_) (fun h44=>?_)))))
   ·skip
    have q:=(p12 i qf).1
    have q1:=q.1
    have q2:=q.2
    refine xk (t_n (zf (xg (zcr (sps [yI i,yI i] (zjc (sps [.func (.func 154) #[] #[pp b3 0,pp b1 0,pp b5 0],Sv jE r.qW.length jD,yI i] ?_)))))))
    obtain ⟨b45,o46,rfl⟩:=H.addr 12 rfl qf
    obtain ⟨ae48Bag,ce48Bag,Fe48Bag,H⟩:=H.Qd 12 rfl i i qf qf qf
    refine oI rfl rfl (sw (xU [yI ((r.qW[i]!).qN),Sv ae48Bag (((r.qW[i]!).QP).length) ce48Bag] isAgg142 sizeOf142 rfl (qJ (H.get 1 rfl) 0 2) (sw (vk #[.agg #[yI ((r.qW[i]!).qN),Sv ae48Bag (((r.qW[i]!).QP).length) ce48Bag],pp b3 0,pp b1 0,pp b5 0] rfl rfl call154 (en func154 ntmps154 ?_)))))
    refine zcr (sw (zW H [yI ((r.qW[i]!).qN),Sv ae48Bag (((r.qW[i]!).QP).length) ce48Bag] fun b49 w50 H=>sp (Bv false) (zjn (zf ?_))))
    refine yl rfl H fun H=>tF 0 rfl rfl H ?_
    refine tL 1 rfl rfl (fun _ h=>h.cell 2 rfl rfl) H ?_
    refine tF 2 rfl rfl H ?_
    refine tL 3 rfl rfl (fun _ h=>h.cell 0 rfl rfl) H ?_
    refine tI 4 rfl rfl rfl H ?_
    refine tL 5 rfl rfl (fun _ h=>h.Vx 6 rfl ((r.qW[i]!).qN) qf qf) H ?_
    refine rtp 6 (Bv (!(t.qG[((r.qW[i]!).qN).toNat]!))) H ?_
    refine rtp 7 (Bv (!(t.qG[((r.qW[i]!).qN).toNat]!))) H ?_
    cases h52:(!(t.qG[((r.qW[i]!).qN).toNat]!))
    ·skip
     replace h52:=xG h52
     refine rg 8 (.agg #[yI s.xh,Sv qE s.qA.length qC,Sv qO s.qB.length qK]) 13 (Qv (cs:=(yS s qE qC qO qK)) isAgg27 sizeOf27 rfl (fun _ h=>qJ (h.cells 3 rfl) 0 3)) H ?_
     refine rg 9 (.agg #[Sv (aa b7 o8) t.qG.length qQ,Sv (aa b11 o12) t.qH.length qY,Sv qM t.qF.length qL]) 13 (Qv (cs:=[Sv (aa b7 o8) t.qG.length qQ,Sv (aa b11 o12) t.qH.length qY,Sv qM t.qF.length qL]) isAgg31 sizeOf31 rfl (fun _ h=>qJ (h.cells 2 rfl) 0 3)) H ?_
     refine gF 10 rfl rfl H ?_
     refine gL 11 rfl rfl (fun _ h=>h.cell 0 rfl rfl) H ?_
     refine gF 13 rfl rfl H ?_
     refine gL 14 rfl rfl (fun _ h=>h.cell 1 rfl rfl) H ?_
     refine jb [12] qh qm (Vh rfl (e:=13) rfl rfl (oq (parentNow_ok _ s t ((r.qW[i]!).qN) (H.get 4 rfl).1 (H.get 5 rfl).1 (H.get 6 rfl).1 (H.get 7 rfl).1 (H.get 8 rfl).1 qg qg qg) H fun w54 H=>⟨H,(rgp 15 (Bv ((xm s t ((r.qW[i]!).qN):Int) != r.qN)) 13 H ?_)⟩) jd)
     refine rtp 16 (Bv ((xm s t ((r.qW[i]!).qN):Int) != r.qN)) H ?_
     refine rtp 17 (Bv ((xm s t ((r.qW[i]!).qN):Int) != r.qN)) H ?_
     refine xJ qh (t_n (c_ret (ret1 (Bv ((xm s t ((r.qW[i]!).qN):Int) != r.qN)) rfl rfl ⟨_,rfl,?_⟩)))
     replace H:=H.erases [0]
     dsimp only [vM,List.eraseIdx] at H
     refine zjn (xK ((xm s t ((r.qW[i]!).qN):Int) != r.qN) rfl (fun h56=>?_) (fun h56=>?_))
     ·skip
      replace h56:=bne_iff_ne.1 h56
      refine zcr (sps [yI i,yI i] (zjr (zr5 (ret1 (yI i) rfl rfl ⟨_,rfl,(sw (o_pure (Bv true) (by show some (Value.bool (decide ((i:Int)≥0)))=some (Value.bool true);rw [decide_eq_true qf]) (sp (Bv true) (zjr (ret1 (Bv true) rfl rfl ⟨_,rfl,(sps [Bv false,Bv false] (zjr (ret1 (Bv false) rfl rfl ⟨_,rfl,?_,H.base⟩)))⟩)))))⟩))))
      rw [xy (fun h=>by obtain ⟨h1,h2,h3,h4,h5⟩:=h;first | exact ft h1 ‹_› | exact ft h2 ‹_› | exact ft h3 ‹_› | exact h4 ⟨‹_›,‹_›⟩ | (obtain ⟨q1,q2⟩:=h5 i qf;first | exact ft q1 ‹_› | exact absurd q2 ‹_›))]
     replace h56:=xF h56
     refine xk (b_n (t_n (zg (sw (zL i 1 rfl rfl qf (sp (yI (i+1)) (zi (xq (m' :=(r.qW.length - ((i+1):Int)).toNat) qf ⟨_,i+1,uE4,?_,?_,rfl,N,H.pick [0,1,2] [2,3,4,5,6,7,8,9,10,11,12,13,14]⟩))))))))
     · omega
     · exact i1.succ ‹_› ‹_›
    replace h52:=xM h52
    refine zV [8,9,10,11,12,13,14,15] 8 (H) (rtp 16 (Bv true) H ?_)
    refine rtp 17 (Bv true) H ?_
    refine xJ qh (t_n (c_ret (ret1 (Bv true) rfl rfl ⟨_,rfl,?_⟩)))
    replace H:=H.erases [0]
    dsimp only [vM,List.eraseIdx] at H
    refine zjn (xK true rfl (fun _=>zcr (sps [yI i,yI i] (zjr (zr5 (ret1 (yI i) rfl rfl ⟨_,rfl,(sw (o_pure (Bv true) (by show some (Value.bool (decide ((i:Int)≥0)))=some (Value.bool true);rw [decide_eq_true qf]) (sp (Bv true) (zjr (ret1 (Bv true) rfl rfl ⟨_,rfl,(sps [Bv false,Bv false] (zjr (ret1 (Bv false) rfl rfl ⟨_,rfl,?_,H.base⟩)))⟩)))))⟩))))) (fun h=>absurd h qj))
    rw [xy (fun h=>by obtain ⟨h1,h2,h3,h4,h5⟩:=h;first | exact ft h1 ‹_› | exact ft h2 ‹_› | exact ft h3 ‹_› | exact h4 ⟨‹_›,‹_›⟩ | (obtain ⟨q1,q2⟩:=h5 i qf;first | exact ft q1 ‹_› | exact absurd q2 ‹_›))]
   refine zx4 (zcr (sp (yI (-1)) (zjr (ret1 (yI (-1)) rfl rfl ⟨_,rfl,(sps [Bv false,Bv false] (zjr (ret1 (Bv false) rfl rfl ⟨_,rfl,(sps [Bv true,Bv true] (zjr (ret1 (Bv true) rfl rfl ⟨_,rfl,?_,H.base⟩)))⟩)))⟩))))
   rw [yh ⟨by assumption,by assumption,by assumption,fun ⟨u,v⟩=>by first | omega | exact ft v ‹_›,(show i=r.qW.length by omega)▸i1⟩]
  replace h20:=xM h20
  refine xW [34,35,36,37,38,39,40,41,42,43] (sp (Bv true) (zjn (xK true rfl (fun _=>zcr (sp (Bv false) (zjr (t_r (ret1 (Bv false) rfl rfl ⟨_,rfl,?_,H.base⟩))))) (fun h=>absurd h qj))))
  rw [xy (fun h=>by obtain ⟨h1,h2,h3,h4,h5⟩:=h;first | exact ft h1 ‹_› | exact ft h2 ‹_› | exact ft h3 ‹_› | exact h4 ⟨‹_›,‹_›⟩ | (obtain ⟨q1,q2⟩:=h5 i qf;first | exact ft q1 ‹_› | exact absurd q2 ‹_›))]
 replace h17:=xM h17
 refine xW [27,28,29,30,31] (sps [Bv true,Bv true] (xW [34,35,36,37,38,39,40,41,42,43] (sp (Bv true) (zjn (xK true rfl (fun _=>zcr (sp (Bv false) (zjr (t_r (ret1 (Bv false) rfl rfl ⟨_,rfl,?_,H.base⟩))))) (fun h=>absurd h qj))))))
 rw [xy (fun h=>by obtain ⟨h1,h2,h3,h4,h5⟩:=h;first | exact ft h1 ‹_› | exact ft h2 ‹_› | exact ft h3 ‹_› | exact h4 ⟨‹_›,‹_›⟩ | (obtain ⟨q1,q2⟩:=h5 i qf;first | exact ft q1 ‹_› | exact absurd q2 ‹_›))]

theorem cloneSS_ok (w:World) (l:yLL) {al:yOA} {Fl:yLN} (hl:qX.rep w Fl [Sv al l.length cl] l) (p0:l.length≤1000000):Calls Tryz.prog 104 #[Sv al l.length cl] w (Ret (fun v w' =>∃ (ra:yOA) (rn:Nat) (rc:Nat) (rx:List Value) (rF:yLN),v=Sv ra rn rc∧(∀ b∈rF,b∈Fl)∧St w w' [rr ra rn rc 24 1 rx] [xN false rF rx l]) w):=by
 refine en func104 ntmps104 ?_
 have H:=(St.start w).arg hl
 have nhl:=qV hl
 clear hl
 have N:=Fresh.nil w.heap.size
 refine zcr (sp yN (zjcc (sp (Sv al l.length cl) (sw (o_eqnil underlying29 al l.length cl rfl (zjn (xK (al.isNone) rfl (fun h1=>?_) (fun h1=>?_))))))))
 ·skip
  refine zcr (sp yN (zjr (t_r ?_)))
  replace H:=H.nilRow 24 1
  replace H:=H.vT (α:=yLI)
  refine ret1 yN rfl rfl ⟨_,rfl,?_,H.base⟩
  obtain rfl:=H.nilOf 1 rfl ‹_›
  replace H:=H.unfree 0 rfl
  exact ⟨none,0,0,[],[],rfl,(by intro b hb;first | (simp at hb;done) | exact id b (by simpa using hb)),H.pick [0] [0]⟩
 refine xk (t_n (zcr (sw (je H underlying29 ti24 fun b2 w3 H=>sp (Sv al l.length cl) ?_))))
 replace H:=H.boxRow 0 rfl 1 0 rfl qj
 replace H:=H.vT (α:=yLI)
 refine sw (o_appendFR H 0 rfl 1 rfl underlying29 ti24 rfl qj rfl rfl qp qf fun a4 c5 w6 us7 G8 H hG9=>?_)
 replace H:=H.repsCat false 1 rfl 0 rfl qm
 refine sp (Sv a4 (0+l.length) c5) (zjr (ret1 (Sv a4 (0+l.length) c5) rfl rfl ⟨_,rfl,(⟨a4,0+l.length,c5,[]++us7,([]++G8),rfl,(by intro b hb;first | (simp at hb;done) | exact hG9 b (by simpa using hb)),H.pick [0] [0]⟩),H.base⟩))

theorem timesIn_ok (w:World) (l:yLI) (m:yLI) {al:yOA} {Fl:yLN} {am:yOA} {cm:Nat} {Fm:yLN} (hl:qX.rep w Fl [Sv al l.length cl] l) (hm:qX.rep w Fm [Sv am m.length cm] m) (p0:l.length≤m.length) (p2:∀ q,q < l.length→0≤m[q]! ∧m[q]! ≤1000):Calls Tryz.prog 109 #[Sv al l.length cl,Sv am m.length cm] w (Ret (fun v w' =>v=yI (jF l m)) w):=by
 refine en func109 ntmps109 ?_
 have H:=((St.start w).arg hm).arg hl
 have nhl:=qV hl
 have nhm:=qV hm
 clear hl hm
 have N:=Fresh.nil w.heap.size
 refine zcr (sp (yI 0) (zjc (sp (yI 1000) (zjcc (sp (Sv al l.length cl) (oN rfl (sp (yI 0) (zjn (xg ?_)))))))))
 refine zJ (fun m' ρ w1=>∃ (xY:Env) (most:Int) (k:Nat),ρ=upd (upd (upd (upd (upd xY 1 (Sv am m.length cm)) 5 (yI most)) 8 (Sv al l.length cl)) 9 (yI l.length)) 10 (yI k)∧most=Ql l m k∧((k:Int)≤l.length)∧m' =(l.length - (k:Int)).toNat∧Fresh w.heap.size []∧St w w1 [] [sF false Fl al cl l,sF false Fm am cm m]) ((l.length - (0:Int)).toNat) ⟨_,1000,0,uE5,(by rfl),qf,rfl,N,H⟩ ?_
 clear H N
 rintro m' ρ w2 ⟨xY,most,k,rfl,rfl,i0,rfl,N,H⟩
 refine zcr (sp (Bv (decide ((k:Int) < l.length))) (zjn (zf (cD rfl (fun h3=>?_) (fun h3=>?_)))))
 ·skip
  refine xk (t_n (zf (xg (zcr (sp (yI k) ?_)))))
  obtain ⟨b4,o5,rfl⟩:=H.addr 0 rfl qf
  refine oI rfl rfl (oL rfl (H.yF 0 rfl k qf qf) (sps [yI k,yI (l[k]!)] (zjc (sps [yI (l[k]!),Bv (decide ((l[k]! :Int) > 0))] (zjn (cD rfl (fun h7=>?_) (fun h7=>?_)))))))
  ·skip
   refine zg (sps [yI (Ql l m k),Sv am m.length cm,yI k] ?_)
   obtain ⟨b8,o9,rfl⟩:=H.addr 1 rfl qf
   refine oI rfl rfl (oL rfl (H.yF 1 rfl k qf qf) (sp (yI (l[k]!)) (sw (o_quo (m[k]!) (l[k]!) rfl rfl (by (have:=p2 k qf;omega)) (by (have:=p2 k qf;omega)) (sw (o_min (Ql l m k) ((m[k]!) / (l[k]!)) rfl rfl (sp (yI (min (Ql l m k) ((m[k]!) / (l[k]!)))) (zi (b_n (t_n (zg (sw (zL k 1 rfl rfl (by (have:=p2 k qf;omega)) (sp (yI (k+1)) (zi (xq (m' :=(l.length - ((k+1):Int)).toNat) qf ⟨_,min (Ql l m k) ((m[k]!) / (l[k]!)),k+1,uE5,?_,?_,rfl,N,H⟩))))))))))))))))
   · first | exact (timesTo_pos qf).symm | exact (timesTo_skip qf).symm
   · omega
  refine xk (b_n (t_n (zg (sw (zL k 1 rfl rfl (by (have:=p2 k qf;omega)) (sp (yI (k+1)) (zi (xq (m' :=(l.length - ((k+1):Int)).toNat) qf ⟨_,(Ql l m k),k+1,uE5,?_,?_,rfl,N,H⟩))))))))
  · first | exact (timesTo_pos qf).symm | exact (timesTo_skip qf).symm
  · omega
 refine zx4 (zcr (sps [yI (Ql l m k),yI (Ql l m k)] (zjr (ret1 (yI (Ql l m k)) rfl rfl ⟨_,rfl,?_,H.base⟩))))
 obtain rfl:k=l.length:=by omega
 rfl

theorem Xp (w:World) (s:qI) (t:qP) {qE:yOA} {xe:yLN} {qO:yOA} {xE:yLN} {qU:yOA} {xO:yLN} {xf:yOA} {zo:yLN} {qM:yOA} {xB:yLN} (qZ:qX.rep w xe [Sv qE s.qA.length qC] s.qA) (xC:qX.rep w xE [Sv qO s.qB.length qK] s.qB) (xQ:qX.rep w xO [Sv qU t.qG.length qQ] t.qG) (zA:qX.rep w zo [Sv xf t.qH.length qY] t.qH) (xH:qX.rep w xB [Sv qM t.qF.length qL] t.qF) (p0:zQ s) (p1:xI s t):Calls Tryz.prog 50 #[.agg #[yI s.xh,Sv qE s.qA.length qC,Sv qO s.qB.length qK],.agg #[Sv qU t.qG.length qQ,Sv xf t.qH.length qY,Sv qM t.qF.length qL]] w (Ret (fun v w' =>∃ (ra:yOA) (rn:Nat) (rc:Nat),v=Sv ra rn rc∧Fresh w.heap.size []∧St w w' [rr ra rn rc 2 1 ((appls s t).map (Value.int .i64))] []) w):=by
 refine en func50 ntmps50 ?_
 have H:=(((((St.start w).arg xH).arg zA).arg xQ).arg xC).arg qZ
 have zX:=qV qZ
 have jo:=qV xC
 have yC:=qV xQ
 have Qm:=qV zA
 have jH:=qV xH
 clear qZ xC xQ zA xH
 have N:=Fresh.nil w.heap.size
 have p2:=p0.2.1
 have p3:=p0.1.2.1
 refine zcr (sw (zW H (yS s qE qC qO qK) fun b1 w2 H=>sw (zW H (yT t qU qQ xf qY qM qL) fun b3 w4 H=>sp yN (zjc (sw (vX [yI 0,yI 0,yI 0,yI 0,yI 0,yI 0] [] (sw (xZ H ti131 [yI 0,yI 0,yI 0,yI 0,yI 0,yI 0] fun b5 w6 H=>?_))))))))
 refine sw (zu H 0 [yI 0,yI 0,yI 0,yI 0,yI 0,yI 0] sizeOf131 fun w7 H=>zjcc (sp (yI 0) (zjn (xg ?_))))
 refine zJ (fun m' ρ w8=>∃ (xY:Env) (c:Nat) (top:yLI),ρ=upd (upd (upd (upd xY 2 (pp b1 0)) 3 (pp b3 0)) 5 (pp b5 0)) 13 (yI c)∧top=minus c∧((c:Int)≤6)∧m' =(6 - (c:Int)).toNat∧Fresh w.heap.size []∧St w w8 [.box b5 (top.map (Value.int .i64)) 131,.box b3 (yT t qU qQ xf qY qM qL) 31,.box b1 (yS s qE qC qO qK) 27] [sF false xe qE qC s.qA,sF false xE qO qK s.qB,sF false xO qU qQ t.qG,sF false zo xf qY t.qH,sF false xB qM qL t.qF]) ((6 - (0:Int)).toNat) ⟨_,0,[0,0,0,0,0,0],uE4,(by rfl),qf,rfl,N,H⟩ ?_
 clear H N
 rintro m' ρ w9 ⟨xY,c,top,rfl,rfl,i0,rfl,N,H⟩
 refine zcr (sp (Bv (decide ((c:Int) < 6))) (zjn (zf (cD rfl (fun h10=>?_) (fun h10=>?_)))))
 ·skip
  refine xk (t_n (zf (xg (zcr (sps [yI c,yI c] (zjn (zg (sp (yI c) (sw (o_idxArr c underlying131 ti2 rfl rfl qf qf (sw (o_storeArr H 0 rfl (-1) sizeOf2 rfl rfl (i:=c) qf (by simp only [List.length_set,List.length_cons,List.length_nil,minus_len,XY];omega) fun w11 H=>zi (b_n (t_n (zg (sw (zL c 1 rfl rfl qf (sp (yI (c+1)) (zi (xq (m' :=(6 - ((c+1):Int)).toNat) qf ⟨_,c+1,((minus c).set c (-1)),uE4,?_,?_,rfl,N,H⟩))))))))))))))))))))
  · exact minus_set qf
  · omega
 refine zx4 (zcc (oF rfl (oL rfl (H.cell 2 rfl rfl) (oN rfl (sp (yI 0) (zjn (xg ?_)))))))
 refine zJ (fun m' ρ w12=>∃ (xY:Env) (k:Nat) (top_1:yLI),ρ=upd (upd (upd (upd (upd (upd xY 2 (pp b1 0)) 3 (pp b3 0)) 5 (pp b5 0)) 20 (Sv qO s.qB.length qK)) 21 (yI s.qB.length)) 22 (yI k)∧top_1=bests s t (-1) 6 k∧((k:Int)≤s.qB.length)∧m' =(s.qB.length - (k:Int)).toNat∧Fresh w.heap.size []∧St w w12 [.box b5 (top_1.map (Value.int .i64)) 131,.box b3 (yT t qU qQ xf qY qM qL) 31,.box b1 (yS s qE qC qO qK) 27] [sF false xe qE qC s.qA,sF false xE qO qK s.qB,sF false xO qU qQ t.qG,sF false zo xf qY t.qH,sF false xB qM qL t.qF]) ((s.qB.length - (0:Int)).toNat) ⟨_,0,(minus c),uE6,(by exact minus_six qf s t),qf,rfl,N,H⟩ ?_
 clear H N
 rintro m' ρ w13 ⟨xY,k,top_1,rfl,rfl,i0,rfl,N,H⟩
 refine zcr (sp (Bv (decide ((k:Int) < s.qB.length))) (zjn (zf (cD rfl (fun h14=>?_) (fun h14=>?_)))))
 ·skip
  have q:=p0.rule (i:=k) qf
  have qc:=q.1
  have qk:=q.cell
  have qr:=q.2.1
  have q6:(s.qB[k]!).qN.toNat < 6:=by omega
  refine xk (t_n (zf (xg (zcr ?_))))
  obtain ⟨b15,o16,rfl⟩:=H.addr 1 rfl qf
  obtain ⟨ae18Need,ce18Need,Fe18Need,ae18Have,ce18Have,Fe18Have,ae18Lack,ce18Lack,Fe18Lack,ae18Here,ce18Here,Fe18Here,ae18Out,ce18Out,Fe18Out,ae18Into,ce18Into,Fe18Into,H⟩:=H.yH 1 rfl k k qf qf qf
  refine oI rfl rfl (sw (xU [yI ((s.qB[k]!).qN),yI ((s.qB[k]!).vP),Sv ae18Need (((s.qB[k]!).xR).length) ce18Need,Sv ae18Have (((s.qB[k]!).zM).length) ce18Have,Sv ae18Lack (((s.qB[k]!).zK).length) ce18Lack,Sv ae18Here (((s.qB[k]!).zH).length) ce18Here,Sv ae18Out (((s.qB[k]!).jC).length) ce18Out,Sv ae18Into (((s.qB[k]!).qW).length) ce18Into,Bv ((s.qB[k]!).vF)] isAgg56 sizeOf56 rfl (qJ (H.get 6 rfl) 0 9) ?_))
  refine sw (xZ H ti56 [yI 0,yI 0,yN,yN,yN,yN,yN,yN,Bv false] fun b19 w20 H=>sw (zu H 0 [yI ((s.qB[k]!).qN),yI ((s.qB[k]!).vP),Sv ae18Need (((s.qB[k]!).xR).length) ce18Need,Sv ae18Have (((s.qB[k]!).zM).length) ce18Have,Sv ae18Lack (((s.qB[k]!).zK).length) ce18Lack,Sv ae18Here (((s.qB[k]!).zH).length) ce18Here,Sv ae18Out (((s.qB[k]!).jC).length) ce18Out,Sv ae18Into (((s.qB[k]!).qW).length) ce18Into,Bv ((s.qB[k]!).vF)] sizeOf56 fun w21 H=>?_))
  refine zjc (sw (xU [yI s.xh,Sv qE s.qA.length qC,Sv (aa b15 o16) s.qB.length qK] isAgg27 sizeOf27 rfl (qJ (H.cells 3 rfl) 0 3) (sw (xU (yT t qU qQ xf qY qM qL) isAgg31 sizeOf31 rfl (qJ (H.cells 2 rfl) 0 3) ?_))))
  refine sw (xU [yI ((s.qB[k]!).qN),yI ((s.qB[k]!).vP),Sv ae18Need (((s.qB[k]!).xR).length) ce18Need,Sv ae18Have (((s.qB[k]!).zM).length) ce18Have,Sv ae18Lack (((s.qB[k]!).zK).length) ce18Lack,Sv ae18Here (((s.qB[k]!).zH).length) ce18Here,Sv ae18Out (((s.qB[k]!).jC).length) ce18Out,Sv ae18Into (((s.qB[k]!).qW).length) ce18Into,Bv ((s.qB[k]!).vF)] isAgg56 sizeOf56 rfl (qJ (H.cells 0 rfl) 0 9) ?_)
  refine sw (oq (isEnabled_ok _ s t (s.qB[k]!) (H.get 7 rfl).1 (H.get 8 rfl).1 (H.get 9 rfl).1 (H.get 10 rfl).1 (H.get 11 rfl).1 (H.get 0 rfl).1 (H.get 1 rfl).1 (H.get 2 rfl).1 (H.get 3 rfl).1 (H.get 4 rfl).1 (H.get 5 rfl).1 qg qg qg) H fun w23 H=>zjn (cP rfl (fun h25=>?_) (fun h25=>?_)))
  ·skip
   refine yR rfl H [0,2,3] fun H=>?_
   have S:=H.yj [0,2,3] [0,1,2,3,4,5,6,7,8,9,10,11]
   refine tF 0 rfl rfl S ?_
   refine tL 1 rfl rfl (fun _ h=>h.cell 0 rfl rfl) S ?_
   refine tF 2 rfl rfl S ?_
   refine tL 3 rfl rfl (fun _ h=>h.cell 0 rfl rfl) S ?_
   refine rt 4 (pp b5 (0+((s.qB[k]!).qN:Int).toNat * 1)) (y_idxArr b5 (0) 6 ((s.qB[k]!).qN) underlying131 ti2 rfl rfl qf qf) S ?_
   refine tF 6 rfl rfl S ?_
   refine tL 7 rfl rfl (fun _ h=>h.cell 0 rfl rfl) S ?_
   refine ro 5 rfl (zF (yI ((bests s t (-1) 6 k)[((s.qB[k]!).qN).toNat]!)) isAgg2 rfl (H.cell 1 rfl (ints_at (iv:=(s.qB[k]!).qN) (i:=(((s.qB[k]!).qN).toNat)) qf (by simp only [List.length_set,List.length_cons,List.length_nil,minus_len,XY];omega))) (⟨H.pick [0,2,3] [0,1,2,3,4,5,6,7,8,9,10,11],?_⟩))
   have S:=H.yj [0,2,3] [0,1,2,3,4,5,6,7,8,9,10,11]
   refine rt 8 (yI (max ((bests s t (-1) 6 k)[((s.qB[k]!).qN).toNat]!) ((s.qB[k]!).vP))) (y_max ((bests s t (-1) 6 k)[((s.qB[k]!).qN).toNat]!) ((s.qB[k]!).vP) rfl rfl) S ?_
   refine rt 9 (pp b5 (0+((s.qB[k]!).qN:Int).toNat * 1)) (y_idxArr b5 (0) 6 ((s.qB[k]!).qN) underlying131 ti2 rfl rfl qf qf) S ?_
   refine ro 10 rfl (o_storeArr H 1 rfl (max ((bests s t (-1) 6 k)[((s.qB[k]!).qN).toNat]!) ((s.qB[k]!).vP)) sizeOf2 rfl rfl (i:=(((s.qB[k]!).qN).toNat)) qf (by simp only [List.length_set,List.length_cons,List.length_nil,minus_len,XY];omega) fun w27 H=>⟨H.pick [0,2,3] [0,1,2,3,4,5,6,7,8,9,10,11],(xJ qh (b_n (t_n (zg (sw (zL k 1 rfl rfl qf (sp (yI (k+1)) (zi ?_))))))))⟩)
   refine xq (m' :=(s.qB.length - ((k+1):Int)).toNat) qf ⟨_,k+1,((bests s t (-1) 6 k).set (((s.qB[k]!).qN).toNat) (max ((bests s t (-1) 6 k)[((s.qB[k]!).qN).toNat]!) ((s.qB[k]!).vP))),uE6,?_,?_,rfl,N,H.pick [1,2,3] [7,8,9,10,11]⟩
   · first | exact bests_set ‹_› qf | exact bests_skip ‹_›
   · omega
  refine xk (b_n (t_n (zg (sw (zL k 1 rfl rfl qf (sp (yI (k+1)) (zi (xq (m' :=(s.qB.length - ((k+1):Int)).toNat) qf ⟨_,k+1,(bests s t (-1) 6 k),uE6,?_,?_,rfl,N,H.pick [1,2,3] [7,8,9,10,11]⟩))))))))
  · first | exact bests_set ‹_› qf | exact bests_skip ‹_›
  · omega
 refine zx4 (zcr (sw (je H underlying24 ti2 fun b28 w29 H=>sp (Sv (aa b28 0) 0 0) (zjcc (oF rfl (oL rfl (H.cell 3 rfl rfl) (oN rfl (sp (yI 0) (zjn (xg ?_))))))))))
 replace H:=H.boxRowI 0 [] 0
 refine zJ (fun m' ρ w30=>∃ (xY:Env) (vY:yOA) (zG:Nat) (vG:Nat) (out:yLI) (i:Nat),ρ=upd (upd (upd (upd (upd (upd (upd xY 2 (pp b1 0)) 3 (pp b3 0)) 5 (pp b5 0)) 9 (Sv vY zG vG)) 43 (Sv qO s.qB.length qK)) 44 (yI s.qB.length)) 45 (yI i)∧out=applL s t i∧((i:Int)≤s.qB.length)∧m' =(s.qB.length - (i:Int)).toNat∧Fresh w.heap.size []∧St w w30 [rr vY zG vG 2 1 (out.map (Value.int .i64)),.box b5 ((bests s t (-1) 6 k).map (Value.int .i64)) 131,.box b3 (yT t qU qQ xf qY qM qL) 31,.box b1 (yS s qE qC qO qK) 27] [sF false xe qE qC s.qA,sF false xE qO qK s.qB,sF false xO qU qQ t.qG,sF false zo xf qY t.qH,sF false xB qM qL t.qF]) ((s.qB.length - (0:Int)).toNat) ⟨_,(aa b28 0),0,0,([]:yLI),0,uE7,(by rfl),qf,rfl,N,H⟩ ?_
 clear H N
 rintro m' ρ w31 ⟨xY,vY,zG,vG,out,i,rfl,rfl,i0,rfl,N,H⟩
 have hn_out:=H.yx 0 rfl
 have ll:=applL_le s t i
 refine zcr (sp (Bv (decide ((i:Int) < s.qB.length))) (zjn (zf (cD rfl (fun h32=>?_) (fun h32=>?_)))))
 ·skip
  have q:=p0.rule (i:=i) qf
  have qc:=q.1
  have qk:=q.cell
  have qr:=q.2.1
  have q6:(s.qB[i]!).qN.toNat < 6:=by omega
  refine xk (t_n (zf (xg (zcr (sp (yI i) ?_)))))
  obtain ⟨b33,o34,rfl⟩:=H.addr 1 rfl qf
  obtain ⟨ae36Need,ce36Need,Fe36Need,ae36Have,ce36Have,Fe36Have,ae36Lack,ce36Lack,Fe36Lack,ae36Here,ce36Here,Fe36Here,ae36Out,ce36Out,Fe36Out,ae36Into,ce36Into,Fe36Into,H⟩:=H.yH 1 rfl i i qf qf qf
  refine oI rfl rfl (sw (xU [yI ((s.qB[i]!).qN),yI ((s.qB[i]!).vP),Sv ae36Need (((s.qB[i]!).xR).length) ce36Need,Sv ae36Have (((s.qB[i]!).zM).length) ce36Have,Sv ae36Lack (((s.qB[i]!).zK).length) ce36Lack,Sv ae36Here (((s.qB[i]!).zH).length) ce36Here,Sv ae36Out (((s.qB[i]!).jC).length) ce36Out,Sv ae36Into (((s.qB[i]!).qW).length) ce36Into,Bv ((s.qB[i]!).vF)] isAgg56 sizeOf56 rfl (qJ (H.get 6 rfl) 0 9) ?_))
  refine sw (xZ H ti56 [yI 0,yI 0,yN,yN,yN,yN,yN,yN,Bv false] fun b37 w38 H=>sp (yI i) ?_)
  refine sw (zu H 0 [yI ((s.qB[i]!).qN),yI ((s.qB[i]!).vP),Sv ae36Need (((s.qB[i]!).xR).length) ce36Need,Sv ae36Have (((s.qB[i]!).zM).length) ce36Have,Sv ae36Lack (((s.qB[i]!).zK).length) ce36Lack,Sv ae36Here (((s.qB[i]!).zH).length) ce36Here,Sv ae36Out (((s.qB[i]!).jC).length) ce36Out,Sv ae36Into (((s.qB[i]!).qW).length) ce36Into,Bv ((s.qB[i]!).vF)] sizeOf56 fun w39 H=>zjn (zf ?_))
  refine yl rfl H fun H=>tF 0 rfl rfl H ?_
  refine tL 1 rfl rfl (fun _ h=>h.cell 0 rfl rfl) H ?_
  refine tF 2 rfl rfl H ?_
  refine tL 3 rfl rfl (fun _ h=>h.cell 0 rfl rfl) H ?_
  refine rt 4 (pp b5 (0+((s.qB[i]!).qN:Int).toNat * 1)) (y_idxArr b5 (0) 6 ((s.qB[i]!).qN) underlying131 ti2 rfl rfl qf qf) H ?_
  refine tL 5 rfl rfl (fun _ h=>h.cell 2 rfl (ints_at (iv:=(s.qB[i]!).qN) (i:=(((s.qB[i]!).qN).toNat)) qf (by simp only [List.length_set,List.length_cons,List.length_nil,minus_len,XY];omega))) H ?_
  refine rtp 6 (Bv (((s.qB[i]!).vP:Int) == ((bests s t (-1) 6 k)[((s.qB[i]!).qN).toNat]!))) H ?_
  refine rtp 7 (Bv (((s.qB[i]!).vP:Int) == ((bests s t (-1) 6 k)[((s.qB[i]!).qN).toNat]!))) H ?_
  cases h41:(((s.qB[i]!).vP:Int) == ((bests s t (-1) 6 k)[((s.qB[i]!).qN).toNat]!))
  ·skip
   replace h41:=ne_of_beq_false h41
   refine zV [8,9,10,11] 4 (H) (rtp 12 (Bv false) H ?_)
   refine xJ qh (t_n (xK false rfl (fun h=>absurd h qj) (fun _=>xk (b_n (t_n (zg (sw (zL i 1 rfl rfl qf (sp (yI (i+1)) (zi (xq (m' :=(s.qB.length - ((i+1):Int)).toNat) qf ⟨_,vY,zG,vG,(applL s t i),i+1,uE7,?_,?_,rfl,N,H.pick [1,2,3,4] [7,8,9,10,11]⟩)))))))))))
   · first | exact applL_yes (appl_yes (n:=6) (z:= -1) (k:=k) qf qf qf q6 ‹_› ‹_›) | exact applL_no (appl_no (n:=6) (z:= -1) (k:=k) qf qf qf q6 ‹_›) | exact applL_no (fun h=>‹¬ EnOk _ _ _› h.1)
   · omega
  replace h41:=eq_of_beq h41
  refine rg 8 (.agg #[yI s.xh,Sv qE s.qA.length qC,Sv (aa b33 o34) s.qB.length qK]) 57 (Qv (cs:=[yI s.xh,Sv qE s.qA.length qC,Sv (aa b33 o34) s.qB.length qK]) isAgg27 sizeOf27 rfl (fun _ h=>qJ (h.cells 4 rfl) 0 3)) H ?_
  refine rg 9 (.agg #[Sv qU t.qG.length qQ,Sv xf t.qH.length qY,Sv qM t.qF.length qL]) 57 (Qv (cs:=(yT t qU qQ xf qY qM qL)) isAgg31 sizeOf31 rfl (fun _ h=>qJ (h.cells 3 rfl) 0 3)) H ?_
  refine rg 10 (.agg #[yI ((s.qB[i]!).qN),yI ((s.qB[i]!).vP),Sv ae36Need (((s.qB[i]!).xR).length) ce36Need,Sv ae36Have (((s.qB[i]!).zM).length) ce36Have,Sv ae36Lack (((s.qB[i]!).zK).length) ce36Lack,Sv ae36Here (((s.qB[i]!).zH).length) ce36Here,Sv ae36Out (((s.qB[i]!).jC).length) ce36Out,Sv ae36Into (((s.qB[i]!).qW).length) ce36Into,Bv ((s.qB[i]!).vF)]) 57 (Qv (cs:=[yI ((s.qB[i]!).qN),yI ((s.qB[i]!).vP),Sv ae36Need (((s.qB[i]!).xR).length) ce36Need,Sv ae36Have (((s.qB[i]!).zM).length) ce36Have,Sv ae36Lack (((s.qB[i]!).zK).length) ce36Lack,Sv ae36Here (((s.qB[i]!).zH).length) ce36Here,Sv ae36Out (((s.qB[i]!).jC).length) ce36Out,Sv ae36Into (((s.qB[i]!).qW).length) ce36Into,Bv ((s.qB[i]!).vF)]) isAgg56 sizeOf56 rfl (fun _ h=>qJ (h.cells 0 rfl) 0 9)) H ?_
  refine jb [11] qh qm (Vh rfl (e:=57) rfl rfl (oq (isEnabled_ok _ s t (s.qB[i]!) (H.get 7 rfl).1 (H.get 8 rfl).1 (H.get 9 rfl).1 (H.get 10 rfl).1 (H.get 11 rfl).1 (H.get 0 rfl).1 (H.get 1 rfl).1 (H.get 2 rfl).1 (H.get 3 rfl).1 (H.get 4 rfl).1 (H.get 5 rfl).1 qg qg qg) H fun w43 H=>⟨H,(rtp 12 (Bv (dec (EnOk s t (s.qB[i]!)))) H ?_)⟩) jd)
  refine xJ qh (t_n (cP rfl (fun h45=>?_) (fun h45=>?_)))
  ·skip
   refine zg (sps [Sv vY zG vG,yI i] (sw (zy H underlying24 ti2 [yI i] fun b46 w47 H=>sw (zC H 2 rfl 0 rfl underlying24 ti2 rfl qj rfl rfl rfl qw qp qf fun a48 c49 w50 H=>?_))))
   rw [snocI] at H
   refine sp (Sv a48 (zG+1) c49) (zi (b_n (t_n (zg (sw (zL i 1 rfl rfl qf (sp (yI (i+1)) (zi (xq (m' :=(s.qB.length - ((i+1):Int)).toNat) qf ⟨_,a48,zG+1,c49,((applL s t i)++[(i:Int)]),i+1,uE7,?_,?_,rfl,N,H.pick [2,3,4,5] [7,8,9,10,11]⟩)))))))))
   · first | exact applL_yes (appl_yes (n:=6) (z:= -1) (k:=k) qf qf qf q6 ‹_› ‹_›) | exact applL_no (appl_no (n:=6) (z:= -1) (k:=k) qf qf qf q6 ‹_›) | exact applL_no (fun h=>‹¬ EnOk _ _ _› h.1)
   · omega
  refine xk (b_n (t_n (zg (sw (zL i 1 rfl rfl qf (sp (yI (i+1)) (zi (xq (m' :=(s.qB.length - ((i+1):Int)).toNat) qf ⟨_,vY,zG,vG,(applL s t i),i+1,uE7,?_,?_,rfl,N,H.pick [1,2,3,4] [7,8,9,10,11]⟩))))))))
  · first | exact applL_yes (appl_yes (n:=6) (z:= -1) (k:=k) qf qf qf q6 ‹_› ‹_›) | exact applL_no (appl_no (n:=6) (z:= -1) (k:=k) qf qf qf q6 ‹_›) | exact applL_no (fun h=>‹¬ EnOk _ _ _› h.1)
  · omega
 refine zx4 (zcr (sps [Sv vY zG vG,Sv vY zG vG] (zjr (ret1 (Sv vY zG vG) rfl rfl ⟨_,rfl,?_,H.base⟩))))
 obtain rfl:i=s.qB.length:=by omega
 exact ⟨vY,zG,vG,rfl,N,H.pick [0] []⟩
theorem VO (w:World) (s:qI) {qE:yOA} {xe:yLN} {qO:yOA} {xE:yLN} (qZ:qX.rep w xe [Sv qE s.qA.length qC] s.qA) (xC:qX.rep w xE [Sv qO s.qB.length qK] s.qB):Calls Tryz.prog 106 #[.agg #[yI s.xh,Sv qE s.qA.length qC,Sv qO s.qB.length qK]] w (Ret (fun v w' =>v=yI s.qA.length) w):=by
 refine en func106 ntmps106 ?_
 have H:=((St.start w).arg xC).arg qZ
 have zX:=qV qZ
 have jo:=qV xC
 clear qZ xC
 have N:=Fresh.nil w.heap.size
 refine zcr (sw (zW H (yS s qE qC qO qK) fun b1 w2 H=>sp (yI 0) (zjc (oF rfl (oL rfl (H.cell 0 rfl rfl) (oN rfl (sp (yI s.qA.length) (zjr (ret1 (yI s.qA.length) rfl rfl ⟨_,rfl,?_,H.base⟩)))))))))
 rfl

theorem step_ok (w:World) (s:qI) (t:qP) (counts:yLI) {qE:yOA} {xe:yLN} {qO:yOA} {xE:yLN} {qU:yOA} {xO:yLN} {xf:yOA} {zo:yLN} {qM:yOA} {xB:yLN} {acounts:yOA} {Fcounts:yLN} (qZ:qX.rep w xe [Sv qE s.qA.length qC] s.qA) (xC:qX.rep w xE [Sv qO s.qB.length qK] s.qB) (xQ:qX.rep w xO [Sv qU t.qG.length qQ] t.qG) (zA:qX.rep w zo [Sv xf t.qH.length qY] t.qH) (xH:qX.rep w xB [Sv qM t.qF.length qL] t.qF) (hcounts:qX.rep w Fcounts [Sv acounts counts.length ccounts] counts) (p0:zQ s) (p1:xI s t) (p2:XZ s counts) (p3:IsCh s t counts):Calls Tryz.prog 51 #[.agg #[yI s.xh,Sv qE s.qA.length qC,Sv qO s.qB.length qK],.agg #[Sv qU t.qG.length qQ,Sv xf t.qH.length qY,Sv qM t.qF.length qL],Sv acounts counts.length ccounts] w (Ret (fun v w' =>∃ (ra0Alive:yOA) (rn0Alive:Nat) (rc0Alive:Nat) (ra0Bags:yOA) (rn0Bags:Nat) (rc0Bags:Nat) (rx0Bags:List Value) (rF0Bags:yLN) (ra0Around:yOA) (rn0Around:Nat) (rc0Around:Nat),v=.tuple #[.agg #[Sv ra0Alive rn0Alive rc0Alive,Sv ra0Bags rn0Bags rc0Bags,Sv ra0Around rn0Around rc0Around],yI ((zl s t counts).2)]∧Fresh w.heap.size [rF0Bags]∧St w w' [rr ra0Alive rn0Alive rc0Alive 4 1 ((((zl s t counts).1).qG).map (Value.bool)),rr ra0Bags rn0Bags rc0Bags 24 1 rx0Bags,rr ra0Around rn0Around rc0Around 2 1 ((((zl s t counts).1).qF).map (Value.int .i64))] [xN true rF0Bags rx0Bags (((zl s t counts).1).qH)]) w):=by
 refine en func51 ntmps51 ?_
 have H:=((((((St.start w).arg hcounts).arg xH).arg zA).arg xQ).arg xC).arg qZ
 have zX:=qV qZ
 have jo:=qV xC
 have yC:=qV xQ
 have Qm:=qV zA
 have jH:=qV xH
 have nhcounts:=qV hcounts
 clear qZ xC xQ zA xH hcounts
 have N:=Fresh.nil w.heap.size
 have p5:=p0.2.1
 have p6:=p2.1
 have p7:=p1.2.1
 have p8:=kinds_le p0
 have p9:=p0.1.2.1
 have p11:xP s=s.qA.length:=rfl
 have p12:=p1.1
 have p15:=p0.1
 have p16:=p0.1.1
 have p17:=p1.around.1
 refine zcr (sw (zW H (yS s qE qC qO qK) fun b1 w2 H=>sw (zW H (yT t qU qQ xf qY qM qL) fun b3 w4 H=>sw (xZ H ti31 [yN,yN,yN] fun b5 w6 H=>sp (yI 0) (zjn (zf ?_))))))
 refine c_cut (fun ρ w11=>∃ (xY:Env) (a7:yOA) (c8:Nat) (rx9:List Value) (rF10:yLN),ρ=upd (upd (upd (upd (upd xY 2 (Sv acounts counts.length ccounts)) 3 (pp b1 0)) 4 (pp b3 0)) 6 (pp b5 0)) 8 (Sv a7 (t.qH.length+1) c8)∧Fresh w.heap.size []∧St w w11 [rr a7 (t.qH.length+1) c8 24 1 (rx9++[Sv qM t.qF.length qL]),.box b5 [yN,yN,yN] 31,.box b3 (yT t qU qQ xf qY qM qL) 31,.box b1 (yS s qE qC qO qK) 27] [xN false (rF10++xB) (rx9++[Sv qM t.qF.length qL]) (t.qH++[t.qF]),sF false xe qE qC s.qA,sF false xE qO qK s.qB,sF false xO qU qQ t.qG,sF false zo xf qY t.qH,sF false xB qM qL t.qF,sF false Fcounts acounts ccounts counts]) ?_ ?_
 ·skip
  refine yl rfl H fun H=>tF 0 rfl rfl H ?_
  refine tL 1 rfl rfl (fun _ h=>h.cell 1 rfl rfl) H ?_
  refine tF 3 rfl rfl H ?_
  refine tL 4 rfl rfl (fun _ h=>h.cell 1 rfl rfl) H ?_
  refine jb [2,5] qh qm (jQ rfl ?_ (jQ rfl ?_ jd))
  ·skip
   have sz16:=H.base.size
   refine oc (cloneSS_ok _ t.qH (H.get 3 rfl).1 qg) ?_
   rintro _ w14 ⟨ra13,rn13,rc13,rx13,rF13,rfl,hG18,K⟩ _
   replace H:=H.mergeIn K 3 rfl hG18
   obtain rfl:=H.x8 (α:=yLI) 0 rfl 0 rfl qj
   refine ⟨H.pick [1,2,3] [1,2,3,4,5,6],(ro 5 rfl (zy H underlying29 ti24 [Sv qM t.qF.length qL] fun b19 w20 H=>⟨H.pick [2,3,4] [1,2,3,4,5,6],(ro 6 rfl (zC H 1 rfl 0 rfl underlying29 ti24 rfl qj rfl rfl rfl qw qp qf fun a21 c22 w23 H=>?_))⟩))⟩
   replace H:=H.yt 0 rfl 5 rfl
   refine ⟨H.pick [2,3,4] [2,3,4,5,6,7],(rtp 7 (Sv a21 (t.qH.length+1) c22) (H.pick [2,3,4] [2,3,4,5,6,7]) ?_)⟩
   refine xJ qh ((meet ⟨_,a21,c22,rx13,rF13,uE5,N,H.pick [1,2,3,4] [0,2,3,4,5,6,7]⟩))
  refine zy H underlying29 ti24 [Sv qM t.qF.length qL] fun b24 w25 H=>⟨H.pick [1,2,3] [0,1,2,3,4,5],(ro 2 rfl ?_)⟩
  have sz29:=H.base.size
  refine oc (cloneSS_ok _ t.qH (H.get 3 rfl).1 qg) ?_
  rintro _ w27 ⟨ra26,rn26,rc26,rx26,rF26,rfl,hG31,K⟩ _
  replace H:=H.mergeIn K 3 rfl hG31
  obtain rfl:=H.x8 (α:=yLI) 0 rfl 0 rfl qj
  refine ⟨H.pick [2,3,4] [1,2,3,4,5,6],(ro 6 rfl (zC H 0 rfl 1 rfl underlying29 ti24 rfl qj rfl rfl rfl qw qp qf fun a32 c33 w34 H=>?_))⟩
  replace H:=H.yt 0 rfl 5 rfl
  refine ⟨H.pick [2,3,4] [2,3,4,5,6,7],(rtp 7 (Sv a32 (t.qH.length+1) c33) (H.pick [2,3,4] [2,3,4,5,6,7]) ?_)⟩
  refine xJ qh ((meet ⟨_,a32,c33,rx26,rF26,uE5,N,H.pick [0,2,3,4] [0,2,3,4,5,6,7]⟩))
 clear H N
 rintro ρ w35 ⟨xY,a7,c8,rx9,rF10,rfl,N,H⟩
 refine t_n (zcr (oF rfl (oL rfl (H.cell 3 rfl rfl) (oN rfl (sw (o_makeB H underlying28 ti4 s.qA.length rfl rfl qf qf qf fun b36 w37 H=>sp (Sv (aa b36 0) s.qA.length s.qA.length) (zjcc (sp (Sv acounts counts.length ccounts) (oN rfl (sp (yI 0) (zjn (xg ?_))))))))))))
 refine zJ (fun m' ρ w38=>∃ (xY:Env) (i:Nat) (melts:List Bool) (bags:yLL) (x_bags:List Value) (F_bags:yLN),ρ=upd (upd (upd (upd (upd (upd (upd (upd xY 3 (pp b1 0)) 4 (pp b3 0)) 6 (pp b5 0)) 8 (Sv a7 (t.qH.length+1) c8)) 9 (Sv (aa b36 0) s.qA.length s.qA.length)) 26 (Sv acounts counts.length ccounts)) 27 (yI counts.length)) 28 (yI i)∧melts=Qg s counts s.qA.length i∧((i:Int)≤counts.length)∧(Ent (s.qA.length+1) (zI s) (fun p q=>base0 s t p q+allS s t counts i p q) (20000000+6000000 * i) bags)∧(bags.length=s.qA.length+1)∧m' =(counts.length - (i:Int)).toNat∧Fresh w.heap.size []∧St w w38 [rr (aa b36 0) s.qA.length s.qA.length 4 1 (melts.map (Value.bool)),rr a7 (t.qH.length+1) c8 24 1 x_bags,.box b5 [yN,yN,yN] 31,.box b3 (yT t qU qQ xf qY qM qL) 31,.box b1 (yS s qE qC qO qK) 27] [xN false F_bags x_bags bags,sF false xe qE qC s.qA,sF false xE qO qK s.qB,sF false xO qU qQ t.qG,sF false zo xf qY t.qH,sF false xB qM qL t.qF,sF false Fcounts acounts ccounts counts]) ((counts.length - (0:Int)).toNat) ⟨_,0,(List.replicate s.qA.length (false)),(t.qH++[t.qF]),rx9++[Sv qM t.qF.length qL],(rF10++xB),uE8,(by exact meltsL_zero s counts _),qf,(by exact (start_ent p1).to (fun _ _=>rfl) qf),qy,rfl,N,H⟩ ?_
 clear H N
 rintro m' ρ w39 ⟨xY,i,melts,bags,x_bags,F_bags,rfl,rfl,i0,E_bags,z_bags,rfl,N,H⟩
 have hn_melts:=H.rowNB 0 rfl
 have hn_bags:=H.x8 (α:=yLI) 1 rfl 0 rfl qj
 refine zcr (sp (Bv (decide ((i:Int) < counts.length))) (zjn (zf (cD rfl (fun h40=>?_) (fun h40=>?_)))))
 ·skip
  have q:=p0.rule (i:=i) qf
  have qc:=q.1
  have qk:=q.cell
  have qr:=q.2.1
  have bn1:=q.2.2.2.2.1
  have bn2:=q.2.2.2.2.2.2.2.1
  have bn3:=q.2.2.2.2.2.2.2.2.1
  have ln1:=bn1.len
  have ln2:=bn2.len
  have ln3:=bn3.len
  have p10:=p2.bd (i:=i) qf
  have qn:=q.2.2.2.1
  have ml:=meltsL_len s counts s.qA.length i
  refine xk (t_n (zf (xg (zcr (sp (yI i) ?_)))))
  obtain ⟨b41,o42,rfl⟩:=H.addr 6 rfl qf
  refine oI rfl rfl (oL rfl (H.yF 6 rfl i qf qf) (sps [yI i,yI (counts[i]!)] (zjc (oF rfl (oL rfl (H.cell 4 rfl rfl) (sp (yI i) ?_))))))
  obtain ⟨b44,o45,rfl⟩:=H.addr 2 rfl qf
  obtain ⟨VD,Vy,Fe47Need,VF,VA,Fe47Have,VE,Vz,Fe47Lack,XT,XQ,Fe47Here,Vo,Vk,Fe47Out,XR,XP,Fe47Into,H⟩:=H.yH 2 rfl i i qf qf qf
  refine oI rfl rfl (sw (xU [yI ((s.qB[i]!).qN),yI ((s.qB[i]!).vP),Sv VD (((s.qB[i]!).xR).length) Vy,Sv VF (((s.qB[i]!).zM).length) VA,Sv VE (((s.qB[i]!).zK).length) Vz,Sv XT (((s.qB[i]!).zH).length) XQ,Sv Vo (((s.qB[i]!).jC).length) Vk,Sv XR (((s.qB[i]!).qW).length) XP,Bv ((s.qB[i]!).vF)] isAgg56 sizeOf56 rfl (qJ (H.get 6 rfl) 0 9) ?_))
  refine sw (xZ H ti56 [yI 0,yI 0,yN,yN,yN,yN,yN,yN,Bv false] fun b48 w49 H=>sw (zu H 0 [yI ((s.qB[i]!).qN),yI ((s.qB[i]!).vP),Sv VD (((s.qB[i]!).xR).length) Vy,Sv VF (((s.qB[i]!).zM).length) VA,Sv VE (((s.qB[i]!).zK).length) Vz,Sv XT (((s.qB[i]!).zH).length) XQ,Sv Vo (((s.qB[i]!).jC).length) Vk,Sv XR (((s.qB[i]!).qW).length) XP,Bv ((s.qB[i]!).vF)] sizeOf56 fun w50 H=>?_))
  refine zjn (zf ?_)
  refine yR rfl H [0,1,3,4,5] fun H=>?_
  have S:=H.yj [0,1,3,4,5] [0,1,2,3,4,5,6,7,8,9,10,11,12,13]
  refine rtp 0 (Sv a7 (t.qH.length+1) c8) S ?_
  refine tF 1 rfl rfl S ?_
  refine tL 2 rfl rfl (fun _ h=>h.cell 0 rfl rfl) S ?_
  refine rtp 3 (Sv a7 (t.qH.length+1) c8) S ?_
  refine tF 4 rfl rfl S ?_
  refine tL 5 rfl rfl (fun _ h=>h.cell 0 rfl rfl) S ?_
  obtain ⟨b52,rfl⟩:=H.Qe 2 rfl qf
  have S:=H.yj [0,1,3,4,5] [0,1,2,3,4,5,6,7,8,9,10,11,12,13]
  refine tI 6 rfl rfl rfl S ?_
  refine tF 8 rfl rfl S ?_
  refine tL 9 rfl rfl (fun _ h=>h.cell 0 rfl rfl) S ?_
  refine rtp 10 (yI (counts[i]!)) S ?_
  refine rt 11 (yI (-(counts[i]!))) (y_neg (counts[i]!) rfl qf) S ?_
  refine ro 7 rfl ?_
  obtain ⟨a53,c54,G55,s56,h57,H⟩:=H.jP 2 rfl 7 rfl (iv:=(s.qB[i]!).qN) (((s.qB[i]!).qN).toNat) qf qf
  refine zF (Sv a53 ((bags[((s.qB[i]!).qN).toNat]!).length) c54) isAgg24 rfl (h57) (⟨H.pick [0,1,3,4,5] [1,2,3,4,5,6,7,8,9,10,11,12,13,14],(ro 12 rfl ?_)⟩)
  obtain ⟨u1,u2⟩:=E_bags.sh.row (c:=((s.qB[i]!).qN).toNat) qf p8 qf
  have u4:=(by first | exact bn1.jA qf | exact bn2.jA qf | exact bn3.jA qf | exact bn4.jA qf:Vb ((s.qB[i]!).xR) (-(counts[i]!)))
  have sz58:=H.base.size
  refine oc (V4 _ (bags[((s.qB[i]!).qN).toNat]!) ((s.qB[i]!).xR) (-(counts[i]!)) (H.get 0 rfl).1 (H.get 1 rfl).1 qg qg qg) ?_
  rintro v63 w61 r63 x62
  replace H:=H.zB x62 r63
  obtain ⟨a64,c65,rfl,hc66,hm67⟩:=H.jG 0 rfl
  refine ⟨H.pick [1,2,4,5,6] [1,2,3,4,5,6,7,8,9,10,11,12,13,14],(tI 13 rfl rfl rfl (H.pick [1,2,4,5,6] [1,2,3,4,5,6,7,8,9,10,11,12,13,14]) ?_)⟩
  refine ro 14 rfl ?_
  obtain ⟨G69,N,hn70,H⟩:=H.zT 0 rfl N (H.jR [])
  refine jy false H 3 rfl 9 rfl (Sv a64 ((vZ (bags[((s.qB[i]!).qN).toNat]!) ((s.qB[i]!).xR) (-(counts[i]!))).length) c65) 0 rfl rfl sizeOf24 rfl rfl (i:=(((s.qB[i]!).qN).toNat)) qf qf qm fun w68 xs71 F72 hs73 H=>⟨H.pick [1,2,4,5,6] [3,4,5,6,7,8,9,10,11,12,13,14,15,16],(xJ qh (t_n (zcr (sw (xU [yI s.xh,Sv qE s.qA.length qC,Sv (aa b44 o45) s.qB.length qK] isAgg27 sizeOf27 rfl (qJ (H.cells 6 rfl) 0 3) ?_)))))⟩
  refine sw (xU (yT t qU qQ xf qY qM qL) isAgg31 sizeOf31 rfl (qJ (H.cells 5 rfl) 0 3) (sp (Sv (aa b52 0) (t.qH.length+1) c8) ?_))
  refine sw (xU [yI ((s.qB[i]!).qN),yI ((s.qB[i]!).vP),Sv VD (((s.qB[i]!).xR).length) Vy,Sv VF (((s.qB[i]!).zM).length) VA,Sv VE (((s.qB[i]!).zK).length) Vz,Sv XT (((s.qB[i]!).zH).length) XQ,Sv Vo (((s.qB[i]!).jC).length) Vk,Sv XR (((s.qB[i]!).qW).length) XP,Bv ((s.qB[i]!).vF)] isAgg56 sizeOf56 rfl (qJ (H.cells 1 rfl) 0 9) (sp (yI (counts[i]!)) ?_))
  obtain ⟨bg74,e_bg74⟩:∃ z,z=(bags.set (((s.qB[i]!).qN).toNat) (vZ (bags[((s.qB[i]!).qN).toNat]!) ((s.qB[i]!).xR) (-(counts[i]!)))):=⟨_,rfl⟩
  rw [← e_bg74] at H
  have E_bg74:=Ent.add (D:=1000000) E_bags e_bg74 qf (by first | exact bn1.mul qf | exact bn2.mul qf | exact bn3.mul qf | exact bn4.mul qf) qf
  have z_bg74:=E_bg74.sh.1
  have E_cur:=E_bg74
  refine sw (vk #[.agg #[yI s.xh,Sv qE s.qA.length qC,Sv (aa b44 o45) s.qB.length qK],.agg #[Sv qU t.qG.length qQ,Sv xf t.qH.length qY,Sv qM t.qF.length qL],Sv (aa b52 0) (t.qH.length+1) c8,.agg #[yI ((s.qB[i]!).qN),yI ((s.qB[i]!).vP),Sv VD (((s.qB[i]!).xR).length) Vy,Sv VF (((s.qB[i]!).zM).length) VA,Sv VE (((s.qB[i]!).zK).length) Vz,Sv XT (((s.qB[i]!).zH).length) XQ,Sv Vo (((s.qB[i]!).jC).length) Vk,Sv XR (((s.qB[i]!).qW).length) XP,Bv ((s.qB[i]!).vF)],yI (counts[i]!)] rfl rfl call105 ?_)
  refine en func105 ntmps105 ?_
  refine zcr (sw (zW H [yI s.xh,Sv qE s.qA.length qC,Sv (aa b44 o45) s.qB.length qK] fun b75 w76 H=>sw (zW H (yT t qU qQ xf qY qM qL) fun b77 w78 H=>sw (zW H [Sv (aa b52 0) (t.qH.length+1) c8] fun b79 w80 H=>?_))))
  refine sw (zW H [yI ((s.qB[i]!).qN),yI ((s.qB[i]!).vP),Sv VD (((s.qB[i]!).xR).length) Vy,Sv VF (((s.qB[i]!).zM).length) VA,Sv VE (((s.qB[i]!).zK).length) Vz,Sv XT (((s.qB[i]!).zH).length) XQ,Sv Vo (((s.qB[i]!).jC).length) Vk,Sv XR (((s.qB[i]!).qW).length) XP,Bv ((s.qB[i]!).vF)] fun b81 w82 H=>sw (zW H [yI (counts[i]!)] fun b83 w84 H=>zjc ?_))
  refine sps [.func (.func 173) #[] #[pp b79 0,pp b83 0],.func (.func 173) #[] #[pp b79 0,pp b83 0]] (zjc (sp (.func (.func 173) #[] #[pp b79 0,pp b83 0]) (oF rfl (oL rfl (H.cell 1 rfl rfl) (oF rfl (oL rfl (H.cell 1 rfl rfl) (sw (vk #[yI ((s.qB[i]!).qN),Sv XT (((s.qB[i]!).zH).length) XQ,pp b79 0,pp b83 0] rfl rfl call173 (en func173 ntmps173 ?_)))))))))
  refine yR rfl H [0,1,2,3,4,5,6,7,9,10,11] fun H=>?_
  have S:=H.yj [0,1,2,3,4,5,6,7,9,10,11] [0,1,2,3,4,5,6,7,8,9,10,11,12,13,14,15,16]
  refine tL 0 rfl rfl (fun _ h=>h.cell 2 rfl rfl) S ?_
  refine rtp 1 (yI ((s.qB[i]!).qN)) S ?_
  refine tL 2 rfl rfl (fun _ h=>h.cell 2 rfl rfl) S ?_
  refine rtp 3 (yI ((s.qB[i]!).qN)) S ?_
  refine tI 4 rfl rfl rfl S ?_
  refine rtp 6 (Sv XT (((s.qB[i]!).zH).length) XQ) S ?_
  refine tL 7 rfl rfl (fun _ h=>h.cell 0 rfl rfl) S ?_
  refine ro 5 rfl ?_
  obtain ⟨a86,c87,G88,s89,h90,H⟩:=H.jP 8 rfl 0 rfl (iv:=(s.qB[i]!).qN) (((s.qB[i]!).qN).toNat) qf qf
  refine zF (Sv a86 ((bg74[((s.qB[i]!).qN).toNat]!).length) c87) isAgg24 rfl (h90) (⟨H.pick [0,1,2,3,4,5,6,7,9,10,11] [1,2,3,4,5,6,7,8,9,10,11,12,13,14,15,16,17],(ro 8 rfl ?_)⟩)
  obtain ⟨u1,u2⟩:=E_bg74.sh.row (c:=((s.qB[i]!).qN).toNat) qf p8 qf
  have u4:=(by first | exact bn1.jA qf | exact bn2.jA qf | exact bn3.jA qf | exact bn4.jA qf:Vb ((s.qB[i]!).zH) (counts[i]!))
  have sz91:=H.base.size
  have lt92:=H.ltN (L:=[G69]) [2]
  refine oc (V4 _ (bg74[((s.qB[i]!).qN).toNat]!) ((s.qB[i]!).zH) (counts[i]!) (H.get 0 rfl).1 (H.get 7 rfl).1 qg qg qg) ?_
  rintro v96 w94 r96 x95
  replace H:=H.zB x95 r96
  obtain ⟨a97,c98,rfl,hc99,hm100⟩:=H.jG 0 rfl
  refine ⟨H.pick [1,2,3,4,5,6,7,8,10,11,12] [1,2,3,4,5,6,7,8,9,10,11,12,13,14,15,16,17],(tI 9 rfl rfl rfl (H.pick [1,2,3,4,5,6,7,8,10,11,12] [1,2,3,4,5,6,7,8,9,10,11,12,13,14,15,16,17]) ?_)⟩
  refine ro 10 rfl ?_
  obtain ⟨G102,N,hn103,H⟩:=H.zT 0 rfl N (H.jR [2])
  refine jy false H 9 rfl 2 rfl (Sv a97 ((vZ (bg74[((s.qB[i]!).qN).toNat]!) ((s.qB[i]!).zH) (counts[i]!)).length) c98) 0 rfl rfl sizeOf24 rfl rfl (i:=(((s.qB[i]!).qN).toNat)) qf qf qm fun w101 xs104 F105 hs106 H=>⟨H.pick [1,2,3,4,5,6,7,8,10,11,12] [3,4,5,6,7,8,9,10,11,12,13,14,15,16,17,18,19],(xJ qh ((ret0 rfl ⟨_,rfl,?_⟩)))⟩
  replace H:=H.erases [6,0]
  dsimp only [vM,List.eraseIdx] at H
  obtain ⟨bg107,e_bg107⟩:∃ z,z=(bg74.set (((s.qB[i]!).qN).toNat) (vZ (bg74[((s.qB[i]!).qN).toNat]!) ((s.qB[i]!).zH) (counts[i]!))):=⟨_,rfl⟩
  rw [← e_bg107] at H
  have E_bg107:=Ent.add (D:=1000000) E_bg74 e_bg107 qf (by first | exact bn1.mul qf | exact bn2.mul qf | exact bn3.mul qf | exact bn4.mul qf) qf
  have z_bg107:=E_bg107.sh.1
  have E_cur:=E_bg107
  refine zjcc (sw (xU [yI s.xh,Sv qE s.qA.length qC,Sv (aa b44 o45) s.qB.length qK] isAgg27 sizeOf27 rfl (qJ (H.cells 4 rfl) 0 3) (sw (xU (yT t qU qQ xf qY qM qL) isAgg31 sizeOf31 rfl (qJ (H.cells 3 rfl) 0 3) (oF rfl (oL rfl (H.cell 1 rfl rfl) ?_))))))
  have qc' :=qc
  refine sw (oq (parentNow_ok _ s t ((s.qB[i]!).qN) (H.get 14 rfl).1 (H.get 15 rfl).1 (H.get 16 rfl).1 (H.get 17 rfl).1 (H.get 18 rfl).1 qg qg qg) H fun w109 H=>?_)
  have pl:=parentNow_lt p15 p1.2.2.1 qc
  refine sp (yI (xm s t ((s.qB[i]!).qN))) (zjc (sps [yI (xm s t ((s.qB[i]!).qN)),Bv (decide ((xm s t ((s.qB[i]!).qN):Int)≥0))] (zjn (cD rfl (fun h111=>?_) (fun h111=>?_)))))
  ·skip
   have po:=outPl_in (r:=s.qB[i]!) p15 ‹_›
   refine zg (sps [.func (.func 173) #[] #[pp b79 0,pp b83 0],yI (xm s t ((s.qB[i]!).qN))] (oF rfl (oL rfl (H.cell 1 rfl rfl) (sw (vk #[yI (xm s t ((s.qB[i]!).qN)),Sv Vo (((s.qB[i]!).jC).length) Vk,pp b79 0,pp b83 0] rfl rfl call173 (en func173 ntmps173 ?_))))))
   refine yR rfl H [0,1,2,3,4,5,6,8,9,10] fun H=>?_
   have S:=H.yj [0,1,2,3,4,5,6,8,9,10] [0,1,2,3,4,5,6,7,8,9,10,11,12,13,14,15,16,17,18,19]
   refine tL 0 rfl rfl (fun _ h=>h.cell 2 rfl rfl) S ?_
   refine rtp 1 (yI (xm s t ((s.qB[i]!).qN))) S ?_
   refine tL 2 rfl rfl (fun _ h=>h.cell 2 rfl rfl) S ?_
   refine rtp 3 (yI (xm s t ((s.qB[i]!).qN))) S ?_
   refine tI 4 rfl rfl rfl S ?_
   refine rtp 6 (Sv Vo (((s.qB[i]!).jC).length) Vk) S ?_
   refine tL 7 rfl rfl (fun _ h=>h.cell 0 rfl rfl) S ?_
   refine ro 5 rfl ?_
   obtain ⟨a113,c114,G115,s116,h117,H⟩:=H.jP 7 rfl 0 rfl (iv:=xm s t ((s.qB[i]!).qN)) ((xm s t ((s.qB[i]!).qN)).toNat) qf qf
   refine zF (Sv a113 ((bg107[(xm s t ((s.qB[i]!).qN)).toNat]!).length) c114) isAgg24 rfl (h117) (⟨H.pick [0,1,2,3,4,5,6,8,9,10] [1,2,3,4,5,6,7,8,9,10,11,12,13,14,15,16,17,18,19,20],(ro 8 rfl ?_)⟩)
   obtain ⟨u1,u2⟩:=E_bg107.sh.row (c:=(xm s t ((s.qB[i]!).qN)).toNat) qf p8 qf
   have u4:=(by first | exact bn1.jA qf | exact bn2.jA qf | exact bn3.jA qf | exact bn4.jA qf:Vb ((s.qB[i]!).jC) (counts[i]!))
   have sz118:=H.base.size
   have lt119:=H.ltN (L:=[G102,G69]) [2,5]
   refine oc (V4 _ (bg107[(xm s t ((s.qB[i]!).qN)).toNat]!) ((s.qB[i]!).jC) (counts[i]!) (H.get 0 rfl).1 (H.get 11 rfl).1 qg qg qg) ?_
   rintro v123 w121 r123 x122
   replace H:=H.zB x122 r123
   obtain ⟨a124,c125,rfl,hc126,hm127⟩:=H.jG 0 rfl
   refine ⟨H.pick [1,2,3,4,5,6,7,9,10,11] [1,2,3,4,5,6,7,8,9,10,11,12,13,14,15,16,17,18,19,20],(tI 9 rfl rfl rfl (H.pick [1,2,3,4,5,6,7,9,10,11] [1,2,3,4,5,6,7,8,9,10,11,12,13,14,15,16,17,18,19,20]) ?_)⟩
   refine ro 10 rfl ?_
   obtain ⟨G129,N,hn130,H⟩:=H.zT 0 rfl N (H.jR [2,5])
   refine jy false H 8 rfl 2 rfl (Sv a124 ((vZ (bg107[(xm s t ((s.qB[i]!).qN)).toNat]!) ((s.qB[i]!).jC) (counts[i]!)).length) c125) 0 rfl rfl sizeOf24 rfl rfl (i:=((xm s t ((s.qB[i]!).qN)).toNat)) qf qf qm fun w128 xs131 F132 hs133 H=>⟨H.pick [1,2,3,4,5,6,7,9,10,11] [3,4,5,6,7,8,9,10,11,12,13,14,15,16,17,18,19,20,21,22],(xJ qh ((ret0 rfl ⟨_,rfl,?_⟩)))⟩
   replace H:=H.erases [0]
   dsimp only [vM,List.eraseIdx] at H
   obtain ⟨bg134,e_bg134⟩:∃ z,z=(bg107.set ((xm s t ((s.qB[i]!).qN)).toNat) (vZ (bg107[(xm s t ((s.qB[i]!).qN)).toNat]!) ((s.qB[i]!).jC) (counts[i]!))):=⟨_,rfl⟩
   rw [← e_bg134] at H
   have E_bg134:=Ent.add (D:=1000000) E_bg107 e_bg134 qf (by first | exact bn1.mul qf | exact bn2.mul qf | exact bn3.mul qf | exact bn4.mul qf) qf
   have z_bg134:=E_bg134.sh.1
   have E_cur:=E_bg134
   refine zjc (oF rfl (oL rfl (H.cell 1 rfl rfl) (oN rfl (sp (yI 0) (zjn (xg ?_))))))
   refine zJ (fun m' ρ w135=>∃ (xY:Env) (k:Nat) (bags_1:yLL) (Qw:List Value) (QB:yLN),ρ=upd (upd (upd (upd xY 10 (.func (.func 173) #[] #[pp b79 0,pp b83 0])) 40 (Sv XR (((s.qB[i]!).qW).length) XP)) 41 (yI (((s.qB[i]!).qW).length))) 42 (yI k)∧((k:Int)≤(((s.qB[i]!).qW).length))∧(Ent (s.qA.length+1) (zI s) (fun p q=>base0 s t p q+allS s t counts i p q+at' p (s.qB[i]!).qN.toNat (-(counts[i]!) * ((s.qB[i]!).xR)[q]!)+at' p (s.qB[i]!).qN.toNat ((counts[i]!) * ((s.qB[i]!).zH)[q]!)+at' p (outPl s t (s.qB[i]!)) ((counts[i]!) * ((s.qB[i]!).jC)[q]!)+XX (s.qB[i]!) (counts[i]!) k p q) (23000000+6000000 * i+1000000 * k) bags_1)∧(bags_1.length=s.qA.length+1)∧m' =((((s.qB[i]!).qW).length) - (k:Int)).toNat∧Fresh w.heap.size [G69]∧St w w135 [.box b83 [yI (counts[i]!)] 2,.box b81 [yI ((s.qB[i]!).qN),yI ((s.qB[i]!).vP),Sv VD (((s.qB[i]!).xR).length) Vy,Sv VF (((s.qB[i]!).zM).length) VA,Sv VE (((s.qB[i]!).zK).length) Vz,Sv XT (((s.qB[i]!).zH).length) XQ,Sv Vo (((s.qB[i]!).jC).length) Vk,Sv XR (((s.qB[i]!).qW).length) XP,Bv ((s.qB[i]!).vF)] 56,.box b79 [Sv (aa b52 0) (t.qH.length+1) c8] 29,.box b77 (yT t qU qQ xf qY qM qL) 31,.box b75 [yI s.xh,Sv qE s.qA.length qC,Sv (aa b44 o45) s.qB.length qK] 27,.box b48 [yI ((s.qB[i]!).qN),yI ((s.qB[i]!).vP),Sv VD (((s.qB[i]!).xR).length) Vy,Sv VF (((s.qB[i]!).zM).length) VA,Sv VE (((s.qB[i]!).zK).length) Vz,Sv XT (((s.qB[i]!).zH).length) XQ,Sv Vo (((s.qB[i]!).jC).length) Vk,Sv XR (((s.qB[i]!).qW).length) XP,Bv ((s.qB[i]!).vF)] 56,rr (aa b36 0) s.qA.length s.qA.length 4 1 ((Qg s counts s.qA.length i).map (Value.bool)),rr (aa b52 0) (t.qH.length+1) c8 24 1 Qw,.box b5 [yN,yN,yN] 31,.box b3 (yT t qU qQ xf qY qM qL) 31,.box b1 [yI s.xh,Sv qE s.qA.length qC,Sv (aa b44 o45) s.qB.length qK] 27] [xN false QB Qw bags_1,sF true G69 a64 c65 (vZ (bags[((s.qB[i]!).qN).toNat]!) ((s.qB[i]!).xR) (-(counts[i]!))),sF false G55 a53 c54 (bags[((s.qB[i]!).qN).toNat]!),sF false Fe47Need VD Vy ((s.qB[i]!).xR),sF false Fe47Have VF VA ((s.qB[i]!).zM),sF false Fe47Lack VE Vz ((s.qB[i]!).zK),sF false Fe47Here XT XQ ((s.qB[i]!).zH),sF false Fe47Out Vo Vk ((s.qB[i]!).jC),sF false Fe47Into XR XP ((s.qB[i]!).qW),atF b44 (o45+(i:Int).toNat * 9) [yI ((s.qB[i]!).qN),yI ((s.qB[i]!).vP),Sv VD (((s.qB[i]!).xR).length) Vy,Sv VF (((s.qB[i]!).zM).length) VA,Sv VE (((s.qB[i]!).zK).length) Vz,Sv XT (((s.qB[i]!).zH).length) XQ,Sv Vo (((s.qB[i]!).jC).length) Vk,Sv XR (((s.qB[i]!).qW).length) XP,Bv ((s.qB[i]!).vF)],sF false xe qE qC s.qA,sF false xE (aa b44 o45) qK s.qB,sF false xO qU qQ t.qG,sF false zo xf qY t.qH,sF false xB qM qL t.qF,sF false Fcounts (aa b41 o42) ccounts counts]) (((((s.qB[i]!).qW).length) - (0:Int)).toNat) ⟨_,0,bg134,xs131,F132,uE4,qf,(by exact E_cur.to (fun p q=>by rw [po];simp only [XX];first | omega | (simp only [Int.toNat_natCast];omega)) qf),qf,rfl,(N.pick [2]),H.pick [0,1,2,3,4,5,6,7,8,9,10] [0,7,8,9,10,11,12,13,14,15,17,18,19,20,21,22]⟩ ?_
   clear H N
   rintro m' ρ w136 ⟨xY,k,bags_1,Qw,QB,rfl,i0,E_bags_1,z_bags_1,rfl,N,H⟩
   have hn_bags:=H.x8 (α:=yLI) 7 rfl 0 rfl qj
   refine zcr (sp (Bv (decide ((k:Int) < (((s.qB[i]!).qW).length)))) (zjn (zf (cD rfl (fun h137=>?_) (fun h137=>?_)))))
   ·skip
    have qi:=q.2.2.2.2.2.2.2.2.2.2 k qf
    have qi1:=qi.1
    have bn4:=qi.2.2.1
    have ln4:=bn4.len
    refine xk (t_n (zf (xg (zcr ?_))))
    obtain ⟨b138,o139,rfl⟩:=H.addr 8 rfl qf
    obtain ⟨ae141Bag,ce141Bag,Fe141Bag,H⟩:=H.Qd 8 rfl k k qf qf qf
    refine oI rfl rfl (sw (xU [yI ((((s.qB[i]!).qW)[k]!).qN),Sv ae141Bag (((((s.qB[i]!).qW)[k]!).QP).length) ce141Bag] isAgg142 sizeOf142 rfl (qJ (H.get 1 rfl) 0 2) (sw (xZ H ti142 [yI 0,yN] fun b142 w143 H=>sw (zu H 0 [yI ((((s.qB[i]!).qW)[k]!).qN),Sv ae141Bag (((((s.qB[i]!).qW)[k]!).QP).length) ce141Bag] sizeOf142 fun w144 H=>zjn (zg (sp (.func (.func 173) #[] #[pp b79 0,pp b83 0]) (oF rfl (oL rfl (H.cell 0 rfl rfl) (oF rfl (oL rfl (H.cell 0 rfl rfl) ?_)))))))))))
    refine sw (vk #[yI ((((s.qB[i]!).qW)[k]!).qN),Sv ae141Bag (((((s.qB[i]!).qW)[k]!).QP).length) ce141Bag,pp b79 0,pp b83 0] rfl rfl call173 (en func173 ntmps173 ?_))
    refine yR rfl H [0,1,2,3,4,5,6,7,9,10,11] fun H=>?_
    have S:=H.yj [0,1,2,3,4,5,6,7,9,10,11] [0,1,2,3,4,5,6,7,8,9,10,11,12,13,14,15,16,17]
    refine tL 0 rfl rfl (fun _ h=>h.cell 3 rfl rfl) S ?_
    refine rtp 1 (yI ((((s.qB[i]!).qW)[k]!).qN)) S ?_
    refine tL 2 rfl rfl (fun _ h=>h.cell 3 rfl rfl) S ?_
    refine rtp 3 (yI ((((s.qB[i]!).qW)[k]!).qN)) S ?_
    refine tI 4 rfl rfl rfl S ?_
    refine rtp 6 (Sv ae141Bag (((((s.qB[i]!).qW)[k]!).QP).length) ce141Bag) S ?_
    refine tL 7 rfl rfl (fun _ h=>h.cell 1 rfl rfl) S ?_
    refine ro 5 rfl ?_
    obtain ⟨a146,c147,G148,s149,h150,H⟩:=H.jP 8 rfl 2 rfl (iv:=(((s.qB[i]!).qW)[k]!).qN) (((((s.qB[i]!).qW)[k]!).qN).toNat) qf qf
    refine zF (Sv a146 ((bags_1[((((s.qB[i]!).qW)[k]!).qN).toNat]!).length) c147) isAgg24 rfl (h150) (⟨H.pick [0,1,2,3,4,5,6,7,9,10,11] [1,2,3,4,5,6,7,8,9,10,11,12,13,14,15,16,17,18],(ro 8 rfl ?_)⟩)
    obtain ⟨u1,u2⟩:=E_bags_1.sh.row (c:=((((s.qB[i]!).qW)[k]!).qN).toNat) qf p8 qf
    have u4:=(by first | exact bn1.jA qf | exact bn2.jA qf | exact bn3.jA qf | exact bn4.jA qf:Vb ((((s.qB[i]!).qW)[k]!).QP) (counts[i]!))
    have sz151:=H.base.size
    have lt152:=H.ltN (L:=[G69]) [4]
    refine oc (V4 _ (bags_1[((((s.qB[i]!).qW)[k]!).qN).toNat]!) ((((s.qB[i]!).qW)[k]!).QP) (counts[i]!) (H.get 0 rfl).1 (H.get 1 rfl).1 qg qg qg) ?_
    rintro v156 w154 r156 x155
    replace H:=H.zB x155 r156
    obtain ⟨a157,c158,rfl,hc159,hm160⟩:=H.jG 0 rfl
    refine ⟨H.pick [1,2,3,4,5,6,7,8,10,11,12] [1,2,3,4,5,6,7,8,9,10,11,12,13,14,15,16,17,18],(tI 9 rfl rfl rfl (H.pick [1,2,3,4,5,6,7,8,10,11,12] [1,2,3,4,5,6,7,8,9,10,11,12,13,14,15,16,17,18]) ?_)⟩
    refine ro 10 rfl ?_
    obtain ⟨G162,N,hn163,H⟩:=H.zT 0 rfl N (H.jR [4])
    refine jy false H 9 rfl 4 rfl (Sv a157 ((vZ (bags_1[((((s.qB[i]!).qW)[k]!).qN).toNat]!) ((((s.qB[i]!).qW)[k]!).QP) (counts[i]!)).length) c158) 0 rfl rfl sizeOf24 rfl rfl (i:=(((((s.qB[i]!).qW)[k]!).qN).toNat)) qf qf qm fun w161 xs164 F165 hs166 H=>⟨H.pick [1,2,3,4,5,6,7,8,10,11,12] [3,4,5,6,7,8,9,10,11,12,13,14,15,16,17,18,19,20],(xJ qh ((ret0 rfl ⟨_,rfl,?_⟩)))⟩
    replace H:=H.erases [0]
    dsimp only [vM,List.eraseIdx] at H
    obtain ⟨bg167,e_bg167⟩:∃ z,z=(bags_1.set (((((s.qB[i]!).qW)[k]!).qN).toNat) (vZ (bags_1[((((s.qB[i]!).qW)[k]!).qN).toNat]!) ((((s.qB[i]!).qW)[k]!).QP) (counts[i]!))):=⟨_,rfl⟩
    rw [← e_bg167] at H
    have E_bg167:=Ent.add (D:=1000000) E_bags_1 e_bg167 qf (by first | exact bn1.mul qf | exact bn2.mul qf | exact bn3.mul qf | exact bn4.mul qf) qf
    have z_bg167:=E_bg167.sh.1
    have E_cur:=E_bg167
    refine zi (b_n (t_n (zg (sw (zL k 1 rfl rfl qf (sp (yI (k+1)) (zi (xq (m' :=((((s.qB[i]!).qW).length) - ((k+1):Int)).toNat) qf ⟨_,k+1,bg167,xs164,F165,uE4,?_,?_,?_,rfl,(N.pick [1]),H.pick [1,2,3,4,5,6,7,8,9,10,11] [0,6,7,8,9,10,11,12,13,14,15,16,17,18,19,20]⟩))))))))
    · omega
    · exact E_cur.to (fun p q=>by simp only [XX];omega) qf
    · omega
   refine c_exit (t_x (t_x (b_x (ret0 rfl ⟨_,rfl,?_⟩))))
   replace H:=H.erases [4,3,2,1,0]
   dsimp only [vM,List.eraseIdx] at H
   refine zjn ?_
   refine yR rfl H [0,2,3,4,5] fun H=>?_
   have S:=H.yj [0,2,3,4,5] [0,1,2,3,4,5,6,7,8,9,10,11,12,13,14,15]
   refine rtp 0 (Sv (aa b36 0) s.qA.length s.qA.length) S ?_
   refine tF 1 rfl rfl S ?_
   refine tL 2 rfl rfl (fun _ h=>h.cell 0 rfl rfl) S ?_
   refine rtp 3 (Sv (aa b36 0) s.qA.length s.qA.length) S ?_
   refine tF 4 rfl rfl S ?_
   refine tL 5 rfl rfl (fun _ h=>h.cell 0 rfl rfl) S ?_
   refine tI 6 rfl rfl rfl S ?_
   refine ro 7 rfl (zF (Bv ((Qg s counts s.qA.length i)[((s.qB[i]!).qN).toNat]!)) isAgg4 rfl (H.rowBool 1 rfl (iv:=(s.qB[i]!).qN) (i:=(((s.qB[i]!).qN).toNat)) qf qf) (⟨H.pick [0,2,3,4,5] [0,1,2,3,4,5,6,7,8,9,10,11,12,13,14,15],(rtp 8 (Bv ((Qg s counts s.qA.length i)[((s.qB[i]!).qN).toNat]!)) (H.pick [0,2,3,4,5] [0,1,2,3,4,5,6,7,8,9,10,11,12,13,14,15]) ?_)⟩))
   cases h169:((Qg s counts s.qA.length i)[((s.qB[i]!).qN).toNat]!)
   ·skip
    have S:=H.yj [0,2,3,4,5] [0,1,2,3,4,5,6,7,8,9,10,11,12,13,14,15]
    refine rgp 9 (yI (counts[i]!)) 66 S ?_
    refine rgp 10 (Bv (decide ((counts[i]! :Int) > 0))) 66 S ?_
    refine rgp 11 (Bv (decide ((counts[i]! :Int) > 0))) 66 S ?_
    cases h170:(decide ((counts[i]! :Int) > 0))
    ·skip
     replace h170:=of_decide_eq_false h170
     refine zV [12,13] 2 (H.pick [0,2,3,4,5] [0,1,2,3,4,5,6,7,8,9,10,11,12,13,14,15]) ?_
     have S:=H.yj [0,2,3,4,5] [0,1,2,3,4,5,6,7,8,9,10,11,12,13,14,15]
     refine rgp 14 (Bv false) 66 S ?_
     refine rtp 15 (Bv false) S ?_
     refine tI 16 rfl rfl rfl S ?_
     refine ro 17 rfl (Q9 H 1 rfl false sizeOf4 rfl rfl (i:=(((s.qB[i]!).qN).toNat)) qf qf fun w171 H=>⟨H.pick [0,2,3,4,5] [0,1,2,3,4,5,6,7,8,9,10,11,12,13,14,15],(xJ qh (b_n (t_n (zg (sw (zL i 1 rfl rfl qf (sp (yI (i+1)) (zi (xq (m' :=(counts.length - ((i+1):Int)).toNat) qf ⟨_,i+1,((Qg s counts s.qA.length i).set (((s.qB[i]!).qN).toNat) false),bags_1,Qw,QB,uE8,?_,?_,?_,?_,rfl,(N.pick []),H.pick [1,2,3,4,5] [0,10,11,12,13,14,15]⟩)))))))))⟩)
     · first | exact meltsL_1 qf qf ‹_› | exact meltsL_2 qf qf ‹_› qf | exact meltsL_3 qf qf ‹_› qf
     · omega
     · exact E_bags_1.to (fun p q=>by rw [show k=((s.qB[i]!).qW).length by omega];simp only [allS,needF,putF];omega) qf
     · omega
    replace h170:=of_decide_eq_true h170
    have S:=H.yj [0,2,3,4,5] [0,1,2,3,4,5,6,7,8,9,10,11,12,13,14,15]
    refine gF 12 rfl rfl S ?_
    refine gL 13 rfl rfl (fun _ h=>h.cell 0 rfl rfl) S ?_
    refine rgp 14 (Bv ((s.qB[i]!).vF)) 66 S ?_
    refine rtp 15 (Bv ((s.qB[i]!).vF)) S ?_
    refine tI 16 rfl rfl rfl S ?_
    refine ro 17 rfl (Q9 H 1 rfl ((s.qB[i]!).vF) sizeOf4 rfl rfl (i:=(((s.qB[i]!).qN).toNat)) qf qf fun w172 H=>⟨H.pick [0,2,3,4,5] [0,1,2,3,4,5,6,7,8,9,10,11,12,13,14,15],(xJ qh (b_n (t_n (zg (sw (zL i 1 rfl rfl qf (sp (yI (i+1)) (zi (xq (m' :=(counts.length - ((i+1):Int)).toNat) qf ⟨_,i+1,((Qg s counts s.qA.length i).set (((s.qB[i]!).qN).toNat) ((s.qB[i]!).vF)),bags_1,Qw,QB,uE8,?_,?_,?_,?_,rfl,(N.pick []),H.pick [1,2,3,4,5] [0,10,11,12,13,14,15]⟩)))))))))⟩)
    · first | exact meltsL_1 qf qf ‹_› | exact meltsL_2 qf qf ‹_› qf | exact meltsL_3 qf qf ‹_› qf
    · omega
    · exact E_bags_1.to (fun p q=>by rw [show k=((s.qB[i]!).qW).length by omega];simp only [allS,needF,putF];omega) qf
    · omega
   refine zV [9,10,11,12,13,14] 6 (H.pick [0,2,3,4,5] [0,1,2,3,4,5,6,7,8,9,10,11,12,13,14,15]) ?_
   have S:=H.yj [0,2,3,4,5] [0,1,2,3,4,5,6,7,8,9,10,11,12,13,14,15]
   refine rtp 15 (Bv true) S ?_
   refine tI 16 rfl rfl rfl S ?_
   refine ro 17 rfl (Q9 H 1 rfl true sizeOf4 rfl rfl (i:=(((s.qB[i]!).qN).toNat)) qf qf fun w173 H=>⟨H.pick [0,2,3,4,5] [0,1,2,3,4,5,6,7,8,9,10,11,12,13,14,15],(xJ qh (b_n (t_n (zg (sw (zL i 1 rfl rfl qf (sp (yI (i+1)) (zi (xq (m' :=(counts.length - ((i+1):Int)).toNat) qf ⟨_,i+1,((Qg s counts s.qA.length i).set (((s.qB[i]!).qN).toNat) true),bags_1,Qw,QB,uE8,?_,?_,?_,?_,rfl,(N.pick []),H.pick [1,2,3,4,5] [0,10,11,12,13,14,15]⟩)))))))))⟩)
   · first | exact meltsL_1 qf qf ‹_› | exact meltsL_2 qf qf ‹_› qf | exact meltsL_3 qf qf ‹_› qf
   · omega
   · exact E_bags_1.to (fun p q=>by rw [show k=((s.qB[i]!).qW).length by omega];simp only [allS,needF,putF];omega) qf
   · omega
  have po:=outPl_out (r:=s.qB[i]!) p15 p1.2.2.1 qc qf
  refine yR rfl H [0,1,2,3,4,5,6,8,9,10] fun H=>?_
  have S:=H.yj [0,1,2,3,4,5,6,8,9,10] [0,1,2,3,4,5,6,7,8,9,10,11,12,13,14,15,16,17,18,19]
  refine rtp 0 (.func (.func 173) #[] #[pp b79 0,pp b83 0]) S ?_
  refine rt 1 (.agg #[yI s.xh,Sv qE s.qA.length qC,Sv (aa b44 o45) s.qB.length qK]) (Qv (cs:=[yI s.xh,Sv qE s.qA.length qC,Sv (aa b44 o45) s.qB.length qK]) isAgg27 sizeOf27 rfl (fun _ h=>qJ (h.cells 4 rfl) 0 3)) S ?_
  refine tF 3 rfl rfl S ?_
  refine tL 4 rfl rfl (fun _ h=>h.cell 1 rfl rfl) S ?_
  refine ro 2 rfl (oq (VO _ s (H.get 14 rfl).1 (H.get 15 rfl).1) H fun w176 H=>⟨H.pick [0,1,2,3,4,5,6,8,9,10] [0,1,2,3,4,5,6,7,8,9,10,11,12,13,14,15,16,17,18,19],(ro 5 rfl (vk #[yI s.qA.length,Sv Vo (((s.qB[i]!).jC).length) Vk,pp b79 0,pp b83 0] rfl rfl call173 (en func173 ntmps173 ?_)))⟩)
  refine yR rfl H [0,1,2,3,4,5,6,8,9,10] fun H=>?_
  have S:=H.yj [0,1,2,3,4,5,6,8,9,10] [0,1,2,3,4,5,6,7,8,9,10,11,12,13,14,15,16,17,18,19]
  refine tL 0 rfl rfl (fun _ h=>h.cell 2 rfl rfl) S ?_
  refine rtp 1 (yI s.qA.length) S ?_
  refine tL 2 rfl rfl (fun _ h=>h.cell 2 rfl rfl) S ?_
  refine rtp 3 (yI s.qA.length) S ?_
  refine tI 4 rfl rfl rfl S ?_
  refine rtp 6 (Sv Vo (((s.qB[i]!).jC).length) Vk) S ?_
  refine tL 7 rfl rfl (fun _ h=>h.cell 0 rfl rfl) S ?_
  refine ro 5 rfl ?_
  obtain ⟨a179,c180,G181,s182,h183,H⟩:=H.jP 7 rfl 0 rfl (iv:=s.qA.length) s.qA.length qf qf
  refine zF (Sv a179 ((bg107[s.qA.length]!).length) c180) isAgg24 rfl (h183) (⟨H.pick [0,1,2,3,4,5,6,8,9,10] [1,2,3,4,5,6,7,8,9,10,11,12,13,14,15,16,17,18,19,20],(ro 8 rfl ?_)⟩)
  obtain ⟨u1,u2⟩:=E_bg107.sh.row (c:=s.qA.length) qf p8 qf
  have u4:=(by first | exact bn1.jA qf | exact bn2.jA qf | exact bn3.jA qf | exact bn4.jA qf:Vb ((s.qB[i]!).jC) (counts[i]!))
  have sz184:=H.base.size
  have lt185:=H.ltN (L:=[G102,G69]) [2,5]
  refine oc (V4 _ (bg107[s.qA.length]!) ((s.qB[i]!).jC) (counts[i]!) (H.get 0 rfl).1 (H.get 11 rfl).1 qg qg qg) ?_
  rintro v189 w187 r189 x188
  replace H:=H.zB x188 r189
  obtain ⟨a190,c191,rfl,hc192,hm193⟩:=H.jG 0 rfl
  refine ⟨H.pick [1,2,3,4,5,6,7,9,10,11] [1,2,3,4,5,6,7,8,9,10,11,12,13,14,15,16,17,18,19,20],(tI 9 rfl rfl rfl (H.pick [1,2,3,4,5,6,7,9,10,11] [1,2,3,4,5,6,7,8,9,10,11,12,13,14,15,16,17,18,19,20]) ?_)⟩
  refine ro 10 rfl ?_
  obtain ⟨G195,N,hn196,H⟩:=H.zT 0 rfl N (H.jR [2,5])
  refine jy false H 8 rfl 2 rfl (Sv a190 ((vZ (bg107[s.qA.length]!) ((s.qB[i]!).jC) (counts[i]!)).length) c191) 0 rfl rfl sizeOf24 rfl rfl (i:=s.qA.length) qf qf qm fun w194 xs197 F198 hs199 H=>⟨H.pick [1,2,3,4,5,6,7,9,10,11] [3,4,5,6,7,8,9,10,11,12,13,14,15,16,17,18,19,20,21,22],(xJ qh ((ret0 rfl ⟨_,rfl,?_⟩)))⟩
  replace H:=H.erases [0]
  dsimp only [vM,List.eraseIdx] at H
  obtain ⟨bg200,e_bg200⟩:∃ z,z=(bg107.set s.qA.length (vZ (bg107[s.qA.length]!) ((s.qB[i]!).jC) (counts[i]!))):=⟨_,rfl⟩
  rw [← e_bg200] at H
  have E_bg200:=Ent.add (D:=1000000) E_bg107 e_bg200 qf (by first | exact bn1.mul qf | exact bn2.mul qf | exact bn3.mul qf | exact bn4.mul qf) qf
  have z_bg200:=E_bg200.sh.1
  have E_cur:=E_bg200
  refine ⟨H.pick [0,1,2,3,4,5,6,8,9,10] [3,4,5,6,7,8,9,10,11,12,13,14,15,16,17,18,19,20,21,22],(xJ qh (t_n (zcr (oF rfl (oL rfl (H.cell 1 rfl rfl) (oN rfl (sp (yI 0) (zjn (xg ?_)))))))))⟩
  refine zJ (fun m' ρ w201=>∃ (xY:Env) (k:Nat) (bags_1:yLL) (Qw:List Value) (QB:yLN),ρ=upd (upd (upd (upd xY 10 (.func (.func 173) #[] #[pp b79 0,pp b83 0])) 40 (Sv XR (((s.qB[i]!).qW).length) XP)) 41 (yI (((s.qB[i]!).qW).length))) 42 (yI k)∧((k:Int)≤(((s.qB[i]!).qW).length))∧(Ent (s.qA.length+1) (zI s) (fun p q=>base0 s t p q+allS s t counts i p q+at' p (s.qB[i]!).qN.toNat (-(counts[i]!) * ((s.qB[i]!).xR)[q]!)+at' p (s.qB[i]!).qN.toNat ((counts[i]!) * ((s.qB[i]!).zH)[q]!)+at' p (outPl s t (s.qB[i]!)) ((counts[i]!) * ((s.qB[i]!).jC)[q]!)+XX (s.qB[i]!) (counts[i]!) k p q) (23000000+6000000 * i+1000000 * k) bags_1)∧(bags_1.length=s.qA.length+1)∧m' =((((s.qB[i]!).qW).length) - (k:Int)).toNat∧Fresh w.heap.size [G69]∧St w w201 [.box b83 [yI (counts[i]!)] 2,.box b81 [yI ((s.qB[i]!).qN),yI ((s.qB[i]!).vP),Sv VD (((s.qB[i]!).xR).length) Vy,Sv VF (((s.qB[i]!).zM).length) VA,Sv VE (((s.qB[i]!).zK).length) Vz,Sv XT (((s.qB[i]!).zH).length) XQ,Sv Vo (((s.qB[i]!).jC).length) Vk,Sv XR (((s.qB[i]!).qW).length) XP,Bv ((s.qB[i]!).vF)] 56,.box b79 [Sv (aa b52 0) (t.qH.length+1) c8] 29,.box b77 (yT t qU qQ xf qY qM qL) 31,.box b75 [yI s.xh,Sv qE s.qA.length qC,Sv (aa b44 o45) s.qB.length qK] 27,.box b48 [yI ((s.qB[i]!).qN),yI ((s.qB[i]!).vP),Sv VD (((s.qB[i]!).xR).length) Vy,Sv VF (((s.qB[i]!).zM).length) VA,Sv VE (((s.qB[i]!).zK).length) Vz,Sv XT (((s.qB[i]!).zH).length) XQ,Sv Vo (((s.qB[i]!).jC).length) Vk,Sv XR (((s.qB[i]!).qW).length) XP,Bv ((s.qB[i]!).vF)] 56,rr (aa b36 0) s.qA.length s.qA.length 4 1 ((Qg s counts s.qA.length i).map (Value.bool)),rr (aa b52 0) (t.qH.length+1) c8 24 1 Qw,.box b5 [yN,yN,yN] 31,.box b3 (yT t qU qQ xf qY qM qL) 31,.box b1 [yI s.xh,Sv qE s.qA.length qC,Sv (aa b44 o45) s.qB.length qK] 27] [xN false QB Qw bags_1,sF true G69 a64 c65 (vZ (bags[((s.qB[i]!).qN).toNat]!) ((s.qB[i]!).xR) (-(counts[i]!))),sF false G55 a53 c54 (bags[((s.qB[i]!).qN).toNat]!),sF false Fe47Need VD Vy ((s.qB[i]!).xR),sF false Fe47Have VF VA ((s.qB[i]!).zM),sF false Fe47Lack VE Vz ((s.qB[i]!).zK),sF false Fe47Here XT XQ ((s.qB[i]!).zH),sF false Fe47Out Vo Vk ((s.qB[i]!).jC),sF false Fe47Into XR XP ((s.qB[i]!).qW),atF b44 (o45+(i:Int).toNat * 9) [yI ((s.qB[i]!).qN),yI ((s.qB[i]!).vP),Sv VD (((s.qB[i]!).xR).length) Vy,Sv VF (((s.qB[i]!).zM).length) VA,Sv VE (((s.qB[i]!).zK).length) Vz,Sv XT (((s.qB[i]!).zH).length) XQ,Sv Vo (((s.qB[i]!).jC).length) Vk,Sv XR (((s.qB[i]!).qW).length) XP,Bv ((s.qB[i]!).vF)],sF false xe qE qC s.qA,sF false xE (aa b44 o45) qK s.qB,sF false xO qU qQ t.qG,sF false zo xf qY t.qH,sF false xB qM qL t.qF,sF false Fcounts (aa b41 o42) ccounts counts]) (((((s.qB[i]!).qW).length) - (0:Int)).toNat) ⟨_,0,bg200,xs197,F198,uE4,qf,(by exact E_cur.to (fun p q=>by rw [po];simp only [XX];first | omega | (simp only [Int.toNat_natCast];omega)) qf),qf,rfl,(N.pick [2]),H.pick [0,1,2,3,4,5,6,7,8,9,10] [0,7,8,9,10,11,12,13,14,15,17,18,19,20,21,22]⟩ ?_
  clear H N
  rintro m' ρ w202 ⟨xY,k,bags_1,Qw,QB,rfl,i0,E_bags_1,z_bags_1,rfl,N,H⟩
  have hn_bags:=H.x8 (α:=yLI) 7 rfl 0 rfl qj
  refine zcr (sp (Bv (decide ((k:Int) < (((s.qB[i]!).qW).length)))) (zjn (zf (cD rfl (fun h203=>?_) (fun h203=>?_)))))
  ·skip
   have qi:=q.2.2.2.2.2.2.2.2.2.2 k qf
   have qi1:=qi.1
   have bn4:=qi.2.2.1
   have ln4:=bn4.len
   refine xk (t_n (zf (xg (zcr ?_))))
   obtain ⟨b204,o205,rfl⟩:=H.addr 8 rfl qf
   obtain ⟨ae207Bag,ce207Bag,Fe207Bag,H⟩:=H.Qd 8 rfl k k qf qf qf
   refine oI rfl rfl (sw (xU [yI ((((s.qB[i]!).qW)[k]!).qN),Sv ae207Bag (((((s.qB[i]!).qW)[k]!).QP).length) ce207Bag] isAgg142 sizeOf142 rfl (qJ (H.get 1 rfl) 0 2) (sw (xZ H ti142 [yI 0,yN] fun b208 w209 H=>sw (zu H 0 [yI ((((s.qB[i]!).qW)[k]!).qN),Sv ae207Bag (((((s.qB[i]!).qW)[k]!).QP).length) ce207Bag] sizeOf142 fun w210 H=>zjn (zg (sp (.func (.func 173) #[] #[pp b79 0,pp b83 0]) (oF rfl (oL rfl (H.cell 0 rfl rfl) (oF rfl (oL rfl (H.cell 0 rfl rfl) ?_)))))))))))
   refine sw (vk #[yI ((((s.qB[i]!).qW)[k]!).qN),Sv ae207Bag (((((s.qB[i]!).qW)[k]!).QP).length) ce207Bag,pp b79 0,pp b83 0] rfl rfl call173 (en func173 ntmps173 ?_))
   refine yR rfl H [0,1,2,3,4,5,6,7,9,10,11] fun H=>?_
   have S:=H.yj [0,1,2,3,4,5,6,7,9,10,11] [0,1,2,3,4,5,6,7,8,9,10,11,12,13,14,15,16,17]
   refine tL 0 rfl rfl (fun _ h=>h.cell 3 rfl rfl) S ?_
   refine rtp 1 (yI ((((s.qB[i]!).qW)[k]!).qN)) S ?_
   refine tL 2 rfl rfl (fun _ h=>h.cell 3 rfl rfl) S ?_
   refine rtp 3 (yI ((((s.qB[i]!).qW)[k]!).qN)) S ?_
   refine tI 4 rfl rfl rfl S ?_
   refine rtp 6 (Sv ae207Bag (((((s.qB[i]!).qW)[k]!).QP).length) ce207Bag) S ?_
   refine tL 7 rfl rfl (fun _ h=>h.cell 1 rfl rfl) S ?_
   refine ro 5 rfl ?_
   obtain ⟨a212,c213,G214,s215,h216,H⟩:=H.jP 8 rfl 2 rfl (iv:=(((s.qB[i]!).qW)[k]!).qN) (((((s.qB[i]!).qW)[k]!).qN).toNat) qf qf
   refine zF (Sv a212 ((bags_1[((((s.qB[i]!).qW)[k]!).qN).toNat]!).length) c213) isAgg24 rfl (h216) (⟨H.pick [0,1,2,3,4,5,6,7,9,10,11] [1,2,3,4,5,6,7,8,9,10,11,12,13,14,15,16,17,18],(ro 8 rfl ?_)⟩)
   obtain ⟨u1,u2⟩:=E_bags_1.sh.row (c:=((((s.qB[i]!).qW)[k]!).qN).toNat) qf p8 qf
   have u4:=(by first | exact bn1.jA qf | exact bn2.jA qf | exact bn3.jA qf | exact bn4.jA qf:Vb ((((s.qB[i]!).qW)[k]!).QP) (counts[i]!))
   have sz217:=H.base.size
   have lt218:=H.ltN (L:=[G69]) [4]
   refine oc (V4 _ (bags_1[((((s.qB[i]!).qW)[k]!).qN).toNat]!) ((((s.qB[i]!).qW)[k]!).QP) (counts[i]!) (H.get 0 rfl).1 (H.get 1 rfl).1 qg qg qg) ?_
   rintro v222 w220 r222 x221
   replace H:=H.zB x221 r222
   obtain ⟨a223,c224,rfl,hc225,hm226⟩:=H.jG 0 rfl
   refine ⟨H.pick [1,2,3,4,5,6,7,8,10,11,12] [1,2,3,4,5,6,7,8,9,10,11,12,13,14,15,16,17,18],(tI 9 rfl rfl rfl (H.pick [1,2,3,4,5,6,7,8,10,11,12] [1,2,3,4,5,6,7,8,9,10,11,12,13,14,15,16,17,18]) ?_)⟩
   refine ro 10 rfl ?_
   obtain ⟨G228,N,hn229,H⟩:=H.zT 0 rfl N (H.jR [4])
   refine jy false H 9 rfl 4 rfl (Sv a223 ((vZ (bags_1[((((s.qB[i]!).qW)[k]!).qN).toNat]!) ((((s.qB[i]!).qW)[k]!).QP) (counts[i]!)).length) c224) 0 rfl rfl sizeOf24 rfl rfl (i:=(((((s.qB[i]!).qW)[k]!).qN).toNat)) qf qf qm fun w227 xs230 F231 hs232 H=>⟨H.pick [1,2,3,4,5,6,7,8,10,11,12] [3,4,5,6,7,8,9,10,11,12,13,14,15,16,17,18,19,20],(xJ qh ((ret0 rfl ⟨_,rfl,?_⟩)))⟩
   replace H:=H.erases [0]
   dsimp only [vM,List.eraseIdx] at H
   obtain ⟨bg233,e_bg233⟩:∃ z,z=(bags_1.set (((((s.qB[i]!).qW)[k]!).qN).toNat) (vZ (bags_1[((((s.qB[i]!).qW)[k]!).qN).toNat]!) ((((s.qB[i]!).qW)[k]!).QP) (counts[i]!))):=⟨_,rfl⟩
   rw [← e_bg233] at H
   have E_bg233:=Ent.add (D:=1000000) E_bags_1 e_bg233 qf (by first | exact bn1.mul qf | exact bn2.mul qf | exact bn3.mul qf | exact bn4.mul qf) qf
   have z_bg233:=E_bg233.sh.1
   have E_cur:=E_bg233
   refine zi (b_n (t_n (zg (sw (zL k 1 rfl rfl qf (sp (yI (k+1)) (zi (xq (m' :=((((s.qB[i]!).qW).length) - ((k+1):Int)).toNat) qf ⟨_,k+1,bg233,xs230,F231,uE4,?_,?_,?_,rfl,(N.pick [1]),H.pick [1,2,3,4,5,6,7,8,9,10,11] [0,6,7,8,9,10,11,12,13,14,15,16,17,18,19,20]⟩))))))))
   · omega
   · exact E_cur.to (fun p q=>by simp only [XX];omega) qf
   · omega
  refine c_exit (t_x (t_x (b_x (ret0 rfl ⟨_,rfl,?_⟩))))
  replace H:=H.erases [4,3,2,1,0]
  dsimp only [vM,List.eraseIdx] at H
  refine zjn ?_
  refine yR rfl H [0,2,3,4,5] fun H=>?_
  have S:=H.yj [0,2,3,4,5] [0,1,2,3,4,5,6,7,8,9,10,11,12,13,14,15]
  refine rtp 0 (Sv (aa b36 0) s.qA.length s.qA.length) S ?_
  refine tF 1 rfl rfl S ?_
  refine tL 2 rfl rfl (fun _ h=>h.cell 0 rfl rfl) S ?_
  refine rtp 3 (Sv (aa b36 0) s.qA.length s.qA.length) S ?_
  refine tF 4 rfl rfl S ?_
  refine tL 5 rfl rfl (fun _ h=>h.cell 0 rfl rfl) S ?_
  refine tI 6 rfl rfl rfl S ?_
  refine ro 7 rfl (zF (Bv ((Qg s counts s.qA.length i)[((s.qB[i]!).qN).toNat]!)) isAgg4 rfl (H.rowBool 1 rfl (iv:=(s.qB[i]!).qN) (i:=(((s.qB[i]!).qN).toNat)) qf qf) (⟨H.pick [0,2,3,4,5] [0,1,2,3,4,5,6,7,8,9,10,11,12,13,14,15],(rtp 8 (Bv ((Qg s counts s.qA.length i)[((s.qB[i]!).qN).toNat]!)) (H.pick [0,2,3,4,5] [0,1,2,3,4,5,6,7,8,9,10,11,12,13,14,15]) ?_)⟩))
  cases h235:((Qg s counts s.qA.length i)[((s.qB[i]!).qN).toNat]!)
  ·skip
   have S:=H.yj [0,2,3,4,5] [0,1,2,3,4,5,6,7,8,9,10,11,12,13,14,15]
   refine rgp 9 (yI (counts[i]!)) 66 S ?_
   refine rgp 10 (Bv (decide ((counts[i]! :Int) > 0))) 66 S ?_
   refine rgp 11 (Bv (decide ((counts[i]! :Int) > 0))) 66 S ?_
   cases h236:(decide ((counts[i]! :Int) > 0))
   ·skip
    replace h236:=of_decide_eq_false h236
    refine zV [12,13] 2 (H.pick [0,2,3,4,5] [0,1,2,3,4,5,6,7,8,9,10,11,12,13,14,15]) ?_
    have S:=H.yj [0,2,3,4,5] [0,1,2,3,4,5,6,7,8,9,10,11,12,13,14,15]
    refine rgp 14 (Bv false) 66 S ?_
    refine rtp 15 (Bv false) S ?_
    refine tI 16 rfl rfl rfl S ?_
    refine ro 17 rfl (Q9 H 1 rfl false sizeOf4 rfl rfl (i:=(((s.qB[i]!).qN).toNat)) qf qf fun w237 H=>⟨H.pick [0,2,3,4,5] [0,1,2,3,4,5,6,7,8,9,10,11,12,13,14,15],(xJ qh (b_n (t_n (zg (sw (zL i 1 rfl rfl qf (sp (yI (i+1)) (zi (xq (m' :=(counts.length - ((i+1):Int)).toNat) qf ⟨_,i+1,((Qg s counts s.qA.length i).set (((s.qB[i]!).qN).toNat) false),bags_1,Qw,QB,uE8,?_,?_,?_,?_,rfl,(N.pick []),H.pick [1,2,3,4,5] [0,10,11,12,13,14,15]⟩)))))))))⟩)
    · first | exact meltsL_1 qf qf ‹_› | exact meltsL_2 qf qf ‹_› qf | exact meltsL_3 qf qf ‹_› qf
    · omega
    · exact E_bags_1.to (fun p q=>by rw [show k=((s.qB[i]!).qW).length by omega];simp only [allS,needF,putF];omega) qf
    · omega
   replace h236:=of_decide_eq_true h236
   have S:=H.yj [0,2,3,4,5] [0,1,2,3,4,5,6,7,8,9,10,11,12,13,14,15]
   refine gF 12 rfl rfl S ?_
   refine gL 13 rfl rfl (fun _ h=>h.cell 0 rfl rfl) S ?_
   refine rgp 14 (Bv ((s.qB[i]!).vF)) 66 S ?_
   refine rtp 15 (Bv ((s.qB[i]!).vF)) S ?_
   refine tI 16 rfl rfl rfl S ?_
   refine ro 17 rfl (Q9 H 1 rfl ((s.qB[i]!).vF) sizeOf4 rfl rfl (i:=(((s.qB[i]!).qN).toNat)) qf qf fun w238 H=>⟨H.pick [0,2,3,4,5] [0,1,2,3,4,5,6,7,8,9,10,11,12,13,14,15],(xJ qh (b_n (t_n (zg (sw (zL i 1 rfl rfl qf (sp (yI (i+1)) (zi (xq (m' :=(counts.length - ((i+1):Int)).toNat) qf ⟨_,i+1,((Qg s counts s.qA.length i).set (((s.qB[i]!).qN).toNat) ((s.qB[i]!).vF)),bags_1,Qw,QB,uE8,?_,?_,?_,?_,rfl,(N.pick []),H.pick [1,2,3,4,5] [0,10,11,12,13,14,15]⟩)))))))))⟩)
   · first | exact meltsL_1 qf qf ‹_› | exact meltsL_2 qf qf ‹_› qf | exact meltsL_3 qf qf ‹_› qf
   · omega
   · exact E_bags_1.to (fun p q=>by rw [show k=((s.qB[i]!).qW).length by omega];simp only [allS,needF,putF];omega) qf
   · omega
  refine zV [9,10,11,12,13,14] 6 (H.pick [0,2,3,4,5] [0,1,2,3,4,5,6,7,8,9,10,11,12,13,14,15]) ?_
  have S:=H.yj [0,2,3,4,5] [0,1,2,3,4,5,6,7,8,9,10,11,12,13,14,15]
  refine rtp 15 (Bv true) S ?_
  refine tI 16 rfl rfl rfl S ?_
  refine ro 17 rfl (Q9 H 1 rfl true sizeOf4 rfl rfl (i:=(((s.qB[i]!).qN).toNat)) qf qf fun w239 H=>⟨H.pick [0,2,3,4,5] [0,1,2,3,4,5,6,7,8,9,10,11,12,13,14,15],(xJ qh (b_n (t_n (zg (sw (zL i 1 rfl rfl qf (sp (yI (i+1)) (zi (xq (m' :=(counts.length - ((i+1):Int)).toNat) qf ⟨_,i+1,((Qg s counts s.qA.length i).set (((s.qB[i]!).qN).toNat) true),bags_1,Qw,QB,uE8,?_,?_,?_,?_,rfl,(N.pick []),H.pick [1,2,3,4,5] [0,10,11,12,13,14,15]⟩)))))))))⟩)
  · first | exact meltsL_1 qf qf ‹_› | exact meltsL_2 qf qf ‹_› qf | exact meltsL_3 qf qf ‹_› qf
  · omega
  · exact E_bags_1.to (fun p q=>by rw [show k=((s.qB[i]!).qW).length by omega];simp only [allS,needF,putF];omega) qf
  · omega
 refine zx4 (zf ?_)
 obtain ⟨b240,rfl⟩:=H.Qe 1 rfl qf
 refine c_cut (fun ρ w250=>∃ (xY:Env) (b241:Nat) (ra242:yOA) (rc243:Nat) (ra244:yOA) (rc245:Nat) (ra246:yOA) (rc247:Nat) (rx248:List Value) (rF249:yLN),ρ=upd (upd (upd (upd xY 3 (pp b1 0)) 6 (pp b5 0)) 9 (Sv (aa b36 0) s.qA.length s.qA.length)) 13 (pp b241 0)∧Fresh w.heap.size [rF249]∧St w w250 [.box b241 [Sv ra242 (((⟨t.qG,(bags.take s.qA.length),bags[s.qA.length]!⟩:qP).qG).length) rc243,Sv ra244 (((⟨t.qG,(bags.take s.qA.length),bags[s.qA.length]!⟩:qP).qH).length) rc245,Sv ra246 (((⟨t.qG,(bags.take s.qA.length),bags[s.qA.length]!⟩:qP).qF).length) rc247] 31,rr ra242 (((⟨t.qG,(bags.take s.qA.length),bags[s.qA.length]!⟩:qP).qG).length) rc243 4 1 (((⟨t.qG,(bags.take s.qA.length),bags[s.qA.length]!⟩:qP).qG).map (Value.bool)),rr ra244 (((⟨t.qG,(bags.take s.qA.length),bags[s.qA.length]!⟩:qP).qH).length) rc245 24 1 rx248,rr ra246 (((⟨t.qG,(bags.take s.qA.length),bags[s.qA.length]!⟩:qP).qF).length) rc247 2 1 (((⟨t.qG,(bags.take s.qA.length),bags[s.qA.length]!⟩:qP).qF).map (Value.int .i64)),rr (aa b36 0) s.qA.length s.qA.length 4 1 ((Qg s counts s.qA.length i).map (Value.bool)),rr none 0 0 0 1 [],.box b5 [yN,yN,yN] 31,.box b3 (yT t qU qQ xf qY qM qL) 31,.box b1 (yS s qE qC qO qK) 27] [xN true rF249 rx248 ((⟨t.qG,(bags.take s.qA.length),bags[s.qA.length]!⟩:qP).qH),sF false xe qE qC s.qA,sF false xE qO qK s.qB,sF false xO qU qQ t.qG,sF false zo xf qY t.qH,sF false xB qM qL t.qF]) ?_ ?_
 ·skip
  refine yR rfl H [0,2,3,4] fun H=>?_
  refine Xi (fun ρ w258=>∃ (xY:Env) (a252:yOA) (c253:Nat) (a254:yOA) (G255:yLN) (G256:yLN),ρ=upd (upd (upd (upd (upd (upd xY 3 (pp b1 0)) 6 (pp b5 0)) 9 (Sv (aa b36 0) s.qA.length s.qA.length)) 77 (Sv qU t.qG.length qQ)) 81 (Sv a254 ((bags.take s.qA.length).length) c8)) 86 (Sv a252 ((bags[s.qA.length]!).length) c253)∧Fresh w.heap.size []∧St w w258 [rr (aa b36 0) s.qA.length s.qA.length 4 1 ((Qg s counts s.qA.length i).map (Value.bool)),rr none 0 0 0 1 [],.box b5 [yN,yN,yN] 31,.box b3 (yT t qU qQ xf qY qM qL) 31,.box b1 (yS s qE qC qO qK) 27] [sF false G255 a254 c8 (bags.take s.qA.length),sF false G256 a252 c253 (bags[s.qA.length]!),xN false F_bags x_bags bags,sF false xe qE qC s.qA,sF false xE qO qK s.qB,sF false xO qU qQ t.qG,sF false zo xf qY t.qH,sF false xB qM qL t.qF,sF false Fcounts acounts ccounts counts]) 4 #[true,true,true,true,true,true,true,true,true,true,true,false,false,false,false] ?_ fun L257=>?_
  ·skip
   rintro ρ w259 ⟨xY,a252,c253,a254,G255,G256,rfl,N,H⟩
   refine jb [11,13] qh qm (jQ rfl ?_ (jQ rfl ?_ jd))
   ·skip
    refine vX [Sv qU t.qG.length qQ,Sv a254 ((bags.take s.qA.length).length) c8,Sv a252 ((bags[s.qA.length]!).length) c253] [(0,Sv qU t.qG.length qQ),(1,Sv a254 ((bags.take s.qA.length).length) c8),(2,Sv a252 ((bags[s.qA.length]!).length) c253)] (⟨H.pick [0,2,3,4] [2,3,4,5,6,7,8],(jb [12,13] qh qm (jQ rfl ?_ (jQ rfl ?_ jd)))⟩)
    ·skip
     obtain ⟨cp0,cp1,cp2,cp3⟩:=copy_pre (al:=t.qG) E_bags p8 p9.2 p12
     have sz263:=H.base.size
     refine oc (copied_ok _ (⟨t.qG,(bags.take s.qA.length),bags[s.qA.length]!⟩:qP) (H.get 5 rfl).1 (H.get 0 rfl).1 (H.get 1 rfl).1 qg qg qg qg) ?_
     rintro _ w261 ⟨ra260Alive,rn260Alive,rc260Alive,ra260Bags,rn260Bags,rc260Bags,rx260Bags,rF260Bags,ra260Around,rn260Around,rc260Around,rfl,M,K⟩ _
     replace N:=N.merge sz263 qm M
     replace H:=H.merge K M
     obtain rfl:=H.rowNB 0 rfl
     obtain rfl:=H.x8 (α:=yLI) 1 rfl 0 rfl qj
     obtain rfl:=H.yx 2 rfl
     refine ⟨H.pick [3,5,6,7] [3,4,5,6,7,8,9],(ro 13 rfl (xZ H ti31 [yN,yN,yN] fun b268 w269 H=>⟨H.pick [4,6,7,8] [3,4,5,6,7,8,9],(ro 14 rfl (zu H 0 [Sv ra260Alive (((⟨t.qG,(bags.take s.qA.length),bags[s.qA.length]!⟩:qP).qG).length) rc260Alive,Sv ra260Bags (((⟨t.qG,(bags.take s.qA.length),bags[s.qA.length]!⟩:qP).qH).length) rc260Bags,Sv ra260Around (((⟨t.qG,(bags.take s.qA.length),bags[s.qA.length]!⟩:qP).qF).length) rc260Around] sizeOf31 fun w270 H=>⟨H.pick [4,6,7,8] [3,4,5,6,7,8,9],?_⟩))⟩))⟩
     refine xJ qh ((meet ⟨_,b268,ra260Alive,rc260Alive,ra260Bags,rc260Bags,ra260Around,rc260Around,rx260Bags,rF260Bags,uE4,N,H.pick [0,1,2,3,4,5,6,7,8] [0,4,5,6,7,8]⟩))
    refine xZ H ti31 [yN,yN,yN] fun b271 w272 H=>⟨H.pick [1,3,4,5] [2,3,4,5,6,7,8],(ro 12 rfl ?_)⟩
    obtain ⟨cp0,cp1,cp2,cp3⟩:=copy_pre (al:=t.qG) E_bags p8 p9.2 p12
    have sz276:=H.base.size
    refine oc (copied_ok _ (⟨t.qG,(bags.take s.qA.length),bags[s.qA.length]!⟩:qP) (H.get 5 rfl).1 (H.get 0 rfl).1 (H.get 1 rfl).1 qg qg qg qg) ?_
    rintro _ w274 ⟨ra273Alive,rn273Alive,rc273Alive,ra273Bags,rn273Bags,rc273Bags,rx273Bags,rF273Bags,ra273Around,rn273Around,rc273Around,rfl,M,K⟩ _
    replace N:=N.merge sz276 qm M
    replace H:=H.merge K M
    obtain rfl:=H.rowNB 0 rfl
    obtain rfl:=H.x8 (α:=yLI) 1 rfl 0 rfl qj
    obtain rfl:=H.yx 2 rfl
    refine ⟨H.pick [4,6,7,8] [3,4,5,6,7,8,9],(ro 14 rfl (zu H 3 [Sv ra273Alive (((⟨t.qG,(bags.take s.qA.length),bags[s.qA.length]!⟩:qP).qG).length) rc273Alive,Sv ra273Bags (((⟨t.qG,(bags.take s.qA.length),bags[s.qA.length]!⟩:qP).qH).length) rc273Bags,Sv ra273Around (((⟨t.qG,(bags.take s.qA.length),bags[s.qA.length]!⟩:qP).qF).length) rc273Around] sizeOf31 fun w281 H=>⟨H.pick [4,6,7,8] [3,4,5,6,7,8,9],(xJ qh (?_))⟩))⟩
    exact meet ⟨_,b271,ra273Alive,rc273Alive,ra273Bags,rc273Bags,ra273Around,rc273Around,rx273Bags,rF273Bags,uE4,N,H.pick [3,0,1,2,4,5,6,7,8] [0,4,5,6,7,8]⟩
   refine xZ H ti31 [yN,yN,yN] fun b282 w283 H=>⟨H.pick [1,3,4,5] [2,3,4,5,6,7,8],(ro 11 rfl (vX [Sv qU t.qG.length qQ,Sv a254 ((bags.take s.qA.length).length) c8,Sv a252 ((bags[s.qA.length]!).length) c253] [(0,Sv qU t.qG.length qQ),(1,Sv a254 ((bags.take s.qA.length).length) c8),(2,Sv a252 ((bags[s.qA.length]!).length) c253)] (⟨H.pick [1,3,4,5] [2,3,4,5,6,7,8],(ro 12 rfl ?_)⟩)))⟩
   obtain ⟨cp0,cp1,cp2,cp3⟩:=copy_pre (al:=t.qG) E_bags p8 p9.2 p12
   have sz287:=H.base.size
   refine oc (copied_ok _ (⟨t.qG,(bags.take s.qA.length),bags[s.qA.length]!⟩:qP) (H.get 5 rfl).1 (H.get 0 rfl).1 (H.get 1 rfl).1 qg qg qg qg) ?_
   rintro _ w285 ⟨ra284Alive,rn284Alive,rc284Alive,ra284Bags,rn284Bags,rc284Bags,rx284Bags,rF284Bags,ra284Around,rn284Around,rc284Around,rfl,M,K⟩ _
   replace N:=N.merge sz287 qm M
   replace H:=H.merge K M
   obtain rfl:=H.rowNB 0 rfl
   obtain rfl:=H.x8 (α:=yLI) 1 rfl 0 rfl qj
   obtain rfl:=H.yx 2 rfl
   refine ⟨H.pick [4,6,7,8] [3,4,5,6,7,8,9],(ro 14 rfl (zu H 3 [Sv ra284Alive (((⟨t.qG,(bags.take s.qA.length),bags[s.qA.length]!⟩:qP).qG).length) rc284Alive,Sv ra284Bags (((⟨t.qG,(bags.take s.qA.length),bags[s.qA.length]!⟩:qP).qH).length) rc284Bags,Sv ra284Around (((⟨t.qG,(bags.take s.qA.length),bags[s.qA.length]!⟩:qP).qF).length) rc284Around] sizeOf31 fun w292 H=>⟨H.pick [4,6,7,8] [3,4,5,6,7,8,9],(xJ qh (?_))⟩))⟩
   exact meet ⟨_,b282,ra284Alive,rc284Alive,ra284Bags,rc284Bags,ra284Around,rc284Around,rx284Bags,rF284Bags,uE4,N,H.pick [3,0,1,2,4,5,6,7,8] [0,4,5,6,7,8]⟩
  refine Xi (fun ρ w297=>∃ (xY:Env) (a293:yOA) (G294:yLN) (G295:yLN),ρ=upd (upd (upd (upd (upd (upd xY 3 (pp b1 0)) 6 (pp b5 0)) 9 (Sv (aa b36 0) s.qA.length s.qA.length)) 77 (Sv qU t.qG.length qQ)) 81 (Sv a293 ((bags.take s.qA.length).length) c8)) 85 (pp b240 (0+(s.qA.length:Int).toNat * 1))∧Fresh w.heap.size []∧St w w297 [rr (aa b36 0) s.qA.length s.qA.length 4 1 ((Qg s counts s.qA.length i).map (Value.bool)),rr none 0 0 0 1 [],.box b5 [yN,yN,yN] 31,.box b3 (yT t qU qQ xf qY qM qL) 31,.box b1 (yS s qE qC qO qK) 27] [sF false G294 a293 c8 (bags.take s.qA.length),isF false G295 (Sv (aa b240 0) (t.qH.length+1) c8) bags,xN false F_bags x_bags bags,sF false xe qE qC s.qA,sF false xE qO qK s.qB,sF false xO qU qQ t.qG,sF false zo xf qY t.qH,sF false xB qM qL t.qF,sF false Fcounts acounts ccounts counts]) 5 #[true,true,true,true,true,true,true,true,true,true,false,false,false,false,false] ?_ fun L296=>?_
  ·skip
   rintro ρ w298 ⟨xY,a293,G294,G295,rfl,N,H⟩
   refine jb [10,13] qh qm (jQ rfl ?_ (jQ rfl ?_ jd))
   ·skip
    have hl299:=H.isLen 1 rfl
    obtain ⟨ae300,ce300,Fe300,H⟩:=H.jq 1 rfl s.qA.length s.qA.length qf qf qf
    refine zF (Sv ae300 ((bags[s.qA.length]!).length) ce300) isAgg24 rfl (H.x9 1 rfl 0 rfl) (⟨H.pick [0,2,3,4] [4,5,6,7,8,9,10],(y8 L257 ⟨_,ae300,ce300,a293,G294,Fe300,uE6,N,H.pick [0,1,2,3,4] [2,0,4,5,6,7,8,9,10]⟩)⟩)
   refine xZ H ti31 [yN,yN,yN] fun b301 w302 H=>⟨H.pick [1,3,4,5] [2,3,4,5,6,7,8],(ro 10 rfl ?_)⟩
   have hl303:=H.isLen 1 rfl
   obtain ⟨ae304,ce304,Fe304,H⟩:=H.jq 1 rfl s.qA.length s.qA.length qf qf qf
   refine zF (Sv ae304 ((bags[s.qA.length]!).length) ce304) isAgg24 rfl (H.x9 1 rfl 0 rfl) (⟨H.pick [1,3,4,5] [4,5,6,7,8,9,10],(ro 11 rfl (vX [Sv qU t.qG.length qQ,Sv a293 ((bags.take s.qA.length).length) c8,Sv ae304 ((bags[s.qA.length]!).length) ce304] [(0,Sv qU t.qG.length qQ),(1,Sv a293 ((bags.take s.qA.length).length) c8),(2,Sv ae304 ((bags[s.qA.length]!).length) ce304)] (⟨H.pick [1,3,4,5] [4,5,6,7,8,9,10],(ro 12 rfl ?_)⟩)))⟩)
   obtain ⟨cp0,cp1,cp2,cp3⟩:=copy_pre (al:=t.qG) E_bags p8 p9.2 p12
   have sz308:=H.base.size
   refine oc (copied_ok _ (⟨t.qG,(bags.take s.qA.length),bags[s.qA.length]!⟩:qP) (H.get 7 rfl).1 (H.get 2 rfl).1 (H.get 0 rfl).1 qg qg qg qg) ?_
   rintro _ w306 ⟨ra305Alive,rn305Alive,rc305Alive,ra305Bags,rn305Bags,rc305Bags,rx305Bags,rF305Bags,ra305Around,rn305Around,rc305Around,rfl,M,K⟩ _
   replace N:=N.merge sz308 qm M
   replace H:=H.merge K M
   obtain rfl:=H.rowNB 0 rfl
   obtain rfl:=H.x8 (α:=yLI) 1 rfl 0 rfl qj
   obtain rfl:=H.yx 2 rfl
   refine ⟨H.pick [4,6,7,8] [5,6,7,8,9,10,11],(ro 14 rfl (zu H 3 [Sv ra305Alive (((⟨t.qG,(bags.take s.qA.length),bags[s.qA.length]!⟩:qP).qG).length) rc305Alive,Sv ra305Bags (((⟨t.qG,(bags.take s.qA.length),bags[s.qA.length]!⟩:qP).qH).length) rc305Bags,Sv ra305Around (((⟨t.qG,(bags.take s.qA.length),bags[s.qA.length]!⟩:qP).qF).length) rc305Around] sizeOf31 fun w313 H=>⟨H.pick [4,6,7,8] [5,6,7,8,9,10,11],(xJ qh (?_))⟩))⟩
   exact meet ⟨_,b301,ra305Alive,rc305Alive,ra305Bags,rc305Bags,ra305Around,rc305Around,rx305Bags,rF305Bags,uE4,N,H.pick [3,0,1,2,4,5,6,7,8] [0,6,7,8,9,10]⟩
  refine Xi (fun ρ w316=>∃ (xY:Env) (b314:Nat),ρ=upd (upd (upd (upd (upd (upd (upd (upd xY 3 (pp b1 0)) 6 (pp b5 0)) 9 (Sv (aa b36 0) s.qA.length s.qA.length)) 13 (pp b314 0)) 77 (Sv qU t.qG.length qQ)) 78 (Sv (aa b240 0) (t.qH.length+1) c8)) 80 (yI s.qA.length)) 85 (pp b240 (0+(s.qA.length:Int).toNat * 1))∧Fresh w.heap.size []∧St w w316 [.box b314 [yN,yN,yN] 31,rr (aa b36 0) s.qA.length s.qA.length 4 1 ((Qg s counts s.qA.length i).map (Value.bool)),rr (aa b240 0) (t.qH.length+1) c8 24 1 x_bags,.box b5 [yN,yN,yN] 31,.box b3 (yT t qU qQ xf qY qM qL) 31,.box b1 (yS s qE qC qO qK) 27] [xN false F_bags x_bags bags,sF false xe qE qC s.qA,sF false xE qO qK s.qB,sF false xO qU qQ t.qG,sF false zo xf qY t.qH,sF false xB qM qL t.qF,sF false Fcounts acounts ccounts counts]) 5 #[true,true,true,true,true,false,true,true,true,true,false,false,false,true,false] ?_ fun L315=>?_
  ·skip
   rintro ρ w317 ⟨xY,b314,rfl,N,H⟩
   refine jb [5,10] qh qm (jQ rfl ?_ (jQ rfl ?_ jd))
   ·skip
    obtain ⟨G318,hg320,hn319,H⟩:=H.Xz (α:=yLI) 2 rfl 0 rfl qj
    have hl325:=H.isLen 0 rfl
    refine o_head H 0 rfl s.qA.length underlying29 ti24 rfl rfl qf qf fun a321 G322 hG323 H=>?_
    have hl324:(bags.take s.qA.length).length=s.qA.length:=List.length_take_of_le qf
    refine ⟨H.pick [1,3,4,5] [2,3,4,5,6,7,8],(ro 10 rfl ?_)⟩
    have hl326:=H.isLen 1 rfl
    obtain ⟨ae327,ce327,Fe327,H⟩:=H.jq 1 rfl s.qA.length s.qA.length qf qf qf
    refine zF (Sv ae327 ((bags[s.qA.length]!).length) ce327) isAgg24 rfl (H.x9 1 rfl 0 rfl) (⟨H.pick [1,3,4,5] [4,5,6,7,8,9,10],(ro 11 rfl (vX [Sv qU t.qG.length qQ,Sv a321 ((bags.take s.qA.length).length) c8,Sv ae327 ((bags[s.qA.length]!).length) ce327] [(0,Sv qU t.qG.length qQ),(1,Sv a321 ((bags.take s.qA.length).length) c8),(2,Sv ae327 ((bags[s.qA.length]!).length) ce327)] (⟨H.pick [1,3,4,5] [4,5,6,7,8,9,10],(ro 12 rfl ?_)⟩)))⟩)
    obtain ⟨cp0,cp1,cp2,cp3⟩:=copy_pre (al:=t.qG) E_bags p8 p9.2 p12
    have sz331:=H.base.size
    refine oc (copied_ok _ (⟨t.qG,(bags.take s.qA.length),bags[s.qA.length]!⟩:qP) (H.get 7 rfl).1 (H.get 2 rfl).1 (H.get 0 rfl).1 qg qg qg qg) ?_
    rintro _ w329 ⟨ra328Alive,rn328Alive,rc328Alive,ra328Bags,rn328Bags,rc328Bags,rx328Bags,rF328Bags,ra328Around,rn328Around,rc328Around,rfl,M,K⟩ _
    replace N:=N.merge sz331 qm M
    replace H:=H.merge K M
    obtain rfl:=H.rowNB 0 rfl
    obtain rfl:=H.x8 (α:=yLI) 1 rfl 0 rfl qj
    obtain rfl:=H.yx 2 rfl
    refine ⟨H.pick [4,6,7,8] [5,6,7,8,9,10,11],(ro 14 rfl (zu H 3 [Sv ra328Alive (((⟨t.qG,(bags.take s.qA.length),bags[s.qA.length]!⟩:qP).qG).length) rc328Alive,Sv ra328Bags (((⟨t.qG,(bags.take s.qA.length),bags[s.qA.length]!⟩:qP).qH).length) rc328Bags,Sv ra328Around (((⟨t.qG,(bags.take s.qA.length),bags[s.qA.length]!⟩:qP).qF).length) rc328Around] sizeOf31 fun w336 H=>⟨H.pick [4,6,7,8] [5,6,7,8,9,10,11],(xJ qh (?_))⟩))⟩
    exact meet ⟨_,b314,ra328Alive,rc328Alive,ra328Bags,rc328Bags,ra328Around,rc328Around,rx328Bags,rF328Bags,uE4,N,H.pick [3,0,1,2,4,5,6,7,8] [0,6,7,8,9,10]⟩
   obtain ⟨a337,c338,G339,s340,h341,H⟩:=H.jP 2 rfl 0 rfl (iv:=s.qA.length) s.qA.length qf qf
   refine zF (Sv a337 ((bags[s.qA.length]!).length) c338) isAgg24 rfl (h341) (⟨H.pick [1,3,4,5] [1,2,3,4,5,6,7],(ro 5 rfl ?_)⟩)
   obtain ⟨G342,hg344,hn343,H⟩:=H.Xz (α:=yLI) 2 rfl 1 rfl qj
   have hl349:=H.isLen 0 rfl
   refine o_head H 0 rfl s.qA.length underlying29 ti24 rfl rfl qf qf fun a345 G346 hG347 H=>?_
   have hl348:(bags.take s.qA.length).length=s.qA.length:=List.length_take_of_le qf
   refine ⟨H.pick [1,3,4,5] [3,4,5,6,7,8,9],(ro 11 rfl (vX [Sv qU t.qG.length qQ,Sv a345 ((bags.take s.qA.length).length) c8,Sv a337 ((bags[s.qA.length]!).length) c338] [(0,Sv qU t.qG.length qQ),(1,Sv a345 ((bags.take s.qA.length).length) c8),(2,Sv a337 ((bags[s.qA.length]!).length) c338)] (⟨H.pick [1,3,4,5] [3,4,5,6,7,8,9],(ro 12 rfl ?_)⟩)))⟩
   obtain ⟨cp0,cp1,cp2,cp3⟩:=copy_pre (al:=t.qG) E_bags p8 p9.2 p12
   have sz353:=H.base.size
   refine oc (copied_ok _ (⟨t.qG,(bags.take s.qA.length),bags[s.qA.length]!⟩:qP) (H.get 6 rfl).1 (H.get 0 rfl).1 (H.get 2 rfl).1 qg qg qg qg) ?_
   rintro _ w351 ⟨ra350Alive,rn350Alive,rc350Alive,ra350Bags,rn350Bags,rc350Bags,rx350Bags,rF350Bags,ra350Around,rn350Around,rc350Around,rfl,M,K⟩ _
   replace N:=N.merge sz353 qm M
   replace H:=H.merge K M
   obtain rfl:=H.rowNB 0 rfl
   obtain rfl:=H.x8 (α:=yLI) 1 rfl 0 rfl qj
   obtain rfl:=H.yx 2 rfl
   refine ⟨H.pick [4,6,7,8] [4,5,6,7,8,9,10],(ro 14 rfl (zu H 3 [Sv ra350Alive (((⟨t.qG,(bags.take s.qA.length),bags[s.qA.length]!⟩:qP).qG).length) rc350Alive,Sv ra350Bags (((⟨t.qG,(bags.take s.qA.length),bags[s.qA.length]!⟩:qP).qH).length) rc350Bags,Sv ra350Around (((⟨t.qG,(bags.take s.qA.length),bags[s.qA.length]!⟩:qP).qF).length) rc350Around] sizeOf31 fun w358 H=>⟨H.pick [4,6,7,8] [4,5,6,7,8,9,10],(xJ qh (?_))⟩))⟩
   exact meet ⟨_,b314,ra350Alive,rc350Alive,ra350Bags,rc350Bags,ra350Around,rc350Around,rx350Bags,rF350Bags,uE4,N,H.pick [3,0,1,2,4,5,6,7,8] [0,5,6,7,8,9]⟩
  refine Xi (fun ρ w361=>∃ (xY:Env) (b359:Nat),ρ=upd (upd (upd (upd (upd (upd (upd (upd (upd xY 3 (pp b1 0)) 6 (pp b5 0)) 9 (Sv (aa b36 0) s.qA.length s.qA.length)) 13 (pp b359 0)) 77 (Sv qU t.qG.length qQ)) 78 (Sv (aa b240 0) (t.qH.length+1) c8)) 80 (yI s.qA.length)) 82 (Sv (aa b240 0) (t.qH.length+1) c8)) 83 (.agg #[yI s.xh,Sv qE s.qA.length qC,Sv qO s.qB.length qK])∧Fresh w.heap.size []∧St w w361 [.box b359 [yN,yN,yN] 31,rr (aa b36 0) s.qA.length s.qA.length 4 1 ((Qg s counts s.qA.length i).map (Value.bool)),rr (aa b240 0) (t.qH.length+1) c8 24 1 x_bags,.box b5 [yN,yN,yN] 31,.box b3 (yT t qU qQ xf qY qM qL) 31,.box b1 (yS s qE qC qO qK) 27] [xN false F_bags x_bags bags,sF false xe qE qC s.qA,sF false xE qO qK s.qB,sF false xO qU qQ t.qG,sF false zo xf qY t.qH,sF false xB qM qL t.qF,sF false Fcounts acounts ccounts counts]) 7 #[true,true,true,true,true,false,true,true,false,false,false,false,false,true,false] ?_ fun L360=>?_
  ·skip
   rintro ρ w362 ⟨xY,b359,rfl,N,H⟩
   refine jb [5,8] qh qm (jQ rfl ?_ (jQ rfl ?_ jd))
   ·skip
    obtain ⟨G363,hg365,hn364,H⟩:=H.Xz (α:=yLI) 2 rfl 0 rfl qj
    have hl370:=H.isLen 0 rfl
    refine o_head H 0 rfl s.qA.length underlying29 ti24 rfl rfl qf qf fun a366 G367 hG368 H=>?_
    have hl369:(bags.take s.qA.length).length=s.qA.length:=List.length_take_of_le qf
    refine ⟨H.pick [1,3,4,5] [2,3,4,5,6,7,8],(ro 8 rfl (oq (VO _ s (H.get 3 rfl).1 (H.get 4 rfl).1) H fun w372 H=>⟨H.pick [1,3,4,5] [2,3,4,5,6,7,8],?_⟩))⟩
    obtain ⟨ae374,ce374,Fe374,H⟩:=H.jq 1 rfl s.qA.length s.qA.length qf qf qf
    refine tI 9 rfl rfl rfl (H.pick [1,3,4,5] [4,5,6,7,8,9,10]) ?_
    refine ro 10 rfl (zF (Sv ae374 ((bags[s.qA.length]!).length) ce374) isAgg24 rfl (H.x9 1 rfl 0 rfl) (⟨H.pick [1,3,4,5] [4,5,6,7,8,9,10],(ro 11 rfl (vX [Sv qU t.qG.length qQ,Sv a366 ((bags.take s.qA.length).length) c8,Sv ae374 ((bags[s.qA.length]!).length) ce374] [(0,Sv qU t.qG.length qQ),(1,Sv a366 ((bags.take s.qA.length).length) c8),(2,Sv ae374 ((bags[s.qA.length]!).length) ce374)] (⟨H.pick [1,3,4,5] [4,5,6,7,8,9,10],(ro 12 rfl ?_)⟩)))⟩))
    obtain ⟨cp0,cp1,cp2,cp3⟩:=copy_pre (al:=t.qG) E_bags p8 p9.2 p12
    have sz378:=H.base.size
    refine oc (copied_ok _ (⟨t.qG,(bags.take s.qA.length),bags[s.qA.length]!⟩:qP) (H.get 7 rfl).1 (H.get 2 rfl).1 (H.get 0 rfl).1 qg qg qg qg) ?_
    rintro _ w376 ⟨ra375Alive,rn375Alive,rc375Alive,ra375Bags,rn375Bags,rc375Bags,rx375Bags,rF375Bags,ra375Around,rn375Around,rc375Around,rfl,M,K⟩ _
    replace N:=N.merge sz378 qm M
    replace H:=H.merge K M
    obtain rfl:=H.rowNB 0 rfl
    obtain rfl:=H.x8 (α:=yLI) 1 rfl 0 rfl qj
    obtain rfl:=H.yx 2 rfl
    refine ⟨H.pick [4,6,7,8] [5,6,7,8,9,10,11],(ro 14 rfl (zu H 3 [Sv ra375Alive (((⟨t.qG,(bags.take s.qA.length),bags[s.qA.length]!⟩:qP).qG).length) rc375Alive,Sv ra375Bags (((⟨t.qG,(bags.take s.qA.length),bags[s.qA.length]!⟩:qP).qH).length) rc375Bags,Sv ra375Around (((⟨t.qG,(bags.take s.qA.length),bags[s.qA.length]!⟩:qP).qF).length) rc375Around] sizeOf31 fun w383 H=>⟨H.pick [4,6,7,8] [5,6,7,8,9,10,11],(xJ qh (?_))⟩))⟩
    exact meet ⟨_,b359,ra375Alive,rc375Alive,ra375Bags,rc375Bags,ra375Around,rc375Around,rx375Bags,rF375Bags,uE4,N,H.pick [3,0,1,2,4,5,6,7,8] [0,6,7,8,9,10]⟩
   refine oq (VO _ s (H.get 1 rfl).1 (H.get 2 rfl).1) H fun w385 H=>⟨H.pick [1,3,4,5] [0,1,2,3,4,5,6],(tI 9 rfl rfl rfl (H.pick [1,3,4,5] [0,1,2,3,4,5,6]) ?_)⟩
   exact y8 L315 ⟨_,b359,uE8,N,H⟩
  have S:=H.yj [0,2,3,4] [0,1,2,3,4,5,6]
  refine tF 0 rfl rfl S ?_
  refine tL 1 rfl rfl (fun _ h=>h.cell 2 rfl rfl) S ?_
  refine rtp 2 (Sv (aa b240 0) (t.qH.length+1) c8) S ?_
  refine rt 3 (.agg #[yI s.xh,Sv qE s.qA.length qC,Sv qO s.qB.length qK]) (Qv (cs:=(yS s qE qC qO qK)) isAgg27 sizeOf27 rfl (fun _ h=>qJ (h.cells 3 rfl) 0 3)) S ?_
  refine rtp 6 (Sv (aa b240 0) (t.qH.length+1) c8) S ?_
  refine rt 7 (.agg #[yI s.xh,Sv qE s.qA.length qC,Sv qO s.qB.length qK]) (Qv (cs:=(yS s qE qC qO qK)) isAgg27 sizeOf27 rfl (fun _ h=>qJ (h.cells 3 rfl) 0 3)) S ?_
  refine jb [4,13] qh qm (jQ rfl ?_ (jQ rfl ?_ jd))
  ·skip
   refine oq (VO _ s (H.get 1 rfl).1 (H.get 2 rfl).1) H fun w388 H=>⟨H.pick [0,2,3,4] [0,1,2,3,4,5,6],(jb [5,8,13] qh qm (jQ rfl ?_ (jQ rfl ?_ (jQ rfl ?_ jd))))⟩
   ·skip
    obtain ⟨G390,hg392,hn391,H⟩:=H.Xz (α:=yLI) 1 rfl 0 rfl qj
    have hl397:=H.isLen 0 rfl
    refine o_head H 0 rfl s.qA.length underlying29 ti24 rfl rfl qf qf fun a393 G394 hG395 H=>?_
    have hl396:(bags.take s.qA.length).length=s.qA.length:=List.length_take_of_le qf
    refine ⟨H.pick [0,2,3,4] [2,3,4,5,6,7,8],(jb [8,13] qh qm (jQ rfl ?_ (jQ rfl ?_ jd)))⟩
    ·skip
     refine oq (VO _ s (H.get 3 rfl).1 (H.get 4 rfl).1) H fun w399 H=>⟨H.pick [0,2,3,4] [2,3,4,5,6,7,8],?_⟩
     obtain ⟨ae401,ce401,Fe401,H⟩:=H.jq 1 rfl s.qA.length s.qA.length qf qf qf
     refine tI 9 rfl rfl rfl (H.pick [0,2,3,4] [4,5,6,7,8,9,10]) ?_
     exact y8 L296 ⟨_,a393,G394,G390,uE6,N,H.pick [0,1,2,3,4] [2,3,4,5,6,7,8,9,10]⟩
    refine xZ H ti31 [yN,yN,yN] fun b402 w403 H=>⟨H.pick [1,3,4,5] [2,3,4,5,6,7,8],(ro 8 rfl (oq (VO _ s (H.get 3 rfl).1 (H.get 4 rfl).1) H fun w405 H=>⟨H.pick [1,3,4,5] [2,3,4,5,6,7,8],?_⟩))⟩
    obtain ⟨ae407,ce407,Fe407,H⟩:=H.jq 1 rfl s.qA.length s.qA.length qf qf qf
    refine tI 9 rfl rfl rfl (H.pick [1,3,4,5] [4,5,6,7,8,9,10]) ?_
    refine ro 10 rfl (zF (Sv ae407 ((bags[s.qA.length]!).length) ce407) isAgg24 rfl (H.x9 1 rfl 0 rfl) (⟨H.pick [1,3,4,5] [4,5,6,7,8,9,10],(ro 11 rfl (vX [Sv qU t.qG.length qQ,Sv a393 ((bags.take s.qA.length).length) c8,Sv ae407 ((bags[s.qA.length]!).length) ce407] [(0,Sv qU t.qG.length qQ),(1,Sv a393 ((bags.take s.qA.length).length) c8),(2,Sv ae407 ((bags[s.qA.length]!).length) ce407)] (⟨H.pick [1,3,4,5] [4,5,6,7,8,9,10],(ro 12 rfl ?_)⟩)))⟩))
    obtain ⟨cp0,cp1,cp2,cp3⟩:=copy_pre (al:=t.qG) E_bags p8 p9.2 p12
    have sz411:=H.base.size
    refine oc (copied_ok _ (⟨t.qG,(bags.take s.qA.length),bags[s.qA.length]!⟩:qP) (H.get 7 rfl).1 (H.get 2 rfl).1 (H.get 0 rfl).1 qg qg qg qg) ?_
    rintro _ w409 ⟨ra408Alive,rn408Alive,rc408Alive,ra408Bags,rn408Bags,rc408Bags,rx408Bags,rF408Bags,ra408Around,rn408Around,rc408Around,rfl,M,K⟩ _
    replace N:=N.merge sz411 qm M
    replace H:=H.merge K M
    obtain rfl:=H.rowNB 0 rfl
    obtain rfl:=H.x8 (α:=yLI) 1 rfl 0 rfl qj
    obtain rfl:=H.yx 2 rfl
    refine ⟨H.pick [4,6,7,8] [5,6,7,8,9,10,11],(ro 14 rfl (zu H 3 [Sv ra408Alive (((⟨t.qG,(bags.take s.qA.length),bags[s.qA.length]!⟩:qP).qG).length) rc408Alive,Sv ra408Bags (((⟨t.qG,(bags.take s.qA.length),bags[s.qA.length]!⟩:qP).qH).length) rc408Bags,Sv ra408Around (((⟨t.qG,(bags.take s.qA.length),bags[s.qA.length]!⟩:qP).qF).length) rc408Around] sizeOf31 fun w416 H=>⟨H.pick [4,6,7,8] [5,6,7,8,9,10,11],(xJ qh (?_))⟩))⟩
    exact meet ⟨_,b402,ra408Alive,rc408Alive,ra408Bags,rc408Bags,ra408Around,rc408Around,rx408Bags,rF408Bags,uE4,N,H.pick [3,0,1,2,4,5,6,7,8] [0,6,7,8,9,10]⟩
   ·skip
    refine oq (VO _ s (H.get 1 rfl).1 (H.get 2 rfl).1) H fun w418 H=>⟨H.pick [0,2,3,4] [0,1,2,3,4,5,6],(tI 9 rfl rfl rfl (H.pick [0,2,3,4] [0,1,2,3,4,5,6]) ?_)⟩
    refine jb [5,10,13] qh qm (jQ rfl ?_ (jQ rfl ?_ (jQ rfl ?_ jd)))
    ·skip
     obtain ⟨G420,hg422,hn421,H⟩:=H.Xz (α:=yLI) 1 rfl 0 rfl qj
     have hl427:=H.isLen 0 rfl
     refine o_head H 0 rfl s.qA.length underlying29 ti24 rfl rfl qf qf fun a423 G424 hG425 H=>?_
     have hl426:(bags.take s.qA.length).length=s.qA.length:=List.length_take_of_le qf
     refine ⟨H.pick [0,2,3,4] [2,3,4,5,6,7,8],(y8 L296 ⟨_,a423,G424,G420,uE6,N,H⟩)⟩
    ·skip
     obtain ⟨a428,c429,G430,s431,h432,H⟩:=H.jP 1 rfl 0 rfl (iv:=s.qA.length) s.qA.length qf qf
     refine zF (Sv a428 ((bags[s.qA.length]!).length) c429) isAgg24 rfl (h432) (⟨H.pick [0,2,3,4] [1,2,3,4,5,6,7],(jb [5,13] qh qm (jQ rfl ?_ (jQ rfl ?_ jd)))⟩)
     ·skip
      obtain ⟨G433,hg435,hn434,H⟩:=H.Xz (α:=yLI) 1 rfl 1 rfl qj
      have hl440:=H.isLen 0 rfl
      refine o_head H 0 rfl s.qA.length underlying29 ti24 rfl rfl qf qf fun a436 G437 hG438 H=>?_
      have hl439:(bags.take s.qA.length).length=s.qA.length:=List.length_take_of_le qf
      refine ⟨H.pick [0,2,3,4] [3,4,5,6,7,8,9],(y8 L257 ⟨_,a428,c429,a436,G437,G430,uE6,N,H.pick [0,1,2,3,4] [0,2,3,4,5,6,7,8,9]⟩)⟩
     refine xZ H ti31 [yN,yN,yN] fun b441 w442 H=>⟨H.pick [1,3,4,5] [1,2,3,4,5,6,7],(ro 5 rfl ?_)⟩
     obtain ⟨G443,hg445,hn444,H⟩:=H.Xz (α:=yLI) 2 rfl 1 rfl qj
     have hl450:=H.isLen 0 rfl
     refine o_head H 0 rfl s.qA.length underlying29 ti24 rfl rfl qf qf fun a446 G447 hG448 H=>?_
     have hl449:(bags.take s.qA.length).length=s.qA.length:=List.length_take_of_le qf
     refine ⟨H.pick [1,3,4,5] [3,4,5,6,7,8,9],(ro 11 rfl (vX [Sv qU t.qG.length qQ,Sv a446 ((bags.take s.qA.length).length) c8,Sv a428 ((bags[s.qA.length]!).length) c429] [(0,Sv qU t.qG.length qQ),(1,Sv a446 ((bags.take s.qA.length).length) c8),(2,Sv a428 ((bags[s.qA.length]!).length) c429)] (⟨H.pick [1,3,4,5] [3,4,5,6,7,8,9],(ro 12 rfl ?_)⟩)))⟩
     obtain ⟨cp0,cp1,cp2,cp3⟩:=copy_pre (al:=t.qG) E_bags p8 p9.2 p12
     have sz454:=H.base.size
     refine oc (copied_ok _ (⟨t.qG,(bags.take s.qA.length),bags[s.qA.length]!⟩:qP) (H.get 6 rfl).1 (H.get 0 rfl).1 (H.get 2 rfl).1 qg qg qg qg) ?_
     rintro _ w452 ⟨ra451Alive,rn451Alive,rc451Alive,ra451Bags,rn451Bags,rc451Bags,rx451Bags,rF451Bags,ra451Around,rn451Around,rc451Around,rfl,M,K⟩ _
     replace N:=N.merge sz454 qm M
     replace H:=H.merge K M
     obtain rfl:=H.rowNB 0 rfl
     obtain rfl:=H.x8 (α:=yLI) 1 rfl 0 rfl qj
     obtain rfl:=H.yx 2 rfl
     refine ⟨H.pick [4,6,7,8] [4,5,6,7,8,9,10],(ro 14 rfl (zu H 3 [Sv ra451Alive (((⟨t.qG,(bags.take s.qA.length),bags[s.qA.length]!⟩:qP).qG).length) rc451Alive,Sv ra451Bags (((⟨t.qG,(bags.take s.qA.length),bags[s.qA.length]!⟩:qP).qH).length) rc451Bags,Sv ra451Around (((⟨t.qG,(bags.take s.qA.length),bags[s.qA.length]!⟩:qP).qF).length) rc451Around] sizeOf31 fun w459 H=>⟨H.pick [4,6,7,8] [4,5,6,7,8,9,10],(xJ qh (?_))⟩))⟩
     exact meet ⟨_,b441,ra451Alive,rc451Alive,ra451Bags,rc451Bags,ra451Around,rc451Around,rx451Bags,rF451Bags,uE4,N,H.pick [3,0,1,2,4,5,6,7,8] [0,5,6,7,8,9]⟩
    refine xZ H ti31 [yN,yN,yN] fun b460 w461 H=>⟨H.pick [1,3,4,5] [0,1,2,3,4,5,6],(y8 L315 ⟨_,b460,uE8,N,H⟩)⟩
   refine xZ H ti31 [yN,yN,yN] fun b462 w463 H=>⟨H.pick [1,3,4,5] [0,1,2,3,4,5,6],(y8 L360 ⟨_,b462,uE9,N,H⟩)⟩
  refine xZ H ti31 [yN,yN,yN] fun b464 w465 H=>⟨H.pick [1,3,4,5] [0,1,2,3,4,5,6],(ro 4 rfl (oq (VO _ s (H.get 1 rfl).1 (H.get 2 rfl).1) H fun w467 H=>⟨H.pick [1,3,4,5] [0,1,2,3,4,5,6],(y8 L360 ⟨_,b464,uE9,N,H⟩)⟩))⟩
 clear H N
 rintro ρ w469 ⟨xY,b241,ra242,rc243,ra244,rc245,ra246,rc247,rx248,rF249,rfl,N,H⟩
 refine t_n (zcc (sp (Sv (aa b36 0) s.qA.length s.qA.length) (oN rfl (sw (o_sub s.qA.length 1 rfl rfl qf (sp (yI (s.qA.length - 1)) (zjn (xg ?_))))))))
 obtain rfl:i=s.qB.length:=by omega
 have hl:=stepped_live p1 E_bags qf
 obtain ⟨s1,s2⟩:=step_tab E_bags
 rw [show (⟨t.qG,(bags.take s.qA.length),bags[s.qA.length]!⟩:qP)=xw s t counts from by rw [show bags.take s.qA.length=_ from s1,show bags[s.qA.length]! =_ from s2];rfl] at H
 refine zJ (fun m' ρ w470=>∃ (xY:Env) (c:Int) (out_Alive:List Bool) (out_Bags:yLL) (vg:List Value) (zq:yLN) (j:Nat),ρ=upd (upd (upd (upd (upd xY 3 (pp b1 0)) 6 (pp b5 0)) 9 (Sv (aa b36 0) s.qA.length s.qA.length)) 13 (pp b241 0)) 14 (yI c)∧out_Alive=(xu s counts (xw s t counts) j).qG∧out_Bags=(xu s counts (xw s t counts) j).qH∧(c=(s.qA.length:Int) - 1 - j)∧(j+1≤s.qA.length)∧m' =(c:Int).toNat∧Fresh w.heap.size [zq]∧St w w470 [.box b241 [Sv ra242 (((xw s t counts).qG).length) rc243,Sv ra244 (((xw s t counts).qH).length) rc245,Sv ra246 (((xw s t counts).qF).length) rc247] 31,rr ra242 (((xw s t counts).qG).length) rc243 4 1 (out_Alive.map (Value.bool)),rr ra244 (((xw s t counts).qH).length) rc245 24 1 vg,rr ra246 (((xw s t counts).qF).length) rc247 2 1 (((xw s t counts).qF).map (Value.int .i64)),rr (aa b36 0) s.qA.length s.qA.length 4 1 ((Qg s counts s.qA.length s.qB.length).map (Value.bool)),.box b5 [yN,yN,yN] 31,.box b3 (yT t qU qQ xf qY qM qL) 31,.box b1 (yS s qE qC qO qK) 27] [xN true zq vg out_Bags,sF false xe qE qC s.qA,sF false xE qO qK s.qB,sF false xO qU qQ t.qG,sF false zo xf qY t.qH,sF false xB qM qL t.qF]) (((s.qA.length - 1):Int).toNat) ⟨_,s.qA.length - 1,(xw s t counts).qG,(xw s t counts).qH,rx248,rF249,0,uE5,(by rfl),(by rfl),qf,qf,rfl,N,H.pick [0,1,2,3,4,6,7,8] [0,1,2,3,4,5]⟩ ?_
 clear H N
 rintro m' ρ w471 ⟨xY,c,out_Alive,out_Bags,vg,zq,j,rfl,rfl,rfl,ic,jc,rfl,N,H⟩
 have hn_out_Alive:=H.rowNB 1 rfl
 have V7:=H.x8 (α:=yLI) 2 rfl 0 rfl qj
 have L:=meltDown_live (counts:=counts) p0 hl j qf
 have L1:=L.alive
 have L2:=L.root
 have L3:=L.bags.1
 rw [← Qh s counts (xw s t counts) j] at H
 refine zcc (sps [yI c,Bv (decide ((c:Int) > 0))] (zjn (cD rfl (fun h472=>?_) (fun h472=>?_))))
 ·skip
  refine xk (t_n (zf (xg (zcr (sps [Sv (aa b36 0) s.qA.length s.qA.length,yI c] (oI rfl rfl (oL rfl (H.rowBool 4 rfl (iv:=c) (i:=c.toNat) qf qf) (zjn (xK ((Qg s counts s.qA.length s.qB.length)[c.toNat]!) rfl (fun h473=>?_) (fun h473=>?_))))))))))
  ·skip
   refine zg (sw (xU (yS s qE qC qO qK) isAgg27 sizeOf27 rfl (qJ (H.cells 7 rfl) 0 3) (sp (yI c) (sw (vk #[.agg #[yI s.xh,Sv qE s.qA.length qC,Sv qO s.qB.length qK],pp b241 0,yI c] rfl rfl call107 (en func107 ntmps107 ?_))))))
   refine zcr (sw (zW H (yS s qE qC qO qK) fun b474 w475 H=>zjn (zf ?_)))
   refine yl rfl H fun H=>rt 0 (.agg #[yI s.xh,Sv qE s.qA.length qC,Sv qO s.qB.length qK]) (Qv (cs:=(yS s qE qC qO qK)) isAgg27 sizeOf27 rfl (fun _ h=>qJ (h.cells 0 rfl) 0 3)) H ?_
   refine rtp 1 (pp b241 0) H ?_
   refine rtp 2 (pp b241 0) H ?_
   refine rt 3 (.agg #[Sv ra242 (((xw s t counts).qG).length) rc243,Sv ra244 (((xw s t counts).qH).length) rc245,Sv ra246 (((xu s counts (xw s t counts) j).qF).length) rc247]) (Qv (cs:=[Sv ra242 (((xw s t counts).qG).length) rc243,Sv ra244 (((xw s t counts).qH).length) rc245,Sv ra246 (((xu s counts (xw s t counts) j).qF).length) rc247]) isAgg31 sizeOf31 rfl (fun _ h=>qJ (h.cells 1 rfl) 0 3)) H ?_
   refine rtp 4 (yI c) H ?_
   refine ro 5 rfl ?_
   obtain ⟨G477,hn478,h479⟩:=H.rowIsB 2 rfl
   obtain ⟨G480,hn481,h482⟩:=H.QK (α:=yLI) 3 rfl 0 rfl qj
   obtain ⟨G483,hn484,h485⟩:=H.QW 4 rfl
   refine oq (args_eq (by rw [← hn478,← hn481]) (parentNow_ok _ s (xu s counts (xw s t counts) j) c (H.get 1 rfl).1 (H.get 2 rfl).1 (hn478▸h479) (hn481▸h482) h485 qg qg qg)) H fun w487 H=>?_
   have pin:=XD (s:=s) (t:=(xu s counts (xw s t counts) j)) (c:=c) p0.1 L2 qf qf
   refine ⟨H,(rtp 6 (yI (xm s (xu s counts (xw s t counts) j) c)) H ?_)⟩
   refine xJ qh (t_n (zf ?_))
   obtain ⟨b489,rfl⟩:=H.Qe 3 rfl qf
   refine c_cut (fun ρ w492=>∃ (xY:Env) (xs490:List Value) (F491:yLN),ρ=upd (upd (upd xY 1 (pp b241 0)) 2 (yI c)) 3 (pp b474 0)∧Fresh w.heap.size [F491]∧St w w492 [.box b474 (yS s qE qC qO qK) 27,.box b241 [Sv ra242 (((xw s t counts).qG).length) rc243,Sv (aa b489 0) (((xw s t counts).qH).length) rc245,Sv ra246 (((xu s counts (xw s t counts) j).qF).length) rc247] 31,rr ra242 (((xw s t counts).qG).length) rc243 4 1 (((xu s counts (xw s t counts) j).qG).map (Value.bool)),rr (aa b489 0) (((xw s t counts).qH).length) rc245 24 1 xs490,rr ra246 (((xu s counts (xw s t counts) j).qF).length) rc247 2 1 (((xu s counts (xw s t counts) j).qF).map (Value.int .i64)),rr (aa b36 0) s.qA.length s.qA.length 4 1 ((Qg s counts s.qA.length s.qB.length).map (Value.bool)),.box b5 [yN,yN,yN] 31,.box b3 (yT t qU qQ xf qY qM qL) 31,.box b1 (yS s qE qC qO qK) 27] [xN true F491 xs490 (((xu s counts (xw s t counts) j).qH).set ((xm s (xu s counts (xw s t counts) j) c).toNat) (vZ (((xu s counts (xw s t counts) j).qH)[(xm s (xu s counts (xw s t counts) j) c).toNat]!) (((xu s counts (xw s t counts) j).qH)[c.toNat]!) 1)),sF false xe qE qC s.qA,sF false xE qO qK s.qB,sF false xO qU qQ t.qG,sF false zo xf qY t.qH,sF false xB qM qL t.qF]) ?_ ?_
   ·skip
    refine yR rfl H [0,1,2,4,5,6,7,8] fun H=>?_
    have S:=H.yj [0,1,2,4,5,6,7,8] [0,1,2,3,4,5]
    refine rtp 0 (pp b241 0) S ?_
    refine rtp 1 (pp b241 0) S ?_
    refine tF 2 rfl rfl S ?_
    refine tL 3 rfl rfl (fun _ h=>h.cell 1 rfl rfl) S ?_
    refine rtp 4 (yI (xm s (xu s counts (xw s t counts) j) c)) S ?_
    refine rtp 5 (pp b241 0) S ?_
    refine rtp 6 (pp b241 0) S ?_
    refine tF 7 rfl rfl S ?_
    refine tL 8 rfl rfl (fun _ h=>h.cell 1 rfl rfl) S ?_
    refine rtp 9 (yI (xm s (xu s counts (xw s t counts) j) c)) S ?_
    refine tI 10 rfl rfl rfl S ?_
    refine rtp 12 (pp b241 0) S ?_
    refine rtp 13 (pp b241 0) S ?_
    refine tF 14 rfl rfl S ?_
    refine tL 15 rfl rfl (fun _ h=>h.cell 1 rfl rfl) S ?_
    refine rtp 16 (yI c) S ?_
    refine tI 17 rfl rfl rfl S ?_
    refine jb [11,18] qh qm (jQ rfl ?_ (jQ rfl ?_ jd))
    ·skip
     obtain ⟨a494,c495,G496,s497,h498,H⟩:=H.jP 3 rfl 0 rfl (iv:=xm s (xu s counts (xw s t counts) j) c) ((xm s (xu s counts (xw s t counts) j) c).toNat) qf qf
     refine zF (Sv a494 ((((xu s counts (xw s t counts) j).qH)[(xm s (xu s counts (xw s t counts) j) c).toNat]!).length) c495) isAgg24 rfl (h498) (⟨H.pick [0,1,2,4,5,6,7,8] [1,2,3,4,5,6],(ro 18 rfl ?_)⟩)
     obtain ⟨a499,c500,G501,s502,h503,H⟩:=H.jP 3 rfl 1 rfl (iv:=c) c.toNat qf qf
     refine zF (Sv a499 ((((xu s counts (xw s t counts) j).qH)[c.toNat]!).length) c500) isAgg24 rfl (h503) (⟨H.pick [0,1,2,4,5,6,7,8] [2,3,4,5,6,7],(ro 19 rfl ?_)⟩)
     obtain ⟨u1,u2,u4⟩:=L.rows p0 (bnd_le qf) (p:=(xm s (xu s counts (xw s t counts) j) c).toNat) (c:=c.toNat) qf qf
     have sz504:=H.base.size
     have lt505:=H.ltN (L:=[zq]) [2]
     refine oc (V4 _ (((xu s counts (xw s t counts) j).qH)[(xm s (xu s counts (xw s t counts) j) c).toNat]!) (((xu s counts (xw s t counts) j).qH)[c.toNat]!) 1 (H.get 1 rfl).1 (H.get 0 rfl).1 qg qg qg) ?_
     rintro v509 w507 r509 x508
     replace H:=H.zB x508 r509
     obtain ⟨a510,c511,rfl,hc512,hm513⟩:=H.jG 0 rfl
     refine ⟨H.pick [1,2,3,5,6,7,8,9] [2,3,4,5,6,7],(tI 20 rfl rfl rfl (H.pick [1,2,3,5,6,7,8,9] [2,3,4,5,6,7]) ?_)⟩
     refine ro 21 rfl ?_
     obtain ⟨G515,N,hn516,H⟩:=H.zT 0 rfl N (H.jR [2])
     refine jy true H 4 rfl 3 rfl (Sv a510 ((vZ (((xu s counts (xw s t counts) j).qH)[(xm s (xu s counts (xw s t counts) j) c).toNat]!) (((xu s counts (xw s t counts) j).qH)[c.toNat]!) 1).length) c511) 0 rfl rfl sizeOf24 rfl rfl (i:=((xm s (xu s counts (xw s t counts) j) c).toNat)) qf qf qm fun w514 xs517 F518 hs519 H=>?_
     replace N:Fresh w.heap.size [F518]:=(N.pick [1,0]).repl hs519
     refine ⟨H.pick [1,2,3,5,6,7,8,9] [4,5,6,7,8,9],(xJ qh ((meet ⟨_,xs517,F518,uE3,N,H.pick [1,2,3,4,5,6,7,8,9] [0,5,6,7,8,9]⟩)))⟩
    obtain ⟨a520,c521,G522,s523,h524,H⟩:=H.jP 3 rfl 0 rfl (iv:=c) c.toNat qf qf
    refine zF (Sv a520 ((((xu s counts (xw s t counts) j).qH)[c.toNat]!).length) c521) isAgg24 rfl (h524) (⟨H.pick [0,1,2,4,5,6,7,8] [1,2,3,4,5,6],(ro 11 rfl ?_)⟩)
    obtain ⟨a525,c526,G527,s528,h529,H⟩:=H.jP 3 rfl 1 rfl (iv:=xm s (xu s counts (xw s t counts) j) c) ((xm s (xu s counts (xw s t counts) j) c).toNat) qf qf
    refine zF (Sv a525 ((((xu s counts (xw s t counts) j).qH)[(xm s (xu s counts (xw s t counts) j) c).toNat]!).length) c526) isAgg24 rfl (h529) (⟨H.pick [0,1,2,4,5,6,7,8] [2,3,4,5,6,7],(ro 19 rfl ?_)⟩)
    obtain ⟨u1,u2,u4⟩:=L.rows p0 (bnd_le qf) (p:=(xm s (xu s counts (xw s t counts) j) c).toNat) (c:=c.toNat) qf qf
    have sz530:=H.base.size
    have lt531:=H.ltN (L:=[zq]) [2]
    refine oc (V4 _ (((xu s counts (xw s t counts) j).qH)[(xm s (xu s counts (xw s t counts) j) c).toNat]!) (((xu s counts (xw s t counts) j).qH)[c.toNat]!) 1 (H.get 0 rfl).1 (H.get 1 rfl).1 qg qg qg) ?_
    rintro v535 w533 r535 x534
    replace H:=H.zB x534 r535
    obtain ⟨a536,c537,rfl,hc538,hm539⟩:=H.jG 0 rfl
    refine ⟨H.pick [1,2,3,5,6,7,8,9] [2,3,4,5,6,7],(tI 20 rfl rfl rfl (H.pick [1,2,3,5,6,7,8,9] [2,3,4,5,6,7]) ?_)⟩
    refine ro 21 rfl ?_
    obtain ⟨G541,N,hn542,H⟩:=H.zT 0 rfl N (H.jR [2])
    refine jy true H 4 rfl 3 rfl (Sv a536 ((vZ (((xu s counts (xw s t counts) j).qH)[(xm s (xu s counts (xw s t counts) j) c).toNat]!) (((xu s counts (xw s t counts) j).qH)[c.toNat]!) 1).length) c537) 0 rfl rfl sizeOf24 rfl rfl (i:=((xm s (xu s counts (xw s t counts) j) c).toNat)) qf qf qm fun w540 xs543 F544 hs545 H=>?_
    replace N:Fresh w.heap.size [F544]:=(N.pick [1,0]).repl hs545
    refine ⟨H.pick [1,2,3,5,6,7,8,9] [4,5,6,7,8,9],(xJ qh ((meet ⟨_,xs543,F544,uE3,N,H.pick [1,2,3,4,5,6,7,8,9] [0,5,6,7,8,9]⟩)))⟩
   clear H N
   rintro ρ w546 ⟨xY,xs490,F491,rfl,N,H⟩
   refine t_n (zf ?_)
   refine yR rfl H [0,1,2,4,5,6,7,8] fun H=>?_
   have S:=H.yj [0,1,2,4,5,6,7,8] [0,1,2,3,4,5]
   refine rtp 0 (pp b241 0) S ?_
   refine rtp 1 (pp b241 0) S ?_
   refine tF 2 rfl rfl S ?_
   refine tL 3 rfl rfl (fun _ h=>h.cell 1 rfl rfl) S ?_
   refine rtp 4 (yI c) S ?_
   refine tF 5 rfl rfl S ?_
   refine tL 6 rfl rfl (fun _ h=>h.cell 0 rfl rfl) S ?_
   refine ro 7 rfl (ji H underlying24 ti2 s.xh.toNat rfl rfl qf qf qf fun b548 w549 H=>⟨H.pick [1,2,3,5,6,7,8,9] [0,1,2,3,4,5],(tI 8 rfl rfl rfl (H.pick [1,2,3,5,6,7,8,9] [0,1,2,3,4,5]) ?_)⟩)
   refine ro 9 rfl ?_
   obtain ⟨G551,N,hn552,H⟩:=H.zT 0 rfl N (H.jR [0])
   refine jy true H 4 rfl 1 rfl (Sv (aa b548 0) s.xh.toNat s.xh.toNat) 0 rfl rfl sizeOf24 rfl rfl (i:=c.toNat) qf qf qm fun w550 xs553 F554 hs555 H=>?_
   replace N:Fresh w.heap.size [F554]:=(N.pick [1,0]).repl hs555
   refine ⟨H.pick [1,2,3,5,6,7,8,9] [2,3,4,5,6,7],(xJ qh (t_n (zg (sps [pp b241 0,pp b241 0] (oF rfl (oL rfl (H.cell 2 rfl rfl) (sp (yI c) ?_)))))))⟩
   obtain ⟨b556,rfl⟩:=H.Qe 3 rfl qf
   refine oI rfl rfl (sw (Q9 H 3 rfl false sizeOf4 rfl rfl (i:=c.toNat) qf qf fun w557 H=>zi (ret0 rfl ⟨_,rfl,?_⟩)))
   replace H:=H.erases [1,0]
   dsimp only [vM,List.eraseIdx] at H
   refine zi (b_n (t_n (zg (sp (yI c) (sw (o_sub c 1 rfl rfl qf (sp (yI (c - 1)) (zi ?_))))))))
   rw [Qh] at H
   refine xq (m' :=((c - 1):Int).toNat) qf ⟨_,c - 1,(((xu s counts (xw s t counts) j).qG).set c.toNat false),((((xu s counts (xw s t counts) j).qH).set ((xm s (xu s counts (xw s t counts) j) c).toNat) (vZ (((xu s counts (xw s t counts) j).qH)[(xm s (xu s counts (xw s t counts) j) c).toNat]!) (((xu s counts (xw s t counts) j).qH)[c.toNat]!) 1)).set c.toNat (List.replicate s.xh.toNat (0:Int))),xs553,F554,j+1,uE5,?_,?_,?_,?_,rfl,N,H.pick [0,1,2,3,4,5,6,7] [0,3,4,5,6,7]⟩
   · first | (rw [meltDown_yesL (c:=c) ‹_› qf qf rfl ic];rfl) | rw [meltDown_noL (c:=c) ‹_› qf qf rfl ic]
   · first | (rw [meltDown_yesL (c:=c) ‹_› qf qf rfl ic];rfl) | rw [meltDown_noL (c:=c) ‹_› qf qf rfl ic]
   · omega
   · omega
  refine xk (b_n (t_n (zg (sp (yI c) (sw (o_sub c 1 rfl rfl qf (sp (yI (c - 1)) (zi ?_))))))))
  rw [Qh] at H
  refine xq (m' :=((c - 1):Int).toNat) qf ⟨_,c - 1,((xu s counts (xw s t counts) j).qG),((xu s counts (xw s t counts) j).qH),vg,zq,j+1,uE5,?_,?_,?_,?_,rfl,N,H⟩
  · first | (rw [meltDown_yesL (c:=c) ‹_› qf qf rfl ic];rfl) | rw [meltDown_noL (c:=c) ‹_› qf qf rfl ic]
  · first | (rw [meltDown_yesL (c:=c) ‹_› qf qf rfl ic];rfl) | rw [meltDown_noL (c:=c) ‹_› qf qf rfl ic]
  · omega
  · omega
 refine zx4 (zcr (sw (xU (yS s qE qC qO qK) isAgg27 sizeOf27 rfl (qJ (H.cells 7 rfl) 0 3) (sw (xU [Sv ra242 (((xw s t counts).qG).length) rc243,Sv ra244 (((xw s t counts).qH).length) rc245,Sv ra246 (((xu s counts (xw s t counts) j).qF).length) rc247] isAgg31 sizeOf31 rfl (qJ (H.cells 0 rfl) 0 3) ?_)))))
 refine sw (vk #[.agg #[yI s.xh,Sv qE s.qA.length qC,Sv qO s.qB.length qK],.agg #[Sv ra242 (((xw s t counts).qG).length) rc243,Sv ra244 (((xw s t counts).qH).length) rc245,Sv ra246 (((xu s counts (xw s t counts) j).qF).length) rc247]] rfl rfl call108 (en func108 ntmps108 ?_))
 refine zcr (sw (zW H (yS s qE qC qO qK) fun b558 w559 H=>sw (zW H [Sv ra242 (((xw s t counts).qG).length) rc243,Sv ra244 (((xw s t counts).qH).length) rc245,Sv ra246 (((xu s counts (xw s t counts) j).qF).length) rc247] fun b560 w561 H=>sw (xZ H ti31 [yN,yN,yN] fun b562 w563 H=>sp (yI 0) (zjcc ?_)))))
 refine sw (xU (yS s qE qC qO qK) isAgg27 sizeOf27 rfl (qJ (H.cells 2 rfl) 0 3) (sw (xU [Sv ra242 (((xw s t counts).qG).length) rc243,Sv ra244 (((xw s t counts).qH).length) rc245,Sv ra246 (((xu s counts (xw s t counts) j).qF).length) rc247] isAgg31 sizeOf31 rfl (qJ (H.cells 1 rfl) 0 3) ?_)))
 obtain ⟨G564,hn565,h566⟩:=H.rowIsB 4 rfl
 obtain ⟨G567,hn568,h569⟩:=H.QK (α:=yLI) 5 rfl 0 rfl qj
 obtain ⟨G570,hn571,h572⟩:=H.QW 6 rfl
 refine sw (oq (args_eq (by rw [← hn565,← hn568]) (Xk _ s (xu s counts (xw s t counts) j) (H.get 1 rfl).1 (H.get 2 rfl).1 (hn565▸h566) (hn568▸h569) h572)) H fun w574 H=>sp (Bv (!(dec (zQ s∧xI s (xu s counts (xw s t counts) j))))) (zjn (cQ rfl (fun h576=>?_) (fun h576=>?_))))
 ·skip
  refine zcr (sw (vX [yN,yN,yN] [] (sw (zu H 0 [yN,yN,yN] sizeOf31 fun w577 H=>sp (yI 3) (zjr (t_r (retC2 H 0 rfl (yI 3) rfl isAgg31 sizeOf31 rfl rfl ⟨_,rfl,?_⟩)))))))
  replace H:=H.erases [2,1,0]
  dsimp only [vM,List.eraseIdx] at H
  refine sps [.agg #[yN,yN,yN],yI 3] (sw (zu H 5 [yN,yN,yN] sizeOf31 fun w578 H=>sp (yI 3) (zjr ?_)))
  replace H:=H.nilRowB 4
  replace H:=H.nilRow 24 1
  replace H:=H.vT (α:=yLI)
  replace H:=H.nilRowI 2
  refine retC2 H 8 rfl (yI 3) rfl isAgg31 sizeOf31 rfl rfl ⟨_,rfl,?_,H.base⟩
  rw [Xx p3,stepRes,show xP s - 1=j by omega,told_no (fun h=>‹¬ (zQ s∧_)› ⟨p0,h⟩)]
  exact ⟨none,0,0,none,0,0,[],[],none,0,0,rfl,(N.emp.pick [0]),H.pick [2,1,0] [0]⟩
 refine xk (t_n (zcr (sw (xU [Sv ra242 (((xw s t counts).qG).length) rc243,Sv ra244 (((xw s t counts).qH).length) rc245,Sv ra246 (((xu s counts (xw s t counts) j).qF).length) rc247] isAgg31 sizeOf31 rfl (qJ (H.cells 1 rfl) 0 3) (sw (zu H 0 [Sv ra242 (((xw s t counts).qG).length) rc243,Sv ra244 (((xw s t counts).qH).length) rc245,Sv ra246 (((xu s counts (xw s t counts) j).qF).length) rc247] sizeOf31 fun w579 H=>sp (yI 0) (zjr (retC2 H 0 rfl (yI 0) rfl isAgg31 sizeOf31 rfl rfl ⟨_,rfl,?_⟩))))))))
 replace H:=H.erases [2,1,0]
 dsimp only [vM,List.eraseIdx] at H
 refine sps [.agg #[Sv ra242 (((xw s t counts).qG).length) rc243,Sv ra244 (((xw s t counts).qH).length) rc245,Sv ra246 (((xu s counts (xw s t counts) j).qF).length) rc247],yI 0] (sw (zu H 5 [Sv ra242 (((xw s t counts).qG).length) rc243,Sv ra244 (((xw s t counts).qH).length) rc245,Sv ra246 (((xu s counts (xw s t counts) j).qF).length) rc247] sizeOf31 fun w580 H=>sp (yI 0) (zjr (retC2 H 5 rfl (yI 0) rfl isAgg31 sizeOf31 rfl rfl ⟨_,rfl,?_,H.base⟩))))
 rw [Xx p3,stepRes,show xP s - 1=j by omega,told_yes (‹zQ s∧_›:zQ s∧_).2]
 exact ⟨ra242,((xw s t counts).qG).length,rc243,ra244,((xw s t counts).qH).length,rc245,vg,zq,ra246,((xu s counts (xw s t counts) j).qF).length,rc247,rfl,N,H.pick [1,2,3] [0]⟩
theorem single_ok (w:World) (s:qI) (i:Int) {qE:yOA} {xe:yLN} {qO:yOA} {xE:yLN} (qZ:qX.rep w xe [Sv qE s.qA.length qC] s.qA) (xC:qX.rep w xE [Sv qO s.qB.length qK] s.qB) (p0:0≤i∧i≤(s.qB.length:Int) - 1) (p1:s.qB.length≤16):Calls Tryz.prog 76 #[.agg #[yI s.xh,Sv qE s.qA.length qC,Sv qO s.qB.length qK],yI i] w (Ret (fun v w' =>∃ (ra:yOA) (rn:Nat) (rc:Nat),v=Sv ra rn rc∧Fresh w.heap.size []∧St w w' [rr ra rn rc 2 1 ((single s (i:Int).toNat).map (Value.int .i64))] []) w):=by
 refine en func76 ntmps76 ?_
 have H:=((St.start w).arg xC).arg qZ
 have zX:=qV qZ
 have jo:=qV xC
 clear qZ xC
 have N:=Fresh.nil w.heap.size
 refine zcr (sw (zW H (yS s qE qC qO qK) fun b1 w2 H=>sp yN (zjc (oF rfl (oL rfl (H.cell 0 rfl rfl) (oN rfl (sw (ji H underlying24 ti2 s.qB.length rfl rfl qf qf qf fun b3 w4 H=>sp (Sv (aa b3 0) s.qB.length s.qB.length) (zjc (sps [Sv (aa b3 0) s.qB.length s.qB.length,yI i] (oI rfl rfl (sw (X0 H 0 rfl 1 sizeOf2 rfl rfl (i:=i.toNat) qf qf fun w5 H=>zjc ?_)))))))))))))
 refine sps [Sv (aa b3 0) s.qB.length s.qB.length,Sv (aa b3 0) s.qB.length s.qB.length] (zjr (ret1 (Sv (aa b3 0) s.qB.length s.qB.length) rfl rfl ⟨_,rfl,(⟨(aa b3 0),s.qB.length,s.qB.length,rfl,N,H.pick [0] []⟩),H.base⟩))

theorem indexI_ok (w:World) (l:yLI) (x:Int) {al:yOA} {Fl:yLN} (hl:qX.rep w Fl [Sv al l.length cl] l):Calls Tryz.prog 139 #[Sv al l.length cl,yI x] w (Ret (fun v w' =>v=yI (firstIdx (fun k=>x == l[k]!) l.length)) w):=by
 refine en func139 ntmps139 ?_
 have H:=(St.start w).arg hl
 have nhl:=qV hl
 clear hl
 have N:=Fresh.nil w.heap.size
 refine zcr (sp (yI 0) (zjcc (sp (Sv al l.length cl) (oN rfl (sp (yI 0) (zjn (xg ?_)))))))
 refine zJ (fun m' ρ w1=>∃ (xY:Env) (i:Nat),ρ=upd (upd (upd (upd xY 0 (Sv al l.length cl)) 1 (yI x)) 7 (yI l.length)) 8 (yI i)∧((i:Int)≤l.length)∧(noneTo (fun k=>x == l[k]!) i)∧m' =(l.length - (i:Int)).toNat∧Fresh w.heap.size []∧St w w1 [] [sF false Fl al cl l]) ((l.length - (0:Int)).toNat) ⟨_,0,uE4,qf,qx,rfl,N,H⟩ ?_
 clear H N
 rintro m' ρ w2 ⟨xY,i,rfl,i0,i1,rfl,N,H⟩
 refine zcr (sp (Bv (decide ((i:Int) < l.length))) (zjn (zf (cD rfl (fun h3=>?_) (fun h3=>?_)))))
 ·skip
  refine xk (t_n (zf (xg (zcr (sps [yI i,yI i] (zjc (sps [yI x,Sv al l.length cl,yI i] ?_)))))))
  obtain ⟨b4,o5,rfl⟩:=H.addr 0 rfl qf
  refine oI rfl rfl (oL rfl (H.yF 0 rfl i qf qf) (sp (Bv ((x:Int) == (l[i]!))) (zjn (cE rfl (fun h7=>?_) (fun h7=>?_)))))
  ·skip
   refine zcr (sps [yI i,yI i] (zjr (zr5 (ret1 (yI i) rfl rfl ⟨_,rfl,?_,H.base⟩))))
   rw [firstIdx_some (k:=i) qf i1 (by simpa using ‹x=l[i]!›)]
  refine xk (b_n (t_n (zg (sw (zL i 1 rfl rfl qf (sp (yI (i+1)) (zi (xq (m' :=(l.length - ((i+1):Int)).toNat) qf ⟨_,i+1,uE4,?_,?_,rfl,N,H⟩))))))))
  · omega
  · exact noneTo_succ ‹_› (by simpa using ‹x≠l[i]!›)
 refine zx4 (zcr (sp (yI (-1)) (zjr (ret1 (yI (-1)) rfl rfl ⟨_,rfl,?_,H.base⟩))))
 rw [firstIdx_none (fun j hj=>i1 j qf)]

theorem containsI_ok (w:World) (l:yLI) (x:Int) {al:yOA} {Fl:yLN} (hl:qX.rep w Fl [Sv al l.length cl] l):Calls Tryz.prog 75 #[Sv al l.length cl,yI x] w (Ret (fun v w' =>v=Bv (dec ((x:Int)∈l))) w):=by
 refine en func75 ntmps75 ?_
 have H:=(St.start w).arg hl
 have nhl:=qV hl
 clear hl
 have N:=Fresh.nil w.heap.size
 refine zcr (sp (Bv false) (zjc (sps [Sv al l.length cl,yI x] (sw (oq (indexI_ok _ l x (H.get 0 rfl).1) H fun w2 H=>sps [Bv (decide ((firstIdx (fun k=>x == l[k]!) l.length:Int)≥0)),Bv (decide ((firstIdx (fun k=>x == l[k]!) l.length:Int)≥0))] (zjr (ret1 (Bv (decide ((firstIdx (fun k=>x == l[k]!) l.length:Int)≥0))) rfl rfl ⟨_,rfl,?_,H.base⟩)))))))
 rw [anyTo_first,anyTo_mem]

theorem sizeR_ok (w:World) (l:List jL) {al:yOA} {Fl:yLN} (hl:qX.rep w Fl [Sv al l.length cl] l):Calls Tryz.prog 138 #[Sv al l.length cl] w (Ret (fun v w' =>v=yI l.length) w):=by
 refine en func138 ntmps138 ?_
 have H:=(St.start w).arg hl
 have nhl:=qV hl
 clear hl
 have N:=Fresh.nil w.heap.size
 refine zcr (sp (yI 0) (zjc (sp (Sv al l.length cl) (oN rfl (sp (yI l.length) (zjr (ret1 (yI l.length) rfl rfl ⟨_,rfl,?_,H.base⟩)))))))
 rfl

theorem implOne_ok (w:World) (s:qI) (t:qP) (i:Int) {qE:yOA} {xe:yLN} {qO:yOA} {xE:yLN} {qU:yOA} {xO:yLN} {xf:yOA} {zo:yLN} {qM:yOA} {xB:yLN} (qZ:qX.rep w xe [Sv qE s.qA.length qC] s.qA) (xC:qX.rep w xE [Sv qO s.qB.length qK] s.qB) (xQ:qX.rep w xO [Sv qU t.qG.length qQ] t.qG) (zA:qX.rep w zo [Sv xf t.qH.length qY] t.qH) (xH:qX.rep w xB [Sv qM t.qF.length qL] t.qF):Calls Tryz.prog 22 #[.agg #[yI s.xh,Sv qE s.qA.length qC,Sv qO s.qB.length qK],.agg #[Sv qU t.qG.length qQ,Sv xf t.qH.length qY,Sv qM t.qF.length qL],yI i] w (Ret (fun v w' =>∃ (ra0Alive:yOA) (rn0Alive:Nat) (rc0Alive:Nat) (ra0Bags:yOA) (rn0Bags:Nat) (rc0Bags:Nat) (rx0Bags:List Value) (rF0Bags:yLN) (ra0Around:yOA) (rn0Around:Nat) (rc0Around:Nat),v=.tuple #[.agg #[Sv ra0Alive rn0Alive rc0Alive,Sv ra0Bags rn0Bags rc0Bags,Sv ra0Around rn0Around rc0Around],yI ((ja s t i).2)]∧Fresh w.heap.size [rF0Bags]∧St w w' [rr ra0Alive rn0Alive rc0Alive 4 1 ((((ja s t i).1).qG).map (Value.bool)),rr ra0Bags rn0Bags rc0Bags 24 1 rx0Bags,rr ra0Around rn0Around rc0Around 2 1 ((((ja s t i).1).qF).map (Value.int .i64))] [xN true rF0Bags rx0Bags (((ja s t i).1).qH)]) w):=by
 refine en func22 ntmps22 ?_
 have H:=(((((St.start w).arg xH).arg zA).arg xQ).arg xC).arg qZ
 have zX:=qV qZ
 have jo:=qV xC
 have yC:=qV xQ
 have Qm:=qV zA
 have jH:=qV xH
 clear qZ xC xQ zA xH
 have N:=Fresh.nil w.heap.size
 refine zcr (sw (zW H (yS s qE qC qO qK) fun b1 w2 H=>sw (zW H (yT t qU qQ xf qY qM qL) fun b3 w4 H=>sw (xZ H ti31 [yN,yN,yN] fun b5 w6 H=>sp (yI 0) (zjc (sw (xU (yS s qE qC qO qK) isAgg27 sizeOf27 rfl (qJ (H.cells 2 rfl) 0 3) ?_)))))))
 refine sw (xU (yT t qU qQ xf qY qM qL) isAgg31 sizeOf31 rfl (qJ (H.cells 1 rfl) 0 3) (sp (yI i) (sw (vk #[.agg #[yI s.xh,Sv qE s.qA.length qC,Sv qO s.qB.length qK],.agg #[Sv qU t.qG.length qQ,Sv xf t.qH.length qY,Sv qM t.qF.length qL],yI i] rfl rfl call74 (en func74 ntmps74 ?_)))))
 refine zcr (sw (zW H (yS s qE qC qO qK) fun b7 w8 H=>sw (zW H (yT t qU qQ xf qY qM qL) fun b9 w10 H=>sp (yI 0) (zjn (zf (xg (zcr (sw (xU (yS s qE qC qO qK) isAgg27 sizeOf27 rfl (qJ (H.cells 1 rfl) 0 3) ?_)))))))))
 refine sw (xU (yT t qU qQ xf qY qM qL) isAgg31 sizeOf31 rfl (qJ (H.cells 0 rfl) 0 3) (sw (oq (Xk _ s t (H.get 0 rfl).1 (H.get 1 rfl).1 (H.get 2 rfl).1 (H.get 3 rfl).1 (H.get 4 rfl).1) H fun w12 H=>sps [Bv (!(dec (zQ s∧xI s t))),Bv (!(dec (zQ s∧xI s t)))] (zjn (cQ rfl (fun h14=>?_) (fun h14=>?_))))))
 ·skip
  refine zcr (sp (yI 1) (zjr (b_r (t_r (ret1 (yI 1) rfl rfl ⟨_,rfl,?_⟩)))))
  replace H:=H.erases [1,0]
  dsimp only [vM,List.eraseIdx] at H
  refine sp (yI 1) (zjcc (sps [yI 1,Bv false,Bv false] (xW [16,17,18,19,20,21] (sp (Bv false) (zjn (xK false rfl (fun h=>absurd h qj) (fun _=>xk (t_n (zcc (sps [yI 1,Bv true] (zjn (xK true rfl (fun _=>zcr (sw (vX [yN,yN,yN] [] (sp (yI 1) (sw (zu H 0 [yN,yN,yN] sizeOf31 fun w15 H=>sp (yI 1) (zjr (t_r ?_)))))))) (fun h=>absurd h qj)))))))))))))
  replace H:=H.nilRowB 4
  replace H:=H.nilRow 24 1
  replace H:=H.vT (α:=yLI)
  replace H:=H.nilRowI 2
  refine retC2 H 3 rfl (yI 1) rfl isAgg31 sizeOf31 rfl rfl ⟨_,rfl,?_,H.base⟩
  rw [one_1 ‹_›]
  exact ⟨none,0,0,none,0,0,[],[],none,0,0,rfl,N.emp,H.pick [2,1,0] [0]⟩
 refine zcr (sp (yI i) (oF rfl (oL rfl (H.cell 1 rfl rfl) (sw (oq (sizeR_ok _ s.qB (H.get 1 rfl).1) H fun w17 H=>sw (o_sub s.qB.length 1 rfl rfl qf (sw (oq (X5 w17 i 0 (s.qB.length - 1)) H fun w19 H=>sps [Bv (!(inR i 0 (s.qB.length - 1))),Bv (!(inR i 0 (s.qB.length - 1)))] (zjn (xK (!(inR i 0 (s.qB.length - 1))) rfl (fun h21=>?_) (fun h21=>?_)))))))))))
 ·skip
  replace h21:=xM h21
  replace h21:=XL h21
  refine zcr (sp (yI 2) (zjr (b_r (t_r (ret1 (yI 2) rfl rfl ⟨_,rfl,?_⟩)))))
  replace H:=H.erases [1,0]
  dsimp only [vM,List.eraseIdx] at H
  refine sp (yI 2) (zjcc (sps [yI 2,Bv false,Bv false] (xW [16,17,18,19,20,21] (sp (Bv false) (zjn (xK false rfl (fun h=>absurd h qj) (fun _=>xk (t_n (zcc (sps [yI 2,Bv true] (zjn (xK true rfl (fun _=>zcr (sw (vX [yN,yN,yN] [] (sp (yI 2) (sw (zu H 0 [yN,yN,yN] sizeOf31 fun w22 H=>sp (yI 2) (zjr (t_r ?_)))))))) (fun h=>absurd h qj)))))))))))))
  replace H:=H.nilRowB 4
  replace H:=H.nilRow 24 1
  replace H:=H.vT (α:=yLI)
  replace H:=H.nilRowI 2
  refine retC2 H 3 rfl (yI 2) rfl isAgg31 sizeOf31 rfl rfl ⟨_,rfl,?_,H.base⟩
  rw [one_2 ‹zQ s∧xI s t› ‹_›]
  exact ⟨none,0,0,none,0,0,[],[],none,0,0,rfl,N.emp,H.pick [2,1,0] [0]⟩
 replace h21:=xG h21
 replace h21:=Xj.1 h21
 refine xk (b_n (t_n (zcr (sp (yI 0) (zjr (ret1 (yI 0) rfl rfl ⟨_,rfl,?_⟩))))))
 replace H:=H.erases [1,0]
 dsimp only [vM,List.eraseIdx] at H
 refine sp (yI 0) (zjcc (sps [yI 0,Bv true,Bv true] (qR 15 rfl rfl (sw (xU (yS s qE qC qO qK) isAgg27 sizeOf27 rfl (qJ (H.cells 2 rfl) 0 3) (qR 15 rfl rfl (sw (xU (yT t qU qQ xf qY qM qL) isAgg31 sizeOf31 rfl (qJ (H.cells 1 rfl) 0 3) (qR 15 rfl rfl ?_)))))))))
 have k0:=(‹zQ s∧xI s t›:zQ s∧xI s t)
 have k1:=k0.1
 have k2:=k0.2
 have k4:=k1.2.1
 have sz26:=H.base.size
 refine sw (oc (Xp _ s t (H.get 0 rfl).1 (H.get 1 rfl).1 (H.get 2 rfl).1 (H.get 3 rfl).1 (H.get 4 rfl).1 qg qg) ?_)
 rintro _ w24 ⟨ra23,rn23,rc23,rfl,M,K⟩ _
 replace H:=H.merge K M
 obtain rfl:=H.yx 0 rfl
 refine qR 15 rfl rfl (sp (yI i) (qR 15 rfl rfl ?_))
 obtain ⟨G29,hn30,h31⟩:=H.QW 0 rfl
 refine sw (oq (containsI_ok _ (appls s t) i h31) H fun w33 H=>qR 15 rfl rfl (sps [Bv (!(dec ((i:Int)∈(appls s t)))),Bv (!(dec ((i:Int)∈(appls s t))))] (zjn (cQ rfl (fun h35=>?_) (fun h35=>?_)))))
 ·skip
  refine zg (sp (yI 4) (zjcc (sps [yI 4,Bv true] (zjn (xK true rfl (fun _=>zcr (sw (vX [yN,yN,yN] [] (sp (yI 4) (sw (zu H 1 [yN,yN,yN] sizeOf31 fun w36 H=>sp (yI 4) (zjr (t_r ?_)))))))) (fun h=>absurd h qj))))))
  replace H:=H.nilRowB 4
  replace H:=H.nilRow 24 1
  replace H:=H.vT (α:=yLI)
  replace H:=H.nilRowI 2
  refine retC2 H 4 rfl (yI 4) rfl isAgg31 sizeOf31 rfl rfl ⟨_,rfl,?_,H.base⟩
  rw [one_4 ‹zQ s∧xI s t› ‹_› ‹_›]
  exact ⟨none,0,0,none,0,0,[],[],none,0,0,rfl,N.emp,H.pick [2,1,0] [0]⟩
 refine xk (t_n (zcc (sps [yI 0,Bv false] (zjn (xK false rfl (fun h=>absurd h qj) (fun _=>xk (t_n (zf ?_))))))))
 refine yR rfl H [0,2,3] fun H=>?_
 have S:=H.yj [0,2,3] [0,1,2,3,4]
 refine rt 0 (.agg #[yI s.xh,Sv qE s.qA.length qC,Sv qO s.qB.length qK]) (Qv (cs:=(yS s qE qC qO qK)) isAgg27 sizeOf27 rfl (fun _ h=>qJ (h.cells 2 rfl) 0 3)) S ?_
 refine rt 1 (.agg #[Sv qU t.qG.length qQ,Sv xf t.qH.length qY,Sv qM t.qF.length qL]) (Qv (cs:=(yT t qU qQ xf qY qM qL)) isAgg31 sizeOf31 rfl (fun _ h=>qJ (h.cells 1 rfl) 0 3)) S ?_
 refine rt 2 (.agg #[yI s.xh,Sv qE s.qA.length qC,Sv qO s.qB.length qK]) (Qv (cs:=(yS s qE qC qO qK)) isAgg27 sizeOf27 rfl (fun _ h=>qJ (h.cells 2 rfl) 0 3)) S ?_
 refine rtp 3 (yI i) S ?_
 refine ro 4 rfl ?_
 have sz41:=H.base.size
 refine oc (single_ok _ s i (H.get 0 rfl).1 (H.get 1 rfl).1 qg qg) ?_
 rintro _ w39 ⟨ra38,rn38,rc38,rfl,M,K⟩ _
 replace H:=H.merge K M
 obtain rfl:=H.yx 0 rfl
 refine ⟨H.pick [1,3,4] [0,1,2,3,4],(ro 5 rfl ?_)⟩
 obtain ⟨G44,hn45,h46⟩:=H.QW 0 rfl
 have k3:=single_cnt (s:=s) (i:=i.toNat) qf
 have k5:=(single_isCh k1 k2 (i:=i.toNat) qf).2 ((mem_applsI qf qf).1 ‹i∈appls s t›)
 have sz50:=H.base.size
 refine oc (step_ok _ s t (single s (i:Int).toNat) (H.get 0 rfl).1 (H.get 1 rfl).1 (H.get 2 rfl).1 (H.get 3 rfl).1 (H.get 4 rfl).1 h46 qg qg qg qg) ?_
 rintro _ w48 ⟨ra47aAlive,rn47aAlive,rc47aAlive,ra47aBags,rn47aBags,rc47aBags,rx47aBags,rF47aBags,ra47aAround,rn47aAround,rc47aAround,rfl,M,K⟩ _
 replace N:=N.merge sz50 qm M
 replace H:=H.merge K M
 obtain rfl:=H.rowNB 0 rfl
 obtain rfl:=H.x8 (α:=yLI) 1 rfl 0 rfl qj
 obtain rfl:=H.yx 2 rfl
 refine ⟨H.pick [4,6,7] [1,2,3,4,5],?_⟩
 have S:=H.yj [4,6,7] [1,2,3,4,5]
 refine rtp 6 (.agg #[Sv ra47aAlive ((((zl s t (single s (i:Int).toNat)).1).qG).length) rc47aAlive,Sv ra47aBags ((((zl s t (single s (i:Int).toNat)).1).qH).length) rc47aBags,Sv ra47aAround ((((zl s t (single s (i:Int).toNat)).1).qF).length) rc47aAround]) S ?_
 refine rtp 7 (yI ((zl s t (single s (i:Int).toNat)).2)) S ?_
 refine ro 8 rfl (zu H 5 [Sv ra47aAlive ((((zl s t (single s (i:Int).toNat)).1).qG).length) rc47aAlive,Sv ra47aBags ((((zl s t (single s (i:Int).toNat)).1).qH).length) rc47aBags,Sv ra47aAround ((((zl s t (single s (i:Int).toNat)).1).qF).length) rc47aAround] sizeOf31 fun w55 H=>⟨H.pick [4,6,7] [1,2,3,4,5],(rtp 9 (yI ((zl s t (single s (i:Int).toNat)).2)) (H.pick [4,6,7] [1,2,3,4,5]) ?_)⟩)
 refine xJ qh (t_n (c_ret (retC2 H 5 rfl (yI ((zl s t (single s (i:Int).toNat)).2)) rfl isAgg31 sizeOf31 rfl rfl ⟨_,rfl,?_,H.base⟩)))
 rw [one_0 ‹zQ s∧xI s t› ‹_›]
 exact ⟨ra47aAlive,(((zl s t (single s (i:Int).toNat)).1).qG).length,rc47aAlive,ra47aBags,(((zl s t (single s (i:Int).toNat)).1).qH).length,rc47aBags,rx47aBags,rF47aBags,ra47aAround,(((zl s t (single s (i:Int).toNat)).1).qF).length,rc47aAround,rfl,N,H.pick [0,1,2] [0]⟩
theorem l00Same_ok (w:World) (a:yLI) (b:yLI) {aa:yOA} {Fa:yLN} {ab:yOA} {Fb:yLN} (ha:qX.rep w Fa [Sv aa a.length ca] a) (hb:qX.rep w Fb [Sv ab b.length cb] b):Calls Tryz.prog 161 #[Sv aa a.length ca,Sv ab b.length cb] w (Ret (fun v w' =>v=Bv (decide (a=b))) w):=by
 refine en func161 ntmps161 ?_
 have H:=((St.start w).arg hb).arg ha
 have nha:=qV ha
 have nhb:=qV hb
 clear ha hb
 have N:=Fresh.nil w.heap.size
 refine zcr (sp (Bv false) (zjcc (sp (Sv aa a.length ca) (oN rfl (sp (Sv ab b.length cb) (oN rfl (sp (Bv ((a.length:Int) != b.length)) (zjn (xK ((a.length:Int) != b.length) rfl (fun h1=>?_) (fun h1=>?_))))))))))
 ·skip
  replace h1:=bne_iff_ne.1 h1
  refine zcr (sp (Bv false) (zjr (t_r (ret1 (Bv false) rfl rfl ⟨_,rfl,?_,H.base⟩))))
  first | rw [decide_eq_false (fun e=>by subst e;omega)] | rw [decide_eq_false (QX (k:=i) ‹_›)] | rw [decide_eq_false (QX (k:=i) (by simpa using ‹_›))]
 replace h1:=xF h1
 refine xk (t_n (zcc (sp (yI 0) (zjn (xg ?_)))))
 refine zJ (fun m' ρ w2=>∃ (xY:Env) (i:Nat),ρ=upd (upd (upd xY 0 (Sv aa a.length ca)) 1 (Sv ab b.length cb)) 5 (yI i)∧((i:Int)≤a.length)∧(a.take i=b.take i)∧m' =(a.length - (i:Int)).toNat∧Fresh w.heap.size []∧St w w2 [] [sF false Fa aa ca a,sF false Fb ab cb b]) ((a.length - (0:Int)).toNat) ⟨_,0,uE3,qf,(by rfl),rfl,N,H⟩ ?_
 clear H N
 rintro m' ρ w3 ⟨xY,i,rfl,i0,i1,rfl,N,H⟩
 refine zcc (sps [yI i,Sv aa a.length ca] (oN rfl (sp (Bv (decide ((i:Int) < a.length))) (zjn (cD rfl (fun h4=>?_) (fun h4=>?_))))))
 ·skip
  refine xk (t_n (zf (xg (zf ?_))))
  refine yl rfl H fun H=>rtp 0 (Sv aa a.length ca) H ?_
  refine rtp 1 (yI i) H ?_
  obtain ⟨b6,o7,rfl⟩:=H.addr 0 rfl qf
  refine tI 2 rfl rfl rfl H ?_
  refine tL 3 rfl rfl (fun _ h=>h.yV 0 rfl i qf) H ?_
  refine rtp 4 (Sv ab b.length cb) H ?_
  refine rtp 5 (yI i) H ?_
  obtain ⟨b9,o10,rfl⟩:=H.addr 1 rfl qf
  refine tI 6 rfl rfl rfl H ?_
  refine tL 7 rfl rfl (fun _ h=>h.yV 1 rfl i qf) H ?_
  refine rtp 8 (Bv ((a[i]! :Int) != (b[i]!))) H ?_
  refine xJ qh (t_n (xK ((a[i]! :Int) != (b[i]!)) rfl (fun h12=>?_) (fun h12=>?_)))
  ·skip
   replace h12:=bne_iff_ne.1 h12
   refine zcr (sp (Bv false) (zjr (zr5 (ret1 (Bv false) rfl rfl ⟨_,rfl,?_,H.base⟩))))
   first | rw [decide_eq_false (fun e=>by subst e;omega)] | rw [decide_eq_false (QX (k:=i) ‹_›)] | rw [decide_eq_false (QX (k:=i) (by simpa using ‹_›))]
  replace h12:=xF h12
  refine xk (b_n (t_n (zg (sp (yI i) (sw (zL i 1 rfl rfl qf (sp (yI (i+1)) (zi (xq (m' :=(a.length - ((i+1):Int)).toNat) qf ⟨_,i+1,uE3,?_,?_,rfl,N,H⟩)))))))))
  · omega
  · exact eqTo_succ qf qf i1 qg
 refine zx4 (zcr (sp (Bv true) (zjr (ret1 (Bv true) rfl rfl ⟨_,rfl,?_,H.base⟩))))
 rw [decide_eq_true (Vw (k:=i) qf qf i1)]

theorem equalI_ok (w:World) (a:yLI) (b:yLI) {aa:yOA} {Fa:yLN} {ab:yOA} {Fb:yLN} (ha:qX.rep w Fa [Sv aa a.length ca] a) (hb:qX.rep w Fb [Sv ab b.length cb] b):Calls Tryz.prog 195 #[Sv aa a.length ca,Sv ab b.length cb] w (Ret (fun v w' =>v=Bv (decide (a=b))) w):=by
 refine en func195 ntmps195 ?_
 have H:=((St.start w).arg hb).arg ha
 have nha:=qV ha
 have nhb:=qV hb
 clear ha hb
 have N:=Fresh.nil w.heap.size
 refine zcr (sp (Bv false) (zjcc (sp (Sv aa a.length ca) (oN rfl (sp (Sv ab b.length cb) (oN rfl (sp (Bv ((a.length:Int) != b.length)) (zjn (xK ((a.length:Int) != b.length) rfl (fun h1=>?_) (fun h1=>?_))))))))))
 ·skip
  replace h1:=bne_iff_ne.1 h1
  refine zcr (sp (Bv false) (zjr (t_r (ret1 (Bv false) rfl rfl ⟨_,rfl,?_,H.base⟩))))
  first | rw [decide_eq_false (fun e=>by subst e;omega)] | rw [decide_eq_false (QX (k:=i) ‹_›)] | rw [decide_eq_false (QX (k:=i) (by simpa using ‹_›))]
 replace h1:=xF h1
 refine xk (t_n (zcc (sp (Sv aa a.length ca) (oN rfl (sp (yI 0) (zjn (xg ?_)))))))
 refine zJ (fun m' ρ w2=>∃ (xY:Env) (i:Nat),ρ=upd (upd (upd (upd xY 0 (Sv aa a.length ca)) 1 (Sv ab b.length cb)) 12 (yI a.length)) 13 (yI i)∧((i:Int)≤a.length)∧(a.take i=b.take i)∧m' =(a.length - (i:Int)).toNat∧Fresh w.heap.size []∧St w w2 [] [sF false Fa aa ca a,sF false Fb ab cb b]) ((a.length - (0:Int)).toNat) ⟨_,0,uE4,qf,(by rfl),rfl,N,H⟩ ?_
 clear H N
 rintro m' ρ w3 ⟨xY,i,rfl,i0,i1,rfl,N,H⟩
 refine zcr (sp (Bv (decide ((i:Int) < a.length))) (zjn (zf (cD rfl (fun h4=>?_) (fun h4=>?_)))))
 ·skip
  refine xk (t_n (zf (xg (zcr (sps [yI i,yI i] (zjn (zf ?_)))))))
  refine yl rfl H fun H=>rtp 0 (Sv aa a.length ca) H ?_
  refine rtp 1 (yI i) H ?_
  obtain ⟨b6,o7,rfl⟩:=H.addr 0 rfl qf
  refine tI 2 rfl rfl rfl H ?_
  refine tL 3 rfl rfl (fun _ h=>h.yV 0 rfl i qf) H ?_
  refine rtp 4 (Sv ab b.length cb) H ?_
  refine rtp 5 (yI i) H ?_
  obtain ⟨b9,o10,rfl⟩:=H.addr 1 rfl qf
  refine tI 6 rfl rfl rfl H ?_
  refine tL 7 rfl rfl (fun _ h=>h.yV 1 rfl i qf) H ?_
  refine rtp 8 (Bv ((a[i]! :Int) != (b[i]!))) H ?_
  refine xJ qh (t_n (xK ((a[i]! :Int) != (b[i]!)) rfl (fun h12=>?_) (fun h12=>?_)))
  ·skip
   replace h12:=bne_iff_ne.1 h12
   refine zcr (sp (Bv false) (zjr (zr5 (ret1 (Bv false) rfl rfl ⟨_,rfl,?_,H.base⟩))))
   first | rw [decide_eq_false (fun e=>by subst e;omega)] | rw [decide_eq_false (QX (k:=i) ‹_›)] | rw [decide_eq_false (QX (k:=i) (by simpa using ‹_›))]
  replace h12:=xF h12
  refine xk (b_n (t_n (zg (sw (zL i 1 rfl rfl qf (sp (yI (i+1)) (zi (xq (m' :=(a.length - ((i+1):Int)).toNat) qf ⟨_,i+1,uE4,?_,?_,rfl,N,H⟩))))))))
  · omega
  · exact eqTo_succ qf qf i1 qg
 refine zx4 (zcr (sp (Bv true) (zjr (ret1 (Bv true) rfl rfl ⟨_,rfl,?_,H.base⟩))))
 rw [decide_eq_true (Vw (k:=i) qf qf i1)]

theorem equalB_ok (w:World) (a:List Bool) (b:List Bool) {aa:yOA} {Fa:yLN} {ab:yOA} {Fb:yLN} (ha:qX.rep w Fa [Sv aa a.length ca] a) (hb:qX.rep w Fb [Sv ab b.length cb] b):Calls Tryz.prog 193 #[Sv aa a.length ca,Sv ab b.length cb] w (Ret (fun v w' =>v=Bv (decide (a=b))) w):=by
 refine en func193 ntmps193 ?_
 have H:=((St.start w).arg hb).arg ha
 have nha:=qV ha
 have nhb:=qV hb
 clear ha hb
 have N:=Fresh.nil w.heap.size
 refine zcr (sp (Bv false) (zjcc (sp (Sv aa a.length ca) (oN rfl (sp (Sv ab b.length cb) (oN rfl (sp (Bv ((a.length:Int) != b.length)) (zjn (xK ((a.length:Int) != b.length) rfl (fun h1=>?_) (fun h1=>?_))))))))))
 ·skip
  replace h1:=bne_iff_ne.1 h1
  refine zcr (sp (Bv false) (zjr (t_r (ret1 (Bv false) rfl rfl ⟨_,rfl,?_,H.base⟩))))
  first | rw [decide_eq_false (fun e=>by subst e;omega)] | rw [decide_eq_false (QX (k:=i) ‹_›)] | rw [decide_eq_false (QX (k:=i) (by simpa using ‹_›))]
 replace h1:=xF h1
 refine xk (t_n (zcc (sp (Sv aa a.length ca) (oN rfl (sp (yI 0) (zjn (xg ?_)))))))
 refine zJ (fun m' ρ w2=>∃ (xY:Env) (i:Nat),ρ=upd (upd (upd (upd xY 0 (Sv aa a.length ca)) 1 (Sv ab b.length cb)) 12 (yI a.length)) 13 (yI i)∧((i:Int)≤a.length)∧(a.take i=b.take i)∧m' =(a.length - (i:Int)).toNat∧Fresh w.heap.size []∧St w w2 [] [sF false Fa aa ca a,sF false Fb ab cb b]) ((a.length - (0:Int)).toNat) ⟨_,0,uE4,qf,(by rfl),rfl,N,H⟩ ?_
 clear H N
 rintro m' ρ w3 ⟨xY,i,rfl,i0,i1,rfl,N,H⟩
 refine zcr (sp (Bv (decide ((i:Int) < a.length))) (zjn (zf (cD rfl (fun h4=>?_) (fun h4=>?_)))))
 ·skip
  refine xk (t_n (zf (xg (zcr (sps [yI i,yI i] (zjn (zf ?_)))))))
  refine yl rfl H fun H=>rtp 0 (Sv aa a.length ca) H ?_
  refine rtp 1 (yI i) H ?_
  obtain ⟨b6,o7,rfl⟩:=H.addr 0 rfl qf
  refine tI 2 rfl rfl rfl H ?_
  refine tL 3 rfl rfl (fun _ h=>h.elemBoolN 0 rfl i qf) H ?_
  refine rtp 4 (Sv ab b.length cb) H ?_
  refine rtp 5 (yI i) H ?_
  obtain ⟨b9,o10,rfl⟩:=H.addr 1 rfl qf
  refine tI 6 rfl rfl rfl H ?_
  refine tL 7 rfl rfl (fun _ h=>h.elemBoolN 1 rfl i qf) H ?_
  refine rt 8 (Bv ((a[i]!) != (b[i]!))) (y_neB underlying4 (a[i]!) (b[i]!) rfl rfl) H ?_
  refine xJ qh (t_n (xK ((a[i]!) != (b[i]!)) rfl (fun h12=>?_) (fun h12=>?_)))
  ·skip
   replace h12:=bne_iff_ne.1 h12
   refine zcr (sp (Bv false) (zjr (zr5 (ret1 (Bv false) rfl rfl ⟨_,rfl,?_,H.base⟩))))
   first | rw [decide_eq_false (fun e=>by subst e;omega)] | rw [decide_eq_false (QX (k:=i) ‹_›)] | rw [decide_eq_false (QX (k:=i) (by simpa using ‹_›))]
  replace h12:=xF h12
  refine xk (b_n (t_n (zg (sw (zL i 1 rfl rfl qf (sp (yI (i+1)) (zi (xq (m' :=(a.length - ((i+1):Int)).toNat) qf ⟨_,i+1,uE4,?_,?_,rfl,N,H⟩))))))))
  · omega
  · exact eqTo_succ qf qf i1 qg
 refine zx4 (zcr (sp (Bv true) (zjr (ret1 (Bv true) rfl rfl ⟨_,rfl,?_,H.base⟩))))
 rw [decide_eq_true (Vw (k:=i) qf qf i1)]

theorem l02Same_ok (w:World) (a:qP) (b:qP) {ba oa:Nat} {QJ:yOA} {FaAlive:yLN} {XC:yOA} {FaBags:yLN} {y7:yOA} {Ve:yLN} {bb ob:Nat} {QI:yOA} {FbAlive:yLN} {XB:yOA} {FbBags:yLN} {y5:yOA} {Vd:yLN} (ha:jk w ba oa (yT a QJ QH XC Xd y7 yZ)) (V9:qX.rep w FaAlive [Sv QJ a.qG.length QH] a.qG) (haBags:qX.rep w FaBags [Sv XC a.qH.length Xd] a.qH) (XO:qX.rep w Ve [Sv y7 a.qF.length yZ] a.qF) (hb:jk w bb ob (yT b QI QG XB Xc y5 yY)) (V8:qX.rep w FbAlive [Sv QI b.qG.length QG] b.qG) (hbBags:qX.rep w FbBags [Sv XB b.qH.length Xc] b.qH) (XN:qX.rep w Vd [Sv y5 b.qF.length yY] b.qF):Calls Tryz.prog 90 #[pp ba oa,pp bb ob] w (Ret (fun v w' =>v=Bv (decide (a=b))) w):=by
 refine en func90 ntmps90 ?_
 have H:=((((((((St.start w).arg XN).arg hbBags).arg V8).Vf hb).arg XO).arg haBags).arg V9).Vf ha
 have nhaAlive:=qV V9
 have nhaBags:=qV haBags
 have nhaAround:=qV XO
 have nhbAlive:=qV V8
 have nhbBags:=qV hbBags
 have nhbAround:=qV XN
 clear ha V9 haBags XO hb V8 hbBags XN
 have N:=Fresh.nil w.heap.size
 refine zcr (sp (Bv false) (zjn (zf (zf ?_))))
 refine yl rfl H fun H=>rtp 0 (pp ba oa) H ?_
 refine rtp 1 (pp ba oa) H ?_
 refine tF 2 rfl rfl H ?_
 refine tL 3 rfl rfl (fun _ h=>h.x9 0 rfl 0 rfl) H ?_
 refine tN 4 rfl rfl H ?_
 refine rtp 5 (pp bb ob) H ?_
 refine rtp 6 (pp bb ob) H ?_
 refine tF 7 rfl rfl H ?_
 refine tL 8 rfl rfl (fun _ h=>h.x9 4 rfl 0 rfl) H ?_
 refine tN 9 rfl rfl H ?_
 refine rtp 10 (Bv ((a.qG.length:Int) != b.qG.length)) H ?_
 refine rtp 11 (Bv ((a.qG.length:Int) != b.qG.length)) H ?_
 cases h2:((a.qG.length:Int) != b.qG.length)
 ·skip
  replace h2:=xF h2
  refine rgp 12 (pp ba oa) 18 H ?_
  refine rgp 13 (pp ba oa) 18 H ?_
  refine gF 14 rfl rfl H ?_
  refine gL 15 rfl rfl (fun _ h=>h.x9 0 rfl 1 rfl) H ?_
  refine gN 16 rfl rfl H ?_
  refine rgp 17 (pp bb ob) 18 H ?_
  refine rgp 18 (pp bb ob) 18 H ?_
  refine gF 19 rfl rfl H ?_
  refine gL 20 rfl rfl (fun _ h=>h.x9 4 rfl 1 rfl) H ?_
  refine gN 21 rfl rfl H ?_
  refine rgp 22 (Bv ((a.qH.length:Int) != b.qH.length)) 18 H ?_
  refine rtp 23 (Bv ((a.qH.length:Int) != b.qH.length)) H ?_
  refine rtp 24 (Bv ((a.qH.length:Int) != b.qH.length)) H ?_
  cases h3:((a.qH.length:Int) != b.qH.length)
  ·skip
   replace h3:=xF h3
   refine rgp 25 (pp ba oa) 31 H ?_
   refine rgp 26 (pp ba oa) 31 H ?_
   refine gF 27 rfl rfl H ?_
   refine gL 28 rfl rfl (fun _ h=>h.x9 0 rfl 2 rfl) H ?_
   refine rgp 29 (pp bb ob) 31 H ?_
   refine rgp 30 (pp bb ob) 31 H ?_
   refine gF 31 rfl rfl H ?_
   refine gL 32 rfl rfl (fun _ h=>h.x9 4 rfl 2 rfl) H ?_
   refine jb [33] qh qm (Vh rfl (e:=31) rfl rfl (oq (l00Same_ok _ a.qF b.qF (H.get 3 rfl).1 (H.get 7 rfl).1) H fun w5 H=>⟨H,(rgp 34 (Bv (!(decide (a.qF=b.qF)))) 31 H ?_)⟩) jd)
   refine rtp 35 (Bv (!(decide (a.qF=b.qF)))) H ?_
   refine xJ qh (t_n (xK (!(decide (a.qF=b.qF))) rfl (fun h7=>?_) (fun h7=>?_)))
   ·skip
    replace h7:=xM h7
    replace h7:=of_decide_eq_false h7
    refine zcr (sp (Bv false) (zjr (t_r (ret1 (Bv false) rfl rfl ⟨_,rfl,?_,H.base⟩))))
    rw [decide_eq_false (fun e=>by subst e;first | omega | exact absurd rfl ql | simp_all)]
   replace h7:=xG h7
   replace h7:=of_decide_eq_true h7
   refine xk (t_n (zcc (sp (yI 0) (zjn (xg ?_)))))
   refine zJ (fun m' ρ w8=>∃ (xY:Env) (c:Nat),ρ=upd (upd (upd xY 0 (pp ba oa)) 1 (pp bb ob)) 5 (yI c)∧((c:Int)≤a.qG.length)∧(a.qG.take c=b.qG.take c)∧m' =(a.qG.length - (c:Int)).toNat∧Fresh w.heap.size []∧St w w8 [] [atF ba oa (yT a QJ QH XC Xd y7 yZ),sF false FaAlive QJ QH a.qG,sF false FaBags XC Xd a.qH,sF false Ve y7 yZ a.qF,atF bb ob (yT b QI QG XB Xc y5 yY),sF false FbAlive QI QG b.qG,sF false FbBags XB Xc b.qH,sF false Vd y5 yY b.qF]) ((a.qG.length - (0:Int)).toNat) ⟨_,0,uE3,qf,(by rfl),rfl,N,H⟩ ?_
   clear H N
   rintro m' ρ w9 ⟨xY,c,rfl,i0,i1,rfl,N,H⟩
   refine zcc (sps [yI c,pp ba oa,pp ba oa] (oF rfl (oL rfl (H.x9 0 rfl 0 rfl) (oN rfl (sp (Bv (decide ((c:Int) < a.qG.length))) (zjn (cD rfl (fun h10=>?_) (fun h10=>?_))))))))
   ·skip
    refine xk (t_n (zf (xg (zf ?_))))
    refine yl rfl H fun H=>rtp 0 (pp ba oa) H ?_
    refine rtp 1 (pp ba oa) H ?_
    refine tF 2 rfl rfl H ?_
    refine tL 3 rfl rfl (fun _ h=>h.x9 0 rfl 0 rfl) H ?_
    refine rtp 4 (yI c) H ?_
    obtain ⟨b12,o13,rfl⟩:=H.addr 1 rfl qf
    refine tI 5 rfl rfl rfl H ?_
    refine tL 6 rfl rfl (fun _ h=>h.elemBoolN 1 rfl c qf) H ?_
    refine rtp 7 (pp bb ob) H ?_
    refine rtp 8 (pp bb ob) H ?_
    refine tF 9 rfl rfl H ?_
    refine tL 10 rfl rfl (fun _ h=>h.x9 4 rfl 0 rfl) H ?_
    refine rtp 11 (yI c) H ?_
    obtain ⟨b15,o16,rfl⟩:=H.addr 5 rfl qf
    refine tI 12 rfl rfl rfl H ?_
    refine tL 13 rfl rfl (fun _ h=>h.elemBoolN 5 rfl c qf) H ?_
    refine rt 14 (Bv ((a.qG[c]!) != (b.qG[c]!))) (y_neB underlying4 (a.qG[c]!) (b.qG[c]!) rfl rfl) H ?_
    refine xJ qh (t_n (xK ((a.qG[c]!) != (b.qG[c]!)) rfl (fun h18=>?_) (fun h18=>?_)))
    ·skip
     replace h18:=bne_iff_ne.1 h18
     refine zcr (sp (Bv false) (zjr (zr5 (ret1 (Bv false) rfl rfl ⟨_,rfl,?_,H.base⟩))))
     rw [decide_eq_false (fun e=>by subst e;first | omega | exact absurd rfl ql | simp_all)]
    replace h18:=xF h18
    refine xk (b_n (t_n (zg (sp (yI c) (sw (zL c 1 rfl rfl qf (sp (yI (c+1)) (zi (xq (m' :=(a.qG.length - ((c+1):Int)).toNat) qf ⟨_,c+1,uE3,?_,?_,rfl,N,H⟩)))))))))
    · omega
    · exact eqTo_succ qf qf i1 qg
   refine zx4 (zcc (sp (yI 0) (zjn (xg ?_))))
   refine zJ (fun m' ρ w19=>∃ (xY:Env) (c_1:Nat),ρ=upd (upd (upd xY 0 (pp ba oa)) 1 (pp bb ob)) 6 (yI c_1)∧((c_1:Int)≤a.qH.length)∧(a.qH.take c_1=b.qH.take c_1)∧m' =(a.qH.length - (c_1:Int)).toNat∧Fresh w.heap.size []∧St w w19 [] [atF ba oa (yT a QJ QH XC Xd y7 yZ),sF false FaAlive QJ QH a.qG,sF false FaBags XC Xd a.qH,sF false Ve y7 yZ a.qF,atF bb ob (yT b QI QG XB Xc y5 yY),sF false FbAlive QI QG b.qG,sF false FbBags XB Xc b.qH,sF false Vd y5 yY b.qF]) ((a.qH.length - (0:Int)).toNat) ⟨_,0,uE3,qf,(by rfl),rfl,N,H⟩ ?_
   clear H N
   rintro m' ρ w20 ⟨xY,c_1,rfl,i0,i2,rfl,N,H⟩
   refine zcc (sps [yI c_1,pp ba oa,pp ba oa] (oF rfl (oL rfl (H.x9 0 rfl 1 rfl) (oN rfl (sp (Bv (decide ((c_1:Int) < a.qH.length))) (zjn (cD rfl (fun h21=>?_) (fun h21=>?_))))))))
   ·skip
    refine xk (t_n (zf (xg (zf ?_))))
    obtain ⟨b22,o23,rfl⟩:=H.addr 2 rfl qf
    obtain ⟨b25,o26,rfl⟩:=H.addr 6 rfl qf
    refine c_cut (fun ρ w34=>∃ (xY:Env) (F28:yLN) (a29:yOA) (c30:Nat) (F31:yLN) (a32:yOA) (c33:Nat),ρ=upd (upd (upd (upd xY 0 (pp ba oa)) 1 (pp bb ob)) 6 (yI c_1)) 91 (Bv (!(decide ((a.qH[c_1]!)=(b.qH[c_1]!)))))∧Fresh w.heap.size []∧St w w34 [] [sF false F28 a29 c30 (b.qH[c_1]!),atF b25 (o26+(c_1:Int).toNat * 1) [Sv a29 ((b.qH[c_1]!).length) c30],sF false F31 a32 c33 (a.qH[c_1]!),atF b22 (o23+(c_1:Int).toNat * 1) [Sv a32 ((a.qH[c_1]!).length) c33],atF ba oa [Sv QJ a.qG.length QH,Sv (aa b22 o23) a.qH.length Xd,Sv y7 a.qF.length yZ],sF false FaAlive QJ QH a.qG,sF false FaBags (aa b22 o23) Xd a.qH,sF false Ve y7 yZ a.qF,atF bb ob [Sv QI b.qG.length QG,Sv (aa b25 o26) b.qH.length Xc,Sv y5 b.qF.length yY],sF false FbAlive QI QG b.qG,sF false FbBags (aa b25 o26) Xc b.qH,sF false Vd y5 yY b.qF]) ?_ ?_
    ·skip
     refine yl rfl H fun H=>rtp 0 (pp ba oa) H ?_
     refine rtp 1 (pp ba oa) H ?_
     refine tF 2 rfl rfl H ?_
     refine tL 3 rfl rfl (fun _ h=>h.x9 0 rfl 1 rfl) H ?_
     refine rtp 4 (yI c_1) H ?_
     obtain ⟨ae36,ce36,Fe36,H⟩:=H.jq 2 rfl c_1 c_1 qf qf qf
     have S:=H.yj [] [2,3,4,5,6,7,8,9]
     refine tI 5 rfl rfl rfl S ?_
     refine rtp 7 (pp bb ob) S ?_
     refine rtp 8 (pp bb ob) S ?_
     refine tF 9 rfl rfl S ?_
     refine tL 10 rfl rfl (fun _ h=>h.x9 4 rfl 1 rfl) S ?_
     refine rtp 11 (yI c_1) S ?_
     obtain ⟨ae37,ce37,Fe37,H⟩:=H.jq 8 rfl c_1 c_1 qf qf qf
     refine tI 12 rfl rfl rfl (H.pick [] [4,5,6,7,8,9,10,11]) ?_
     refine jb [6,13] qh qm (jQ rfl ?_ (jQ rfl ?_ jd))
     ·skip
      refine zF (Sv ae36 ((a.qH[c_1]!).length) ce36) isAgg24 rfl (H.x9 3 rfl 0 rfl) (⟨H.pick [] [4,5,6,7,8,9,10,11],(ro 13 rfl (zF (Sv ae37 ((b.qH[c_1]!).length) ce37) isAgg24 rfl (H.x9 1 rfl 0 rfl) (⟨H.pick [] [4,5,6,7,8,9,10,11],(ro 14 rfl (oq (l00Same_ok _ (a.qH[c_1]!) (b.qH[c_1]!) (H.get 2 rfl).1 (H.get 0 rfl).1) H fun w39 H=>⟨H.pick [] [4,5,6,7,8,9,10,11],(rtp 15 (Bv (!(decide ((a.qH[c_1]!)=(b.qH[c_1]!))))) (H.pick [] [4,5,6,7,8,9,10,11]) ?_)⟩))⟩)))⟩)
      refine xJ qh ((meet ⟨_,Fe37,ae37,ce37,Fe36,ae36,ce36,uE4,N,H⟩))
     refine zF (Sv ae37 ((b.qH[c_1]!).length) ce37) isAgg24 rfl (H.x9 1 rfl 0 rfl) (⟨H.pick [] [4,5,6,7,8,9,10,11],(ro 6 rfl (zF (Sv ae36 ((a.qH[c_1]!).length) ce36) isAgg24 rfl (H.x9 3 rfl 0 rfl) (⟨H.pick [] [4,5,6,7,8,9,10,11],(ro 14 rfl (oq (l00Same_ok _ (a.qH[c_1]!) (b.qH[c_1]!) (H.get 2 rfl).1 (H.get 0 rfl).1) H fun w42 H=>⟨H.pick [] [4,5,6,7,8,9,10,11],(rtp 15 (Bv (!(decide ((a.qH[c_1]!)=(b.qH[c_1]!))))) (H.pick [] [4,5,6,7,8,9,10,11]) ?_)⟩))⟩)))⟩)
     refine xJ qh ((meet ⟨_,Fe37,ae37,ce37,Fe36,ae36,ce36,uE4,N,H⟩))
    clear H N
    rintro ρ w44 ⟨xY,F28,a29,c30,F31,a32,c33,rfl,N,H⟩
    refine t_n (xK (!(decide ((a.qH[c_1]!)=(b.qH[c_1]!)))) rfl (fun h45=>?_) (fun h45=>?_))
    ·skip
     replace h45:=xM h45
     replace h45:=of_decide_eq_false h45
     refine zcr (sp (Bv false) (zjr (zr5 (ret1 (Bv false) rfl rfl ⟨_,rfl,?_,H.base⟩))))
     rw [decide_eq_false (fun e=>by subst e;first | omega | exact absurd rfl ql | simp_all)]
    replace h45:=xG h45
    replace h45:=of_decide_eq_true h45
    refine xk (b_n (t_n (zg (sp (yI c_1) (sw (zL c_1 1 rfl rfl qf (sp (yI (c_1+1)) (zi (xq (m' :=(a.qH.length - ((c_1+1):Int)).toNat) qf ⟨_,c_1+1,uE3,?_,?_,rfl,N,H.pick [] [4,5,6,7,8,9,10,11]⟩)))))))))
    · omega
    · exact eqTo_succ qf qf i2 ql
   refine zx4 (zcr (sp (Bv true) (zjr (ret1 (Bv true) rfl rfl ⟨_,rfl,?_,H.base⟩))))
   rw [decide_eq_true (state_eq (Vw (k:=c) qf qf i1) (Vw (k:=c_1) qf qf i2) ql)]
  replace h3:=bne_iff_ne.1 h3
  refine zV [25,26,27,28,29,30,31,32,33,34] 10 (H) (rtp 35 (Bv true) H ?_)
  refine xJ qh (t_n (xK true rfl (fun _=>zcr (sp (Bv false) (zjr (t_r (ret1 (Bv false) rfl rfl ⟨_,rfl,?_,H.base⟩))))) (fun h=>absurd h qj)))
  rw [decide_eq_false (fun e=>by subst e;first | omega | exact absurd rfl ql | simp_all)]
 replace h2:=bne_iff_ne.1 h2
 refine zV [12,13,14,15,16,17,18,19,20,21,22] 11 (H) (rtp 23 (Bv true) H ?_)
 refine rtp 24 (Bv true) H ?_
 refine zV [25,26,27,28,29,30,31,32,33,34] 10 (H) (rtp 35 (Bv true) H ?_)
 refine xJ qh (t_n (xK true rfl (fun _=>zcr (sp (Bv false) (zjr (t_r (ret1 (Bv false) rfl rfl ⟨_,rfl,?_,H.base⟩))))) (fun h=>absurd h qj)))
 rw [decide_eq_false (fun e=>by subst e;first | omega | exact absurd rfl ql | simp_all)]

theorem l03Find_ok (w:World) (l:List qP) (u:qP) {al:yOA} {Fl:yLN} {bu ou:Nat} {auAlive:yOA} {cuAlive:Nat} {FuAlive:yLN} {auBags:yOA} {cuBags:Nat} {FuBags:yLN} {auAround:yOA} {cuAround:Nat} {FuAround:yLN} (hl:qX.rep w Fl [Sv al l.length cl] l) (hu:jk w bu ou (yT u auAlive cuAlive auBags cuBags auAround cuAround)) (huAlive:qX.rep w FuAlive [Sv auAlive u.qG.length cuAlive] u.qG) (huBags:qX.rep w FuBags [Sv auBags u.qH.length cuBags] u.qH) (huAround:qX.rep w FuAround [Sv auAround u.qF.length cuAround] u.qF):Calls Tryz.prog 166 #[Sv al l.length cl,pp bu ou] w (Ret (fun v w' =>v=yI (firstIdx (fun zz=>decide (l[zz]! =u)) l.length)) w):=by
 refine en func166 ntmps166 ?_
 have H:=(((((St.start w).arg huAround).arg huBags).arg huAlive).Vf hu).arg hl
 have nhl:=qV hl
 have nhuAlive:=qV huAlive
 have nhuBags:=qV huBags
 have nhuAround:=qV huAround
 clear hl hu huAlive huBags huAround
 have N:=Fresh.nil w.heap.size
 refine zcr (sp (yI 0) (zjcc (sp (yI 0) (zjn (xg ?_)))))
 refine zJ (fun m' ρ w1=>∃ (xY:Env) (i:Nat),ρ=upd (upd (upd xY 0 (Sv al l.length cl)) 1 (pp bu ou)) 5 (yI i)∧((i:Int)≤l.length)∧(noneTo (fun zz=>decide (l[zz]! =u)) i)∧m' =(l.length - (i:Int)).toNat∧Fresh w.heap.size []∧St w w1 [] [sF false Fl al cl l,atF bu ou (yT u auAlive cuAlive auBags cuBags auAround cuAround),sF false FuAlive auAlive cuAlive u.qG,sF false FuBags auBags cuBags u.qH,sF false FuAround auAround cuAround u.qF]) ((l.length - (0:Int)).toNat) ⟨_,0,uE3,qf,qx,rfl,N,H⟩ ?_
 clear H N
 rintro m' ρ w2 ⟨xY,i,rfl,i0,i1,rfl,N,H⟩
 refine zcc (sps [yI i,Sv al l.length cl] (oN rfl (sp (Bv (decide ((i:Int) < l.length))) (zjn (cD rfl (fun h3=>?_) (fun h3=>?_))))))
 ·skip
  refine xk (t_n (zf (xg (zcr (sps [Sv al l.length cl,yI i] ?_)))))
  obtain ⟨b4,o5,rfl⟩:=H.addr 0 rfl qf
  obtain ⟨ae7Alive,ce7Alive,Fe7Alive,ae7Bags,ce7Bags,Fe7Bags,ae7Around,ce7Around,Fe7Around,H⟩:=H.elem_StateD 0 rfl i i qf qf qf
  refine oI rfl rfl (sp (pp bu ou) (sw (oq (l02Same_ok _ (l[i]!) u (qJ (H.get 3 rfl) 0 3) (H.get 0 rfl).1 (H.get 1 rfl).1 (H.get 2 rfl).1 (qJ (H.get 5 rfl) 0 3) (H.get 6 rfl).1 (H.get 7 rfl).1 (H.get 8 rfl).1) H fun w9 H=>zjn (cD rfl (fun h11=>?_) (fun h11=>?_)))))
  ·skip
   refine zcr (sps [yI i,yI i] (zjr (zr5 (ret1 (yI i) rfl rfl ⟨_,rfl,?_,H.base⟩))))
   rw [firstIdx_some (k:=i) qf i1 (decide_eq_true ‹_›)]
  refine xk (b_n (t_n (zg (sp (yI i) (sw (zL i 1 rfl rfl qf (sp (yI (i+1)) (zi (xq (m' :=(l.length - ((i+1):Int)).toNat) qf ⟨_,i+1,uE3,?_,?_,rfl,N,H.pick [] [4,5,6,7,8]⟩)))))))))
  · omega
  · exact noneTo_succ i1 (decide_eq_false ‹_›)
 refine zx4 (zcr (sp (yI (-1)) (zjr (ret1 (yI (-1)) rfl rfl ⟨_,rfl,?_,H.base⟩))))
 rw [firstIdx_none (fun j hj=>i1 j qf)]

theorem l03Next_ok (w:World) (s:qI) (t:qP) (cs:yLL) {qE:yOA} {xe:yLN} {qO:yOA} {xE:yLN} {qU:yOA} {xO:yLN} {xf:yOA} {zo:yLN} {qM:yOA} {xB:yLN} {acs:yOA} {Fcs:yLN} (hs:jk w bs os (yS s qE qC qO qK)) (qZ:qX.rep w xe [Sv qE s.qA.length qC] s.qA) (xC:qX.rep w xE [Sv qO s.qB.length qK] s.qB) (ht:jk w bt ot (yT t qU qQ xf qY qM qL)) (xQ:qX.rep w xO [Sv qU t.qG.length qQ] t.qG) (zA:qX.rep w zo [Sv xf t.qH.length qY] t.qH) (xH:qX.rep w xB [Sv qM t.qF.length qL] t.qF) (hcs:qX.rep w Fcs [Sv acs cs.length ccs] cs) (p0:zQ s) (p1:xI s t) (p2:cs.length≤1000) (p3:∀ q,q < cs.length→XZ s (cs[q]!)):Calls Tryz.prog 162 #[pp bs os,pp bt ot,Sv acs cs.length ccs] w (Ret (fun v w' =>∃ (ra0:yOA) (rn0:Nat) (rc0:Nat) (rx0:List Value) (rF0:yLN),v=.tuple #[Sv ra0 rn0 rc0,yI ((yK s t cs).2)]∧Fresh w.heap.size [rF0]∧St w w' [rr ra0 rn0 rc0 31 3 rx0] [xN true rF0 rx0 ((yK s t cs).1)]) w):=by
 refine en func162 ntmps162 ?_
 have H:=((((((((St.start w).arg hcs).arg xH).arg zA).arg xQ).Vf ht).arg xC).arg qZ).Vf hs
 have zX:=qV qZ
 have jo:=qV xC
 have yC:=qV xQ
 have Qm:=qV zA
 have jH:=qV xH
 have nhcs:=qV hcs
 clear hs qZ xC ht xQ zA xH hcs
 have N:=Fresh.nil w.heap.size
 refine zcr (sps [yN,yI 0] (zjc (sw (je H underlying60 ti31 fun b1 w2 H=>sp (Sv (aa b1 0) 0 0) (zjcc (sp (yI 0) (zjn (xg ?_))))))))
 replace H:=H.boxRow 0 rfl 3 0 rfl qj
 replace H:=H.vT (α:=qP)
 replace H:St _ _ [rr (aa b1 0) 0 0 31 3 []] [xN true [] [] ([]:List qP),atF bs os (yS s qE qC qO qK),sF false xe qE qC s.qA,sF false xE qO qK s.qB,atF bt ot (yT t qU qQ xf qY qM qL),sF false xO qU qQ t.qG,sF false zo xf qY t.qH,sF false xB qM qL t.qF,sF false Fcs acs ccs cs]:=H
 refine zJ (fun m' ρ w3=>∃ (xY:Env) (vY:yOA) (zG:Nat) (vG:Nat) (out:List qP) (QQ:List Value) (Qu:yLN) (i:Nat),ρ=upd (upd (upd (upd (upd xY 0 (pp bs os)) 1 (pp bt ot)) 2 (Sv acs cs.length ccs)) 8 (Sv vY zG vG)) 9 (yI i)∧out=yE s t cs i∧((i:Int)≤cs.length)∧(NoBad s t cs i)∧m' =(cs.length - (i:Int)).toNat∧Fresh w.heap.size [Qu]∧St w w3 [rr vY zG vG 31 3 QQ] [xN true Qu QQ out,atF bs os (yS s qE qC qO qK),sF false xe qE qC s.qA,sF false xE qO qK s.qB,atF bt ot (yT t qU qQ xf qY qM qL),sF false xO qU qQ t.qG,sF false zo xf qY t.qH,sF false xB qM qL t.qF,sF false Fcs acs ccs cs]) ((cs.length - (0:Int)).toNat) ⟨_,(aa b1 0),0,0,([]:List qP),[],[],0,uE5,(by rfl),qf,qx,rfl,N.emp,H⟩ ?_
 clear H N
 rintro m' ρ w4 ⟨xY,vY,zG,vG,out,QQ,Qu,i,rfl,rfl,i0,i1,rfl,N,H⟩
 have hn_out:=H.x8 (α:=qP) 0 rfl 0 rfl qj
 have nl:=nextTo_len (s:=s) (t:=t) (cs:=cs) i
 refine zcc (sps [yI i,Sv acs cs.length ccs] (oN rfl (sp (Bv (decide ((i:Int) < cs.length))) (zjn (cD rfl (fun h5=>?_) (fun h5=>?_))))))
 ·skip
  refine xk (t_n (zf (xg (zcr (sps [pp bs os,pp bt ot,Sv acs cs.length ccs,yI i] ?_)))))
  obtain ⟨b6,o7,rfl⟩:=H.addr 8 rfl qf
  obtain ⟨ae9,ce9,Fe9,H⟩:=H.jq 8 rfl i i qf qf qf
  refine oI rfl rfl (oL rfl (H.x9 1 rfl 0 rfl) ?_)
  have k3:=p3 i qf
  have sz13:=H.base.size
  have lt14:=H.ltN (L:=[Qu]) [2]
  refine sw (oc (l03Step_ok _ s t (cs[i]!) (qJ (H.get 3 rfl) 0 3) (H.get 4 rfl).1 (H.get 5 rfl).1 (qJ (H.get 6 rfl) 0 3) (H.get 7 rfl).1 (H.get 8 rfl).1 (H.get 9 rfl).1 (H.get 0 rfl).1 qg qg qg) ?_)
  rintro _ w11 ⟨ra10aAlive,rn10aAlive,rc10aAlive,ra10aBags,rn10aBags,rc10aBags,rx10aBags,rF10aBags,ra10aAround,rn10aAround,rc10aAround,rfl,M,K⟩ _
  replace N:=N.merge sz13 lt14 M
  replace H:=H.merge K M
  obtain rfl:=H.rowNB 0 rfl
  obtain rfl:=H.x8 (α:=yLI) 1 rfl 0 rfl qj
  obtain rfl:=H.yx 2 rfl
  refine sps [.tuple #[.agg #[Sv ra10aAlive ((((zl s t (cs[i]!)).1).qG).length) rc10aAlive,Sv ra10aBags ((((zl s t (cs[i]!)).1).qH).length) rc10aBags,Sv ra10aAround ((((zl s t (cs[i]!)).1).qF).length) rc10aAround],yI ((zl s t (cs[i]!)).2)],.agg #[Sv ra10aAlive ((((zl s t (cs[i]!)).1).qG).length) rc10aAlive,Sv ra10aBags ((((zl s t (cs[i]!)).1).qH).length) rc10aBags,Sv ra10aAround ((((zl s t (cs[i]!)).1).qF).length) rc10aAround],yI ((zl s t (cs[i]!)).2)] (sw (xZ H ti31 [yN,yN,yN] fun b18 w19 H=>?_))
  refine sw (zu H 0 [Sv ra10aAlive ((((zl s t (cs[i]!)).1).qG).length) rc10aAlive,Sv ra10aBags ((((zl s t (cs[i]!)).1).qH).length) rc10aBags,Sv ra10aAround ((((zl s t (cs[i]!)).1).qF).length) rc10aAround] sizeOf31 fun w20 H=>sp (yI ((zl s t (cs[i]!)).2)) (zjcc (sps [yI ((zl s t (cs[i]!)).2),Bv (((zl s t (cs[i]!)).2:Int) != 0)] (zjn (xK (((zl s t (cs[i]!)).2:Int) != 0) rfl (fun h21=>?_) (fun h21=>?_))))))
  ·skip
   replace h21:=bne_iff_ne.1 h21
   refine zcr (sw (je H underlying60 ti31 fun b22 w23 H=>sps [yI ((zl s t (cs[i]!)).2),Sv (aa b22 0) 0 0,yI ((zl s t (cs[i]!)).2)] (zjr (t_r (zr5 ?_)))))
   replace H:=H.boxRow 0 rfl 3 0 rfl qj
   replace H:=H.vT (α:=qP)
   replace H:St _ _ [rr (aa b22 0) 0 0 31 3 [],.box b18 [Sv ra10aAlive ((((zl s t (cs[i]!)).1).qG).length) rc10aAlive,Sv ra10aBags ((((zl s t (cs[i]!)).1).qH).length) rc10aBags,Sv ra10aAround ((((zl s t (cs[i]!)).1).qF).length) rc10aAround] 31,rr ra10aAlive ((((zl s t (cs[i]!)).1).qG).length) rc10aAlive 4 1 ((((zl s t (cs[i]!)).1).qG).map (Value.bool)),rr ra10aBags ((((zl s t (cs[i]!)).1).qH).length) rc10aBags 24 1 rx10aBags,rr ra10aAround ((((zl s t (cs[i]!)).1).qF).length) rc10aAround 2 1 ((((zl s t (cs[i]!)).1).qF).map (Value.int .i64)),rr vY zG vG 31 3 QQ] [xN true [] [] ([]:List qP),xN true rF10aBags rx10aBags (((zl s t (cs[i]!)).1).qH),sF false Fe9 ae9 ce9 (cs[i]!),atF b6 (o7+(i:Int).toNat * 1) [Sv ae9 ((cs[i]!).length) ce9],xN true Qu QQ (yE s t cs i),atF bs os (yS s qE qC qO qK),sF false xe qE qC s.qA,sF false xE qO qK s.qB,atF bt ot (yT t qU qQ xf qY qM qL),sF false xO qU qQ t.qG,sF false zo xf qY t.qH,sF false xB qM qL t.qF,sF false Fcs (aa b6 o7) ccs cs]:=H
   refine ret2 (Sv (aa b22 0) 0 0) (yI ((zl s t (cs[i]!)).2)) rfl rfl rfl ⟨_,rfl,?_,H.base⟩
   rw [next_bad i1 qf ‹_›]
   exact ⟨(aa b22 0),0,0,[],[],rfl,(N.emp.pick [0]),H.pick [0] [0]⟩
  replace h21:=xF h21
  refine xk (t_n (zcr (sp (Sv vY zG vG) ?_)))
  obtain ⟨G24,hn25,h26⟩:=H.QK (α:=qP) 4 rfl 3 rfl qj
  obtain ⟨G27,hn28,h29⟩:=H.rowIsB 1 rfl
  obtain ⟨G30,hn31,h32⟩:=H.QK (α:=yLI) 2 rfl 0 rfl qj
  obtain ⟨G33,hn34,h35⟩:=H.QW 3 rfl
  refine sw (oq (args_eq (by rw [← hn25]) (l03Find_ok _ (yE s t cs i) ((zl s t (cs[i]!)).1) (hn25▸h26) (qJ (H.cells 0 rfl) 0 3) h29 h32 h35)) H fun w37 H=>sp (Bv (decide ((firstIdx (fun zz=>decide ((yE s t cs i)[zz]! =((zl s t (cs[i]!)).1))) (yE s t cs i).length:Int) < 0))) (zjn (cD rfl (fun h39=>?_) (fun h39=>?_))))
  ·skip
   refine zg (sp (Sv vY zG vG) (sw (xU [Sv ra10aAlive ((((zl s t (cs[i]!)).1).qG).length) rc10aAlive,Sv ra10aBags ((((zl s t (cs[i]!)).1).qH).length) rc10aBags,Sv ra10aAround ((((zl s t (cs[i]!)).1).qF).length) rc10aAround] isAgg31 sizeOf31 rfl (qJ (H.cells 0 rfl) 0 3) (sw (zy H underlying60 ti31 [Sv ra10aAlive ((((zl s t (cs[i]!)).1).qG).length) rc10aAlive,Sv ra10aBags ((((zl s t (cs[i]!)).1).qH).length) rc10aBags,Sv ra10aAround ((((zl s t (cs[i]!)).1).qF).length) rc10aAround] fun b40 w41 H=>?_)))))
   obtain ⟨G45,N,hn46,H⟩:=H.freezeB 2 rfl N (H.jR [0,3])
   have H0:=H
   obtain ⟨G47,hg49,hn48,H⟩:=H.Xz (α:=yLI) 3 rfl 1 rfl qj
   replace N:Fresh w.heap.size [G47,G45,Qu]:=Fresh.ice (N.pick [1,0,2]) H0 3 hg49.1 hg49.2 (H0.jR [0,4])
   clear H0
   obtain ⟨G50,N,hn51,H⟩:=H.zT 4 rfl N (H.jR [0,1,5])
   refine sw (zC H 5 rfl 0 rfl underlying60 ti31 rfl qj rfl rfl rfl qw qp qf fun a42 c43 w44 H=>?_)
   replace H:=H.snoc_StateD 6 rfl 2 rfl 1 rfl 0 rfl
   replace N:Fresh w.heap.size [(Qu++(G45++G47++G50))]:=(N.pick [2,1,0,3]).join.join.swap.join
   refine sp (Sv a42 (zG+1) c43) (zi (b_n (t_n (zg (sp (yI i) (sw (zL i 1 rfl rfl qf (sp (yI (i+1)) (zi ?_)))))))))
   refine xq (m' :=(cs.length - ((i+1):Int)).toNat) qf ⟨_,a42,zG+1,c43,((yE s t cs i)++[⟨((zl s t (cs[i]!)).1).qG,((zl s t (cs[i]!)).1).qH,((zl s t (cs[i]!)).1).qF⟩]),QQ++[Sv ra10aAlive ((((zl s t (cs[i]!)).1).qG).length) rc10aAlive,Sv ra10aBags ((((zl s t (cs[i]!)).1).qH).length) rc10aBags,Sv ra10aAround ((((zl s t (cs[i]!)).1).qF).length) rc10aAround],(Qu++(G45++G47++G50)),i+1,uE5,?_,?_,?_,rfl,N,H.pick [5] [0,8,9,10,11,12,13,14,15]⟩
   · first | exact nextTo_new (find_mem.1 ql) | exact nextTo_in (Classical.byContradiction fun h=>absurd (find_mem.2 h) ql)
   · omega
   · exact i1.succ ‹_›
  refine xk (b_n (t_n (zg (sp (yI i) (sw (zL i 1 rfl rfl qf (sp (yI (i+1)) (zi (xq (m' :=(cs.length - ((i+1):Int)).toNat) qf ⟨_,vY,zG,vG,(yE s t cs i),QQ,Qu,i+1,uE5,?_,?_,?_,rfl,(N.pick [1]),H.pick [4] [3,4,5,6,7,8,9,10,11]⟩)))))))))
  · first | exact nextTo_new (find_mem.1 ql) | exact nextTo_in (Classical.byContradiction fun h=>absurd (find_mem.2 h) ql)
  · omega
  · exact i1.succ ‹_›
 refine zx4 (zcr (sps [Sv vY zG vG,Sv vY zG vG,yI 0] (zjr (ret2 (Sv vY zG vG) (yI 0) rfl rfl rfl ⟨_,rfl,?_,H.base⟩))))
 rw [next_ok (fun j hj=>i1 j qf),show cs.length=i by omega]
 exact ⟨vY,zG,vG,QQ,Qu,rfl,N,H.pick [0] [0]⟩

theorem sameState_ok (w:World) (a:qP) (b:qP) {QJ:yOA} {FaAlive:yLN} {XC:yOA} {FaBags:yLN} {y7:yOA} {Ve:yLN} {QI:yOA} {FbAlive:yLN} {XB:yOA} {FbBags:yLN} {y5:yOA} {Vd:yLN} (V9:qX.rep w FaAlive [Sv QJ a.qG.length QH] a.qG) (haBags:qX.rep w FaBags [Sv XC a.qH.length Xd] a.qH) (XO:qX.rep w Ve [Sv y7 a.qF.length yZ] a.qF) (V8:qX.rep w FbAlive [Sv QI b.qG.length QG] b.qG) (hbBags:qX.rep w FbBags [Sv XB b.qH.length Xc] b.qH) (XN:qX.rep w Vd [Sv y5 b.qF.length yY] b.qF):Calls Tryz.prog 160 #[.agg #[Sv QJ a.qG.length QH,Sv XC a.qH.length Xd,Sv y7 a.qF.length yZ],.agg #[Sv QI b.qG.length QG,Sv XB b.qH.length Xc,Sv y5 b.qF.length yY]] w (Ret (fun v w' =>v=Bv (decide (a=b))) w):=by
 refine en func160 ntmps160 ?_
 have H:=((((((St.start w).arg XN).arg hbBags).arg V8).arg XO).arg haBags).arg V9
 have nhaAlive:=qV V9
 have nhaBags:=qV haBags
 have nhaAround:=qV XO
 have nhbAlive:=qV V8
 have nhbBags:=qV hbBags
 have nhbAround:=qV XN
 clear V9 haBags XO V8 hbBags XN
 have N:=Fresh.nil w.heap.size
 refine zcr (sw (zW H (yT a QJ QH XC Xd y7 yZ) fun b1 w2 H=>sw (zW H (yT b QI QG XB Xc y5 yY) fun b3 w4 H=>sp (Bv false) (zjc (oF rfl (oL rfl (H.cell 1 rfl rfl) (oF rfl (oL rfl (H.cell 0 rfl rfl) (sw (oq (equalB_ok _ a.qG b.qG (H.get 0 rfl).1 (H.get 3 rfl).1) H fun w6 H=>sp (Bv (decide (a.qG=b.qG))) ?_))))))))))
 cases h8:(decide (a.qG=b.qG))
 ·skip
  replace h8:=of_decide_eq_false h8
  refine xW [11,12,13,14,15] (sps [Bv false,Bv false] (xW [18,19,20,21,22] (sps [Bv false,Bv false] (zjr (ret1 (Bv false) rfl rfl ⟨_,rfl,?_,H.base⟩)))))
  rw [decide_eq_false (fun e=>by subst e;first | omega | exact absurd rfl ql | simp_all)]
 replace h8:=of_decide_eq_true h8
 refine qR 10 rfl rfl (oF rfl (qR 10 rfl rfl (oL rfl (H.cell 1 rfl rfl) (qR 10 rfl rfl (oF rfl (qR 10 rfl rfl (oL rfl (H.cell 0 rfl rfl) (qR 10 rfl rfl (sw (vk #[Sv XC a.qH.length Xd,Sv XB b.qH.length Xc,.func (.func 195) #[] #[]] rfl rfl call194 (en func194 ntmps194 ?_)))))))))))
 refine zcr (sp (Bv false) (zjcc (sp (Sv XC a.qH.length Xd) (oN rfl (sp (Sv XB b.qH.length Xc) (oN rfl (sp (Bv ((a.qH.length:Int) != b.qH.length)) (zjn (xK ((a.qH.length:Int) != b.qH.length) rfl (fun h9=>?_) (fun h9=>?_))))))))))
 ·skip
  replace h9:=bne_iff_ne.1 h9
  refine zcr (sp (Bv false) (zjr (t_r (ret1 (Bv false) rfl rfl ⟨_,rfl,(sps [Bv false,Bv false] (xW [18,19,20,21,22] (sps [Bv false,Bv false] (zjr (ret1 (Bv false) rfl rfl ⟨_,rfl,?_,H.base⟩)))))⟩))))
  rw [decide_eq_false (fun e=>by subst e;first | omega | exact absurd rfl ql | simp_all)]
 replace h9:=xF h9
 refine xk (t_n (zcc (sp (Sv XC a.qH.length Xd) (oN rfl (sp (yI 0) (zjn (xg ?_)))))))
 refine zJ (fun m' ρ w10=>∃ (xY:Env) (i:Nat),ρ=upd (upd (upd (upd (upd xY 1 (Sv XB b.qH.length Xc)) 2 (.func (.func 195) #[] #[])) 15 (Sv XC a.qH.length Xd)) 16 (yI a.qH.length)) 17 (yI i)∧((i:Int)≤a.qH.length)∧(a.qH.take i=b.qH.take i)∧m' =(a.qH.length - (i:Int)).toNat∧Fresh w.heap.size []∧St w w10 [.box b3 (yT b QI QG XB Xc y5 yY) 31,.box b1 (yT a QJ QH XC Xd y7 yZ) 31] [sF false FaAlive QJ QH a.qG,sF false FaBags XC Xd a.qH,sF false Ve y7 yZ a.qF,sF false FbAlive QI QG b.qG,sF false FbBags XB Xc b.qH,sF false Vd y5 yY b.qF]) ((a.qH.length - (0:Int)).toNat) ⟨_,0,uE5,qf,(by rfl),rfl,N,H⟩ ?_
 clear H N
 rintro m' ρ w11 ⟨xY,i,rfl,i0,i2,rfl,N,H⟩
 refine zcr (sp (Bv (decide ((i:Int) < a.qH.length))) (zjn (zf (cD rfl (fun h12=>?_) (fun h12=>?_)))))
 ·skip
  refine xk (t_n (zf (xg (zcr (sp (yI i) ?_)))))
  obtain ⟨b13,o14,rfl⟩:=H.addr 1 rfl qf
  obtain ⟨ae16,ce16,Fe16,H⟩:=H.jq 1 rfl i i qf qf qf
  refine oI rfl rfl (oL rfl (H.x9 1 rfl 0 rfl) (sps [yI i,Sv ae16 ((a.qH[i]!).length) ce16] (zjc (sps [Sv XB b.qH.length Xc,yI i] ?_))))
  obtain ⟨b17,o18,rfl⟩:=H.addr 6 rfl qf
  obtain ⟨ae20,ce20,Fe20,H⟩:=H.jq 6 rfl i i qf qf qf
  refine oI rfl rfl (oL rfl (H.x9 1 rfl 0 rfl) (sp (Sv ae20 ((b.qH[i]!).length) ce20) (zjc (sps [.func (.func 195) #[] #[],Sv ae16 ((a.qH[i]!).length) ce16,Sv ae20 ((b.qH[i]!).length) ce20] (sw (oq (equalI_ok _ (a.qH[i]!) (b.qH[i]!) (H.get 2 rfl).1 (H.get 0 rfl).1) H fun w22 H=>sp (Bv (!(decide ((a.qH[i]!)=(b.qH[i]!))))) (zjn (xK (!(decide ((a.qH[i]!)=(b.qH[i]!)))) rfl (fun h24=>?_) (fun h24=>?_)))))))))
  ·skip
   replace h24:=xM h24
   replace h24:=of_decide_eq_false h24
   refine zcr (sp (Bv false) (zjr (zr5 (ret1 (Bv false) rfl rfl ⟨_,rfl,(sps [Bv false,Bv false] (xW [18,19,20,21,22] (sps [Bv false,Bv false] (zjr (ret1 (Bv false) rfl rfl ⟨_,rfl,?_,H.base⟩)))))⟩))))
   rw [decide_eq_false (fun e=>by subst e;first | omega | exact absurd rfl ql | simp_all)]
  replace h24:=xG h24
  replace h24:=of_decide_eq_true h24
  refine xk (b_n (t_n (zg (sw (zL i 1 rfl rfl qf (sp (yI (i+1)) (zi (xq (m' :=(a.qH.length - ((i+1):Int)).toNat) qf ⟨_,i+1,uE5,?_,?_,rfl,N,H.pick [0,1] [4,5,6,7,8,9]⟩))))))))
  · omega
  · exact eqTo_succ qf qf i2 ql
 refine zx4 (zcr (sp (Bv true) (zjr (ret1 (Bv true) rfl rfl ⟨_,rfl,(sps [Bv true,Bv true] (qR 17 rfl rfl (oF rfl (qR 17 rfl rfl (oL rfl (H.cell 1 rfl rfl) (qR 17 rfl rfl (oF rfl (qR 17 rfl rfl (oL rfl (H.cell 0 rfl rfl) (qR 17 rfl rfl (sw (oq (equalI_ok _ a.qF b.qF (H.get 2 rfl).1 (H.get 5 rfl).1) H fun w26 H=>sps [Bv (decide (a.qF=b.qF)),Bv (decide (a.qF=b.qF))] (zjr (ret1 (Bv (decide (a.qF=b.qF))) rfl rfl ⟨_,rfl,?_,H.base⟩))))))))))))))⟩))))
 rw [show decide (a=b)=decide (a.qF=b.qF) from decide_eq_decide.2 ⟨fun e=>by rw [e],fun e=>state_eq ql (Vw (k:=i) qf qf i2) e⟩]

theorem behind_ok (w:World) (s:qI) (t:qP) (cs:yLL) {qE:yOA} {xe:yLN} {qO:yOA} {xE:yLN} {qU:yOA} {xO:yLN} {xf:yOA} {zo:yLN} {qM:yOA} {xB:yLN} {acs:yOA} {Fcs:yLN} (qZ:qX.rep w xe [Sv qE s.qA.length qC] s.qA) (xC:qX.rep w xE [Sv qO s.qB.length qK] s.qB) (xQ:qX.rep w xO [Sv qU t.qG.length qQ] t.qG) (zA:qX.rep w zo [Sv xf t.qH.length qY] t.qH) (xH:qX.rep w xB [Sv qM t.qF.length qL] t.qF) (hcs:qX.rep w Fcs [Sv acs cs.length ccs] cs) (p0:zQ s) (p1:xI s t) (p2:cs.length≤1000) (p3:∀ q,q < cs.length→XZ s (cs[q]!)) (p4:∀ q,q < cs.length→IsCh s t (cs[q]!)):Calls Tryz.prog 89 #[.agg #[yI s.xh,Sv qE s.qA.length qC,Sv qO s.qB.length qK],.agg #[Sv qU t.qG.length qQ,Sv xf t.qH.length qY,Sv qM t.qF.length qL],Sv acs cs.length ccs] w (Ret (fun v w' =>∃ (ra0:yOA) (rn0:Nat) (rc0:Nat) (rx0:List Value) (rF0:yLN),v=.tuple #[Sv ra0 rn0 rc0,yI ((yK s t cs).2)]∧Fresh w.heap.size [rF0]∧St w w' [rr ra0 rn0 rc0 31 3 rx0] [xN true rF0 rx0 ((yK s t cs).1)]) w):=by
 refine en func89 ntmps89 ?_
 have H:=((((((St.start w).arg hcs).arg xH).arg zA).arg xQ).arg xC).arg qZ
 have zX:=qV qZ
 have jo:=qV xC
 have yC:=qV xQ
 have Qm:=qV zA
 have jH:=qV xH
 have nhcs:=qV hcs
 clear qZ xC xQ zA xH hcs
 have N:=Fresh.nil w.heap.size
 refine zcr (sw (zW H (yS s qE qC qO qK) fun b1 w2 H=>sw (zW H (yT t qU qQ xf qY qM qL) fun b3 w4 H=>sps [yN,yI 0] (zjc (sw (je H underlying60 ti31 fun b5 w6 H=>sp (Sv (aa b5 0) 0 0) (zjcc (sp (Sv acs cs.length ccs) (oN rfl (sp (yI 0) (zjn (xg ?_))))))))))))
 replace H:=H.boxRow 0 rfl 3 0 rfl qj
 replace H:=H.vT (α:=qP)
 replace H:St _ _ [rr (aa b5 0) 0 0 31 3 [],.box b3 (yT t qU qQ xf qY qM qL) 31,.box b1 (yS s qE qC qO qK) 27] [xN true [] [] ([]:List qP),sF false xe qE qC s.qA,sF false xE qO qK s.qB,sF false xO qU qQ t.qG,sF false zo xf qY t.qH,sF false xB qM qL t.qF,sF false Fcs acs ccs cs]:=H
 refine zJ (fun m' ρ w7=>∃ (xY:Env) (vY:yOA) (zG:Nat) (vG:Nat) (out:List qP) (QQ:List Value) (Qu:yLN) (k:Nat),ρ=upd (upd (upd (upd (upd (upd xY 3 (pp b1 0)) 4 (pp b3 0)) 8 (Sv vY zG vG)) 14 (Sv acs cs.length ccs)) 15 (yI cs.length)) 16 (yI k)∧out=yE s t cs k∧((k:Int)≤cs.length)∧(NoBad s t cs k)∧m' =(cs.length - (k:Int)).toNat∧Fresh w.heap.size [Qu]∧St w w7 [rr vY zG vG 31 3 QQ,.box b3 (yT t qU qQ xf qY qM qL) 31,.box b1 (yS s qE qC qO qK) 27] [xN true Qu QQ out,sF false xe qE qC s.qA,sF false xE qO qK s.qB,sF false xO qU qQ t.qG,sF false zo xf qY t.qH,sF false xB qM qL t.qF,sF false Fcs acs ccs cs]) ((cs.length - (0:Int)).toNat) ⟨_,(aa b5 0),0,0,([]:List qP),[],[],0,uE6,(by rfl),qf,qx,rfl,N.emp,H⟩ ?_
 clear H N
 rintro m' ρ w8 ⟨xY,vY,zG,vG,out,QQ,Qu,k,rfl,rfl,i0,i1,rfl,N,H⟩
 have hn_out:=H.x8 (α:=qP) 0 rfl 0 rfl qj
 have nl:=nextTo_len (s:=s) (t:=t) (cs:=cs) k
 refine zcr (sp (Bv (decide ((k:Int) < cs.length))) (zjn (zf (cD rfl (fun h9=>?_) (fun h9=>?_)))))
 ·skip
  refine xk (t_n (zf (xg (zcr ?_))))
  obtain ⟨b10,o11,rfl⟩:=H.addr 6 rfl qf
  obtain ⟨ae13,ce13,Fe13,H⟩:=H.jq 6 rfl k k qf qf qf
  refine oI rfl rfl (oL rfl (H.x9 1 rfl 0 rfl) (sp (Sv ae13 ((cs[k]!).length) ce13) (zjc (sw (xU (yS s qE qC qO qK) isAgg27 sizeOf27 rfl (qJ (H.cells 2 rfl) 0 3) (sw (xU (yT t qU qQ xf qY qM qL) isAgg31 sizeOf31 rfl (qJ (H.cells 1 rfl) 0 3) (sp (Sv ae13 ((cs[k]!).length) ce13) ?_))))))))
  have k3:=p3 k qf
  have k5:=p4 k qf
  have sz17:=H.base.size
  have lt18:=H.ltN (L:=[Qu]) [2]
  refine sw (oc (step_ok _ s t (cs[k]!) (H.get 3 rfl).1 (H.get 4 rfl).1 (H.get 5 rfl).1 (H.get 6 rfl).1 (H.get 7 rfl).1 (H.get 0 rfl).1 qg qg qg qg) ?_)
  rintro _ w15 ⟨ra14aAlive,rn14aAlive,rc14aAlive,ra14aBags,rn14aBags,rc14aBags,rx14aBags,rF14aBags,ra14aAround,rn14aAround,rc14aAround,rfl,M,K⟩ _
  replace N:=N.merge sz17 lt18 M
  replace H:=H.merge K M
  obtain rfl:=H.rowNB 0 rfl
  obtain rfl:=H.x8 (α:=yLI) 1 rfl 0 rfl qj
  obtain rfl:=H.yx 2 rfl
  refine sps [.tuple #[.agg #[Sv ra14aAlive ((((zl s t (cs[k]!)).1).qG).length) rc14aAlive,Sv ra14aBags ((((zl s t (cs[k]!)).1).qH).length) rc14aBags,Sv ra14aAround ((((zl s t (cs[k]!)).1).qF).length) rc14aAround],yI ((zl s t (cs[k]!)).2)],.agg #[Sv ra14aAlive ((((zl s t (cs[k]!)).1).qG).length) rc14aAlive,Sv ra14aBags ((((zl s t (cs[k]!)).1).qH).length) rc14aBags,Sv ra14aAround ((((zl s t (cs[k]!)).1).qF).length) rc14aAround],yI ((zl s t (cs[k]!)).2)] (sw (xZ H ti31 [yN,yN,yN] fun b22 w23 H=>?_))
  refine sw (zu H 0 [Sv ra14aAlive ((((zl s t (cs[k]!)).1).qG).length) rc14aAlive,Sv ra14aBags ((((zl s t (cs[k]!)).1).qH).length) rc14aBags,Sv ra14aAround ((((zl s t (cs[k]!)).1).qF).length) rc14aAround] sizeOf31 fun w24 H=>sp (yI ((zl s t (cs[k]!)).2)) (zjcc (sps [yI ((zl s t (cs[k]!)).2),Bv (((zl s t (cs[k]!)).2:Int) != 0)] (zjn (xK (((zl s t (cs[k]!)).2:Int) != 0) rfl (fun h25=>?_) (fun h25=>?_))))))
  ·skip
   replace h25:=bne_iff_ne.1 h25
   refine zcr (sps [yI ((zl s t (cs[k]!)).2),yN,yI ((zl s t (cs[k]!)).2)] (zjr (t_r (zr5 ?_))))
   replace H:=H.nilRow 31 3
   replace H:=H.vT (α:=qP)
   refine ret2 yN (yI ((zl s t (cs[k]!)).2)) rfl rfl rfl ⟨_,rfl,?_,H.base⟩
   rw [next_bad i1 qf ‹_›]
   exact ⟨none,0,0,[],[],rfl,(N.emp.pick [0]),H.pick [0] [0]⟩
  replace h25:=xF h25
  refine xk (t_n (zcr (sps [Sv vY zG vG,.func (.func 159) #[] #[pp b22 0]] (sw (vk #[Sv vY zG vG,.func (.func 159) #[] #[pp b22 0]] rfl rfl call158 (en func158 ntmps158 ?_))))))
  refine zcr (sp (Bv false) (zjc (sps [Sv vY zG vG,.func (.func 159) #[] #[pp b22 0]] (sw (vk #[Sv vY zG vG,.func (.func 159) #[] #[pp b22 0]] rfl rfl call168 (en func168 ntmps168 ?_))))))
  refine zcr (sp (yI 0) (zjcc (sp (Sv vY zG vG) (oN rfl (sp (yI 0) (zjn (xg ?_)))))))
  refine zJ (fun m' ρ w26=>∃ (xY:Env) (i:Nat),ρ=upd (upd (upd (upd xY 0 (Sv vY zG vG)) 1 (.func (.func 159) #[] #[pp b22 0])) 7 (yI zG)) 8 (yI i)∧((i:Int)≤zG)∧(NotIn (yE s t cs k) (zl s t (cs[k]!)).1 i)∧m' =(zG - (i:Int)).toNat∧Fresh w.heap.size [rF14aBags,Qu]∧St w w26 [.box b22 [Sv ra14aAlive ((((zl s t (cs[k]!)).1).qG).length) rc14aAlive,Sv ra14aBags ((((zl s t (cs[k]!)).1).qH).length) rc14aBags,Sv ra14aAround ((((zl s t (cs[k]!)).1).qF).length) rc14aAround] 31,rr ra14aAlive ((((zl s t (cs[k]!)).1).qG).length) rc14aAlive 4 1 ((((zl s t (cs[k]!)).1).qG).map (Value.bool)),rr ra14aBags ((((zl s t (cs[k]!)).1).qH).length) rc14aBags 24 1 rx14aBags,rr ra14aAround ((((zl s t (cs[k]!)).1).qF).length) rc14aAround 2 1 ((((zl s t (cs[k]!)).1).qF).map (Value.int .i64)),rr vY zG vG 31 3 QQ,.box b3 (yT t qU qQ xf qY qM qL) 31,.box b1 (yS s qE qC qO qK) 27] [xN true rF14aBags rx14aBags (((zl s t (cs[k]!)).1).qH),sF false Fe13 ae13 ce13 (cs[k]!),atF b10 (o11+(k:Int).toNat * 1) [Sv ae13 ((cs[k]!).length) ce13],xN true Qu QQ (yE s t cs k),sF false xe qE qC s.qA,sF false xE qO qK s.qB,sF false xO qU qQ t.qG,sF false zo xf qY t.qH,sF false xB qM qL t.qF,sF false Fcs (aa b10 o11) ccs cs]) ((zG - (0:Int)).toNat) ⟨_,0,uE4,qf,qx,rfl,N,H⟩ ?_
  clear H N
  rintro m' ρ w27 ⟨xY,i,rfl,i0,i2,rfl,N,H⟩
  refine zcr (sp (Bv (decide ((i:Int) < zG))) (zjn (zf (cD rfl (fun h28=>?_) (fun h28=>?_)))))
  ·skip
   refine xk (t_n (zf (xg (zcr (sps [yI i,yI i] (zjc (sps [.func (.func 159) #[] #[pp b22 0],Sv vY zG vG,yI i] ?_)))))))
   obtain ⟨b29,rfl⟩:=H.Qe 4 rfl qf
   obtain ⟨ae30Alive,ce30Alive,Fe30Alive,ae30Bags,ce30Bags,Fe30Bags,ae30Around,ce30Around,Fe30Around,hx31,H⟩:=H.rowel_StateD 4 rfl 3 rfl (iv:=i) i qf qf
   refine oI rfl rfl (sw (xU [Sv ae30Alive ((((yE s t cs k)[i]!).qG).length) ce30Alive,Sv ae30Bags ((((yE s t cs k)[i]!).qH).length) ce30Bags,Sv ae30Around ((((yE s t cs k)[i]!).qF).length) ce30Around] isAgg31 sizeOf31 rfl (qJ (fun j v hj=>H.rowGet 4 rfl (hx31 j v hj)) 0 3) (sw (vk #[.agg #[Sv ae30Alive ((((yE s t cs k)[i]!).qG).length) ce30Alive,Sv ae30Bags ((((yE s t cs k)[i]!).qH).length) ce30Bags,Sv ae30Around ((((yE s t cs k)[i]!).qF).length) ce30Around],pp b22 0] rfl rfl call159 (en func159 ntmps159 ?_)))))
   refine zcr (sw (zW H [Sv ae30Alive ((((yE s t cs k)[i]!).qG).length) ce30Alive,Sv ae30Bags ((((yE s t cs k)[i]!).qH).length) ce30Bags,Sv ae30Around ((((yE s t cs k)[i]!).qF).length) ce30Around] fun b32 w33 H=>sp (Bv false) (zjc (sw (xU [Sv ae30Alive ((((yE s t cs k)[i]!).qG).length) ce30Alive,Sv ae30Bags ((((yE s t cs k)[i]!).qH).length) ce30Bags,Sv ae30Around ((((yE s t cs k)[i]!).qF).length) ce30Around] isAgg31 sizeOf31 rfl (qJ (H.cells 0 rfl) 0 3) ?_)))))
   refine sw (xU [Sv ra14aAlive ((((zl s t (cs[k]!)).1).qG).length) rc14aAlive,Sv ra14aBags ((((zl s t (cs[k]!)).1).qH).length) rc14aBags,Sv ra14aAround ((((zl s t (cs[k]!)).1).qF).length) rc14aAround] isAgg31 sizeOf31 rfl (qJ (H.cells 1 rfl) 0 3) ?_)
   obtain ⟨G34,hn35,h36⟩:=H.rowIsB 2 rfl
   obtain ⟨G37,hn38,h39⟩:=H.QK (α:=yLI) 3 rfl 3 rfl qj
   obtain ⟨G40,hn41,h42⟩:=H.QW 4 rfl
   refine sw (oq (sameState_ok _ ((yE s t cs k)[i]!) ((zl s t (cs[k]!)).1) (H.get 0 rfl).1 (H.get 1 rfl).1 (H.get 2 rfl).1 h36 h39 h42) H fun w44 H=>sp (Bv (decide (((yE s t cs k)[i]!)=((zl s t (cs[k]!)).1)))) (zjr (ret1 (Bv (decide (((yE s t cs k)[i]!)=((zl s t (cs[k]!)).1)))) rfl rfl ⟨_,rfl,?_⟩)))
   replace H:=H.erases [0]
   dsimp only [vM,List.eraseIdx] at H
   refine zjn (cD rfl (fun h46=>?_) (fun h46=>?_))
   ·skip
    refine zcr (sps [yI i,yI i] (zjr (zr5 (ret1 (yI i) rfl rfl ⟨_,rfl,(sw (o_pure (Bv true) (by show some (Value.bool (decide ((i:Int)≥0)))=some (Value.bool true);rw [decide_eq_true qf]) (sp (Bv true) (zjr (ret1 (Bv true) rfl rfl ⟨_,rfl,(sp (Bv false) (zjn (xK false rfl (fun h=>absurd h qj) (fun _=>xk (b_n (t_n (zg (sw (zL k 1 rfl rfl qf (sp (yI (k+1)) (zi ?_)))))))))))⟩)))))⟩))))
    refine xq (m' :=(cs.length - ((k+1):Int)).toNat) qf ⟨_,(aa b29 0),zG,vG,(yE s t cs k),QQ,Qu,k+1,uE6,?_,?_,?_,rfl,(N.pick [1]),H.pick [4,5,6] [6,7,8,9,10,11,12]⟩
    · first | exact nextTo_new (NotIn.out (fun j hj=>i2 j qf)) | exact nextTo_in (mem_at (k:=i) qf ql)
    · omega
    · exact i1.succ ‹_›
   refine xk (b_n (t_n (zg (sw (zL i 1 rfl rfl qf (sp (yI (i+1)) (zi (xq (m' :=(zG - ((i+1):Int)).toNat) qf ⟨_,i+1,uE4,?_,?_,rfl,N,H.pick [0,1,2,3,4,5,6] [3,4,5,6,7,8,9,10,11,12]⟩))))))))
   · omega
   · exact i2.succ ‹_›
  refine zx4 (zcr (sp (yI (-1)) (zjr (ret1 (yI (-1)) rfl rfl ⟨_,rfl,(sps [Bv false,Bv false] (zjr (ret1 (Bv false) rfl rfl ⟨_,rfl,(sp (Bv true) (zjn (xK true rfl (fun _=>zg (sp (Sv vY zG vG) (sw (xU [Sv ra14aAlive ((((zl s t (cs[k]!)).1).qG).length) rc14aAlive,Sv ra14aBags ((((zl s t (cs[k]!)).1).qH).length) rc14aBags,Sv ra14aAround ((((zl s t (cs[k]!)).1).qF).length) rc14aAround] isAgg31 sizeOf31 rfl (qJ (H.cells 0 rfl) 0 3) ?_)))) (fun h=>absurd h qj))))⟩)))⟩))))
  refine sw (zy H underlying60 ti31 [Sv ra14aAlive ((((zl s t (cs[k]!)).1).qG).length) rc14aAlive,Sv ra14aBags ((((zl s t (cs[k]!)).1).qH).length) rc14aBags,Sv ra14aAround ((((zl s t (cs[k]!)).1).qF).length) rc14aAround] fun b47 w48 H=>?_)
  obtain ⟨G52,N,hn53,H⟩:=H.freezeB 2 rfl N (H.jR [0,3])
  have H0:=H
  obtain ⟨G54,hg56,hn55,H⟩:=H.Xz (α:=yLI) 3 rfl 1 rfl qj
  replace N:Fresh w.heap.size [G54,G52,Qu]:=Fresh.ice (N.pick [1,0,2]) H0 3 hg56.1 hg56.2 (H0.jR [0,4])
  clear H0
  obtain ⟨G57,N,hn58,H⟩:=H.zT 4 rfl N (H.jR [0,1,5])
  refine sw (zC H 5 rfl 0 rfl underlying60 ti31 rfl qj rfl rfl rfl qw qp qf fun a49 c50 w51 H=>?_)
  replace H:=H.snoc_StateD 6 rfl 2 rfl 1 rfl 0 rfl
  replace N:Fresh w.heap.size [(Qu++(G52++G54++G57))]:=(N.pick [2,1,0,3]).join.join.swap.join
  refine sp (Sv a49 (zG+1) c50) (zi (b_n (t_n (zg (sw (zL k 1 rfl rfl qf (sp (yI (k+1)) (zi ?_))))))))
  refine xq (m' :=(cs.length - ((k+1):Int)).toNat) qf ⟨_,a49,zG+1,c50,((yE s t cs k)++[⟨((zl s t (cs[k]!)).1).qG,((zl s t (cs[k]!)).1).qH,((zl s t (cs[k]!)).1).qF⟩]),QQ++[Sv ra14aAlive ((((zl s t (cs[k]!)).1).qG).length) rc14aAlive,Sv ra14aBags ((((zl s t (cs[k]!)).1).qH).length) rc14aBags,Sv ra14aAround ((((zl s t (cs[k]!)).1).qF).length) rc14aAround],(Qu++(G52++G54++G57)),k+1,uE6,?_,?_,?_,rfl,N,H.pick [5,6,7] [0,8,9,10,11,12,13]⟩
  · first | exact nextTo_new (NotIn.out (fun j hj=>i2 j qf)) | exact nextTo_in (mem_at (k:=i) qf ql)
  · omega
  · exact i1.succ ‹_›
 refine zx4 (zcr (sps [Sv vY zG vG,Sv vY zG vG,yI 0] (zjr (ret2 (Sv vY zG vG) (yI 0) rfl rfl rfl ⟨_,rfl,?_,H.base⟩))))
 rw [next_ok (fun j hj=>i1 j qf),show cs.length=k by omega]
 exact ⟨vY,zG,vG,QQ,Qu,rfl,N,H.pick [0] [0]⟩

theorem implNs_ok (w:World) (s:qI) (t:qP) {qE:yOA} {xe:yLN} {qO:yOA} {xE:yLN} {qU:yOA} {xO:yLN} {xf:yOA} {zo:yLN} {qM:yOA} {xB:yLN} (qZ:qX.rep w xe [Sv qE s.qA.length qC] s.qA) (xC:qX.rep w xE [Sv qO s.qB.length qK] s.qB) (xQ:qX.rep w xO [Sv qU t.qG.length qQ] t.qG) (zA:qX.rep w zo [Sv xf t.qH.length qY] t.qH) (xH:qX.rep w xB [Sv qM t.qF.length qL] t.qF):Calls Tryz.prog 33 #[.agg #[yI s.xh,Sv qE s.qA.length qC,Sv qO s.qB.length qK],.agg #[Sv qU t.qG.length qQ,Sv xf t.qH.length qY,Sv qM t.qF.length qL]] w (Ret (fun v w' =>∃ (ra0:yOA) (rn0:Nat) (rc0:Nat) (rx0:List Value) (rF0:yLN),v=.tuple #[Sv ra0 rn0 rc0,yI ((yQ s t).2)]∧Fresh w.heap.size [rF0]∧St w w' [rr ra0 rn0 rc0 31 3 rx0] [xN true rF0 rx0 ((yQ s t).1)]) w):=by
 refine en func33 ntmps33 ?_
 have H:=(((((St.start w).arg xH).arg zA).arg xQ).arg xC).arg qZ
 have zX:=qV qZ
 have jo:=qV xC
 have yC:=qV xQ
 have Qm:=qV zA
 have jH:=qV xH
 clear qZ xC xQ zA xH
 have N:=Fresh.nil w.heap.size
 refine zcr (sw (zW H (yS s qE qC qO qK) fun b1 w2 H=>sw (zW H (yT t qU qQ xf qY qM qL) fun b3 w4 H=>sps [yN,yI 0] (zjcc (sw (xU (yS s qE qC qO qK) isAgg27 sizeOf27 rfl (qJ (H.cells 1 rfl) 0 3) ?_))))))
 refine sw (xU (yT t qU qQ xf qY qM qL) isAgg31 sizeOf31 rfl (qJ (H.cells 0 rfl) 0 3) (sw (oq (Xk _ s t (H.get 0 rfl).1 (H.get 1 rfl).1 (H.get 2 rfl).1 (H.get 3 rfl).1 (H.get 4 rfl).1) H fun w6 H=>sp (Bv (!(dec (zQ s∧xI s t)))) (zjn (cQ rfl (fun h8=>?_) (fun h8=>?_))))))
 ·skip
  refine zcr (sps [yN,yI 1] (zjr (t_r ?_)))
  replace H:=H.nilRow 31 3
  replace H:=H.vT (α:=qP)
  refine ret2 yN (yI 1) rfl rfl rfl ⟨_,rfl,?_,H.base⟩
  rw [ns_1 ‹_›]
  exact ⟨none,0,0,[],[],rfl,N.emp,H.pick [0] [0]⟩
 have k0:=(‹zQ s∧xI s t›:zQ s∧xI s t)
 have k1:=k0.1
 have k2:=k0.2
 have k4:=k1.2.1
 refine xk (t_n (zcr (sw (je H underlying29 ti24 fun b9 w10 H=>sp (Sv (aa b9 0) 0 0) (zjcc (sw (xU (yS s qE qC qO qK) isAgg27 sizeOf27 rfl (qJ (H.cells 2 rfl) 0 3) (sw (xU (yT t qU qQ xf qY qM qL) isAgg31 sizeOf31 rfl (qJ (H.cells 1 rfl) 0 3) ?_)))))))))
 have sz14:=H.base.size
 refine sw (oc (Xp _ s t (H.get 0 rfl).1 (H.get 1 rfl).1 (H.get 2 rfl).1 (H.get 3 rfl).1 (H.get 4 rfl).1 qg qg) ?_)
 rintro _ w12 ⟨ra11,rn11,rc11,rfl,M,K⟩ _
 replace H:=H.merge K M
 obtain rfl:=H.yx 0 rfl
 have al:(appls s t).length≤s.qB.length:=applL_le s t s.qB.length
 refine oN rfl (sp (yI 0) (zjn (xg ?_)))
 replace H:=H.boxRow 1 rfl 1 0 rfl qj
 replace H:=H.vT (α:=yLI)
 refine zJ (fun m' ρ w17=>∃ (xY:Env) (a_choices:yOA) (n_choices:Nat) (c_choices:Nat) (choices:yLL) (x_choices:List Value) (F_choices:yLN) (k:Nat),ρ=upd (upd (upd (upd (upd (upd xY 2 (pp b1 0)) 3 (pp b3 0)) 6 (Sv a_choices n_choices c_choices)) 16 (Sv ra11 ((appls s t).length) rc11)) 17 (yI ((appls s t).length))) 18 (yI k)∧choices=vU s ((appls s t).take k)∧((k:Int)≤((appls s t).length))∧m' =(((appls s t).length) - (k:Int)).toNat∧Fresh w.heap.size [F_choices]∧St w w17 [rr ra11 ((appls s t).length) rc11 2 1 ((appls s t).map (Value.int .i64)),rr a_choices n_choices c_choices 24 1 x_choices,.box b3 (yT t qU qQ xf qY qM qL) 31,.box b1 (yS s qE qC qO qK) 27] [xN true F_choices x_choices choices,sF false xe qE qC s.qA,sF false xE qO qK s.qB,sF false xO qU qQ t.qG,sF false zo xf qY t.qH,sF false xB qM qL t.qF]) ((((appls s t).length) - (0:Int)).toNat) ⟨_,(aa b9 0),0,0,([]:yLL),[],[],0,uE6,(by rfl),qf,rfl,N.emp,H⟩ ?_
 clear H N
 rintro m' ρ w18 ⟨xY,a_choices,n_choices,c_choices,choices,x_choices,F_choices,k,rfl,rfl,i0,rfl,N,H⟩
 have hn_choices:=H.x8 (α:=yLI) 1 rfl 0 rfl qj
 have sl:=Vg s ((appls s t).take k)
 have lt:=List.length_take_le k (appls s t)
 refine zcr (sp (Bv (decide ((k:Int) < ((appls s t).length)))) (zjn (zf (cD rfl (fun h19=>?_) (fun h19=>?_)))))
 ·skip
  refine xk (t_n (zf (xg (zcr ?_))))
  obtain ⟨b20,rfl⟩:=H.Qe 0 rfl qf
  refine oI rfl rfl (oL rfl (H.rowInt 0 rfl (iv:=k) (i:=k) qf qf) (sp (yI ((appls s t)[k]!)) (zjn (zg (sp (Sv a_choices n_choices c_choices) (sw (xU (yS s qE qC qO qK) isAgg27 sizeOf27 rfl (qJ (H.cells 3 rfl) 0 3) (sp (yI ((appls s t)[k]!)) ?_))))))))
  obtain ⟨a0,a1,a2⟩:=appls_single (s:=s) (t:=t) (k:=k) qf
  have sz24:=H.base.size
  refine sw (oc (single_ok _ s ((appls s t)[k]!) (H.get 1 rfl).1 (H.get 2 rfl).1 qg qg) ?_)
  rintro _ w22 ⟨ra21,rn21,rc21,rfl,M,K⟩ _
  replace H:=H.merge K M
  obtain rfl:=H.yx 0 rfl
  refine sw (zy H underlying29 ti24 [Sv ra21 ((single s (((appls s t)[k]!):Int).toNat).length) rc21] fun b27 w28 H=>?_)
  obtain ⟨G32,N,hn33,H⟩:=H.zT 1 rfl N (H.jR [0])
  refine sw (zC H 3 rfl 0 rfl underlying29 ti24 rfl qj rfl rfl rfl qw qp qf fun a29 c30 w31 H=>?_)
  replace H:=H.yt 1 rfl 0 rfl
  replace N:Fresh w.heap.size [(F_choices++G32)]:=(N.pick [1,0]).join
  refine sp (Sv a29 (n_choices+1) c30) (zi (b_n (t_n (zg (sw (zL k 1 rfl rfl qf (sp (yI (k+1)) (zi (xq (m' :=(((appls s t).length) - ((k+1):Int)).toNat) qf ⟨_,a29,n_choices+1,c30,((vU s ((appls s t).take k))++[single s (((appls s t)[k]!):Int).toNat]),x_choices++[Sv ra21 ((single s (((appls s t)[k]!):Int).toNat).length) rc21],(F_choices++G32),k+1,uE6,?_,?_,rfl,N,H.pick [2,3,4,5] [0,3,4,5,6,7]⟩)))))))))
  · exact singles_take qf
  · omega
 refine zx4 (zcr (sw (xU (yS s qE qC qO qK) isAgg27 sizeOf27 rfl (qJ (H.cells 3 rfl) 0 3) (sw (xU (yT t qU qQ xf qY qM qL) isAgg31 sizeOf31 rfl (qJ (H.cells 2 rfl) 0 3) (sp (Sv a_choices n_choices c_choices) ?_))))))
 obtain ⟨G34,hn35,h36⟩:=H.QK (α:=yLI) 1 rfl 0 rfl qj
 have he:vU s ((appls s t).take k)=vU s (appls s t):=by rw [List.take_of_length_le qf]
 have ks:=Vg s (appls s t)
 have kl:(appls s t).length≤s.qB.length:=applL_le s t s.qB.length
 have kn:(vU s ((appls s t).take k)).length≤1000:=by rw [he];omega
 have kc:∀ q,q < (vU s ((appls s t).take k)).length→XZ s ((vU s ((appls s t).take k))[q]!):=by rw [he];exact fun q hq=>singles_cnt hq
 have kd:∀ q,q < (vU s ((appls s t).take k)).length→IsCh s t ((vU s ((appls s t).take k))[q]!):=by rw [he];exact fun q hq=>singles_isCh k1 k2 hq
 have sz40:=H.base.size
 have lt41:=H.ltN (L:=[F_choices]) [0]
 refine sw (oc (args_eq (by rw [← hn35]) (behind_ok _ s t (vU s ((appls s t).take k)) (H.get 1 rfl).1 (H.get 2 rfl).1 (H.get 3 rfl).1 (H.get 4 rfl).1 (H.get 5 rfl).1 (hn35▸h36) qg qg qg qg qg)) ?_)
 rintro _ w38 ⟨ra37a,rn37a,rc37a,rx37a,rF37a,rfl,M,K⟩ _
 replace N:=N.merge sz40 lt41 M
 replace H:=H.merge K M
 obtain rfl:=H.x8 (α:=qP) 0 rfl 0 rfl qj
 refine sps [Sv ra37a (((yK s t (vU s ((appls s t).take k))).1).length) rc37a,yI ((yK s t (vU s ((appls s t).take k))).2),Sv ra37a (((yK s t (vU s ((appls s t).take k))).1).length) rc37a,yI ((yK s t (vU s ((appls s t).take k))).2)] (zjr (ret2 (Sv ra37a (((yK s t (vU s ((appls s t).take k))).1).length) rc37a) (yI ((yK s t (vU s ((appls s t).take k))).2)) rfl rfl rfl ⟨_,rfl,?_,H.base⟩))
 rw [ns_0 k0,← he]
 exact ⟨ra37a,((yK s t (vU s ((appls s t).take k))).1).length,rc37a,rx37a,rF37a,rfl,(N.pick [0]),H.pick [0] [0]⟩
end
end Go.Proofs.YtcpnclokildllaaGreat
