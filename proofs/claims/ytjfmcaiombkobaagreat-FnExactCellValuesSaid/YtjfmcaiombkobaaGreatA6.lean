/- Walks and laws, printed by program and by hand: what each function comes to, for all arguments, part 6. -/
import Derived.Test.YtjfmcaiombkobaaGreatA5
namespace Go.Proofs.YtjfmcaiombkobaaGreat
open Go.Proofs.Tryz
set_option linter.unusedVariables false
set_option linter.unusedSimpArgs false
set_option maxRecDepth 100000
set_option maxHeartbeats 4000000
open Go.RowKit
open Go.Proofs.Tryz
open Go.Proofs.YtjfmcaiombkobaaGreat.Tot (tot)
open Go.Proofs.YtjfmcaiombkobaaGreat.Mark (cnt mrk mkd mkd_mark cnt_mark)
variable {B F Fa FaAlive FaAround FaBags Fb FbAlive FbAround FbBags Fcs Fl FuAlive FuAround FuBags P vK xF zQ zo zu:yLN} {D D' M M':yLI} {O:List Bool} {R cs:yLL} {S l nx:List qH} {a b bs bt c cuAlive cuAround cuBags f i i' j j' k k0 m n o os ot q:Nat} {aaAlive aaAround aaBags ab abAlive abAround abBags acs al auAlive auAround auBags qM xX xe xg xq:yOA} {d:Int} {s:qG} {t u:qH} {xs:List Value}
section
variable {qL qX : Nat}
theorem around_ok (w:World) (s:qG) (xf:zP w xF qM qL s.qC) (xE:zP w zu xg qX s.qE):Calls Tryz.prog 135 #[.agg #[yI s.xO,Sv qM s.qC.length qL,Sv xg s.qE.length qX]] w (Ret (fun v w' =>v=yI s.qC.length) w):=by
 refine en func135 ntmps135 ?_
 have H:=((St.start w).arg xE).arg xf
 have vH:=qO xf
 have jD:=qO xE
 clear xf xE
 have N:=Fresh.nil w.heap.size
 refine zcr (sw (zY H (yS s qM qL xg qX) fun b1 w2 H=>sp (yI 0) (zjc (oF rfl (oL rfl (H.cell 0 rfl rfl) (oN rfl (sq 1 (zjr (rH1 (yI s.qC.length) H ?_)))))))))
 rfl
theorem step_ok (w:World) (s:qG) (t:qH) (counts:yLI) {xn:Nat} {xM:Nat} {qZ:Nat} {acounts:yOA} {ccounts:Nat} {Fcounts:yLN} (xf:zP w xF qM qL s.qC) (xE:zP w zu xg qX s.qE) (zk:zP w zQ xq xn t.qI) (zO:zP w vK xX xM t.qP) (xJ:zP w zo xe qZ t.qN) (hcounts:zP w Fcounts acounts ccounts counts) (p0:yj s) (p1:zV s t) (p2:CntOk s counts) (p3:IsCh s t counts):Calls Tryz.prog 82 #[.agg #[yI s.xO,Sv qM s.qC.length qL,Sv xg s.qE.length qX],.agg #[Sv xq t.qI.length xn,Sv xX t.qP.length xM,Sv xe t.qN.length qZ],Sv acounts counts.length ccounts] w (Ret (fun v w' =>∃ (ra0Alive:yOA) (rn0Alive:Nat) (rc0Alive:Nat) (ra0Bags:yOA) (rn0Bags:Nat) (rc0Bags:Nat) (rx0Bags:List Value) (rF0Bags:yLN) (ra0Around:yOA) (rn0Around:Nat) (rc0Around:Nat),v=.tuple #[.agg #[Sv ra0Alive rn0Alive rc0Alive,Sv ra0Bags rn0Bags rc0Bags,Sv ra0Around rn0Around rc0Around],yI ((jf s t counts).2)]/\Fresh w.heap.size [rF0Bags]/\St w w' [rr ra0Alive rn0Alive rc0Alive 4 1 ((((jf s t counts).1).qI).map (Value.bool)),rr ra0Bags rn0Bags rc0Bags 27 1 rx0Bags,rr ra0Around rn0Around rc0Around 2 1 ((((jf s t counts).1).qN).map (Value.int .i64))] [xN true rF0Bags rx0Bags (((jf s t counts).1).qP)]) w):=by
 refine en func82 ntmps82 ?_
 have H:=((((((St.start w).arg hcounts).arg xJ).arg zO).arg zk).arg xE).arg xf
 have vH:=qO xf
 have jD:=qO xE
 have yL:=qO zk
 have Qv:=qO zO
 have jQ:=qO xJ
 have nhcounts:=qO hcounts
 clear xf xE zk zO xJ hcounts
 have N:=Fresh.nil w.heap.size
 have p5:=p0.2.1
 have p6:=p2.1
 have p7:=p1.2.1
 have p8:=kinds_le p0
 have p9:=p0.1.2.1
 have p11:jC s=s.qC.length:=rfl
 have p12:=p1.1
 have p15:=p0.1
 have p16:=p0.1.1
 have p17:=p1.around.1
 refine zcr (sw (zY H (yS s qM qL xg qX) fun b1 w2 H=>sw (zY H (yT t xq xn xX xM xe qZ) fun b3 w4 H=>sw (xH H ti43 [yN,yN,yN] fun b5 w6 H=>sp (yI 0) (zjn (xU ?_))))))
 refine c_cut (fun ρ w11=>∃ (xQ:Env) (a7:yOA) (c8:Nat) (rx9:List Value) (rF10:yLN),ρ=upd (upd (upd (upd (upd xQ 2 (Sv acounts counts.length ccounts)) 3 (pp b1 0)) 4 (pp b3 0)) 6 (pp b5 0)) 8 (Sv a7 (t.qP.length+1) c8)/\Fresh w.heap.size []/\St w w11 [rr a7 (t.qP.length+1) c8 27 1 (rx9++[Sv xe t.qN.length qZ]),.box b5 [yN,yN,yN] 43,.box b3 (yT t xq xn xX xM xe qZ) 43,.box b1 (yS s qM qL xg qX) 37] [xN false (rF10++zo) (rx9++[Sv xe t.qN.length qZ]) (t.qP++[t.qN]),sF false xF qM qL s.qC,sF false zu xg qX s.qE,sF false zQ xq xn t.qI,sF false vK xX xM t.qP,sF false zo xe qZ t.qN,sF false Fcounts acounts ccounts counts]) ?_ ?_
 ·refine jw rfl H fun H=>tF 0 rfl rfl H ?_
  refine tL 1 rfl rfl (fun _ h=>h.cell 1 rfl rfl) H ?_
  refine tF 3 rfl rfl H ?_
  refine tL 4 rfl rfl (fun _ h=>h.cell 1 rfl rfl) H ?_
  refine jb [2,5] qh qm (jM rfl ?_ (jM rfl ?_ jd))
  ·have sz16:=H.base.size
   refine oc (cloneSS_ok _ t.qP (H.get 3 rfl).1 qg) ?_
   rintro _ w14 ⟨ra13,rn13,rc13,rx13,rF13,rfl,hG18,K⟩ _
   replace H:=H.mergeIn K 3 rfl hG18
   obtain rfl:=H.xB (α:=yLI) 0 rfl 0 rfl qj
   refine ⟨H.pick [1,2,3] (zR 1 6),(ro 5 rfl (xx H underlying41 ti27 [Sv xe t.qN.length qZ] fun b19 w20 H=>⟨H.pick [2,3,4] (zR 1 6),(ro 6 rfl (zG H 1 rfl 0 rfl underlying41 ti27 rfl qj rfl rfl rfl qw qp qf fun a21 c22 w23 H=>?_))⟩))⟩
   replace H:=H.yC 0 rfl 5 rfl
   refine ⟨H.pick [2,3,4] (zR 2 6),(rtl 7 (H.pick [2,3,4] (zR 2 6)) ?_)⟩
   refine xA qh ((meet ⟨_,a21,c22,rx13,rF13,uE5,N,H.pick (zR 1 4) (0::zR 2 6)⟩))
  refine xx H underlying41 ti27 [Sv xe t.qN.length qZ] fun b24 w25 H=>⟨H.pick [1,2,3] (zR 0 6),(ro 2 rfl ?_)⟩
  have sz29:=H.base.size
  refine oc (cloneSS_ok _ t.qP (H.get 3 rfl).1 qg) ?_
  rintro _ w27 ⟨ra26,rn26,rc26,rx26,rF26,rfl,hG31,K⟩ _
  replace H:=H.mergeIn K 3 rfl hG31
  obtain rfl:=H.xB (α:=yLI) 0 rfl 0 rfl qj
  refine ⟨H.pick [2,3,4] (zR 1 6),(ro 6 rfl (zG H 0 rfl 1 rfl underlying41 ti27 rfl qj rfl rfl rfl qw qp qf fun a32 c33 w34 H=>?_))⟩
  replace H:=H.yC 0 rfl 5 rfl
  refine ⟨H.pick [2,3,4] (zR 2 6),(rtl 7 (H.pick [2,3,4] (zR 2 6)) ?_)⟩
  refine xA qh ((meet ⟨_,a32,c33,rx26,rF26,uE5,N,H.pick [0,2,3,4] (0::zR 2 6)⟩))
 clear H N
 rintro ρ w35 ⟨xQ,a7,c8,rx9,rF10,rfl,N,H⟩
 refine t_n (zcr (oF rfl (oL rfl (H.cell 3 rfl rfl) (oN rfl (sw (o_makeB H underlying40 ti4 s.qC.length rfl rfl qf qf qf fun b36 w37 H=>sq 1 (zjcc (sq 1 (oN rfl (sp (yI 0) (zjn (qV ?_))))))))))))
 refine zA ((fun Z0 Z1 Z2 Z3 Z4 Z5 Z6 Z7 Z8=>fun m' ρ w38=>∃ (xQ:Env) (i:Nat) (melts:List Bool) (bags:yLL) (x_bags:List Value) (F_bags:yLN),ρ=upd (upd (upd (upd (upd (upd (upd (upd xQ 3 (pp b1 0)) 4 (pp b3 0)) 6 (pp b5 0)) 8 (Sv a7 (t.qP.length+1) c8)) 9 (Sv (aa b36 0) s.qC.length s.qC.length)) 26 (Sv acounts counts.length ccounts)) 27 (yI counts.length)) 28 (yI i)/\melts=Qs s counts s.qC.length i/\((i:Int)<=counts.length)/\(Ent (s.qC.length+1) (Qm s) (fun p q=>base0 s t p q+allS s t counts i p q) (20000000+6000000 * i) bags)/\(bags.length=s.qC.length+1)/\m' =(counts.length - (i:Int)).toNat/\Fresh w.heap.size []/\St w w38 [rr (aa b36 0) s.qC.length s.qC.length 4 1 (melts.map (Value.bool)),rr a7 (t.qP.length+1) c8 27 1 x_bags,Z0,Z1,Z2] [xN false F_bags x_bags bags,Z3,Z4,Z5,Z6,Z7,Z8]) _ _ _ _ _ _ _ _ _) ((counts.length - (0:Int)).toNat) ⟨_,0,(List.replicate s.qC.length (false)),(t.qP++[t.qN]),rx9++[Sv xe t.qN.length qZ],(rF10++zo),uE8,(by exact meltsL_zero s counts _),qf,(by exact (start_ent p1).to (fun _ _=>rfl) qf),qy,rfl,N,H⟩ ?_
 clear H N
 rintro m' ρ w39 ⟨xQ,i,melts,bags,x_bags,F_bags,rfl,rfl,i0,E_bags,z_bags,rfl,N,H⟩
 have hn_melts:=H.rowNB 0 rfl
 have hn_bags:=H.xB (α:=yLI) 1 rfl 0 rfl qj
 refine zcr (sq 1 (zjn (xU (cD rfl (fun h40=>?_) (fun h40=>?_)))))
 ·have q:=p0.rule (i:=i) qf
  have qc:=q.1
  have qk:=q.cell
  have qr:=q.2.1
  have bn1:=q.2.2.2.2.1
  have bn2:=q.2.2.2.2.2.2.2.1
  have bn3:=q.2.2.2.2.2.2.2.2.1
  have ln1:=bn1.len
  have ln2:=bn2.len
  have ln3:=bn3.len
  have p10:=p2.bd (i:=i) qf
  have qn:=q.2.2.2.1
  have ml:=meltsL_len s counts s.qC.length i
  refine qU (t_n (xU (qV (zcr (sp (yI i) ?_)))))
  obtain ⟨b41,o42,rfl⟩:=H.addr 6 rfl qf
  refine oI rfl rfl (oL rfl (H.zB 6 rfl i qf) (sp (yI i) (sq 1 (zjc (oF rfl (oL rfl (H.cell 4 rfl rfl) (sp (yI i) ?_)))))))
  obtain ⟨b44,o45,rfl⟩:=H.addr 2 rfl qf
  obtain ⟨ae47Need,ce47Need,Fe47Need,ae47Have,ce47Have,Fe47Have,ae47Lack,ce47Lack,Fe47Lack,ae47Here,ce47Here,Fe47Here,ae47Out,ce47Out,Fe47Out,ae47Into,ce47Into,Fe47Into,H⟩:=H.Qc 2 rfl i i qf qf qf
  refine oI rfl rfl (sw (x8 [yI ((s.qE[i]!).qR),yI ((s.qE[i]!).jR),Sv ae47Need (((s.qE[i]!).vF).length) ce47Need,Sv ae47Have (((s.qE[i]!).vJ).length) ce47Have,Sv ae47Lack (((s.qE[i]!).vY).length) ce47Lack,Sv ae47Here (((s.qE[i]!).vw).length) ce47Here,Sv ae47Out (((s.qE[i]!).QI).length) ce47Out,Sv ae47Into (((s.qE[i]!).xw).length) ce47Into,Bv ((s.qE[i]!).jV)] isAgg120 sizeOf120 rfl (qF (H.get 6 rfl) 0 9) ?_))
  refine sw (xH H ti120 [yI 0,yI 0,yN,yN,yN,yN,yN,yN,Bv false] fun b48 w49 H=>sw (xY H 0 [yI ((s.qE[i]!).qR),yI ((s.qE[i]!).jR),Sv ae47Need (((s.qE[i]!).vF).length) ce47Need,Sv ae47Have (((s.qE[i]!).vJ).length) ce47Have,Sv ae47Lack (((s.qE[i]!).vY).length) ce47Lack,Sv ae47Here (((s.qE[i]!).vw).length) ce47Here,Sv ae47Out (((s.qE[i]!).QI).length) ce47Out,Sv ae47Into (((s.qE[i]!).xw).length) ce47Into,Bv ((s.qE[i]!).jV)] sizeOf120 fun w50 H=>?_))
  refine zjn (xU ?_)
  refine Qb rfl H [0,1,3,4,5] fun H=>?_
  have S:=H.jr [0,1,3,4,5] (zR 0 14)
  refine rtl 0 S ?_
  refine tF 1 rfl rfl S ?_
  refine tL 2 rfl rfl (fun _ h=>h.cell 0 rfl rfl) S ?_
  refine rtl 3 S ?_
  refine tF 4 rfl rfl S ?_
  refine tL 5 rfl rfl (fun _ h=>h.cell 0 rfl rfl) S ?_
  obtain ⟨b52,rfl⟩:=H.y5 2 rfl qf
  have S:=H.jr [0,1,3,4,5] (zR 0 14)
  refine tI 6 rfl rfl rfl S ?_
  refine tF 8 rfl rfl S ?_
  refine tL 9 rfl rfl (fun _ h=>h.cell 0 rfl rfl) S ?_
  refine rtl 10 S ?_
  refine rt 11 _ (y_neg (counts[i]!) rfl qf) S ?_
  refine ro 7 rfl ?_
  obtain ⟨a53,c54,G55,s56,h57,H⟩:=H.jY 2 rfl 7 rfl (iv:=(s.qE[i]!).qR) (((s.qE[i]!).qR).toNat) qf qf
  refine zK (Sv a53 ((bags[((s.qE[i]!).qR).toNat]!).length) c54) isAgg27 rfl (h57) (⟨H.pick [0,1,3,4,5] (zR 1 14),(ro 12 rfl ?_)⟩)
  obtain ⟨u1,u2⟩:=E_bags.sh.row (c:=((s.qE[i]!).qR).toNat) qf p8 qf
  have u4:=(by first | exact bn1.yE qf | exact bn2.yE qf | exact bn3.yE qf | exact bn4.yE qf:SmallT ((s.qE[i]!).vF) (-(counts[i]!)))
  have sz58:=H.base.size
  refine oc (plus_ok _ (bags[((s.qE[i]!).qR).toNat]!) ((s.qE[i]!).vF) (-(counts[i]!)) (H.get 0 rfl).1 (H.get 1 rfl).1 qg qg qg) ?_
  rintro v63 w61 r63 x62
  replace H:=H.zt x62 r63
  obtain ⟨a64,c65,rfl,hc66,hm67⟩:=H.jm 0 rfl
  refine ⟨H.pick [1,2,4,5,6] (zR 1 14),(tI 13 rfl rfl rfl (H.pick [1,2,4,5,6] (zR 1 14)) ?_)⟩
  refine ro 14 rfl ?_
  obtain ⟨G69,N,hn70,H⟩:=H.zh 0 rfl N (H.vz [])
  refine jK false H 3 rfl 9 rfl (Sv a64 ((jP (bags[((s.qE[i]!).qR).toNat]!) ((s.qE[i]!).vF) (-(counts[i]!))).length) c65) 0 rfl rfl sizeOf27 rfl rfl (i:=(((s.qE[i]!).qR).toNat)) qf qf qm fun w68 xs71 F72 hs73 H=>⟨H.pick [1,2,4,5,6] (zR 3 14),(xA qh (t_n (zcr (sw (x8 [yI s.xO,Sv qM s.qC.length qL,Sv (aa b44 o45) s.qE.length qX] isAgg37 sizeOf37 rfl (qF (H.cells 6 rfl) 0 3) ?_)))))⟩
  refine sw (x8 (yT t xq xn xX xM xe qZ) isAgg43 sizeOf43 rfl (qF (H.cells 5 rfl) 0 3) (sq 1 ?_))
  refine sw (x8 [yI ((s.qE[i]!).qR),yI ((s.qE[i]!).jR),Sv ae47Need (((s.qE[i]!).vF).length) ce47Need,Sv ae47Have (((s.qE[i]!).vJ).length) ce47Have,Sv ae47Lack (((s.qE[i]!).vY).length) ce47Lack,Sv ae47Here (((s.qE[i]!).vw).length) ce47Here,Sv ae47Out (((s.qE[i]!).QI).length) ce47Out,Sv ae47Into (((s.qE[i]!).xw).length) ce47Into,Bv ((s.qE[i]!).jV)] isAgg120 sizeOf120 rfl (qF (H.cells 1 rfl) 0 9) (sq 1 ?_))
  obtain ⟨bg74,e_bg74⟩:∃ z,z=(bags.set (((s.qE[i]!).qR).toNat) (jP (bags[((s.qE[i]!).qR).toNat]!) ((s.qE[i]!).vF) (-(counts[i]!)))):=⟨_,rfl⟩
  rw [← e_bg74] at H
  have E_bg74:=Ent.add (D:=1000000) E_bags e_bg74 qf (by first | exact bn1.mul qf | exact bn2.mul qf | exact bn3.mul qf | exact bn4.mul qf) qf
  have z_bg74:=E_bg74.sh.1
  have E_cur:=E_bg74
  refine sw (zN #[.agg #[yI s.xO,Sv qM s.qC.length qL,Sv (aa b44 o45) s.qE.length qX],.agg #[Sv xq t.qI.length xn,Sv xX t.qP.length xM,Sv xe t.qN.length qZ],Sv (aa b52 0) (t.qP.length+1) c8,.agg #[yI ((s.qE[i]!).qR),yI ((s.qE[i]!).jR),Sv ae47Need (((s.qE[i]!).vF).length) ce47Need,Sv ae47Have (((s.qE[i]!).vJ).length) ce47Have,Sv ae47Lack (((s.qE[i]!).vY).length) ce47Lack,Sv ae47Here (((s.qE[i]!).vw).length) ce47Here,Sv ae47Out (((s.qE[i]!).QI).length) ce47Out,Sv ae47Into (((s.qE[i]!).xw).length) ce47Into,Bv ((s.qE[i]!).jV)],yI (counts[i]!)] rfl rfl call134 ?_)
  refine en func134 ntmps134 ?_
  refine zcr (sw (zY H [yI s.xO,Sv qM s.qC.length qL,Sv (aa b44 o45) s.qE.length qX] fun b75 w76 H=>sw (zY H (yT t xq xn xX xM xe qZ) fun b77 w78 H=>sw (zY H [Sv (aa b52 0) (t.qP.length+1) c8] fun b79 w80 H=>?_))))
  refine sw (zY H [yI ((s.qE[i]!).qR),yI ((s.qE[i]!).jR),Sv ae47Need (((s.qE[i]!).vF).length) ce47Need,Sv ae47Have (((s.qE[i]!).vJ).length) ce47Have,Sv ae47Lack (((s.qE[i]!).vY).length) ce47Lack,Sv ae47Here (((s.qE[i]!).vw).length) ce47Here,Sv ae47Out (((s.qE[i]!).QI).length) ce47Out,Sv ae47Into (((s.qE[i]!).xw).length) ce47Into,Bv ((s.qE[i]!).jV)] fun b81 w82 H=>sw (zY H [yI (counts[i]!)] fun b83 w84 H=>zjc ?_))
  refine sp (.func (.func 169) #[] #[pp b79 0,pp b83 0]) (sp (.func (.func 169) #[] #[pp b79 0,pp b83 0]) (zjc (sp (.func (.func 169) #[] #[pp b79 0,pp b83 0]) (oF rfl (oL rfl (H.cell 1 rfl rfl) (oF rfl (oL rfl (H.cell 1 rfl rfl) (sw (zN #[yI ((s.qE[i]!).qR),Sv ae47Here (((s.qE[i]!).vw).length) ce47Here,pp b79 0,pp b83 0] rfl rfl call169 (en func169 ntmps169 ?_))))))))))
  refine Qb rfl H [0,1,2,3,4,5,6,7,9,10,11] fun H=>?_
  have S:=H.jr [0,1,2,3,4,5,6,7,9,10,11] (zR 0 17)
  refine tL 0 rfl rfl (fun _ h=>h.cell 2 rfl rfl) S ?_
  refine rtl 1 S ?_
  refine tL 2 rfl rfl (fun _ h=>h.cell 2 rfl rfl) S ?_
  refine rtl 3 S ?_
  refine tI 4 rfl rfl rfl S ?_
  refine rtl 6 S ?_
  refine tL 7 rfl rfl (fun _ h=>h.cell 0 rfl rfl) S ?_
  refine ro 5 rfl ?_
  obtain ⟨a86,c87,G88,s89,h90,H⟩:=H.jY 8 rfl 0 rfl (iv:=(s.qE[i]!).qR) (((s.qE[i]!).qR).toNat) qf qf
  refine zK (Sv a86 ((bg74[((s.qE[i]!).qR).toNat]!).length) c87) isAgg27 rfl (h90) (⟨H.pick [0,1,2,3,4,5,6,7,9,10,11] (zR 1 17),(ro 8 rfl ?_)⟩)
  obtain ⟨u1,u2⟩:=E_bg74.sh.row (c:=((s.qE[i]!).qR).toNat) qf p8 qf
  have u4:=(by first | exact bn1.yE qf | exact bn2.yE qf | exact bn3.yE qf | exact bn4.yE qf:SmallT ((s.qE[i]!).vw) (counts[i]!))
  have sz91:=H.base.size
  have lt92:=H.ltN (L:=[G69]) [2]
  refine oc (plus_ok _ (bg74[((s.qE[i]!).qR).toNat]!) ((s.qE[i]!).vw) (counts[i]!) (H.get 0 rfl).1 (H.get 7 rfl).1 qg qg qg) ?_
  rintro v96 w94 r96 x95
  replace H:=H.zt x95 r96
  obtain ⟨a97,c98,rfl,hc99,hm100⟩:=H.jm 0 rfl
  refine ⟨H.pick [1,2,3,4,5,6,7,8,10,11,12] (zR 1 17),(tI 9 rfl rfl rfl (H.pick [1,2,3,4,5,6,7,8,10,11,12] (zR 1 17)) ?_)⟩
  refine ro 10 rfl ?_
  obtain ⟨G102,N,hn103,H⟩:=H.zh 0 rfl N (H.vz [2])
  refine jK false H 9 rfl 2 rfl (Sv a97 ((jP (bg74[((s.qE[i]!).qR).toNat]!) ((s.qE[i]!).vw) (counts[i]!)).length) c98) 0 rfl rfl sizeOf27 rfl rfl (i:=(((s.qE[i]!).qR).toNat)) qf qf qm fun w101 xs104 F105 hs106 H=>⟨H.pick [1,2,3,4,5,6,7,8,10,11,12] (zR 3 17),(xA qh ((ret0 rfl ⟨_,rfl,?_⟩)))⟩
  replace H:=H.erases [6,0]
  dsimp only [zU,List.eraseIdx] at H
  obtain ⟨bg107,e_bg107⟩:∃ z,z=(bg74.set (((s.qE[i]!).qR).toNat) (jP (bg74[((s.qE[i]!).qR).toNat]!) ((s.qE[i]!).vw) (counts[i]!))):=⟨_,rfl⟩
  rw [← e_bg107] at H
  have E_bg107:=Ent.add (D:=1000000) E_bg74 e_bg107 qf (by first | exact bn1.mul qf | exact bn2.mul qf | exact bn3.mul qf | exact bn4.mul qf) qf
  have z_bg107:=E_bg107.sh.1
  have E_cur:=E_bg107
  refine zjcc (sw (x8 [yI s.xO,Sv qM s.qC.length qL,Sv (aa b44 o45) s.qE.length qX] isAgg37 sizeOf37 rfl (qF (H.cells 4 rfl) 0 3) (sw (x8 (yT t xq xn xX xM xe qZ) isAgg43 sizeOf43 rfl (qF (H.cells 3 rfl) 0 3) (oF rfl (oL rfl (H.cell 1 rfl rfl) ?_))))))
  have qc' :=qc
  refine sw (oq (parentNow_ok _ s t ((s.qE[i]!).qR) (H.get 14 rfl).1 (H.get 15 rfl).1 (H.get 16 rfl).1 (H.get 17 rfl).1 (H.get 18 rfl).1 qg qg qg) H fun w109 H=>?_)
  have pl:=parentNow_lt p15 p1.2.2.1 qc
  refine sq 1 (zjc (sq 1 (sp (Bv (decide ((xZ s t ((s.qE[i]!).qR):Int)>=0))) (zjn (cD rfl (fun h111=>?_) (fun h111=>?_))))))
  ·have po:=outPl_in (r:=s.qE[i]!) p15 ‹_›
   refine xK (sp (.func (.func 169) #[] #[pp b79 0,pp b83 0]) (sq 1 (oF rfl (oL rfl (H.cell 1 rfl rfl) (sw (zN #[yI (xZ s t ((s.qE[i]!).qR)),Sv ae47Out (((s.qE[i]!).QI).length) ce47Out,pp b79 0,pp b83 0] rfl rfl call169 (en func169 ntmps169 ?_)))))))
   refine Qb rfl H [0,1,2,3,4,5,6,8,9,10] fun H=>?_
   have S:=H.jr [0,1,2,3,4,5,6,8,9,10] (zR 0 20)
   refine tL 0 rfl rfl (fun _ h=>h.cell 2 rfl rfl) S ?_
   refine rtl 1 S ?_
   refine tL 2 rfl rfl (fun _ h=>h.cell 2 rfl rfl) S ?_
   refine rtl 3 S ?_
   refine tI 4 rfl rfl rfl S ?_
   refine rtl 6 S ?_
   refine tL 7 rfl rfl (fun _ h=>h.cell 0 rfl rfl) S ?_
   refine ro 5 rfl ?_
   obtain ⟨a113,c114,G115,s116,h117,H⟩:=H.jY 7 rfl 0 rfl (iv:=xZ s t ((s.qE[i]!).qR)) ((xZ s t ((s.qE[i]!).qR)).toNat) qf qf
   refine zK (Sv a113 ((bg107[(xZ s t ((s.qE[i]!).qR)).toNat]!).length) c114) isAgg27 rfl (h117) (⟨H.pick [0,1,2,3,4,5,6,8,9,10] (zR 1 20),(ro 8 rfl ?_)⟩)
   obtain ⟨u1,u2⟩:=E_bg107.sh.row (c:=(xZ s t ((s.qE[i]!).qR)).toNat) qf p8 qf
   have u4:=(by first | exact bn1.yE qf | exact bn2.yE qf | exact bn3.yE qf | exact bn4.yE qf:SmallT ((s.qE[i]!).QI) (counts[i]!))
   have sz118:=H.base.size
   have lt119:=H.ltN (L:=[G102,G69]) [2,5]
   refine oc (plus_ok _ (bg107[(xZ s t ((s.qE[i]!).qR)).toNat]!) ((s.qE[i]!).QI) (counts[i]!) (H.get 0 rfl).1 (H.get 11 rfl).1 qg qg qg) ?_
   rintro v123 w121 r123 x122
   replace H:=H.zt x122 r123
   obtain ⟨a124,c125,rfl,hc126,hm127⟩:=H.jm 0 rfl
   refine ⟨H.pick [1,2,3,4,5,6,7,9,10,11] (zR 1 20),(tI 9 rfl rfl rfl (H.pick [1,2,3,4,5,6,7,9,10,11] (zR 1 20)) ?_)⟩
   refine ro 10 rfl ?_
   obtain ⟨G129,N,hn130,H⟩:=H.zh 0 rfl N (H.vz [2,5])
   refine jK false H 8 rfl 2 rfl (Sv a124 ((jP (bg107[(xZ s t ((s.qE[i]!).qR)).toNat]!) ((s.qE[i]!).QI) (counts[i]!)).length) c125) 0 rfl rfl sizeOf27 rfl rfl (i:=((xZ s t ((s.qE[i]!).qR)).toNat)) qf qf qm fun w128 xs131 F132 hs133 H=>⟨H.pick [1,2,3,4,5,6,7,9,10,11] (zR 3 20),(xA qh ((ret0 rfl ⟨_,rfl,?_⟩)))⟩
   replace H:=H.erases [0]
   dsimp only [zU,List.eraseIdx] at H
   obtain ⟨bg134,e_bg134⟩:∃ z,z=(bg107.set ((xZ s t ((s.qE[i]!).qR)).toNat) (jP (bg107[(xZ s t ((s.qE[i]!).qR)).toNat]!) ((s.qE[i]!).QI) (counts[i]!))):=⟨_,rfl⟩
   rw [← e_bg134] at H
   have E_bg134:=Ent.add (D:=1000000) E_bg107 e_bg134 qf (by first | exact bn1.mul qf | exact bn2.mul qf | exact bn3.mul qf | exact bn4.mul qf) qf
   have z_bg134:=E_bg134.sh.1
   have E_cur:=E_bg134
   refine zjc (oF rfl (oL rfl (H.cell 1 rfl rfl) (oN rfl (sp (yI 0) (zjn (qV ?_))))))
   refine zA ((fun Z0 Z1 Z2 Z3 Z4 Z5 Z6 Z7 Z8 Z9 Z10 Z11 Z12 Z13 Z14 Z15 Z16 Z17 Z18 Z19 Z20 Z21 Z22 Z23 Z24=>fun m' ρ w135=>∃ (xQ:Env) (k:Nat) (bags_1:yLL) (x_bags_1:List Value) (F_bags_1:yLN),ρ=upd (upd (upd (upd xQ 10 (.func (.func 169) #[] #[pp b79 0,pp b83 0])) 40 (Sv ae47Into (((s.qE[i]!).xw).length) ce47Into)) 41 (yI (((s.qE[i]!).xw).length))) 42 (yI k)/\((k:Int)<=(((s.qE[i]!).xw).length))/\(Ent (s.qC.length+1) (Qm s) (fun p q=>base0 s t p q+allS s t counts i p q+at' p (s.qE[i]!).qR.toNat (-(counts[i]!) * ((s.qE[i]!).vF)[q]!)+at' p (s.qE[i]!).qR.toNat ((counts[i]!) * ((s.qE[i]!).vw)[q]!)+at' p (outPl s t (s.qE[i]!)) ((counts[i]!) * ((s.qE[i]!).QI)[q]!)+intoF (s.qE[i]!) (counts[i]!) k p q) (23000000+6000000 * i+1000000 * k) bags_1)/\(bags_1.length=s.qC.length+1)/\m' =((((s.qE[i]!).xw).length) - (k:Int)).toNat/\Fresh w.heap.size [G69]/\St w w135 [Z0,Z1,Z2,Z3,Z4,Z5,Z6,rr (aa b52 0) (t.qP.length+1) c8 27 1 x_bags_1,Z7,Z8,Z9] [xN false F_bags_1 x_bags_1 bags_1,Z10,Z11,Z12,Z13,Z14,Z15,Z16,Z17,Z18,Z19,Z20,Z21,Z22,Z23,Z24]) _ _ _ _ _ _ _ _ _ _ _ _ _ _ _ _ _ _ _ _ _ _ _ _ _) (((((s.qE[i]!).xw).length) - (0:Int)).toNat) ⟨_,0,bg134,xs131,F132,uE4,qf,(by exact E_cur.to (fun p q=>by rw [po];simp only [intoF];first | omega | (simp only [Int.toNat_natCast];omega)) qf),qf,rfl,(N.pick [2]),H.pick (zR 0 11) [0,7,8,9,10,11,12,13,14,15,17,18,19,20,21,22]⟩ ?_
   clear H N
   rintro m' ρ w136 ⟨xQ,k,bags_1,x_bags_1,F_bags_1,rfl,i0,E_bags_1,z_bags_1,rfl,N,H⟩
   have hn_bags:=H.xB (α:=yLI) 7 rfl 0 rfl qj
   refine zcr (sq 1 (zjn (xU (cD rfl (fun h137=>?_) (fun h137=>?_)))))
   ·have qi:=q.2.2.2.2.2.2.2.2.2.2 k qf
    have qi1:=qi.1
    have bn4:=qi.2.2.1
    have ln4:=bn4.len
    refine qU (t_n (xU (qV (zcr ?_))))
    obtain ⟨b138,o139,rfl⟩:=H.addr 8 rfl qf
    obtain ⟨ae141Bag,ce141Bag,Fe141Bag,H⟩:=H.yY 8 rfl k k qf qf qf
    refine oI rfl rfl (sw (x8 [yI ((((s.qE[i]!).xw)[k]!).qR),Sv ae141Bag (((((s.qE[i]!).xw)[k]!).QP).length) ce141Bag] isAgg160 sizeOf160 rfl (qF (H.get 1 rfl) 0 2) (sw (xH H ti160 [yI 0,yN] fun b142 w143 H=>sw (xY H 0 [yI ((((s.qE[i]!).xw)[k]!).qR),Sv ae141Bag (((((s.qE[i]!).xw)[k]!).QP).length) ce141Bag] sizeOf160 fun w144 H=>zjn (xK (sp (.func (.func 169) #[] #[pp b79 0,pp b83 0]) (oF rfl (oL rfl (H.cell 0 rfl rfl) (oF rfl (oL rfl (H.cell 0 rfl rfl) ?_)))))))))))
    refine sw (zN #[yI ((((s.qE[i]!).xw)[k]!).qR),Sv ae141Bag (((((s.qE[i]!).xw)[k]!).QP).length) ce141Bag,pp b79 0,pp b83 0] rfl rfl call169 (en func169 ntmps169 ?_))
    refine Qb rfl H [0,1,2,3,4,5,6,7,9,10,11] fun H=>?_
    have S:=H.jr [0,1,2,3,4,5,6,7,9,10,11] (zR 0 18)
    refine tL 0 rfl rfl (fun _ h=>h.cell 3 rfl rfl) S ?_
    refine rtl 1 S ?_
    refine tL 2 rfl rfl (fun _ h=>h.cell 3 rfl rfl) S ?_
    refine rtl 3 S ?_
    refine tI 4 rfl rfl rfl S ?_
    refine rtl 6 S ?_
    refine tL 7 rfl rfl (fun _ h=>h.cell 1 rfl rfl) S ?_
    refine ro 5 rfl ?_
    obtain ⟨a146,c147,G148,s149,h150,H⟩:=H.jY 8 rfl 2 rfl (iv:=(((s.qE[i]!).xw)[k]!).qR) (((((s.qE[i]!).xw)[k]!).qR).toNat) qf qf
    refine zK (Sv a146 ((bags_1[((((s.qE[i]!).xw)[k]!).qR).toNat]!).length) c147) isAgg27 rfl (h150) (⟨H.pick [0,1,2,3,4,5,6,7,9,10,11] (zR 1 18),(ro 8 rfl ?_)⟩)
    obtain ⟨u1,u2⟩:=E_bags_1.sh.row (c:=((((s.qE[i]!).xw)[k]!).qR).toNat) qf p8 qf
    have u4:=(by first | exact bn1.yE qf | exact bn2.yE qf | exact bn3.yE qf | exact bn4.yE qf:SmallT ((((s.qE[i]!).xw)[k]!).QP) (counts[i]!))
    have sz151:=H.base.size
    have lt152:=H.ltN (L:=[G69]) [4]
    refine oc (plus_ok _ (bags_1[((((s.qE[i]!).xw)[k]!).qR).toNat]!) ((((s.qE[i]!).xw)[k]!).QP) (counts[i]!) (H.get 0 rfl).1 (H.get 1 rfl).1 qg qg qg) ?_
    rintro v156 w154 r156 x155
    replace H:=H.zt x155 r156
    obtain ⟨a157,c158,rfl,hc159,hm160⟩:=H.jm 0 rfl
    refine ⟨H.pick [1,2,3,4,5,6,7,8,10,11,12] (zR 1 18),(tI 9 rfl rfl rfl (H.pick [1,2,3,4,5,6,7,8,10,11,12] (zR 1 18)) ?_)⟩
    refine ro 10 rfl ?_
    obtain ⟨G162,N,hn163,H⟩:=H.zh 0 rfl N (H.vz [4])
    refine jK false H 9 rfl 4 rfl (Sv a157 ((jP (bags_1[((((s.qE[i]!).xw)[k]!).qR).toNat]!) ((((s.qE[i]!).xw)[k]!).QP) (counts[i]!)).length) c158) 0 rfl rfl sizeOf27 rfl rfl (i:=(((((s.qE[i]!).xw)[k]!).qR).toNat)) qf qf qm fun w161 xs164 F165 hs166 H=>⟨H.pick [1,2,3,4,5,6,7,8,10,11,12] (zR 3 18),(xA qh ((ret0 rfl ⟨_,rfl,?_⟩)))⟩
    replace H:=H.erases [0]
    dsimp only [zU,List.eraseIdx] at H
    obtain ⟨bg167,e_bg167⟩:∃ z,z=(bags_1.set (((((s.qE[i]!).xw)[k]!).qR).toNat) (jP (bags_1[((((s.qE[i]!).xw)[k]!).qR).toNat]!) ((((s.qE[i]!).xw)[k]!).QP) (counts[i]!))):=⟨_,rfl⟩
    rw [← e_bg167] at H
    have E_bg167:=Ent.add (D:=1000000) E_bags_1 e_bg167 qf (by first | exact bn1.mul qf | exact bn2.mul qf | exact bn3.mul qf | exact bn4.mul qf) qf
    have z_bg167:=E_bg167.sh.1
    have E_cur:=E_bg167
    refine xP (b_n (t_n (xK (sw (zi k 1 rfl rfl qf (sq 1 (xP (qW (m' :=((((s.qE[i]!).xw).length) - ((k+1):Int)).toNat) qf ⟨_,k+1,_,_,_,uE4,?_,?_,?_,rfl,(N.pick [1]),H.pick (zR 1 11) (0::zR 6 15)⟩))))))))
    ·omega
    ·exact E_cur.to (fun p q=>by simp only [intoF];omega) qf
    ·omega
   refine c_exit (t_x (t_x (b_x (ret0 rfl ⟨_,rfl,?_⟩))))
   replace H:=H.erases [4,3,2,1,0]
   dsimp only [zU,List.eraseIdx] at H
   refine zjn ?_
   refine Qb rfl H [0,2,3,4,5] fun H=>?_
   have S:=H.jr [0,2,3,4,5] (zR 0 16)
   refine rtl 0 S ?_
   refine tF 1 rfl rfl S ?_
   refine tL 2 rfl rfl (fun _ h=>h.cell 0 rfl rfl) S ?_
   refine rtl 3 S ?_
   refine tF 4 rfl rfl S ?_
   refine tL 5 rfl rfl (fun _ h=>h.cell 0 rfl rfl) S ?_
   refine tI 6 rfl rfl rfl S ?_
   refine ro 7 rfl (zK (Bv ((Qs s counts s.qC.length i)[((s.qE[i]!).qR).toNat]!)) isAgg4 rfl (H.rowBool 1 rfl (iv:=(s.qE[i]!).qR) (i:=(((s.qE[i]!).qR).toNat)) qf qf) (⟨H.pick [0,2,3,4,5] (zR 0 16),(rtp 8 (Bv ((Qs s counts s.qC.length i)[((s.qE[i]!).qR).toNat]!)) (H.pick [0,2,3,4,5] (zR 0 16)) ?_)⟩))
   cases h169:((Qs s counts s.qC.length i)[((s.qE[i]!).qR).toNat]!)
   ·have S:=H.jr [0,2,3,4,5] (zR 0 16)
    refine rgl 9 66 S ?_
    refine rgp 10 (Bv (decide ((counts[i]! :Int) > 0))) 66 S ?_
    refine rgp 11 (Bv (decide ((counts[i]! :Int) > 0))) 66 S ?_
    cases h170:(decide ((counts[i]! :Int) > 0))
    ·replace h170:=of_decide_eq_false h170
     refine zS [12,13] 2 (H.pick [0,2,3,4,5] (zR 0 16)) ?_
     have S:=H.jr [0,2,3,4,5] (zR 0 16)
     refine rgp 14 (Bv false) 66 S ?_
     refine rtp 15 (Bv false) S ?_
     refine tI 16 rfl rfl rfl S ?_
     refine ro 17 rfl (QG H 1 rfl false sizeOf4 rfl rfl (i:=(((s.qE[i]!).qR).toNat)) qf qf fun w171 H=>⟨H.pick [0,2,3,4,5] (zR 0 16),(xA qh (b_n (t_n (xK (sw (zi i 1 rfl rfl qf (sq 1 (xP (qW (m' :=(counts.length - ((i+1):Int)).toNat) qf ⟨_,i+1,_,_,_,_,uE8,?_,?_,?_,?_,rfl,(N.pick []),H.pick (zR 1 5) (0::zR 10 6)⟩)))))))))⟩)
     ·first | exact meltsL_1 qf qf ‹_› | exact meltsL_2 qf qf ‹_› qf | exact meltsL_3 qf qf ‹_› qf
     ·omega
     ·exact E_bags_1.to (fun p q=>by rw [show k=((s.qE[i]!).xw).length by omega];simp only [allS,needF,putF];omega) qf
     ·omega
    replace h170:=of_decide_eq_true h170
    have S:=H.jr [0,2,3,4,5] (zR 0 16)
    refine gF 12 rfl rfl S ?_
    refine gL 13 rfl rfl (fun _ h=>h.cell 0 rfl rfl) S ?_
    refine rgl 14 66 S ?_
    refine rtl 15 S ?_
    refine tI 16 rfl rfl rfl S ?_
    refine ro 17 rfl (QG H 1 rfl ((s.qE[i]!).jV) sizeOf4 rfl rfl (i:=(((s.qE[i]!).qR).toNat)) qf qf fun w172 H=>⟨H.pick [0,2,3,4,5] (zR 0 16),(xA qh (b_n (t_n (xK (sw (zi i 1 rfl rfl qf (sq 1 (xP (qW (m' :=(counts.length - ((i+1):Int)).toNat) qf ⟨_,i+1,_,_,_,_,uE8,?_,?_,?_,?_,rfl,(N.pick []),H.pick (zR 1 5) (0::zR 10 6)⟩)))))))))⟩)
    ·first | exact meltsL_1 qf qf ‹_› | exact meltsL_2 qf qf ‹_› qf | exact meltsL_3 qf qf ‹_› qf
    ·omega
    ·exact E_bags_1.to (fun p q=>by rw [show k=((s.qE[i]!).xw).length by omega];simp only [allS,needF,putF];omega) qf
    ·omega
   refine zS (zR 9 6) 6 (H.pick [0,2,3,4,5] (zR 0 16)) ?_
   have S:=H.jr [0,2,3,4,5] (zR 0 16)
   refine rtp 15 (Bv true) S ?_
   refine tI 16 rfl rfl rfl S ?_
   refine ro 17 rfl (QG H 1 rfl true sizeOf4 rfl rfl (i:=(((s.qE[i]!).qR).toNat)) qf qf fun w173 H=>⟨H.pick [0,2,3,4,5] (zR 0 16),(xA qh (b_n (t_n (xK (sw (zi i 1 rfl rfl qf (sq 1 (xP (qW (m' :=(counts.length - ((i+1):Int)).toNat) qf ⟨_,i+1,_,_,_,_,uE8,?_,?_,?_,?_,rfl,(N.pick []),H.pick (zR 1 5) (0::zR 10 6)⟩)))))))))⟩)
   ·first | exact meltsL_1 qf qf ‹_› | exact meltsL_2 qf qf ‹_› qf | exact meltsL_3 qf qf ‹_› qf
   ·omega
   ·exact E_bags_1.to (fun p q=>by rw [show k=((s.qE[i]!).xw).length by omega];simp only [allS,needF,putF];omega) qf
   ·omega
  have po:=outPl_out (r:=s.qE[i]!) p15 p1.2.2.1 qc qf
  refine Qb rfl H [0,1,2,3,4,5,6,8,9,10] fun H=>?_
  have S:=H.jr [0,1,2,3,4,5,6,8,9,10] (zR 0 20)
  refine rtp 0 (.func (.func 169) #[] #[pp b79 0,pp b83 0]) S ?_
  refine rt 1 _ (yl (cs:=[yI s.xO,Sv qM s.qC.length qL,Sv (aa b44 o45) s.qE.length qX]) isAgg37 sizeOf37 rfl (fun _ h=>qF (h.cells 4 rfl) 0 3)) S ?_
  refine tF 3 rfl rfl S ?_
  refine tL 4 rfl rfl (fun _ h=>h.cell 1 rfl rfl) S ?_
  refine ro 2 rfl (oq (around_ok _ s (H.get 14 rfl).1 (H.get 15 rfl).1) H fun w176 H=>⟨H.pick [0,1,2,3,4,5,6,8,9,10] (zR 0 20),(ro 5 rfl (zN #[yI s.qC.length,Sv ae47Out (((s.qE[i]!).QI).length) ce47Out,pp b79 0,pp b83 0] rfl rfl call169 (en func169 ntmps169 ?_)))⟩)
  refine Qb rfl H [0,1,2,3,4,5,6,8,9,10] fun H=>?_
  have S:=H.jr [0,1,2,3,4,5,6,8,9,10] (zR 0 20)
  refine tL 0 rfl rfl (fun _ h=>h.cell 2 rfl rfl) S ?_
  refine rtl 1 S ?_
  refine tL 2 rfl rfl (fun _ h=>h.cell 2 rfl rfl) S ?_
  refine rtl 3 S ?_
  refine tI 4 rfl rfl rfl S ?_
  refine rtl 6 S ?_
  refine tL 7 rfl rfl (fun _ h=>h.cell 0 rfl rfl) S ?_
  refine ro 5 rfl ?_
  obtain ⟨a179,c180,G181,s182,h183,H⟩:=H.jY 7 rfl 0 rfl (iv:=s.qC.length) s.qC.length qf qf
  refine zK (Sv a179 ((bg107[s.qC.length]!).length) c180) isAgg27 rfl (h183) (⟨H.pick [0,1,2,3,4,5,6,8,9,10] (zR 1 20),(ro 8 rfl ?_)⟩)
  obtain ⟨u1,u2⟩:=E_bg107.sh.row (c:=s.qC.length) qf p8 qf
  have u4:=(by first | exact bn1.yE qf | exact bn2.yE qf | exact bn3.yE qf | exact bn4.yE qf:SmallT ((s.qE[i]!).QI) (counts[i]!))
  have sz184:=H.base.size
  have lt185:=H.ltN (L:=[G102,G69]) [2,5]
  refine oc (plus_ok _ (bg107[s.qC.length]!) ((s.qE[i]!).QI) (counts[i]!) (H.get 0 rfl).1 (H.get 11 rfl).1 qg qg qg) ?_
  rintro v189 w187 r189 x188
  replace H:=H.zt x188 r189
  obtain ⟨a190,c191,rfl,hc192,hm193⟩:=H.jm 0 rfl
  refine ⟨H.pick [1,2,3,4,5,6,7,9,10,11] (zR 1 20),(tI 9 rfl rfl rfl (H.pick [1,2,3,4,5,6,7,9,10,11] (zR 1 20)) ?_)⟩
  refine ro 10 rfl ?_
  obtain ⟨G195,N,hn196,H⟩:=H.zh 0 rfl N (H.vz [2,5])
  refine jK false H 8 rfl 2 rfl (Sv a190 ((jP (bg107[s.qC.length]!) ((s.qE[i]!).QI) (counts[i]!)).length) c191) 0 rfl rfl sizeOf27 rfl rfl (i:=s.qC.length) qf qf qm fun w194 xs197 F198 hs199 H=>⟨H.pick [1,2,3,4,5,6,7,9,10,11] (zR 3 20),(xA qh ((ret0 rfl ⟨_,rfl,?_⟩)))⟩
  replace H:=H.erases [0]
  dsimp only [zU,List.eraseIdx] at H
  obtain ⟨bg200,e_bg200⟩:∃ z,z=(bg107.set s.qC.length (jP (bg107[s.qC.length]!) ((s.qE[i]!).QI) (counts[i]!))):=⟨_,rfl⟩
  rw [← e_bg200] at H
  have E_bg200:=Ent.add (D:=1000000) E_bg107 e_bg200 qf (by first | exact bn1.mul qf | exact bn2.mul qf | exact bn3.mul qf | exact bn4.mul qf) qf
  have z_bg200:=E_bg200.sh.1
  have E_cur:=E_bg200
  refine ⟨H.pick [0,1,2,3,4,5,6,8,9,10] (zR 3 20),(xA qh (t_n (zcr (oF rfl (oL rfl (H.cell 1 rfl rfl) (oN rfl (sp (yI 0) (zjn (qV ?_)))))))))⟩
  refine zA ((fun Z0 Z1 Z2 Z3 Z4 Z5 Z6 Z7 Z8 Z9 Z10 Z11 Z12 Z13 Z14 Z15 Z16 Z17 Z18 Z19 Z20 Z21 Z22 Z23 Z24=>fun m' ρ w201=>∃ (xQ:Env) (k:Nat) (bags_1:yLL) (x_bags_1:List Value) (F_bags_1:yLN),ρ=upd (upd (upd (upd xQ 10 (.func (.func 169) #[] #[pp b79 0,pp b83 0])) 40 (Sv ae47Into (((s.qE[i]!).xw).length) ce47Into)) 41 (yI (((s.qE[i]!).xw).length))) 42 (yI k)/\((k:Int)<=(((s.qE[i]!).xw).length))/\(Ent (s.qC.length+1) (Qm s) (fun p q=>base0 s t p q+allS s t counts i p q+at' p (s.qE[i]!).qR.toNat (-(counts[i]!) * ((s.qE[i]!).vF)[q]!)+at' p (s.qE[i]!).qR.toNat ((counts[i]!) * ((s.qE[i]!).vw)[q]!)+at' p (outPl s t (s.qE[i]!)) ((counts[i]!) * ((s.qE[i]!).QI)[q]!)+intoF (s.qE[i]!) (counts[i]!) k p q) (23000000+6000000 * i+1000000 * k) bags_1)/\(bags_1.length=s.qC.length+1)/\m' =((((s.qE[i]!).xw).length) - (k:Int)).toNat/\Fresh w.heap.size [G69]/\St w w201 [Z0,Z1,Z2,Z3,Z4,Z5,Z6,rr (aa b52 0) (t.qP.length+1) c8 27 1 x_bags_1,Z7,Z8,Z9] [xN false F_bags_1 x_bags_1 bags_1,Z10,Z11,Z12,Z13,Z14,Z15,Z16,Z17,Z18,Z19,Z20,Z21,Z22,Z23,Z24]) _ _ _ _ _ _ _ _ _ _ _ _ _ _ _ _ _ _ _ _ _ _ _ _ _) (((((s.qE[i]!).xw).length) - (0:Int)).toNat) ⟨_,0,bg200,xs197,F198,uE4,qf,(by exact E_cur.to (fun p q=>by rw [po];simp only [intoF];first | omega | (simp only [Int.toNat_natCast];omega)) qf),qf,rfl,(N.pick [2]),H.pick (zR 0 11) [0,7,8,9,10,11,12,13,14,15,17,18,19,20,21,22]⟩ ?_
  clear H N
  rintro m' ρ w202 ⟨xQ,k,bags_1,x_bags_1,F_bags_1,rfl,i0,E_bags_1,z_bags_1,rfl,N,H⟩
  have hn_bags:=H.xB (α:=yLI) 7 rfl 0 rfl qj
  refine zcr (sq 1 (zjn (xU (cD rfl (fun h203=>?_) (fun h203=>?_)))))
  ·have qi:=q.2.2.2.2.2.2.2.2.2.2 k qf
   have qi1:=qi.1
   have bn4:=qi.2.2.1
   have ln4:=bn4.len
   refine qU (t_n (xU (qV (zcr ?_))))
   obtain ⟨b204,o205,rfl⟩:=H.addr 8 rfl qf
   obtain ⟨ae207Bag,ce207Bag,Fe207Bag,H⟩:=H.yY 8 rfl k k qf qf qf
   refine oI rfl rfl (sw (x8 [yI ((((s.qE[i]!).xw)[k]!).qR),Sv ae207Bag (((((s.qE[i]!).xw)[k]!).QP).length) ce207Bag] isAgg160 sizeOf160 rfl (qF (H.get 1 rfl) 0 2) (sw (xH H ti160 [yI 0,yN] fun b208 w209 H=>sw (xY H 0 [yI ((((s.qE[i]!).xw)[k]!).qR),Sv ae207Bag (((((s.qE[i]!).xw)[k]!).QP).length) ce207Bag] sizeOf160 fun w210 H=>zjn (xK (sp (.func (.func 169) #[] #[pp b79 0,pp b83 0]) (oF rfl (oL rfl (H.cell 0 rfl rfl) (oF rfl (oL rfl (H.cell 0 rfl rfl) ?_)))))))))))
   refine sw (zN #[yI ((((s.qE[i]!).xw)[k]!).qR),Sv ae207Bag (((((s.qE[i]!).xw)[k]!).QP).length) ce207Bag,pp b79 0,pp b83 0] rfl rfl call169 (en func169 ntmps169 ?_))
   refine Qb rfl H [0,1,2,3,4,5,6,7,9,10,11] fun H=>?_
   have S:=H.jr [0,1,2,3,4,5,6,7,9,10,11] (zR 0 18)
   refine tL 0 rfl rfl (fun _ h=>h.cell 3 rfl rfl) S ?_
   refine rtl 1 S ?_
   refine tL 2 rfl rfl (fun _ h=>h.cell 3 rfl rfl) S ?_
   refine rtl 3 S ?_
   refine tI 4 rfl rfl rfl S ?_
   refine rtl 6 S ?_
   refine tL 7 rfl rfl (fun _ h=>h.cell 1 rfl rfl) S ?_
   refine ro 5 rfl ?_
   obtain ⟨a212,c213,G214,s215,h216,H⟩:=H.jY 8 rfl 2 rfl (iv:=(((s.qE[i]!).xw)[k]!).qR) (((((s.qE[i]!).xw)[k]!).qR).toNat) qf qf
   refine zK (Sv a212 ((bags_1[((((s.qE[i]!).xw)[k]!).qR).toNat]!).length) c213) isAgg27 rfl (h216) (⟨H.pick [0,1,2,3,4,5,6,7,9,10,11] (zR 1 18),(ro 8 rfl ?_)⟩)
   obtain ⟨u1,u2⟩:=E_bags_1.sh.row (c:=((((s.qE[i]!).xw)[k]!).qR).toNat) qf p8 qf
   have u4:=(by first | exact bn1.yE qf | exact bn2.yE qf | exact bn3.yE qf | exact bn4.yE qf:SmallT ((((s.qE[i]!).xw)[k]!).QP) (counts[i]!))
   have sz217:=H.base.size
   have lt218:=H.ltN (L:=[G69]) [4]
   refine oc (plus_ok _ (bags_1[((((s.qE[i]!).xw)[k]!).qR).toNat]!) ((((s.qE[i]!).xw)[k]!).QP) (counts[i]!) (H.get 0 rfl).1 (H.get 1 rfl).1 qg qg qg) ?_
   rintro v222 w220 r222 x221
   replace H:=H.zt x221 r222
   obtain ⟨a223,c224,rfl,hc225,hm226⟩:=H.jm 0 rfl
   refine ⟨H.pick [1,2,3,4,5,6,7,8,10,11,12] (zR 1 18),(tI 9 rfl rfl rfl (H.pick [1,2,3,4,5,6,7,8,10,11,12] (zR 1 18)) ?_)⟩
   refine ro 10 rfl ?_
   obtain ⟨G228,N,hn229,H⟩:=H.zh 0 rfl N (H.vz [4])
   refine jK false H 9 rfl 4 rfl (Sv a223 ((jP (bags_1[((((s.qE[i]!).xw)[k]!).qR).toNat]!) ((((s.qE[i]!).xw)[k]!).QP) (counts[i]!)).length) c224) 0 rfl rfl sizeOf27 rfl rfl (i:=(((((s.qE[i]!).xw)[k]!).qR).toNat)) qf qf qm fun w227 xs230 F231 hs232 H=>⟨H.pick [1,2,3,4,5,6,7,8,10,11,12] (zR 3 18),(xA qh ((ret0 rfl ⟨_,rfl,?_⟩)))⟩
   replace H:=H.erases [0]
   dsimp only [zU,List.eraseIdx] at H
   obtain ⟨bg233,e_bg233⟩:∃ z,z=(bags_1.set (((((s.qE[i]!).xw)[k]!).qR).toNat) (jP (bags_1[((((s.qE[i]!).xw)[k]!).qR).toNat]!) ((((s.qE[i]!).xw)[k]!).QP) (counts[i]!))):=⟨_,rfl⟩
   rw [← e_bg233] at H
   have E_bg233:=Ent.add (D:=1000000) E_bags_1 e_bg233 qf (by first | exact bn1.mul qf | exact bn2.mul qf | exact bn3.mul qf | exact bn4.mul qf) qf
   have z_bg233:=E_bg233.sh.1
   have E_cur:=E_bg233
   refine xP (b_n (t_n (xK (sw (zi k 1 rfl rfl qf (sq 1 (xP (qW (m' :=((((s.qE[i]!).xw).length) - ((k+1):Int)).toNat) qf ⟨_,k+1,_,_,_,uE4,?_,?_,?_,rfl,(N.pick [1]),H.pick (zR 1 11) (0::zR 6 15)⟩))))))))
   ·omega
   ·exact E_cur.to (fun p q=>by simp only [intoF];omega) qf
   ·omega
  refine c_exit (t_x (t_x (b_x (ret0 rfl ⟨_,rfl,?_⟩))))
  replace H:=H.erases [4,3,2,1,0]
  dsimp only [zU,List.eraseIdx] at H
  refine zjn ?_
  refine Qb rfl H [0,2,3,4,5] fun H=>?_
  have S:=H.jr [0,2,3,4,5] (zR 0 16)
  refine rtl 0 S ?_
  refine tF 1 rfl rfl S ?_
  refine tL 2 rfl rfl (fun _ h=>h.cell 0 rfl rfl) S ?_
  refine rtl 3 S ?_
  refine tF 4 rfl rfl S ?_
  refine tL 5 rfl rfl (fun _ h=>h.cell 0 rfl rfl) S ?_
  refine tI 6 rfl rfl rfl S ?_
  refine ro 7 rfl (zK (Bv ((Qs s counts s.qC.length i)[((s.qE[i]!).qR).toNat]!)) isAgg4 rfl (H.rowBool 1 rfl (iv:=(s.qE[i]!).qR) (i:=(((s.qE[i]!).qR).toNat)) qf qf) (⟨H.pick [0,2,3,4,5] (zR 0 16),(rtp 8 (Bv ((Qs s counts s.qC.length i)[((s.qE[i]!).qR).toNat]!)) (H.pick [0,2,3,4,5] (zR 0 16)) ?_)⟩))
  cases h235:((Qs s counts s.qC.length i)[((s.qE[i]!).qR).toNat]!)
  ·have S:=H.jr [0,2,3,4,5] (zR 0 16)
   refine rgl 9 66 S ?_
   refine rgp 10 (Bv (decide ((counts[i]! :Int) > 0))) 66 S ?_
   refine rgp 11 (Bv (decide ((counts[i]! :Int) > 0))) 66 S ?_
   cases h236:(decide ((counts[i]! :Int) > 0))
   ·replace h236:=of_decide_eq_false h236
    refine zS [12,13] 2 (H.pick [0,2,3,4,5] (zR 0 16)) ?_
    have S:=H.jr [0,2,3,4,5] (zR 0 16)
    refine rgp 14 (Bv false) 66 S ?_
    refine rtp 15 (Bv false) S ?_
    refine tI 16 rfl rfl rfl S ?_
    refine ro 17 rfl (QG H 1 rfl false sizeOf4 rfl rfl (i:=(((s.qE[i]!).qR).toNat)) qf qf fun w237 H=>⟨H.pick [0,2,3,4,5] (zR 0 16),(xA qh (b_n (t_n (xK (sw (zi i 1 rfl rfl qf (sq 1 (xP (qW (m' :=(counts.length - ((i+1):Int)).toNat) qf ⟨_,i+1,_,_,_,_,uE8,?_,?_,?_,?_,rfl,(N.pick []),H.pick (zR 1 5) (0::zR 10 6)⟩)))))))))⟩)
    ·first | exact meltsL_1 qf qf ‹_› | exact meltsL_2 qf qf ‹_› qf | exact meltsL_3 qf qf ‹_› qf
    ·omega
    ·exact E_bags_1.to (fun p q=>by rw [show k=((s.qE[i]!).xw).length by omega];simp only [allS,needF,putF];omega) qf
    ·omega
   replace h236:=of_decide_eq_true h236
   have S:=H.jr [0,2,3,4,5] (zR 0 16)
   refine gF 12 rfl rfl S ?_
   refine gL 13 rfl rfl (fun _ h=>h.cell 0 rfl rfl) S ?_
   refine rgl 14 66 S ?_
   refine rtl 15 S ?_
   refine tI 16 rfl rfl rfl S ?_
   refine ro 17 rfl (QG H 1 rfl ((s.qE[i]!).jV) sizeOf4 rfl rfl (i:=(((s.qE[i]!).qR).toNat)) qf qf fun w238 H=>⟨H.pick [0,2,3,4,5] (zR 0 16),(xA qh (b_n (t_n (xK (sw (zi i 1 rfl rfl qf (sq 1 (xP (qW (m' :=(counts.length - ((i+1):Int)).toNat) qf ⟨_,i+1,_,_,_,_,uE8,?_,?_,?_,?_,rfl,(N.pick []),H.pick (zR 1 5) (0::zR 10 6)⟩)))))))))⟩)
   ·first | exact meltsL_1 qf qf ‹_› | exact meltsL_2 qf qf ‹_› qf | exact meltsL_3 qf qf ‹_› qf
   ·omega
   ·exact E_bags_1.to (fun p q=>by rw [show k=((s.qE[i]!).xw).length by omega];simp only [allS,needF,putF];omega) qf
   ·omega
  refine zS (zR 9 6) 6 (H.pick [0,2,3,4,5] (zR 0 16)) ?_
  have S:=H.jr [0,2,3,4,5] (zR 0 16)
  refine rtp 15 (Bv true) S ?_
  refine tI 16 rfl rfl rfl S ?_
  refine ro 17 rfl (QG H 1 rfl true sizeOf4 rfl rfl (i:=(((s.qE[i]!).qR).toNat)) qf qf fun w239 H=>⟨H.pick [0,2,3,4,5] (zR 0 16),(xA qh (b_n (t_n (xK (sw (zi i 1 rfl rfl qf (sq 1 (xP (qW (m' :=(counts.length - ((i+1):Int)).toNat) qf ⟨_,i+1,_,_,_,_,uE8,?_,?_,?_,?_,rfl,(N.pick []),H.pick (zR 1 5) (0::zR 10 6)⟩)))))))))⟩)
  ·first | exact meltsL_1 qf qf ‹_› | exact meltsL_2 qf qf ‹_› qf | exact meltsL_3 qf qf ‹_› qf
  ·omega
  ·exact E_bags_1.to (fun p q=>by rw [show k=((s.qE[i]!).xw).length by omega];simp only [allS,needF,putF];omega) qf
  ·omega
 refine zx4 (xU ?_)
 obtain ⟨b240,rfl⟩:=H.y5 1 rfl qf
 refine c_cut (fun ρ w250=>∃ (xQ:Env) (b241:Nat) (ra242:yOA) (rc243:Nat) (ra244:yOA) (rc245:Nat) (ra246:yOA) (rc247:Nat) (rx248:List Value) (rF249:yLN),ρ=upd (upd (upd (upd xQ 3 (pp b1 0)) 6 (pp b5 0)) 9 (Sv (aa b36 0) s.qC.length s.qC.length)) 13 (pp b241 0)/\Fresh w.heap.size [rF249]/\St w w250 [.box b241 [Sv ra242 (((⟨t.qI,(bags.take s.qC.length),bags[s.qC.length]!⟩:qH).qI).length) rc243,Sv ra244 (((⟨t.qI,(bags.take s.qC.length),bags[s.qC.length]!⟩:qH).qP).length) rc245,Sv ra246 (((⟨t.qI,(bags.take s.qC.length),bags[s.qC.length]!⟩:qH).qN).length) rc247] 43,rr ra242 (((⟨t.qI,(bags.take s.qC.length),bags[s.qC.length]!⟩:qH).qI).length) rc243 4 1 (((⟨t.qI,(bags.take s.qC.length),bags[s.qC.length]!⟩:qH).qI).map (Value.bool)),rr ra244 (((⟨t.qI,(bags.take s.qC.length),bags[s.qC.length]!⟩:qH).qP).length) rc245 27 1 rx248,rr ra246 (((⟨t.qI,(bags.take s.qC.length),bags[s.qC.length]!⟩:qH).qN).length) rc247 2 1 (((⟨t.qI,(bags.take s.qC.length),bags[s.qC.length]!⟩:qH).qN).map (Value.int .i64)),rr (aa b36 0) s.qC.length s.qC.length 4 1 ((Qs s counts s.qC.length i).map (Value.bool)),rr none 0 0 0 1 [],.box b5 [yN,yN,yN] 43,.box b3 (yT t xq xn xX xM xe qZ) 43,.box b1 (yS s qM qL xg qX) 37] [xN true rF249 rx248 ((⟨t.qI,(bags.take s.qC.length),bags[s.qC.length]!⟩:qH).qP),sF false xF qM qL s.qC,sF false zu xg qX s.qE,sF false zQ xq xn t.qI,sF false vK xX xM t.qP,sF false zo xe qZ t.qN]) ?_ ?_
 ·refine Qb rfl H [0,2,3,4] fun H=>?_
  refine Xm (fun ρ w258=>∃ (xQ:Env) (a252:yOA) (c253:Nat) (a254:yOA) (G255:yLN) (G256:yLN),ρ=upd (upd (upd (upd (upd (upd xQ 3 (pp b1 0)) 6 (pp b5 0)) 9 (Sv (aa b36 0) s.qC.length s.qC.length)) 77 (Sv xq t.qI.length xn)) 81 (Sv a254 ((bags.take s.qC.length).length) c8)) 86 (Sv a252 ((bags[s.qC.length]!).length) c253)/\Fresh w.heap.size []/\St w w258 [rr (aa b36 0) s.qC.length s.qC.length 4 1 ((Qs s counts s.qC.length i).map (Value.bool)),rr none 0 0 0 1 [],.box b5 [yN,yN,yN] 43,.box b3 (yT t xq xn xX xM xe qZ) 43,.box b1 (yS s qM qL xg qX) 37] [sF false G255 a254 c8 (bags.take s.qC.length),sF false G256 a252 c253 (bags[s.qC.length]!),xN false F_bags x_bags bags,sF false xF qM qL s.qC,sF false zu xg qX s.qE,sF false zQ xq xn t.qI,sF false vK xX xM t.qP,sF false zo xe qZ t.qN,sF false Fcounts acounts ccounts counts]) 4 #[true,true,true,true,true,true,true,true,true,true,true,false,false,false,false] ?_ fun L257=>?_
  ·rintro ρ w259 ⟨xQ,a252,c253,a254,G255,G256,rfl,N,H⟩
   refine jb [11,13] qh qm (jM rfl ?_ (jM rfl ?_ jd))
   ·refine vG [Sv xq t.qI.length xn,Sv a254 ((bags.take s.qC.length).length) c8,Sv a252 ((bags[s.qC.length]!).length) c253] [(0,Sv xq t.qI.length xn),(1,Sv a254 ((bags.take s.qC.length).length) c8),(2,Sv a252 ((bags[s.qC.length]!).length) c253)] (⟨H.pick [0,2,3,4] (zR 2 7),(jb [12,13] qh qm (jM rfl ?_ (jM rfl ?_ jd)))⟩)
    ·obtain ⟨cp0,cp1,cp2,cp3⟩:=copy_pre (al:=t.qI) E_bags p8 p9.2 p12
     have sz263:=H.base.size
     refine oc (XL _ (⟨t.qI,(bags.take s.qC.length),bags[s.qC.length]!⟩:qH) (H.get 5 rfl).1 (H.get 0 rfl).1 (H.get 1 rfl).1 qg qg qg qg) ?_
     rintro _ w261 ⟨ra260Alive,rn260Alive,rc260Alive,ra260Bags,rn260Bags,rc260Bags,rx260Bags,rF260Bags,ra260Around,rn260Around,rc260Around,rfl,M,K⟩ _
     replace N:=N.merge sz263 qm M
     replace H:=H.merge K M
     obtain rfl:=H.rowNB 0 rfl
     obtain rfl:=H.xB (α:=yLI) 1 rfl 0 rfl qj
     obtain rfl:=H.yt 2 rfl
     refine ⟨H.pick [3,5,6,7] (zR 3 7),(ro 13 rfl (xH H ti43 [yN,yN,yN] fun b268 w269 H=>⟨H.pick [4,6,7,8] (zR 3 7),(ro 14 rfl (xY H 0 [Sv ra260Alive (((⟨t.qI,(bags.take s.qC.length),bags[s.qC.length]!⟩:qH).qI).length) rc260Alive,Sv ra260Bags (((⟨t.qI,(bags.take s.qC.length),bags[s.qC.length]!⟩:qH).qP).length) rc260Bags,Sv ra260Around (((⟨t.qI,(bags.take s.qC.length),bags[s.qC.length]!⟩:qH).qN).length) rc260Around] sizeOf43 fun w270 H=>⟨H.pick [4,6,7,8] (zR 3 7),?_⟩))⟩))⟩
     refine xA qh ((meet ⟨_,b268,ra260Alive,rc260Alive,ra260Bags,rc260Bags,ra260Around,rc260Around,rx260Bags,rF260Bags,uE4,N,H.pick (zR 0 9) (0::zR 4 5)⟩))
    refine xH H ti43 [yN,yN,yN] fun b271 w272 H=>⟨H.pick [1,3,4,5] (zR 2 7),(ro 12 rfl ?_)⟩
    obtain ⟨cp0,cp1,cp2,cp3⟩:=copy_pre (al:=t.qI) E_bags p8 p9.2 p12
    have sz276:=H.base.size
    refine oc (XL _ (⟨t.qI,(bags.take s.qC.length),bags[s.qC.length]!⟩:qH) (H.get 5 rfl).1 (H.get 0 rfl).1 (H.get 1 rfl).1 qg qg qg qg) ?_
    rintro _ w274 ⟨ra273Alive,rn273Alive,rc273Alive,ra273Bags,rn273Bags,rc273Bags,rx273Bags,rF273Bags,ra273Around,rn273Around,rc273Around,rfl,M,K⟩ _
    replace N:=N.merge sz276 qm M
    replace H:=H.merge K M
    obtain rfl:=H.rowNB 0 rfl
    obtain rfl:=H.xB (α:=yLI) 1 rfl 0 rfl qj
    obtain rfl:=H.yt 2 rfl
    refine ⟨H.pick [4,6,7,8] (zR 3 7),(ro 14 rfl (xY H 3 [Sv ra273Alive (((⟨t.qI,(bags.take s.qC.length),bags[s.qC.length]!⟩:qH).qI).length) rc273Alive,Sv ra273Bags (((⟨t.qI,(bags.take s.qC.length),bags[s.qC.length]!⟩:qH).qP).length) rc273Bags,Sv ra273Around (((⟨t.qI,(bags.take s.qC.length),bags[s.qC.length]!⟩:qH).qN).length) rc273Around] sizeOf43 fun w281 H=>⟨H.pick [4,6,7,8] (zR 3 7),(xA qh (?_))⟩))⟩
    exact meet ⟨_,b271,ra273Alive,rc273Alive,ra273Bags,rc273Bags,ra273Around,rc273Around,rx273Bags,rF273Bags,uE4,N,H.pick [3,0,1,2,4,5,6,7,8] (0::zR 4 5)⟩
   refine xH H ti43 [yN,yN,yN] fun b282 w283 H=>⟨H.pick [1,3,4,5] (zR 2 7),(ro 11 rfl (vG [Sv xq t.qI.length xn,Sv a254 ((bags.take s.qC.length).length) c8,Sv a252 ((bags[s.qC.length]!).length) c253] [(0,Sv xq t.qI.length xn),(1,Sv a254 ((bags.take s.qC.length).length) c8),(2,Sv a252 ((bags[s.qC.length]!).length) c253)] (⟨H.pick [1,3,4,5] (zR 2 7),(ro 12 rfl ?_)⟩)))⟩
   obtain ⟨cp0,cp1,cp2,cp3⟩:=copy_pre (al:=t.qI) E_bags p8 p9.2 p12
   have sz287:=H.base.size
   refine oc (XL _ (⟨t.qI,(bags.take s.qC.length),bags[s.qC.length]!⟩:qH) (H.get 5 rfl).1 (H.get 0 rfl).1 (H.get 1 rfl).1 qg qg qg qg) ?_
   rintro _ w285 ⟨ra284Alive,rn284Alive,rc284Alive,ra284Bags,rn284Bags,rc284Bags,rx284Bags,rF284Bags,ra284Around,rn284Around,rc284Around,rfl,M,K⟩ _
   replace N:=N.merge sz287 qm M
   replace H:=H.merge K M
   obtain rfl:=H.rowNB 0 rfl
   obtain rfl:=H.xB (α:=yLI) 1 rfl 0 rfl qj
   obtain rfl:=H.yt 2 rfl
   refine ⟨H.pick [4,6,7,8] (zR 3 7),(ro 14 rfl (xY H 3 [Sv ra284Alive (((⟨t.qI,(bags.take s.qC.length),bags[s.qC.length]!⟩:qH).qI).length) rc284Alive,Sv ra284Bags (((⟨t.qI,(bags.take s.qC.length),bags[s.qC.length]!⟩:qH).qP).length) rc284Bags,Sv ra284Around (((⟨t.qI,(bags.take s.qC.length),bags[s.qC.length]!⟩:qH).qN).length) rc284Around] sizeOf43 fun w292 H=>⟨H.pick [4,6,7,8] (zR 3 7),(xA qh (?_))⟩))⟩
   exact meet ⟨_,b282,ra284Alive,rc284Alive,ra284Bags,rc284Bags,ra284Around,rc284Around,rx284Bags,rF284Bags,uE4,N,H.pick [3,0,1,2,4,5,6,7,8] (0::zR 4 5)⟩
  refine Xm (fun ρ w297=>∃ (xQ:Env) (a293:yOA) (G294:yLN) (G295:yLN),ρ=upd (upd (upd (upd (upd (upd xQ 3 (pp b1 0)) 6 (pp b5 0)) 9 (Sv (aa b36 0) s.qC.length s.qC.length)) 77 (Sv xq t.qI.length xn)) 81 (Sv a293 ((bags.take s.qC.length).length) c8)) 85 (pp b240 (0+(s.qC.length:Int).toNat * 1))/\Fresh w.heap.size []/\St w w297 [rr (aa b36 0) s.qC.length s.qC.length 4 1 ((Qs s counts s.qC.length i).map (Value.bool)),rr none 0 0 0 1 [],.box b5 [yN,yN,yN] 43,.box b3 (yT t xq xn xX xM xe qZ) 43,.box b1 (yS s qM qL xg qX) 37] [sF false G294 a293 c8 (bags.take s.qC.length),isF false G295 (Sv (aa b240 0) (t.qP.length+1) c8) bags,xN false F_bags x_bags bags,sF false xF qM qL s.qC,sF false zu xg qX s.qE,sF false zQ xq xn t.qI,sF false vK xX xM t.qP,sF false zo xe qZ t.qN,sF false Fcounts acounts ccounts counts]) 5 #[true,true,true,true,true,true,true,true,true,true,false,false,false,false,false] ?_ fun L296=>?_
  ·rintro ρ w298 ⟨xQ,a293,G294,G295,rfl,N,H⟩
   refine jb [10,13] qh qm (jM rfl ?_ (jM rfl ?_ jd))
   ·have hl299:=H.isLen 1 rfl
    obtain ⟨ae300,ce300,Fe300,H⟩:=H.ji 1 rfl s.qC.length s.qC.length qf qf qf
    refine zK (Sv ae300 ((bags[s.qC.length]!).length) ce300) isAgg27 rfl (H.xW 1 rfl 0 rfl) (⟨H.pick [0,2,3,4] (zR 4 7),(Qo L257 ⟨_,ae300,ce300,a293,G294,Fe300,uE6,N,H.pick (zR 0 5) (2::0::zR 4 7)⟩)⟩)
   refine xH H ti43 [yN,yN,yN] fun b301 w302 H=>⟨H.pick [1,3,4,5] (zR 2 7),(ro 10 rfl ?_)⟩
   have hl303:=H.isLen 1 rfl
   obtain ⟨ae304,ce304,Fe304,H⟩:=H.ji 1 rfl s.qC.length s.qC.length qf qf qf
   refine zK (Sv ae304 ((bags[s.qC.length]!).length) ce304) isAgg27 rfl (H.xW 1 rfl 0 rfl) (⟨H.pick [1,3,4,5] (zR 4 7),(ro 11 rfl (vG [Sv xq t.qI.length xn,Sv a293 ((bags.take s.qC.length).length) c8,Sv ae304 ((bags[s.qC.length]!).length) ce304] [(0,Sv xq t.qI.length xn),(1,Sv a293 ((bags.take s.qC.length).length) c8),(2,Sv ae304 ((bags[s.qC.length]!).length) ce304)] (⟨H.pick [1,3,4,5] (zR 4 7),(ro 12 rfl ?_)⟩)))⟩)
   obtain ⟨cp0,cp1,cp2,cp3⟩:=copy_pre (al:=t.qI) E_bags p8 p9.2 p12
   have sz308:=H.base.size
   refine oc (XL _ (⟨t.qI,(bags.take s.qC.length),bags[s.qC.length]!⟩:qH) (H.get 7 rfl).1 (H.get 2 rfl).1 (H.get 0 rfl).1 qg qg qg qg) ?_
   rintro _ w306 ⟨ra305Alive,rn305Alive,rc305Alive,ra305Bags,rn305Bags,rc305Bags,rx305Bags,rF305Bags,ra305Around,rn305Around,rc305Around,rfl,M,K⟩ _
   replace N:=N.merge sz308 qm M
   replace H:=H.merge K M
   obtain rfl:=H.rowNB 0 rfl
   obtain rfl:=H.xB (α:=yLI) 1 rfl 0 rfl qj
   obtain rfl:=H.yt 2 rfl
   refine ⟨H.pick [4,6,7,8] (zR 5 7),(ro 14 rfl (xY H 3 [Sv ra305Alive (((⟨t.qI,(bags.take s.qC.length),bags[s.qC.length]!⟩:qH).qI).length) rc305Alive,Sv ra305Bags (((⟨t.qI,(bags.take s.qC.length),bags[s.qC.length]!⟩:qH).qP).length) rc305Bags,Sv ra305Around (((⟨t.qI,(bags.take s.qC.length),bags[s.qC.length]!⟩:qH).qN).length) rc305Around] sizeOf43 fun w313 H=>⟨H.pick [4,6,7,8] (zR 5 7),(xA qh (?_))⟩))⟩
   exact meet ⟨_,b301,ra305Alive,rc305Alive,ra305Bags,rc305Bags,ra305Around,rc305Around,rx305Bags,rF305Bags,uE4,N,H.pick [3,0,1,2,4,5,6,7,8] (0::zR 6 5)⟩
  refine Xm (fun ρ w316=>∃ (xQ:Env) (b314:Nat),ρ=upd (upd (upd (upd (upd (upd (upd (upd xQ 3 (pp b1 0)) 6 (pp b5 0)) 9 (Sv (aa b36 0) s.qC.length s.qC.length)) 13 (pp b314 0)) 77 (Sv xq t.qI.length xn)) 78 (Sv (aa b240 0) (t.qP.length+1) c8)) 80 (yI s.qC.length)) 85 (pp b240 (0+(s.qC.length:Int).toNat * 1))/\Fresh w.heap.size []/\St w w316 [.box b314 [yN,yN,yN] 43,rr (aa b36 0) s.qC.length s.qC.length 4 1 ((Qs s counts s.qC.length i).map (Value.bool)),rr (aa b240 0) (t.qP.length+1) c8 27 1 x_bags,.box b5 [yN,yN,yN] 43,.box b3 (yT t xq xn xX xM xe qZ) 43,.box b1 (yS s qM qL xg qX) 37] [xN false F_bags x_bags bags,sF false xF qM qL s.qC,sF false zu xg qX s.qE,sF false zQ xq xn t.qI,sF false vK xX xM t.qP,sF false zo xe qZ t.qN,sF false Fcounts acounts ccounts counts]) 5 #[true,true,true,true,true,false,true,true,true,true,false,false,false,true,false] ?_ fun L315=>?_
  ·rintro ρ w317 ⟨xQ,b314,rfl,N,H⟩
   refine jb [5,10] qh qm (jM rfl ?_ (jM rfl ?_ jd))
   ·obtain ⟨G318,hg320,hn319,H⟩:=H.Qj (α:=yLI) 2 rfl 0 rfl qj
    have hl325:=H.isLen 0 rfl
    refine o_head H 0 rfl s.qC.length underlying41 ti27 rfl rfl qf qf fun a321 G322 hG323 H=>?_
    have hl324:(bags.take s.qC.length).length=s.qC.length:=List.length_take_of_le qf
    refine ⟨H.pick [1,3,4,5] (zR 2 7),(ro 10 rfl ?_)⟩
    have hl326:=H.isLen 1 rfl
    obtain ⟨ae327,ce327,Fe327,H⟩:=H.ji 1 rfl s.qC.length s.qC.length qf qf qf
    refine zK (Sv ae327 ((bags[s.qC.length]!).length) ce327) isAgg27 rfl (H.xW 1 rfl 0 rfl) (⟨H.pick [1,3,4,5] (zR 4 7),(ro 11 rfl (vG [Sv xq t.qI.length xn,Sv a321 ((bags.take s.qC.length).length) c8,Sv ae327 ((bags[s.qC.length]!).length) ce327] [(0,Sv xq t.qI.length xn),(1,Sv a321 ((bags.take s.qC.length).length) c8),(2,Sv ae327 ((bags[s.qC.length]!).length) ce327)] (⟨H.pick [1,3,4,5] (zR 4 7),(ro 12 rfl ?_)⟩)))⟩)
    obtain ⟨cp0,cp1,cp2,cp3⟩:=copy_pre (al:=t.qI) E_bags p8 p9.2 p12
    have sz331:=H.base.size
    refine oc (XL _ (⟨t.qI,(bags.take s.qC.length),bags[s.qC.length]!⟩:qH) (H.get 7 rfl).1 (H.get 2 rfl).1 (H.get 0 rfl).1 qg qg qg qg) ?_
    rintro _ w329 ⟨ra328Alive,rn328Alive,rc328Alive,ra328Bags,rn328Bags,rc328Bags,rx328Bags,rF328Bags,ra328Around,rn328Around,rc328Around,rfl,M,K⟩ _
    replace N:=N.merge sz331 qm M
    replace H:=H.merge K M
    obtain rfl:=H.rowNB 0 rfl
    obtain rfl:=H.xB (α:=yLI) 1 rfl 0 rfl qj
    obtain rfl:=H.yt 2 rfl
    refine ⟨H.pick [4,6,7,8] (zR 5 7),(ro 14 rfl (xY H 3 [Sv ra328Alive (((⟨t.qI,(bags.take s.qC.length),bags[s.qC.length]!⟩:qH).qI).length) rc328Alive,Sv ra328Bags (((⟨t.qI,(bags.take s.qC.length),bags[s.qC.length]!⟩:qH).qP).length) rc328Bags,Sv ra328Around (((⟨t.qI,(bags.take s.qC.length),bags[s.qC.length]!⟩:qH).qN).length) rc328Around] sizeOf43 fun w336 H=>⟨H.pick [4,6,7,8] (zR 5 7),(xA qh (?_))⟩))⟩
    exact meet ⟨_,b314,ra328Alive,rc328Alive,ra328Bags,rc328Bags,ra328Around,rc328Around,rx328Bags,rF328Bags,uE4,N,H.pick [3,0,1,2,4,5,6,7,8] (0::zR 6 5)⟩
   obtain ⟨a337,c338,G339,s340,h341,H⟩:=H.jY 2 rfl 0 rfl (iv:=s.qC.length) s.qC.length qf qf
   refine zK (Sv a337 ((bags[s.qC.length]!).length) c338) isAgg27 rfl (h341) (⟨H.pick [1,3,4,5] (zR 1 7),(ro 5 rfl ?_)⟩)
   obtain ⟨G342,hg344,hn343,H⟩:=H.Qj (α:=yLI) 2 rfl 1 rfl qj
   have hl349:=H.isLen 0 rfl
   refine o_head H 0 rfl s.qC.length underlying41 ti27 rfl rfl qf qf fun a345 G346 hG347 H=>?_
   have hl348:(bags.take s.qC.length).length=s.qC.length:=List.length_take_of_le qf
   refine ⟨H.pick [1,3,4,5] (zR 3 7),(ro 11 rfl (vG [Sv xq t.qI.length xn,Sv a345 ((bags.take s.qC.length).length) c8,Sv a337 ((bags[s.qC.length]!).length) c338] [(0,Sv xq t.qI.length xn),(1,Sv a345 ((bags.take s.qC.length).length) c8),(2,Sv a337 ((bags[s.qC.length]!).length) c338)] (⟨H.pick [1,3,4,5] (zR 3 7),(ro 12 rfl ?_)⟩)))⟩
   obtain ⟨cp0,cp1,cp2,cp3⟩:=copy_pre (al:=t.qI) E_bags p8 p9.2 p12
   have sz353:=H.base.size
   refine oc (XL _ (⟨t.qI,(bags.take s.qC.length),bags[s.qC.length]!⟩:qH) (H.get 6 rfl).1 (H.get 0 rfl).1 (H.get 2 rfl).1 qg qg qg qg) ?_
   rintro _ w351 ⟨ra350Alive,rn350Alive,rc350Alive,ra350Bags,rn350Bags,rc350Bags,rx350Bags,rF350Bags,ra350Around,rn350Around,rc350Around,rfl,M,K⟩ _
   replace N:=N.merge sz353 qm M
   replace H:=H.merge K M
   obtain rfl:=H.rowNB 0 rfl
   obtain rfl:=H.xB (α:=yLI) 1 rfl 0 rfl qj
   obtain rfl:=H.yt 2 rfl
   refine ⟨H.pick [4,6,7,8] (zR 4 7),(ro 14 rfl (xY H 3 [Sv ra350Alive (((⟨t.qI,(bags.take s.qC.length),bags[s.qC.length]!⟩:qH).qI).length) rc350Alive,Sv ra350Bags (((⟨t.qI,(bags.take s.qC.length),bags[s.qC.length]!⟩:qH).qP).length) rc350Bags,Sv ra350Around (((⟨t.qI,(bags.take s.qC.length),bags[s.qC.length]!⟩:qH).qN).length) rc350Around] sizeOf43 fun w358 H=>⟨H.pick [4,6,7,8] (zR 4 7),(xA qh (?_))⟩))⟩
   exact meet ⟨_,b314,ra350Alive,rc350Alive,ra350Bags,rc350Bags,ra350Around,rc350Around,rx350Bags,rF350Bags,uE4,N,H.pick [3,0,1,2,4,5,6,7,8] (0::zR 5 5)⟩
  refine Xm (fun ρ w361=>∃ (xQ:Env) (b359:Nat),ρ=upd (upd (upd (upd (upd (upd (upd (upd (upd xQ 3 (pp b1 0)) 6 (pp b5 0)) 9 (Sv (aa b36 0) s.qC.length s.qC.length)) 13 (pp b359 0)) 77 (Sv xq t.qI.length xn)) 78 (Sv (aa b240 0) (t.qP.length+1) c8)) 80 (yI s.qC.length)) 82 (Sv (aa b240 0) (t.qP.length+1) c8)) 83 (.agg #[yI s.xO,Sv qM s.qC.length qL,Sv xg s.qE.length qX])/\Fresh w.heap.size []/\St w w361 [.box b359 [yN,yN,yN] 43,rr (aa b36 0) s.qC.length s.qC.length 4 1 ((Qs s counts s.qC.length i).map (Value.bool)),rr (aa b240 0) (t.qP.length+1) c8 27 1 x_bags,.box b5 [yN,yN,yN] 43,.box b3 (yT t xq xn xX xM xe qZ) 43,.box b1 (yS s qM qL xg qX) 37] [xN false F_bags x_bags bags,sF false xF qM qL s.qC,sF false zu xg qX s.qE,sF false zQ xq xn t.qI,sF false vK xX xM t.qP,sF false zo xe qZ t.qN,sF false Fcounts acounts ccounts counts]) 7 #[true,true,true,true,true,false,true,true,false,false,false,false,false,true,false] ?_ fun L360=>?_
  ·rintro ρ w362 ⟨xQ,b359,rfl,N,H⟩
   refine jb [5,8] qh qm (jM rfl ?_ (jM rfl ?_ jd))
   ·obtain ⟨G363,hg365,hn364,H⟩:=H.Qj (α:=yLI) 2 rfl 0 rfl qj
    have hl370:=H.isLen 0 rfl
    refine o_head H 0 rfl s.qC.length underlying41 ti27 rfl rfl qf qf fun a366 G367 hG368 H=>?_
    have hl369:(bags.take s.qC.length).length=s.qC.length:=List.length_take_of_le qf
    refine ⟨H.pick [1,3,4,5] (zR 2 7),(ro 8 rfl (oq (around_ok _ s (H.get 3 rfl).1 (H.get 4 rfl).1) H fun w372 H=>⟨H.pick [1,3,4,5] (zR 2 7),?_⟩))⟩
    obtain ⟨ae374,ce374,Fe374,H⟩:=H.ji 1 rfl s.qC.length s.qC.length qf qf qf
    refine tI 9 rfl rfl rfl (H.pick [1,3,4,5] (zR 4 7)) ?_
    refine ro 10 rfl (zK (Sv ae374 ((bags[s.qC.length]!).length) ce374) isAgg27 rfl (H.xW 1 rfl 0 rfl) (⟨H.pick [1,3,4,5] (zR 4 7),(ro 11 rfl (vG [Sv xq t.qI.length xn,Sv a366 ((bags.take s.qC.length).length) c8,Sv ae374 ((bags[s.qC.length]!).length) ce374] [(0,Sv xq t.qI.length xn),(1,Sv a366 ((bags.take s.qC.length).length) c8),(2,Sv ae374 ((bags[s.qC.length]!).length) ce374)] (⟨H.pick [1,3,4,5] (zR 4 7),(ro 12 rfl ?_)⟩)))⟩))
    obtain ⟨cp0,cp1,cp2,cp3⟩:=copy_pre (al:=t.qI) E_bags p8 p9.2 p12
    have sz378:=H.base.size
    refine oc (XL _ (⟨t.qI,(bags.take s.qC.length),bags[s.qC.length]!⟩:qH) (H.get 7 rfl).1 (H.get 2 rfl).1 (H.get 0 rfl).1 qg qg qg qg) ?_
    rintro _ w376 ⟨ra375Alive,rn375Alive,rc375Alive,ra375Bags,rn375Bags,rc375Bags,rx375Bags,rF375Bags,ra375Around,rn375Around,rc375Around,rfl,M,K⟩ _
    replace N:=N.merge sz378 qm M
    replace H:=H.merge K M
    obtain rfl:=H.rowNB 0 rfl
    obtain rfl:=H.xB (α:=yLI) 1 rfl 0 rfl qj
    obtain rfl:=H.yt 2 rfl
    refine ⟨H.pick [4,6,7,8] (zR 5 7),(ro 14 rfl (xY H 3 [Sv ra375Alive (((⟨t.qI,(bags.take s.qC.length),bags[s.qC.length]!⟩:qH).qI).length) rc375Alive,Sv ra375Bags (((⟨t.qI,(bags.take s.qC.length),bags[s.qC.length]!⟩:qH).qP).length) rc375Bags,Sv ra375Around (((⟨t.qI,(bags.take s.qC.length),bags[s.qC.length]!⟩:qH).qN).length) rc375Around] sizeOf43 fun w383 H=>⟨H.pick [4,6,7,8] (zR 5 7),(xA qh (?_))⟩))⟩
    exact meet ⟨_,b359,ra375Alive,rc375Alive,ra375Bags,rc375Bags,ra375Around,rc375Around,rx375Bags,rF375Bags,uE4,N,H.pick [3,0,1,2,4,5,6,7,8] (0::zR 6 5)⟩
   refine oq (around_ok _ s (H.get 1 rfl).1 (H.get 2 rfl).1) H fun w385 H=>⟨H.pick [1,3,4,5] (zR 0 7),(tI 9 rfl rfl rfl (H.pick [1,3,4,5] (zR 0 7)) ?_)⟩
   exact Qo L315 ⟨_,b359,uE8,N,H⟩
  have S:=H.jr [0,2,3,4] (zR 0 7)
  refine tF 0 rfl rfl S ?_
  refine tL 1 rfl rfl (fun _ h=>h.cell 2 rfl rfl) S ?_
  refine rtl 2 S ?_
  refine rt 3 _ (yl (cs:=(yS s qM qL xg qX)) isAgg37 sizeOf37 rfl (fun _ h=>qF (h.cells 3 rfl) 0 3)) S ?_
  refine rtl 6 S ?_
  refine rt 7 _ (yl (cs:=(yS s qM qL xg qX)) isAgg37 sizeOf37 rfl (fun _ h=>qF (h.cells 3 rfl) 0 3)) S ?_
  refine jb [4,13] qh qm (jM rfl ?_ (jM rfl ?_ jd))
  ·refine oq (around_ok _ s (H.get 1 rfl).1 (H.get 2 rfl).1) H fun w388 H=>⟨H.pick [0,2,3,4] (zR 0 7),(jb [5,8,13] qh qm (jM rfl ?_ (jM rfl ?_ (jM rfl ?_ jd))))⟩
   ·obtain ⟨G390,hg392,hn391,H⟩:=H.Qj (α:=yLI) 1 rfl 0 rfl qj
    have hl397:=H.isLen 0 rfl
    refine o_head H 0 rfl s.qC.length underlying41 ti27 rfl rfl qf qf fun a393 G394 hG395 H=>?_
    have hl396:(bags.take s.qC.length).length=s.qC.length:=List.length_take_of_le qf
    refine ⟨H.pick [0,2,3,4] (zR 2 7),(jb [8,13] qh qm (jM rfl ?_ (jM rfl ?_ jd)))⟩
    ·refine oq (around_ok _ s (H.get 3 rfl).1 (H.get 4 rfl).1) H fun w399 H=>⟨H.pick [0,2,3,4] (zR 2 7),?_⟩
     obtain ⟨ae401,ce401,Fe401,H⟩:=H.ji 1 rfl s.qC.length s.qC.length qf qf qf
     refine tI 9 rfl rfl rfl (H.pick [0,2,3,4] (zR 4 7)) ?_
     exact Qo L296 ⟨_,a393,G394,G390,uE6,N,H.pick (zR 0 5) (zR 2 9)⟩
    refine xH H ti43 [yN,yN,yN] fun b402 w403 H=>⟨H.pick [1,3,4,5] (zR 2 7),(ro 8 rfl (oq (around_ok _ s (H.get 3 rfl).1 (H.get 4 rfl).1) H fun w405 H=>⟨H.pick [1,3,4,5] (zR 2 7),?_⟩))⟩
    obtain ⟨ae407,ce407,Fe407,H⟩:=H.ji 1 rfl s.qC.length s.qC.length qf qf qf
    refine tI 9 rfl rfl rfl (H.pick [1,3,4,5] (zR 4 7)) ?_
    refine ro 10 rfl (zK (Sv ae407 ((bags[s.qC.length]!).length) ce407) isAgg27 rfl (H.xW 1 rfl 0 rfl) (⟨H.pick [1,3,4,5] (zR 4 7),(ro 11 rfl (vG [Sv xq t.qI.length xn,Sv a393 ((bags.take s.qC.length).length) c8,Sv ae407 ((bags[s.qC.length]!).length) ce407] [(0,Sv xq t.qI.length xn),(1,Sv a393 ((bags.take s.qC.length).length) c8),(2,Sv ae407 ((bags[s.qC.length]!).length) ce407)] (⟨H.pick [1,3,4,5] (zR 4 7),(ro 12 rfl ?_)⟩)))⟩))
    obtain ⟨cp0,cp1,cp2,cp3⟩:=copy_pre (al:=t.qI) E_bags p8 p9.2 p12
    have sz411:=H.base.size
    refine oc (XL _ (⟨t.qI,(bags.take s.qC.length),bags[s.qC.length]!⟩:qH) (H.get 7 rfl).1 (H.get 2 rfl).1 (H.get 0 rfl).1 qg qg qg qg) ?_
    rintro _ w409 ⟨ra408Alive,rn408Alive,rc408Alive,ra408Bags,rn408Bags,rc408Bags,rx408Bags,rF408Bags,ra408Around,rn408Around,rc408Around,rfl,M,K⟩ _
    replace N:=N.merge sz411 qm M
    replace H:=H.merge K M
    obtain rfl:=H.rowNB 0 rfl
    obtain rfl:=H.xB (α:=yLI) 1 rfl 0 rfl qj
    obtain rfl:=H.yt 2 rfl
    refine ⟨H.pick [4,6,7,8] (zR 5 7),(ro 14 rfl (xY H 3 [Sv ra408Alive (((⟨t.qI,(bags.take s.qC.length),bags[s.qC.length]!⟩:qH).qI).length) rc408Alive,Sv ra408Bags (((⟨t.qI,(bags.take s.qC.length),bags[s.qC.length]!⟩:qH).qP).length) rc408Bags,Sv ra408Around (((⟨t.qI,(bags.take s.qC.length),bags[s.qC.length]!⟩:qH).qN).length) rc408Around] sizeOf43 fun w416 H=>⟨H.pick [4,6,7,8] (zR 5 7),(xA qh (?_))⟩))⟩
    exact meet ⟨_,b402,ra408Alive,rc408Alive,ra408Bags,rc408Bags,ra408Around,rc408Around,rx408Bags,rF408Bags,uE4,N,H.pick [3,0,1,2,4,5,6,7,8] (0::zR 6 5)⟩
   ·refine oq (around_ok _ s (H.get 1 rfl).1 (H.get 2 rfl).1) H fun w418 H=>⟨H.pick [0,2,3,4] (zR 0 7),(tI 9 rfl rfl rfl (H.pick [0,2,3,4] (zR 0 7)) ?_)⟩
    refine jb [5,10,13] qh qm (jM rfl ?_ (jM rfl ?_ (jM rfl ?_ jd)))
    ·obtain ⟨G420,hg422,hn421,H⟩:=H.Qj (α:=yLI) 1 rfl 0 rfl qj
     have hl427:=H.isLen 0 rfl
     refine o_head H 0 rfl s.qC.length underlying41 ti27 rfl rfl qf qf fun a423 G424 hG425 H=>?_
     have hl426:(bags.take s.qC.length).length=s.qC.length:=List.length_take_of_le qf
     refine ⟨H.pick [0,2,3,4] (zR 2 7),(Qo L296 ⟨_,a423,G424,G420,uE6,N,H⟩)⟩
    ·obtain ⟨a428,c429,G430,s431,h432,H⟩:=H.jY 1 rfl 0 rfl (iv:=s.qC.length) s.qC.length qf qf
     refine zK (Sv a428 ((bags[s.qC.length]!).length) c429) isAgg27 rfl (h432) (⟨H.pick [0,2,3,4] (zR 1 7),(jb [5,13] qh qm (jM rfl ?_ (jM rfl ?_ jd)))⟩)
     ·obtain ⟨G433,hg435,hn434,H⟩:=H.Qj (α:=yLI) 1 rfl 1 rfl qj
      have hl440:=H.isLen 0 rfl
      refine o_head H 0 rfl s.qC.length underlying41 ti27 rfl rfl qf qf fun a436 G437 hG438 H=>?_
      have hl439:(bags.take s.qC.length).length=s.qC.length:=List.length_take_of_le qf
      refine ⟨H.pick [0,2,3,4] (zR 3 7),(Qo L257 ⟨_,a428,c429,a436,G437,G430,uE6,N,H.pick (zR 0 5) (0::zR 2 8)⟩)⟩
     refine xH H ti43 [yN,yN,yN] fun b441 w442 H=>⟨H.pick [1,3,4,5] (zR 1 7),(ro 5 rfl ?_)⟩
     obtain ⟨G443,hg445,hn444,H⟩:=H.Qj (α:=yLI) 2 rfl 1 rfl qj
     have hl450:=H.isLen 0 rfl
     refine o_head H 0 rfl s.qC.length underlying41 ti27 rfl rfl qf qf fun a446 G447 hG448 H=>?_
     have hl449:(bags.take s.qC.length).length=s.qC.length:=List.length_take_of_le qf
     refine ⟨H.pick [1,3,4,5] (zR 3 7),(ro 11 rfl (vG [Sv xq t.qI.length xn,Sv a446 ((bags.take s.qC.length).length) c8,Sv a428 ((bags[s.qC.length]!).length) c429] [(0,Sv xq t.qI.length xn),(1,Sv a446 ((bags.take s.qC.length).length) c8),(2,Sv a428 ((bags[s.qC.length]!).length) c429)] (⟨H.pick [1,3,4,5] (zR 3 7),(ro 12 rfl ?_)⟩)))⟩
     obtain ⟨cp0,cp1,cp2,cp3⟩:=copy_pre (al:=t.qI) E_bags p8 p9.2 p12
     have sz454:=H.base.size
     refine oc (XL _ (⟨t.qI,(bags.take s.qC.length),bags[s.qC.length]!⟩:qH) (H.get 6 rfl).1 (H.get 0 rfl).1 (H.get 2 rfl).1 qg qg qg qg) ?_
     rintro _ w452 ⟨ra451Alive,rn451Alive,rc451Alive,ra451Bags,rn451Bags,rc451Bags,rx451Bags,rF451Bags,ra451Around,rn451Around,rc451Around,rfl,M,K⟩ _
     replace N:=N.merge sz454 qm M
     replace H:=H.merge K M
     obtain rfl:=H.rowNB 0 rfl
     obtain rfl:=H.xB (α:=yLI) 1 rfl 0 rfl qj
     obtain rfl:=H.yt 2 rfl
     refine ⟨H.pick [4,6,7,8] (zR 4 7),(ro 14 rfl (xY H 3 [Sv ra451Alive (((⟨t.qI,(bags.take s.qC.length),bags[s.qC.length]!⟩:qH).qI).length) rc451Alive,Sv ra451Bags (((⟨t.qI,(bags.take s.qC.length),bags[s.qC.length]!⟩:qH).qP).length) rc451Bags,Sv ra451Around (((⟨t.qI,(bags.take s.qC.length),bags[s.qC.length]!⟩:qH).qN).length) rc451Around] sizeOf43 fun w459 H=>⟨H.pick [4,6,7,8] (zR 4 7),(xA qh (?_))⟩))⟩
     exact meet ⟨_,b441,ra451Alive,rc451Alive,ra451Bags,rc451Bags,ra451Around,rc451Around,rx451Bags,rF451Bags,uE4,N,H.pick [3,0,1,2,4,5,6,7,8] (0::zR 5 5)⟩
    refine xH H ti43 [yN,yN,yN] fun b460 w461 H=>⟨H.pick [1,3,4,5] (zR 0 7),(Qo L315 ⟨_,b460,uE8,N,H⟩)⟩
   refine xH H ti43 [yN,yN,yN] fun b462 w463 H=>⟨H.pick [1,3,4,5] (zR 0 7),(Qo L360 ⟨_,b462,uE9,N,H⟩)⟩
  refine xH H ti43 [yN,yN,yN] fun b464 w465 H=>⟨H.pick [1,3,4,5] (zR 0 7),(ro 4 rfl (oq (around_ok _ s (H.get 1 rfl).1 (H.get 2 rfl).1) H fun w467 H=>⟨H.pick [1,3,4,5] (zR 0 7),(Qo L360 ⟨_,b464,uE9,N,H⟩)⟩))⟩
 clear H N
 rintro ρ w469 ⟨xQ,b241,ra242,rc243,ra244,rc245,ra246,rc247,rx248,rF249,rfl,N,H⟩
 refine t_n (zcc (sq 1 (oN rfl (sw (o_sub s.qC.length 1 rfl rfl qf (sq 1 (zjn (qV ?_))))))))
 obtain rfl:i=s.qE.length:=by omega
 have hl:=stepped_live p1 E_bags qf
 obtain ⟨s1,s2⟩:=step_tab E_bags
 rw [show (⟨t.qI,(bags.take s.qC.length),bags[s.qC.length]!⟩:qH)=xI s t counts from by rw [show bags.take s.qC.length=_ from s1,show bags[s.qC.length]! =_ from s2];rfl] at H
 refine zA ((fun Z0 Z1 Z2 Z3 Z4 Z5 Z6 Z7 Z8 Z9 Z10=>fun m' ρ w470=>∃ (xQ:Env) (c:Int) (out_Alive:List Bool) (out_Bags:yLL) (vM:List Value) (zy:yLN) (j:Nat),ρ=upd (upd (upd (upd (upd xQ 3 (pp b1 0)) 6 (pp b5 0)) 9 (Sv (aa b36 0) s.qC.length s.qC.length)) 13 (pp b241 0)) 14 (yI c)/\out_Alive=(xC s counts (xI s t counts) j).qI/\out_Bags=(xC s counts (xI s t counts) j).qP/\(c=(s.qC.length:Int) - 1 - j)/\(j+1<=s.qC.length)/\m' =(c:Int).toNat/\Fresh w.heap.size [zy]/\St w w470 [Z0,rr ra242 (((xI s t counts).qI).length) rc243 4 1 (out_Alive.map (Value.bool)),rr ra244 (((xI s t counts).qP).length) rc245 27 1 vM,Z1,Z2,Z3,Z4,Z5] [xN true zy vM out_Bags,Z6,Z7,Z8,Z9,Z10]) _ _ _ _ _ _ _ _ _ _ _) (((s.qC.length - 1):Int).toNat) ⟨_,s.qC.length - 1,(xI s t counts).qI,(xI s t counts).qP,rx248,rF249,0,uE5,(by rfl),(by rfl),qf,qf,rfl,N,H.pick [0,1,2,3,4,6,7,8] (zR 0 6)⟩ ?_
 clear H N
 rintro m' ρ w471 ⟨xQ,c,out_Alive,out_Bags,vM,zy,j,rfl,rfl,rfl,ic,jc,rfl,N,H⟩
 have hn_out_Alive:=H.rowNB 1 rfl
 have XV:=H.xB (α:=yLI) 2 rfl 0 rfl qj
 have L:=meltDown_live (counts:=counts) p0 hl j qf
 have L1:=L.alive
 have L2:=L.root
 have L3:=L.bags.1
 rw [← Qi s counts (xI s t counts) j] at H
 refine zcc (sp (yI c) (sp (Bv (decide ((c:Int) > 0))) (zjn (cD rfl (fun h472=>?_) (fun h472=>?_)))))
 ·refine qU (t_n (xU (qV (zcr (sq 1 (sp (yI c) (oI rfl rfl (oL rfl (H.rowBool 4 rfl (iv:=c) (i:=c.toNat) qf qf) (zjn (zT _ rfl (fun h473=>?_) (fun h473=>?_)))))))))))
  ·refine xK (sw (x8 (yS s qM qL xg qX) isAgg37 sizeOf37 rfl (qF (H.cells 7 rfl) 0 3) (sp (yI c) (sw (zN #[.agg #[yI s.xO,Sv qM s.qC.length qL,Sv xg s.qE.length qX],pp b241 0,yI c] rfl rfl call136 (en func136 ntmps136 ?_))))))
   refine zcr (sw (zY H (yS s qM qL xg qX) fun b474 w475 H=>zjn (xU ?_)))
   refine jw rfl H fun H=>rt 0 _ (yl (cs:=(yS s qM qL xg qX)) isAgg37 sizeOf37 rfl (fun _ h=>qF (h.cells 0 rfl) 0 3)) H ?_
   refine rtl 1 H ?_
   refine rtl 2 H ?_
   refine rt 3 _ (yl (cs:=[Sv ra242 (((xI s t counts).qI).length) rc243,Sv ra244 (((xI s t counts).qP).length) rc245,Sv ra246 (((xC s counts (xI s t counts) j).qN).length) rc247]) isAgg43 sizeOf43 rfl (fun _ h=>qF (h.cells 1 rfl) 0 3)) H ?_
   refine rtp 4 (yI c) H ?_
   refine ro 5 rfl ?_
   obtain ⟨G477,hn478,h479⟩:=H.rowIsB 2 rfl
   obtain ⟨G480,hn481,h482⟩:=H.XE (α:=yLI) 3 rfl 0 rfl qj
   obtain ⟨G483,hn484,h485⟩:=H.QV 4 rfl
   refine oq (jo (by rw [← hn478,← hn481]) (parentNow_ok _ s (xC s counts (xI s t counts) j) c (H.get 1 rfl).1 (H.get 2 rfl).1 (hn478▸h479) (hn481▸h482) h485 qg qg qg)) H fun w487 H=>?_
   have pin:=X3 (s:=s) (t:=(xC s counts (xI s t counts) j)) (c:=c) p0.1 L2 qf qf
   refine ⟨H,(rtl 6 H ?_)⟩
   refine xA qh (t_n (xU ?_))
   obtain ⟨b489,rfl⟩:=H.y5 3 rfl qf
   refine c_cut (fun ρ w492=>∃ (xQ:Env) (xs490:List Value) (F491:yLN),ρ=upd (upd (upd xQ 1 (pp b241 0)) 2 (yI c)) 3 (pp b474 0)/\Fresh w.heap.size [F491]/\St w w492 [.box b474 (yS s qM qL xg qX) 37,.box b241 [Sv ra242 (((xI s t counts).qI).length) rc243,Sv (aa b489 0) (((xI s t counts).qP).length) rc245,Sv ra246 (((xC s counts (xI s t counts) j).qN).length) rc247] 43,rr ra242 (((xI s t counts).qI).length) rc243 4 1 (((xC s counts (xI s t counts) j).qI).map (Value.bool)),rr (aa b489 0) (((xI s t counts).qP).length) rc245 27 1 xs490,rr ra246 (((xC s counts (xI s t counts) j).qN).length) rc247 2 1 (((xC s counts (xI s t counts) j).qN).map (Value.int .i64)),rr (aa b36 0) s.qC.length s.qC.length 4 1 ((Qs s counts s.qC.length s.qE.length).map (Value.bool)),.box b5 [yN,yN,yN] 43,.box b3 (yT t xq xn xX xM xe qZ) 43,.box b1 (yS s qM qL xg qX) 37] [xN true F491 xs490 (((xC s counts (xI s t counts) j).qP).set ((xZ s (xC s counts (xI s t counts) j) c).toNat) (jP (((xC s counts (xI s t counts) j).qP)[(xZ s (xC s counts (xI s t counts) j) c).toNat]!) (((xC s counts (xI s t counts) j).qP)[c.toNat]!) 1)),sF false xF qM qL s.qC,sF false zu xg qX s.qE,sF false zQ xq xn t.qI,sF false vK xX xM t.qP,sF false zo xe qZ t.qN]) ?_ ?_
   ·refine Qb rfl H [0,1,2,4,5,6,7,8] fun H=>?_
    have S:=H.jr [0,1,2,4,5,6,7,8] (zR 0 6)
    refine rtl 0 S ?_
    refine rtl 1 S ?_
    refine tF 2 rfl rfl S ?_
    refine tL 3 rfl rfl (fun _ h=>h.cell 1 rfl rfl) S ?_
    refine rtl 4 S ?_
    refine rtl 5 S ?_
    refine rtl 6 S ?_
    refine tF 7 rfl rfl S ?_
    refine tL 8 rfl rfl (fun _ h=>h.cell 1 rfl rfl) S ?_
    refine rtl 9 S ?_
    refine tI 10 rfl rfl rfl S ?_
    refine rtl 12 S ?_
    refine rtl 13 S ?_
    refine tF 14 rfl rfl S ?_
    refine tL 15 rfl rfl (fun _ h=>h.cell 1 rfl rfl) S ?_
    refine rtp 16 (yI c) S ?_
    refine tI 17 rfl rfl rfl S ?_
    refine jb [11,18] qh qm (jM rfl ?_ (jM rfl ?_ jd))
    ·obtain ⟨a494,c495,G496,s497,h498,H⟩:=H.jY 3 rfl 0 rfl (iv:=xZ s (xC s counts (xI s t counts) j) c) ((xZ s (xC s counts (xI s t counts) j) c).toNat) qf qf
     refine zK (Sv a494 ((((xC s counts (xI s t counts) j).qP)[(xZ s (xC s counts (xI s t counts) j) c).toNat]!).length) c495) isAgg27 rfl (h498) (⟨H.pick [0,1,2,4,5,6,7,8] (zR 1 6),(ro 18 rfl ?_)⟩)
     obtain ⟨a499,c500,G501,s502,h503,H⟩:=H.jY 3 rfl 1 rfl (iv:=c) c.toNat qf qf
     refine zK (Sv a499 ((((xC s counts (xI s t counts) j).qP)[c.toNat]!).length) c500) isAgg27 rfl (h503) (⟨H.pick [0,1,2,4,5,6,7,8] (zR 2 6),(ro 19 rfl ?_)⟩)
     obtain ⟨u1,u2,u4⟩:=L.rows p0 (bnd_le qf) (p:=(xZ s (xC s counts (xI s t counts) j) c).toNat) (c:=c.toNat) qf qf
     have sz504:=H.base.size
     have lt505:=H.ltN (L:=[zy]) [2]
     refine oc (plus_ok _ (((xC s counts (xI s t counts) j).qP)[(xZ s (xC s counts (xI s t counts) j) c).toNat]!) (((xC s counts (xI s t counts) j).qP)[c.toNat]!) 1 (H.get 1 rfl).1 (H.get 0 rfl).1 qg qg qg) ?_
     rintro v509 w507 r509 x508
     replace H:=H.zt x508 r509
     obtain ⟨a510,c511,rfl,hc512,hm513⟩:=H.jm 0 rfl
     refine ⟨H.pick [1,2,3,5,6,7,8,9] (zR 2 6),(tI 20 rfl rfl rfl (H.pick [1,2,3,5,6,7,8,9] (zR 2 6)) ?_)⟩
     refine ro 21 rfl ?_
     obtain ⟨G515,N,hn516,H⟩:=H.zh 0 rfl N (H.vz [2])
     refine jK true H 4 rfl 3 rfl (Sv a510 ((jP (((xC s counts (xI s t counts) j).qP)[(xZ s (xC s counts (xI s t counts) j) c).toNat]!) (((xC s counts (xI s t counts) j).qP)[c.toNat]!) 1).length) c511) 0 rfl rfl sizeOf27 rfl rfl (i:=((xZ s (xC s counts (xI s t counts) j) c).toNat)) qf qf qm fun w514 xs517 F518 hs519 H=>?_
     replace N:Fresh w.heap.size [F518]:=(N.pick [1,0]).repl hs519
     refine ⟨H.pick [1,2,3,5,6,7,8,9] (zR 4 6),(xA qh ((meet ⟨_,xs517,F518,uE3,N,H.pick (zR 1 9) (0::zR 5 5)⟩)))⟩
    obtain ⟨a520,c521,G522,s523,h524,H⟩:=H.jY 3 rfl 0 rfl (iv:=c) c.toNat qf qf
    refine zK (Sv a520 ((((xC s counts (xI s t counts) j).qP)[c.toNat]!).length) c521) isAgg27 rfl (h524) (⟨H.pick [0,1,2,4,5,6,7,8] (zR 1 6),(ro 11 rfl ?_)⟩)
    obtain ⟨a525,c526,G527,s528,h529,H⟩:=H.jY 3 rfl 1 rfl (iv:=xZ s (xC s counts (xI s t counts) j) c) ((xZ s (xC s counts (xI s t counts) j) c).toNat) qf qf
    refine zK (Sv a525 ((((xC s counts (xI s t counts) j).qP)[(xZ s (xC s counts (xI s t counts) j) c).toNat]!).length) c526) isAgg27 rfl (h529) (⟨H.pick [0,1,2,4,5,6,7,8] (zR 2 6),(ro 19 rfl ?_)⟩)
    obtain ⟨u1,u2,u4⟩:=L.rows p0 (bnd_le qf) (p:=(xZ s (xC s counts (xI s t counts) j) c).toNat) (c:=c.toNat) qf qf
    have sz530:=H.base.size
    have lt531:=H.ltN (L:=[zy]) [2]
    refine oc (plus_ok _ (((xC s counts (xI s t counts) j).qP)[(xZ s (xC s counts (xI s t counts) j) c).toNat]!) (((xC s counts (xI s t counts) j).qP)[c.toNat]!) 1 (H.get 0 rfl).1 (H.get 1 rfl).1 qg qg qg) ?_
    rintro v535 w533 r535 x534
    replace H:=H.zt x534 r535
    obtain ⟨a536,c537,rfl,hc538,hm539⟩:=H.jm 0 rfl
    refine ⟨H.pick [1,2,3,5,6,7,8,9] (zR 2 6),(tI 20 rfl rfl rfl (H.pick [1,2,3,5,6,7,8,9] (zR 2 6)) ?_)⟩
    refine ro 21 rfl ?_
    obtain ⟨G541,N,hn542,H⟩:=H.zh 0 rfl N (H.vz [2])
    refine jK true H 4 rfl 3 rfl (Sv a536 ((jP (((xC s counts (xI s t counts) j).qP)[(xZ s (xC s counts (xI s t counts) j) c).toNat]!) (((xC s counts (xI s t counts) j).qP)[c.toNat]!) 1).length) c537) 0 rfl rfl sizeOf27 rfl rfl (i:=((xZ s (xC s counts (xI s t counts) j) c).toNat)) qf qf qm fun w540 xs543 F544 hs545 H=>?_
    replace N:Fresh w.heap.size [F544]:=(N.pick [1,0]).repl hs545
    refine ⟨H.pick [1,2,3,5,6,7,8,9] (zR 4 6),(xA qh ((meet ⟨_,xs543,F544,uE3,N,H.pick (zR 1 9) (0::zR 5 5)⟩)))⟩
   clear H N
   rintro ρ w546 ⟨xQ,xs490,F491,rfl,N,H⟩
   refine t_n (xU ?_)
   refine Qb rfl H [0,1,2,4,5,6,7,8] fun H=>?_
   have S:=H.jr [0,1,2,4,5,6,7,8] (zR 0 6)
   refine rtl 0 S ?_
   refine rtl 1 S ?_
   refine tF 2 rfl rfl S ?_
   refine tL 3 rfl rfl (fun _ h=>h.cell 1 rfl rfl) S ?_
   refine rtp 4 (yI c) S ?_
   refine tF 5 rfl rfl S ?_
   refine tL 6 rfl rfl (fun _ h=>h.cell 0 rfl rfl) S ?_
   refine ro 7 rfl (Qr H underlying27 ti2 s.xO.toNat rfl rfl qf qf qf fun b548 w549 H=>⟨H.pick [1,2,3,5,6,7,8,9] (zR 0 6),(tI 8 rfl rfl rfl (H.pick [1,2,3,5,6,7,8,9] (zR 0 6)) ?_)⟩)
   refine ro 9 rfl ?_
   obtain ⟨G551,N,hn552,H⟩:=H.zh 0 rfl N (H.vz [0])
   refine jK true H 4 rfl 1 rfl (Sv (aa b548 0) s.xO.toNat s.xO.toNat) 0 rfl rfl sizeOf27 rfl rfl (i:=c.toNat) qf qf qm fun w550 xs553 F554 hs555 H=>?_
   replace N:Fresh w.heap.size [F554]:=(N.pick [1,0]).repl hs555
   refine ⟨H.pick [1,2,3,5,6,7,8,9] (zR 2 6),(xA qh (t_n (xK (sq 2 (oF rfl (oL rfl (H.cell 2 rfl rfl) (sp (yI c) ?_)))))))⟩
   obtain ⟨b556,rfl⟩:=H.y5 3 rfl qf
   refine oI rfl rfl (sw (QG H 3 rfl false sizeOf4 rfl rfl (i:=c.toNat) qf qf fun w557 H=>xP (ret0 rfl ⟨_,rfl,?_⟩)))
   replace H:=H.erases [1,0]
   dsimp only [zU,List.eraseIdx] at H
   refine xP (b_n (t_n (xK (sp (yI c) (sw (o_sub c 1 rfl rfl qf (sq 1 (xP ?_))))))))
   rw [Qi] at H
   refine qW (m' :=((c - 1):Int).toNat) qf ⟨_,_,_,_,_,_,j+1,uE5,?_,?_,?_,?_,rfl,N,H.pick (zR 0 8) (0::zR 3 5)⟩
   ·first | (rw [meltDown_yesL (c:=c) ‹_› qf qf rfl ic];rfl) | rw [meltDown_noL (c:=c) ‹_› qf qf rfl ic]
   ·first | (rw [meltDown_yesL (c:=c) ‹_› qf qf rfl ic];rfl) | rw [meltDown_noL (c:=c) ‹_› qf qf rfl ic]
   ·omega
   ·omega
  refine qU (b_n (t_n (xK (sp (yI c) (sw (o_sub c 1 rfl rfl qf (sq 1 (xP ?_))))))))
  rw [Qi] at H
  refine qW (m' :=((c - 1):Int).toNat) qf ⟨_,_,_,_,_,_,j+1,uE5,?_,?_,?_,?_,rfl,N,H⟩
  ·first | (rw [meltDown_yesL (c:=c) ‹_› qf qf rfl ic];rfl) | rw [meltDown_noL (c:=c) ‹_› qf qf rfl ic]
  ·first | (rw [meltDown_yesL (c:=c) ‹_› qf qf rfl ic];rfl) | rw [meltDown_noL (c:=c) ‹_› qf qf rfl ic]
  ·omega
  ·omega
 refine zx4 (zcr (sw (x8 (yS s qM qL xg qX) isAgg37 sizeOf37 rfl (qF (H.cells 7 rfl) 0 3) (sw (x8 [Sv ra242 (((xI s t counts).qI).length) rc243,Sv ra244 (((xI s t counts).qP).length) rc245,Sv ra246 (((xC s counts (xI s t counts) j).qN).length) rc247] isAgg43 sizeOf43 rfl (qF (H.cells 0 rfl) 0 3) ?_)))))
 refine sw (zN #[.agg #[yI s.xO,Sv qM s.qC.length qL,Sv xg s.qE.length qX],.agg #[Sv ra242 (((xI s t counts).qI).length) rc243,Sv ra244 (((xI s t counts).qP).length) rc245,Sv ra246 (((xC s counts (xI s t counts) j).qN).length) rc247]] rfl rfl call137 (en func137 ntmps137 ?_))
 refine zcr (sw (zY H (yS s qM qL xg qX) fun b558 w559 H=>sw (zY H [Sv ra242 (((xI s t counts).qI).length) rc243,Sv ra244 (((xI s t counts).qP).length) rc245,Sv ra246 (((xC s counts (xI s t counts) j).qN).length) rc247] fun b560 w561 H=>sw (xH H ti43 [yN,yN,yN] fun b562 w563 H=>sp (yI 0) (zjcc ?_)))))
 refine sw (x8 (yS s qM qL xg qX) isAgg37 sizeOf37 rfl (qF (H.cells 2 rfl) 0 3) (sw (x8 [Sv ra242 (((xI s t counts).qI).length) rc243,Sv ra244 (((xI s t counts).qP).length) rc245,Sv ra246 (((xC s counts (xI s t counts) j).qN).length) rc247] isAgg43 sizeOf43 rfl (qF (H.cells 1 rfl) 0 3) ?_)))
 obtain ⟨G564,hn565,h566⟩:=H.rowIsB 4 rfl
 obtain ⟨G567,hn568,h569⟩:=H.XE (α:=yLI) 5 rfl 0 rfl qj
 obtain ⟨G570,hn571,h572⟩:=H.QV 6 rfl
 refine sw (oq (jo (by rw [← hn565,← hn568]) (validState_ok _ s (xC s counts (xI s t counts) j) (H.get 1 rfl).1 (H.get 2 rfl).1 (hn565▸h566) (hn568▸h569) h572)) H fun w574 H=>sq 1 (zjn (cQ rfl (fun h576=>?_) (fun h576=>?_))))
 ·refine zcr (sw (vG [yN,yN,yN] [] (sw (xY H 0 [yN,yN,yN] sizeOf43 fun w577 H=>sp (yI 3) (zjr (t_r (retC2 H 0 rfl (yI 3) rfl isAgg43 sizeOf43 rfl rfl ⟨_,rfl,?_⟩)))))))
  replace H:=H.erases [2,1,0]
  dsimp only [zU,List.eraseIdx] at H
  refine sq 1 (sp (yI 3) (sw (xY H 5 [yN,yN,yN] sizeOf43 fun w578 H=>sp (yI 3) (zjr ?_))))
  replace H:=H.nilRowB 4
  replace H:=H.nilRow 27 1
  replace H:=H.vV (α:=yLI)
  replace H:=H.nilRowI 2
  refine retC2 H 8 rfl (yI 3) rfl isAgg43 sizeOf43 rfl rfl ⟨_,rfl,?_,H.base⟩
  rw [stepBy_yes p3,stepRes,show jC s - 1=j by omega,told_no (fun h=>‹¬ (yj s/\_)› ⟨p0,h⟩)]
  exact ⟨none,0,0,none,0,0,[],[],none,0,0,rfl,(N.emp.pick [0]),H.pick [2,1,0] [0]⟩
 refine qU (t_n (zcr (sw (x8 [Sv ra242 (((xI s t counts).qI).length) rc243,Sv ra244 (((xI s t counts).qP).length) rc245,Sv ra246 (((xC s counts (xI s t counts) j).qN).length) rc247] isAgg43 sizeOf43 rfl (qF (H.cells 1 rfl) 0 3) (sw (xY H 0 [Sv ra242 (((xI s t counts).qI).length) rc243,Sv ra244 (((xI s t counts).qP).length) rc245,Sv ra246 (((xC s counts (xI s t counts) j).qN).length) rc247] sizeOf43 fun w579 H=>sp (yI 0) (zjr (retC2 H 0 rfl (yI 0) rfl isAgg43 sizeOf43 rfl rfl ⟨_,rfl,?_⟩))))))))
 replace H:=H.erases [2,1,0]
 dsimp only [zU,List.eraseIdx] at H
 refine sq 1 (sp (yI 0) (sw (xY H 5 [Sv ra242 (((xI s t counts).qI).length) rc243,Sv ra244 (((xI s t counts).qP).length) rc245,Sv ra246 (((xC s counts (xI s t counts) j).qN).length) rc247] sizeOf43 fun w580 H=>sp (yI 0) (zjr (retC2 H 5 rfl (yI 0) rfl isAgg43 sizeOf43 rfl rfl ⟨_,rfl,?_,H.base⟩)))))
 rw [stepBy_yes p3,stepRes,show jC s - 1=j by omega,told_yes (‹yj s/\_›:yj s/\_).2]
 exact ⟨ra242,((xI s t counts).qI).length,rc243,ra244,((xI s t counts).qP).length,rc245,vM,zy,ra246,((xC s counts (xI s t counts) j).qN).length,rc247,rfl,N,H.pick [1,2,3] [0]⟩
end
section
theorem St.rowel_StateD {W0 w:World} {ps:List Prv} {Γ:List Fact} (H:St W0 w ps Γ) (k:Nat) {e:TypeId} {nn:Nat} (hp:ps[k]? =some (.row (Sv (some ⟨b,0,none⟩) nn c) e 3 nn xs)) (j:Nat) {fr:Bool}
 (hf:Γ[j]? =some (xN fr F xs l)) {iv:Int} (i:Nat) (h:iv.toNat=i) (h1:i < nn):
 ∃ (aA:yOA) (cA:Nat) (FA:yLN) (aB:yOA) (cB:Nat) (FB:yLN) (aO:yOA) (cO:Nat) (FO:yLN),
  (∀ (q:Nat) (v:Value),([Sv aA ((l[i]!).qI.length) cA,Sv aB ((l[i]!).qP.length) cB,Sv aO ((l[i]!).qN.length) cO]:List Value)[q]? =some v->xs[0+iv.toNat * 3+q]? =some v)∧
  St W0 w ps (isF fr FA (Sv aA ((l[i]!).qI.length) cA) ((l[i]!).qI)::isF fr FB (Sv aB ((l[i]!).qP.length) cB) ((l[i]!).qP)::isF fr FO (Sv aO ((l[i]!).qN.length) cO) ((l[i]!).qN)::Γ):=by
 obtain ⟨cs,G,hc,hr,hsub,hfr,v1,v2,hv,hv1⟩:=St.rowElem (α:=qH) H k hp j hf qj h h1
 obtain ⟨vA,vB,vO,FA,FB,FO,rfl,hFF,hA,hB,hO⟩:=id hr
 obtain ⟨aA,cA,rfl⟩:=slice_form hA
 obtain ⟨aB,cB,rfl⟩:=slice_form hB
 obtain ⟨aO,cO,rfl⟩:=slice_form hO
 refine ⟨aA,cA,FA,aB,cB,FB,aO,cO,FO,fun q v hq=>?_,?_⟩
 ·have hv1:v1.length=i * 3:=hv1
  have hlt:q < 3:=by
   rcases Nat.lt_or_ge q 3 with h | h
   ·exact h
   ·rw [List.getElem?_eq_none (by simpa using h)] at hq;cases hq
  rw [hv,List.append_assoc,Nat.zero_add,h,← hv1,List.getElem?_append_right qf,Nat.add_sub_cancel_left,List.getElem?_append_left (by simpa using hlt)]
  exact hq
 ·have s3:=H.jy j hf (isF fr FO (Sv aO ((l[i]!).qN.length) cO) ((l[i]!).qN)) ⟨hO,fun e=>(hfr e).sub (by rw [hFF];intro x hx;simp [hx])⟩ (fun x hx=>hsub x (by rw [hFF];have hx:x∈FO:=hx;simp [hx]))
  have s2:=s3.jy (j+1) hf (isF fr FB (Sv aB ((l[i]!).qP.length) cB) ((l[i]!).qP)) ⟨hB,fun e=>(hfr e).sub (by rw [hFF];intro x hx;simp [hx])⟩ (fun x hx=>hsub x (by rw [hFF];have hx:x∈FB:=hx;simp [hx]))
  exact s2.jy (j+2) hf (isF fr FA (Sv aA ((l[i]!).qI.length) cA) ((l[i]!).qI)) ⟨hA,fun e=>(hfr e).sub (by rw [hFF];intro x hx;simp [hx])⟩ (fun x hx=>hsub x (by rw [hFF];have hx:x∈FA:=hx;simp [hx]))
theorem state_eq {a b:qH} (h1:a.qI=b.qI) (h2:a.qP=b.qP) (h3:a.qN=b.qN):a=b:=by
 cases a;cases b;simp only at h1 h2 h3;subst h1 h2 h3;rfl
open Classical in
noncomputable def yA (s:qG) (t:qH) (cs:yLL):Nat->List qH
 | 0=>[]
 | k+1=>if (jf s t (cs[k]!)).1∈yA s t cs k then yA s t cs k else yA s t cs k++[(jf s t (cs[k]!)).1]
theorem nextTo_in (h:(jf s t (cs[k]!)).1∈yA s t cs k):yA s t cs k=yA s t cs (k+1):=by rw [yA,if_pos h]
theorem nextTo_new (h:¬ (jf s t (cs[k]!)).1∈yA s t cs k):yA s t cs k++[(jf s t (cs[k]!)).1]=yA s t cs (k+1):=by rw [yA,if_neg h]
theorem nextTo_len {s:qG} {t:qH} {cs:yLL}:∀ k,(yA s t cs k).length<=k
 | 0=>by simp [yA]
 | k+1=>by
  have:=nextTo_len (s:=s) (t:=t) (cs:=cs) k
  rw [yA]
  split
  ·omega
  ·simp;omega
def CodeBad (s:qG) (t:qH) (cs:yLL) (k:Nat):Prop:=(jf s t (cs[k]!)).2≠0
def NoBad (s:qG) (t:qH) (cs:yLL) (k:Nat):Prop:=∀ j,j < k->¬ CodeBad s t cs j
theorem NoBad.succ (h:NoBad s t cs k) (h1:(jf s t (cs[k]!)).2=0):NoBad s t cs (k+1):=fun j hj=>by
 by_cases e:j=k
 ·subst e;exact fun x=>x h1
 ·exact h j qf
open Classical in
noncomputable def QX (s:qG) (t:qH) (cs:yLL):List qH×Int:=
 if NoBad s t cs cs.length then (yA s t cs cs.length,0) else ([],(jf s t (cs[Xo (CodeBad s t cs) cs.length]!)).2)
theorem next_ok (h:NoBad s t cs cs.length):QX s t cs=(yA s t cs cs.length,0):=by rw [QX,if_pos h]
theorem next_bad (h:NoBad s t cs k) (hk:k < cs.length) (h1:(jf s t (cs[k]!)).2≠0):QX s t cs=([],(jf s t (cs[k]!)).2):=by
 rw [QX,if_neg (fun x=>x k hk h1),stop_first h hk h1]
theorem find_mem:firstIdx (fun k=>decide (l[k]! =u)) l.length < 0<->¬ u∈l:=by
 have h:=anyTo_first (fun k=>decide (l[k]! =u)) l.length
 constructor
 ·intro h1 hm
  obtain ⟨k,hk,e⟩:=List.mem_iff_getElem.1 hm
  have:anyTo (fun k=>decide (l[k]! =u)) l.length=true:=anyTo_iff.2 ⟨k,hk,by rw [getElem!_pos l k hk];simpa using e⟩
  rw [this] at h
  have:=of_decide_eq_true h
  omega
 ·intro hm
  apply Classical.byContradiction
  intro h1
  rw [decide_eq_true qf] at h
  obtain ⟨k,hk,e⟩:=anyTo_iff.1 h.symm
  rw [getElem!_pos l k hk] at e
  exact hm ((of_decide_eq_true e)▸List.getElem_mem hk)
theorem mem_at (hk:k < l.length) (h:l[k]! =u):u∈l:=by
 rw [getElem!_pos l k hk] at h;rw [← h];exact List.getElem_mem hk
def NotIn (l:List qH) (u:qH) (k:Nat):Prop:=∀ j,j < k->l[j]! ≠u
theorem NotIn.succ (h:NotIn l u k) (h1:l[k]! ≠u):NotIn l u (k+1):=fun j hj=>by
 by_cases e:j=k
 ·subst e;exact h1
 ·exact h j qf
theorem NotIn.out (h:NotIn l u l.length):¬ u∈l:=fun hm=>by
 obtain ⟨k,hk,e⟩:=List.mem_iff_getElem.1 hm
 exact h k hk (by rw [getElem!_pos l k hk];exact e)
end
section
variable {ca cb caAlive caBags caAround cbAlive cbBags cbAround qL qX xn xM qZ ccs : Nat}
theorem l00Same_ok (w:World) (a:yLI) (b:yLI) {aa:yOA} (ha:zP w Fa aa ca a) (hb:zP w Fb ab cb b):Calls Tryz.prog 74 #[Sv aa a.length ca,Sv ab b.length cb] w (Ret (fun v w' =>v=Bv (decide (a=b))) w):=by
 refine en func74 ntmps74 ?_
 have H:=((St.start w).arg hb).arg ha
 have nha:=qO ha
 have nhb:=qO hb
 clear ha hb
 have N:=Fresh.nil w.heap.size
 refine zcr (sp (Bv false) (zjcc (sq 1 (oN rfl (sq 1 (oN rfl (sq 1 (zjn (zT _ rfl (fun h1=>?_) (fun h1=>?_))))))))))
 ·replace h1:=bne_iff_ne.1 h1
  refine zcr (sp (Bv false) (zjr (t_r (rH1 (Bv false) H ?_))))
  first | rw [decide_eq_false (fun e=>by subst e;omega)] | rw [decide_eq_false (yV (k:=i) ‹_›)] | rw [decide_eq_false (yV (k:=i) (by simpa using ‹_›))]
 replace h1:=xu h1
 refine qU (t_n (zcc (sp (yI 0) (zjn (qV ?_)))))
 refine zA ((fun Z0 Z1=>fun m' ρ w2=>∃ (xQ:Env) (i:Nat),ρ=upd (upd (upd xQ 0 (Sv aa a.length ca)) 1 (Sv ab b.length cb)) 5 (yI i)/\((i:Int)<=a.length)/\(a.take i=b.take i)/\m' =(a.length - (i:Int)).toNat/\Fresh w.heap.size []/\St w w2 [] [Z0,Z1]) _ _) ((a.length - (0:Int)).toNat) ⟨_,0,uE3,qf,(by rfl),rfl,N,H⟩ ?_
 clear H N
 rintro m' ρ w3 ⟨xQ,i,rfl,i0,i1,rfl,N,H⟩
 refine zcc (sp (yI i) (sq 1 (oN rfl (sq 1 (zjn (cD rfl (fun h4=>?_) (fun h4=>?_)))))))
 ·refine qU (t_n (xU (qV (xU ?_))))
  refine jw rfl H fun H=>rtl 0 H ?_
  refine rtp 1 (yI i) H ?_
  obtain ⟨b6,o7,rfl⟩:=H.addr 0 rfl qf
  refine tI 2 rfl rfl rfl H ?_
  refine tL 3 rfl rfl (fun _ h=>h.zB 0 rfl i qf) H ?_
  refine rtl 4 H ?_
  refine rtp 5 (yI i) H ?_
  obtain ⟨b9,o10,rfl⟩:=H.addr 1 rfl qf
  refine tI 6 rfl rfl rfl H ?_
  refine tL 7 rfl rfl (fun _ h=>h.zB 1 rfl i qf) H ?_
  refine rtl 8 H ?_
  refine xA qh (t_n (zT _ rfl (fun h12=>?_) (fun h12=>?_)))
  ·replace h12:=bne_iff_ne.1 h12
   refine zcr (sp (Bv false) (zjr (zr5 (rH1 (Bv false) H ?_))))
   first | rw [decide_eq_false (fun e=>by subst e;omega)] | rw [decide_eq_false (yV (k:=i) ‹_›)] | rw [decide_eq_false (yV (k:=i) (by simpa using ‹_›))]
  replace h12:=xu h12
  refine qU (b_n (t_n (xK (sp (yI i) (sw (zi i 1 rfl rfl qf (sq 1 (xP (qW (m' :=(a.length - ((i+1):Int)).toNat) qf ⟨_,i+1,uE3,?_,?_,rfl,N,H⟩)))))))))
  ·omega
  ·exact eqTo_succ qf qf i1 qg
 refine zx4 (zcr (sp (Bv true) (zjr (rH1 (Bv true) H ?_))))
 rw [decide_eq_true (QE (k:=i) qf qf i1)]
theorem equalI_ok (w:World) (a:yLI) (b:yLI) {aa:yOA} (ha:zP w Fa aa ca a) (hb:zP w Fb ab cb b):Calls Tryz.prog 54 #[Sv aa a.length ca,Sv ab b.length cb] w (Ret (fun v w' =>v=Bv (decide (a=b))) w):=by
 refine en func54 ntmps54 ?_
 have H:=((St.start w).arg hb).arg ha
 have nha:=qO ha
 have nhb:=qO hb
 clear ha hb
 have N:=Fresh.nil w.heap.size
 refine zcr (sp (Bv false) (zjcc (sq 1 (oN rfl (sq 1 (oN rfl (sq 1 (zjn (zT _ rfl (fun h1=>?_) (fun h1=>?_))))))))))
 ·replace h1:=bne_iff_ne.1 h1
  refine zcr (sp (Bv false) (zjr (t_r (rH1 (Bv false) H ?_))))
  first | rw [decide_eq_false (fun e=>by subst e;omega)] | rw [decide_eq_false (yV (k:=i) ‹_›)] | rw [decide_eq_false (yV (k:=i) (by simpa using ‹_›))]
 replace h1:=xu h1
 refine qU (t_n (zcc (sq 1 (oN rfl (sp (yI 0) (zjn (qV ?_)))))))
 refine zA ((fun Z0 Z1=>fun m' ρ w2=>∃ (xQ:Env) (i:Nat),ρ=upd (upd (upd (upd xQ 0 (Sv aa a.length ca)) 1 (Sv ab b.length cb)) 12 (yI a.length)) 13 (yI i)/\((i:Int)<=a.length)/\(a.take i=b.take i)/\m' =(a.length - (i:Int)).toNat/\Fresh w.heap.size []/\St w w2 [] [Z0,Z1]) _ _) ((a.length - (0:Int)).toNat) ⟨_,0,uE4,qf,(by rfl),rfl,N,H⟩ ?_
 clear H N
 rintro m' ρ w3 ⟨xQ,i,rfl,i0,i1,rfl,N,H⟩
 refine zcr (sq 1 (zjn (xU (cD rfl (fun h4=>?_) (fun h4=>?_)))))
 ·refine qU (t_n (xU (qV (zcr (sp (yI i) (sp (yI i) (zjn (xU ?_))))))))
  refine jw rfl H fun H=>rtl 0 H ?_
  refine rtp 1 (yI i) H ?_
  obtain ⟨b6,o7,rfl⟩:=H.addr 0 rfl qf
  refine tI 2 rfl rfl rfl H ?_
  refine tL 3 rfl rfl (fun _ h=>h.zB 0 rfl i qf) H ?_
  refine rtl 4 H ?_
  refine rtp 5 (yI i) H ?_
  obtain ⟨b9,o10,rfl⟩:=H.addr 1 rfl qf
  refine tI 6 rfl rfl rfl H ?_
  refine tL 7 rfl rfl (fun _ h=>h.zB 1 rfl i qf) H ?_
  refine rtl 8 H ?_
  refine xA qh (t_n (zT _ rfl (fun h12=>?_) (fun h12=>?_)))
  ·replace h12:=bne_iff_ne.1 h12
   refine zcr (sp (Bv false) (zjr (zr5 (rH1 (Bv false) H ?_))))
   first | rw [decide_eq_false (fun e=>by subst e;omega)] | rw [decide_eq_false (yV (k:=i) ‹_›)] | rw [decide_eq_false (yV (k:=i) (by simpa using ‹_›))]
  replace h12:=xu h12
  refine qU (b_n (t_n (xK (sw (zi i 1 rfl rfl qf (sq 1 (xP (qW (m' :=(a.length - ((i+1):Int)).toNat) qf ⟨_,i+1,uE4,?_,?_,rfl,N,H⟩))))))))
  ·omega
  ·exact eqTo_succ qf qf i1 qg
 refine zx4 (zcr (sp (Bv true) (zjr (rH1 (Bv true) H ?_))))
 rw [decide_eq_true (QE (k:=i) qf qf i1)]
theorem equalB_ok (w:World) (a:List Bool) (b:List Bool) {aa:yOA} (ha:zP w Fa aa ca a) (hb:zP w Fb ab cb b):Calls Tryz.prog 202 #[Sv aa a.length ca,Sv ab b.length cb] w (Ret (fun v w' =>v=Bv (decide (a=b))) w):=by
 refine en func202 ntmps202 ?_
 have H:=((St.start w).arg hb).arg ha
 have nha:=qO ha
 have nhb:=qO hb
 clear ha hb
 have N:=Fresh.nil w.heap.size
 refine zcr (sp (Bv false) (zjcc (sq 1 (oN rfl (sq 1 (oN rfl (sq 1 (zjn (zT _ rfl (fun h1=>?_) (fun h1=>?_))))))))))
 ·replace h1:=bne_iff_ne.1 h1
  refine zcr (sp (Bv false) (zjr (t_r (rH1 (Bv false) H ?_))))
  first | rw [decide_eq_false (fun e=>by subst e;omega)] | rw [decide_eq_false (yV (k:=i) ‹_›)] | rw [decide_eq_false (yV (k:=i) (by simpa using ‹_›))]
 replace h1:=xu h1
 refine qU (t_n (zcc (sq 1 (oN rfl (sp (yI 0) (zjn (qV ?_)))))))
 refine zA ((fun Z0 Z1=>fun m' ρ w2=>∃ (xQ:Env) (i:Nat),ρ=upd (upd (upd (upd xQ 0 (Sv aa a.length ca)) 1 (Sv ab b.length cb)) 12 (yI a.length)) 13 (yI i)/\((i:Int)<=a.length)/\(a.take i=b.take i)/\m' =(a.length - (i:Int)).toNat/\Fresh w.heap.size []/\St w w2 [] [Z0,Z1]) _ _) ((a.length - (0:Int)).toNat) ⟨_,0,uE4,qf,(by rfl),rfl,N,H⟩ ?_
 clear H N
 rintro m' ρ w3 ⟨xQ,i,rfl,i0,i1,rfl,N,H⟩
 refine zcr (sq 1 (zjn (xU (cD rfl (fun h4=>?_) (fun h4=>?_)))))
 ·refine qU (t_n (xU (qV (zcr (sp (yI i) (sp (yI i) (zjn (xU ?_))))))))
  refine jw rfl H fun H=>rtl 0 H ?_
  refine rtp 1 (yI i) H ?_
  obtain ⟨b6,o7,rfl⟩:=H.addr 0 rfl qf
  refine tI 2 rfl rfl rfl H ?_
  refine tL 3 rfl rfl (fun _ h=>h.elemBoolN 0 rfl i qf) H ?_
  refine rtl 4 H ?_
  refine rtp 5 (yI i) H ?_
  obtain ⟨b9,o10,rfl⟩:=H.addr 1 rfl qf
  refine tI 6 rfl rfl rfl H ?_
  refine tL 7 rfl rfl (fun _ h=>h.elemBoolN 1 rfl i qf) H ?_
  refine rt 8 _ (y_neB underlying4 (a[i]!) (b[i]!) rfl rfl) H ?_
  refine xA qh (t_n (zT _ rfl (fun h12=>?_) (fun h12=>?_)))
  ·replace h12:=bne_iff_ne.1 h12
   refine zcr (sp (Bv false) (zjr (zr5 (rH1 (Bv false) H ?_))))
   first | rw [decide_eq_false (fun e=>by subst e;omega)] | rw [decide_eq_false (yV (k:=i) ‹_›)] | rw [decide_eq_false (yV (k:=i) (by simpa using ‹_›))]
  replace h12:=xu h12
  refine qU (b_n (t_n (xK (sw (zi i 1 rfl rfl qf (sq 1 (xP (qW (m' :=(a.length - ((i+1):Int)).toNat) qf ⟨_,i+1,uE4,?_,?_,rfl,N,H⟩))))))))
  ·omega
  ·exact eqTo_succ qf qf i1 qg
 refine zx4 (zcr (sp (Bv true) (zjr (rH1 (Bv true) H ?_))))
 rw [decide_eq_true (QE (k:=i) qf qf i1)]
theorem l02Same_ok (w:World) (a:qH) (b:qH) {ba oa:Nat} {bb ob:Nat} (ha:vg w ba oa (yT a aaAlive caAlive aaBags caBags aaAround caAround)) (haAlive:zP w FaAlive aaAlive caAlive a.qI) (haBags:zP w FaBags aaBags caBags a.qP) (haAround:zP w FaAround aaAround caAround a.qN) (hb:vg w bb ob (yT b abAlive cbAlive abBags cbBags abAround cbAround)) (hbAlive:zP w FbAlive abAlive cbAlive b.qI) (hbBags:zP w FbBags abBags cbBags b.qP) (hbAround:zP w FbAround abAround cbAround b.qN):Calls Tryz.prog 216 #[pp ba oa,pp bb ob] w (Ret (fun v w' =>v=Bv (decide (a=b))) w):=by
 refine en func216 ntmps216 ?_
 have H:=((((((((St.start w).arg hbAround).arg hbBags).arg hbAlive).Q7 hb).arg haAround).arg haBags).arg haAlive).Q7 ha
 have nhaAlive:=qO haAlive
 have nhaBags:=qO haBags
 have nhaAround:=qO haAround
 have nhbAlive:=qO hbAlive
 have nhbBags:=qO hbBags
 have nhbAround:=qO hbAround
 clear ha haAlive haBags haAround hb hbAlive hbBags hbAround
 have N:=Fresh.nil w.heap.size
 refine zcr (sp (Bv false) (zjn (xU (xU ?_))))
 refine jw rfl H fun H=>rtl 0 H ?_
 refine rtl 1 H ?_
 refine tF 2 rfl rfl H ?_
 refine tL 3 rfl rfl (fun _ h=>h.xW 0 rfl 0 rfl) H ?_
 refine tN 4 rfl rfl H ?_
 refine rtl 5 H ?_
 refine rtl 6 H ?_
 refine tF 7 rfl rfl H ?_
 refine tL 8 rfl rfl (fun _ h=>h.xW 4 rfl 0 rfl) H ?_
 refine tN 9 rfl rfl H ?_
 refine rtp 10 (Bv ((a.qI.length:Int) != b.qI.length)) H ?_
 refine rtp 11 (Bv ((a.qI.length:Int) != b.qI.length)) H ?_
 cases h2:((a.qI.length:Int) != b.qI.length)
 ·replace h2:=xu h2
  refine rgl 12 18 H ?_
  refine rgl 13 18 H ?_
  refine gF 14 rfl rfl H ?_
  refine gL 15 rfl rfl (fun _ h=>h.xW 0 rfl 1 rfl) H ?_
  refine gN 16 rfl rfl H ?_
  refine rgl 17 18 H ?_
  refine rgl 18 18 H ?_
  refine gF 19 rfl rfl H ?_
  refine gL 20 rfl rfl (fun _ h=>h.xW 4 rfl 1 rfl) H ?_
  refine gN 21 rfl rfl H ?_
  refine rgp 22 (Bv ((a.qP.length:Int) != b.qP.length)) 18 H ?_
  refine rtp 23 (Bv ((a.qP.length:Int) != b.qP.length)) H ?_
  refine rtp 24 (Bv ((a.qP.length:Int) != b.qP.length)) H ?_
  cases h3:((a.qP.length:Int) != b.qP.length)
  ·replace h3:=xu h3
   refine rgl 25 31 H ?_
   refine rgl 26 31 H ?_
   refine gF 27 rfl rfl H ?_
   refine gL 28 rfl rfl (fun _ h=>h.xW 0 rfl 2 rfl) H ?_
   refine rgl 29 31 H ?_
   refine rgl 30 31 H ?_
   refine gF 31 rfl rfl H ?_
   refine gL 32 rfl rfl (fun _ h=>h.xW 4 rfl 2 rfl) H ?_
   refine jb [33] qh qm (XI rfl (e:=31) rfl rfl (oq (l00Same_ok _ a.qN b.qN (H.get 3 rfl).1 (H.get 7 rfl).1) H fun w5 H=>⟨H,(rgl 34 31 H ?_)⟩) jd)
   refine rtl 35 H ?_
   refine xA qh (t_n (zT _ rfl (fun h7=>?_) (fun h7=>?_)))
   ·replace h7:=xm h7
    replace h7:=of_decide_eq_false h7
    refine zcr (sp (Bv false) (zjr (t_r (rH1 (Bv false) H ?_))))
    rw [decide_eq_false (fun e=>by subst e;first | omega | exact absurd rfl ql | simp_all)]
   replace h7:=qY h7
   replace h7:=of_decide_eq_true h7
   refine qU (t_n (zcc (sp (yI 0) (zjn (qV ?_)))))
   refine zA ((fun Z0 Z1 Z2 Z3 Z4 Z5 Z6 Z7=>fun m' ρ w8=>∃ (xQ:Env) (c:Nat),ρ=upd (upd (upd xQ 0 (pp ba oa)) 1 (pp bb ob)) 5 (yI c)/\((c:Int)<=a.qI.length)/\(a.qI.take c=b.qI.take c)/\m' =(a.qI.length - (c:Int)).toNat/\Fresh w.heap.size []/\St w w8 [] [Z0,Z1,Z2,Z3,Z4,Z5,Z6,Z7]) _ _ _ _ _ _ _ _) ((a.qI.length - (0:Int)).toNat) ⟨_,0,uE3,qf,(by rfl),rfl,N,H⟩ ?_
   clear H N
   rintro m' ρ w9 ⟨xQ,c,rfl,i0,i1,rfl,N,H⟩
   refine zcc (sp (yI c) (sq 2 (oF rfl (oL rfl (H.xW 0 rfl 0 rfl) (oN rfl (sq 1 (zjn (cD rfl (fun h10=>?_) (fun h10=>?_)))))))))
   ·refine qU (t_n (xU (qV (xU ?_))))
    refine jw rfl H fun H=>rtl 0 H ?_
    refine rtl 1 H ?_
    refine tF 2 rfl rfl H ?_
    refine tL 3 rfl rfl (fun _ h=>h.xW 0 rfl 0 rfl) H ?_
    refine rtp 4 (yI c) H ?_
    obtain ⟨b12,o13,rfl⟩:=H.addr 1 rfl qf
    refine tI 5 rfl rfl rfl H ?_
    refine tL 6 rfl rfl (fun _ h=>h.elemBoolN 1 rfl c qf) H ?_
    refine rtl 7 H ?_
    refine rtl 8 H ?_
    refine tF 9 rfl rfl H ?_
    refine tL 10 rfl rfl (fun _ h=>h.xW 4 rfl 0 rfl) H ?_
    refine rtp 11 (yI c) H ?_
    obtain ⟨b15,o16,rfl⟩:=H.addr 5 rfl qf
    refine tI 12 rfl rfl rfl H ?_
    refine tL 13 rfl rfl (fun _ h=>h.elemBoolN 5 rfl c qf) H ?_
    refine rt 14 _ (y_neB underlying4 (a.qI[c]!) (b.qI[c]!) rfl rfl) H ?_
    refine xA qh (t_n (zT _ rfl (fun h18=>?_) (fun h18=>?_)))
    ·replace h18:=bne_iff_ne.1 h18
     refine zcr (sp (Bv false) (zjr (zr5 (rH1 (Bv false) H ?_))))
     rw [decide_eq_false (fun e=>by subst e;first | omega | exact absurd rfl ql | simp_all)]
    replace h18:=xu h18
    refine qU (b_n (t_n (xK (sp (yI c) (sw (zi c 1 rfl rfl qf (sq 1 (xP (qW (m' :=(a.qI.length - ((c+1):Int)).toNat) qf ⟨_,c+1,uE3,?_,?_,rfl,N,H⟩)))))))))
    ·omega
    ·exact eqTo_succ qf qf i1 qg
   refine zx4 (zcc (sp (yI 0) (zjn (qV ?_))))
   refine zA ((fun Z0 Z1 Z2 Z3 Z4 Z5 Z6 Z7=>fun m' ρ w19=>∃ (xQ:Env) (c_1:Nat),ρ=upd (upd (upd xQ 0 (pp ba oa)) 1 (pp bb ob)) 6 (yI c_1)/\((c_1:Int)<=a.qP.length)/\(a.qP.take c_1=b.qP.take c_1)/\m' =(a.qP.length - (c_1:Int)).toNat/\Fresh w.heap.size []/\St w w19 [] [Z0,Z1,Z2,Z3,Z4,Z5,Z6,Z7]) _ _ _ _ _ _ _ _) ((a.qP.length - (0:Int)).toNat) ⟨_,0,uE3,qf,(by rfl),rfl,N,H⟩ ?_
   clear H N
   rintro m' ρ w20 ⟨xQ,c_1,rfl,i0,i2,rfl,N,H⟩
   refine zcc (sq 3 (oF rfl (oL rfl (H.xW 0 rfl 1 rfl) (oN rfl (sq 1 (zjn (cD rfl (fun h21=>?_) (fun h21=>?_))))))))
   ·refine qU (t_n (xU (qV (xU ?_))))
    obtain ⟨b22,o23,rfl⟩:=H.addr 2 rfl qf
    obtain ⟨b25,o26,rfl⟩:=H.addr 6 rfl qf
    refine c_cut (fun ρ w34=>∃ (xQ:Env) (F28:yLN) (a29:yOA) (c30:Nat) (F31:yLN) (a32:yOA) (c33:Nat),ρ=upd (upd (upd (upd xQ 0 (pp ba oa)) 1 (pp bb ob)) 6 (yI c_1)) 91 (Bv (!(decide ((a.qP[c_1]!)=(b.qP[c_1]!)))))/\Fresh w.heap.size []/\St w w34 [] [sF false F28 a29 c30 (b.qP[c_1]!),atF b25 (o26+(c_1:Int).toNat * 1) [Sv a29 ((b.qP[c_1]!).length) c30],sF false F31 a32 c33 (a.qP[c_1]!),atF b22 (o23+(c_1:Int).toNat * 1) [Sv a32 ((a.qP[c_1]!).length) c33],atF ba oa [Sv aaAlive a.qI.length caAlive,Sv (aa b22 o23) a.qP.length caBags,Sv aaAround a.qN.length caAround],sF false FaAlive aaAlive caAlive a.qI,sF false FaBags (aa b22 o23) caBags a.qP,sF false FaAround aaAround caAround a.qN,atF bb ob [Sv abAlive b.qI.length cbAlive,Sv (aa b25 o26) b.qP.length cbBags,Sv abAround b.qN.length cbAround],sF false FbAlive abAlive cbAlive b.qI,sF false FbBags (aa b25 o26) cbBags b.qP,sF false FbAround abAround cbAround b.qN]) ?_ ?_
    ·refine jw rfl H fun H=>rtl 0 H ?_
     refine rtl 1 H ?_
     refine tF 2 rfl rfl H ?_
     refine tL 3 rfl rfl (fun _ h=>h.xW 0 rfl 1 rfl) H ?_
     refine rtl 4 H ?_
     obtain ⟨ae36,ce36,Fe36,H⟩:=H.ji 2 rfl c_1 c_1 qf qf qf
     have S:=H.jr [] (zR 2 8)
     refine tI 5 rfl rfl rfl S ?_
     refine rtl 7 S ?_
     refine rtl 8 S ?_
     refine tF 9 rfl rfl S ?_
     refine tL 10 rfl rfl (fun _ h=>h.xW 4 rfl 1 rfl) S ?_
     refine rtl 11 S ?_
     obtain ⟨ae37,ce37,Fe37,H⟩:=H.ji 8 rfl c_1 c_1 qf qf qf
     refine tI 12 rfl rfl rfl (H.pick [] (zR 4 8)) ?_
     refine jb [6,13] qh qm (jM rfl ?_ (jM rfl ?_ jd))
     ·refine zK (Sv ae36 ((a.qP[c_1]!).length) ce36) isAgg27 rfl (H.xW 3 rfl 0 rfl) (⟨H.pick [] (zR 4 8),(ro 13 rfl (zK (Sv ae37 ((b.qP[c_1]!).length) ce37) isAgg27 rfl (H.xW 1 rfl 0 rfl) (⟨H.pick [] (zR 4 8),(ro 14 rfl (oq (l00Same_ok _ (a.qP[c_1]!) (b.qP[c_1]!) (H.get 2 rfl).1 (H.get 0 rfl).1) H fun w39 H=>⟨H.pick [] (zR 4 8),(rtl 15 (H.pick [] (zR 4 8)) ?_)⟩))⟩)))⟩)
      refine xA qh ((meet ⟨_,Fe37,ae37,ce37,Fe36,ae36,ce36,uE4,N,H⟩))
     refine zK (Sv ae37 ((b.qP[c_1]!).length) ce37) isAgg27 rfl (H.xW 1 rfl 0 rfl) (⟨H.pick [] (zR 4 8),(ro 6 rfl (zK (Sv ae36 ((a.qP[c_1]!).length) ce36) isAgg27 rfl (H.xW 3 rfl 0 rfl) (⟨H.pick [] (zR 4 8),(ro 14 rfl (oq (l00Same_ok _ (a.qP[c_1]!) (b.qP[c_1]!) (H.get 2 rfl).1 (H.get 0 rfl).1) H fun w42 H=>⟨H.pick [] (zR 4 8),(rtl 15 (H.pick [] (zR 4 8)) ?_)⟩))⟩)))⟩)
     refine xA qh ((meet ⟨_,Fe37,ae37,ce37,Fe36,ae36,ce36,uE4,N,H⟩))
    clear H N
    rintro ρ w44 ⟨xQ,F28,a29,c30,F31,a32,c33,rfl,N,H⟩
    refine t_n (zT _ rfl (fun h45=>?_) (fun h45=>?_))
    ·replace h45:=xm h45
     replace h45:=of_decide_eq_false h45
     refine zcr (sp (Bv false) (zjr (zr5 (rH1 (Bv false) H ?_))))
     rw [decide_eq_false (fun e=>by subst e;first | omega | exact absurd rfl ql | simp_all)]
    replace h45:=qY h45
    replace h45:=of_decide_eq_true h45
    refine qU (b_n (t_n (xK (sq 1 (sw (zi c_1 1 rfl rfl qf (sq 1 (xP (qW (m' :=(a.qP.length - ((c_1+1):Int)).toNat) qf ⟨_,c_1+1,uE3,?_,?_,rfl,N,H.pick [] (zR 4 8)⟩)))))))))
    ·omega
    ·exact eqTo_succ qf qf i2 ql
   refine zx4 (zcr (sp (Bv true) (zjr (rH1 (Bv true) H ?_))))
   rw [decide_eq_true (state_eq (QE (k:=c) qf qf i1) (QE (k:=c_1) qf qf i2) ql)]
  replace h3:=bne_iff_ne.1 h3
  refine zS (zR 25 10) 10 (H) (rtp 35 (Bv true) H ?_)
  refine xA qh (t_n (cTr rfl (zcr (sp (Bv false) (zjr (t_r (rH1 (Bv false) H ?_)))))))
  rw [decide_eq_false (fun e=>by subst e;first | omega | exact absurd rfl ql | simp_all)]
 replace h2:=bne_iff_ne.1 h2
 refine zS (zR 12 11) 11 (H) (rtp 23 (Bv true) H ?_)
 refine rtp 24 (Bv true) H ?_
 refine zS (zR 25 10) 10 (H) (rtp 35 (Bv true) H ?_)
 refine xA qh (t_n (cTr rfl (zcr (sp (Bv false) (zjr (t_r (rH1 (Bv false) H ?_)))))))
 rw [decide_eq_false (fun e=>by subst e;first | omega | exact absurd rfl ql | simp_all)]
theorem l03Find_ok (w:World) (l:List qH) (u:qH) {cl:Nat} {bu ou:Nat} (hl:zP w Fl al cl l) (hu:vg w bu ou (yT u auAlive cuAlive auBags cuBags auAround cuAround)) (huAlive:zP w FuAlive auAlive cuAlive u.qI) (huBags:zP w FuBags auBags cuBags u.qP) (huAround:zP w FuAround auAround cuAround u.qN):Calls Tryz.prog 192 #[Sv al l.length cl,pp bu ou] w (Ret (fun v w' =>v=yI (firstIdx (fun zz=>decide (l[zz]! =u)) l.length)) w):=by
 refine en func192 ntmps192 ?_
 have H:=(((((St.start w).arg huAround).arg huBags).arg huAlive).Q7 hu).arg hl
 have nhl:=qO hl
 have nhuAlive:=qO huAlive
 have nhuBags:=qO huBags
 have nhuAround:=qO huAround
 clear hl hu huAlive huBags huAround
 have N:=Fresh.nil w.heap.size
 refine zcr (sp (yI 0) (zjcc (sp (yI 0) (zjn (qV ?_)))))
 refine zA ((fun Z0 Z1 Z2 Z3 Z4=>fun m' ρ w1=>∃ (xQ:Env) (i:Nat),ρ=upd (upd (upd xQ 0 (Sv al l.length cl)) 1 (pp bu ou)) 5 (yI i)/\((i:Int)<=l.length)/\(noneTo (fun zz=>decide (l[zz]! =u)) i)/\m' =(l.length - (i:Int)).toNat/\Fresh w.heap.size []/\St w w1 [] [Z0,Z1,Z2,Z3,Z4]) _ _ _ _ _) ((l.length - (0:Int)).toNat) ⟨_,0,uE3,qf,qx,rfl,N,H⟩ ?_
 clear H N
 rintro m' ρ w2 ⟨xQ,i,rfl,i0,i1,rfl,N,H⟩
 refine zcc (sp (yI i) (sq 1 (oN rfl (sq 1 (zjn (cD rfl (fun h3=>?_) (fun h3=>?_)))))))
 ·refine qU (t_n (xU (qV (zcr (sq 1 (sp (yI i) ?_))))))
  obtain ⟨b4,o5,rfl⟩:=H.addr 0 rfl qf
  obtain ⟨ae7Alive,ce7Alive,Fe7Alive,ae7Bags,ce7Bags,Fe7Bags,ae7Around,ce7Around,Fe7Around,H⟩:=H.elem_StateD 0 rfl i i qf qf qf
  refine oI rfl rfl (sq 1 (sw (oq (l02Same_ok _ (l[i]!) u (qF (H.get 3 rfl) 0 3) (H.get 0 rfl).1 (H.get 1 rfl).1 (H.get 2 rfl).1 (qF (H.get 5 rfl) 0 3) (H.get 6 rfl).1 (H.get 7 rfl).1 (H.get 8 rfl).1) H fun w9 H=>zjn (cD rfl (fun h11=>?_) (fun h11=>?_)))))
  ·refine zcr (sp (yI i) (sp (yI i) (zjr (zr5 (rH1 (yI i) H ?_)))))
   rw [firstIdx_some (k:=i) qf i1 (decide_eq_true ‹_›)]
  refine qU (b_n (t_n (xK (sp (yI i) (sw (zi i 1 rfl rfl qf (sq 1 (xP (qW (m' :=(l.length - ((i+1):Int)).toNat) qf ⟨_,i+1,uE3,?_,?_,rfl,N,H.pick [] (zR 4 5)⟩)))))))))
  ·omega
  ·exact noneTo_succ i1 (decide_eq_false ‹_›)
 refine zx4 (zcr (sq 1 (zjr (rH1 (yI (-1)) H ?_))))
 rw [firstIdx_none (fun j hj=>i1 j qf)]
theorem l03Next_ok (w:World) (s:qG) (t:qH) (cs:yLL) (hs:vg w bs os (yS s qM qL xg qX)) (xf:zP w xF qM qL s.qC) (xE:zP w zu xg qX s.qE) (ht:vg w bt ot (yT t xq xn xX xM xe qZ)) (zk:zP w zQ xq xn t.qI) (zO:zP w vK xX xM t.qP) (xJ:zP w zo xe qZ t.qN) (hcs:zP w Fcs acs ccs cs) (p0:yj s) (p1:zV s t) (p2:cs.length<=1000) (p3:∀ q,q < cs.length->CntOk s (cs[q]!)):Calls Tryz.prog 215 #[pp bs os,pp bt ot,Sv acs cs.length ccs] w (Ret (fun v w' =>∃ (ra0:yOA) (rn0:Nat) (rc0:Nat) (rx0:List Value) (rF0:yLN),v=.tuple #[Sv ra0 rn0 rc0,yI ((QX s t cs).2)]/\Fresh w.heap.size [rF0]/\St w w' [rr ra0 rn0 rc0 43 3 rx0] [xN true rF0 rx0 ((QX s t cs).1)]) w):=by
 refine en func215 ntmps215 ?_
 have H:=((((((((St.start w).arg hcs).arg xJ).arg zO).arg zk).Q7 ht).arg xE).arg xf).Q7 hs
 have vH:=qO xf
 have jD:=qO xE
 have yL:=qO zk
 have Qv:=qO zO
 have jQ:=qO xJ
 have nhcs:=qO hcs
 clear hs xf xE ht zk zO xJ hcs
 have N:=Fresh.nil w.heap.size
 refine zcr (sq 1 (sp (yI 0) (zjc (sw (zW H underlying48 ti43 fun b1 w2 H=>sq 1 (zjcc (sp (yI 0) (zjn (qV ?_)))))))))
 replace H:=H.boxRow 0 rfl 3 0 rfl qj
 replace H:=H.vV (α:=qH)
 replace H:St _ _ [rr (aa b1 0) 0 0 43 3 []] [xN true [] [] ([]:List qH),atF bs os (yS s qM qL xg qX),sF false xF qM qL s.qC,sF false zu xg qX s.qE,atF bt ot (yT t xq xn xX xM xe qZ),sF false zQ xq xn t.qI,sF false vK xX xM t.qP,sF false zo xe qZ t.qN,sF false Fcs acs ccs cs]:=H
 refine zA ((fun Z0 Z1 Z2 Z3 Z4 Z5 Z6 Z7=>fun m' ρ w3=>∃ (xQ:Env) (jl:yOA) (vC:Nat) (jh:Nat) (out:List qH) (Xk:List Value) (yZ:yLN) (i:Nat),ρ=upd (upd (upd (upd (upd xQ 0 (pp bs os)) 1 (pp bt ot)) 2 (Sv acs cs.length ccs)) 8 (Sv jl vC jh)) 9 (yI i)/\out=yA s t cs i/\((i:Int)<=cs.length)/\(NoBad s t cs i)/\m' =(cs.length - (i:Int)).toNat/\Fresh w.heap.size [yZ]/\St w w3 [rr jl vC jh 43 3 Xk] [xN true yZ Xk out,Z0,Z1,Z2,Z3,Z4,Z5,Z6,Z7]) _ _ _ _ _ _ _ _) ((cs.length - (0:Int)).toNat) ⟨_,(aa b1 0),0,0,([]:List qH),[],[],0,uE5,(by rfl),qf,qx,rfl,N.emp,H⟩ ?_
 clear H N
 rintro m' ρ w4 ⟨xQ,jl,vC,jh,out,Xk,yZ,i,rfl,rfl,i0,i1,rfl,N,H⟩
 have hn_out:=H.xB (α:=qH) 0 rfl 0 rfl qj
 have nl:=nextTo_len (s:=s) (t:=t) (cs:=cs) i
 refine zcc (sp (yI i) (sq 1 (oN rfl (sq 1 (zjn (cD rfl (fun h5=>?_) (fun h5=>?_)))))))
 ·refine qU (t_n (xU (qV (zcr (sq 3 (sp (yI i) ?_))))))
  obtain ⟨b6,o7,rfl⟩:=H.addr 8 rfl qf
  obtain ⟨ae9,ce9,Fe9,H⟩:=H.ji 8 rfl i i qf qf qf
  refine oI rfl rfl (oL rfl (H.xW 1 rfl 0 rfl) ?_)
  have k3:=p3 i qf
  have sz13:=H.base.size
  have lt14:=H.ltN (L:=[yZ]) [2]
  refine sw (oc (l03Step_ok _ s t (cs[i]!) (qF (H.get 3 rfl) 0 3) (H.get 4 rfl).1 (H.get 5 rfl).1 (qF (H.get 6 rfl) 0 3) (H.get 7 rfl).1 (H.get 8 rfl).1 (H.get 9 rfl).1 (H.get 0 rfl).1 qg qg qg) ?_)
  rintro _ w11 ⟨ra10aAlive,rn10aAlive,rc10aAlive,ra10aBags,rn10aBags,rc10aBags,rx10aBags,rF10aBags,ra10aAround,rn10aAround,rc10aAround,rfl,M,K⟩ _
  replace N:=N.merge sz13 lt14 M
  replace H:=H.merge K M
  obtain rfl:=H.rowNB 0 rfl
  obtain rfl:=H.xB (α:=yLI) 1 rfl 0 rfl qj
  obtain rfl:=H.yt 2 rfl
  refine sq 3 (sw (xH H ti43 [yN,yN,yN] fun b18 w19 H=>?_))
  refine sw (xY H 0 [Sv ra10aAlive ((((jf s t (cs[i]!)).1).qI).length) rc10aAlive,Sv ra10aBags ((((jf s t (cs[i]!)).1).qP).length) rc10aBags,Sv ra10aAround ((((jf s t (cs[i]!)).1).qN).length) rc10aAround] sizeOf43 fun w20 H=>sq 1 (zjcc (sq 1 (sp (Bv (((jf s t (cs[i]!)).2:Int) != 0)) (zjn (zT (((jf s t (cs[i]!)).2:Int) != 0) rfl (fun h21=>?_) (fun h21=>?_)))))))
  ·replace h21:=bne_iff_ne.1 h21
   refine zcr (sw (zW H underlying48 ti43 fun b22 w23 H=>sq 3 (zjr (t_r (zr5 ?_)))))
   replace H:=H.boxRow 0 rfl 3 0 rfl qj
   replace H:=H.vV (α:=qH)
   replace H:St _ _ [rr (aa b22 0) 0 0 43 3 [],.box b18 [Sv ra10aAlive ((((jf s t (cs[i]!)).1).qI).length) rc10aAlive,Sv ra10aBags ((((jf s t (cs[i]!)).1).qP).length) rc10aBags,Sv ra10aAround ((((jf s t (cs[i]!)).1).qN).length) rc10aAround] 43,rr ra10aAlive ((((jf s t (cs[i]!)).1).qI).length) rc10aAlive 4 1 ((((jf s t (cs[i]!)).1).qI).map (Value.bool)),rr ra10aBags ((((jf s t (cs[i]!)).1).qP).length) rc10aBags 27 1 rx10aBags,rr ra10aAround ((((jf s t (cs[i]!)).1).qN).length) rc10aAround 2 1 ((((jf s t (cs[i]!)).1).qN).map (Value.int .i64)),rr jl vC jh 43 3 Xk] [xN true [] [] ([]:List qH),xN true rF10aBags rx10aBags (((jf s t (cs[i]!)).1).qP),sF false Fe9 ae9 ce9 (cs[i]!),atF b6 (o7+(i:Int).toNat * 1) [Sv ae9 ((cs[i]!).length) ce9],xN true yZ Xk (yA s t cs i),atF bs os (yS s qM qL xg qX),sF false xF qM qL s.qC,sF false zu xg qX s.qE,atF bt ot (yT t xq xn xX xM xe qZ),sF false zQ xq xn t.qI,sF false vK xX xM t.qP,sF false zo xe qZ t.qN,sF false Fcs (aa b6 o7) ccs cs]:=H
   refine ret2 (Sv (aa b22 0) 0 0) (yI ((jf s t (cs[i]!)).2)) rfl rfl rfl ⟨_,rfl,?_,H.base⟩
   rw [next_bad i1 qf ‹_›]
   exact ⟨(aa b22 0),0,0,[],[],rfl,(N.emp.pick [0]),H.pick [0] [0]⟩
  replace h21:=xu h21
  refine qU (t_n (zcr (sq 1 ?_)))
  obtain ⟨G24,hn25,h26⟩:=H.XE (α:=qH) 4 rfl 3 rfl qj
  obtain ⟨G27,hn28,h29⟩:=H.rowIsB 1 rfl
  obtain ⟨G30,hn31,h32⟩:=H.XE (α:=yLI) 2 rfl 0 rfl qj
  obtain ⟨G33,hn34,h35⟩:=H.QV 3 rfl
  refine sw (oq (jo (by rw [← hn25]) (l03Find_ok _ (yA s t cs i) ((jf s t (cs[i]!)).1) (hn25▸h26) (qF (H.cells 0 rfl) 0 3) h29 h32 h35)) H fun w37 H=>sp (Bv (decide ((firstIdx (fun zz=>decide ((yA s t cs i)[zz]! =((jf s t (cs[i]!)).1))) (yA s t cs i).length:Int) < 0))) (zjn (cD rfl (fun h39=>?_) (fun h39=>?_))))
  ·refine xK (sq 1 (sw (x8 [Sv ra10aAlive ((((jf s t (cs[i]!)).1).qI).length) rc10aAlive,Sv ra10aBags ((((jf s t (cs[i]!)).1).qP).length) rc10aBags,Sv ra10aAround ((((jf s t (cs[i]!)).1).qN).length) rc10aAround] isAgg43 sizeOf43 rfl (qF (H.cells 0 rfl) 0 3) (sw (xx H underlying48 ti43 [Sv ra10aAlive ((((jf s t (cs[i]!)).1).qI).length) rc10aAlive,Sv ra10aBags ((((jf s t (cs[i]!)).1).qP).length) rc10aBags,Sv ra10aAround ((((jf s t (cs[i]!)).1).qN).length) rc10aAround] fun b40 w41 H=>?_)))))
   obtain ⟨G45,N,hn46,H⟩:=H.freezeB 2 rfl N (H.vz [0,3])
   have H0:=H
   obtain ⟨G47,hg49,hn48,H⟩:=H.Qj (α:=yLI) 3 rfl 1 rfl qj
   replace N:Fresh w.heap.size [G47,G45,yZ]:=Fresh.ice (N.pick [1,0,2]) H0 3 hg49.1 hg49.2 (H0.vz [0,4])
   clear H0
   obtain ⟨G50,N,hn51,H⟩:=H.zh 4 rfl N (H.vz [0,1,5])
   refine sw (zG H 5 rfl 0 rfl underlying48 ti43 rfl qj rfl rfl rfl qw qp qf fun a42 c43 w44 H=>?_)
   replace H:=H.Xa 6 rfl 2 rfl 1 rfl 0 rfl
   replace N:Fresh w.heap.size [(yZ++(G45++G47++G50))]:=(N.pick [2,1,0,3]).join.join.swap.join
   refine sq 1 (xP (b_n (t_n (xK (sp (yI i) (sw (zi i 1 rfl rfl qf (sq 1 (xP (qW (m' :=(cs.length - ((i+1):Int)).toNat) qf ⟨_,_,_,_,_,_,_,i+1,uE5,?_,?_,?_,rfl,N,H.pick [5] (0::zR 8 8)⟩))))))))))
   ·first | exact nextTo_new (find_mem.1 ql) | exact nextTo_in (Classical.byContradiction fun h=>absurd (find_mem.2 h) ql)
   ·omega
   ·exact i1.succ ‹_›
  refine qU (b_n (t_n (xK (sp (yI i) (sw (zi i 1 rfl rfl qf (sq 1 (xP (qW (m' :=(cs.length - ((i+1):Int)).toNat) qf ⟨_,_,_,_,_,_,_,i+1,uE5,?_,?_,?_,rfl,(N.pick [1]),H.pick [4] (zR 3 9)⟩)))))))))
  ·first | exact nextTo_new (find_mem.1 ql) | exact nextTo_in (Classical.byContradiction fun h=>absurd (find_mem.2 h) ql)
  ·omega
  ·exact i1.succ ‹_›
 refine zx4 (zcr (sq 2 (sp (yI 0) (zjr (ret2 (Sv jl vC jh) (yI 0) rfl rfl rfl ⟨_,rfl,?_,H.base⟩)))))
 rw [next_ok (fun j hj=>i1 j qf),show cs.length=i by omega]
 exact ⟨jl,vC,jh,Xk,yZ,rfl,N,H.pick [0] [0]⟩
theorem sameState_ok (w:World) (a:qH) (b:qH) (haAlive:zP w FaAlive aaAlive caAlive a.qI) (haBags:zP w FaBags aaBags caBags a.qP) (haAround:zP w FaAround aaAround caAround a.qN) (hbAlive:zP w FbAlive abAlive cbAlive b.qI) (hbBags:zP w FbBags abBags cbBags b.qP) (hbAround:zP w FbAround abAround cbAround b.qN):Calls Tryz.prog 176 #[.agg #[Sv aaAlive a.qI.length caAlive,Sv aaBags a.qP.length caBags,Sv aaAround a.qN.length caAround],.agg #[Sv abAlive b.qI.length cbAlive,Sv abBags b.qP.length cbBags,Sv abAround b.qN.length cbAround]] w (Ret (fun v w' =>v=Bv (decide (a=b))) w):=by
 refine en func176 ntmps176 ?_
 have H:=((((((St.start w).arg hbAround).arg hbBags).arg hbAlive).arg haAround).arg haBags).arg haAlive
 have nhaAlive:=qO haAlive
 have nhaBags:=qO haBags
 have nhaAround:=qO haAround
 have nhbAlive:=qO hbAlive
 have nhbBags:=qO hbBags
 have nhbAround:=qO hbAround
 clear haAlive haBags haAround hbAlive hbBags hbAround
 have N:=Fresh.nil w.heap.size
 refine zcr (sw (zY H (yT a aaAlive caAlive aaBags caBags aaAround caAround) fun b1 w2 H=>sw (zY H (yT b abAlive cbAlive abBags cbBags abAround cbAround) fun b3 w4 H=>sp (Bv false) (zjc (oF rfl (oL rfl (H.cell 1 rfl rfl) (oF rfl (oL rfl (H.cell 0 rfl rfl) (sw (oq (equalB_ok _ a.qI b.qI (H.get 0 rfl).1 (H.get 3 rfl).1) H fun w6 H=>sp (Bv (decide (a.qI=b.qI))) ?_))))))))))
 cases h8:(decide (a.qI=b.qI))
 ·replace h8:=of_decide_eq_false h8
  refine xR (zR 11 5) (sp (Bv false) (sp (Bv false) (xR (zR 18 5) (sp (Bv false) (sp (Bv false) (zjr (rH1 (Bv false) H ?_)))))))
  rw [decide_eq_false (fun e=>by subst e;first | omega | exact absurd rfl ql | simp_all)]
 replace h8:=of_decide_eq_true h8
 refine qJ 10 rfl rfl (oF rfl (qJ 10 rfl rfl (oL rfl (H.cell 1 rfl rfl) (qJ 10 rfl rfl (oF rfl (qJ 10 rfl rfl (oL rfl (H.cell 0 rfl rfl) (qJ 10 rfl rfl (sw (zN #[Sv aaBags a.qP.length caBags,Sv abBags b.qP.length cbBags,.func (.func 54) #[] #[]] rfl rfl call203 (en func203 ntmps203 ?_)))))))))))
 refine zcr (sp (Bv false) (zjcc (sq 1 (oN rfl (sq 1 (oN rfl (sq 1 (zjn (zT _ rfl (fun h9=>?_) (fun h9=>?_))))))))))
 ·replace h9:=bne_iff_ne.1 h9
  refine zcr (sp (Bv false) (zjr (t_r (ret1 (Bv false) rfl rfl ⟨_,rfl,(sp (Bv false) (sp (Bv false) (xR (zR 18 5) (sp (Bv false) (sp (Bv false) (zjr (rH1 (Bv false) H ?_)))))))⟩))))
  rw [decide_eq_false (fun e=>by subst e;first | omega | exact absurd rfl ql | simp_all)]
 replace h9:=xu h9
 refine qU (t_n (zcc (sq 1 (oN rfl (sp (yI 0) (zjn (qV ?_)))))))
 refine zA ((fun Z0 Z1 Z2 Z3 Z4 Z5 Z6 Z7=>fun m' ρ w10=>∃ (xQ:Env) (i:Nat),ρ=upd (upd (upd (upd (upd xQ 1 (Sv abBags b.qP.length cbBags)) 2 (.func (.func 54) #[] #[])) 15 (Sv aaBags a.qP.length caBags)) 16 (yI a.qP.length)) 17 (yI i)/\((i:Int)<=a.qP.length)/\(a.qP.take i=b.qP.take i)/\m' =(a.qP.length - (i:Int)).toNat/\Fresh w.heap.size []/\St w w10 [Z0,Z1] [Z2,Z3,Z4,Z5,Z6,Z7]) _ _ _ _ _ _ _ _) ((a.qP.length - (0:Int)).toNat) ⟨_,0,uE5,qf,(by rfl),rfl,N,H⟩ ?_
 clear H N
 rintro m' ρ w11 ⟨xQ,i,rfl,i0,i2,rfl,N,H⟩
 refine zcr (sq 1 (zjn (xU (cD rfl (fun h12=>?_) (fun h12=>?_)))))
 ·refine qU (t_n (xU (qV (zcr (sp (yI i) ?_)))))
  obtain ⟨b13,o14,rfl⟩:=H.addr 1 rfl qf
  obtain ⟨ae16,ce16,Fe16,H⟩:=H.ji 1 rfl i i qf qf qf
  refine oI rfl rfl (oL rfl (H.xW 1 rfl 0 rfl) (sp (yI i) (sq 1 (zjc (sq 1 (sp (yI i) ?_))))))
  obtain ⟨b17,o18,rfl⟩:=H.addr 6 rfl qf
  obtain ⟨ae20,ce20,Fe20,H⟩:=H.ji 6 rfl i i qf qf qf
  refine oI rfl rfl (oL rfl (H.xW 1 rfl 0 rfl) (sq 1 (zjc (sp (.func (.func 54) #[] #[]) (sq 2 (sw (oq (equalI_ok _ (a.qP[i]!) (b.qP[i]!) (H.get 2 rfl).1 (H.get 0 rfl).1) H fun w22 H=>sq 1 (zjn (zT _ rfl (fun h24=>?_) (fun h24=>?_))))))))))
  ·replace h24:=xm h24
   replace h24:=of_decide_eq_false h24
   refine zcr (sp (Bv false) (zjr (zr5 (ret1 (Bv false) rfl rfl ⟨_,rfl,(sp (Bv false) (sp (Bv false) (xR (zR 18 5) (sp (Bv false) (sp (Bv false) (zjr (rH1 (Bv false) H ?_)))))))⟩))))
   rw [decide_eq_false (fun e=>by subst e;first | omega | exact absurd rfl ql | simp_all)]
  replace h24:=qY h24
  replace h24:=of_decide_eq_true h24
  refine qU (b_n (t_n (xK (sw (zi i 1 rfl rfl qf (sq 1 (xP (qW (m' :=(a.qP.length - ((i+1):Int)).toNat) qf ⟨_,i+1,uE5,?_,?_,rfl,N,H.pick [0,1] (zR 4 6)⟩))))))))
  ·omega
  ·exact eqTo_succ qf qf i2 ql
 refine zx4 (zcr (sp (Bv true) (zjr (ret1 (Bv true) rfl rfl ⟨_,rfl,(sp (Bv true) (sp (Bv true) (qJ 17 rfl rfl (oF rfl (qJ 17 rfl rfl (oL rfl (H.cell 1 rfl rfl) (qJ 17 rfl rfl (oF rfl (qJ 17 rfl rfl (oL rfl (H.cell 0 rfl rfl) (qJ 17 rfl rfl (sw (oq (equalI_ok _ a.qN b.qN (H.get 2 rfl).1 (H.get 5 rfl).1) H fun w26 H=>sq 2 (zjr (rH1 (Bv (decide (a.qN=b.qN))) H ?_)))))))))))))))⟩))))
 rw [show decide (a=b)=decide (a.qN=b.qN) from decide_eq_decide.2 ⟨fun e=>by rw [e],fun e=>state_eq ql (QE (k:=i) qf qf i2) e⟩]
theorem behind_ok (w:World) (s:qG) (t:qH) (cs:yLL) (xf:zP w xF qM qL s.qC) (xE:zP w zu xg qX s.qE) (zk:zP w zQ xq xn t.qI) (zO:zP w vK xX xM t.qP) (xJ:zP w zo xe qZ t.qN) (hcs:zP w Fcs acs ccs cs) (p0:yj s) (p1:zV s t) (p2:cs.length<=1000) (p3:∀ q,q < cs.length->CntOk s (cs[q]!)) (p4:∀ q,q < cs.length->IsCh s t (cs[q]!)):Calls Tryz.prog 141 #[.agg #[yI s.xO,Sv qM s.qC.length qL,Sv xg s.qE.length qX],.agg #[Sv xq t.qI.length xn,Sv xX t.qP.length xM,Sv xe t.qN.length qZ],Sv acs cs.length ccs] w (Ret (fun v w' =>∃ (ra0:yOA) (rn0:Nat) (rc0:Nat) (rx0:List Value) (rF0:yLN),v=.tuple #[Sv ra0 rn0 rc0,yI ((QX s t cs).2)]/\Fresh w.heap.size [rF0]/\St w w' [rr ra0 rn0 rc0 43 3 rx0] [xN true rF0 rx0 ((QX s t cs).1)]) w):=by
 refine en func141 ntmps141 ?_
 have H:=((((((St.start w).arg hcs).arg xJ).arg zO).arg zk).arg xE).arg xf
 have vH:=qO xf
 have jD:=qO xE
 have yL:=qO zk
 have Qv:=qO zO
 have jQ:=qO xJ
 have nhcs:=qO hcs
 clear xf xE zk zO xJ hcs
 have N:=Fresh.nil w.heap.size
 refine zcr (sw (zY H (yS s qM qL xg qX) fun b1 w2 H=>sw (zY H (yT t xq xn xX xM xe qZ) fun b3 w4 H=>sq 1 (sp (yI 0) (zjc (sw (zW H underlying48 ti43 fun b5 w6 H=>sq 1 (zjcc (sq 1 (oN rfl (sp (yI 0) (zjn (qV ?_)))))))))))))
 replace H:=H.boxRow 0 rfl 3 0 rfl qj
 replace H:=H.vV (α:=qH)
 replace H:St _ _ [rr (aa b5 0) 0 0 43 3 [],.box b3 (yT t xq xn xX xM xe qZ) 43,.box b1 (yS s qM qL xg qX) 37] [xN true [] [] ([]:List qH),sF false xF qM qL s.qC,sF false zu xg qX s.qE,sF false zQ xq xn t.qI,sF false vK xX xM t.qP,sF false zo xe qZ t.qN,sF false Fcs acs ccs cs]:=H
 refine zA ((fun Z0 Z1 Z2 Z3 Z4 Z5 Z6 Z7=>fun m' ρ w7=>∃ (xQ:Env) (jl:yOA) (vC:Nat) (jh:Nat) (out:List qH) (Xk:List Value) (yZ:yLN) (k:Nat),ρ=upd (upd (upd (upd (upd (upd xQ 3 (pp b1 0)) 4 (pp b3 0)) 8 (Sv jl vC jh)) 14 (Sv acs cs.length ccs)) 15 (yI cs.length)) 16 (yI k)/\out=yA s t cs k/\((k:Int)<=cs.length)/\(NoBad s t cs k)/\m' =(cs.length - (k:Int)).toNat/\Fresh w.heap.size [yZ]/\St w w7 [rr jl vC jh 43 3 Xk,Z0,Z1] [xN true yZ Xk out,Z2,Z3,Z4,Z5,Z6,Z7]) _ _ _ _ _ _ _ _) ((cs.length - (0:Int)).toNat) ⟨_,(aa b5 0),0,0,([]:List qH),[],[],0,uE6,(by rfl),qf,qx,rfl,N.emp,H⟩ ?_
 clear H N
 rintro m' ρ w8 ⟨xQ,jl,vC,jh,out,Xk,yZ,k,rfl,rfl,i0,i1,rfl,N,H⟩
 have hn_out:=H.xB (α:=qH) 0 rfl 0 rfl qj
 have nl:=nextTo_len (s:=s) (t:=t) (cs:=cs) k
 refine zcr (sq 1 (zjn (xU (cD rfl (fun h9=>?_) (fun h9=>?_)))))
 ·refine qU (t_n (xU (qV (zcr ?_))))
  obtain ⟨b10,o11,rfl⟩:=H.addr 6 rfl qf
  obtain ⟨ae13,ce13,Fe13,H⟩:=H.ji 6 rfl k k qf qf qf
  refine oI rfl rfl (oL rfl (H.xW 1 rfl 0 rfl) (sq 1 (zjc (sw (x8 (yS s qM qL xg qX) isAgg37 sizeOf37 rfl (qF (H.cells 2 rfl) 0 3) (sw (x8 (yT t xq xn xX xM xe qZ) isAgg43 sizeOf43 rfl (qF (H.cells 1 rfl) 0 3) (sq 1 ?_))))))))
  have k3:=p3 k qf
  have k5:=p4 k qf
  have sz17:=H.base.size
  have lt18:=H.ltN (L:=[yZ]) [2]
  refine sw (oc (step_ok _ s t (cs[k]!) (H.get 3 rfl).1 (H.get 4 rfl).1 (H.get 5 rfl).1 (H.get 6 rfl).1 (H.get 7 rfl).1 (H.get 0 rfl).1 qg qg qg qg) ?_)
  rintro _ w15 ⟨ra14aAlive,rn14aAlive,rc14aAlive,ra14aBags,rn14aBags,rc14aBags,rx14aBags,rF14aBags,ra14aAround,rn14aAround,rc14aAround,rfl,M,K⟩ _
  replace N:=N.merge sz17 lt18 M
  replace H:=H.merge K M
  obtain rfl:=H.rowNB 0 rfl
  obtain rfl:=H.xB (α:=yLI) 1 rfl 0 rfl qj
  obtain rfl:=H.yt 2 rfl
  refine sq 3 (sw (xH H ti43 [yN,yN,yN] fun b22 w23 H=>?_))
  refine sw (xY H 0 [Sv ra14aAlive ((((jf s t (cs[k]!)).1).qI).length) rc14aAlive,Sv ra14aBags ((((jf s t (cs[k]!)).1).qP).length) rc14aBags,Sv ra14aAround ((((jf s t (cs[k]!)).1).qN).length) rc14aAround] sizeOf43 fun w24 H=>sq 1 (zjcc (sq 1 (sp (Bv (((jf s t (cs[k]!)).2:Int) != 0)) (zjn (zT (((jf s t (cs[k]!)).2:Int) != 0) rfl (fun h25=>?_) (fun h25=>?_)))))))
  ·replace h25:=bne_iff_ne.1 h25
   refine zcr (sq 3 (zjr (t_r (zr5 ?_))))
   replace H:=H.nilRow 43 3
   replace H:=H.vV (α:=qH)
   refine ret2 yN (yI ((jf s t (cs[k]!)).2)) rfl rfl rfl ⟨_,rfl,?_,H.base⟩
   rw [next_bad i1 qf ‹_›]
   exact ⟨none,0,0,[],[],rfl,(N.emp.pick [0]),H.pick [0] [0]⟩
  replace h25:=xu h25
  refine qU (t_n (zcr (sq 1 (sp (.func (.func 175) #[] #[pp b22 0]) (sw (zN #[Sv jl vC jh,.func (.func 175) #[] #[pp b22 0]] rfl rfl call174 (en func174 ntmps174 ?_)))))))
  refine zcr (sp (Bv false) (zjc (sq 1 (sp (.func (.func 175) #[] #[pp b22 0]) (sw (zN #[Sv jl vC jh,.func (.func 175) #[] #[pp b22 0]] rfl rfl call194 (en func194 ntmps194 ?_)))))))
  refine zcr (sp (yI 0) (zjcc (sq 1 (oN rfl (sp (yI 0) (zjn (qV ?_)))))))
  refine zA ((fun Z0 Z1 Z2 Z3 Z4 Z5 Z6 Z7 Z8 Z9 Z10 Z11 Z12 Z13 Z14 Z15 Z16=>fun m' ρ w26=>∃ (xQ:Env) (i:Nat),ρ=upd (upd (upd (upd xQ 0 (Sv jl vC jh)) 1 (.func (.func 175) #[] #[pp b22 0])) 7 (yI vC)) 8 (yI i)/\((i:Int)<=vC)/\(NotIn (yA s t cs k) (jf s t (cs[k]!)).1 i)/\m' =(vC - (i:Int)).toNat/\Fresh w.heap.size [rF14aBags,yZ]/\St w w26 [Z0,Z1,Z2,Z3,Z4,Z5,Z6] [Z7,Z8,Z9,Z10,Z11,Z12,Z13,Z14,Z15,Z16]) _ _ _ _ _ _ _ _ _ _ _ _ _ _ _ _ _) ((vC - (0:Int)).toNat) ⟨_,0,uE4,qf,qx,rfl,N,H⟩ ?_
  clear H N
  rintro m' ρ w27 ⟨xQ,i,rfl,i0,i2,rfl,N,H⟩
  refine zcr (sq 1 (zjn (xU (cD rfl (fun h28=>?_) (fun h28=>?_)))))
  ·refine qU (t_n (xU (qV (zcr (sp (yI i) (sp (yI i) (zjc (sp (.func (.func 175) #[] #[pp b22 0]) (sq 1 (sp (yI i) ?_))))))))))
   obtain ⟨b29,rfl⟩:=H.y5 4 rfl qf
   obtain ⟨ae30Alive,ce30Alive,Fe30Alive,ae30Bags,ce30Bags,Fe30Bags,ae30Around,ce30Around,Fe30Around,hx31,H⟩:=H.rowel_StateD 4 rfl 3 rfl (iv:=i) i qf qf
   refine oI rfl rfl (sw (x8 [Sv ae30Alive ((((yA s t cs k)[i]!).qI).length) ce30Alive,Sv ae30Bags ((((yA s t cs k)[i]!).qP).length) ce30Bags,Sv ae30Around ((((yA s t cs k)[i]!).qN).length) ce30Around] isAgg43 sizeOf43 rfl (qF (fun j v hj=>H.rowGet 4 rfl (hx31 j v hj)) 0 3) (sw (zN #[.agg #[Sv ae30Alive ((((yA s t cs k)[i]!).qI).length) ce30Alive,Sv ae30Bags ((((yA s t cs k)[i]!).qP).length) ce30Bags,Sv ae30Around ((((yA s t cs k)[i]!).qN).length) ce30Around],pp b22 0] rfl rfl call175 (en func175 ntmps175 ?_)))))
   refine zcr (sw (zY H [Sv ae30Alive ((((yA s t cs k)[i]!).qI).length) ce30Alive,Sv ae30Bags ((((yA s t cs k)[i]!).qP).length) ce30Bags,Sv ae30Around ((((yA s t cs k)[i]!).qN).length) ce30Around] fun b32 w33 H=>sp (Bv false) (zjc (sw (x8 [Sv ae30Alive ((((yA s t cs k)[i]!).qI).length) ce30Alive,Sv ae30Bags ((((yA s t cs k)[i]!).qP).length) ce30Bags,Sv ae30Around ((((yA s t cs k)[i]!).qN).length) ce30Around] isAgg43 sizeOf43 rfl (qF (H.cells 0 rfl) 0 3) ?_)))))
   refine sw (x8 [Sv ra14aAlive ((((jf s t (cs[k]!)).1).qI).length) rc14aAlive,Sv ra14aBags ((((jf s t (cs[k]!)).1).qP).length) rc14aBags,Sv ra14aAround ((((jf s t (cs[k]!)).1).qN).length) rc14aAround] isAgg43 sizeOf43 rfl (qF (H.cells 1 rfl) 0 3) ?_)
   obtain ⟨G34,hn35,h36⟩:=H.rowIsB 2 rfl
   obtain ⟨G37,hn38,h39⟩:=H.XE (α:=yLI) 3 rfl 3 rfl qj
   obtain ⟨G40,hn41,h42⟩:=H.QV 4 rfl
   refine sw (oq (sameState_ok _ ((yA s t cs k)[i]!) ((jf s t (cs[k]!)).1) (H.get 0 rfl).1 (H.get 1 rfl).1 (H.get 2 rfl).1 h36 h39 h42) H fun w44 H=>sq 1 (zjr (ret1 (Bv (decide (((yA s t cs k)[i]!)=((jf s t (cs[k]!)).1)))) rfl rfl ⟨_,rfl,?_⟩)))
   replace H:=H.erases [0]
   dsimp only [zU,List.eraseIdx] at H
   refine zjn (cD rfl (fun h46=>?_) (fun h46=>?_))
   ·refine zcr (sp (yI i) (sp (yI i) (zjr (zr5 (ret1 (yI i) rfl rfl ⟨_,rfl,(sw (o_pure (Bv true) (by show some (Value.bool (decide ((i:Int)>=0)))=some (Value.bool true);rw [decide_eq_true qf]) (sp (Bv true) (zjr (ret1 (Bv true) rfl rfl ⟨_,rfl,(sp (Bv false) (zjn (cFr rfl (qU (b_n (t_n (xK (sw (zi k 1 rfl rfl qf (sq 1 (xP ?_)))))))))))⟩)))))⟩)))))
    refine qW (m' :=(cs.length - ((k+1):Int)).toNat) qf ⟨_,_,_,_,_,_,_,k+1,uE6,?_,?_,?_,rfl,(N.pick [1]),H.pick [4,5,6] (zR 6 7)⟩
    ·first | exact nextTo_new (NotIn.out (fun j hj=>i2 j qf)) | exact nextTo_in (mem_at (k:=i) qf ql)
    ·omega
    ·exact i1.succ ‹_›
   refine qU (b_n (t_n (xK (sw (zi i 1 rfl rfl qf (sq 1 (xP (qW (m' :=(vC - ((i+1):Int)).toNat) qf ⟨_,i+1,uE4,?_,?_,rfl,N,H.pick (zR 0 7) (zR 3 10)⟩))))))))
   ·omega
   ·exact i2.succ ‹_›
  refine zx4 (zcr (sq 1 (zjr (ret1 (yI (-1)) rfl rfl ⟨_,rfl,(sp (Bv false) (sp (Bv false) (zjr (ret1 (Bv false) rfl rfl ⟨_,rfl,(sp (Bv true) (zjn (cTr rfl (xK (sq 1 (sw (x8 [Sv ra14aAlive ((((jf s t (cs[k]!)).1).qI).length) rc14aAlive,Sv ra14aBags ((((jf s t (cs[k]!)).1).qP).length) rc14aBags,Sv ra14aAround ((((jf s t (cs[k]!)).1).qN).length) rc14aAround] isAgg43 sizeOf43 rfl (qF (H.cells 0 rfl) 0 3) ?_)))))))⟩))))⟩))))
  refine sw (xx H underlying48 ti43 [Sv ra14aAlive ((((jf s t (cs[k]!)).1).qI).length) rc14aAlive,Sv ra14aBags ((((jf s t (cs[k]!)).1).qP).length) rc14aBags,Sv ra14aAround ((((jf s t (cs[k]!)).1).qN).length) rc14aAround] fun b47 w48 H=>?_)
  obtain ⟨G52,N,hn53,H⟩:=H.freezeB 2 rfl N (H.vz [0,3])
  have H0:=H
  obtain ⟨G54,hg56,hn55,H⟩:=H.Qj (α:=yLI) 3 rfl 1 rfl qj
  replace N:Fresh w.heap.size [G54,G52,yZ]:=Fresh.ice (N.pick [1,0,2]) H0 3 hg56.1 hg56.2 (H0.vz [0,4])
  clear H0
  obtain ⟨G57,N,hn58,H⟩:=H.zh 4 rfl N (H.vz [0,1,5])
  refine sw (zG H 5 rfl 0 rfl underlying48 ti43 rfl qj rfl rfl rfl qw qp qf fun a49 c50 w51 H=>?_)
  replace H:=H.Xa 6 rfl 2 rfl 1 rfl 0 rfl
  replace N:Fresh w.heap.size [(yZ++(G52++G54++G57))]:=(N.pick [2,1,0,3]).join.join.swap.join
  refine sq 1 (xP (b_n (t_n (xK (sw (zi k 1 rfl rfl qf (sq 1 (xP (qW (m' :=(cs.length - ((k+1):Int)).toNat) qf ⟨_,_,_,_,_,_,_,k+1,uE6,?_,?_,?_,rfl,N,H.pick [5,6,7] (0::zR 8 6)⟩)))))))))
  ·first | exact nextTo_new (NotIn.out (fun j hj=>i2 j qf)) | exact nextTo_in (mem_at (k:=i) qf ql)
  ·omega
  ·exact i1.succ ‹_›
 refine zx4 (zcr (sq 2 (sp (yI 0) (zjr (ret2 (Sv jl vC jh) (yI 0) rfl rfl rfl ⟨_,rfl,?_,H.base⟩)))))
 rw [next_ok (fun j hj=>i1 j qf),show cs.length=k by omega]
 exact ⟨jl,vC,jh,Xk,yZ,rfl,N,H.pick [0] [0]⟩
end
section
def dotP:yLI->yLL->Nat->Int
 | n::y,p::ps,q=>n * p[q]! +dotP y ps q
 | _,_,_=>0
theorem packs_mem {K:Nat} {parts:yLL} (hP:PartsOk K parts):∀ (f k:Nat) (rest y:yLI),k+f=parts.length->RestOk K rest->y∈packs parts f k rest→
 (∀ v∈y,0<=v/\v<=1000)/\∀ q,q < K->0<=rest[q]! - dotP y (parts.drop k) q
 | 0,k,rest,y,hk,hR,h=>by
  rw [packs] at h
  split at h
  ·obtain rfl:=List.mem_singleton.1 h
   refine ⟨fun v hv=>by simp at hv,fun q hq=>?_⟩
   have:=(hR.2 q hq).1
   simp only [dotP];omega
  ·simp at h
 | f+1,k,rest,y,hk,hR,h=>by
  rw [packs,List.mem_flatMap] at h
  obtain ⟨n,hn,h⟩:=h
  obtain ⟨y',hy,rfl⟩:=List.mem_map.1 h
  have hb:=times_bd hP hR (k:=k) qf
  rw [List.mem_range] at hn
  obtain ⟨h1,h2⟩:=packs_mem hP f (k+1) _ y' qf (hR.take hP qf (n:=(n:Int)) qf qf) hy
  refine ⟨fun v hv=>?_,fun q hq=>?_⟩
  ·rcases List.mem_cons.1 hv with rfl | hv
   ·omega
   ·exact h1 v hv
  ·have h3:=h2 q hq
   rw [plus_get (by have:=hR.1;omega),Int.neg_mul] at h3
   rw [drop_cons' (show k < parts.length by omega),dotP]
   omega
where
 drop_cons' {l:yLL} {i:Nat} (h:i < l.length):l.drop i=l[i]! :: l.drop (i+1):=by
  rw [getElem!_pos l i h];exact (List.drop_eq_getElem_cons h)
def XT (s:qG) (x:yLI) (q:Nat):yLI->Int
 | []=>0
 | r::l=>x[r.toNat]! * ((s.qE[r.toNat]!).vF)[q]! +XT s x q l
theorem sumOver_cat (s:qG) (x:yLI) (q:Nat):∀ (l m:yLI),XT s x q (l++m)=XT s x q l+XT s x q m
 | [],m=>by simp [XT]
 | r::l,m=>by rw [List.cons_append,XT,XT,sumOver_cat s x q l m];omega
theorem sumOver_dot {s:qG} {x:yLI} {q:Nat}:∀ {l y:yLI},y.length=l.length->(∀ j,j < l.length->x[(l[j]!).toNat]! =y[j]!)->XT s x q l=dotP y (vT s l) q
 | [],[],_,_=>rfl
 | [],_::_,h,_=>by simp at h
 | _::_,[],h,_=>by simp at h
 | r::l,v::y,h,h1=>by
  have h0:=h1 0 qm
  simp only [List.getElem!_cons_zero] at h0
  show _=dotP (v::y) ((s.qE[r.toNat]!).vF::vT s l) q
  rw [XT,dotP,h0,sumOver_dot (by simpa using h) fun j hj=>by simpa using h1 (j+1) qy]
theorem needS_cell {s:qG} {t:qH} {x:yLI} {c q:Nat} (hs:yj s):∀ k,k<=s.qE.length->(∀ i,i < k->(s.qE[i]!).qR=(c:Int)->¬ Appl s t i->x[i]! =0)->needS s x k c q= -(XT s x q (cellT s t k c))
 | 0,_,_=>by simp [needS,cellT,applL,XT]
 | k+1,hk,h=>by
  have ih:=needS_cell (t:=t) (c:=c) (q:=q) hs k qf fun i hi=>h i qf
  rw [needS,ih,needF,at']
  by_cases e:(s.qE[k]!).qR=(c:Int)
  ·rw [if_pos qf]
   by_cases ha:Appl s t k
   ·rw [← cellT_yes ha e,sumOver_cat]
    simp only [XT,Int.toNat_natCast]
    rw [Int.neg_mul];omega
   ·rw [← Xc ha,h k qf e ha]
    simp
  ·rw [if_neg (fun h' =>e (by have:=(hs.rule (i:=k) qf).1.1;omega)),← QO e];omega
theorem setTo_ne {o r x:yLI} {p:Nat}:∀ {k:Nat},(∀ j,j < k->(r[j]!).toNat≠p)->(∀ j,j < k->(r[j]!).toNat < o.length)->(setTo o r x k)[p]! =o[p]!
 | 0,_,_=>rfl
 | k+1,h,h1=>by
  rw [setTo,getset (by rw [setTo_len];exact h1 k qf),if_neg (fun e=>h k qf e.symm)]
  exact setTo_ne (fun j hj=>h j qf) fun j hj=>h1 j qf
theorem setTo_eq {o r x:yLI} {j:Nat}:∀ {k:Nat},(∀ a b,a < k->b < k->(r[a]!).toNat=(r[b]!).toNat->a=b)->(∀ j,j < k->(r[j]!).toNat < o.length)->j < k->(setTo o r x k)[(r[j]!).toNat]! =x[j]!
 | 0,_,_,h=>by omega
 | k+1,hi,h1,hj=>by
  rw [setTo,getset (by rw [setTo_len];exact h1 k qf)]
  by_cases e:j=k
  ·subst e;rw [if_pos rfl]
  ·rw [if_neg (fun e' =>e (hi j k qf qf e'))]
   exact setTo_eq (fun a b ha hb=>hi a b qf qf) (fun j hj=>h1 j qf) qf
theorem inj_lt {α:Type} [LT α] {l:List α} (irr:∀ x:α,¬ x < x) (h:l.Pairwise (· < ·)) (ha:a < l.length) (hb:b < l.length) (e:l[a]=l[b]):a=b:=by
 rw [List.pairwise_iff_getElem] at h
 rcases Nat.lt_trichotomy a b with h1 | h1 | h1
 ·have:=h a b ha hb h1;rw [e] at this;exact absurd this (irr _)
 ·exact h1
 ·have:=h b a hb ha h1;rw [e] at this;exact absurd this (irr _)
theorem applL_lt (s:qG) (t:qH) (k:Nat):(applL s t k).Pairwise (· < ·):=by
 unfold applL
 rw [List.pairwise_map]
 exact (List.pairwise_lt_range.filter _).imp fun h=>by simpa using h
theorem cellR_inj (ha:a < (vU s t c).length) (hb:b < (vU s t c).length) (h:((vU s t c)[a]!).toNat=((vU s t c)[b]!).toNat):a=b:=by
 have h1:=(cellR_at ha).1
 have h2:=(cellR_at hb).1
 have hn:(vU s t c).Pairwise (· < ·):=by unfold vU cellT;exact (applL_lt s t _).filter _
 have e:(vU s t c)[a]! =(vU s t c)[b]! :=by omega
 rw [getElem!_pos _ a ha,getElem!_pos _ b hb] at e
 exact inj_lt (fun x=>by omega) hn ha hb e
theorem live_cell (h:i < (xy s t k).length) (h' :i' < (xy s t k).length):∃ c c',(xy s t k)[i]! =vU s t c/\(xy s t k)[i']! =vU s t c' /\(c=c' ->i=i'):=by
 have hl:i < (XH s t k).length:=by simpa [xy] using h
 have hl' :i' < (XH s t k).length:=by simpa [xy] using h'
 have hn:(XH s t k).Pairwise (· < ·):=by unfold XH;exact List.pairwise_lt_range.filter _
 refine ⟨(XH s t k)[i],(XH s t k)[i'],?_,?_,fun e=>inj_lt (fun x=>by omega) hn hl hl' e⟩
 ·rw [getElem!_pos _ i h];simp [xy]
 ·rw [getElem!_pos _ i' h'];simp [xy]
theorem rules_inj (h:i < (xy s t k).length) (h' :i' < (xy s t k).length) (hj:j < ((xy s t k)[i]!).length) (hj' :j' < ((xy s t k)[i']!).length)
 (e:(((xy s t k)[i]!)[j]!).toNat=(((xy s t k)[i']!)[j']!).toNat):i=i' /\j=j' :=by
 obtain ⟨c,c',e1,e2,e3⟩:=live_cell h h'
 rw [e1] at hj e
 rw [e2] at hj' e
 have h1:=cellR_at hj
 have h2:=cellR_at hj'
 have hc:c=c' :=by
  have a:=h1.2.2.2
  have b:=h2.2.2.2
  rw [e] at a
  omega
 subst hc
 exact ⟨e3 rfl,cellR_inj hj hj' e⟩
def Says (s:qG) (t:qH) (k m:Nat) (x:yLI):Prop:=
 x.length=s.qE.length/\(∀ i,i < m->∃ y,y∈(zl s t k)[i]! /\∀ j,j < ((xy s t k)[i]!).length->x[(((xy s t k)[i]!)[j]!).toNat]! =y[j]!)∧
 ∀ r,r < s.qE.length->(∀ i,i < m->∀ j,j < ((xy s t k)[i]!).length->(((xy s t k)[i]!)[j]!).toNat≠r)->x[r]! =0
theorem prodG_says {s:qG} {t:qH} {k:Nat}:∀ m,m<=(xy s t k).length->∀ x∈Qa s.qE.length (xy s t k) (zl s t k) m,Says s t k m x
 | 0,_,x,h=>by
  obtain rfl:=List.mem_singleton.1 h
  refine ⟨by simp,fun i hi=>by omega,fun r hr _=>?_⟩
  rw [getElem!_pos _ r (by simpa using hr)];simp
 | m+1,hm,x,h=>by
  rw [Qa,nextK,List.mem_flatMap] at h
  obtain ⟨o,ho,h⟩:=h
  obtain ⟨y,hy,rfl⟩:=List.mem_map.1 h
  obtain ⟨h1,h2,h3⟩:=prodG_says m qf o (List.mem_of_mem_take ho)
  have hb:∀ j,j < ((xy s t k)[m]!).length->(((xy s t k)[m]!)[j]!).toNat < o.length:=fun j hj=>by rw [h1];exact (choice_at qf hj).2
  have hn:∀ a b,a < ((xy s t k)[m]!).length->b < ((xy s t k)[m]!).length->(((xy s t k)[m]!)[a]!).toNat=(((xy s t k)[m]!)[b]!).toNat->a=b:=fun a b ha hb' e=>(rules_inj (show m < _ by omega) (show m < _ by omega) ha hb' e).2
  refine ⟨by rw [setAll_len];exact h1,fun i hi=>?_,fun r hr hne=>?_⟩
  ·by_cases e:i=m
   ·subst e
    exact ⟨y,hy,fun j hj=>setTo_eq hn hb hj⟩
   ·obtain ⟨y',hy',h4⟩:=h2 i qf
    refine ⟨y',hy',fun j hj=>?_⟩
    rw [← h4 j hj]
    exact setTo_ne (fun a ha e' =>e (rules_inj (show m < _ by omega) (show i < _ by omega) ha hj e').1.symm) hb
  ·rw [← h3 r hr fun i hi j hj=>hne i qf j hj]
   exact setTo_ne (fun a ha=>hne m qf a ha) hb
theorem cell_live (hk:c < k) (h:¬ (vU s t c).length=0):∃ i,i < (xy s t k).length/\(xy s t k)[i]! =vU s t c/\(zl s t k)[i]! =(cellP s t c).1:=by
 have hm:c∈XH s t k:=List.mem_filter.2 ⟨List.mem_range.2 hk,decide_eq_true h⟩
 obtain ⟨i,hi,e⟩:=List.mem_iff_getElem.1 hm
 refine ⟨i,by simpa [xy] using hi,?_,?_⟩
 ·rw [getElem!_pos _ i (by simpa [xy] using hi)];simp [xy,e]
 ·rw [getElem!_pos _ i (by simpa [zl] using hi)];simp [zl,e]
theorem says_choice (hs:yj s) (ht:zV s t) {x:yLI} (h:Says s t s.qC.length (xy s t s.qC.length).length x):CntOk s x/\IsCh s t x:=by
 obtain ⟨h1,h2,h3⟩:=h
 have hB:=ht.2.1
 -- a packing of a cell
 have cell:∀ c,c < s.qC.length->¬ (vU s t c).length=0->∃ y,y.length=(vU s t c).length/\(∀ v∈y,0<=v/\v<=1000)/\(∀ j,j < (vU s t c).length->x[((vU s t c)[j]!).toNat]! =y[j]!)/\∀ q,q < Qm s->0<=(t.qP[c]!)[q]! - dotP y (vT s (vU s t c)) q:=fun c hc hr=>by
  obtain ⟨i,hi,e1,e2⟩:=cell_live (s:=s) (t:=t) hc hr
  obtain ⟨y,hy,h4⟩:=h2 i hi
  rw [e1] at h4
  rw [e2] at hy
  unfold cellP at hy
  rcases all_cases (b:=t.qP[c]!) (parts:=vT s (vU s t c)) with h5 | ⟨_,h5,_⟩
  ·rw [h5] at hy;simp at hy
  ·rw [h5] at hy
   have h6:=packs_mem (cell_parts (t:=t) hs c) _ 0 _ y (Nat.zero_add _) (cell_rest ht qf) hy
   exact ⟨y,(packs_len hy).trans (Xt _ _),h6.1,h4,h6.2⟩
 have at' :∀ i,i < s.qE.length->(x[i]! =0\/Appl s t i)/\0<=x[i]! /\x[i]! <=1000:=fun i hi=>by
  by_cases hex:∃ a b,a < (xy s t s.qC.length).length/\b < ((xy s t s.qC.length)[a]!).length/\(((xy s t s.qC.length)[a]!)[b]!).toNat=i
  ·obtain ⟨a,b,ha,hb,e⟩:=hex
   obtain ⟨c,hc,hr,e1,_⟩:=live_at ha
   rw [e1] at hb e
   obtain ⟨y,hl,hv,hx,_⟩:=cell c hc hr
   have h5:=cellR_at hb
   have h6:=hx b hb
   rw [e] at h5 h6
   have h7:=hv (y[b]!) (by rw [getElem!_pos y b qf];exact List.getElem_mem _)
   rw [h6]
   exact ⟨.inr h5.2.2.1,h7⟩
  ·have h5:=h3 i hi fun a ha b hb e=>hex ⟨a,b,ha,hb,e⟩
   rw [h5]
   exact ⟨.inl rfl,by omega,by omega⟩
 have hc:CntOk s x:=⟨h1,fun i hi=>(at' i qf).2⟩
 refine ⟨hc,fun i hi hb=>?_,fun p hp q hq=>?_⟩
 ·rcases (at' i qf).1 with h5 | h5
  ·have:=hb.1;omega
  ·exact hb.2 h5
 ·rw [h1] at hq ⊢
  have he:=restR_ent hs ht hc s.qE.length (Nat.le_refl _)
  have hl:((QR s t x s.qE.length)[p]!).length=Qm s:=(he.sh.2 p (by unfold jC;omega)).1
  have heq:=he.eq p q (by unfold jC;omega) qf
  rw [heq]
  have hn:=needS_cell (t:=t) (x:=x) (c:=p) (q:=q) hs s.qE.length (Nat.le_refl _) fun i hi _ ha=>((at' i hi).1).resolve_right ha
  rw [hn]
  have hbag:=(cell_rest (s:=s) ht hp).2 q qf
  by_cases hr:(vU s t p).length=0
  ·show 0<=(t.qP[p]!)[q]! + -(XT s x q (vU s t p))
   rw [List.eq_nil_of_length_eq_zero hr]
   simp only [XT];omega
  ·obtain ⟨y,hy,_,hx,hd⟩:=cell p qf hr
   have h6:=hd q qf
   rw [← sumOver_dot hy hx] at h6
   show 0<=(t.qP[p]!)[q]! + -(XT s x q (vU s t p))
   omega
theorem cho_ok (hs:yj s) (ht:zV s t) (hk:k < (jG s t).1.length):CntOk s ((jG s t).1[k]!)/\IsCh s t ((jG s t).1[k]!):=by
 have hm:(jG s t).1[k]! ∈(jG s t).1:=mem_at_L hk
 generalize (jG s t).1[k]! =x at hm
 unfold jG at hm
 split at hm
 ·simp at hm
 ·split at hm
  ·simp at hm
  ·have hx:x∈inOrder (Qa s.qE.length (xy s t s.qC.length) (zl s t s.qC.length) (zl s t s.qC.length).length):=hm
   unfold inOrder at hx
   have hle:=packsL_le s t s.qC.length
   split at hx
   ·next h=>exact says_choice hs ht (by rw [← hle];exact prodG_says _ qf x ((Classical.choose_spec h).1.symm.subset hx))
   ·exact says_choice hs ht (by rw [← hle];exact prodG_says _ qf x hx)
theorem halt_cells (h:Halted s t) (c:Nat):(vU s t c).length=0:=by
 have h1:=appls_halt.2 h
 have h2:(vU s t c).length<=(appls s t).length:=List.length_filter_le _ _
 omega
theorem halt_live {s:qG} {t:qH} (h:Halted s t):∀ k,zl s t k=[]
 | 0=>rfl
 | k+1=>by rw [← packsL_no (halt_cells h k)];exact halt_live h k
theorem halt_cho (h:Halted s t):(jG s t).2=0:=by
 unfold jG
 rw [if_neg (fun h' =>h' fun c _=>.inl (halt_cells h c)),halt_live h,if_neg (by show ¬ 1 > 300;omega)]
open Classical in
noncomputable def xG (s:qG) (t:qH):List qH×Int:=if Halted s t then ([],0) else if (jG s t).2≠0 then ([],(jG s t).2) else QX s t (jG s t).1
theorem succ_h (h:Halted s t):xG s t=([],0):=by rw [xG,if_pos h]
theorem succ_c (h:(jG s t).2≠0):xG s t=([],(jG s t).2):=by rw [xG,if_neg (fun h' =>h (halt_cho h')),if_pos h]
theorem succ_0 (h:¬ Halted s t) (h1:(jG s t).2=0):xG s t=QX s t (jG s t).1:=by rw [xG,if_neg h,if_neg (fun x=>x h1)]
end
section
variable {qL qX xn xM qZ : Nat}
theorem l03Succ_ok (w:World) (s:qG) (t:qH) (hs:vg w bs os (yS s qM qL xg qX)) (xf:zP w xF qM qL s.qC) (xE:zP w zu xg qX s.qE) (ht:vg w bt ot (yT t xq xn xX xM xe qZ)) (zk:zP w zQ xq xn t.qI) (zO:zP w vK xX xM t.qP) (xJ:zP w zo xe qZ t.qN) (p0:yj s) (p1:zV s t):Calls Tryz.prog 191 #[pp bs os,pp bt ot] w (Ret (fun v w' =>∃ (ra0:yOA) (rn0:Nat) (rc0:Nat) (rx0:List Value) (rF0:yLN),v=.tuple #[Sv ra0 rn0 rc0,yI ((xG s t).2)]/\Fresh w.heap.size [rF0]/\St w w' [rr ra0 rn0 rc0 43 3 rx0] [xN true rF0 rx0 ((xG s t).1)]) w):=by
 refine en func191 ntmps191 ?_
 have H:=(((((((St.start w).arg xJ).arg zO).arg zk).Q7 ht).arg xE).arg xf).Q7 hs
 have vH:=qO xf
 have jD:=qO xE
 have yL:=qO zk
 have Qv:=qO zO
 have jQ:=qO xJ
 clear hs xf xE ht zk zO xJ
 have N:=Fresh.nil w.heap.size
 refine zcr (sq 1 (sp (yI 0) (zjcc (sq 2 (sw (oq (l03Halted_ok _ s t (qF (H.get 0 rfl) 0 3) (H.get 1 rfl).1 (H.get 2 rfl).1 (qF (H.get 3 rfl) 0 3) (H.get 4 rfl).1 (H.get 5 rfl).1 (H.get 6 rfl).1 qg qg) H fun w2 H=>zjn (cP rfl (fun h4=>?_) (fun h4=>?_))))))))
 ·refine zcr (sw (zW H underlying48 ti43 fun b5 w6 H=>sq 1 (sp (yI 0) (zjr (t_r ?_)))))
  replace H:=H.boxRow 0 rfl 3 0 rfl qj
  replace H:=H.vV (α:=qH)
  replace H:St _ _ [rr (aa b5 0) 0 0 43 3 []] [xN true [] [] ([]:List qH),atF bs os (yS s qM qL xg qX),sF false xF qM qL s.qC,sF false zu xg qX s.qE,atF bt ot (yT t xq xn xX xM xe qZ),sF false zQ xq xn t.qI,sF false vK xX xM t.qP,sF false zo xe qZ t.qN]:=H
  refine ret2 (Sv (aa b5 0) 0 0) (yI 0) rfl rfl rfl ⟨_,rfl,?_,H.base⟩
  rw [succ_h (by first | assumption | exact appls_halt.1 qf)]
  exact ⟨(aa b5 0),0,0,[],[],rfl,N.emp,H.pick [0] [0]⟩
 refine qU (t_n (zcr (sq 2 ?_)))
 have sz10:=H.base.size
 refine sw (oc (l03Choices_ok _ s t (qF (H.get 0 rfl) 0 3) (H.get 1 rfl).1 (H.get 2 rfl).1 (qF (H.get 3 rfl) 0 3) (H.get 4 rfl).1 (H.get 5 rfl).1 (H.get 6 rfl).1 qg qg) ?_)
 rintro _ w8 ⟨ra7a,rn7a,rc7a,rx7a,rF7a,rfl,M,K⟩ _
 replace N:=N.merge sz10 qm M
 replace H:=H.merge K M
 obtain rfl:=H.xB (α:=yLI) 0 rfl 0 rfl qj
 refine sq 5 (zjcc (sq 1 (sp (Bv (((jG s t).2:Int) != 0)) (zjn (zT (((jG s t).2:Int) != 0) rfl (fun h13=>?_) (fun h13=>?_))))))
 ·replace h13:=bne_iff_ne.1 h13
  refine zcr (sw (zW H underlying48 ti43 fun b14 w15 H=>sq 3 (zjr (t_r ?_))))
  replace H:=H.boxRow 0 rfl 3 0 rfl qj
  replace H:=H.vV (α:=qH)
  replace H:St _ _ [rr (aa b14 0) 0 0 43 3 [],rr ra7a (((jG s t).1).length) rc7a 27 1 rx7a] [xN true [] [] ([]:List qH),xN true rF7a rx7a ((jG s t).1),atF bs os (yS s qM qL xg qX),sF false xF qM qL s.qC,sF false zu xg qX s.qE,atF bt ot (yT t xq xn xX xM xe qZ),sF false zQ xq xn t.qI,sF false vK xX xM t.qP,sF false zo xe qZ t.qN]:=H
  refine ret2 (Sv (aa b14 0) 0 0) (yI ((jG s t).2)) rfl rfl rfl ⟨_,rfl,?_,H.base⟩
  rw [succ_c ‹_›]
  exact ⟨(aa b14 0),0,0,[],[],rfl,(N.emp.pick [0]),H.pick [0] [0]⟩
 replace h13:=xu h13
 refine qU (t_n (zcr (sq 3 ?_)))
 obtain ⟨G16,hn17,h18⟩:=H.XE (α:=yLI) 0 rfl 0 rfl qj
 have ln:=cho_len s t
 have cc:=fun q (hq:q < (jG s t).1.length)=>(cho_ok p0 p1 hq).1
 have ci:=fun q (hq:q < (jG s t).1.length)=>(cho_ok p0 p1 hq).2
 have sz22:=H.base.size
 have lt23:=H.ltN (L:=[rF7a]) [0]
 refine sw (oc (l03Next_ok _ s t ((jG s t).1) (qF (H.get 1 rfl) 0 3) (H.get 2 rfl).1 (H.get 3 rfl).1 (qF (H.get 4 rfl) 0 3) (H.get 5 rfl).1 (H.get 6 rfl).1 (H.get 7 rfl).1 h18 qg qg qg qg) ?_)
 rintro _ w20 ⟨ra19a,rn19a,rc19a,rx19a,rF19a,rfl,M,K⟩ _
 replace N:=N.merge sz22 lt23 M
 replace H:=H.merge K M
 obtain rfl:=H.xB (α:=qH) 0 rfl 0 rfl qj
 refine sq 4 (zjr (ret2 (Sv ra19a (((QX s t ((jG s t).1)).1).length) rc19a) (yI ((QX s t ((jG s t).1)).2)) rfl rfl rfl ⟨_,rfl,?_,H.base⟩))
 rw [succ_0 (by first | assumption | exact fun h=>by have:=appls_halt.2 h;omega) ql]
 exact ⟨ra19a,((QX s t ((jG s t).1)).1).length,rc19a,rx19a,rF19a,rfl,(N.pick [0]),H.pick [0] [0]⟩
theorem nextStates_ok (w:World) (s:qG) (t:qH) (xf:zP w xF qM qL s.qC) (xE:zP w zu xg qX s.qE) (zk:zP w zQ xq xn t.qI) (zO:zP w vK xX xM t.qP) (xJ:zP w zo xe qZ t.qN) (p0:yj s) (p1:zV s t):Calls Tryz.prog 90 #[.agg #[yI s.xO,Sv qM s.qC.length qL,Sv xg s.qE.length qX],.agg #[Sv xq t.qI.length xn,Sv xX t.qP.length xM,Sv xe t.qN.length qZ]] w (Ret (fun v w' =>∃ (ra0:yOA) (rn0:Nat) (rc0:Nat) (rx0:List Value) (rF0:yLN),v=.tuple #[Sv ra0 rn0 rc0,yI ((xG s t).2)]/\Fresh w.heap.size [rF0]/\St w w' [rr ra0 rn0 rc0 43 3 rx0] [xN true rF0 rx0 ((xG s t).1)]) w):=by
 refine en func90 ntmps90 ?_
 have H:=(((((St.start w).arg xJ).arg zO).arg zk).arg xE).arg xf
 have vH:=qO xf
 have jD:=qO xE
 have yL:=qO zk
 have Qv:=qO zO
 have jQ:=qO xJ
 clear xf xE zk zO xJ
 have N:=Fresh.nil w.heap.size
 refine zcr (sw (zY H (yS s qM qL xg qX) fun b1 w2 H=>sw (zY H (yT t xq xn xX xM xe qZ) fun b3 w4 H=>sq 1 (sp (yI 0) (zjc (sw (x8 (yS s qM qL xg qX) isAgg37 sizeOf37 rfl (qF (H.cells 1 rfl) 0 3) ?_)))))))
 refine sw (x8 (yT t xq xn xX xM xe qZ) isAgg43 sizeOf43 rfl (qF (H.cells 0 rfl) 0 3) ?_)
 have sz8:=H.base.size
 refine sw (oc (choices_ok _ s t (H.get 0 rfl).1 (H.get 1 rfl).1 (H.get 2 rfl).1 (H.get 3 rfl).1 (H.get 4 rfl).1 qg qg) ?_)
 rintro _ w6 ⟨ra5a,rn5a,rc5a,rx5a,rF5a,rfl,M,K⟩ _
 replace N:=N.merge sz8 qm M
 replace H:=H.merge K M
 obtain rfl:=H.xB (α:=yLI) 0 rfl 0 rfl qj
 refine sq 5 (zjcc (sq 1 (sp (Bv (((jG s t).2:Int) != 0)) (zjn (zT (((jG s t).2:Int) != 0) rfl (fun h11=>?_) (fun h11=>?_))))))
 ·replace h11:=bne_iff_ne.1 h11
  refine zcr (sq 3 (zjr (t_r ?_)))
  replace H:=H.nilRow 43 3
  replace H:=H.vV (α:=qH)
  refine ret2 yN (yI ((jG s t).2)) rfl rfl rfl ⟨_,rfl,?_,H.base⟩
  rw [succ_c ‹_›]
  exact ⟨none,0,0,[],[],rfl,(N.emp.pick [0]),H.pick [0] [0]⟩
 replace h11:=xu h11
 refine qU (t_n (zcc (sw (x8 (yS s qM qL xg qX) isAgg37 sizeOf37 rfl (qF (H.cells 2 rfl) 0 3) (sw (x8 (yT t xq xn xX xM xe qZ) isAgg43 sizeOf43 rfl (qF (H.cells 1 rfl) 0 3) ?_))))))
 have sz15:=H.base.size
 refine sw (oc (applicable_ok _ s t (H.get 1 rfl).1 (H.get 2 rfl).1 (H.get 3 rfl).1 (H.get 4 rfl).1 (H.get 5 rfl).1 qg qg) ?_)
 rintro _ w13 ⟨ra12,rn12,rc12,rfl,M,K⟩ _
 replace H:=H.merge K M
 obtain rfl:=H.yt 0 rfl
 refine oN rfl (sp (Bv (((appls s t).length:Int) == 0)) (zjn (cE rfl (fun h18=>?_) (fun h18=>?_))))
 ·refine zcr (sq 1 (sp (yI 0) (zjr (t_r ?_))))
  replace H:=H.nilRow 43 3
  replace H:=H.vV (α:=qH)
  refine ret2 yN (yI 0) rfl rfl rfl ⟨_,rfl,?_,H.base⟩
  rw [succ_h (by first | assumption | exact appls_halt.1 qf)]
  exact ⟨none,0,0,[],[],rfl,(N.emp.pick [0]),H.pick [0] [0]⟩
 refine qU (t_n (zcr (sw (x8 (yS s qM qL xg qX) isAgg37 sizeOf37 rfl (qF (H.cells 3 rfl) 0 3) (sw (x8 (yT t xq xn xX xM xe qZ) isAgg43 sizeOf43 rfl (qF (H.cells 2 rfl) 0 3) (sq 1 ?_)))))))
 obtain ⟨G19,hn20,h21⟩:=H.XE (α:=yLI) 1 rfl 0 rfl qj
 have ln:=cho_len s t
 have cc:=fun q (hq:q < (jG s t).1.length)=>(cho_ok p0 p1 hq).1
 have ci:=fun q (hq:q < (jG s t).1.length)=>(cho_ok p0 p1 hq).2
 have sz25:=H.base.size
 have lt26:=H.ltN (L:=[rF5a]) [0]
 refine sw (oc (behind_ok _ s t ((jG s t).1) (H.get 1 rfl).1 (H.get 2 rfl).1 (H.get 3 rfl).1 (H.get 4 rfl).1 (H.get 5 rfl).1 h21 qg qg qg qg qg) ?_)
 rintro _ w23 ⟨ra22a,rn22a,rc22a,rx22a,rF22a,rfl,M,K⟩ _
 replace N:=N.merge sz25 lt26 M
 replace H:=H.merge K M
 obtain rfl:=H.xB (α:=qH) 0 rfl 0 rfl qj
 refine sq 4 (zjr (ret2 (Sv ra22a (((QX s t ((jG s t).1)).1).length) rc22a) (yI ((QX s t ((jG s t).1)).2)) rfl rfl rfl ⟨_,rfl,?_,H.base⟩))
 rw [succ_0 (by first | assumption | exact fun h=>by have:=appls_halt.2 h;omega) ql]
 exact ⟨ra22a,((QX s t ((jG s t).1)).1).length,rc22a,rx22a,rF22a,rfl,(N.pick [0]),H.pick [0] [0]⟩
end
section
theorem nextTo_ok {s:qG} {t:qH} {cs:yLL}:∀ {k:Nat},NoBad s t cs k->∀ u∈yA s t cs k,zV s u
 | 0,_,u,hu=>by simp [yA] at hu
 | k+1,h,u,hu=>by
  have ih:=nextTo_ok (s:=s) (t:=t) (cs:=cs) (k:=k) fun j hj=>h j qf
  rw [yA] at hu
  split at hu
  ·exact ih u hu
  ·rcases List.mem_append.1 hu with h1 | h1
   ·exact ih u h1
   ·obtain rfl:=List.mem_singleton.1 h1
    exact stepBy_ok (Classical.byContradiction fun hc=>h k qf hc)
theorem succ_ok:∀ u∈(xG s t).1,zV s u:=fun u hu=>by
 rw [xG] at hu
 split at hu
 ·simp at hu
 ·split at hu
  ·simp at hu
  ·rw [QX] at hu
   split at hu
   ·next h=>exact nextTo_ok h u hu
   ·simp at hu
theorem least_of {g:Nat->Bool}:∀ k,g k=true->∃ m,m<=k/\g m=true/\∀ j,j < m->g j=false:=fun k=>Nat.strongRecOn k fun k ih h=>by
 by_cases hx:∃ j,j < k/\g j=true
 ·obtain ⟨j,hj,h1⟩:=hx
  obtain ⟨m,a,b,c⟩:=ih j hj h1
  exact ⟨m,by omega,b,c⟩
 ·exact ⟨k,Nat.le_refl _,h,fun j hj=>by
   cases e:g j with
   | false=>rfl
   | true=>exact absurd ⟨j,hj,e⟩ hx⟩
theorem firstIdx_lt {g:Nat->Bool} (h:0<=firstIdx g n):(firstIdx g n).toNat < n:=by
 by_cases hx:∃ k,k < n/\g k=true
 ·obtain ⟨k,hk,h1⟩:=hx
  obtain ⟨m,a,b,c⟩:=least_of k h1
  rw [firstIdx_some (show m < n by omega) c b];omega
 ·rw [firstIdx_none (fun j hj=>by
   cases e:g j with
   | false=>rfl
   | true=>exact absurd ⟨j,hj,e⟩ hx)] at h
  omega
def jA (S nx:List qH):Nat->List qH×yLI
 | 0=>(S,[])
 | k+1=>if firstIdx (fun j=>decide ((jA S nx k).1[j]! =nx[k]!)) (jA S nx k).1.length < 0 then ((jA S nx k).1++[nx[k]!],(jA S nx k).2++[((jA S nx k).1.length:Int)])
  else ((jA S nx k).1,(jA S nx k).2++[firstIdx (fun j=>decide ((jA S nx k).1[j]! =nx[k]!)) (jA S nx k).1.length])
theorem XP (h:firstIdx (fun j=>decide ((jA S nx k).1[j]! =nx[k]!)) (jA S nx k).1.length < 0):
 (jA S nx k).1++[nx[k]!]=(jA S nx (k+1)).1/\(jA S nx k).2++[((jA S nx k).1.length:Int)]=(jA S nx (k+1)).2:=by
 rw [jA,if_pos h];exact ⟨rfl,rfl⟩
theorem XO (h:¬ firstIdx (fun j=>decide ((jA S nx k).1[j]! =nx[k]!)) (jA S nx k).1.length < 0):
 (jA S nx k).1=(jA S nx (k+1)).1/\(jA S nx k).2++[firstIdx (fun j=>decide ((jA S nx k).1[j]! =nx[k]!)) (jA S nx k).1.length]=(jA S nx (k+1)).2:=by
 rw [jA,if_neg h];exact ⟨rfl,rfl⟩
theorem addSt_len {S nx:List qH}:∀ k,S.length<=(jA S nx k).1.length/\(jA S nx k).1.length<=S.length+k/\(jA S nx k).2.length=k
 | 0=>⟨Nat.le_refl _,Nat.le_refl _,rfl⟩
 | k+1=>by
  have h:=addSt_len (S:=S) (nx:=nx) k
  rw [jA]
  split <;> simp only [List.length_append,List.length_cons,List.length_nil] <;> omega
theorem addSt_mem {S nx:List qH} {p:qH->Prop} (h1:∀ u∈S,p u) (h2:∀ u∈nx,p u):∀ k,k<=nx.length->∀ u∈(jA S nx k).1,p u
 | 0,_,u,hu=>h1 u hu
 | k+1,hk,u,hu=>by
  have ih:=addSt_mem h1 h2 k qf
  rw [jA] at hu
  split at hu
  ·rcases List.mem_append.1 hu with h | h
   ·exact ih u h
   ·obtain rfl:=List.mem_singleton.1 h
    exact h2 _ (by rw [getElem!_pos nx k qf];exact List.getElem_mem _)
  ·exact ih u hu
noncomputable def grGo (s:qG):Nat->Nat->List qH->yLL->(List qH×yLL)×Int
 | 0,_,S,R=>((S,R),0)
 | f+1,i,S,R=>if S.length<=i then ((S,R),0) else if (xG s (S[i]!)).2≠0 then (([],[]),(xG s (S[i]!)).2)
  else if (jA S (xG s (S[i]!)).1 (xG s (S[i]!)).1.length).1.length > 300 then (([],[]),3)
  else grGo s f (i+1) (jA S (xG s (S[i]!)).1 (xG s (S[i]!)).1.length).1 (R++[(jA S (xG s (S[i]!)).1 (xG s (S[i]!)).1.length).2])
noncomputable def grRes (s:qG) (t:qH):(List qH×yLL)×Int:=grGo s 302 0 [t] []
theorem gr_end (h:S.length<=i):grGo s f i S R=((S,R),0):=by
 cases f with
 | zero=>rfl
 | succ f=>rw [grGo,if_pos h]
theorem gr_code (hf:0 < f) (h:i < S.length) (h1:(xG s (S[i]!)).2≠0):grGo s f i S R=(([],[]),(xG s (S[i]!)).2):=by
 obtain ⟨f,rfl⟩:∃ g,f=g+1:=⟨f - 1,by omega⟩
 rw [grGo,if_neg qf,if_pos h1]
theorem gr_many (hf:0 < f) (h:i < S.length) (h1:(xG s (S[i]!)).2=0) (hk:k=(xG s (S[i]!)).1.length) (h2:(jA S (xG s (S[i]!)).1 k).1.length > 300):grGo s f i S R=(([],[]),3):=by
 obtain ⟨f,rfl⟩:∃ g,f=g+1:=⟨f - 1,by omega⟩
 subst hk
 rw [grGo,if_neg qf,if_neg (fun x=>x h1),if_pos h2]
theorem gr_go (hf:0 < f) (h:i < S.length) (h1:(xG s (S[i]!)).2=0) (hk:k=(xG s (S[i]!)).1.length) (h2:¬ (jA S (xG s (S[i]!)).1 k).1.length > 300):
 grGo s f i S R=grGo s (f - 1) (i+1) (jA S (xG s (S[i]!)).1 k).1 (R++[(jA S (xG s (S[i]!)).1 k).2]):=by
 obtain ⟨f,rfl⟩:∃ g,f=g+1:=⟨f - 1,by omega⟩
 subst hk
 rw [grGo,if_neg qf,if_neg (fun x=>x h1),if_neg h2]
 rfl
structure GrOk (S:List qH) (R:yLL):Prop where
 rows:∀ i,i < R.length->∀ k,k < (R[i]!).length->0<=(R[i]!)[k]! /\((R[i]!)[k]!).toNat < S.length
 lens:∀ i,i < R.length->(R[i]!).length<=300
 from' :∀ j,0 < j->j < S.length->∃ i,i < R.length/\i < j/\∃ k,k < (R[i]!).length/\(R[i]!)[k]! =(j:Int)
theorem addSt_rows {S nx:List qH}:∀ k,(∀ q,q < k->0<=(jA S nx k).2[q]! /\((jA S nx k).2[q]!).toNat < (jA S nx k).1.length)/\∀ j,S.length<=j->j < (jA S nx k).1.length->∃ q,q < k/\(jA S nx k).2[q]! =(j:Int)
 | 0=>⟨fun q hq=>by omega,fun j h1 h2=>by have:j < S.length:=h2;omega⟩
 | k+1=>by
  obtain ⟨h1,h2⟩:=addSt_rows (S:=S) (nx:=nx) k
  obtain ⟨l1,l2,l3⟩:=addSt_len (S:=S) (nx:=nx) k
  have hg:∀ (x:Int) q,q < k->((jA S nx k).2++[x])[q]! =(jA S nx k).2[q]! :=fun x q hq=>by
   rw [getElem!_pos _ q qy,getElem!_pos _ q qf,List.getElem_append_left]
  have hk:∀ (x:Int),((jA S nx k).2++[x])[k]! =x:=fun x=>by
   rw [getElem!_pos _ k qy,List.getElem_append_right qf];simp [l3]
  rw [jA]
  split
  ·refine ⟨fun q hq=>?_,fun j hj hj2=>?_⟩
   ·show 0<=((jA S nx k).2++[_])[q]! /\(((jA S nx k).2++[_])[q]!).toNat < ((jA S nx k).1++[_]).length
    rw [List.length_append,List.length_singleton]
    by_cases e:q=k
    ·subst e;rw [hk];omega
    ·rw [hg _ q qf];have:=h1 q qf;omega
   ·have hj3:j < (jA S nx k).1.length+1:=by simpa using hj2
    by_cases e:j=(jA S nx k).1.length
    ·exact ⟨k,by omega,by subst e;exact hk _⟩
    ·obtain ⟨q,hq,e2⟩:=h2 j hj qf
     exact ⟨q,by omega,by rw [← e2];exact hg _ q hq⟩
  ·next hn=>
   have hb:0<=firstIdx (fun j=>decide ((jA S nx k).1[j]! =nx[k]!)) (jA S nx k).1.length:=by omega
   have hb2:(firstIdx (fun j=>decide ((jA S nx k).1[j]! =nx[k]!)) (jA S nx k).1.length).toNat < (jA S nx k).1.length:=firstIdx_lt hb
   refine ⟨fun q hq=>?_,fun j hj hj2=>?_⟩
   ·show 0<=((jA S nx k).2++[_])[q]! /\(((jA S nx k).2++[_])[q]!).toNat < (jA S nx k).1.length
    by_cases e:q=k
    ·subst e;rw [hk];exact ⟨hb,hb2⟩
    ·rw [hg _ q qf];exact h1 q qf
   ·obtain ⟨q,hq,e2⟩:=h2 j hj hj2
    exact ⟨q,by omega,by rw [← e2];exact hg _ q hq⟩
theorem GrOk.start (t:qH):GrOk [t] []:=⟨fun i hi=>by simp at hi,fun i hi=>by simp at hi,fun j h1 h2=>by simp at h2;omega⟩
theorem GrOk.next (h:GrOk S R) (hR:R.length < S.length) (hk:k<=300):GrOk (jA S nx k).1 (R++[(jA S nx k).2]):=by
 obtain ⟨h1,h2⟩:=addSt_rows (S:=S) (nx:=nx) k
 obtain ⟨l1,l2,l3⟩:=addSt_len (S:=S) (nx:=nx) k
 have hg:∀ i,i < R.length->(R++[(jA S nx k).2])[i]! =R[i]! :=fun i hi=>by
  rw [getElem!_pos _ i qy,getElem!_pos _ i hi,List.getElem_append_left]
 have he:(R++[(jA S nx k).2])[R.length]! =(jA S nx k).2:=by
  rw [getElem!_pos _ R.length qm];simp
 refine ⟨fun i hi q hq=>?_,fun i hi=>?_,fun j hj hj2=>?_⟩
 ·rw [List.length_append,List.length_singleton] at hi
  by_cases e:i=R.length
  ·subst e;rw [he] at hq ⊢;exact h1 q qf
  ·rw [hg i qf] at hq ⊢;have:=h.rows i qf q hq;omega
 ·rw [List.length_append,List.length_singleton] at hi
  by_cases e:i=R.length
  ·subst e;rw [he];omega
  ·rw [hg i qf];exact h.lens i qf
 ·rw [List.length_append,List.length_singleton]
  by_cases e:j < S.length
  ·obtain ⟨i,hi,hij,q,hq,e2⟩:=h.from' j hj e
   exact ⟨i,by omega,hij,q,by rw [hg i hi];exact hq,by rw [hg i hi];exact e2⟩
  ·obtain ⟨q,hq,e2⟩:=h2 j qf hj2
   exact ⟨R.length,by omega,by omega,q,by rw [he];omega,by rw [he];exact e2⟩
def HaltIn (R:yLL):Nat->Nat->Prop
 | 0,_=>False
 | f+1,i=>∀ k,k < (R[i]!).length->HaltIn R f ((R[i]!)[k]!).toNat
def mxF (g:Nat->Int) (r:yLI):Nat->Int
 | 0=>0
 | k+1=>max (mxF g r k) (g ((r[k]!).toNat)+1)
def dpN (R:yLL):Nat->Nat->Int
 | 0,_=>0
 | f+1,i=>mxF (dpN R f) (R[i]!) (R[i]!).length
def Fi (R:yLL) (i:Nat) (d:Int):Prop:=∃ f,HaltIn R f i/\dpN R f i=d
def Halts (R:yLL) (i:Nat):Prop:=∃ f,HaltIn R f i
theorem mxF_congr {g g' :Nat->Int} {r:yLI}:∀ k:Nat,(∀ q,q < k->g ((r[q]!).toNat)=g' ((r[q]!).toNat))->mxF g r k=mxF g' r k
 | 0,_=>rfl
 | k+1,h=>by rw [mxF,mxF,mxF_congr k fun q hq=>h q qf,h k qf]
theorem haltIn_mono {R:yLL}:∀ f i,HaltIn R f i->∀ f',f<=f' ->HaltIn R f' i/\dpN R f' i=dpN R f i
 | 0,_,h,_,_=>h.elim
 | f+1,i,h,f',hf=>by
  obtain ⟨f',rfl⟩:∃ x,f' =x+1:=⟨f' - 1,by omega⟩
  exact ⟨fun k hk=>(haltIn_mono f _ (h k hk) f' qf).1,mxF_congr _ fun q hq=>(haltIn_mono f _ (h q hq) f' qf).2⟩
theorem Fi.same {d':Int} (h:Fi R i d) (h' :Fi R i d'):d=d' :=by
 obtain ⟨f,h1,rfl⟩:=h
 obtain ⟨f',h2,rfl⟩:=h'
 by_cases hx:f<=f'
 ·exact (haltIn_mono f i h1 f' hx).2.symm
 ·exact (haltIn_mono f' i h2 f qf).2
theorem Fi.halts (h:Fi R i d):Halts R i:=⟨h.choose,h.choose_spec.1⟩
theorem fi_all {R:yLL} {g:Nat->Int} {r:yLI}:∀ k:Nat,(∀ q,q < k->Fi R ((r[q]!).toNat) (g ((r[q]!).toNat)))->∃ f,∀ q,q < k->HaltIn R f ((r[q]!).toNat)/\dpN R f ((r[q]!).toNat)=g ((r[q]!).toNat)
 | 0,_=>⟨0,fun q hq=>by omega⟩
 | k+1,h=>by
  obtain ⟨f,hf⟩:=fi_all k fun q hq=>h q qf
  obtain ⟨f',h1,h2⟩:=h k qf
  refine ⟨max f f',fun q hq=>?_⟩
  by_cases e:q=k
  ·subst e
   obtain ⟨a,b⟩:=haltIn_mono f' _ h1 (max f f') (Nat.le_max_right ..)
   exact ⟨a,b.trans h2⟩
  ·obtain ⟨c,d⟩:=hf q qf
   obtain ⟨a,b⟩:=haltIn_mono f _ c (max f f') (Nat.le_max_left ..)
   exact ⟨a,b.trans d⟩
theorem fi_step {g:Nat->Int} (h:∀ q,q < (R[i]!).length->Fi R (((R[i]!)[q]!).toNat) (g (((R[i]!)[q]!).toNat))):Fi R i (mxF g (R[i]!) (R[i]!).length):=by
 obtain ⟨f,hf⟩:=fi_all _ h
 exact ⟨f+1,fun k hk=>(hf k hk).1,mxF_congr _ fun q hq=>(hf q hq).2⟩
theorem not_halt {p:Nat->Prop} (h:∀ j,p j->∃ k,k < (R[j]!).length/\p (((R[j]!)[k]!).toNat)) (hi:p i):¬ Halts R i:=by
 rintro ⟨f,hf⟩
 induction f generalizing i with
 | zero=>exact hf
 | succ f ih=>
  obtain ⟨k,hk,hp⟩:=h i hi
  exact ih hp (hf k hk)
theorem Halts.go (h:Halts R i) (hk:k < (R[i]!).length):Halts R (((R[i]!)[k]!).toNat):=by
 obtain ⟨f,hf⟩:=h
 cases f with
 | zero=>exact hf.elim
 | succ f=>exact ⟨f,hf k hk⟩
structure LayI (R:yLL) (D:yLI) (O:List Bool) (left:Int):Prop where
 dl:D.length=R.length
 ol:O.length=R.length
 fi:∀ j,j < R.length->O[j]! =true->Fi R j (D[j]!)
 nn:∀ j,j < R.length->0<=D[j]! /\D[j]! <=R.length - left
 lf:left=R.length - (O.count true:Int)
theorem repAt1 {α:Type} [Inhabited α] {a:α} (h:j < n):(List.replicate n a)[j]! =a:=by rw [getElem!_pos _ j (by simpa using h)];simp
theorem LayI.start (R:yLL):LayI R (List.replicate R.length 0) (List.replicate R.length false) R.length:=
 ⟨by simp,by simp,fun j hj h=>by rw [repAt1 hj] at h;exact absurd h qj,fun j hj=>by rw [repAt1 hj];omega,by simp [List.count_replicate]⟩
theorem mxF_le {g:Nat->Int} {r:yLI} {m:Int} (hm:0<=m):∀ k:Nat,(∀ q,q < k->g ((r[q]!).toNat)+1<=m)->0<=mxF g r k/\mxF g r k<=m
 | 0,_=>⟨Int.le_refl _,hm⟩
 | k+1,h=>by
  have h1:=mxF_le hm k fun q hq=>h q qf
  have h2:=h k qf
  rw [mxF];omega
theorem count_set:∀ {i:Nat},i < O.length->O[i]! =false->(O.set i true).count true=O.count true+1:=by
 induction O with
 | nil=>intro i h;simp at h
 | cons a O ih=>
  intro i h h1
  cases i with
  | zero=>simp at h1;subst h1;simp
  | succ i=>
   have:=ih (i:=i) (by simpa using h) (by simpa using h1)
   rw [List.set_cons_succ,List.count_cons,List.count_cons,this];omega
theorem setAt1 {α:Type} [Inhabited α] {l:List α} {a:α} (h:j < l.length):(l.set i a)[j]! =if i=j then a else l[j]! :=by
 rw [getElem!_pos _ j (by simpa using h),List.getElem_set,getElem!_pos l j h]
theorem LayI.set {R:yLL} {D:yLI} {O:List Bool} {left:Int} (h:LayI R D O left) {i:Nat} (hi:i < R.length) (h1:O[i]! =false) (hr:∀ k,k < (R[i]!).length->(((R[i]!)[k]!).toNat) < R.length)
 (ha:∀ k,k < (R[i]!).length->O[((R[i]!)[k]!).toNat]! =true) {m:Nat} (hm:m=(R[i]!).length):LayI R (D.set i (mxF (fun j=>D[j]!) (R[i]!) m)) (O.set i true) (left - 1):=by
 subst hm
 have hb:=mxF_le (g:=fun j=>D[j]!) (r:=R[i]!) (m:=(R.length:Int) - (left - 1)) (by have:=h.nn i hi;omega) (R[i]!).length fun q hq=>by have:=h.nn _ (hr q hq);show D[_]! +1<=_;omega
 refine ⟨by simp [h.dl],by simp [h.ol],fun j hj ho=>?_,fun j hj=>?_,?_⟩
 ·rw [setAt1 (by rw [h.dl];exact hj)]
  by_cases e:i=j
  ·subst e;rw [if_pos rfl];exact fi_step fun q hq=>h.fi _ (hr q hq) (ha q hq)
  ·rw [if_neg e];rw [setAt1 (by rw [h.ol];exact hj),if_neg e] at ho;exact h.fi j hj ho
 ·rw [setAt1 (by rw [h.dl];exact hj)]
  by_cases e:i=j
  ·rw [if_pos e];exact hb
  ·rw [if_neg e];have:=h.nn j hj;omega
 ·rw [count_set (by rw [h.ol];exact hi) h1];have:=h.lf;omega
def NoneR (R:yLL) (O:List Bool) (i:Nat):Prop:=∀ j,j < i->O[j]! =false->∃ k,k < (R[j]!).length/\O[((R[j]!)[k]!).toNat]! =false
theorem NoneR.succ (h:NoneR R O i) (h1:O[i]! =true\/∃ k,k < (R[i]!).length/\O[((R[i]!)[k]!).toNat]! =false):NoneR R O (i+1):=fun j hj ho=>by
 by_cases e:j=i
 ·subst e
  rcases h1 with h1 | h1
  ·rw [h1] at ho;cases ho
  ·exact h1
 ·exact h j qf ho
theorem succ_len (s:qG) (t:qH):(xG s t).1.length<=300:=by
 rw [xG]
 split
 ·simp
 ·split
  ·simp
  ·have:=cho_len s t
   rw [QX]
   split
   ·have:=nextTo_len (s:=s) (t:=t) (cs:=(jG s t).1) (jG s t).1.length;show (yA ..).length<=_;omega
   ·simp
inductive Rch (R:yLL):Nat->Nat->Prop
 | refl (j:Nat):Rch R j j
 | step {j i:Nat} (k:Nat):k < (R[j]!).length->Rch R (((R[j]!)[k]!).toNat) i->Rch R j i
theorem Rch.one (h:Rch R j i) (hk:k < (R[i]!).length):Rch R j (((R[i]!)[k]!).toNat):=by
 induction h with
 | refl j=>exact .step k hk (.refl _)
 | step q hq _ ih=>exact .step q hq (ih hk)
theorem Rch.not (hk:k < (R[i]!).length) (h:Rch R (((R[i]!)[k]!).toNat) i):¬ Halts R i:=
 not_halt (p:=fun j=>Rch R j i) (fun j hj=>by
  cases hj with
  | refl=>exact ⟨k,hk,h⟩
  | step q hq h1=>exact ⟨q,hq,h1⟩) (.refl i)
def RowsIn (R:yLL):Prop:=R.length<=300/\∀ j,j < R.length->(R[j]!).length<=300/\∀ k,k < (R[j]!).length->0<=(R[j]!)[k]! /\((R[j]!)[k]!).toNat < R.length
structure VisI (R:yLL) (M D:yLI):Prop where
 ml:M.length=R.length
 dl:D.length=R.length
 mr:∀ j,j < R.length->M[j]! =0\/M[j]! =1\/M[j]! =2
 fi:∀ j,j < R.length->M[j]! =2->Fi R j (D[j]!)
 nz:∀ j,j < R.length->M[j]! =0->D[j]! =0
 bd:∀ j,j < R.length->0<=D[j]! /\D[j]! <=M.count 2/\(M[j]! =2->D[j]! +1<=M.count 2)
structure VisEnd (R:yLL) (M D M' D' :yLI) (i:Nat):Prop where
 vi:VisI R M' D'
 me:M'[i]! =2
 kp:∀ j:Nat,M[j]! ≠0->M'[j]! =M[j]! /\D'[j]! =D[j]!
 op:∀ j:Nat,M'[j]! =1->M[j]! =1
 c0:M'.count 0<=M.count 0
 c2:M.count 2<=M'.count 2
structure VisL (R:yLL) (M D M' D' :yLI) (i k:Nat):Prop where
 vi:VisI R M' D'
 m0:M[i]! =0
 me:M'[i]! =1
 kp:∀ j:Nat,M[j]! ≠0->M'[j]! =M[j]! /\D'[j]! =D[j]!
 op:∀ j:Nat,M'[j]! =1->M[j]! =1\/j=i
 dn:∀ q:Nat,q < k->M'[((R[i]!)[q]!).toNat]! =2
 mx:D'[i]! =mxF (fun j=>D'[j]!) (R[i]!) k
 c0:M'.count 0 < M.count 0
 c2:M.count 2<=M'.count 2
theorem count_setI {l:yLI} {a b c:Int}:∀ {i:Nat},i < l.length->l[i]! =b->b≠a->((l.set i a).count c:Int)=l.count c+(if a=c then 1 else 0) - (if b=c then 1 else 0):=by
 induction l with
 | nil=>intro i h;simp at h
 | cons x l ih=>
  intro i h h1 hab
  cases i with
  | zero=>simp at h1;subst h1;rw [List.set_cons_zero,List.count_cons,List.count_cons];simp only [beq_iff_eq];split <;> split <;> omega
  | succ i=>
   have:=ih (i:=i) (by simpa using h) (by simpa using h1) hab
   rw [List.set_cons_succ,List.count_cons,List.count_cons];omega
theorem setAt0 {l:yLI} {a:Int}:(l.set i a)[j]! =if i=j/\j < l.length then a else l[j]! :=by
 by_cases h:j < l.length
 ·rw [setAt1 h];simp [h]
 ·rw [if_neg qf,getElem!_neg _ j (by simpa using h),getElem!_neg _ j (by simpa using h)]
theorem VisI.start (R:yLL):VisI R (List.replicate R.length 0) (List.replicate R.length 0):=
 ⟨by simp,by simp,fun j hj=>by rw [repAt1 hj];omega,fun j hj h=>by rw [repAt1 hj] at h;exact absurd h qj,fun j hj _=>repAt1 hj,fun j hj=>by rw [repAt1 hj];exact ⟨by omega,by omega,fun h=>absurd h qj⟩⟩
theorem VisL.start (h:VisI R M D) (hi:i < R.length) (h0:M[i]! =0):VisL R M D (M.set i 1) D i 0:=by
 have hm:=h.ml
 have c2:=count_setI (c:=2) (a:=1) (show i < M.length by omega) h0 qj
 have c0:=count_setI (c:=0) (a:=1) (show i < M.length by omega) h0 qj
 simp only [Int.reduceEq,if_false,if_true] at c0 c2
 refine ⟨⟨by simp [h.ml],h.dl,fun j hj=>?_,fun j hj hx=>?_,fun j hj hx=>?_,fun j hj=>?_⟩,h0,by rw [setAt0,if_pos ⟨rfl,by omega⟩],fun j hj=>?_,fun j hj=>?_,fun q hq=>by omega,h.nz i hi h0,by omega,by omega⟩
 ·rw [setAt0];split
  ·omega
  ·exact h.mr j hj
 ·rw [setAt0] at hx;split at hx
  ·omega
  ·exact h.fi j hj hx
 ·rw [setAt0] at hx;split at hx
  ·omega
  ·exact h.nz j hj hx
 ·have hb:=h.bd j hj
  rw [setAt0];split
  ·exact ⟨hb.1,by omega,fun hx=>absurd hx qj⟩
  ·exact ⟨hb.1,by omega,fun hx=>by have:=hb.2.2 hx;omega⟩
 ·rw [setAt0,if_neg (by rintro ⟨rfl,_⟩;exact hj h0)];exact ⟨rfl,rfl⟩
 ·rw [setAt0] at hj;split at hj
  ·exact .inr qf
  ·exact .inl hj
theorem VisL.go (h:VisL R M D M' D' i k) (hk:k < (R[i]!).length) (hi:i < R.length) (hR:RowsIn R) (h1:M'[((R[i]!)[k]!).toNat]! =2):VisL R M D M' (D'.set i (max (D'[i]!) (D'[((R[i]!)[k]!).toNat]! +1))) i (k+1):=by
 have hv:=h.vi
 have hk1:=((hR.2 i hi).2 k hk).2
 have hne:i≠((R[i]!)[k]!).toNat:=fun e=>by have:=h.me;rw [e,h1] at this;exact absurd this qj
 have hb:=hv.bd i hi
 have hb1:=hv.bd _ hk1
 have hb2:=hb1.2.2 h1
 have hs:∀ j,j≠i->(D'.set i (max (D'[i]!) (D'[((R[i]!)[k]!).toNat]! +1)))[j]! =D'[j]! :=fun j hj=>by rw [setAt0,if_neg qf]
 have hme:(D'.set i (max (D'[i]!) (D'[((R[i]!)[k]!).toNat]! +1)))[i]! =max (D'[i]!) (D'[((R[i]!)[k]!).toNat]! +1):=by rw [setAt0,if_pos ⟨rfl,by rw [hv.dl];exact hi⟩]
 have hdn:∀ q,q < k+1->M'[((R[i]!)[q]!).toNat]! =2:=fun q hq=>by
  by_cases e:q=k
  ·subst e;exact h1
  ·exact h.dn q qf
 refine ⟨⟨hv.ml,by simp [hv.dl],hv.mr,fun j hj hx=>?_,fun j hj hx=>?_,fun j hj=>?_⟩,h.m0,h.me,fun j hj=>?_,h.op,hdn,?_,h.c0,h.c2⟩
 ·rw [hs j (fun e=>by subst e;rw [h.me] at hx;exact absurd hx qj)];exact hv.fi j hj hx
 ·rw [hs j (fun e=>by subst e;rw [h.me] at hx;exact absurd hx qj)];exact hv.nz j hj hx
 ·by_cases e:j=i
  ·subst e;rw [hme];exact ⟨by omega,by omega,fun hx=>by rw [h.me] at hx;exact absurd hx qj⟩
  ·rw [hs j e];exact hv.bd j hj
 ·have h2:=h.kp j hj
  by_cases e:j=i
  ·subst e;exact absurd h.m0 hj
  ·rw [hs j e];exact h2
 ·rw [hme,mxF,hs _ (Ne.symm hne)]
  rw [mxF_congr (g' :=fun j=>D'[j]!) k fun q hq=>hs _ (fun e=>by have:=h.dn q hq;rw [e,h.me] at this;exact absurd this qj)]
  rw [← h.mx]
theorem VisL.sub {M2 D2:yLI} (h:VisL R M D M' D' i k) (e:VisEnd R M' D' M2 D2 j'):VisL R M D M2 D2 i k:=by
 have hi:=e.kp i (by rw [h.me];decide)
 have hq:∀ q,q < k->M2[((R[i]!)[q]!).toNat]! =2/\D2[((R[i]!)[q]!).toNat]! =D'[((R[i]!)[q]!).toNat]! :=fun q hq=>by
  have h1:=h.dn q hq
  obtain ⟨a,b⟩:=e.kp _ (show M'[((R[i]!)[q]!).toNat]! ≠0 by rw [h1];decide)
  exact ⟨a.trans h1,b⟩
 refine ⟨e.vi,h.m0,hi.1.trans h.me,fun j hj=>?_,fun j hj=>h.op j (e.op j hj),fun q hk=>(hq q hk).1,?_,by have:=e.c0;have:=h.c0;omega,by have:=e.c2;have:=h.c2;omega⟩
 ·obtain ⟨a,b⟩:=h.kp j hj
  obtain ⟨c,d⟩:=e.kp j (by rw [a];exact hj)
  exact ⟨c.trans a,d.trans b⟩
 ·rw [hi.2,h.mx];exact mxF_congr k fun q hk=>(hq q hk).2.symm
theorem VisI.top (h:VisI R M D) (hR:RowsIn R) (hj:j < R.length):0<=D[j]! /\D[j]! <=300:=by
 have h1:=h.bd j hj
 have h2:=List.count_le_length (a:=2) (l:=M)
 have h3:=h.ml
 have h4:=hR.1
 omega
end
section
variable {cl : Nat}
theorem find_ok (w:World) (l:List qH) (u:qH) (hl:zP w Fl al cl l) (huAlive:zP w FuAlive auAlive cuAlive u.qI) (huBags:zP w FuBags auBags cuBags u.qP) (huAround:zP w FuAround auAround cuAround u.qN):Calls Tryz.prog 154 #[Sv al l.length cl,.agg #[Sv auAlive u.qI.length cuAlive,Sv auBags u.qP.length cuBags,Sv auAround u.qN.length cuAround]] w (Ret (fun v w' =>v=yI (firstIdx (fun zz=>decide (l[zz]! =u)) l.length)) w):=by
 refine en func154 ntmps154 ?_
 have H:=((((St.start w).arg huAround).arg huBags).arg huAlive).arg hl
 have nhl:=qO hl
 have nhuAlive:=qO huAlive
 have nhuBags:=qO huBags
 have nhuAround:=qO huAround
 clear hl huAlive huBags huAround
 have N:=Fresh.nil w.heap.size
 refine zcr (sw (zY H (yT u auAlive cuAlive auBags cuBags auAround cuAround) fun b1 w2 H=>sp (yI 0) (zjc (sq 1 (sp (.func (.func 195) #[] #[pp b1 0]) (sw (zN #[Sv al l.length cl,.func (.func 195) #[] #[pp b1 0]] rfl rfl call194 (en func194 ntmps194 ?_))))))))
 refine zcr (sp (yI 0) (zjcc (sq 1 (oN rfl (sp (yI 0) (zjn (qV ?_)))))))
 refine zA ((fun Z0 Z1 Z2 Z3 Z4=>fun m' ρ w3=>∃ (xQ:Env) (i:Nat),ρ=upd (upd (upd (upd xQ 0 (Sv al l.length cl)) 1 (.func (.func 195) #[] #[pp b1 0])) 7 (yI l.length)) 8 (yI i)/\((i:Int)<=l.length)/\(noneTo (fun zz=>decide (l[zz]! =u)) i)/\m' =(l.length - (i:Int)).toNat/\Fresh w.heap.size []/\St w w3 [Z0] [Z1,Z2,Z3,Z4]) _ _ _ _ _) ((l.length - (0:Int)).toNat) ⟨_,0,uE4,qf,qx,rfl,N,H⟩ ?_
 clear H N
 rintro m' ρ w4 ⟨xQ,i,rfl,i0,i1,rfl,N,H⟩
 refine zcr (sq 1 (zjn (xU (cD rfl (fun h5=>?_) (fun h5=>?_)))))
 ·refine qU (t_n (xU (qV (zcr (sp (yI i) (sp (yI i) (zjc (sp (.func (.func 195) #[] #[pp b1 0]) (sq 1 (sp (yI i) ?_))))))))))
  obtain ⟨b6,o7,rfl⟩:=H.addr 0 rfl qf
  obtain ⟨ae9Alive,ce9Alive,Fe9Alive,ae9Bags,ce9Bags,Fe9Bags,ae9Around,ce9Around,Fe9Around,H⟩:=H.elem_StateD 0 rfl i i qf qf qf
  refine oI rfl rfl (sw (x8 [Sv ae9Alive (((l[i]!).qI).length) ce9Alive,Sv ae9Bags (((l[i]!).qP).length) ce9Bags,Sv ae9Around (((l[i]!).qN).length) ce9Around] isAgg43 sizeOf43 rfl (qF (H.get 3 rfl) 0 3) (sw (zN #[.agg #[Sv ae9Alive (((l[i]!).qI).length) ce9Alive,Sv ae9Bags (((l[i]!).qP).length) ce9Bags,Sv ae9Around (((l[i]!).qN).length) ce9Around],pp b1 0] rfl rfl call195 (en func195 ntmps195 ?_)))))
  refine zcr (sw (zY H [Sv ae9Alive (((l[i]!).qI).length) ce9Alive,Sv ae9Bags (((l[i]!).qP).length) ce9Bags,Sv ae9Around (((l[i]!).qN).length) ce9Around] fun b10 w11 H=>sp (Bv false) (zjc (sw (x8 [Sv ae9Alive (((l[i]!).qI).length) ce9Alive,Sv ae9Bags (((l[i]!).qP).length) ce9Bags,Sv ae9Around (((l[i]!).qN).length) ce9Around] isAgg43 sizeOf43 rfl (qF (H.cells 0 rfl) 0 3) ?_)))))
  refine sw (x8 (yT u auAlive cuAlive auBags cuBags auAround cuAround) isAgg43 sizeOf43 rfl (qF (H.cells 1 rfl) 0 3) (sw (oq (sameState_ok _ (l[i]!) u (H.get 0 rfl).1 (H.get 1 rfl).1 (H.get 2 rfl).1 (H.get 5 rfl).1 (H.get 6 rfl).1 (H.get 7 rfl).1) H fun w13 H=>sq 1 (zjr (ret1 (Bv (decide ((l[i]!)=u))) rfl rfl ⟨_,rfl,?_⟩)))))
  replace H:=H.erases [0]
  dsimp only [zU,List.eraseIdx] at H
  refine zjn (cD rfl (fun h15=>?_) (fun h15=>?_))
  ·refine zcr (sp (yI i) (sp (yI i) (zjr (zr5 (ret1 (yI i) rfl rfl ⟨_,rfl,(sp (yI i) (zjr (rH1 (yI i) H ?_)))⟩)))))
   rw [firstIdx_some (k:=i) qf i1 (decide_eq_true ‹_›)]
  refine qU (b_n (t_n (xK (sw (zi i 1 rfl rfl qf (sq 1 (xP (qW (m' :=(l.length - ((i+1):Int)).toNat) qf ⟨_,i+1,uE4,?_,?_,rfl,N,H.pick [0] (zR 4 4)⟩))))))))
  ·omega
  ·exact noneTo_succ i1 (decide_eq_false ‹_›)
 refine zx4 (zcr (sq 1 (zjr (ret1 (yI (-1)) rfl rfl ⟨_,rfl,(sq 1 (zjr (rH1 (yI (-1)) H ?_)))⟩))))
 rw [firstIdx_none (fun j hj=>i1 j qf)]
theorem sizeS_ok (w:World) (l:List qH) (hl:zP w Fl al cl l):Calls Tryz.prog 155 #[Sv al l.length cl] w (Ret (fun v w' =>v=yI l.length) w):=by
 refine en func155 ntmps155 ?_
 have H:=(St.start w).arg hl
 have nhl:=qO hl
 clear hl
 have N:=Fresh.nil w.heap.size
 refine zcr (sp (yI 0) (zjc (sq 1 (oN rfl (sq 1 (zjr (rH1 (yI l.length) H ?_)))))))
 rfl
end
section
structure GraphD where
 vX:List qH
 fNext:yLL
 deriving DecidableEq
instance:Inhabited GraphD:=⟨⟨[],[]⟩⟩
instance:Tot GraphD:=⟨fun x=>tot x.vX+tot x.fNext⟩
instance:qK GraphD where
 size:=2
 rep:=fun w F cs x=>∃ (vStates vNext:Value) (FStates FNext:yLN),cs=[vStates,vNext]/\F=FStates++FNext/\qK.rep w FStates [vStates] x.vX/\qK.rep w FNext [vNext] x.fNext
 len:=by rintro w F cs x ⟨vStates,vNext,FStates,FNext,rfl,_,hStates,hNext⟩;rfl
 one:=by
  rintro w F cs x ⟨vStates,vNext,FStates,FNext,rfl,rfl,hStates,hNext⟩ u hu
  simp only [List.mem_cons,List.not_mem_nil,or_false] at hu
  rcases hu with rfl | rfl <;> first | rfl | exact one_of ql
 stay:=by
  rintro w w' F cs x ⟨vStates,vNext,FStates,FNext,rfl,rfl,hStates,hNext⟩ hs
  exact ⟨_,_,_,_,rfl,rfl,qK.stay hStates fun b hb=>hs b (by simp [hb]),qK.stay hNext fun b hb=>hs b (by simp [hb])⟩
 lt:=by
  rintro w F cs x ⟨vStates,vNext,FStates,FNext,rfl,rfl,hStates,hNext⟩ b hb
  simp only [List.mem_append] at hb
  rcases hb with (hb | hb)
  ·exact qK.lt hStates b hb
  ·exact qK.lt hNext b hb
end
section
theorem nextTo_pos:∀ {k:Nat},0 < k->0 < (yA s t cs k).length
 | 0,h=>by omega
 | k+1,_=>by
  rw [yA]
  split
  ·next h=>exact List.length_pos_of_mem h
  ·simp
open Classical in
theorem next_pos (h0:0 < cs.length) (hc:(QX s t cs).2=0):0 < (QX s t cs).1.length:=by
 by_cases h:NoBad s t cs cs.length
 ·rw [next_ok h];exact nextTo_pos h0
 ·exfalso
  obtain ⟨k,hk,hb⟩:∃ k,k < cs.length/\CodeBad s t cs k:=Classical.byContradiction fun hx=>h fun k hk hb=>hx ⟨k,hk,hb⟩
  obtain ⟨m,h1,h2,h3⟩:=least_of (g:=fun k=>decide (CodeBad s t cs k)) k (decide_eq_true hb)
  have h2:CodeBad s t cs m:=of_decide_eq_true h2
  rw [next_bad (fun j hj=>of_decide_eq_false (h3 j hj)) qf h2] at hc
  exact h2 hc
theorem cho_pos (hs:yj s) (ht:zV s t) (h:(jG s t).2=0):0 < (jG s t).1.length:=by
 by_cases h1:GoodP s t s.qC.length
 ·by_cases h2:Q9 (zl s t s.qC.length) (zl s t s.qC.length).length > 300
  ·rw [cho_3 (.inr h2)] at h;exact absurd h qj
  ·have hp:0 < Q9 (zl s t s.qC.length) (zl s t s.qC.length).length:=
    Nat.lt_of_lt_of_le Nat.one_pos (prod_mono (packsL_ne hs ht (by have:=ht.2.1;omega) h1) (Nat.zero_le _) (Nat.le_refl _))
   unfold jG
   rw [if_neg (fun h' =>h' h1),if_neg h2]
   show 0 < (inOrder _).length
   unfold inOrder
   split
   ·next h=>rw [← (Classical.choose_spec h).1.length_eq,QW];exact hp
   ·rw [QW];exact hp
 ·rw [cho_3 (.inl h1)] at h;exact absurd h qj
theorem succ_halt (hs:yj s) (ht:zV s t) (h:(xG s t).2=0):(xG s t).1.length=0<->Halted s t:=by
 constructor
 ·intro h1
  refine Classical.byContradiction fun hh=>?_
  by_cases h2:(jG s t).2=0
  ·rw [succ_0 hh h2] at h h1
   have:=next_pos (cho_pos hs ht h2) h
   omega
  ·rw [succ_c h2] at h;exact h2 h
 ·intro hh;rw [succ_h hh];rfl
theorem addSt_get {S nx:List qH} {j:Nat} (hj:j < S.length):∀ k,(jA S nx k).1[j]! =S[j]!
 | 0=>rfl
 | k+1=>by
  have ih:=addSt_get (nx:=nx) hj k
  have hl:=(addSt_len (S:=S) (nx:=nx) k).1
  rw [jA]
  split
  ·show ((jA S nx k).1++[_])[j]! =_
   rw [getElem!_pos _ j qy,List.getElem_append_left qf,← getElem!_pos _ j qf];exact ih
  ·exact ih
structure GrAll (s:qG) (S:List qH) (R:yLL):Prop where
 ok:GrOk S R
 len:R.length=S.length
 pos:0 < S.length
 le:S.length<=300
 st:∀ u∈S,zV s u
 ht:∀ j,j < R.length->((R[j]!).length=0<->Halted s (S[j]!))
theorem grGo_all {s:qG} (hs:yj s):∀ (f i:Nat) (S:List qH) (R:yLL),f+i=302->R.length=i->i<=S.length->0 < S.length->S.length<=300->(∀ u∈S,zV s u)->GrOk S R→
 (∀ j,j < R.length->((R[j]!).length=0<->Halted s (S[j]!)))->(grGo s f i S R).2=0->GrAll s (grGo s f i S R).1.1 (grGo s f i S R).1.2
 | f,i,S,R,hf,hR,hi,hp,hl,ha,hk,hh,h=>by
  by_cases hx:S.length<=i
  ·rw [gr_end hx];show GrAll s S R;exact ⟨hk,by omega,hp,hl,ha,hh⟩
  ·by_cases hc:(xG s (S[i]!)).2=0
   ·by_cases hm:(jA S (xG s (S[i]!)).1 (xG s (S[i]!)).1.length).1.length > 300
    ·rw [gr_many qf qf hc rfl hm] at h;exact absurd h qj
    ·obtain ⟨f,rfl⟩:∃ g,f=g+1:=⟨f - 1,by omega⟩
     have e:=gr_go (R:=R) (show 0 < f+1 by omega) (show i < S.length by omega) hc rfl hm
     rw [show f+1 - 1=f from rfl] at e
     rw [e] at h ⊢
     obtain ⟨l1,l2,l3⟩:=addSt_len (S:=S) (nx:=(xG s (S[i]!)).1) (xG s (S[i]!)).1.length
     have hsi:zV s (S[i]!):=ha _ (by rw [getElem!_pos S i qf];exact List.getElem_mem _)
     refine grGo_all hs f (i+1) _ _ qf qy qf qf qf (addSt_mem ha succ_ok _ (Nat.le_refl _)) (hk.next qf (succ_len s _)) (fun j hj=>?_) h
     rw [List.length_append,List.length_singleton] at hj
     rw [addSt_get qf]
     by_cases ej:j=i
     ·subst ej
      rw [getElem!_pos _ j qy,List.getElem_append_right qf]
      simp only [hR,Nat.sub_self,List.getElem_cons_zero,l3]
      exact succ_halt hs hsi hc
     ·rw [getElem!_pos _ j qy,List.getElem_append_left qf,← getElem!_pos R j qf]
      exact hh j qf
   ·rw [gr_code qf qf hc] at h;exact absurd h hc
theorem gr_all (hs:yj s) (ht:zV s t) (h:(grRes s t).2=0):GrAll s (grRes s t).1.1 (grRes s t).1.2:=
 grGo_all hs 302 0 [t] [] rfl rfl (Nat.zero_le _) qm qm (fun u hu=>by obtain rfl:=List.mem_singleton.1 hu;exact ht) (GrOk.start t) (fun j hj=>by simp at hj) h
open Classical in
noncomputable def exRes (s:qG) (t:qH):(List qH×yLL)×Int:=if yj s/\zV s t then grRes s t else (([],[]),1)
noncomputable def exG (s:qG) (t:qH):GraphD:=⟨(exRes s t).1.1,(exRes s t).1.2⟩
theorem ex_1 (h:¬ (yj s/\zV s t)):exRes s t=(([],[]),1):=by rw [exRes,if_neg h]
theorem ex_0 (h:yj s/\zV s t) {x:(List qH×yLL)×Int} (hx:grRes s t=x):exRes s t=x:=by rw [exRes,if_pos h,hx]
theorem exG_of {c:Int} (h:exRes s t=((S,R),c)):exG s t=⟨S,R⟩/\(exRes s t).2=c:=by rw [exG,h];exact ⟨rfl,rfl⟩
theorem ex_valid (h:(exRes s t).2=0):yj s/\zV s t:=Classical.byContradiction fun hx=>by rw [ex_1 hx] at h;exact absurd h qj
theorem ex_all (h:(exRes s t).2=0):GrAll s (exG s t).vX (exG s t).fNext:=by
 have hv:=ex_valid h
 have e:=ex_0 hv rfl
 rw [e] at h
 have:=gr_all hv.1 hv.2 h
 rw [← e] at this;exact this
noncomputable def endsL (s:qG) (S:List qH) (k:Nat):List qH:=(S.take k).filter fun u=>dec (Halted s u)
theorem ends_yes (hk:k < S.length) (h:Halted s (S[k]!)):endsL s S k++[S[k]!]=endsL s S (k+1):=by
 unfold endsL
 rw [← take_snoc hk,List.filter_append,List.filter_cons_of_pos (by simpa using jS h),List.filter_nil]
theorem ends_no (hk:k < S.length) (h:¬ Halted s (S[k]!)):endsL s S k=endsL s S (k+1):=by
 unfold endsL
 rw [← take_snoc hk,List.filter_append,List.filter_cons_of_neg (by rw [xh h];decide),List.filter_nil,List.append_nil]
theorem ends_len (s:qG) (S:List qH) (k:Nat):(endsL s S k).length<=S.length:=Nat.le_trans (List.length_filter_le _ _) (by rw [List.length_take];omega)
def idxL (R:yLL) (k:Nat):yLI:=((List.range k).filter fun i=>decide ((R[i]!).length=0)).map fun (i:Nat)=>(i:Int)
theorem idx_yes (h:(R[k]!).length=0):idxL R k++[(k:Int)]=idxL R (k+1):=by
 unfold idxL
 rw [List.range_succ,List.filter_append,List.filter_cons_of_pos (by simpa using h),List.filter_nil,List.map_append];rfl
theorem idx_no (h:¬ (R[k]!).length=0):idxL R k=idxL R (k+1):=by
 unfold idxL
 rw [List.range_succ,List.filter_append,List.filter_cons_of_neg (by simpa using h),List.filter_nil,List.append_nil]
theorem idx_len (R:yLL) (k:Nat):(idxL R k).length<=k:=by
 unfold idxL;rw [List.length_map];exact Nat.le_trans (List.length_filter_le _ _) qm
theorem idx_at (hq:q < (idxL R k).length):0<=(idxL R k)[q]! /\((idxL R k)[q]!).toNat < k:=by
 have hm:(idxL R k)[q]! ∈idxL R k:=by rw [getElem!_pos _ q hq];exact List.getElem_mem hq
 unfold idxL at hm
 obtain ⟨i,hi,e⟩:=List.mem_map.1 hm
 have:=List.mem_range.1 (List.mem_filter.1 hi).1
 unfold idxL
 omega
theorem idx_up {p:Nat} (hpq:p < q) (hq:q < (idxL R k).length):((idxL R k)[p]!).toNat < ((idxL R k)[q]!).toNat:=by
 have h:=(List.pairwise_lt_range (n:=k)).filter (fun i=>decide ((R[i]!).length=0))
 rw [getElem!_pos _ p qf,getElem!_pos _ q hq]
 unfold idxL at hq ⊢
 rw [List.length_map] at hq
 rw [List.getElem_map,List.getElem_map]
 have:=List.pairwise_iff_getElem.1 h p q qf hq hpq
 omega
theorem idx_ends {s:qG} {S:List qH} {R:yLL} (h:GrAll s S R):∀ k,k<=R.length->(idxL R k).map (fun i=>S[i.toNat]!)=endsL s S k
 | 0,_=>rfl
 | k+1,hk=>by
  have ih:=idx_ends h k qf
  have hl:=h.len
  by_cases e:(R[k]!).length=0
  ·rw [← idx_yes e,List.map_append,ih,← ends_yes qf ((h.ht k qf).1 e)];rfl
  ·rw [← idx_no e,ih,ends_no qf (fun hh=>e ((h.ht k qf).2 hh))]
theorem map_snoc! {α β:Type} [Inhabited α] {f:α->β} {l:List α} (h:q < l.length):(l.take q).map f++[f (l[q]!)]=(l.take (q+1)).map f:=by
 rw [← take_snoc h,List.map_append];rfl
noncomputable def yc (s:qG) (t:qH):List qH×Int:=if (exRes s t).2=0 then (endsL s (exG s t).vX (exG s t).vX.length,0) else ([],(exRes s t).2)
theorem hs_c (h:(exRes s t).2≠0):yc s t=([],(exRes s t).2):=by rw [yc,if_neg h]
theorem hs_0 (h:(exRes s t).2=0):yc s t=(endsL s (exG s t).vX (exG s t).vX.length,0):=by rw [yc,if_pos h]
theorem hs_i (h:(exRes s t).2=0) (hq:(idxL (exG s t).fNext (exG s t).fNext.length).length<=q):yc s t=(((idxL (exG s t).fNext (exG s t).fNext.length).take q).map (fun i=>(exG s t).vX[i.toNat]!),0):=by
 have ga:=ex_all h
 rw [hs_0 h,List.take_of_length_le hq,idx_ends ga _ (Nat.le_refl _),ga.len]
end
section
def cellsF (B:yLN) (v:Value) (xs:List Value):Fact where
 F:=B
 φ:=fun w=>xs=[]\/∃ b o m c,v=Sv (some ⟨b,o,none⟩) m c/\B=[b]/\vg w b o xs
 stay:=by
  rintro w w' (h | ⟨b,o,m,c,h1,h2,h3⟩) hs
  ·exact Or.inl h
  ·exact Or.inr ⟨b,o,m,c,h1,h2,cellsAt_stay h3 (hs b (by simp [h2]))⟩
section
variable {W0 w : World} {ps : List Prv} {Γ : List Fact} {L : List yLN}
theorem St.pool {α:Type} [qK α] (H:St W0 w ps Γ) (i:Nat) {v:Value} {l:List α} (hf:Γ[i]? =some (isF true F v l)) (N:Fresh W0.heap.size (F::L)):
 ∃ (xs:List Value) (B P:yLN),Fresh W0.heap.size (P::L)/\St W0 w ps (xN true P (xs.drop (0 * qK.size α)) (l.drop 0)::cellsF B v xs::Γ):=by
 obtain ⟨⟨a,cap,hc,_,h⟩,hfr⟩:=H.get i hf
 simp only [List.cons.injEq,and_true] at hc
 rcases h with ⟨hl,hF⟩ | ⟨b,o,F',vs,ha,hF,_,hr,hcl⟩
 ·refine ⟨[],[],[],N.less qm qm,?_⟩
  subst hl
  exact (H.add (cellsF [] v []) (Or.inl rfl) (by simp [cellsF])).add _ ⟨by simp [reps],fun _=>ve.nil _⟩ (by simp [xN])
 ·refine ⟨vs,[b],F',N.less (fun x hx=>by rw [hF];simp [hx]) (fun hn=>by rw [hF] at hn;exact (List.nodup_cons.1 hn).2),?_⟩
  have h1:=H.jy i hf (cellsF [b] v vs) (Or.inr ⟨b,o,l.length,cap,by rw [hc,ha],rfl,hcl⟩) (fun x hx=>by have hx:x∈[b]:=hx;show x∈F;rw [hF];simp at hx;simp [hx])
  refine h1.jy (i+1) hf (xN true F' (vs.drop (0 * qK.size α)) (l.drop 0)) ⟨?_,fun _=>(hfr rfl).sub fun x hx=>by rw [hF];simp [hx]⟩ fun x hx=>by have hx:x∈F' :=hx;show x∈F;rw [hF];simp [hx]
  rw [Nat.zero_mul];exact hr
theorem St.drain {α:Type} [qK α] [Inhabited α] (H:St W0 w ps Γ) (j:Nat) (hx:Γ[j]? =some (cellsF B (Sv (some ⟨b,o,none⟩) m c) xs)) (i:Nat) {l:List α}
 (hf:Γ[i]? =some (xN true P (xs.drop (k0 * qK.size α)) (l.drop k0))) (N:Fresh W0.heap.size (P::L)) (hz:0 < qK.size α) (k:Nat) (h0:k0<=k) (hk:k < l.length):
 ∃ cs G P',vg w b (o+k * qK.size α) cs/\qK.rep w G cs (l[k]!)/\ve w G/\(∀ x∈G,x∈P)/\b∈B/\Fresh W0.heap.size (G::P'::L)/\(∀ x∈P',x∈P)/\reps w P' (xs.drop ((k+1) * qK.size α)) (l.drop (k+1))/\ve w P' :=by
 obtain ⟨d,rfl⟩:∃ d,k=k0+d:=⟨k - k0,by omega⟩
 obtain ⟨hr,hfr⟩:=H.get i hf
 obtain ⟨F1,Fk,F2,v1,cs,v2,hP,hv,hv1,hcs,hrep,_,h2⟩:=reps_get hr d (by rw [List.length_drop];omega)
 have hlen:=congrArg List.length hv
 simp only [List.length_append,List.length_drop] at hlen
 have e1:(k0+d+1) * qK.size α=k0 * qK.size α+(d * qK.size α+qK.size α):=by rw [Nat.add_mul,Nat.add_mul,Nat.one_mul];omega
 have e2:(k0+d) * qK.size α=k0 * qK.size α+d * qK.size α:=Nat.add_mul ..
 have hxs:xs.take (k0 * qK.size α)++v1++cs++v2=xs:=by rw [List.append_assoc,List.append_assoc,← List.append_assoc v1,← hv,List.take_append_drop]
 have hgl:(l.drop k0)[d]'(by rw [List.length_drop];omega)=l[k0+d]! :=by rw [List.getElem_drop,getElem!_pos l _ hk]
 rw [hgl] at hrep
 obtain ⟨m',c',hB,hcl⟩:∃ m' c' :Nat,B=[b]/\vg w b o xs:=by
  rcases H.get j hx with h | ⟨b',o',m',c',h1,h2',h3⟩
  ·rw [h] at hlen;simp at hlen;omega
  ·simp only [Value.slice.injEq,Option.some.injEq,Addr.mk.injEq,and_true] at h1
   obtain ⟨⟨rfl,rfl⟩,_⟩:=h1
   exact ⟨m',c',h2',h3⟩
 have hd:(l.drop k0).drop (d+1)=l.drop (k0+d+1):=by rw [List.drop_drop];congr 1
 rw [hd] at h2
 have hv2:xs.drop ((k0+d+1) * qK.size α)=v2:=by
  rw [e1,← List.drop_drop,hv,List.drop_append,List.drop_of_length_le (by simp only [List.length_append];omega),List.nil_append]
  simp only [List.length_append]
  rw [show d * qK.size α+qK.size α - (v1.length+cs.length)=0 by omega];rfl
 have hndP:P.Nodup:=N.nd P qm
 have hsub:∀ x∈Fk++F2,x∈P:=fun x hx=>by
  rw [hP,List.append_assoc];exact List.mem_append_right _ hx
 refine ⟨cs,Fk,F2,?_,hrep,(hfr rfl).sub fun x hx=>hsub x (by simp [hx]),fun x hx=>hsub x (by simp [hx]),by simp [hB],(N.less hsub fun hn=>?_).split,fun x hx=>hsub x (by simp [hx]),by rw [hv2];exact h2,(hfr rfl).sub fun x hx=>hsub x (by simp [hx])⟩
 ·rw [← hxs] at hcl
  have:=cells_mid hcl
  rw [List.length_append,hv1,List.length_take_of_le qf,← e2] at this
  exact this
 ·rw [hP,List.append_assoc] at hn;exact (List.nodup_append.1 hn).2.1
theorem St.drain_StateD (H:St W0 w ps Γ) (j:Nat) (hx:Γ[j]? =some (cellsF B (Sv (some ⟨b,o,none⟩) m c) xs)) (i:Nat)
 (hf:Γ[i]? =some (xN true P (xs.drop (k0 * 3)) (l.drop k0))) (N:Fresh W0.heap.size (P::L)) (iv:Int) (k:Nat) (hi:iv.toNat=k) (h0:k0<=k) (hk:k < l.length):
 ∃ (aA:yOA) (cA:Nat) (FA:yLN) (aB:yOA) (cB:Nat) (FB:yLN) (aO:yOA) (cO:Nat) (FO P' :yLN),Fresh W0.heap.size (FA::FB::FO::P'::L)∧
  St W0 w ps (isF true FA (Sv aA ((l[k]!).qI.length) cA) ((l[k]!).qI)::isF true FB (Sv aB ((l[k]!).qP.length) cB) ((l[k]!).qP)::isF true FO (Sv aO ((l[k]!).qN.length) cO) ((l[k]!).qN) ::
   atF b (o+iv.toNat * 3) [Sv aA ((l[k]!).qI.length) cA,Sv aB ((l[k]!).qP.length) cB,Sv aO ((l[k]!).qN.length) cO]::xN true P' (xs.drop ((k+1) * 3)) (l.drop (k+1))::Γ):=by
 subst hi
 obtain ⟨cs,G,P',hc,hr,hfr,hsub,hB,N',hs2,h2,hf2⟩:=St.drain (α:=qH) H j hx i hf N (show 0 < 3 by decide) iv.toNat h0 hk
 obtain ⟨vA,vB,vO,FA,FB,FO,rfl,hFF,hA,hBb,hO⟩:=id hr
 obtain ⟨aA,cA,rfl⟩:=slice_form hA
 obtain ⟨aB,cB,rfl⟩:=slice_form hBb
 obtain ⟨aO,cO,rfl⟩:=slice_form hO
 subst hFF
 have s1:=H.jy i hf (xN true P' (xs.drop ((iv.toNat+1) * 3)) (l.drop (iv.toNat+1))) ⟨h2,fun _=>hf2⟩ hs2
 have s2:=s1.jy (j+1) hx (atF b (o+iv.toNat * 3) [Sv aA _ cA,Sv aB _ cB,Sv aO _ cO]) hc (fun x hx=>by have hx:x∈[b]:=hx;simp at hx;subst hx;exact hB)
 have s3:=s2.jy (i+2) hf (isF true FO _ ((l[iv.toNat]!).qN)) ⟨hO,fun _=>hfr.sub fun x hx=>by simp [hx]⟩ (fun x hx=>hsub x (by have hx:x∈FO:=hx;simp [hx]))
 have s4:=s3.jy (i+3) hf (isF true FB _ ((l[iv.toNat]!).qP)) ⟨hBb,fun _=>hfr.sub fun x hx=>by simp [hx]⟩ (fun x hx=>hsub x (by have hx:x∈FB:=hx;simp [hx]))
 exact ⟨aA,cA,FA,aB,cB,FB,aO,cO,FO,P',N'.split.split,s4.jy (i+4) hf (isF true FA _ ((l[iv.toNat]!).qI)) ⟨hA,fun _=>hfr.sub fun x hx=>by simp [hx]⟩ (fun x hx=>hsub x (by have hx:x∈FA:=hx;simp [hx]))⟩
end
end
section
variable {qL qX xn xM qZ : Nat}
theorem specEx_ok (w:World) (s:qG) (t:qH) (xf:zP w xF qM qL s.qC) (xE:zP w zu xg qX s.qE) (zk:zP w zQ xq xn t.qI) (zO:zP w vK xX xM t.qP) (xJ:zP w zo xe qZ t.qN):Calls Tryz.prog 108 #[.agg #[yI s.xO,Sv qM s.qC.length qL,Sv xg s.qE.length qX],.agg #[Sv xq t.qI.length xn,Sv xX t.qP.length xM,Sv xe t.qN.length qZ]] w (Ret (fun v w' =>∃ (ra0States:yOA) (rc0States:Nat) (rF0States:yLN) (ra0Next:yOA) (rc0Next:Nat) (rF0Next:yLN),v=.tuple #[.agg #[Sv ra0States (((exG s t).vX).length) rc0States,Sv ra0Next (((exG s t).fNext).length) rc0Next],yI ((exRes s t).2)]/\Fresh w.heap.size [rF0States,rF0Next]/\St w w' [] [sF true rF0States ra0States rc0States ((exG s t).vX),sF true rF0Next ra0Next rc0Next ((exG s t).fNext)]) w):=by
 refine en func108 ntmps108 ?_
 have H:=(((((St.start w).arg xJ).arg zO).arg zk).arg xE).arg xf
 have vH:=qO xf
 have jD:=qO xE
 have yL:=qO zk
 have Qv:=qO zO
 have jQ:=qO xJ
 clear xf xE zk zO xJ
 have N:=Fresh.nil w.heap.size
 refine zcr (sw (zY H (yS s qM qL xg qX) fun b1 w2 H=>sw (zY H (yT t xq xn xX xM xe qZ) fun b3 w4 H=>sw (xH H ti100 [yN,yN] fun b5 w6 H=>sp (yI 0) (zjcc (sw (oq (l03Both_ok _ s t (qF (H.cells 2 rfl) 0 3) (H.get 0 rfl).1 (H.get 1 rfl).1 (qF (H.cells 1 rfl) 0 3) (H.get 2 rfl).1 (H.get 3 rfl).1 (H.get 4 rfl).1) H fun w8 H=>sq 1 (zjn ?_))))))))
 refine cQ rfl (fun h10=>?_) (fun h10=>?_)
 ·refine zcr (sw (vG [yN,yN] [] (sw (xY H 0 [yN,yN] sizeOf100 fun w11 H=>sp (yI 1) (zjr (t_r ?_))))))
  replace H:=H.addNil (α:=qH)
  replace H:=H.addNil (α:=yLI)
  refine retC2 H 0 rfl (yI 1) rfl isAgg100 sizeOf100 rfl rfl ⟨_,rfl,?_,H.base⟩
  obtain ⟨z1,z2⟩:=exG_of (ex_1 ‹_›)
  rw [z1,z2]
  exact ⟨none,0,[],none,0,[],rfl,N.emp.emp,H.pick [] [1,0]⟩
 have k0:=(‹yj s/\zV s t›:yj s/\zV s t)
 have k1:=k0.1
 have k2:=k0.2
 obtain ⟨q7,q8,q9,q10⟩:=k2.sizes k1.1
 have q13:=fun k hk=>Nat.le_trans (q10 k hk) (by decide:8<=1000000)
 refine qU (t_n (zcr (sw (zN #[pp b1 0,pp b3 0] rfl rfl call151 (en func151 ntmps151 ?_)))))
 refine zcr (sw (xH H ti100 [yN,yN] fun b12 w13 H=>sq 1 (sp (yI 0) (zjc (sq 1 ?_)))))
 have sz17:=H.base.size
 refine sw (oc (l02Own_ok _ t (qF (H.cells 2 rfl) 0 3) (H.get 2 rfl).1 (H.get 3 rfl).1 (H.get 4 rfl).1 qg qg qg qg) ?_)
 rintro _ w15 ⟨ra14Alive,rn14Alive,rc14Alive,ra14Bags,rn14Bags,rc14Bags,rx14Bags,rF14Bags,ra14Around,rn14Around,rc14Around,rfl,M,K⟩ _
 replace N:=N.merge sz17 qm M
 replace H:=H.merge K M
 obtain rfl:=H.rowNB 0 rfl
 obtain rfl:=H.xB (α:=yLI) 1 rfl 0 rfl qj
 obtain rfl:=H.yt 2 rfl
 refine sw (xx H underlying48 ti43 (yT t ra14Alive rc14Alive ra14Bags rc14Bags ra14Around rc14Around) fun b22 w23 H=>sw (vG [Sv (aa b22 0) 1 1,yN] [(0,Sv (aa b22 0) 1 1)] (sw (xH H ti100 [yN,yN] fun b24 w25 H=>sw (xY H 0 [Sv (aa b22 0) 1 1,yN] sizeOf100 fun w26 H=>zjc (sw (xx H underlying27 ti2 [yI (-1)] fun b27 w28 H=>sq 1 (zjcc (sp (yI 0) ?_)))))))))
 refine zjn (qV ?_)
 replace H:=H.vI 0 [(-1)] 1
 replace H:=H.boxRow 2 rfl 3 1 rfl qj
 replace H:=H.vV (α:=qH)
 obtain ⟨G29,N,hn30,H⟩:=H.freezeB 3 rfl N (H.vz [1])
 have H0:=H
 obtain ⟨G31,hg33,hn32,H⟩:=H.Qj (α:=yLI) 4 rfl 2 rfl qj
 replace N:Fresh w.heap.size [G31,G29]:=Fresh.ice (N.pick [1,0]) H0 4 hg33.1 hg33.2 (H0.vz [0])
 clear H0
 obtain ⟨G34,N,hn35,H⟩:=H.zh 5 rfl N (H.vz [0,1])
 replace H:=H.Xa 3 rfl 2 rfl 1 rfl 0 rfl
 replace N:Fresh w.heap.size [([]++(G29++G31++G34))]:=(N.emp.pick [3,2,1,0]).join.join.swap.join
 replace H:St _ _ [rr (aa b27 0) 1 1 2 1 ([(-1)].map (Value.int .i64)),.box b24 [Sv (aa b22 0) 1 1,yN] 100,rr (aa b22 0) 1 1 43 3 (yT t ra14Alive rc14Alive ra14Bags rc14Bags ra14Around rc14Around),rr none 0 0 0 1 [],rr none 0 0 0 1 [],rr none 0 0 0 1 [],.box b12 [yN,yN] 100,.box b5 [yN,yN] 100,.box b3 (yT t xq xn xX xM xe qZ) 43,.box b1 (yS s qM qL xg qX) 37] [xN true ([]++(G29++G31++G34)) (yT t ra14Alive rc14Alive ra14Bags rc14Bags ra14Around rc14Around) [t],sF true G34 ra14Around rc14Around t.qN,sF true G31 ra14Bags rc14Bags t.qP,sF true G29 ra14Alive rc14Alive t.qI,xN true [] [] ([]:List qH),xN true rF14Bags rx14Bags t.qP,sF false xF qM qL s.qC,sF false zu xg qX s.qE,sF false zQ xq xn t.qI,sF false vK xX xM t.qP,sF false zo xe qZ t.qN]:=H
 replace H:=H.nilRow 27 1
 replace H:=H.vV (α:=yLI)
 refine zA ((fun Z0 Z1 Z2 Z3 Z4 Z5 Z6 Z7 Z8=>fun m' ρ w36=>∃ (xQ:Env) (a_from:yOA) (n_from:Nat) (c_from:Nat) (from_:yLI) (i:Nat) (yJ:yOA) (yG:Nat) (yh:Nat) (g_States:List qH) (Xy:List Value) (QF:yLN) (yP:yOA) (yM:Nat) (yO:Nat) (g_Next:yLL) (x_g_Next:List Value) (yQ:yLN),ρ=upd (upd (upd (upd (upd xQ 0 (pp b1 0)) 4 (pp b12 0)) 7 (pp b24 0)) 8 (Sv a_from n_from c_from)) 9 (yI i)/\(grRes s t=grGo s (302 - i) i g_States g_Next)/\(∀ u∈g_States,zV s u)/\(0 < g_States.length/\g_States.length<=300)/\(g_Next.length=i)/\(i<=g_States.length)/\(GrOk g_States g_Next)/\(from_.length=g_States.length)/\m' =(301 - i)/\Fresh w.heap.size [QF,yQ]/\St w w36 [rr yP yM yO 27 1 x_g_Next,rr a_from n_from c_from 2 1 (from_.map (Value.int .i64)),.box b24 [Sv yJ yG yh,Sv yP yM yO] 100,rr yJ yG yh 43 3 Xy,Z0,Z1,Z2,Z3] [xN true yQ x_g_Next g_Next,xN true QF Xy g_States,Z4,Z5,Z6,Z7,Z8]) _ _ _ _ _ _ _ _ _) ((301 - 0)) ⟨_,(aa b27 0),1,1,[(-1)],0,(aa b22 0),1,1,[t],(yT t ra14Alive rc14Alive ra14Bags rc14Bags ra14Around rc14Around),([]++(G29++G31++G34)),none,0,0,([]:yLL),[],[],uE5,(by rfl),(by exact fun u hu=>by obtain rfl:=List.mem_singleton.1 hu;exact k2),qm,(by rfl),qm,(by exact GrOk.start t),(by rfl),rfl,(N.emp.pick [1,0]),H.pick [0,1,2,3,7,8,9,10] (0::1::zR 7 5)⟩ ?_
 clear H N
 rintro m' ρ w37 ⟨xQ,a_from,n_from,c_from,from_,i,yJ,yG,yh,g_States,Xy,QF,yP,yM,yO,g_Next,x_g_Next,yQ,rfl,kr,ka,kl,kn,ki,ko,kf,rfl,N,H⟩
 have hn_from:=H.yt 1 rfl
 have hn_g_States:=H.xB (α:=qH) 3 rfl 1 rfl qj
 have hn_g_Next:=H.xB (α:=yLI) 0 rfl 0 rfl qj
 refine zcc (sp (yI i) (oF rfl (oL rfl (H.cell 2 rfl rfl) (oN rfl (sq 1 (zjn (cD rfl (fun h38=>?_) (fun h38=>?_))))))))
 ·refine qU (t_n (xU (qV (zcr (oF rfl (oL rfl (H.cell 2 rfl rfl) (sp (yI i) ?_)))))))
  obtain ⟨b39,rfl⟩:=H.y5 3 rfl qf
  obtain ⟨ae40Alive,ce40Alive,Fe40Alive,ae40Bags,ce40Bags,Fe40Bags,ae40Around,ce40Around,Fe40Around,hx41,H⟩:=H.rowel_StateD 3 rfl 1 rfl (iv:=i) i qf qf
  refine oI rfl rfl (sw (x8 [Sv ae40Alive (((g_States[i]!).qI).length) ce40Alive,Sv ae40Bags (((g_States[i]!).qP).length) ce40Bags,Sv ae40Around (((g_States[i]!).qN).length) ce40Around] isAgg43 sizeOf43 rfl (qF (fun j v hj=>H.rowGet 3 rfl (hx41 j v hj)) 0 3) (sw (xH H ti43 [yN,yN,yN] fun b42 w43 H=>sw (xY H 0 [Sv ae40Alive (((g_States[i]!).qI).length) ce40Alive,Sv ae40Bags (((g_States[i]!).qP).length) ce40Bags,Sv ae40Around (((g_States[i]!).qN).length) ce40Around] sizeOf43 fun w44 H=>zjc ?_)))))
  refine sq 1 ?_
  have ks:=ka (g_States[i]!) (mem_at (k:=i) qf rfl)
  have nl:=succ_len s (g_States[i]!)
  have sz48:=H.base.size
  have lt49:=H.ltN (L:=[QF,yQ]) [4,3]
  refine sw (oc (l03Succ_ok _ s (g_States[i]!) (qF (H.cells 8 rfl) 0 3) (H.get 5 rfl).1 (H.get 6 rfl).1 (qF (H.cells 0 rfl) 0 3) (H.get 0 rfl).1 (H.get 1 rfl).1 (H.get 2 rfl).1 qg qg) ?_)
  rintro _ w46 ⟨ra45a,rn45a,rc45a,rx45a,rF45a,rfl,M,K⟩ _
  replace N:=N.merge sz48 lt49 M
  replace H:=H.merge K M
  obtain rfl:=H.xB (α:=qH) 0 rfl 0 rfl qj
  refine sq 5 (zjcc (sq 1 (sp (Bv (((xG s (g_States[i]!)).2:Int) != 0)) (zjn (zT (((xG s (g_States[i]!)).2:Int) != 0) rfl (fun h51=>?_) (fun h51=>?_))))))
  ·replace h51:=bne_iff_ne.1 h51
   refine zcr (sw (vG [yN,yN] [] (sq 2 (sw (xY H 6 [yN,yN] sizeOf100 fun w52 H=>sq 2 (zjr (t_r (zr5 (retC3 H 6 rfl (Sv a_from n_from c_from) (yI ((xG s (g_States[i]!)).2)) rfl isAgg100 sizeOf100 rfl rfl rfl ⟨_,rfl,?_⟩)))))))))
   replace H:=H.erases [6,5,4,2,1,0]
   dsimp only [zU,List.eraseIdx] at H
   refine sq 4 (sw (xH H ti100 [yN,yN] fun b53 w54 H=>sw (xY H 0 [yN,yN] sizeOf100 fun w55 H=>sq 2 (zjc (sw (x8 [yN,yN] isAgg100 sizeOf100 rfl (qF (H.cells 0 rfl) 0 2) (sq 1 ?_)))))))
   refine sw (xY H 2 [yN,yN] sizeOf100 fun w56 H=>sq 1 (zjr ?_))
   replace H:=H.addNil (α:=qH)
   replace H:=H.addNil (α:=yLI)
   refine retC2 H 2 rfl (yI ((xG s (g_States[i]!)).2)) rfl isAgg100 sizeOf100 rfl rfl ⟨_,rfl,?_,H.base⟩
   obtain ⟨z1,z2⟩:=exG_of (ex_0 k0 (kr.trans (gr_code qf qf ql)))
   rw [z1,z2]
   exact ⟨none,0,[],none,0,[],rfl,(N.emp.emp.pick [0,1]),H.pick [] [1,0]⟩
  replace h51:=xu h51
  refine qU (t_n (zcr (sw (zW H underlying27 ti2 fun b57 w58 H=>sq 1 (zjcc (sp (yI 0) (zjn (qV ?_))))))))
  have H0:=H
  obtain ⟨G59,hg61,hn60,H⟩:=H.Qj (α:=qH) 1 rfl 0 rfl qj
  replace N:Fresh w.heap.size [G59,QF,yQ]:=Fresh.ice N H0 1 hg61.1 hg61.2 (H0.vz [5,4])
  clear H0
  obtain ⟨xs62,B63,P64,N,H⟩:=H.pool (α:=qH) 0 rfl N
  replace H:=H.vI 0 [] 0
  refine zA ((fun Z0 Z1 Z2 Z3 Z4 Z5 Z6 Z7 Z8 Z9 Z10 Z11 Z12 Z13 Z14 Z15 Z16=>fun m' ρ w65=>∃ (xQ:Env) (a_from_1:yOA) (n_from_1:Nat) (c_from_1:Nat) (from__1:yLI) (a_row:yOA) (n_row:Nat) (c_row:Nat) (row:yLI) (k:Nat) (Ql:yOA) (jk:Nat) (Qk:Nat) (g_States_1:List qH) (QK:List Value) (jI:yLN) (P_k:yLN),ρ=upd (upd (upd (upd (upd (upd (upd (upd xQ 0 (pp b1 0)) 4 (pp b12 0)) 7 (pp b24 0)) 8 (Sv a_from_1 n_from_1 c_from_1)) 9 (yI i)) 11 (Sv ra45a (((xG s (g_States[i]!)).1).length) rc45a)) 13 (Sv a_row n_row c_row)) 14 (yI k)/\row=(jA g_States (xG s (g_States[i]!)).1 k).2/\g_States_1=(jA g_States (xG s (g_States[i]!)).1 k).1/\((k:Int)<=(((xG s (g_States[i]!)).1).length))/\(from__1.length=(jA g_States (xG s (g_States[i]!)).1 k).1.length)/\m' =((((xG s (g_States[i]!)).1).length) - (k:Int)).toNat/\Fresh w.heap.size [yQ,jI,P_k]/\St w w65 [rr a_row n_row c_row 2 1 (row.map (Value.int .i64)),Z0,Z1,rr a_from_1 n_from_1 c_from_1 2 1 (from__1.map (Value.int .i64)),.box b24 [Sv Ql jk Qk,Sv yP yM yO] 100,rr Ql jk Qk 43 3 QK,Z2,Z3,Z4,Z5] [xN true P_k (xs62.drop (k * 3)) (((xG s (g_States[i]!)).1).drop k),Z6,Z7,Z8,Z9,Z10,Z11,xN true jI QK g_States_1,Z12,Z13,Z14,Z15,Z16]) _ _ _ _ _ _ _ _ _ _ _ _ _ _ _ _ _) (((((xG s (g_States[i]!)).1).length) - (0:Int)).toNat) ⟨_,a_from,n_from,c_from,from_,(aa b57 0),0,0,([]:yLI),0,(aa b39 0),yG,yh,g_States,Xy,QF,P64,uE8,(by rfl),(by rfl),qf,ql,rfl,(N.pick [2,1,0]),H.pick (0::zR 2 9) (0::1::2::zR 4 10)⟩ ?_
  clear H N
  rintro m' ρ w66 ⟨xQ,a_from_1,n_from_1,c_from_1,from__1,a_row,n_row,c_row,row,k,Ql,jk,Qk,g_States_1,QK,jI,P_k,rfl,rfl,rfl,i0,kf2,rfl,N,H⟩
  have hn_from:=H.yt 3 rfl
  have hn_row:=H.yt 0 rfl
  have hn_g_States:=H.xB (α:=qH) 5 rfl 7 rfl qj
  obtain ⟨al1,al2,al3⟩:=addSt_len (S:=g_States) (nx:=(xG s (g_States[i]!)).1) k
  refine zcc (sp (yI k) (sq 1 (oN rfl (sq 1 (zjn (cD rfl (fun h67=>?_) (fun h67=>?_)))))))
  ·obtain ⟨b68,o69,rfl⟩:=H.addr 2 rfl qf
   obtain ⟨ae71Alive,ce71Alive,Fe71Alive,ae71Bags,ce71Bags,Fe71Bags,ae71Around,ce71Around,Fe71Around,P72,N,H⟩:=H.drain_StateD 1 rfl 0 rfl ((N.pick [2,0,1]):Fresh w.heap.size [P_k,yQ,jI]) k k qf qf qf
   refine qU (t_n (xU (qV (xU ?_))))
   refine jw rfl H fun H=>tF 0 rfl rfl H ?_
   refine tL 1 rfl rfl (fun _ h=>h.cell 4 rfl rfl) H ?_
   refine rtl 2 H ?_
   refine rtp 3 (yI k) H ?_
   refine tI 4 rfl rfl rfl H ?_
   refine ro 5 rfl ?_
   obtain ⟨G74,hn75,h76⟩:=H.XE (α:=qH) 5 rfl 12 rfl qj
   refine oq (jo (by rw [← hn75]) (l03Find_ok _ ((jA g_States (xG s (g_States[i]!)).1 k).1) (((xG s (g_States[i]!)).1)[k]!) (hn75▸h76) (qF (H.get 3 rfl) 0 3) (H.get 0 rfl).1 (H.get 1 rfl).1 (H.get 2 rfl).1)) H fun w78 H=>⟨H,(rtl 6 H ?_)⟩
   refine xA qh (t_n (zcc (sq 1 (sp (Bv (decide ((firstIdx (fun zz=>decide (((jA g_States (xG s (g_States[i]!)).1 k).1)[zz]! =(((xG s (g_States[i]!)).1)[k]!))) ((jA g_States (xG s (g_States[i]!)).1 k).1).length:Int) < 0))) (zjn (cD rfl (fun h80=>?_) (fun h80=>?_)))))))
   ·refine zcr (oF rfl (oL rfl (H.cell 4 rfl rfl) (oN rfl (sq 1 (zjn (xU ?_))))))
    refine c_cut (fun ρ w83=>∃ (xQ:Env) (a81:yOA) (c82:Nat),ρ=upd (upd (upd (upd (upd (upd (upd (upd (upd xQ 0 (pp b1 0)) 4 (pp b12 0)) 7 (pp b24 0)) 8 (Sv a_from_1 n_from_1 c_from_1)) 9 (yI i)) 11 (Sv (aa b68 o69) (((xG s (g_States[i]!)).1).length) rc45a)) 13 (Sv a_row n_row c_row)) 14 (yI k)) 15 (yI jk)/\Fresh w.heap.size [(jI++(Fe71Alive++Fe71Bags++Fe71Around)),P72,yQ]/\St w w83 [rr a_row n_row c_row 2 1 (((jA g_States (xG s (g_States[i]!)).1 k).2).map (Value.int .i64)),.box b42 [Sv ae40Alive (((g_States[i]!).qI).length) ce40Alive,Sv ae40Bags (((g_States[i]!).qP).length) ce40Bags,Sv ae40Around (((g_States[i]!).qN).length) ce40Around] 43,rr yP yM yO 27 1 x_g_Next,rr a_from_1 n_from_1 c_from_1 2 1 (from__1.map (Value.int .i64)),.box b24 [Sv a81 (jk+1) c82,Sv yP yM yO] 100,rr a81 (jk+1) c82 43 3 (QK++[Sv ae71Alive (((((xG s (g_States[i]!)).1)[k]!).qI).length) ce71Alive,Sv ae71Bags (((((xG s (g_States[i]!)).1)[k]!).qP).length) ce71Bags,Sv ae71Around (((((xG s (g_States[i]!)).1)[k]!).qN).length) ce71Around]),.box b12 [yN,yN] 100,.box b5 [yN,yN] 100,.box b3 (yT t xq xn xX xM xe qZ) 43,.box b1 (yS s qM qL xg qX) 37] [xN true (jI++(Fe71Alive++Fe71Bags++Fe71Around)) (QK++[Sv ae71Alive (((((xG s (g_States[i]!)).1)[k]!).qI).length) ce71Alive,Sv ae71Bags (((((xG s (g_States[i]!)).1)[k]!).qP).length) ce71Bags,Sv ae71Around (((((xG s (g_States[i]!)).1)[k]!).qN).length) ce71Around]) (((jA g_States (xG s (g_States[i]!)).1 k).1)++[⟨(((xG s (g_States[i]!)).1)[k]!).qI,(((xG s (g_States[i]!)).1)[k]!).qP,(((xG s (g_States[i]!)).1)[k]!).qN⟩]),sF true Fe71Alive ae71Alive ce71Alive ((((xG s (g_States[i]!)).1)[k]!).qI),sF true Fe71Bags ae71Bags ce71Bags ((((xG s (g_States[i]!)).1)[k]!).qP),sF true Fe71Around ae71Around ce71Around ((((xG s (g_States[i]!)).1)[k]!).qN),atF b68 (o69+(k:Int).toNat * 3) [Sv ae71Alive (((((xG s (g_States[i]!)).1)[k]!).qI).length) ce71Alive,Sv ae71Bags (((((xG s (g_States[i]!)).1)[k]!).qP).length) ce71Bags,Sv ae71Around (((((xG s (g_States[i]!)).1)[k]!).qN).length) ce71Around],xN true P72 (xs62.drop ((k+1) * 3)) (((xG s (g_States[i]!)).1).drop (k+1)),cellsF B63 (Sv (aa b68 o69) (((xG s (g_States[i]!)).1).length) rc45a) xs62,sF true G59 (aa b68 o69) rc45a ((xG s (g_States[i]!)).1),sF true Fe40Alive ae40Alive ce40Alive ((g_States[i]!).qI),sF true Fe40Bags ae40Bags ce40Bags ((g_States[i]!).qP),sF true Fe40Around ae40Around ce40Around ((g_States[i]!).qN),xN true yQ x_g_Next g_Next,sF false xF qM qL s.qC,sF false zu xg qX s.qE,sF false zQ xq xn t.qI,sF false vK xX xM t.qP,sF false zo xe qZ t.qN]) ?_ ?_
    ·refine Qb rfl H [0,1,2,3,6,7,8,9] fun H=>?_
     have S:=H.jr [0,1,2,3,6,7,8,9] (zR 0 18)
     refine tF 0 rfl rfl S ?_
     refine rtl 2 S ?_
     refine rtp 3 (yI k) S ?_
     refine tI 4 rfl rfl rfl S ?_
     refine rt 5 _ (yl (cs:=[Sv ae71Alive (((((xG s (g_States[i]!)).1)[k]!).qI).length) ce71Alive,Sv ae71Bags (((((xG s (g_States[i]!)).1)[k]!).qP).length) ce71Bags,Sv ae71Around (((((xG s (g_States[i]!)).1)[k]!).qN).length) ce71Around]) isAgg43 sizeOf43 rfl (fun _ h=>qF (h.get 3 rfl) 0 3)) S ?_
     refine jb [1,6] qh qm (jM rfl ?_ (jM rfl ?_ jd))
     ·refine zK (Sv Ql jk Qk) isAgg48 rfl (H.cell 4 rfl rfl) (⟨H.pick [0,1,2,3,6,7,8,9] (zR 0 18),(ro 6 rfl (xx H underlying48 ti43 [Sv ae71Alive (((((xG s (g_States[i]!)).1)[k]!).qI).length) ce71Alive,Sv ae71Bags (((((xG s (g_States[i]!)).1)[k]!).qP).length) ce71Bags,Sv ae71Around (((((xG s (g_States[i]!)).1)[k]!).qN).length) ce71Around] fun b85 w86 H=>⟨H.pick [1,2,3,4,7,8,9,10] (zR 0 18),(ro 7 rfl ?_)⟩))⟩)
      refine zG H 6 rfl 0 rfl underlying48 ti43 rfl qj rfl rfl rfl qw qp qf fun a87 c88 w89 H=>?_
      replace H:=H.Xa 12 rfl 0 rfl 1 rfl 2 rfl
      replace N:Fresh w.heap.size [(jI++(Fe71Alive++Fe71Bags++Fe71Around)),P72,yQ]:=(N.pick [0,1,2,5,3,4]).join.join.swap.join
      refine ⟨H.pick [1,2,3,4,7,8,9,10] (zR 1 18),(tF 8 rfl rfl (H.pick [1,2,3,4,7,8,9,10] (zR 1 18)) ?_)⟩
      refine ro 9 rfl (zI H 5 [Sv a87 (jk+1) c88,Sv yP yM yO] sizeOf48 fun w90 H=>⟨H.pick [1,2,3,4,7,8,9,10] (zR 1 18),(xA qh ((meet ⟨_,a87,c88,uE9,N,H.pick (zR 1 10) [0,1,2,3,4,5,7,8,9,10,11,12,14,15,16,17,18]⟩)))⟩)
     refine xx H underlying48 ti43 [Sv ae71Alive (((((xG s (g_States[i]!)).1)[k]!).qI).length) ce71Alive,Sv ae71Bags (((((xG s (g_States[i]!)).1)[k]!).qP).length) ce71Bags,Sv ae71Around (((((xG s (g_States[i]!)).1)[k]!).qN).length) ce71Around] fun b91 w92 H=>⟨H.pick [1,2,3,4,7,8,9,10] (zR 0 18),(ro 1 rfl (zK (Sv Ql jk Qk) isAgg48 rfl (H.cell 5 rfl rfl) (⟨H.pick [1,2,3,4,7,8,9,10] (zR 0 18),(ro 7 rfl ?_)⟩)))⟩
     refine zG H 6 rfl 0 rfl underlying48 ti43 rfl qj rfl rfl rfl qw qp qf fun a93 c94 w95 H=>?_
     replace H:=H.Xa 12 rfl 0 rfl 1 rfl 2 rfl
     replace N:Fresh w.heap.size [(jI++(Fe71Alive++Fe71Bags++Fe71Around)),P72,yQ]:=(N.pick [0,1,2,5,3,4]).join.join.swap.join
     refine ⟨H.pick [1,2,3,4,7,8,9,10] (zR 1 18),(tF 8 rfl rfl (H.pick [1,2,3,4,7,8,9,10] (zR 1 18)) ?_)⟩
     refine ro 9 rfl (zI H 5 [Sv a93 (jk+1) c94,Sv yP yM yO] sizeOf48 fun w96 H=>⟨H.pick [1,2,3,4,7,8,9,10] (zR 1 18),(xA qh ((meet ⟨_,a93,c94,uE9,N,H.pick (zR 1 10) [0,1,2,3,4,5,7,8,9,10,11,12,14,15,16,17,18]⟩)))⟩)
    clear H N
    rintro ρ w97 ⟨xQ,a81,c82,rfl,N,H⟩
    refine t_n (xK (sq 1 (sp (yI i) (sw (xx H underlying27 ti2 [yI i] fun b98 w99 H=>sw (zG H 4 rfl 0 rfl underlying27 ti2 rfl qj rfl rfl rfl qw qp qf fun a100 c101 w102 H=>?_))))))
    rw [snocI] at H
    refine sq 1 (zjn (xK (sq 2 (sw (xx H underlying27 ti2 [yI jk] fun b103 w104 H=>sw (zG H 2 rfl 0 rfl underlying27 ti2 rfl qj rfl rfl rfl qw qp qf fun a105 c106 w107 H=>?_))))))
    rw [snocI] at H
    refine sq 1 (xP (b_n (t_n (xK (sp (yI k) (sw (zi k 1 rfl rfl qf (sq 1 (xP (qW (m' :=((((xG s (g_States[i]!)).1).length) - ((k+1):Int)).toNat) qf ⟨_,_,_,_,_,_,_,_,_,k+1,_,_,_,_,_,_,_,uE8,?_,?_,?_,?_,rfl,(N.pick [2,0,1]),H.pick (zR 2 10) [5,6,7,8,9,10,11,0,12,13,14,15,16]⟩))))))))))
    ·first | exact (XO (k:=k) ‹_›).2 | (refine Eq.trans ?_ (XP (k:=k) ‹_›).2;congr 2 <;> omega)
    ·first | exact (XP (k:=k) ‹_›).1 | exact (XO (k:=k) ‹_›).1
    ·omega
    ·first | (rw [← (XP (k:=k) ‹_›).1,List.length_append,List.length_append];exact congrArg (·+1) kf2) | (rw [← (XO (k:=k) ‹_›).1];omega)
   refine qU (t_n (xK (sq 2 (sw (xx H underlying27 ti2 [yI (firstIdx (fun zz=>decide (((jA g_States (xG s (g_States[i]!)).1 k).1)[zz]! =(((xG s (g_States[i]!)).1)[k]!))) ((jA g_States (xG s (g_States[i]!)).1 k).1).length)] fun b108 w109 H=>?_)))))
   refine sw (zG H 1 rfl 0 rfl underlying27 ti2 rfl qj rfl rfl rfl qw qp qf fun a110 c111 w112 H=>?_)
   rw [snocI] at H
   refine sq 1 (xP (b_n (t_n (xK (sp (yI k) (sw (zi k 1 rfl rfl qf (sq 1 (xP (qW (m' :=((((xG s (g_States[i]!)).1).length) - ((k+1):Int)).toNat) qf ⟨_,_,_,_,_,_,_,_,_,k+1,_,_,_,_,_,_,_,uE8,?_,?_,?_,?_,rfl,(N.pick [4,5,3]),H.pick (zR 1 10) (4::zR 6 12)⟩))))))))))
   ·first | exact (XO (k:=k) ‹_›).2 | (refine Eq.trans ?_ (XP (k:=k) ‹_›).2;congr 2 <;> omega)
   ·first | exact (XP (k:=k) ‹_›).1 | exact (XO (k:=k) ‹_›).1
   ·omega
   ·first | (rw [← (XP (k:=k) ‹_›).1,List.length_append,List.length_append];exact congrArg (·+1) kf2) | (rw [← (XO (k:=k) ‹_›).1];omega)
  refine zx4 (zcr (oF rfl (oL rfl (H.cell 4 rfl rfl) (sq 1 (sw (xx H underlying41 ti27 [Sv a_row n_row c_row] fun b113 w114 H=>?_))))))
  obtain ⟨G118,N,hn119,H⟩:=H.zh 1 rfl N (H.vz [6,7,0])
  refine sw (zG H 3 rfl 0 rfl underlying41 ti27 rfl qj rfl rfl rfl qw qp qf fun a115 c116 w117 H=>?_)
  replace H:=H.yC 7 rfl 0 rfl
  replace N:Fresh w.heap.size [(yQ++G118),jI,P_k]:=(N.pick [1,0,2,3]).join
  refine oF rfl (sw (zI H 5 [Sv Ql jk Qk,Sv a115 (yM+1) c116] sizeOf41 fun w120 H=>zjc (oF rfl (oL rfl (H.cell 5 rfl rfl) (oN rfl (sp (Bv (decide ((jk:Int) > 300))) (zjn (cD rfl (fun h121=>?_) (fun h121=>?_)))))))))
  ·refine zcr (sw (vG [yN,yN] [] (sq 1 (sw (xY H 7 [yN,yN] sizeOf100 fun w122 H=>sq 1 (sp (yI 3) (zjr (zr5 (retC3 H 7 rfl (Sv a_from_1 n_from_1 c_from_1) (yI 3) rfl isAgg100 sizeOf100 rfl rfl rfl ⟨_,rfl,?_⟩)))))))))
   replace H:=H.erases [7,6,5,3,2,1,0]
   dsimp only [zU,List.eraseIdx] at H
   refine sq 3 (sp (yI 3) (sw (xH H ti100 [yN,yN] fun b123 w124 H=>sw (xY H 0 [yN,yN] sizeOf100 fun w125 H=>sq 1 (sp (yI 3) (zjc (sw (x8 [yN,yN] isAgg100 sizeOf100 rfl (qF (H.cells 0 rfl) 0 2) (sp (yI 3) (sw (xY H 2 [yN,yN] sizeOf100 fun w126 H=>sp (yI 3) ?_)))))))))))
   refine zjr ?_
   replace H:=H.addNil (α:=qH)
   replace H:=H.addNil (α:=yLI)
   refine retC2 H 2 rfl (yI 3) rfl isAgg100 sizeOf100 rfl rfl ⟨_,rfl,?_,H.base⟩
   obtain ⟨z1,z2⟩:=exG_of (ex_0 k0 (kr.trans (gr_many qf qf qf (k:=k) qf qf)))
   rw [z1,z2]
   exact ⟨none,0,[],none,0,[],rfl,(N.emp.emp.pick [0,1]),H.pick [] [1,0]⟩
  refine qU (b_n (t_n (xK (sp (yI i) (sw (zi i 1 rfl rfl qf (sq 1 (xP (qW (m' :=(301 - (i+1))) qf ⟨_,_,_,_,_,i+1,_,_,_,_,_,_,_,_,_,_,_,_,uE5,?_,?_,?_,?_,?_,?_,?_,rfl,(N.pick [1,0]),H.pick (zR 3 8) (0::zR 9 6)⟩)))))))))
  ·exact kr.trans (gr_go qf qf qf (k:=k) qf qf)
  ·exact addSt_mem ka succ_ok k qf
  ·omega
  ·simp;omega
  ·omega
  ·exact ko.next qf qf
  ·omega
 refine zx4 (zcr (sw (x8 [Sv yJ yG yh,Sv yP yM yO] isAgg100 sizeOf100 rfl (qF (H.cells 2 rfl) 0 2) (sq 1 (sw (xY H 4 [Sv yJ yG yh,Sv yP yM yO] sizeOf100 fun w127 H=>sq 1 (sp (yI 0) (zjr (retC3 H 4 rfl (Sv a_from n_from c_from) (yI 0) rfl isAgg100 sizeOf100 rfl rfl rfl ⟨_,rfl,?_⟩)))))))))
 replace H:=H.erases [4,2]
 dsimp only [zU,List.eraseIdx] at H
 refine sq 3 (sp (yI 0) (sw (xH H ti100 [yN,yN] fun b128 w129 H=>sw (xY H 0 [Sv yJ yG yh,Sv yP yM yO] sizeOf100 fun w130 H=>sq 1 (sp (yI 0) (zjc ?_))))))
 refine sw (x8 [Sv yJ yG yh,Sv yP yM yO] isAgg100 sizeOf100 rfl (qF (H.cells 0 rfl) 0 2) (sp (yI 0) (sw (xY H 4 [Sv yJ yG yh,Sv yP yM yO] sizeOf100 fun w131 H=>sp (yI 0) (zjr ?_)))))
 have H0:=H
 obtain ⟨G132,hg134,hn133,H⟩:=H.Qj (α:=qH) 3 rfl 1 rfl qj
 replace N:Fresh w.heap.size [G132,yQ]:=Fresh.ice N H0 3 hg134.1 hg134.2 (H0.vz [0])
 clear H0
 obtain rfl:=H.isLen 0 rfl
 have H0:=H
 obtain ⟨G135,hg137,hn136,H⟩:=H.Qj (α:=yLI) 1 rfl 1 rfl qj
 replace N:Fresh w.heap.size [G135,G132]:=Fresh.ice (N.pick [1,0]) H0 1 hg137.1 hg137.2 (H0.vz [0])
 clear H0
 obtain rfl:=H.isLen 0 rfl
 refine retC2 H 4 rfl (yI 0) rfl isAgg100 sizeOf100 rfl rfl ⟨_,rfl,?_,H.base⟩
 obtain ⟨z1,z2⟩:=exG_of (ex_0 k0 (kr.trans (gr_end qf)))
 rw [z1,z2]
 exact ⟨yJ,yh,G132,yP,yO,G135,rfl,(N.pick [1,0]),H.pick [] [1,0]⟩
theorem implEx_ok (w:World) (s:qG) (t:qH) (xf:zP w xF qM qL s.qC) (xE:zP w zu xg qX s.qE) (zk:zP w zQ xq xn t.qI) (zO:zP w vK xX xM t.qP) (xJ:zP w zo xe qZ t.qN):Calls Tryz.prog 63 #[.agg #[yI s.xO,Sv qM s.qC.length qL,Sv xg s.qE.length qX],.agg #[Sv xq t.qI.length xn,Sv xX t.qP.length xM,Sv xe t.qN.length qZ]] w (Ret (fun v w' =>∃ (ra0States:yOA) (rc0States:Nat) (rF0States:yLN) (ra0Next:yOA) (rc0Next:Nat) (rF0Next:yLN),v=.tuple #[.agg #[Sv ra0States (((exG s t).vX).length) rc0States,Sv ra0Next (((exG s t).fNext).length) rc0Next],yI ((exRes s t).2)]/\Fresh w.heap.size [rF0States,rF0Next]/\St w w' [] [sF true rF0States ra0States rc0States ((exG s t).vX),sF true rF0Next ra0Next rc0Next ((exG s t).fNext)]) w):=by
 refine en func63 ntmps63 ?_
 have H:=(((((St.start w).arg xJ).arg zO).arg zk).arg xE).arg xf
 have vH:=qO xf
 have jD:=qO xE
 have yL:=qO zk
 have Qv:=qO zO
 have jQ:=qO xJ
 clear xf xE zk zO xJ
 have N:=Fresh.nil w.heap.size
 refine zcr (sw (zY H (yS s qM qL xg qX) fun b1 w2 H=>sw (zY H (yT t xq xn xX xM xe qZ) fun b3 w4 H=>sw (xH H ti100 [yN,yN] fun b5 w6 H=>sp (yI 0) (zjcc (sw (x8 (yS s qM qL xg qX) isAgg37 sizeOf37 rfl (qF (H.cells 2 rfl) 0 3) ?_)))))))
 refine sw (x8 (yT t xq xn xX xM xe qZ) isAgg43 sizeOf43 rfl (qF (H.cells 1 rfl) 0 3) (sw (oq (validState_ok _ s t (H.get 0 rfl).1 (H.get 1 rfl).1 (H.get 2 rfl).1 (H.get 3 rfl).1 (H.get 4 rfl).1) H fun w8 H=>sq 1 (zjn (cQ rfl (fun h10=>?_) (fun h10=>?_))))))
 ·refine zcr (sw (vG [yN,yN] [] (sw (xY H 0 [yN,yN] sizeOf100 fun w11 H=>sp (yI 1) (zjr (t_r ?_))))))
  replace H:=H.addNil (α:=qH)
  replace H:=H.addNil (α:=yLI)
  refine retC2 H 0 rfl (yI 1) rfl isAgg100 sizeOf100 rfl rfl ⟨_,rfl,?_,H.base⟩
  obtain ⟨z1,z2⟩:=exG_of (ex_1 ‹_›)
  rw [z1,z2]
  exact ⟨none,0,[],none,0,[],rfl,N.emp.emp,H.pick [] [1,0]⟩
 have k0:=(‹yj s/\zV s t›:yj s/\zV s t)
 have k1:=k0.1
 have k2:=k0.2
 obtain ⟨q7,q8,q9,q10⟩:=k2.sizes k1.1
 have q13:=fun k hk=>Nat.le_trans (q10 k hk) (by decide:8<=1000000)
 refine qU (t_n (zcr (sw (x8 (yS s qM qL xg qX) isAgg37 sizeOf37 rfl (qF (H.cells 2 rfl) 0 3) (sw (x8 (yT t xq xn xX xM xe qZ) isAgg43 sizeOf43 rfl (qF (H.cells 1 rfl) 0 3) ?_))))))
 refine sw (zN #[.agg #[yI s.xO,Sv qM s.qC.length qL,Sv xg s.qE.length qX],.agg #[Sv xq t.qI.length xn,Sv xX t.qP.length xM,Sv xe t.qN.length qZ]] rfl rfl call113 (en func113 ntmps113 ?_))
 refine zcr (sw (zY H (yS s qM qL xg qX) fun b12 w13 H=>sw (zY H (yT t xq xn xX xM xe qZ) fun b14 w15 H=>sw (xH H ti100 [yN,yN] fun b16 w17 H=>sp (yI 0) (zjc (sw (x8 (yT t xq xn xX xM xe qZ) isAgg43 sizeOf43 rfl (qF (H.cells 1 rfl) 0 3) ?_)))))))
 have sz21:=H.base.size
 refine sw (oc (XL _ t (H.get 2 rfl).1 (H.get 3 rfl).1 (H.get 4 rfl).1 qg qg qg qg) ?_)
 rintro _ w19 ⟨ra18Alive,rn18Alive,rc18Alive,ra18Bags,rn18Bags,rc18Bags,rx18Bags,rF18Bags,ra18Around,rn18Around,rc18Around,rfl,M,K⟩ _
 replace N:=N.merge sz21 qm M
 replace H:=H.merge K M
 obtain rfl:=H.rowNB 0 rfl
 obtain rfl:=H.xB (α:=yLI) 1 rfl 0 rfl qj
 obtain rfl:=H.yt 2 rfl
 refine sw (xx H underlying48 ti43 (yT t ra18Alive rc18Alive ra18Bags rc18Bags ra18Around rc18Around) fun b26 w27 H=>sw (vG [Sv (aa b26 0) 1 1,yN] [(0,Sv (aa b26 0) 1 1)] (sw (xH H ti100 [yN,yN] fun b28 w29 H=>sw (xY H 0 [Sv (aa b26 0) 1 1,yN] sizeOf100 fun w30 H=>zjcc (sp (yI 0) (zjn (qV ?_))))))))
 replace H:=H.boxRow 1 rfl 3 1 rfl qj
 replace H:=H.vV (α:=qH)
 obtain ⟨G31,N,hn32,H⟩:=H.freezeB 2 rfl N (H.vz [1])
 have H0:=H
 obtain ⟨G33,hg35,hn34,H⟩:=H.Qj (α:=yLI) 3 rfl 2 rfl qj
 replace N:Fresh w.heap.size [G33,G31]:=Fresh.ice (N.pick [1,0]) H0 3 hg35.1 hg35.2 (H0.vz [0])
 clear H0
 obtain ⟨G36,N,hn37,H⟩:=H.zh 4 rfl N (H.vz [0,1])
 replace H:=H.Xa 3 rfl 2 rfl 1 rfl 0 rfl
 replace N:Fresh w.heap.size [([]++(G31++G33++G36))]:=(N.emp.pick [3,2,1,0]).join.join.swap.join
 replace H:St _ _ [.box b28 [Sv (aa b26 0) 1 1,yN] 100,rr (aa b26 0) 1 1 43 3 (yT t ra18Alive rc18Alive ra18Bags rc18Bags ra18Around rc18Around),rr none 0 0 0 1 [],rr none 0 0 0 1 [],rr none 0 0 0 1 [],.box b16 [yN,yN] 100,.box b14 (yT t xq xn xX xM xe qZ) 43,.box b12 (yS s qM qL xg qX) 37,.box b5 [yN,yN] 100,.box b3 (yT t xq xn xX xM xe qZ) 43,.box b1 (yS s qM qL xg qX) 37] [xN true ([]++(G31++G33++G36)) (yT t ra18Alive rc18Alive ra18Bags rc18Bags ra18Around rc18Around) [t],sF true G36 ra18Around rc18Around t.qN,sF true G33 ra18Bags rc18Bags t.qP,sF true G31 ra18Alive rc18Alive t.qI,xN true [] [] ([]:List qH),xN true rF18Bags rx18Bags t.qP,sF false xF qM qL s.qC,sF false zu xg qX s.qE,sF false zQ xq xn t.qI,sF false vK xX xM t.qP,sF false zo xe qZ t.qN]:=H
 replace H:=H.nilRow 27 1
 replace H:=H.vV (α:=yLI)
 refine zA ((fun Z0 Z1 Z2 Z3 Z4 Z5 Z6 Z7 Z8 Z9 Z10=>fun m' ρ w38=>∃ (xQ:Env) (i:Nat) (yJ:yOA) (yG:Nat) (yh:Nat) (g_States:List qH) (Xy:List Value) (QF:yLN) (yP:yOA) (yM:Nat) (yO:Nat) (g_Next:yLL) (x_g_Next:List Value) (yQ:yLN),ρ=upd (upd (upd (upd xQ 2 (pp b12 0)) 4 (pp b16 0)) 6 (pp b28 0)) 7 (yI i)/\(grRes s t=grGo s (302 - i) i g_States g_Next)/\(∀ u∈g_States,zV s u)/\(0 < g_States.length/\g_States.length<=300)/\(g_Next.length=i)/\(i<=g_States.length)/\(GrOk g_States g_Next)/\m' =(301 - i)/\Fresh w.heap.size [QF,yQ]/\St w w38 [rr yP yM yO 27 1 x_g_Next,.box b28 [Sv yJ yG yh,Sv yP yM yO] 100,rr yJ yG yh 43 3 Xy,Z0,Z1,Z2,Z3,Z4,Z5] [xN true yQ x_g_Next g_Next,xN true QF Xy g_States,Z6,Z7,Z8,Z9,Z10]) _ _ _ _ _ _ _ _ _ _ _) ((301 - 0)) ⟨_,0,(aa b26 0),1,1,[t],(yT t ra18Alive rc18Alive ra18Bags rc18Bags ra18Around rc18Around),([]++(G31++G33++G36)),none,0,0,([]:yLL),[],[],uE4,(by rfl),(by exact fun u hu=>by obtain rfl:=List.mem_singleton.1 hu;exact k2),qm,(by rfl),qm,(by exact GrOk.start t),rfl,(N.emp.pick [1,0]),H.pick (0::1::2::zR 6 6) (0::1::zR 7 5)⟩ ?_
 clear H N
 rintro m' ρ w39 ⟨xQ,i,yJ,yG,yh,g_States,Xy,QF,yP,yM,yO,g_Next,x_g_Next,yQ,rfl,kr,ka,kl,kn,ki,ko,rfl,N,H⟩
 have hn_g_States:=H.xB (α:=qH) 2 rfl 1 rfl qj
 have hn_g_Next:=H.xB (α:=yLI) 0 rfl 0 rfl qj
 refine zcc (sp (yI i) (oF rfl (oL rfl (H.cell 1 rfl rfl) (oN rfl (sq 1 (zjn (cD rfl (fun h40=>?_) (fun h40=>?_))))))))
 ·have ks:=ka (g_States[i]!) (mem_at (k:=i) qf rfl)
  have nl:=succ_len s (g_States[i]!)
  refine qU (t_n (xU (qV (xU ?_))))
  refine jw rfl H fun H=>rt 0 _ (yl (cs:=(yS s qM qL xg qX)) isAgg37 sizeOf37 rfl (fun _ h=>qF (h.cells 5 rfl) 0 3)) H ?_
  refine tF 1 rfl rfl H ?_
  refine tL 2 rfl rfl (fun _ h=>h.cell 1 rfl rfl) H ?_
  refine rtp 3 (yI i) H ?_
  obtain ⟨b42,rfl⟩:=H.y5 2 rfl qf
  obtain ⟨ae43Alive,ce43Alive,Fe43Alive,ae43Bags,ce43Bags,Fe43Bags,ae43Around,ce43Around,Fe43Around,hx44,H⟩:=H.rowel_StateD 2 rfl 1 rfl (iv:=i) i qf qf
  have S:=H.jr (zR 0 9) (zR 3 7)
  refine tI 4 rfl rfl rfl S ?_
  refine rt 5 _ (yl (cs:=[Sv ae43Alive (((g_States[i]!).qI).length) ce43Alive,Sv ae43Bags (((g_States[i]!).qP).length) ce43Bags,Sv ae43Around (((g_States[i]!).qN).length) ce43Around]) isAgg43 sizeOf43 rfl (fun _ h=>qF (fun j v hj=>h.rowGet 2 rfl (hx44 j v hj)) 0 3)) S ?_
  refine ro 6 rfl ?_
  have sz48:=H.base.size
  have lt49:=H.ltN (L:=[QF,yQ]) [4,3]
  refine oc (nextStates_ok _ s (g_States[i]!) (H.get 5 rfl).1 (H.get 6 rfl).1 (H.get 0 rfl).1 (H.get 1 rfl).1 (H.get 2 rfl).1 qg qg) ?_
  rintro _ w46 ⟨ra45a,rn45a,rc45a,rx45a,rF45a,rfl,M,K⟩ _
  replace N:=N.merge sz48 lt49 M
  replace H:=H.merge K M
  obtain rfl:=H.xB (α:=qH) 0 rfl 0 rfl qj
  refine ⟨H.pick (zR 1 9) (zR 4 7),?_⟩
  have S:=H.jr (zR 1 9) (zR 4 7)
  refine rtl 7 S ?_
  refine rtl 8 S ?_
  refine rtl 9 S ?_
  refine rtl 10 S ?_
  refine rtl 11 S ?_
  refine xA qh (t_n (zcc (sq 1 (sp (Bv (((xG s (g_States[i]!)).2:Int) != 0)) (zjn (zT (((xG s (g_States[i]!)).2:Int) != 0) rfl (fun h51=>?_) (fun h51=>?_)))))))
  ·replace h51:=bne_iff_ne.1 h51
   refine zcr (sw (vG [yN,yN] [] (sq 1 (sw (xY H 4 [yN,yN] sizeOf100 fun w52 H=>sq 1 (zjr (t_r (zr5 (retC2 H 4 rfl (yI ((xG s (g_States[i]!)).2)) rfl isAgg100 sizeOf100 rfl rfl ⟨_,rfl,?_⟩)))))))))
   replace H:=H.erases [6,5,4,3,2,1,0]
   dsimp only [zU,List.eraseIdx] at H
   refine sq 2 (sw (xY H 0 [yN,yN] sizeOf100 fun w53 H=>sq 1 (zjr ?_)))
   replace H:=H.addNil (α:=qH)
   replace H:=H.addNil (α:=yLI)
   refine retC2 H 0 rfl (yI ((xG s (g_States[i]!)).2)) rfl isAgg100 sizeOf100 rfl rfl ⟨_,rfl,?_,H.base⟩
   obtain ⟨z1,z2⟩:=exG_of (ex_0 k0 (kr.trans (gr_code qf qf ql)))
   rw [z1,z2]
   exact ⟨none,0,[],none,0,[],rfl,(N.emp.emp.pick [0,1]),H.pick [] [1,0]⟩
  replace h51:=xu h51
  refine qU (t_n (zcr (sw (zW H underlying27 ti2 fun b54 w55 H=>sq 1 (zjcc (sq 1 (oN rfl (sp (yI 0) (zjn (qV ?_))))))))))
  have H0:=H
  obtain ⟨G56,hg58,hn57,H⟩:=H.Qj (α:=qH) 1 rfl 0 rfl qj
  replace N:Fresh w.heap.size [G56,QF,yQ]:=Fresh.ice N H0 1 hg58.1 hg58.2 (H0.vz [5,4])
  clear H0
  obtain ⟨xs59,B60,P61,N,H⟩:=H.pool (α:=qH) 0 rfl N
  replace H:=H.vI 0 [] 0
  refine zA ((fun Z0 Z1 Z2 Z3 Z4 Z5 Z6 Z7 Z8 Z9 Z10 Z11 Z12 Z13 Z14=>fun m' ρ w62=>∃ (xQ:Env) (a_own:yOA) (n_own:Nat) (c_own:Nat) (own:yLI) (k:Nat) (Ql:yOA) (jk:Nat) (Qk:Nat) (g_States_1:List qH) (QK:List Value) (jI:yLN) (P_k:yLN),ρ=upd (upd (upd (upd (upd (upd (upd (upd xQ 2 (pp b12 0)) 4 (pp b16 0)) 6 (pp b28 0)) 7 (yI i)) 10 (Sv a_own n_own c_own)) 40 (Sv ra45a (((xG s (g_States[i]!)).1).length) rc45a)) 41 (yI (((xG s (g_States[i]!)).1).length))) 42 (yI k)/\own=(jA g_States (xG s (g_States[i]!)).1 k).2/\g_States_1=(jA g_States (xG s (g_States[i]!)).1 k).1/\((k:Int)<=(((xG s (g_States[i]!)).1).length))/\m' =((((xG s (g_States[i]!)).1).length) - (k:Int)).toNat/\Fresh w.heap.size [yQ,jI,P_k]/\St w w62 [rr a_own n_own c_own 2 1 (own.map (Value.int .i64)),Z0,.box b28 [Sv Ql jk Qk,Sv yP yM yO] 100,rr Ql jk Qk 43 3 QK,Z1,Z2,Z3,Z4,Z5,Z6] [xN true P_k (xs59.drop (k * 3)) (((xG s (g_States[i]!)).1).drop k),Z7,Z8,Z9,xN true jI QK g_States_1,Z10,Z11,Z12,Z13,Z14]) _ _ _ _ _ _ _ _ _ _ _ _ _ _ _) (((((xG s (g_States[i]!)).1).length) - (0:Int)).toNat) ⟨_,(aa b54 0),0,0,([]:yLI),0,(aa b42 0),yG,yh,g_States,Xy,QF,P61,uE8,(by rfl),(by rfl),qf,rfl,(N.pick [2,1,0]),H.pick (0::zR 2 9) (0::1::2::zR 7 7)⟩ ?_
  clear H N
  rintro m' ρ w63 ⟨xQ,a_own,n_own,c_own,own,k,Ql,jk,Qk,g_States_1,QK,jI,P_k,rfl,rfl,rfl,i0,rfl,N,H⟩
  have hn_own:=H.yt 0 rfl
  have hn_g_States:=H.xB (α:=qH) 3 rfl 4 rfl qj
  obtain ⟨al1,al2,al3⟩:=addSt_len (S:=g_States) (nx:=(xG s (g_States[i]!)).1) k
  refine zcr (sq 1 (zjn (xU (cD rfl (fun h64=>?_) (fun h64=>?_)))))
  ·obtain ⟨b65,o66,rfl⟩:=H.addr 2 rfl qf
   obtain ⟨ae68Alive,ce68Alive,Fe68Alive,ae68Bags,ce68Bags,Fe68Bags,ae68Around,ce68Around,Fe68Around,P69,N,H⟩:=H.drain_StateD 1 rfl 0 rfl ((N.pick [2,0,1]):Fresh w.heap.size [P_k,yQ,jI]) k k qf qf qf
   refine qU (t_n (xU (qV (zcr (oI rfl rfl (sw (x8 [Sv ae68Alive (((((xG s (g_States[i]!)).1)[k]!).qI).length) ce68Alive,Sv ae68Bags (((((xG s (g_States[i]!)).1)[k]!).qP).length) ce68Bags,Sv ae68Around (((((xG s (g_States[i]!)).1)[k]!).qN).length) ce68Around] isAgg43 sizeOf43 rfl (qF (H.get 3 rfl) 0 3) (sw (xH H ti43 [yN,yN,yN] fun b70 w71 H=>?_)))))))))
   refine sw (xY H 0 [Sv ae68Alive (((((xG s (g_States[i]!)).1)[k]!).qI).length) ce68Alive,Sv ae68Bags (((((xG s (g_States[i]!)).1)[k]!).qP).length) ce68Bags,Sv ae68Around (((((xG s (g_States[i]!)).1)[k]!).qN).length) ce68Around] sizeOf43 fun w72 H=>zjc (oF rfl (oL rfl (H.cell 3 rfl rfl) ?_)))
   refine sw (x8 [Sv ae68Alive (((((xG s (g_States[i]!)).1)[k]!).qI).length) ce68Alive,Sv ae68Bags (((((xG s (g_States[i]!)).1)[k]!).qP).length) ce68Bags,Sv ae68Around (((((xG s (g_States[i]!)).1)[k]!).qN).length) ce68Around] isAgg43 sizeOf43 rfl (qF (H.cells 0 rfl) 0 3) ?_)
   obtain ⟨G73,hn74,h75⟩:=H.XE (α:=qH) 4 rfl 9 rfl qj
   refine sw (oq (jo (by rw [← hn74]) (find_ok _ ((jA g_States (xG s (g_States[i]!)).1 k).1) (((xG s (g_States[i]!)).1)[k]!) (hn74▸h75) (H.get 0 rfl).1 (H.get 1 rfl).1 (H.get 2 rfl).1)) H fun w77 H=>sq 1 (zjcc ?_))
   refine sq 1 (sp (Bv (decide ((firstIdx (fun zz=>decide (((jA g_States (xG s (g_States[i]!)).1 k).1)[zz]! =(((xG s (g_States[i]!)).1)[k]!))) ((jA g_States (xG s (g_States[i]!)).1 k).1).length:Int) < 0))) (zjn (cD rfl (fun h79=>?_) (fun h79=>?_))))
   ·refine zcr (oF rfl (oL rfl (H.cell 3 rfl rfl) ?_))
    obtain ⟨G80,hn81,h82⟩:=H.XE (α:=qH) 4 rfl 9 rfl qj
    refine sw (oq (jo (by rw [← hn81]) (sizeS_ok _ ((jA g_States (xG s (g_States[i]!)).1 k).1) (hn81▸h82))) H fun w84 H=>sq 1 (zjn (xK (oF rfl (oL rfl (H.cell 3 rfl rfl) (sw (x8 [Sv ae68Alive (((((xG s (g_States[i]!)).1)[k]!).qI).length) ce68Alive,Sv ae68Bags (((((xG s (g_States[i]!)).1)[k]!).qP).length) ce68Bags,Sv ae68Around (((((xG s (g_States[i]!)).1)[k]!).qN).length) ce68Around] isAgg43 sizeOf43 rfl (qF (H.cells 0 rfl) 0 3) ?_)))))))
    refine sw (xx H underlying48 ti43 [Sv ae68Alive (((((xG s (g_States[i]!)).1)[k]!).qI).length) ce68Alive,Sv ae68Bags (((((xG s (g_States[i]!)).1)[k]!).qP).length) ce68Bags,Sv ae68Around (((((xG s (g_States[i]!)).1)[k]!).qN).length) ce68Around] fun b86 w87 H=>sw (zG H 5 rfl 0 rfl underlying48 ti43 rfl qj rfl rfl rfl qw qp qf fun a88 c89 w90 H=>?_))
    replace H:=H.Xa 9 rfl 0 rfl 1 rfl 2 rfl
    replace N:Fresh w.heap.size [(jI++(Fe68Alive++Fe68Bags++Fe68Around)),P69,yQ]:=(N.pick [0,1,2,5,3,4]).join.join.swap.join
    refine oF rfl (sw (zI H 4 [Sv a88 (jk+1) c89,Sv yP yM yO] sizeOf48 fun w91 H=>zjn (xK (sq 2 (sw (xx H underlying27 ti2 [yI (((jA g_States (xG s (g_States[i]!)).1 k).1).length)] fun b92 w93 H=>sw (zG H 3 rfl 0 rfl underlying27 ti2 rfl qj rfl rfl rfl qw qp qf fun a94 c95 w96 H=>?_)))))))
    rw [snocI] at H
    refine sq 1 (xP (b_n (t_n (xK (sw (zi k 1 rfl rfl qf (sq 1 (xP (qW (m' :=((((xG s (g_States[i]!)).1).length) - ((k+1):Int)).toNat) qf ⟨_,_,_,_,_,k+1,_,_,_,_,_,_,_,uE8,?_,?_,?_,rfl,(N.pick [2,0,1]),H.pick (zR 3 10) (5::7::8::9::0::zR 11 5)⟩)))))))))
    ·first | exact (XO (k:=k) ‹_›).2 | (refine Eq.trans ?_ (XP (k:=k) ‹_›).2;congr 2 <;> omega)
    ·first | exact (XP (k:=k) ‹_›).1 | exact (XO (k:=k) ‹_›).1
    ·omega
   refine qU (t_n (xK (sq 2 (sw (xx H underlying27 ti2 [yI (firstIdx (fun zz=>decide (((jA g_States (xG s (g_States[i]!)).1 k).1)[zz]! =(((xG s (g_States[i]!)).1)[k]!))) ((jA g_States (xG s (g_States[i]!)).1 k).1).length)] fun b97 w98 H=>?_)))))
   refine sw (zG H 2 rfl 0 rfl underlying27 ti2 rfl qj rfl rfl rfl qw qp qf fun a99 c100 w101 H=>?_)
   rw [snocI] at H
   refine sq 1 (xP (b_n (t_n (xK (sw (zi k 1 rfl rfl qf (sq 1 (xP (qW (m' :=((((xG s (g_States[i]!)).1).length) - ((k+1):Int)).toNat) qf ⟨_,_,_,_,_,k+1,_,_,_,_,_,_,_,uE8,?_,?_,?_,rfl,(N.pick [4,5,3]),H.pick (zR 2 10) (4::zR 6 9)⟩)))))))))
   ·first | exact (XO (k:=k) ‹_›).2 | (refine Eq.trans ?_ (XP (k:=k) ‹_›).2;congr 2 <;> omega)
   ·first | exact (XP (k:=k) ‹_›).1 | exact (XO (k:=k) ‹_›).1
   ·omega
  refine zx4 (zcc (oF rfl (oL rfl (H.cell 2 rfl rfl) (oN rfl (sp (Bv (decide ((jk:Int) > 300))) (zjn (cD rfl (fun h102=>?_) (fun h102=>?_))))))))
  ·refine zcr (sw (vG [yN,yN] [] (sw (xY H 4 [yN,yN] sizeOf100 fun w103 H=>sp (yI 3) (zjr (t_r (zr5 (retC2 H 4 rfl (yI 3) rfl isAgg100 sizeOf100 rfl rfl ⟨_,rfl,?_⟩))))))))
   replace H:=H.erases [6,5,4,3,2,1,0]
   dsimp only [zU,List.eraseIdx] at H
   refine sq 1 (sp (yI 3) (sw (xY H 0 [yN,yN] sizeOf100 fun w104 H=>sp (yI 3) (zjr ?_))))
   replace H:=H.addNil (α:=qH)
   replace H:=H.addNil (α:=yLI)
   refine retC2 H 0 rfl (yI 3) rfl isAgg100 sizeOf100 rfl rfl ⟨_,rfl,?_,H.base⟩
   obtain ⟨z1,z2⟩:=exG_of (ex_0 k0 (kr.trans (gr_many qf qf qf (k:=k) qf qf)))
   rw [z1,z2]
   exact ⟨none,0,[],none,0,[],rfl,(N.emp.emp.pick [0,1]),H.pick [] [1,0]⟩
  refine qU (t_n (xK (oF rfl (oL rfl (H.cell 2 rfl rfl) (sq 1 (sw (xx H underlying41 ti27 [Sv a_own n_own c_own] fun b105 w106 H=>?_)))))))
  obtain ⟨G110,N,hn111,H⟩:=H.zh 1 rfl N (H.vz [3,4,0])
  refine sw (zG H 2 rfl 0 rfl underlying41 ti27 rfl qj rfl rfl rfl qw qp qf fun a107 c108 w109 H=>?_)
  replace H:=H.yC 4 rfl 0 rfl
  replace N:Fresh w.heap.size [(yQ++G110),jI,P_k]:=(N.pick [1,0,2,3]).join
  refine oF rfl (sw (zI H 3 [Sv Ql jk Qk,Sv a107 (yM+1) c108] sizeOf41 fun w112 H=>xP (b_n (t_n (xK (sp (yI i) (sw (zi i 1 rfl rfl qf (sq 1 (xP (qW (m' :=(301 - (i+1))) qf ⟨_,i+1,_,_,_,_,_,_,_,_,_,_,_,_,uE4,?_,?_,?_,?_,?_,?_,rfl,(N.pick [1,0]),H.pick (zR 2 9) (0::zR 6 6)⟩)))))))))))
  ·exact kr.trans (gr_go qf qf qf (k:=k) qf qf)
  ·exact addSt_mem ka succ_ok k qf
  ·omega
  ·simp;omega
  ·omega
  ·exact ko.next qf qf
 refine zx4 (zcr (sw (x8 [Sv yJ yG yh,Sv yP yM yO] isAgg100 sizeOf100 rfl (qF (H.cells 1 rfl) 0 2) (sw (xY H 3 [Sv yJ yG yh,Sv yP yM yO] sizeOf100 fun w113 H=>sp (yI 0) (zjr (retC2 H 3 rfl (yI 0) rfl isAgg100 sizeOf100 rfl rfl ⟨_,rfl,?_⟩)))))))
 replace H:=H.erases [5,4,3,1]
 dsimp only [zU,List.eraseIdx] at H
 refine sq 1 (sp (yI 0) (sw (xY H 2 [Sv yJ yG yh,Sv yP yM yO] sizeOf100 fun w114 H=>sp (yI 0) (zjr ?_))))
 have H0:=H
 obtain ⟨G115,hg117,hn116,H⟩:=H.Qj (α:=qH) 1 rfl 1 rfl qj
 replace N:Fresh w.heap.size [G115,yQ]:=Fresh.ice N H0 1 hg117.1 hg117.2 (H0.vz [0])
 clear H0
 obtain rfl:=H.isLen 0 rfl
 have H0:=H
 obtain ⟨G118,hg120,hn119,H⟩:=H.Qj (α:=yLI) 0 rfl 1 rfl qj
 replace N:Fresh w.heap.size [G118,G115]:=Fresh.ice (N.pick [1,0]) H0 0 hg120.1 hg120.2 (H0.vz [0])
 clear H0
 obtain rfl:=H.isLen 0 rfl
 refine retC2 H 2 rfl (yI 0) rfl isAgg100 sizeOf100 rfl rfl ⟨_,rfl,?_,H.base⟩
 obtain ⟨z1,z2⟩:=exG_of (ex_0 k0 (kr.trans (gr_end qf)))
 rw [z1,z2]
 exact ⟨yJ,yh,G115,yP,yO,G118,rfl,(N.pick [1,0]),H.pick [] [1,0]⟩
theorem specHS_ok (w:World) (s:qG) (t:qH) (xf:zP w xF qM qL s.qC) (xE:zP w zu xg qX s.qE) (zk:zP w zQ xq xn t.qI) (zO:zP w vK xX xM t.qP) (xJ:zP w zo xe qZ t.qN):Calls Tryz.prog 49 #[.agg #[yI s.xO,Sv qM s.qC.length qL,Sv xg s.qE.length qX],.agg #[Sv xq t.qI.length xn,Sv xX t.qP.length xM,Sv xe t.qN.length qZ]] w (Ret (fun v w' =>∃ (ra0:yOA) (rc0:Nat) (rF0:yLN),v=.tuple #[Sv ra0 (((yc s t).1).length) rc0,yI ((yc s t).2)]/\Fresh w.heap.size [rF0]/\St w w' [] [sF true rF0 ra0 rc0 ((yc s t).1)]) w):=by
 refine en func49 ntmps49 ?_
 have H:=(((((St.start w).arg xJ).arg zO).arg zk).arg xE).arg xf
 have vH:=qO xf
 have jD:=qO xE
 have yL:=qO zk
 have Qv:=qO zO
 have jQ:=qO xJ
 clear xf xE zk zO xJ
 have N:=Fresh.nil w.heap.size
 refine zcr (sw (zY H (yS s qM qL xg qX) fun b1 w2 H=>sw (zY H (yT t xq xn xX xM xe qZ) fun b3 w4 H=>sq 1 (sp (yI 0) (zjc (sw (x8 (yS s qM qL xg qX) isAgg37 sizeOf37 rfl (qF (H.cells 1 rfl) 0 3) ?_)))))))
 refine sw (x8 (yT t xq xn xX xM xe qZ) isAgg43 sizeOf43 rfl (qF (H.cells 0 rfl) 0 3) ?_)
 have sz8:=H.base.size
 refine sw (oc (specEx_ok _ s t (H.get 0 rfl).1 (H.get 1 rfl).1 (H.get 2 rfl).1 (H.get 3 rfl).1 (H.get 4 rfl).1) ?_)
 rintro _ w6 ⟨ra5aStates,rc5aStates,rF5aStates,ra5aNext,rc5aNext,rF5aNext,rfl,M,K⟩ _
 replace N:=N.merge sz8 qm M
 replace H:=H.merge K M
 refine sq 3 (sw (xH H ti100 [yN,yN] fun b10 w11 H=>sw (xY H 0 [Sv ra5aStates (((exG s t).vX).length) rc5aStates,Sv ra5aNext (((exG s t).fNext).length) rc5aNext] sizeOf100 fun w12 H=>sq 1 (zjcc (sq 1 (sp (Bv (((exRes s t).2:Int) != 0)) ?_))))))
 refine zjn (zT (((exRes s t).2:Int) != 0) rfl (fun h13=>?_) (fun h13=>?_))
 ·replace h13:=bne_iff_ne.1 h13
  refine zcr (sw (zW H underlying48 ti43 fun b14 w15 H=>sq 3 (zjr (t_r ?_))))
  replace H:=H.boxRow 0 rfl 3 0 rfl qj
  replace H:=H.vV (α:=qH)
  replace H:St _ _ [rr (aa b14 0) 0 0 43 3 [],.box b10 [Sv ra5aStates (((exG s t).vX).length) rc5aStates,Sv ra5aNext (((exG s t).fNext).length) rc5aNext] 100,.box b3 (yT t xq xn xX xM xe qZ) 43,.box b1 (yS s qM qL xg qX) 37] [xN true [] [] ([]:List qH),sF true rF5aStates ra5aStates rc5aStates ((exG s t).vX),sF true rF5aNext ra5aNext rc5aNext ((exG s t).fNext),sF false xF qM qL s.qC,sF false zu xg qX s.qE,sF false zQ xq xn t.qI,sF false vK xX xM t.qP,sF false zo xe qZ t.qN]:=H
  have H0:=H
  obtain ⟨G16,hg18,hn17,H⟩:=H.Qj (α:=qH) 0 rfl 0 rfl qj
  replace N:Fresh w.heap.size [G16,rF5aStates,rF5aNext]:=Fresh.ice N.emp H0 0 hg18.1 hg18.2 (H0.vz [1,2])
  clear H0
  refine ret2 (Sv (aa b14 0) 0 0) (yI ((exRes s t).2)) rfl rfl rfl ⟨_,rfl,?_,H.base⟩
  rw [hs_c ‹_›]
  exact ⟨(aa b14 0),0,G16,rfl,(N.pick [0]),H.pick [] [0]⟩
 replace h13:=xu h13
 have c0:(exRes s t).2=0:=by omega
 have ga:=ex_all c0
 have k0:=ex_valid c0
 have k1:=k0.1
 have gp:=ga.pos
 have gl:=ga.le
 have gn:=ga.len
 refine qU (t_n (zcr (sw (zN #[pp b1 0,pp b10 0] rfl rfl call109 (en func109 ntmps109 ?_)))))
 refine zcr (sq 1 (zjc (sw (zW H underlying48 ti43 fun b19 w20 H=>sq 1 (zjcc (sp (yI 0) (zjn (qV ?_))))))))
 replace H:=H.boxRow 0 rfl 3 0 rfl qj
 replace H:=H.vV (α:=qH)
 replace H:St _ _ [rr (aa b19 0) 0 0 43 3 [],.box b10 [Sv ra5aStates (((exG s t).vX).length) rc5aStates,Sv ra5aNext (((exG s t).fNext).length) rc5aNext] 100,.box b3 (yT t xq xn xX xM xe qZ) 43,.box b1 (yS s qM qL xg qX) 37] [xN true [] [] ([]:List qH),sF true rF5aStates ra5aStates rc5aStates ((exG s t).vX),sF true rF5aNext ra5aNext rc5aNext ((exG s t).fNext),sF false xF qM qL s.qC,sF false zu xg qX s.qE,sF false zQ xq xn t.qI,sF false vK xX xM t.qP,sF false zo xe qZ t.qN]:=H
 refine zA ((fun Z0 Z1 Z2 Z3 Z4 Z5 Z6 Z7 Z8 Z9=>fun m' ρ w21=>∃ (xQ:Env) (jl:yOA) (vC:Nat) (jh:Nat) (out:List qH) (Xk:List Value) (yZ:yLN) (i:Nat),ρ=upd (upd (upd (upd xQ 0 (pp b1 0)) 1 (pp b10 0)) 5 (Sv jl vC jh)) 6 (yI i)/\out=(endsL s (exG s t).vX i)/\((i:Int)<=(((exG s t).vX).length))/\m' =((((exG s t).vX).length) - (i:Int)).toNat/\Fresh w.heap.size [rF5aStates,rF5aNext,yZ]/\St w w21 [rr jl vC jh 43 3 Xk,Z0,Z1,Z2] [xN true yZ Xk out,Z3,Z4,Z5,Z6,Z7,Z8,Z9]) _ _ _ _ _ _ _ _ _ _) (((((exG s t).vX).length) - (0:Int)).toNat) ⟨_,(aa b19 0),0,0,([]:List qH),[],[],0,uE4,(by rfl),qf,rfl,(N.emp.pick [1,2,0]),H⟩ ?_
 clear H N
 rintro m' ρ w22 ⟨xQ,jl,vC,jh,out,Xk,yZ,i,rfl,rfl,i0,rfl,N,H⟩
 have hn_out:=H.xB (α:=qH) 0 rfl 0 rfl qj
 have el:=ends_len s (exG s t).vX i
 refine zcc (sp (yI i) (sq 2 (oF rfl (oL rfl (H.cell 1 rfl rfl) (oN rfl (sq 1 (zjn (cD rfl (fun h23=>?_) (fun h23=>?_)))))))))
 ·have ks:=ga.st ((exG s t).vX[i]!) (mem_at (k:=i) qf rfl)
  obtain ⟨y7,y8,y9,y10⟩:=ks.sizes k1.1
  have y13:=fun k hk=>Nat.le_trans (y10 k hk) (by decide:8<=1000000)
  refine qU (t_n (xU (qV (zcr (sq 3 (oF rfl (oL rfl (H.cell 1 rfl rfl) (sp (yI i) ?_))))))))
  obtain ⟨b24,o25,rfl⟩:=H.addr 1 rfl qf
  obtain ⟨ae27Alive,ce27Alive,Fe27Alive,ae27Bags,ce27Bags,Fe27Bags,ae27Around,ce27Around,Fe27Around,H⟩:=H.elem_StateD 1 rfl i i qf qf qf
  refine oI rfl rfl (sw (oq (l03Halted_ok _ s (((exG s t).vX)[i]!) (qF (H.cells 3 rfl) 0 3) (H.get 7 rfl).1 (H.get 8 rfl).1 (qF (H.get 3 rfl) 0 3) (H.get 0 rfl).1 (H.get 1 rfl).1 (H.get 2 rfl).1 qg qg) H fun w29 H=>zjn (cP rfl (fun h31=>?_) (fun h31=>?_))))
  ·refine xK (sq 3 (oF rfl (oL rfl (H.cell 1 rfl rfl) (sp (yI i) (oI rfl rfl ?_)))))
   have sz35:=H.base.size
   have lt36:=H.ltN (L:=[rF5aStates,rF5aNext,yZ]) [5,6,4]
   refine sw (oc (l02Own_ok _ (((exG s t).vX)[i]!) (qF (H.get 3 rfl) 0 3) (H.get 0 rfl).1 (H.get 1 rfl).1 (H.get 2 rfl).1 qg qg qg qg) ?_)
   rintro _ w33 ⟨ra32Alive,rn32Alive,rc32Alive,ra32Bags,rn32Bags,rc32Bags,rx32Bags,rF32Bags,ra32Around,rn32Around,rc32Around,rfl,M,K⟩ _
   replace N:=N.merge sz35 lt36 M
   replace H:=H.merge K M
   obtain rfl:=H.rowNB 0 rfl
   obtain rfl:=H.xB (α:=yLI) 1 rfl 0 rfl qj
   obtain rfl:=H.yt 2 rfl
   refine sw (xx H underlying48 ti43 [Sv ra32Alive (((((exG s t).vX)[i]!).qI).length) rc32Alive,Sv ra32Bags (((((exG s t).vX)[i]!).qP).length) rc32Bags,Sv ra32Around (((((exG s t).vX)[i]!).qN).length) rc32Around] fun b40 w41 H=>?_)
   obtain ⟨G45,N,hn46,H⟩:=H.freezeB 1 rfl N (H.vz [0,6,7,5])
   have H0:=H
   obtain ⟨G47,hg49,hn48,H⟩:=H.Qj (α:=yLI) 2 rfl 1 rfl qj
   replace N:Fresh w.heap.size [G47,G45,rF5aStates,rF5aNext,yZ]:=Fresh.ice (N.pick [1,0,2,3,4]) H0 2 hg49.1 hg49.2 (H0.vz [0,7,8,6])
   clear H0
   obtain ⟨G50,N,hn51,H⟩:=H.zh 3 rfl N (H.vz [0,1,8,9,7])
   refine sw (zG H 4 rfl 0 rfl underlying48 ti43 rfl qj rfl rfl rfl qw qp qf fun a42 c43 w44 H=>?_)
   replace H:=H.Xa 8 rfl 2 rfl 1 rfl 0 rfl
   replace N:Fresh w.heap.size [(yZ++(G45++G47++G50)),rF5aStates,rF5aNext]:=(N.pick [2,1,0,5,3,4]).join.join.swap.join
   refine sq 1 (xP (b_n (t_n (xK (sp (yI i) (sw (zi i 1 rfl rfl qf (sq 1 (xP (qW (m' :=((((exG s t).vX).length) - ((i+1):Int)).toNat) qf ⟨_,_,_,_,_,_,_,i+1,uE4,?_,?_,rfl,(N.pick [1,2,0]),H.pick (zR 4 4) (0::zR 10 7)⟩))))))))))
   ·first | exact ends_yes qf ‹_› | exact ends_no qf ‹_›
   ·omega
  refine qU (b_n (t_n (xK (sp (yI i) (sw (zi i 1 rfl rfl qf (sq 1 (xP (qW (m' :=((((exG s t).vX).length) - ((i+1):Int)).toNat) qf ⟨_,_,_,_,_,_,_,i+1,uE4,?_,?_,rfl,N,H.pick (zR 0 4) (zR 4 8)⟩)))))))))
  ·first | exact ends_yes qf ‹_› | exact ends_no qf ‹_›
  ·omega
 refine zx4 (zcr (sq 2 (zjr (ret1 (Sv jl vC jh) rfl rfl ⟨_,rfl,(sq 1 (sp (yI 0) (zjr ?_)))⟩))))
 have H0:=H
 obtain ⟨G52,hg54,hn53,H⟩:=H.Qj (α:=qH) 0 rfl 0 rfl qj
 replace N:Fresh w.heap.size [G52,rF5aStates,rF5aNext]:=Fresh.ice (N.pick [2,0,1]) H0 0 hg54.1 hg54.2 (H0.vz [1,2])
 clear H0
 obtain rfl:=H.isLen 0 rfl
 refine ret2 (Sv jl ((endsL s (exG s t).vX i).length) jh) (yI 0) rfl rfl rfl ⟨_,rfl,?_,H.base⟩
 rw [hs_0 c0,show (exG s t).vX.length=i by omega]
 exact ⟨jl,jh,G52,rfl,(N.pick [0]),H.pick [] [0]⟩
theorem implHS_ok (w:World) (s:qG) (t:qH) (xf:zP w xF qM qL s.qC) (xE:zP w zu xg qX s.qE) (zk:zP w zQ xq xn t.qI) (zO:zP w vK xX xM t.qP) (xJ:zP w zo xe qZ t.qN):Calls Tryz.prog 15 #[.agg #[yI s.xO,Sv qM s.qC.length qL,Sv xg s.qE.length qX],.agg #[Sv xq t.qI.length xn,Sv xX t.qP.length xM,Sv xe t.qN.length qZ]] w (Ret (fun v w' =>∃ (ra0:yOA) (rc0:Nat) (rF0:yLN),v=.tuple #[Sv ra0 (((yc s t).1).length) rc0,yI ((yc s t).2)]/\Fresh w.heap.size [rF0]/\St w w' [] [sF true rF0 ra0 rc0 ((yc s t).1)]) w):=by
 refine en func15 ntmps15 ?_
 have H:=(((((St.start w).arg xJ).arg zO).arg zk).arg xE).arg xf
 have vH:=qO xf
 have jD:=qO xE
 have yL:=qO zk
 have Qv:=qO zO
 have jQ:=qO xJ
 clear xf xE zk zO xJ
 have N:=Fresh.nil w.heap.size
 refine zcr (sw (zY H (yS s qM qL xg qX) fun b1 w2 H=>sw (zY H (yT t xq xn xX xM xe qZ) fun b3 w4 H=>sq 1 (sp (yI 0) (zjc (sw (x8 (yS s qM qL xg qX) isAgg37 sizeOf37 rfl (qF (H.cells 1 rfl) 0 3) ?_)))))))
 refine sw (x8 (yT t xq xn xX xM xe qZ) isAgg43 sizeOf43 rfl (qF (H.cells 0 rfl) 0 3) ?_)
 have sz8:=H.base.size
 refine sw (oc (implEx_ok _ s t (H.get 0 rfl).1 (H.get 1 rfl).1 (H.get 2 rfl).1 (H.get 3 rfl).1 (H.get 4 rfl).1) ?_)
 rintro _ w6 ⟨ra5aStates,rc5aStates,rF5aStates,ra5aNext,rc5aNext,rF5aNext,rfl,M,K⟩ _
 replace N:=N.merge sz8 qm M
 replace H:=H.merge K M
 refine sq 3 (sw (xH H ti100 [yN,yN] fun b10 w11 H=>sw (xY H 0 [Sv ra5aStates (((exG s t).vX).length) rc5aStates,Sv ra5aNext (((exG s t).fNext).length) rc5aNext] sizeOf100 fun w12 H=>sq 1 (zjcc (sq 1 (sp (Bv (((exRes s t).2:Int) != 0)) ?_))))))
 refine zjn (zT (((exRes s t).2:Int) != 0) rfl (fun h13=>?_) (fun h13=>?_))
 ·replace h13:=bne_iff_ne.1 h13
  refine zcr (sq 3 (zjr (t_r ?_)))
  replace H:=H.addNil (α:=qH)
  refine ret2 yN (yI ((exRes s t).2)) rfl rfl rfl ⟨_,rfl,?_,H.base⟩
  rw [hs_c ‹_›]
  exact ⟨none,0,[],rfl,(N.emp.pick [0]),H.pick [] [0]⟩
 replace h13:=xu h13
 have c0:(exRes s t).2=0:=by omega
 have ga:=ex_all c0
 have k0:=ex_valid c0
 have k1:=k0.1
 have gp:=ga.pos
 have gl:=ga.le
 have gn:=ga.len
 refine qU (t_n (zcr (sw (zW H underlying48 ti43 fun b14 w15 H=>sq 1 (zjcc (sw (x8 [Sv ra5aStates (((exG s t).vX).length) rc5aStates,Sv ra5aNext (((exG s t).fNext).length) rc5aNext] isAgg100 sizeOf100 rfl (qF (H.cells 1 rfl) 0 2) (sw (zN #[.agg #[Sv ra5aStates (((exG s t).vX).length) rc5aStates,Sv ra5aNext (((exG s t).fNext).length) rc5aNext]] rfl rfl call64 (en func64 ntmps64 ?_))))))))))
 refine zcr (sw (zY H [Sv ra5aStates (((exG s t).vX).length) rc5aStates,Sv ra5aNext (((exG s t).fNext).length) rc5aNext] fun b16 w17 H=>sq 1 (zjc (sw (zW H underlying27 ti2 fun b18 w19 H=>sq 1 (zjcc (oF rfl (oL rfl (H.cell 1 rfl rfl) (oN rfl (sp (yI 0) (zjn (qV ?_))))))))))))
 replace H:=H.vI 0 [] 0
 refine zA ((fun Z0 Z1 Z2 Z3 Z4 Z5 Z6 Z7 Z8 Z9 Z10 Z11=>fun m' ρ w20=>∃ (xQ:Env) (jl:yOA) (vC:Nat) (jh:Nat) (out:yLI) (i:Nat),ρ=upd (upd (upd (upd xQ 3 (Sv jl vC jh)) 8 (Sv ra5aNext (((exG s t).fNext).length) rc5aNext)) 9 (yI (((exG s t).fNext).length))) 10 (yI i)/\out=(idxL (exG s t).fNext i)/\((i:Int)<=(((exG s t).fNext).length))/\m' =((((exG s t).fNext).length) - (i:Int)).toNat/\Fresh w.heap.size [rF5aStates,rF5aNext]/\St w w20 [rr jl vC jh 2 1 (out.map (Value.int .i64)),Z0,Z1,Z2,Z3,Z4] [Z5,Z6,Z7,Z8,Z9,Z10,Z11]) _ _ _ _ _ _ _ _ _ _ _ _) (((((exG s t).fNext).length) - (0:Int)).toNat) ⟨_,(aa b18 0),0,0,([]:yLI),0,uE4,(by rfl),qf,rfl,N,H⟩ ?_
 clear H N
 rintro m' ρ w21 ⟨xQ,jl,vC,jh,out,i,rfl,rfl,i0,rfl,N,H⟩
 have hn_out:=H.yt 0 rfl
 have il:=idx_len (exG s t).fNext i
 refine zcr (sq 1 (zjn (xU (cD rfl (fun h22=>?_) (fun h22=>?_)))))
 ·refine qU (t_n (xU (qV (zcr (sp (yI i) ?_)))))
  obtain ⟨b23,o24,rfl⟩:=H.addr 1 rfl qf
  obtain ⟨ae26,ce26,Fe26,H⟩:=H.ji 1 rfl i i qf qf qf
  refine oI rfl rfl (oL rfl (H.xW 1 rfl 0 rfl) (sp (yI i) (sq 1 (zjc (sq 1 (oN rfl (sp (Bv (((((exG s t).fNext)[i]!).length:Int) == 0)) (zjn (cE rfl (fun h27=>?_) (fun h27=>?_))))))))))
  ·refine xK (sq 1 (sp (yI i) (sw (xx H underlying27 ti2 [yI i] fun b28 w29 H=>sw (zG H 1 rfl 0 rfl underlying27 ti2 rfl qj rfl rfl rfl qw qp qf fun a30 c31 w32 H=>?_)))))
   rw [snocI] at H
   refine sq 1 (xP (b_n (t_n (xK (sw (zi i 1 rfl rfl qf (sq 1 (xP (qW (m' :=((((exG s t).fNext).length) - ((i+1):Int)).toNat) qf ⟨_,_,_,_,_,i+1,uE4,?_,?_,rfl,N,H.pick (zR 1 6) (zR 2 7)⟩)))))))))
   ·first | exact idx_yes qf | exact idx_no qf
   ·omega
  refine qU (b_n (t_n (xK (sw (zi i 1 rfl rfl qf (sq 1 (xP (qW (m' :=((((exG s t).fNext).length) - ((i+1):Int)).toNat) qf ⟨_,_,_,_,_,i+1,uE4,?_,?_,rfl,N,H.pick (zR 0 6) (zR 2 7)⟩))))))))
  ·first | exact idx_yes qf | exact idx_no qf
  ·omega
 refine zx4 (zcr (sq 2 (zjr (ret1 (Sv jl vC jh) rfl rfl ⟨_,rfl,?_⟩))))
 replace H:=H.erases [1]
 dsimp only [zU,List.eraseIdx] at H
 refine oN rfl (sp (yI 0) (zjn (qV ?_)))
 obtain ⟨xs33,B34,P35,N,H⟩:=H.pool (α:=qH) 0 rfl N
 replace H:=H.boxRow 1 rfl 3 0 rfl qj
 replace H:=H.vV (α:=qH)
 replace H:St _ _ [rr jl vC jh 2 1 ((idxL (exG s t).fNext i).map (Value.int .i64)),rr (aa b14 0) 0 0 43 3 [],.box b10 [Sv ra5aStates (((exG s t).vX).length) rc5aStates,Sv ra5aNext (((exG s t).fNext).length) rc5aNext] 100,.box b3 (yT t xq xn xX xM xe qZ) 43,.box b1 (yS s qM qL xg qX) 37] [xN true [] [] ([]:List qH),xN true P35 (xs33.drop (0 * 3)) (((exG s t).vX).drop 0),cellsF B34 (Sv ra5aStates (((exG s t).vX).length) rc5aStates) xs33,sF true rF5aStates ra5aStates rc5aStates ((exG s t).vX),sF true rF5aNext ra5aNext rc5aNext ((exG s t).fNext),sF false xF qM qL s.qC,sF false zu xg qX s.qE,sF false zQ xq xn t.qI,sF false vK xX xM t.qP,sF false zo xe qZ t.qN]:=H
 refine zA ((fun Z0 Z1 Z2 Z3 Z4 Z5 Z6 Z7 Z8 Z9 Z10 Z11=>fun m' ρ w36=>∃ (xQ:Env) (a_out_1:yOA) (QY:Nat) (X0:Nat) (out_1:List qH) (Xk:List Value) (yZ:yLN) (k:Nat) (p:Nat) (P_p:yLN),ρ=upd (upd (upd (upd (upd xQ 6 (pp b10 0)) 8 (Sv a_out_1 QY X0)) 22 (Sv jl vC jh)) 23 (yI vC)) 24 (yI k)/\out_1=(((idxL (exG s t).fNext i).take k).map (fun (i:Int)=>(exG s t).vX[i.toNat]!))/\((k:Int)<=vC)/\(∀ z,k<=z->z < (idxL (exG s t).fNext i).length->p<=((idxL (exG s t).fNext i)[z]!).toNat)/\m' =(vC - (k:Int)).toNat/\Fresh w.heap.size [rF5aNext,yZ,P_p]/\St w w36 [Z0,rr a_out_1 QY X0 43 3 Xk,Z1,Z2,Z3] [xN true yZ Xk out_1,xN true P_p (xs33.drop (p * 3)) (((exG s t).vX).drop p),Z4,Z5,Z6,Z7,Z8,Z9,Z10,Z11]) _ _ _ _ _ _ _ _ _ _ _ _) ((vC - (0:Int)).toNat) ⟨_,(aa b14 0),0,0,([]:List qH),[],[],0,0,P35,uE5,(by rfl),qf,(by exact fun z _ _=>Nat.zero_le _),rfl,(N.emp.pick [2,0,1]),H⟩ ?_
 clear H N
 rintro m' ρ w37 ⟨xQ,a_out_1,QY,X0,out_1,Xk,yZ,k,p,P_p,rfl,rfl,i0,kp,rfl,N,H⟩
 have hn_out:=H.xB (α:=qH) 1 rfl 0 rfl qj
 have tl:(((idxL (exG s t).fNext i).take k).map (fun (i:Int)=>(exG s t).vX[i.toNat]!)).length<=(idxL (exG s t).fNext i).length:=by rw [List.length_map,List.length_take];omega
 refine zcr (sq 1 (zjn (xU (cD rfl (fun h38=>?_) (fun h38=>?_)))))
 ·have kq:=kp k qf qf
  obtain ⟨ia,ib⟩:=idx_at (R:=(exG s t).fNext) (k:=i) (q:=k) qf
  refine qU (t_n (xU (qV (zcr ?_))))
  obtain ⟨b39,rfl⟩:=H.y5 0 rfl qf
  refine oI rfl rfl (oL rfl (H.rowInt 0 rfl (iv:=k) (i:=k) qf qf) (sq 1 (zjn (xK (sq 1 (oF rfl (oL rfl (H.cell 2 rfl rfl) (sq 1 ?_))))))))
  obtain ⟨b40,o41,rfl⟩:=H.addr 3 rfl qf
  obtain ⟨ae43Alive,ce43Alive,Fe43Alive,ae43Bags,ce43Bags,Fe43Bags,ae43Around,ce43Around,Fe43Around,P44,N,H⟩:=H.drain_StateD 2 rfl 1 rfl ((N.pick [2,0,1]):Fresh w.heap.size [P_p,rF5aNext,yZ]) ((idxL (exG s t).fNext i)[k]!) (((idxL (exG s t).fNext i)[k]!).toNat) qf qf qf
  refine oI rfl rfl (sw (x8 [Sv ae43Alive (((((exG s t).vX)[((idxL (exG s t).fNext i)[k]!).toNat]!).qI).length) ce43Alive,Sv ae43Bags (((((exG s t).vX)[((idxL (exG s t).fNext i)[k]!).toNat]!).qP).length) ce43Bags,Sv ae43Around (((((exG s t).vX)[((idxL (exG s t).fNext i)[k]!).toNat]!).qN).length) ce43Around] isAgg43 sizeOf43 rfl (qF (H.get 3 rfl) 0 3) ?_))
  refine sw (xx H underlying48 ti43 [Sv ae43Alive (((((exG s t).vX)[((idxL (exG s t).fNext i)[k]!).toNat]!).qI).length) ce43Alive,Sv ae43Bags (((((exG s t).vX)[((idxL (exG s t).fNext i)[k]!).toNat]!).qP).length) ce43Bags,Sv ae43Around (((((exG s t).vX)[((idxL (exG s t).fNext i)[k]!).toNat]!).qN).length) ce43Around] fun b45 w46 H=>sw (zG H 2 rfl 0 rfl underlying48 ti43 rfl qj rfl rfl rfl qw qp qf fun a47 c48 w49 H=>?_))
  replace H:=H.Xa 5 rfl 0 rfl 1 rfl 2 rfl
  replace N:Fresh w.heap.size [(yZ++(Fe43Alive++Fe43Bags++Fe43Around)),P44,rF5aNext]:=(N.pick [0,1,2,5,3,4]).join.join.swap.join
  refine sq 1 (xP (b_n (t_n (xK (sw (zi k 1 rfl rfl qf (sq 1 (xP (qW (m' :=(vC - ((k+1):Int)).toNat) qf ⟨_,_,_,_,_,_,_,k+1,(((idxL (exG s t).fNext i)[k]!).toNat)+1,_,uE5,?_,?_,?_,rfl,(N.pick [2,0,1]),H.pick (zR 1 5) (0::5::zR 8 8)⟩)))))))))
  ·exact map_snoc! (f:=fun (i:Int)=>(exG s t).vX[i.toNat]!) qf
  ·omega
  ·exact fun z h1 h2=>idx_up (p:=k) qf h2
 refine zx4 (zcr (sq 2 (sp (yI 0) (zjr ?_))))
 have H0:=H
 obtain ⟨G50,hg52,hn51,H⟩:=H.Qj (α:=qH) 1 rfl 0 rfl qj
 replace N:Fresh w.heap.size [G50,rF5aNext,P_p]:=Fresh.ice (N.pick [1,0,2]) H0 1 hg52.1 hg52.2 (H0.vz [4,1])
 clear H0
 obtain rfl:=H.isLen 0 rfl
 refine ret2 (Sv a_out_1 ((((idxL (exG s t).fNext i).take k).map (fun (i:Int)=>(exG s t).vX[i.toNat]!)).length) X0) (yI 0) rfl rfl rfl ⟨_,rfl,?_,H.base⟩
 have hi:i=(exG s t).fNext.length:=by omega
 rw [hs_i c0 (q:=k) (by rw [← hi];omega),← hi]
 exact ⟨a_out_1,X0,G50,rfl,(N.pick [0]),H.pick [] [0]⟩
end
end Go.Proofs.YtjfmcaiombkobaaGreat
