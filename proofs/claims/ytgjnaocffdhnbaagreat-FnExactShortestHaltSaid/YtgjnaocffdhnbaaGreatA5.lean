/- Walks and laws, printed by program and by hand: what each function comes to, for all arguments, part 5. -/
import Derived.Test.YtgjnaocffdhnbaaGreatA4
namespace Go.Proofs.YtgjnaocffdhnbaaGreat
set_option linter.unusedVariables false
set_option linter.unusedSimpArgs false
open Go.Proofs.YtgjnaocffdhnbaaGreat.Tot (tot)
open Go.Proofs.YtgjnaocffdhnbaaGreat.Mark (cnt mrk mkd mkd_mark cnt_mark)
section
open Go.Proofs.Tryz
open Go.RowKit
set_option linter.unusedVariables false
set_option linter.unusedSimpArgs false
set_option maxRecDepth 100000
set_option maxHeartbeats 4000000
variable {qy qI qR xk qM ca cb caAlive caBags Ve cbAlive cbBags Vd bs os bt ot ccs : Nat}
theorem around_ok (w:World) (s:qG) {qB:yOA} {qZ:yLN} {qL:yOA} {xE:yLN} (xe:qO.rep w qZ [.slice qB s.qw.length qy] s.qw) (xJ:qO.rep w xE [.slice qL s.qx.length qI] s.qx):Calls Tryz.prog 154 #[.agg #[yI s.xC,.slice qB s.qw.length qy,.slice qL s.qx.length qI]] w (Ret (fun v w' =>v=yI s.qw.length) w):=by
 refine en func154 ntmps154 ?_
 have H:=((St.start w).arg xJ).arg xe
 have zY:=qK xe
 have jb:=qK xJ
 clear xe xJ
 have N:=Fresh.nil w.heap.size
 refine zcr (sw (vH H (yS s qB qy qL qI) fun b1 w2 H=>sp (yI 0) (zjc (oF rfl (oL rfl (H.cell 0 rfl rfl) (oN rfl (sp (yI s.qw.length) (zjr (ret1 (yI s.qw.length) rfl rfl ⟨_,rfl,?_,H.base⟩)))))))))
 rfl

theorem step_ok (w:World) (s:qG) (t:qJ) (counts:yLI) {qB:yOA} {qZ:yLN} {qL:yOA} {xE:yLN} {qV:yOA} {xR:yLN} {xn:yOA} {zy:yLN} {qN:yOA} {xH:yLN} {acounts:yOA} {ccounts:Nat} {Fcounts:yLN} (xe:qO.rep w qZ [.slice qB s.qw.length qy] s.qw) (xJ:qO.rep w xE [.slice qL s.qx.length qI] s.qx) (zl:qO.rep w xR [.slice qV t.qA.length qR] t.qA) (zK:qO.rep w zy [.slice xn t.qE.length xk] t.qE) (xP:qO.rep w xH [.slice qN t.qC.length qM] t.qC) (hcounts:qO.rep w Fcounts [.slice acounts counts.length ccounts] counts) (p0:jO s) (p1:zF s t) (p2:CntOk s counts) (p3:IsCh s t counts):Calls Tryz.prog 125 #[.agg #[yI s.xC,.slice qB s.qw.length qy,.slice qL s.qx.length qI],.agg #[.slice qV t.qA.length qR,.slice xn t.qE.length xk,.slice qN t.qC.length qM],.slice acounts counts.length ccounts] w (Ret (fun v w' =>∃ (ra0Alive:yOA) (rn0Alive:Nat) (rc0Alive:Nat) (ra0Bags:yOA) (rn0Bags:Nat) (rc0Bags:Nat) (rx0Bags:List Value) (rF0Bags:yLN) (ra0Around:yOA) (rn0Around:Nat) (rc0Around:Nat),v=.tuple #[.agg #[.slice ra0Alive rn0Alive rc0Alive,.slice ra0Bags rn0Bags rc0Bags,.slice ra0Around rn0Around rc0Around],yI ((xN s t counts).2)]∧Fresh w.heap.size [rF0Bags]∧St w w' [rr ra0Alive rn0Alive rc0Alive 4 1 ((((xN s t counts).1).qA).map (Value.bool)),rr ra0Bags rn0Bags rc0Bags 22 1 rx0Bags,rr ra0Around rn0Around rc0Around 2 1 ((((xN s t counts).1).qC).map (Value.int .i64))] [zi true rF0Bags rx0Bags (((xN s t counts).1).qE)]) w):=by
 refine en func125 ntmps125 ?_
 have H:=((((((St.start w).arg hcounts).arg xP).arg zK).arg zl).arg xJ).arg xe
 have zY:=qK xe
 have jb:=qK xJ
 have Qd:=qK zl
 have QQ:=qK zK
 have jP:=qK xP
 have nhcounts:=qK hcounts
 clear xe xJ zl zK xP hcounts
 have N:=Fresh.nil w.heap.size
 have p5:=p0.2.1
 have p6:=p2.1
 have p7:=p1.2.1
 have p8:=kinds_le p0
 have p9:=p0.1.2.1
 have p11:jg s=s.qw.length:=rfl
 have p12:=p1.1
 have p15:=p0.1
 have p16:=p0.1.1
 have p17:=p1.around.1
 refine zcr (sw (vH H (yS s qB qy qL qI) fun b1 w2 H=>sw (vH H (yT t qV qR xn xk qN qM) fun b3 w4 H=>sw (zf H ti38 [yN,yN,yN] fun b5 w6 H=>sp (yI 0) (zjn (xQ ?_))))))
 refine c_cut (fun ρ w11=>∃ (xU:Env) (a7:yOA) (c8:Nat) (rx9:List Value) (rF10:yLN),ρ=upd (upd (upd (upd (upd xU 2 (.slice acounts counts.length ccounts)) 3 (pp b1 0)) 4 (pp b3 0)) 6 (pp b5 0)) 8 (.slice a7 (t.qE.length+1) c8)∧Fresh w.heap.size []∧St w w11 [rr a7 (t.qE.length+1) c8 22 1 (rx9++[.slice qN t.qC.length qM]),.box b5 [yN,yN,yN] 38,.box b3 (yT t qV qR xn xk qN qM) 38,.box b1 (yS s qB qy qL qI) 36] [zi false (rF10++xH) (rx9++[.slice qN t.qC.length qM]) (t.qE++[t.qC]),sF false qZ qB qy s.qw,sF false xE qL qI s.qx,sF false xR qV qR t.qA,sF false zy xn xk t.qE,sF false xH qN qM t.qC,sF false Fcounts acounts ccounts counts]) ?_ ?_
 ·skip
  refine vT rfl H fun H=>tF 0 rfl rfl H ?_
  refine tL 1 rfl rfl (fun _ h=>h.cell 1 rfl rfl) H ?_
  refine tF 3 rfl rfl H ?_
  refine tL 4 rfl rfl (fun _ h=>h.cell 1 rfl rfl) H ?_
  refine ji [2,5] qh qm (Qg rfl ?_ (Qg rfl ?_ jk))
  ·skip
   have sz16:=H.base.size
   refine oc (cloneSS_ok _ t.qE (H.get 3 rfl).1 qg) ?_
   rintro _ w14 ⟨ra13,rn13,rc13,rx13,rF13,rfl,hG18,K⟩ _
   replace H:=H.mergeIn K 3 rfl hG18
   obtain rfl:=H.zh (α:=yLI) 0 rfl 0 rfl qj
   refine ⟨H.pick [1,2,3] [1,2,3,4,5,6],(ro 5 rfl (zG H underlying27 ti22 [.slice qN t.qC.length qM] fun b19 w20 H=>⟨H.pick [2,3,4] [1,2,3,4,5,6],(ro 6 rfl (zQ H 1 rfl 0 rfl underlying27 ti22 rfl qj rfl rfl rfl (by simp [Value.oneCell',Value.cells]) qp qf fun a21 c22 w23 H=>?_))⟩))⟩
   replace H:=H.jW 0 rfl 5 rfl
   refine ⟨H.pick [2,3,4] [2,3,4,5,6,7],(rtp 7 (.slice a21 (t.qE.length+1) c22) (H.pick [2,3,4] [2,3,4,5,6,7]) ?_)⟩
   refine xO qh ((meet ⟨_,a21,c22,rx13,rF13,uE5,N,H.pick [1,2,3,4] [0,2,3,4,5,6,7]⟩))
  refine zG H underlying27 ti22 [.slice qN t.qC.length qM] fun b24 w25 H=>⟨H.pick [1,2,3] [0,1,2,3,4,5],(ro 2 rfl ?_)⟩
  have sz29:=H.base.size
  refine oc (cloneSS_ok _ t.qE (H.get 3 rfl).1 qg) ?_
  rintro _ w27 ⟨ra26,rn26,rc26,rx26,rF26,rfl,hG31,K⟩ _
  replace H:=H.mergeIn K 3 rfl hG31
  obtain rfl:=H.zh (α:=yLI) 0 rfl 0 rfl qj
  refine ⟨H.pick [2,3,4] [1,2,3,4,5,6],(ro 6 rfl (zQ H 0 rfl 1 rfl underlying27 ti22 rfl qj rfl rfl rfl (by simp [Value.oneCell',Value.cells]) qp qf fun a32 c33 w34 H=>?_))⟩
  replace H:=H.jW 0 rfl 5 rfl
  refine ⟨H.pick [2,3,4] [2,3,4,5,6,7],(rtp 7 (.slice a32 (t.qE.length+1) c33) (H.pick [2,3,4] [2,3,4,5,6,7]) ?_)⟩
  refine xO qh ((meet ⟨_,a32,c33,rx26,rF26,uE5,N,H.pick [0,2,3,4] [0,2,3,4,5,6,7]⟩))
 clear H N
 rintro ρ w35 ⟨xU,a7,c8,rx9,rF10,rfl,N,H⟩
 refine t_n (zcr (oF rfl (oL rfl (H.cell 3 rfl rfl) (oN rfl (sw (o_makeB H underlying26 ti4 s.qw.length rfl rfl qf qf qf fun b36 w37 H=>sp (.slice (aa b36 0) s.qw.length s.qw.length) (zjcc (sp (.slice acounts counts.length ccounts) (oN rfl (sp (yI 0) (zjn (qX ?_))))))))))))
 refine zu (fun m' ρ w38=>∃ (xU:Env) (i:Nat) (melts:List Bool) (bags:yLL) (x_bags:List Value) (F_bags:yLN),ρ=upd (upd (upd (upd (upd (upd (upd (upd xU 3 (pp b1 0)) 4 (pp b3 0)) 6 (pp b5 0)) 8 (.slice a7 (t.qE.length+1) c8)) 9 (.slice (aa b36 0) s.qw.length s.qw.length)) 26 (.slice acounts counts.length ccounts)) 27 (yI counts.length)) 28 (yI i)∧melts=yE s counts s.qw.length i∧((i:Int)≤counts.length)∧(Ent (s.qw.length+1) (QH s) (fun p q=>base0 s t p q+allS s t counts i p q) (20000000+6000000 * i) bags)∧(bags.length=s.qw.length+1)∧m' =(counts.length - (i:Int)).toNat∧Fresh w.heap.size []∧St w w38 [rr (aa b36 0) s.qw.length s.qw.length 4 1 (melts.map (Value.bool)),rr a7 (t.qE.length+1) c8 22 1 x_bags,.box b5 [yN,yN,yN] 38,.box b3 (yT t qV qR xn xk qN qM) 38,.box b1 (yS s qB qy qL qI) 36] [zi false F_bags x_bags bags,sF false qZ qB qy s.qw,sF false xE qL qI s.qx,sF false xR qV qR t.qA,sF false zy xn xk t.qE,sF false xH qN qM t.qC,sF false Fcounts acounts ccounts counts]) ((counts.length - (0:Int)).toNat) ⟨_,0,(List.replicate s.qw.length (false)),(t.qE++[t.qC]),rx9++[.slice qN t.qC.length qM],(rF10++xH),uE8,(by exact meltsL_zero s counts _),qf,(by exact (start_ent p1).to (fun _ _=>rfl) qf),(by simp;omega),rfl,N,H⟩ ?_
 clear H N
 rintro m' ρ w39 ⟨xU,i,melts,bags,x_bags,F_bags,rfl,rfl,i0,E_bags,z_bags,rfl,N,H⟩
 have hn_melts:=H.rowNB 0 rfl
 have hn_bags:=H.zh (α:=yLI) 1 rfl 0 rfl qj
 refine zcr (sp (.bool (decide ((i:Int) < counts.length))) (zjn (xQ (cD rfl (fun h40=>?_) (fun h40=>?_)))))
 ·skip
  have q:=p0.rule (i:=i) qf
  have qc:=q.1
  have qk:=q.cell
  have qr:=q.2.1
  have bn1:=q.2.2.2.2.1
  have bn2:=q.2.2.2.2.2.2.2.1
  have bn3:=q.2.2.2.2.2.2.2.2.1
  have ln1:=bn1.len
  have ln2:=bn2.len
  have ln3:=bn3.len
  have p10:=p2.bd (i:=i) qf
  have qn:=q.2.2.2.1
  have ml:=meltsL_len s counts s.qw.length i
  refine qU (t_n (xQ (qX (zcr (sp (yI i) ?_)))))
  obtain ⟨b41,o42,rfl⟩:=H.addr 6 rfl qf
  refine oI rfl rfl (oL rfl (H.jC 6 rfl i qf qf) (sps [yI i,yI (counts[i]!)] (zjc (oF rfl (oL rfl (H.cell 4 rfl rfl) (sp (yI i) ?_))))))
  obtain ⟨b44,o45,rfl⟩:=H.addr 2 rfl qf
  obtain ⟨VJ,VE,Fe47Need,VL,VG,Fe47Have,VK,VF,Fe47Lack,XY,XV,Fe47Here,Vw,Vt,Fe47Out,XX,XU,Fe47Into,H⟩:=H.yt 2 rfl i i qf qf qf
  refine oI rfl rfl (sw (zn [yI ((s.qx[i]!).qH),yI ((s.qx[i]!).zM),.slice VJ (((s.qx[i]!).xm).length) VE,.slice VL (((s.qx[i]!).xF).length) VG,.slice VK (((s.qx[i]!).xI).length) VF,.slice XY (((s.qx[i]!).xM).length) XV,.slice Vw (((s.qx[i]!).zV).length) Vt,.slice XX (((s.qx[i]!).qQ).length) XU,.bool ((s.qx[i]!).zA)] isAgg121 sizeOf121 rfl (qF (H.get 6 rfl) 0 9) ?_))
  refine sw (zf H ti121 [yI 0,yI 0,yN,yN,yN,yN,yN,yN,.bool false] fun b48 w49 H=>sw (zB H 0 [yI ((s.qx[i]!).qH),yI ((s.qx[i]!).zM),.slice VJ (((s.qx[i]!).xm).length) VE,.slice VL (((s.qx[i]!).xF).length) VG,.slice VK (((s.qx[i]!).xI).length) VF,.slice XY (((s.qx[i]!).xM).length) XV,.slice Vw (((s.qx[i]!).zV).length) Vt,.slice XX (((s.qx[i]!).qQ).length) XU,.bool ((s.qx[i]!).zA)] sizeOf121 fun w50 H=>?_))
  refine zjn (xQ ?_)
  refine Qn rfl H [0,1,3,4,5] fun H=>?_
  have S:=H.yl [0,1,3,4,5] [0,1,2,3,4,5,6,7,8,9,10,11,12,13]
  refine rtp 0 (.slice a7 (t.qE.length+1) c8) S ?_
  refine tF 1 rfl rfl S ?_
  refine tL 2 rfl rfl (fun _ h=>h.cell 0 rfl rfl) S ?_
  refine rtp 3 (.slice a7 (t.qE.length+1) c8) S ?_
  refine tF 4 rfl rfl S ?_
  refine tL 5 rfl rfl (fun _ h=>h.cell 0 rfl rfl) S ?_
  obtain ⟨b52,rfl⟩:=H.Qh 2 rfl qf
  have S:=H.yl [0,1,3,4,5] [0,1,2,3,4,5,6,7,8,9,10,11,12,13]
  refine tI 6 rfl rfl rfl S ?_
  refine tF 8 rfl rfl S ?_
  refine tL 9 rfl rfl (fun _ h=>h.cell 0 rfl rfl) S ?_
  refine rtp 10 (yI (counts[i]!)) S ?_
  refine rt 11 (yI (-(counts[i]!))) (y_neg (counts[i]!) rfl qf) S ?_
  refine ro 7 rfl ?_
  obtain ⟨a53,c54,G55,s56,h57,H⟩:=H.jV 2 rfl 7 rfl (iv:=(s.qx[i]!).qH) (((s.qx[i]!).qH).toNat) qf qf
  refine zN (.slice a53 ((bags[((s.qx[i]!).qH).toNat]!).length) c54) isAgg22 rfl (h57) (⟨H.pick [0,1,3,4,5] [1,2,3,4,5,6,7,8,9,10,11,12,13,14],(ro 12 rfl ?_)⟩)
  obtain ⟨u1,u2⟩:=E_bags.sh.row (c:=((s.qx[i]!).qH).toNat) qf p8 qf
  have u4:=(by first | exact bn1.yY qf | exact bn2.yY qf | exact bn3.yY qf | exact bn4.yY qf:SmallT ((s.qx[i]!).xm) (-(counts[i]!)))
  have sz58:=H.base.size
  refine oc (plus_ok _ (bags[((s.qx[i]!).qH).toNat]!) ((s.qx[i]!).xm) (-(counts[i]!)) (H.get 0 rfl).1 (H.get 1 rfl).1 qg qg qg) ?_
  rintro v63 w61 r63 x62
  replace H:=H.zD x62 r63
  obtain ⟨a64,c65,rfl,hc66,hm67⟩:=H.jo 0 rfl
  refine ⟨H.pick [1,2,4,5,6] [1,2,3,4,5,6,7,8,9,10,11,12,13,14],(tI 13 rfl rfl rfl (H.pick [1,2,4,5,6] [1,2,3,4,5,6,7,8,9,10,11,12,13,14]) ?_)⟩
  refine ro 14 rfl ?_
  obtain ⟨G69,N,hn70,H⟩:=H.vS 0 rfl N (H.jQ [])
  refine jL false H 3 rfl 9 rfl (.slice a64 ((vY (bags[((s.qx[i]!).qH).toNat]!) ((s.qx[i]!).xm) (-(counts[i]!))).length) c65) 0 rfl rfl sizeOf22 rfl rfl (i:=(((s.qx[i]!).qH).toNat)) qf qf qm fun w68 xs71 F72 hs73 H=>⟨H.pick [1,2,4,5,6] [3,4,5,6,7,8,9,10,11,12,13,14,15,16],(xO qh (t_n (zcr (sw (zn [yI s.xC,.slice qB s.qw.length qy,.slice (aa b44 o45) s.qx.length qI] isAgg36 sizeOf36 rfl (qF (H.cells 6 rfl) 0 3) ?_)))))⟩
  refine sw (zn (yT t qV qR xn xk qN qM) isAgg38 sizeOf38 rfl (qF (H.cells 5 rfl) 0 3) (sp (.slice (aa b52 0) (t.qE.length+1) c8) ?_))
  refine sw (zn [yI ((s.qx[i]!).qH),yI ((s.qx[i]!).zM),.slice VJ (((s.qx[i]!).xm).length) VE,.slice VL (((s.qx[i]!).xF).length) VG,.slice VK (((s.qx[i]!).xI).length) VF,.slice XY (((s.qx[i]!).xM).length) XV,.slice Vw (((s.qx[i]!).zV).length) Vt,.slice XX (((s.qx[i]!).qQ).length) XU,.bool ((s.qx[i]!).zA)] isAgg121 sizeOf121 rfl (qF (H.cells 1 rfl) 0 9) (sp (yI (counts[i]!)) ?_))
  obtain ⟨bg74,e_bg74⟩:∃ z,z=(bags.set (((s.qx[i]!).qH).toNat) (vY (bags[((s.qx[i]!).qH).toNat]!) ((s.qx[i]!).xm) (-(counts[i]!)))):=⟨_,rfl⟩
  rw [← e_bg74] at H
  have E_bg74:=Ent.add (D:=1000000) E_bags e_bg74 qf (by first | exact bn1.mul qf | exact bn2.mul qf | exact bn3.mul qf | exact bn4.mul qf) qf
  have z_bg74:=E_bg74.sh.1
  have E_cur:=E_bg74
  refine sw (vF #[.agg #[yI s.xC,.slice qB s.qw.length qy,.slice (aa b44 o45) s.qx.length qI],.agg #[.slice qV t.qA.length qR,.slice xn t.qE.length xk,.slice qN t.qC.length qM],.slice (aa b52 0) (t.qE.length+1) c8,.agg #[yI ((s.qx[i]!).qH),yI ((s.qx[i]!).zM),.slice VJ (((s.qx[i]!).xm).length) VE,.slice VL (((s.qx[i]!).xF).length) VG,.slice VK (((s.qx[i]!).xI).length) VF,.slice XY (((s.qx[i]!).xM).length) XV,.slice Vw (((s.qx[i]!).zV).length) Vt,.slice XX (((s.qx[i]!).qQ).length) XU,.bool ((s.qx[i]!).zA)],yI (counts[i]!)] rfl rfl call153 ?_)
  refine en func153 ntmps153 ?_
  refine zcr (sw (vH H [yI s.xC,.slice qB s.qw.length qy,.slice (aa b44 o45) s.qx.length qI] fun b75 w76 H=>sw (vH H (yT t qV qR xn xk qN qM) fun b77 w78 H=>sw (vH H [.slice (aa b52 0) (t.qE.length+1) c8] fun b79 w80 H=>?_))))
  refine sw (vH H [yI ((s.qx[i]!).qH),yI ((s.qx[i]!).zM),.slice VJ (((s.qx[i]!).xm).length) VE,.slice VL (((s.qx[i]!).xF).length) VG,.slice VK (((s.qx[i]!).xI).length) VF,.slice XY (((s.qx[i]!).xM).length) XV,.slice Vw (((s.qx[i]!).zV).length) Vt,.slice XX (((s.qx[i]!).qQ).length) XU,.bool ((s.qx[i]!).zA)] fun b81 w82 H=>sw (vH H [yI (counts[i]!)] fun b83 w84 H=>zjc ?_))
  refine sps [.func (.func 191) #[] #[pp b79 0,pp b83 0],.func (.func 191) #[] #[pp b79 0,pp b83 0]] (zjc (sp (.func (.func 191) #[] #[pp b79 0,pp b83 0]) (oF rfl (oL rfl (H.cell 1 rfl rfl) (oF rfl (oL rfl (H.cell 1 rfl rfl) (sw (vF #[yI ((s.qx[i]!).qH),.slice XY (((s.qx[i]!).xM).length) XV,pp b79 0,pp b83 0] rfl rfl call191 (en func191 ntmps191 ?_)))))))))
  refine Qn rfl H [0,1,2,3,4,5,6,7,9,10,11] fun H=>?_
  have S:=H.yl [0,1,2,3,4,5,6,7,9,10,11] [0,1,2,3,4,5,6,7,8,9,10,11,12,13,14,15,16]
  refine tL 0 rfl rfl (fun _ h=>h.cell 2 rfl rfl) S ?_
  refine rtp 1 (yI ((s.qx[i]!).qH)) S ?_
  refine tL 2 rfl rfl (fun _ h=>h.cell 2 rfl rfl) S ?_
  refine rtp 3 (yI ((s.qx[i]!).qH)) S ?_
  refine tI 4 rfl rfl rfl S ?_
  refine rtp 6 (.slice XY (((s.qx[i]!).xM).length) XV) S ?_
  refine tL 7 rfl rfl (fun _ h=>h.cell 0 rfl rfl) S ?_
  refine ro 5 rfl ?_
  obtain ⟨a86,c87,G88,s89,h90,H⟩:=H.jV 8 rfl 0 rfl (iv:=(s.qx[i]!).qH) (((s.qx[i]!).qH).toNat) qf qf
  refine zN (.slice a86 ((bg74[((s.qx[i]!).qH).toNat]!).length) c87) isAgg22 rfl (h90) (⟨H.pick [0,1,2,3,4,5,6,7,9,10,11] [1,2,3,4,5,6,7,8,9,10,11,12,13,14,15,16,17],(ro 8 rfl ?_)⟩)
  obtain ⟨u1,u2⟩:=E_bg74.sh.row (c:=((s.qx[i]!).qH).toNat) qf p8 qf
  have u4:=(by first | exact bn1.yY qf | exact bn2.yY qf | exact bn3.yY qf | exact bn4.yY qf:SmallT ((s.qx[i]!).xM) (counts[i]!))
  have sz91:=H.base.size
  have lt92:=H.ltN (L:=[G69]) [2]
  refine oc (plus_ok _ (bg74[((s.qx[i]!).qH).toNat]!) ((s.qx[i]!).xM) (counts[i]!) (H.get 0 rfl).1 (H.get 7 rfl).1 qg qg qg) ?_
  rintro v96 w94 r96 x95
  replace H:=H.zD x95 r96
  obtain ⟨a97,c98,rfl,hc99,hm100⟩:=H.jo 0 rfl
  refine ⟨H.pick [1,2,3,4,5,6,7,8,10,11,12] [1,2,3,4,5,6,7,8,9,10,11,12,13,14,15,16,17],(tI 9 rfl rfl rfl (H.pick [1,2,3,4,5,6,7,8,10,11,12] [1,2,3,4,5,6,7,8,9,10,11,12,13,14,15,16,17]) ?_)⟩
  refine ro 10 rfl ?_
  obtain ⟨G102,N,hn103,H⟩:=H.vS 0 rfl N (H.jQ [2])
  refine jL false H 9 rfl 2 rfl (.slice a97 ((vY (bg74[((s.qx[i]!).qH).toNat]!) ((s.qx[i]!).xM) (counts[i]!)).length) c98) 0 rfl rfl sizeOf22 rfl rfl (i:=(((s.qx[i]!).qH).toNat)) qf qf qm fun w101 xs104 F105 hs106 H=>⟨H.pick [1,2,3,4,5,6,7,8,10,11,12] [3,4,5,6,7,8,9,10,11,12,13,14,15,16,17,18,19],(xO qh ((ret0 rfl ⟨_,rfl,?_⟩)))⟩
  replace H:=H.erases [6,0]
  dsimp only [vU,List.eraseIdx] at H
  obtain ⟨bg107,e_bg107⟩:∃ z,z=(bg74.set (((s.qx[i]!).qH).toNat) (vY (bg74[((s.qx[i]!).qH).toNat]!) ((s.qx[i]!).xM) (counts[i]!))):=⟨_,rfl⟩
  rw [← e_bg107] at H
  have E_bg107:=Ent.add (D:=1000000) E_bg74 e_bg107 qf (by first | exact bn1.mul qf | exact bn2.mul qf | exact bn3.mul qf | exact bn4.mul qf) qf
  have z_bg107:=E_bg107.sh.1
  have E_cur:=E_bg107
  refine zjcc (sw (zn [yI s.xC,.slice qB s.qw.length qy,.slice (aa b44 o45) s.qx.length qI] isAgg36 sizeOf36 rfl (qF (H.cells 4 rfl) 0 3) (sw (zn (yT t qV qR xn xk qN qM) isAgg38 sizeOf38 rfl (qF (H.cells 3 rfl) 0 3) (oF rfl (oL rfl (H.cell 1 rfl rfl) ?_))))))
  have qc' :=qc
  refine sw (oq (parentNow_ok _ s t ((s.qx[i]!).qH) (H.get 14 rfl).1 (H.get 15 rfl).1 (H.get 16 rfl).1 (H.get 17 rfl).1 (H.get 18 rfl).1 qg qg qg) H fun w109 H=>?_)
  have pl:=parentNow_lt p15 p1.2.2.1 qc
  refine sp (yI (xA s t ((s.qx[i]!).qH))) (zjc (sps [yI (xA s t ((s.qx[i]!).qH)),.bool (decide ((xA s t ((s.qx[i]!).qH):Int)≥0))] (zjn (cD rfl (fun h111=>?_) (fun h111=>?_)))))
  ·skip
   have po:=outPl_in (r:=s.qx[i]!) p15 ‹_›
   refine xY (sps [.func (.func 191) #[] #[pp b79 0,pp b83 0],yI (xA s t ((s.qx[i]!).qH))] (oF rfl (oL rfl (H.cell 1 rfl rfl) (sw (vF #[yI (xA s t ((s.qx[i]!).qH)),.slice Vw (((s.qx[i]!).zV).length) Vt,pp b79 0,pp b83 0] rfl rfl call191 (en func191 ntmps191 ?_))))))
   refine Qn rfl H [0,1,2,3,4,5,6,8,9,10] fun H=>?_
   have S:=H.yl [0,1,2,3,4,5,6,8,9,10] [0,1,2,3,4,5,6,7,8,9,10,11,12,13,14,15,16,17,18,19]
   refine tL 0 rfl rfl (fun _ h=>h.cell 2 rfl rfl) S ?_
   refine rtp 1 (yI (xA s t ((s.qx[i]!).qH))) S ?_
   refine tL 2 rfl rfl (fun _ h=>h.cell 2 rfl rfl) S ?_
   refine rtp 3 (yI (xA s t ((s.qx[i]!).qH))) S ?_
   refine tI 4 rfl rfl rfl S ?_
   refine rtp 6 (.slice Vw (((s.qx[i]!).zV).length) Vt) S ?_
   refine tL 7 rfl rfl (fun _ h=>h.cell 0 rfl rfl) S ?_
   refine ro 5 rfl ?_
   obtain ⟨a113,c114,G115,s116,h117,H⟩:=H.jV 7 rfl 0 rfl (iv:=xA s t ((s.qx[i]!).qH)) ((xA s t ((s.qx[i]!).qH)).toNat) qf qf
   refine zN (.slice a113 ((bg107[(xA s t ((s.qx[i]!).qH)).toNat]!).length) c114) isAgg22 rfl (h117) (⟨H.pick [0,1,2,3,4,5,6,8,9,10] [1,2,3,4,5,6,7,8,9,10,11,12,13,14,15,16,17,18,19,20],(ro 8 rfl ?_)⟩)
   obtain ⟨u1,u2⟩:=E_bg107.sh.row (c:=(xA s t ((s.qx[i]!).qH)).toNat) qf p8 qf
   have u4:=(by first | exact bn1.yY qf | exact bn2.yY qf | exact bn3.yY qf | exact bn4.yY qf:SmallT ((s.qx[i]!).zV) (counts[i]!))
   have sz118:=H.base.size
   have lt119:=H.ltN (L:=[G102,G69]) [2,5]
   refine oc (plus_ok _ (bg107[(xA s t ((s.qx[i]!).qH)).toNat]!) ((s.qx[i]!).zV) (counts[i]!) (H.get 0 rfl).1 (H.get 11 rfl).1 qg qg qg) ?_
   rintro v123 w121 r123 x122
   replace H:=H.zD x122 r123
   obtain ⟨a124,c125,rfl,hc126,hm127⟩:=H.jo 0 rfl
   refine ⟨H.pick [1,2,3,4,5,6,7,9,10,11] [1,2,3,4,5,6,7,8,9,10,11,12,13,14,15,16,17,18,19,20],(tI 9 rfl rfl rfl (H.pick [1,2,3,4,5,6,7,9,10,11] [1,2,3,4,5,6,7,8,9,10,11,12,13,14,15,16,17,18,19,20]) ?_)⟩
   refine ro 10 rfl ?_
   obtain ⟨G129,N,hn130,H⟩:=H.vS 0 rfl N (H.jQ [2,5])
   refine jL false H 8 rfl 2 rfl (.slice a124 ((vY (bg107[(xA s t ((s.qx[i]!).qH)).toNat]!) ((s.qx[i]!).zV) (counts[i]!)).length) c125) 0 rfl rfl sizeOf22 rfl rfl (i:=((xA s t ((s.qx[i]!).qH)).toNat)) qf qf qm fun w128 xs131 F132 hs133 H=>⟨H.pick [1,2,3,4,5,6,7,9,10,11] [3,4,5,6,7,8,9,10,11,12,13,14,15,16,17,18,19,20,21,22],(xO qh ((ret0 rfl ⟨_,rfl,?_⟩)))⟩
   replace H:=H.erases [0]
   dsimp only [vU,List.eraseIdx] at H
   obtain ⟨bg134,e_bg134⟩:∃ z,z=(bg107.set ((xA s t ((s.qx[i]!).qH)).toNat) (vY (bg107[(xA s t ((s.qx[i]!).qH)).toNat]!) ((s.qx[i]!).zV) (counts[i]!))):=⟨_,rfl⟩
   rw [← e_bg134] at H
   have E_bg134:=Ent.add (D:=1000000) E_bg107 e_bg134 qf (by first | exact bn1.mul qf | exact bn2.mul qf | exact bn3.mul qf | exact bn4.mul qf) qf
   have z_bg134:=E_bg134.sh.1
   have E_cur:=E_bg134
   refine zjc (oF rfl (oL rfl (H.cell 1 rfl rfl) (oN rfl (sp (yI 0) (zjn (qX ?_))))))
   refine zu (fun m' ρ w135=>∃ (xU:Env) (k:Nat) (bags_1:yLL) (Vz:List Value) (F_bags_1:yLN),ρ=upd (upd (upd (upd xU 10 (.func (.func 191) #[] #[pp b79 0,pp b83 0])) 40 (.slice XX (((s.qx[i]!).qQ).length) XU)) 41 (yI (((s.qx[i]!).qQ).length))) 42 (yI k)∧((k:Int)≤(((s.qx[i]!).qQ).length))∧(Ent (s.qw.length+1) (QH s) (fun p q=>base0 s t p q+allS s t counts i p q+at' p (s.qx[i]!).qH.toNat (-(counts[i]!) * ((s.qx[i]!).xm)[q]!)+at' p (s.qx[i]!).qH.toNat ((counts[i]!) * ((s.qx[i]!).xM)[q]!)+at' p (outPl s t (s.qx[i]!)) ((counts[i]!) * ((s.qx[i]!).zV)[q]!)+intoF (s.qx[i]!) (counts[i]!) k p q) (23000000+6000000 * i+1000000 * k) bags_1)∧(bags_1.length=s.qw.length+1)∧m' =((((s.qx[i]!).qQ).length) - (k:Int)).toNat∧Fresh w.heap.size [G69]∧St w w135 [.box b83 [yI (counts[i]!)] 2,.box b81 [yI ((s.qx[i]!).qH),yI ((s.qx[i]!).zM),.slice VJ (((s.qx[i]!).xm).length) VE,.slice VL (((s.qx[i]!).xF).length) VG,.slice VK (((s.qx[i]!).xI).length) VF,.slice XY (((s.qx[i]!).xM).length) XV,.slice Vw (((s.qx[i]!).zV).length) Vt,.slice XX (((s.qx[i]!).qQ).length) XU,.bool ((s.qx[i]!).zA)] 121,.box b79 [.slice (aa b52 0) (t.qE.length+1) c8] 27,.box b77 (yT t qV qR xn xk qN qM) 38,.box b75 [yI s.xC,.slice qB s.qw.length qy,.slice (aa b44 o45) s.qx.length qI] 36,.box b48 [yI ((s.qx[i]!).qH),yI ((s.qx[i]!).zM),.slice VJ (((s.qx[i]!).xm).length) VE,.slice VL (((s.qx[i]!).xF).length) VG,.slice VK (((s.qx[i]!).xI).length) VF,.slice XY (((s.qx[i]!).xM).length) XV,.slice Vw (((s.qx[i]!).zV).length) Vt,.slice XX (((s.qx[i]!).qQ).length) XU,.bool ((s.qx[i]!).zA)] 121,rr (aa b36 0) s.qw.length s.qw.length 4 1 ((yE s counts s.qw.length i).map (Value.bool)),rr (aa b52 0) (t.qE.length+1) c8 22 1 Vz,.box b5 [yN,yN,yN] 38,.box b3 (yT t qV qR xn xk qN qM) 38,.box b1 [yI s.xC,.slice qB s.qw.length qy,.slice (aa b44 o45) s.qx.length qI] 36] [zi false F_bags_1 Vz bags_1,sF true G69 a64 c65 (vY (bags[((s.qx[i]!).qH).toNat]!) ((s.qx[i]!).xm) (-(counts[i]!))),sF false G55 a53 c54 (bags[((s.qx[i]!).qH).toNat]!),sF false Fe47Need VJ VE ((s.qx[i]!).xm),sF false Fe47Have VL VG ((s.qx[i]!).xF),sF false Fe47Lack VK VF ((s.qx[i]!).xI),sF false Fe47Here XY XV ((s.qx[i]!).xM),sF false Fe47Out Vw Vt ((s.qx[i]!).zV),sF false Fe47Into XX XU ((s.qx[i]!).qQ),atF b44 (o45+(i:Int).toNat * 9) [yI ((s.qx[i]!).qH),yI ((s.qx[i]!).zM),.slice VJ (((s.qx[i]!).xm).length) VE,.slice VL (((s.qx[i]!).xF).length) VG,.slice VK (((s.qx[i]!).xI).length) VF,.slice XY (((s.qx[i]!).xM).length) XV,.slice Vw (((s.qx[i]!).zV).length) Vt,.slice XX (((s.qx[i]!).qQ).length) XU,.bool ((s.qx[i]!).zA)],sF false qZ qB qy s.qw,sF false xE (aa b44 o45) qI s.qx,sF false xR qV qR t.qA,sF false zy xn xk t.qE,sF false xH qN qM t.qC,sF false Fcounts (aa b41 o42) ccounts counts]) (((((s.qx[i]!).qQ).length) - (0:Int)).toNat) ⟨_,0,bg134,xs131,F132,uE4,qf,(by exact E_cur.to (fun p q=>by rw [po];simp only [intoF];first | omega | (simp only [Int.toNat_natCast];omega)) qf),qf,rfl,(N.pick [2]),H.pick [0,1,2,3,4,5,6,7,8,9,10] [0,7,8,9,10,11,12,13,14,15,17,18,19,20,21,22]⟩ ?_
   clear H N
   rintro m' ρ w136 ⟨xU,k,bags_1,Vz,F_bags_1,rfl,i0,E_bags_1,z_bags_1,rfl,N,H⟩
   have hn_bags:=H.zh (α:=yLI) 7 rfl 0 rfl qj
   refine zcr (sp (.bool (decide ((k:Int) < (((s.qx[i]!).qQ).length)))) (zjn (xQ (cD rfl (fun h137=>?_) (fun h137=>?_)))))
   ·skip
    have qi:=q.2.2.2.2.2.2.2.2.2.2 k qf
    have qi1:=qi.1
    have bn4:=qi.2.2.1
    have ln4:=bn4.len
    refine qU (t_n (xQ (qX (zcr ?_))))
    obtain ⟨b138,o139,rfl⟩:=H.addr 8 rfl qf
    obtain ⟨ae141Bag,ce141Bag,Fe141Bag,H⟩:=H.jS 8 rfl k k qf qf qf
    refine oI rfl rfl (sw (zn [yI ((((s.qx[i]!).qQ)[k]!).qH),.slice ae141Bag (((((s.qx[i]!).qQ)[k]!).jy).length) ce141Bag] isAgg164 sizeOf164 rfl (qF (H.get 1 rfl) 0 2) (sw (zf H ti164 [yI 0,yN] fun b142 w143 H=>sw (zB H 0 [yI ((((s.qx[i]!).qQ)[k]!).qH),.slice ae141Bag (((((s.qx[i]!).qQ)[k]!).jy).length) ce141Bag] sizeOf164 fun w144 H=>zjn (xY (sp (.func (.func 191) #[] #[pp b79 0,pp b83 0]) (oF rfl (oL rfl (H.cell 0 rfl rfl) (oF rfl (oL rfl (H.cell 0 rfl rfl) ?_)))))))))))
    refine sw (vF #[yI ((((s.qx[i]!).qQ)[k]!).qH),.slice ae141Bag (((((s.qx[i]!).qQ)[k]!).jy).length) ce141Bag,pp b79 0,pp b83 0] rfl rfl call191 (en func191 ntmps191 ?_))
    refine Qn rfl H [0,1,2,3,4,5,6,7,9,10,11] fun H=>?_
    have S:=H.yl [0,1,2,3,4,5,6,7,9,10,11] [0,1,2,3,4,5,6,7,8,9,10,11,12,13,14,15,16,17]
    refine tL 0 rfl rfl (fun _ h=>h.cell 3 rfl rfl) S ?_
    refine rtp 1 (yI ((((s.qx[i]!).qQ)[k]!).qH)) S ?_
    refine tL 2 rfl rfl (fun _ h=>h.cell 3 rfl rfl) S ?_
    refine rtp 3 (yI ((((s.qx[i]!).qQ)[k]!).qH)) S ?_
    refine tI 4 rfl rfl rfl S ?_
    refine rtp 6 (.slice ae141Bag (((((s.qx[i]!).qQ)[k]!).jy).length) ce141Bag) S ?_
    refine tL 7 rfl rfl (fun _ h=>h.cell 1 rfl rfl) S ?_
    refine ro 5 rfl ?_
    obtain ⟨a146,c147,G148,s149,h150,H⟩:=H.jV 8 rfl 2 rfl (iv:=(((s.qx[i]!).qQ)[k]!).qH) (((((s.qx[i]!).qQ)[k]!).qH).toNat) qf qf
    refine zN (.slice a146 ((bags_1[((((s.qx[i]!).qQ)[k]!).qH).toNat]!).length) c147) isAgg22 rfl (h150) (⟨H.pick [0,1,2,3,4,5,6,7,9,10,11] [1,2,3,4,5,6,7,8,9,10,11,12,13,14,15,16,17,18],(ro 8 rfl ?_)⟩)
    obtain ⟨u1,u2⟩:=E_bags_1.sh.row (c:=((((s.qx[i]!).qQ)[k]!).qH).toNat) qf p8 qf
    have u4:=(by first | exact bn1.yY qf | exact bn2.yY qf | exact bn3.yY qf | exact bn4.yY qf:SmallT ((((s.qx[i]!).qQ)[k]!).jy) (counts[i]!))
    have sz151:=H.base.size
    have lt152:=H.ltN (L:=[G69]) [4]
    refine oc (plus_ok _ (bags_1[((((s.qx[i]!).qQ)[k]!).qH).toNat]!) ((((s.qx[i]!).qQ)[k]!).jy) (counts[i]!) (H.get 0 rfl).1 (H.get 1 rfl).1 qg qg qg) ?_
    rintro v156 w154 r156 x155
    replace H:=H.zD x155 r156
    obtain ⟨a157,c158,rfl,hc159,hm160⟩:=H.jo 0 rfl
    refine ⟨H.pick [1,2,3,4,5,6,7,8,10,11,12] [1,2,3,4,5,6,7,8,9,10,11,12,13,14,15,16,17,18],(tI 9 rfl rfl rfl (H.pick [1,2,3,4,5,6,7,8,10,11,12] [1,2,3,4,5,6,7,8,9,10,11,12,13,14,15,16,17,18]) ?_)⟩
    refine ro 10 rfl ?_
    obtain ⟨G162,N,hn163,H⟩:=H.vS 0 rfl N (H.jQ [4])
    refine jL false H 9 rfl 4 rfl (.slice a157 ((vY (bags_1[((((s.qx[i]!).qQ)[k]!).qH).toNat]!) ((((s.qx[i]!).qQ)[k]!).jy) (counts[i]!)).length) c158) 0 rfl rfl sizeOf22 rfl rfl (i:=(((((s.qx[i]!).qQ)[k]!).qH).toNat)) qf qf qm fun w161 xs164 F165 hs166 H=>⟨H.pick [1,2,3,4,5,6,7,8,10,11,12] [3,4,5,6,7,8,9,10,11,12,13,14,15,16,17,18,19,20],(xO qh ((ret0 rfl ⟨_,rfl,?_⟩)))⟩
    replace H:=H.erases [0]
    dsimp only [vU,List.eraseIdx] at H
    obtain ⟨bg167,e_bg167⟩:∃ z,z=(bags_1.set (((((s.qx[i]!).qQ)[k]!).qH).toNat) (vY (bags_1[((((s.qx[i]!).qQ)[k]!).qH).toNat]!) ((((s.qx[i]!).qQ)[k]!).jy) (counts[i]!))):=⟨_,rfl⟩
    rw [← e_bg167] at H
    have E_bg167:=Ent.add (D:=1000000) E_bags_1 e_bg167 qf (by first | exact bn1.mul qf | exact bn2.mul qf | exact bn3.mul qf | exact bn4.mul qf) qf
    have z_bg167:=E_bg167.sh.1
    have E_cur:=E_bg167
    refine xZ (b_n (t_n (xY (sw (zC k 1 rfl rfl qf (sp (yI (k+1)) (xZ (xf (m' :=((((s.qx[i]!).qQ).length) - ((k+1):Int)).toNat) qf ⟨_,k+1,bg167,xs164,F165,uE4,?_,?_,?_,rfl,(N.pick [1]),H.pick [1,2,3,4,5,6,7,8,9,10,11] [0,6,7,8,9,10,11,12,13,14,15,16,17,18,19,20]⟩))))))))
    · omega
    · exact E_cur.to (fun p q=>by simp only [intoF];omega) qf
    · omega
   refine c_exit (t_x (t_x (b_x (ret0 rfl ⟨_,rfl,?_⟩))))
   replace H:=H.erases [4,3,2,1,0]
   dsimp only [vU,List.eraseIdx] at H
   refine zjn ?_
   refine Qn rfl H [0,2,3,4,5] fun H=>?_
   have S:=H.yl [0,2,3,4,5] [0,1,2,3,4,5,6,7,8,9,10,11,12,13,14,15]
   refine rtp 0 (.slice (aa b36 0) s.qw.length s.qw.length) S ?_
   refine tF 1 rfl rfl S ?_
   refine tL 2 rfl rfl (fun _ h=>h.cell 0 rfl rfl) S ?_
   refine rtp 3 (.slice (aa b36 0) s.qw.length s.qw.length) S ?_
   refine tF 4 rfl rfl S ?_
   refine tL 5 rfl rfl (fun _ h=>h.cell 0 rfl rfl) S ?_
   refine tI 6 rfl rfl rfl S ?_
   refine ro 7 rfl (zN (.bool ((yE s counts s.qw.length i)[((s.qx[i]!).qH).toNat]!)) isAgg4 rfl (H.rowBool 1 rfl (iv:=(s.qx[i]!).qH) (i:=(((s.qx[i]!).qH).toNat)) qf qf) (⟨H.pick [0,2,3,4,5] [0,1,2,3,4,5,6,7,8,9,10,11,12,13,14,15],(rtp 8 (.bool ((yE s counts s.qw.length i)[((s.qx[i]!).qH).toNat]!)) (H.pick [0,2,3,4,5] [0,1,2,3,4,5,6,7,8,9,10,11,12,13,14,15]) ?_)⟩))
   cases h169:((yE s counts s.qw.length i)[((s.qx[i]!).qH).toNat]!)
   ·skip
    have S:=H.yl [0,2,3,4,5] [0,1,2,3,4,5,6,7,8,9,10,11,12,13,14,15]
    refine rgp 9 (yI (counts[i]!)) 66 S ?_
    refine rgp 10 (.bool (decide ((counts[i]! :Int) > 0))) 66 S ?_
    refine rgp 11 (.bool (decide ((counts[i]! :Int) > 0))) 66 S ?_
    cases h170:(decide ((counts[i]! :Int) > 0))
    ·skip
     replace h170:=of_decide_eq_false h170
     refine zT [12,13] 2 (H.pick [0,2,3,4,5] [0,1,2,3,4,5,6,7,8,9,10,11,12,13,14,15]) ?_
     have S:=H.yl [0,2,3,4,5] [0,1,2,3,4,5,6,7,8,9,10,11,12,13,14,15]
     refine rgp 14 (.bool false) 66 S ?_
     refine rtp 15 (.bool false) S ?_
     refine tI 16 rfl rfl rfl S ?_
     refine ro 17 rfl (Q4 H 1 rfl false sizeOf4 rfl rfl (i:=(((s.qx[i]!).qH).toNat)) qf qf fun w171 H=>⟨H.pick [0,2,3,4,5] [0,1,2,3,4,5,6,7,8,9,10,11,12,13,14,15],(xO qh (b_n (t_n (xY (sw (zC i 1 rfl rfl qf (sp (yI (i+1)) (xZ (xf (m' :=(counts.length - ((i+1):Int)).toNat) qf ⟨_,i+1,((yE s counts s.qw.length i).set (((s.qx[i]!).qH).toNat) false),bags_1,Vz,F_bags_1,uE8,?_,?_,?_,?_,rfl,(N.pick []),H.pick [1,2,3,4,5] [0,10,11,12,13,14,15]⟩)))))))))⟩)
     · first | exact meltsL_1 qf qf ‹_› | exact meltsL_2 qf qf ‹_› qf | exact meltsL_3 qf qf ‹_› qf
     · omega
     · exact E_bags_1.to (fun p q=>by rw [show k=((s.qx[i]!).qQ).length by omega];simp only [allS,needF,putF];omega) qf
     · omega
    replace h170:=of_decide_eq_true h170
    have S:=H.yl [0,2,3,4,5] [0,1,2,3,4,5,6,7,8,9,10,11,12,13,14,15]
    refine gF 12 rfl rfl S ?_
    refine gL 13 rfl rfl (fun _ h=>h.cell 0 rfl rfl) S ?_
    refine rgp 14 (.bool ((s.qx[i]!).zA)) 66 S ?_
    refine rtp 15 (.bool ((s.qx[i]!).zA)) S ?_
    refine tI 16 rfl rfl rfl S ?_
    refine ro 17 rfl (Q4 H 1 rfl ((s.qx[i]!).zA) sizeOf4 rfl rfl (i:=(((s.qx[i]!).qH).toNat)) qf qf fun w172 H=>⟨H.pick [0,2,3,4,5] [0,1,2,3,4,5,6,7,8,9,10,11,12,13,14,15],(xO qh (b_n (t_n (xY (sw (zC i 1 rfl rfl qf (sp (yI (i+1)) (xZ (xf (m' :=(counts.length - ((i+1):Int)).toNat) qf ⟨_,i+1,((yE s counts s.qw.length i).set (((s.qx[i]!).qH).toNat) ((s.qx[i]!).zA)),bags_1,Vz,F_bags_1,uE8,?_,?_,?_,?_,rfl,(N.pick []),H.pick [1,2,3,4,5] [0,10,11,12,13,14,15]⟩)))))))))⟩)
    · first | exact meltsL_1 qf qf ‹_› | exact meltsL_2 qf qf ‹_› qf | exact meltsL_3 qf qf ‹_› qf
    · omega
    · exact E_bags_1.to (fun p q=>by rw [show k=((s.qx[i]!).qQ).length by omega];simp only [allS,needF,putF];omega) qf
    · omega
   refine zT [9,10,11,12,13,14] 6 (H.pick [0,2,3,4,5] [0,1,2,3,4,5,6,7,8,9,10,11,12,13,14,15]) ?_
   have S:=H.yl [0,2,3,4,5] [0,1,2,3,4,5,6,7,8,9,10,11,12,13,14,15]
   refine rtp 15 (.bool true) S ?_
   refine tI 16 rfl rfl rfl S ?_
   refine ro 17 rfl (Q4 H 1 rfl true sizeOf4 rfl rfl (i:=(((s.qx[i]!).qH).toNat)) qf qf fun w173 H=>⟨H.pick [0,2,3,4,5] [0,1,2,3,4,5,6,7,8,9,10,11,12,13,14,15],(xO qh (b_n (t_n (xY (sw (zC i 1 rfl rfl qf (sp (yI (i+1)) (xZ (xf (m' :=(counts.length - ((i+1):Int)).toNat) qf ⟨_,i+1,((yE s counts s.qw.length i).set (((s.qx[i]!).qH).toNat) true),bags_1,Vz,F_bags_1,uE8,?_,?_,?_,?_,rfl,(N.pick []),H.pick [1,2,3,4,5] [0,10,11,12,13,14,15]⟩)))))))))⟩)
   · first | exact meltsL_1 qf qf ‹_› | exact meltsL_2 qf qf ‹_› qf | exact meltsL_3 qf qf ‹_› qf
   · omega
   · exact E_bags_1.to (fun p q=>by rw [show k=((s.qx[i]!).qQ).length by omega];simp only [allS,needF,putF];omega) qf
   · omega
  have po:=outPl_out (r:=s.qx[i]!) p15 p1.2.2.1 qc qf
  refine Qn rfl H [0,1,2,3,4,5,6,8,9,10] fun H=>?_
  have S:=H.yl [0,1,2,3,4,5,6,8,9,10] [0,1,2,3,4,5,6,7,8,9,10,11,12,13,14,15,16,17,18,19]
  refine rtp 0 (.func (.func 191) #[] #[pp b79 0,pp b83 0]) S ?_
  refine rt 1 (.agg #[yI s.xC,.slice qB s.qw.length qy,.slice (aa b44 o45) s.qx.length qI]) (Qe (cs:=[yI s.xC,.slice qB s.qw.length qy,.slice (aa b44 o45) s.qx.length qI]) isAgg36 sizeOf36 rfl (fun _ h=>qF (h.cells 4 rfl) 0 3)) S ?_
  refine tF 3 rfl rfl S ?_
  refine tL 4 rfl rfl (fun _ h=>h.cell 1 rfl rfl) S ?_
  refine ro 2 rfl (oq (around_ok _ s (H.get 14 rfl).1 (H.get 15 rfl).1) H fun w176 H=>⟨H.pick [0,1,2,3,4,5,6,8,9,10] [0,1,2,3,4,5,6,7,8,9,10,11,12,13,14,15,16,17,18,19],(ro 5 rfl (vF #[yI s.qw.length,.slice Vw (((s.qx[i]!).zV).length) Vt,pp b79 0,pp b83 0] rfl rfl call191 (en func191 ntmps191 ?_)))⟩)
  refine Qn rfl H [0,1,2,3,4,5,6,8,9,10] fun H=>?_
  have S:=H.yl [0,1,2,3,4,5,6,8,9,10] [0,1,2,3,4,5,6,7,8,9,10,11,12,13,14,15,16,17,18,19]
  refine tL 0 rfl rfl (fun _ h=>h.cell 2 rfl rfl) S ?_
  refine rtp 1 (yI s.qw.length) S ?_
  refine tL 2 rfl rfl (fun _ h=>h.cell 2 rfl rfl) S ?_
  refine rtp 3 (yI s.qw.length) S ?_
  refine tI 4 rfl rfl rfl S ?_
  refine rtp 6 (.slice Vw (((s.qx[i]!).zV).length) Vt) S ?_
  refine tL 7 rfl rfl (fun _ h=>h.cell 0 rfl rfl) S ?_
  refine ro 5 rfl ?_
  obtain ⟨a179,c180,G181,s182,h183,H⟩:=H.jV 7 rfl 0 rfl (iv:=s.qw.length) s.qw.length qf qf
  refine zN (.slice a179 ((bg107[s.qw.length]!).length) c180) isAgg22 rfl (h183) (⟨H.pick [0,1,2,3,4,5,6,8,9,10] [1,2,3,4,5,6,7,8,9,10,11,12,13,14,15,16,17,18,19,20],(ro 8 rfl ?_)⟩)
  obtain ⟨u1,u2⟩:=E_bg107.sh.row (c:=s.qw.length) qf p8 qf
  have u4:=(by first | exact bn1.yY qf | exact bn2.yY qf | exact bn3.yY qf | exact bn4.yY qf:SmallT ((s.qx[i]!).zV) (counts[i]!))
  have sz184:=H.base.size
  have lt185:=H.ltN (L:=[G102,G69]) [2,5]
  refine oc (plus_ok _ (bg107[s.qw.length]!) ((s.qx[i]!).zV) (counts[i]!) (H.get 0 rfl).1 (H.get 11 rfl).1 qg qg qg) ?_
  rintro v189 w187 r189 x188
  replace H:=H.zD x188 r189
  obtain ⟨a190,c191,rfl,hc192,hm193⟩:=H.jo 0 rfl
  refine ⟨H.pick [1,2,3,4,5,6,7,9,10,11] [1,2,3,4,5,6,7,8,9,10,11,12,13,14,15,16,17,18,19,20],(tI 9 rfl rfl rfl (H.pick [1,2,3,4,5,6,7,9,10,11] [1,2,3,4,5,6,7,8,9,10,11,12,13,14,15,16,17,18,19,20]) ?_)⟩
  refine ro 10 rfl ?_
  obtain ⟨G195,N,hn196,H⟩:=H.vS 0 rfl N (H.jQ [2,5])
  refine jL false H 8 rfl 2 rfl (.slice a190 ((vY (bg107[s.qw.length]!) ((s.qx[i]!).zV) (counts[i]!)).length) c191) 0 rfl rfl sizeOf22 rfl rfl (i:=s.qw.length) qf qf qm fun w194 xs197 F198 hs199 H=>⟨H.pick [1,2,3,4,5,6,7,9,10,11] [3,4,5,6,7,8,9,10,11,12,13,14,15,16,17,18,19,20,21,22],(xO qh ((ret0 rfl ⟨_,rfl,?_⟩)))⟩
  replace H:=H.erases [0]
  dsimp only [vU,List.eraseIdx] at H
  obtain ⟨bg200,e_bg200⟩:∃ z,z=(bg107.set s.qw.length (vY (bg107[s.qw.length]!) ((s.qx[i]!).zV) (counts[i]!))):=⟨_,rfl⟩
  rw [← e_bg200] at H
  have E_bg200:=Ent.add (D:=1000000) E_bg107 e_bg200 qf (by first | exact bn1.mul qf | exact bn2.mul qf | exact bn3.mul qf | exact bn4.mul qf) qf
  have z_bg200:=E_bg200.sh.1
  have E_cur:=E_bg200
  refine ⟨H.pick [0,1,2,3,4,5,6,8,9,10] [3,4,5,6,7,8,9,10,11,12,13,14,15,16,17,18,19,20,21,22],(xO qh (t_n (zcr (oF rfl (oL rfl (H.cell 1 rfl rfl) (oN rfl (sp (yI 0) (zjn (qX ?_)))))))))⟩
  refine zu (fun m' ρ w201=>∃ (xU:Env) (k:Nat) (bags_1:yLL) (Vz:List Value) (F_bags_1:yLN),ρ=upd (upd (upd (upd xU 10 (.func (.func 191) #[] #[pp b79 0,pp b83 0])) 40 (.slice XX (((s.qx[i]!).qQ).length) XU)) 41 (yI (((s.qx[i]!).qQ).length))) 42 (yI k)∧((k:Int)≤(((s.qx[i]!).qQ).length))∧(Ent (s.qw.length+1) (QH s) (fun p q=>base0 s t p q+allS s t counts i p q+at' p (s.qx[i]!).qH.toNat (-(counts[i]!) * ((s.qx[i]!).xm)[q]!)+at' p (s.qx[i]!).qH.toNat ((counts[i]!) * ((s.qx[i]!).xM)[q]!)+at' p (outPl s t (s.qx[i]!)) ((counts[i]!) * ((s.qx[i]!).zV)[q]!)+intoF (s.qx[i]!) (counts[i]!) k p q) (23000000+6000000 * i+1000000 * k) bags_1)∧(bags_1.length=s.qw.length+1)∧m' =((((s.qx[i]!).qQ).length) - (k:Int)).toNat∧Fresh w.heap.size [G69]∧St w w201 [.box b83 [yI (counts[i]!)] 2,.box b81 [yI ((s.qx[i]!).qH),yI ((s.qx[i]!).zM),.slice VJ (((s.qx[i]!).xm).length) VE,.slice VL (((s.qx[i]!).xF).length) VG,.slice VK (((s.qx[i]!).xI).length) VF,.slice XY (((s.qx[i]!).xM).length) XV,.slice Vw (((s.qx[i]!).zV).length) Vt,.slice XX (((s.qx[i]!).qQ).length) XU,.bool ((s.qx[i]!).zA)] 121,.box b79 [.slice (aa b52 0) (t.qE.length+1) c8] 27,.box b77 (yT t qV qR xn xk qN qM) 38,.box b75 [yI s.xC,.slice qB s.qw.length qy,.slice (aa b44 o45) s.qx.length qI] 36,.box b48 [yI ((s.qx[i]!).qH),yI ((s.qx[i]!).zM),.slice VJ (((s.qx[i]!).xm).length) VE,.slice VL (((s.qx[i]!).xF).length) VG,.slice VK (((s.qx[i]!).xI).length) VF,.slice XY (((s.qx[i]!).xM).length) XV,.slice Vw (((s.qx[i]!).zV).length) Vt,.slice XX (((s.qx[i]!).qQ).length) XU,.bool ((s.qx[i]!).zA)] 121,rr (aa b36 0) s.qw.length s.qw.length 4 1 ((yE s counts s.qw.length i).map (Value.bool)),rr (aa b52 0) (t.qE.length+1) c8 22 1 Vz,.box b5 [yN,yN,yN] 38,.box b3 (yT t qV qR xn xk qN qM) 38,.box b1 [yI s.xC,.slice qB s.qw.length qy,.slice (aa b44 o45) s.qx.length qI] 36] [zi false F_bags_1 Vz bags_1,sF true G69 a64 c65 (vY (bags[((s.qx[i]!).qH).toNat]!) ((s.qx[i]!).xm) (-(counts[i]!))),sF false G55 a53 c54 (bags[((s.qx[i]!).qH).toNat]!),sF false Fe47Need VJ VE ((s.qx[i]!).xm),sF false Fe47Have VL VG ((s.qx[i]!).xF),sF false Fe47Lack VK VF ((s.qx[i]!).xI),sF false Fe47Here XY XV ((s.qx[i]!).xM),sF false Fe47Out Vw Vt ((s.qx[i]!).zV),sF false Fe47Into XX XU ((s.qx[i]!).qQ),atF b44 (o45+(i:Int).toNat * 9) [yI ((s.qx[i]!).qH),yI ((s.qx[i]!).zM),.slice VJ (((s.qx[i]!).xm).length) VE,.slice VL (((s.qx[i]!).xF).length) VG,.slice VK (((s.qx[i]!).xI).length) VF,.slice XY (((s.qx[i]!).xM).length) XV,.slice Vw (((s.qx[i]!).zV).length) Vt,.slice XX (((s.qx[i]!).qQ).length) XU,.bool ((s.qx[i]!).zA)],sF false qZ qB qy s.qw,sF false xE (aa b44 o45) qI s.qx,sF false xR qV qR t.qA,sF false zy xn xk t.qE,sF false xH qN qM t.qC,sF false Fcounts (aa b41 o42) ccounts counts]) (((((s.qx[i]!).qQ).length) - (0:Int)).toNat) ⟨_,0,bg200,xs197,F198,uE4,qf,(by exact E_cur.to (fun p q=>by rw [po];simp only [intoF];first | omega | (simp only [Int.toNat_natCast];omega)) qf),qf,rfl,(N.pick [2]),H.pick [0,1,2,3,4,5,6,7,8,9,10] [0,7,8,9,10,11,12,13,14,15,17,18,19,20,21,22]⟩ ?_
  clear H N
  rintro m' ρ w202 ⟨xU,k,bags_1,Vz,F_bags_1,rfl,i0,E_bags_1,z_bags_1,rfl,N,H⟩
  have hn_bags:=H.zh (α:=yLI) 7 rfl 0 rfl qj
  refine zcr (sp (.bool (decide ((k:Int) < (((s.qx[i]!).qQ).length)))) (zjn (xQ (cD rfl (fun h203=>?_) (fun h203=>?_)))))
  ·skip
   have qi:=q.2.2.2.2.2.2.2.2.2.2 k qf
   have qi1:=qi.1
   have bn4:=qi.2.2.1
   have ln4:=bn4.len
   refine qU (t_n (xQ (qX (zcr ?_))))
   obtain ⟨b204,o205,rfl⟩:=H.addr 8 rfl qf
   obtain ⟨ae207Bag,ce207Bag,Fe207Bag,H⟩:=H.jS 8 rfl k k qf qf qf
   refine oI rfl rfl (sw (zn [yI ((((s.qx[i]!).qQ)[k]!).qH),.slice ae207Bag (((((s.qx[i]!).qQ)[k]!).jy).length) ce207Bag] isAgg164 sizeOf164 rfl (qF (H.get 1 rfl) 0 2) (sw (zf H ti164 [yI 0,yN] fun b208 w209 H=>sw (zB H 0 [yI ((((s.qx[i]!).qQ)[k]!).qH),.slice ae207Bag (((((s.qx[i]!).qQ)[k]!).jy).length) ce207Bag] sizeOf164 fun w210 H=>zjn (xY (sp (.func (.func 191) #[] #[pp b79 0,pp b83 0]) (oF rfl (oL rfl (H.cell 0 rfl rfl) (oF rfl (oL rfl (H.cell 0 rfl rfl) ?_)))))))))))
   refine sw (vF #[yI ((((s.qx[i]!).qQ)[k]!).qH),.slice ae207Bag (((((s.qx[i]!).qQ)[k]!).jy).length) ce207Bag,pp b79 0,pp b83 0] rfl rfl call191 (en func191 ntmps191 ?_))
   refine Qn rfl H [0,1,2,3,4,5,6,7,9,10,11] fun H=>?_
   have S:=H.yl [0,1,2,3,4,5,6,7,9,10,11] [0,1,2,3,4,5,6,7,8,9,10,11,12,13,14,15,16,17]
   refine tL 0 rfl rfl (fun _ h=>h.cell 3 rfl rfl) S ?_
   refine rtp 1 (yI ((((s.qx[i]!).qQ)[k]!).qH)) S ?_
   refine tL 2 rfl rfl (fun _ h=>h.cell 3 rfl rfl) S ?_
   refine rtp 3 (yI ((((s.qx[i]!).qQ)[k]!).qH)) S ?_
   refine tI 4 rfl rfl rfl S ?_
   refine rtp 6 (.slice ae207Bag (((((s.qx[i]!).qQ)[k]!).jy).length) ce207Bag) S ?_
   refine tL 7 rfl rfl (fun _ h=>h.cell 1 rfl rfl) S ?_
   refine ro 5 rfl ?_
   obtain ⟨a212,c213,G214,s215,h216,H⟩:=H.jV 8 rfl 2 rfl (iv:=(((s.qx[i]!).qQ)[k]!).qH) (((((s.qx[i]!).qQ)[k]!).qH).toNat) qf qf
   refine zN (.slice a212 ((bags_1[((((s.qx[i]!).qQ)[k]!).qH).toNat]!).length) c213) isAgg22 rfl (h216) (⟨H.pick [0,1,2,3,4,5,6,7,9,10,11] [1,2,3,4,5,6,7,8,9,10,11,12,13,14,15,16,17,18],(ro 8 rfl ?_)⟩)
   obtain ⟨u1,u2⟩:=E_bags_1.sh.row (c:=((((s.qx[i]!).qQ)[k]!).qH).toNat) qf p8 qf
   have u4:=(by first | exact bn1.yY qf | exact bn2.yY qf | exact bn3.yY qf | exact bn4.yY qf:SmallT ((((s.qx[i]!).qQ)[k]!).jy) (counts[i]!))
   have sz217:=H.base.size
   have lt218:=H.ltN (L:=[G69]) [4]
   refine oc (plus_ok _ (bags_1[((((s.qx[i]!).qQ)[k]!).qH).toNat]!) ((((s.qx[i]!).qQ)[k]!).jy) (counts[i]!) (H.get 0 rfl).1 (H.get 1 rfl).1 qg qg qg) ?_
   rintro v222 w220 r222 x221
   replace H:=H.zD x221 r222
   obtain ⟨a223,c224,rfl,hc225,hm226⟩:=H.jo 0 rfl
   refine ⟨H.pick [1,2,3,4,5,6,7,8,10,11,12] [1,2,3,4,5,6,7,8,9,10,11,12,13,14,15,16,17,18],(tI 9 rfl rfl rfl (H.pick [1,2,3,4,5,6,7,8,10,11,12] [1,2,3,4,5,6,7,8,9,10,11,12,13,14,15,16,17,18]) ?_)⟩
   refine ro 10 rfl ?_
   obtain ⟨G228,N,hn229,H⟩:=H.vS 0 rfl N (H.jQ [4])
   refine jL false H 9 rfl 4 rfl (.slice a223 ((vY (bags_1[((((s.qx[i]!).qQ)[k]!).qH).toNat]!) ((((s.qx[i]!).qQ)[k]!).jy) (counts[i]!)).length) c224) 0 rfl rfl sizeOf22 rfl rfl (i:=(((((s.qx[i]!).qQ)[k]!).qH).toNat)) qf qf qm fun w227 xs230 F231 hs232 H=>⟨H.pick [1,2,3,4,5,6,7,8,10,11,12] [3,4,5,6,7,8,9,10,11,12,13,14,15,16,17,18,19,20],(xO qh ((ret0 rfl ⟨_,rfl,?_⟩)))⟩
   replace H:=H.erases [0]
   dsimp only [vU,List.eraseIdx] at H
   obtain ⟨bg233,e_bg233⟩:∃ z,z=(bags_1.set (((((s.qx[i]!).qQ)[k]!).qH).toNat) (vY (bags_1[((((s.qx[i]!).qQ)[k]!).qH).toNat]!) ((((s.qx[i]!).qQ)[k]!).jy) (counts[i]!))):=⟨_,rfl⟩
   rw [← e_bg233] at H
   have E_bg233:=Ent.add (D:=1000000) E_bags_1 e_bg233 qf (by first | exact bn1.mul qf | exact bn2.mul qf | exact bn3.mul qf | exact bn4.mul qf) qf
   have z_bg233:=E_bg233.sh.1
   have E_cur:=E_bg233
   refine xZ (b_n (t_n (xY (sw (zC k 1 rfl rfl qf (sp (yI (k+1)) (xZ (xf (m' :=((((s.qx[i]!).qQ).length) - ((k+1):Int)).toNat) qf ⟨_,k+1,bg233,xs230,F231,uE4,?_,?_,?_,rfl,(N.pick [1]),H.pick [1,2,3,4,5,6,7,8,9,10,11] [0,6,7,8,9,10,11,12,13,14,15,16,17,18,19,20]⟩))))))))
   · omega
   · exact E_cur.to (fun p q=>by simp only [intoF];omega) qf
   · omega
  refine c_exit (t_x (t_x (b_x (ret0 rfl ⟨_,rfl,?_⟩))))
  replace H:=H.erases [4,3,2,1,0]
  dsimp only [vU,List.eraseIdx] at H
  refine zjn ?_
  refine Qn rfl H [0,2,3,4,5] fun H=>?_
  have S:=H.yl [0,2,3,4,5] [0,1,2,3,4,5,6,7,8,9,10,11,12,13,14,15]
  refine rtp 0 (.slice (aa b36 0) s.qw.length s.qw.length) S ?_
  refine tF 1 rfl rfl S ?_
  refine tL 2 rfl rfl (fun _ h=>h.cell 0 rfl rfl) S ?_
  refine rtp 3 (.slice (aa b36 0) s.qw.length s.qw.length) S ?_
  refine tF 4 rfl rfl S ?_
  refine tL 5 rfl rfl (fun _ h=>h.cell 0 rfl rfl) S ?_
  refine tI 6 rfl rfl rfl S ?_
  refine ro 7 rfl (zN (.bool ((yE s counts s.qw.length i)[((s.qx[i]!).qH).toNat]!)) isAgg4 rfl (H.rowBool 1 rfl (iv:=(s.qx[i]!).qH) (i:=(((s.qx[i]!).qH).toNat)) qf qf) (⟨H.pick [0,2,3,4,5] [0,1,2,3,4,5,6,7,8,9,10,11,12,13,14,15],(rtp 8 (.bool ((yE s counts s.qw.length i)[((s.qx[i]!).qH).toNat]!)) (H.pick [0,2,3,4,5] [0,1,2,3,4,5,6,7,8,9,10,11,12,13,14,15]) ?_)⟩))
  cases h235:((yE s counts s.qw.length i)[((s.qx[i]!).qH).toNat]!)
  ·skip
   have S:=H.yl [0,2,3,4,5] [0,1,2,3,4,5,6,7,8,9,10,11,12,13,14,15]
   refine rgp 9 (yI (counts[i]!)) 66 S ?_
   refine rgp 10 (.bool (decide ((counts[i]! :Int) > 0))) 66 S ?_
   refine rgp 11 (.bool (decide ((counts[i]! :Int) > 0))) 66 S ?_
   cases h236:(decide ((counts[i]! :Int) > 0))
   ·skip
    replace h236:=of_decide_eq_false h236
    refine zT [12,13] 2 (H.pick [0,2,3,4,5] [0,1,2,3,4,5,6,7,8,9,10,11,12,13,14,15]) ?_
    have S:=H.yl [0,2,3,4,5] [0,1,2,3,4,5,6,7,8,9,10,11,12,13,14,15]
    refine rgp 14 (.bool false) 66 S ?_
    refine rtp 15 (.bool false) S ?_
    refine tI 16 rfl rfl rfl S ?_
    refine ro 17 rfl (Q4 H 1 rfl false sizeOf4 rfl rfl (i:=(((s.qx[i]!).qH).toNat)) qf qf fun w237 H=>⟨H.pick [0,2,3,4,5] [0,1,2,3,4,5,6,7,8,9,10,11,12,13,14,15],(xO qh (b_n (t_n (xY (sw (zC i 1 rfl rfl qf (sp (yI (i+1)) (xZ (xf (m' :=(counts.length - ((i+1):Int)).toNat) qf ⟨_,i+1,((yE s counts s.qw.length i).set (((s.qx[i]!).qH).toNat) false),bags_1,Vz,F_bags_1,uE8,?_,?_,?_,?_,rfl,(N.pick []),H.pick [1,2,3,4,5] [0,10,11,12,13,14,15]⟩)))))))))⟩)
    · first | exact meltsL_1 qf qf ‹_› | exact meltsL_2 qf qf ‹_› qf | exact meltsL_3 qf qf ‹_› qf
    · omega
    · exact E_bags_1.to (fun p q=>by rw [show k=((s.qx[i]!).qQ).length by omega];simp only [allS,needF,putF];omega) qf
    · omega
   replace h236:=of_decide_eq_true h236
   have S:=H.yl [0,2,3,4,5] [0,1,2,3,4,5,6,7,8,9,10,11,12,13,14,15]
   refine gF 12 rfl rfl S ?_
   refine gL 13 rfl rfl (fun _ h=>h.cell 0 rfl rfl) S ?_
   refine rgp 14 (.bool ((s.qx[i]!).zA)) 66 S ?_
   refine rtp 15 (.bool ((s.qx[i]!).zA)) S ?_
   refine tI 16 rfl rfl rfl S ?_
   refine ro 17 rfl (Q4 H 1 rfl ((s.qx[i]!).zA) sizeOf4 rfl rfl (i:=(((s.qx[i]!).qH).toNat)) qf qf fun w238 H=>⟨H.pick [0,2,3,4,5] [0,1,2,3,4,5,6,7,8,9,10,11,12,13,14,15],(xO qh (b_n (t_n (xY (sw (zC i 1 rfl rfl qf (sp (yI (i+1)) (xZ (xf (m' :=(counts.length - ((i+1):Int)).toNat) qf ⟨_,i+1,((yE s counts s.qw.length i).set (((s.qx[i]!).qH).toNat) ((s.qx[i]!).zA)),bags_1,Vz,F_bags_1,uE8,?_,?_,?_,?_,rfl,(N.pick []),H.pick [1,2,3,4,5] [0,10,11,12,13,14,15]⟩)))))))))⟩)
   · first | exact meltsL_1 qf qf ‹_› | exact meltsL_2 qf qf ‹_› qf | exact meltsL_3 qf qf ‹_› qf
   · omega
   · exact E_bags_1.to (fun p q=>by rw [show k=((s.qx[i]!).qQ).length by omega];simp only [allS,needF,putF];omega) qf
   · omega
  refine zT [9,10,11,12,13,14] 6 (H.pick [0,2,3,4,5] [0,1,2,3,4,5,6,7,8,9,10,11,12,13,14,15]) ?_
  have S:=H.yl [0,2,3,4,5] [0,1,2,3,4,5,6,7,8,9,10,11,12,13,14,15]
  refine rtp 15 (.bool true) S ?_
  refine tI 16 rfl rfl rfl S ?_
  refine ro 17 rfl (Q4 H 1 rfl true sizeOf4 rfl rfl (i:=(((s.qx[i]!).qH).toNat)) qf qf fun w239 H=>⟨H.pick [0,2,3,4,5] [0,1,2,3,4,5,6,7,8,9,10,11,12,13,14,15],(xO qh (b_n (t_n (xY (sw (zC i 1 rfl rfl qf (sp (yI (i+1)) (xZ (xf (m' :=(counts.length - ((i+1):Int)).toNat) qf ⟨_,i+1,((yE s counts s.qw.length i).set (((s.qx[i]!).qH).toNat) true),bags_1,Vz,F_bags_1,uE8,?_,?_,?_,?_,rfl,(N.pick []),H.pick [1,2,3,4,5] [0,10,11,12,13,14,15]⟩)))))))))⟩)
  · first | exact meltsL_1 qf qf ‹_› | exact meltsL_2 qf qf ‹_› qf | exact meltsL_3 qf qf ‹_› qf
  · omega
  · exact E_bags_1.to (fun p q=>by rw [show k=((s.qx[i]!).qQ).length by omega];simp only [allS,needF,putF];omega) qf
  · omega
 refine zx4 (xQ ?_)
 obtain ⟨b240,rfl⟩:=H.Qh 1 rfl qf
 refine c_cut (fun ρ w250=>∃ (xU:Env) (b241:Nat) (ra242:yOA) (rc243:Nat) (ra244:yOA) (rc245:Nat) (ra246:yOA) (rc247:Nat) (rx248:List Value) (rF249:yLN),ρ=upd (upd (upd (upd xU 3 (pp b1 0)) 6 (pp b5 0)) 9 (.slice (aa b36 0) s.qw.length s.qw.length)) 13 (pp b241 0)∧Fresh w.heap.size [rF249]∧St w w250 [.box b241 [.slice ra242 (((⟨t.qA,(bags.take s.qw.length),bags[s.qw.length]!⟩:qJ).qA).length) rc243,.slice ra244 (((⟨t.qA,(bags.take s.qw.length),bags[s.qw.length]!⟩:qJ).qE).length) rc245,.slice ra246 (((⟨t.qA,(bags.take s.qw.length),bags[s.qw.length]!⟩:qJ).qC).length) rc247] 38,rr ra242 (((⟨t.qA,(bags.take s.qw.length),bags[s.qw.length]!⟩:qJ).qA).length) rc243 4 1 (((⟨t.qA,(bags.take s.qw.length),bags[s.qw.length]!⟩:qJ).qA).map (Value.bool)),rr ra244 (((⟨t.qA,(bags.take s.qw.length),bags[s.qw.length]!⟩:qJ).qE).length) rc245 22 1 rx248,rr ra246 (((⟨t.qA,(bags.take s.qw.length),bags[s.qw.length]!⟩:qJ).qC).length) rc247 2 1 (((⟨t.qA,(bags.take s.qw.length),bags[s.qw.length]!⟩:qJ).qC).map (Value.int .i64)),rr (aa b36 0) s.qw.length s.qw.length 4 1 ((yE s counts s.qw.length i).map (Value.bool)),rr none 0 0 0 1 [],.box b5 [yN,yN,yN] 38,.box b3 (yT t qV qR xn xk qN qM) 38,.box b1 (yS s qB qy qL qI) 36] [zi true rF249 rx248 ((⟨t.qA,(bags.take s.qw.length),bags[s.qw.length]!⟩:qJ).qE),sF false qZ qB qy s.qw,sF false xE qL qI s.qx,sF false xR qV qR t.qA,sF false zy xn xk t.qE,sF false xH qN qM t.qC]) ?_ ?_
 ·skip
  refine Qn rfl H [0,2,3,4] fun H=>?_
  refine r_have (fun ρ w258=>∃ (xU:Env) (a252:yOA) (c253:Nat) (a254:yOA) (G255:yLN) (G256:yLN),ρ=upd (upd (upd (upd (upd (upd xU 3 (pp b1 0)) 6 (pp b5 0)) 9 (.slice (aa b36 0) s.qw.length s.qw.length)) 77 (.slice qV t.qA.length qR)) 81 (.slice a254 ((bags.take s.qw.length).length) c8)) 86 (.slice a252 ((bags[s.qw.length]!).length) c253)∧Fresh w.heap.size []∧St w w258 [rr (aa b36 0) s.qw.length s.qw.length 4 1 ((yE s counts s.qw.length i).map (Value.bool)),rr none 0 0 0 1 [],.box b5 [yN,yN,yN] 38,.box b3 (yT t qV qR xn xk qN qM) 38,.box b1 (yS s qB qy qL qI) 36] [sF false G255 a254 c8 (bags.take s.qw.length),sF false G256 a252 c253 (bags[s.qw.length]!),zi false F_bags x_bags bags,sF false qZ qB qy s.qw,sF false xE qL qI s.qx,sF false xR qV qR t.qA,sF false zy xn xk t.qE,sF false xH qN qM t.qC,sF false Fcounts acounts ccounts counts]) 4 #[true,true,true,true,true,true,true,true,true,true,true,false,false,false,false] ?_ fun L257=>?_
  ·skip
   rintro ρ w259 ⟨xU,a252,c253,a254,G255,G256,rfl,N,H⟩
   refine ji [11,13] qh qm (Qg rfl ?_ (Qg rfl ?_ jk))
   ·skip
    refine jB [.slice qV t.qA.length qR,.slice a254 ((bags.take s.qw.length).length) c8,.slice a252 ((bags[s.qw.length]!).length) c253] [(0,.slice qV t.qA.length qR),(1,.slice a254 ((bags.take s.qw.length).length) c8),(2,.slice a252 ((bags[s.qw.length]!).length) c253)] (⟨H.pick [0,2,3,4] [2,3,4,5,6,7,8],(ji [12,13] qh qm (Qg rfl ?_ (Qg rfl ?_ jk)))⟩)
    ·skip
     obtain ⟨cp0,cp1,cp2,cp3⟩:=copy_pre (al:=t.qA) E_bags p8 p9.2 p12
     have sz263:=H.base.size
     refine oc (Yc _ (⟨t.qA,(bags.take s.qw.length),bags[s.qw.length]!⟩:qJ) (H.get 5 rfl).1 (H.get 0 rfl).1 (H.get 1 rfl).1 qg qg qg qg) ?_
     rintro _ w261 ⟨ra260Alive,rn260Alive,rc260Alive,ra260Bags,rn260Bags,rc260Bags,rx260Bags,rF260Bags,ra260Around,rn260Around,rc260Around,rfl,M,K⟩ _
     replace N:=N.merge sz263 qm M
     replace H:=H.merge K M
     obtain rfl:=H.rowNB 0 rfl
     obtain rfl:=H.zh (α:=yLI) 1 rfl 0 rfl qj
     obtain rfl:=H.Vq 2 rfl
     refine ⟨H.pick [3,5,6,7] [3,4,5,6,7,8,9],(ro 13 rfl (zf H ti38 [yN,yN,yN] fun b268 w269 H=>⟨H.pick [4,6,7,8] [3,4,5,6,7,8,9],(ro 14 rfl (zB H 0 [.slice ra260Alive (((⟨t.qA,(bags.take s.qw.length),bags[s.qw.length]!⟩:qJ).qA).length) rc260Alive,.slice ra260Bags (((⟨t.qA,(bags.take s.qw.length),bags[s.qw.length]!⟩:qJ).qE).length) rc260Bags,.slice ra260Around (((⟨t.qA,(bags.take s.qw.length),bags[s.qw.length]!⟩:qJ).qC).length) rc260Around] sizeOf38 fun w270 H=>⟨H.pick [4,6,7,8] [3,4,5,6,7,8,9],?_⟩))⟩))⟩
     refine xO qh ((meet ⟨_,b268,ra260Alive,rc260Alive,ra260Bags,rc260Bags,ra260Around,rc260Around,rx260Bags,rF260Bags,uE4,N,H.pick [0,1,2,3,4,5,6,7,8] [0,4,5,6,7,8]⟩))
    refine zf H ti38 [yN,yN,yN] fun b271 w272 H=>⟨H.pick [1,3,4,5] [2,3,4,5,6,7,8],(ro 12 rfl ?_)⟩
    obtain ⟨cp0,cp1,cp2,cp3⟩:=copy_pre (al:=t.qA) E_bags p8 p9.2 p12
    have sz276:=H.base.size
    refine oc (Yc _ (⟨t.qA,(bags.take s.qw.length),bags[s.qw.length]!⟩:qJ) (H.get 5 rfl).1 (H.get 0 rfl).1 (H.get 1 rfl).1 qg qg qg qg) ?_
    rintro _ w274 ⟨ra273Alive,rn273Alive,rc273Alive,ra273Bags,rn273Bags,rc273Bags,rx273Bags,rF273Bags,ra273Around,rn273Around,rc273Around,rfl,M,K⟩ _
    replace N:=N.merge sz276 qm M
    replace H:=H.merge K M
    obtain rfl:=H.rowNB 0 rfl
    obtain rfl:=H.zh (α:=yLI) 1 rfl 0 rfl qj
    obtain rfl:=H.Vq 2 rfl
    refine ⟨H.pick [4,6,7,8] [3,4,5,6,7,8,9],(ro 14 rfl (zB H 3 [.slice ra273Alive (((⟨t.qA,(bags.take s.qw.length),bags[s.qw.length]!⟩:qJ).qA).length) rc273Alive,.slice ra273Bags (((⟨t.qA,(bags.take s.qw.length),bags[s.qw.length]!⟩:qJ).qE).length) rc273Bags,.slice ra273Around (((⟨t.qA,(bags.take s.qw.length),bags[s.qw.length]!⟩:qJ).qC).length) rc273Around] sizeOf38 fun w281 H=>⟨H.pick [4,6,7,8] [3,4,5,6,7,8,9],(xO qh (?_))⟩))⟩
    exact meet ⟨_,b271,ra273Alive,rc273Alive,ra273Bags,rc273Bags,ra273Around,rc273Around,rx273Bags,rF273Bags,uE4,N,H.pick [3,0,1,2,4,5,6,7,8] [0,4,5,6,7,8]⟩
   refine zf H ti38 [yN,yN,yN] fun b282 w283 H=>⟨H.pick [1,3,4,5] [2,3,4,5,6,7,8],(ro 11 rfl (jB [.slice qV t.qA.length qR,.slice a254 ((bags.take s.qw.length).length) c8,.slice a252 ((bags[s.qw.length]!).length) c253] [(0,.slice qV t.qA.length qR),(1,.slice a254 ((bags.take s.qw.length).length) c8),(2,.slice a252 ((bags[s.qw.length]!).length) c253)] (⟨H.pick [1,3,4,5] [2,3,4,5,6,7,8],(ro 12 rfl ?_)⟩)))⟩
   obtain ⟨cp0,cp1,cp2,cp3⟩:=copy_pre (al:=t.qA) E_bags p8 p9.2 p12
   have sz287:=H.base.size
   refine oc (Yc _ (⟨t.qA,(bags.take s.qw.length),bags[s.qw.length]!⟩:qJ) (H.get 5 rfl).1 (H.get 0 rfl).1 (H.get 1 rfl).1 qg qg qg qg) ?_
   rintro _ w285 ⟨ra284Alive,rn284Alive,rc284Alive,ra284Bags,rn284Bags,rc284Bags,rx284Bags,rF284Bags,ra284Around,rn284Around,rc284Around,rfl,M,K⟩ _
   replace N:=N.merge sz287 qm M
   replace H:=H.merge K M
   obtain rfl:=H.rowNB 0 rfl
   obtain rfl:=H.zh (α:=yLI) 1 rfl 0 rfl qj
   obtain rfl:=H.Vq 2 rfl
   refine ⟨H.pick [4,6,7,8] [3,4,5,6,7,8,9],(ro 14 rfl (zB H 3 [.slice ra284Alive (((⟨t.qA,(bags.take s.qw.length),bags[s.qw.length]!⟩:qJ).qA).length) rc284Alive,.slice ra284Bags (((⟨t.qA,(bags.take s.qw.length),bags[s.qw.length]!⟩:qJ).qE).length) rc284Bags,.slice ra284Around (((⟨t.qA,(bags.take s.qw.length),bags[s.qw.length]!⟩:qJ).qC).length) rc284Around] sizeOf38 fun w292 H=>⟨H.pick [4,6,7,8] [3,4,5,6,7,8,9],(xO qh (?_))⟩))⟩
   exact meet ⟨_,b282,ra284Alive,rc284Alive,ra284Bags,rc284Bags,ra284Around,rc284Around,rx284Bags,rF284Bags,uE4,N,H.pick [3,0,1,2,4,5,6,7,8] [0,4,5,6,7,8]⟩
  refine r_have (fun ρ w297=>∃ (xU:Env) (a293:yOA) (G294:yLN) (G295:yLN),ρ=upd (upd (upd (upd (upd (upd xU 3 (pp b1 0)) 6 (pp b5 0)) 9 (.slice (aa b36 0) s.qw.length s.qw.length)) 77 (.slice qV t.qA.length qR)) 81 (.slice a293 ((bags.take s.qw.length).length) c8)) 85 (pp b240 (0+(s.qw.length:Int).toNat * 1))∧Fresh w.heap.size []∧St w w297 [rr (aa b36 0) s.qw.length s.qw.length 4 1 ((yE s counts s.qw.length i).map (Value.bool)),rr none 0 0 0 1 [],.box b5 [yN,yN,yN] 38,.box b3 (yT t qV qR xn xk qN qM) 38,.box b1 (yS s qB qy qL qI) 36] [sF false G294 a293 c8 (bags.take s.qw.length),isF false G295 (.slice (aa b240 0) (t.qE.length+1) c8) bags,zi false F_bags x_bags bags,sF false qZ qB qy s.qw,sF false xE qL qI s.qx,sF false xR qV qR t.qA,sF false zy xn xk t.qE,sF false xH qN qM t.qC,sF false Fcounts acounts ccounts counts]) 5 #[true,true,true,true,true,true,true,true,true,true,false,false,false,false,false] ?_ fun L296=>?_
  ·skip
   rintro ρ w298 ⟨xU,a293,G294,G295,rfl,N,H⟩
   refine ji [10,13] qh qm (Qg rfl ?_ (Qg rfl ?_ jk))
   ·skip
    have hl299:=H.isLen 1 rfl
    obtain ⟨ae300,ce300,Fe300,H⟩:=H.vM 1 rfl s.qw.length s.qw.length qf qf qf
    refine zN (.slice ae300 ((bags[s.qw.length]!).length) ce300) isAgg22 rfl (H.xW 1 rfl 0 rfl) (⟨H.pick [0,2,3,4] [4,5,6,7,8,9,10],(X0 L257 ⟨_,ae300,ce300,a293,G294,Fe300,uE6,N,H.pick [0,1,2,3,4] [2,0,4,5,6,7,8,9,10]⟩)⟩)
   refine zf H ti38 [yN,yN,yN] fun b301 w302 H=>⟨H.pick [1,3,4,5] [2,3,4,5,6,7,8],(ro 10 rfl ?_)⟩
   have hl303:=H.isLen 1 rfl
   obtain ⟨ae304,ce304,Fe304,H⟩:=H.vM 1 rfl s.qw.length s.qw.length qf qf qf
   refine zN (.slice ae304 ((bags[s.qw.length]!).length) ce304) isAgg22 rfl (H.xW 1 rfl 0 rfl) (⟨H.pick [1,3,4,5] [4,5,6,7,8,9,10],(ro 11 rfl (jB [.slice qV t.qA.length qR,.slice a293 ((bags.take s.qw.length).length) c8,.slice ae304 ((bags[s.qw.length]!).length) ce304] [(0,.slice qV t.qA.length qR),(1,.slice a293 ((bags.take s.qw.length).length) c8),(2,.slice ae304 ((bags[s.qw.length]!).length) ce304)] (⟨H.pick [1,3,4,5] [4,5,6,7,8,9,10],(ro 12 rfl ?_)⟩)))⟩)
   obtain ⟨cp0,cp1,cp2,cp3⟩:=copy_pre (al:=t.qA) E_bags p8 p9.2 p12
   have sz308:=H.base.size
   refine oc (Yc _ (⟨t.qA,(bags.take s.qw.length),bags[s.qw.length]!⟩:qJ) (H.get 7 rfl).1 (H.get 2 rfl).1 (H.get 0 rfl).1 qg qg qg qg) ?_
   rintro _ w306 ⟨ra305Alive,rn305Alive,rc305Alive,ra305Bags,rn305Bags,rc305Bags,rx305Bags,rF305Bags,ra305Around,rn305Around,rc305Around,rfl,M,K⟩ _
   replace N:=N.merge sz308 qm M
   replace H:=H.merge K M
   obtain rfl:=H.rowNB 0 rfl
   obtain rfl:=H.zh (α:=yLI) 1 rfl 0 rfl qj
   obtain rfl:=H.Vq 2 rfl
   refine ⟨H.pick [4,6,7,8] [5,6,7,8,9,10,11],(ro 14 rfl (zB H 3 [.slice ra305Alive (((⟨t.qA,(bags.take s.qw.length),bags[s.qw.length]!⟩:qJ).qA).length) rc305Alive,.slice ra305Bags (((⟨t.qA,(bags.take s.qw.length),bags[s.qw.length]!⟩:qJ).qE).length) rc305Bags,.slice ra305Around (((⟨t.qA,(bags.take s.qw.length),bags[s.qw.length]!⟩:qJ).qC).length) rc305Around] sizeOf38 fun w313 H=>⟨H.pick [4,6,7,8] [5,6,7,8,9,10,11],(xO qh (?_))⟩))⟩
   exact meet ⟨_,b301,ra305Alive,rc305Alive,ra305Bags,rc305Bags,ra305Around,rc305Around,rx305Bags,rF305Bags,uE4,N,H.pick [3,0,1,2,4,5,6,7,8] [0,6,7,8,9,10]⟩
  refine r_have (fun ρ w316=>∃ (xU:Env) (b314:Nat),ρ=upd (upd (upd (upd (upd (upd (upd (upd xU 3 (pp b1 0)) 6 (pp b5 0)) 9 (.slice (aa b36 0) s.qw.length s.qw.length)) 13 (pp b314 0)) 77 (.slice qV t.qA.length qR)) 78 (.slice (aa b240 0) (t.qE.length+1) c8)) 80 (yI s.qw.length)) 85 (pp b240 (0+(s.qw.length:Int).toNat * 1))∧Fresh w.heap.size []∧St w w316 [.box b314 [yN,yN,yN] 38,rr (aa b36 0) s.qw.length s.qw.length 4 1 ((yE s counts s.qw.length i).map (Value.bool)),rr (aa b240 0) (t.qE.length+1) c8 22 1 x_bags,.box b5 [yN,yN,yN] 38,.box b3 (yT t qV qR xn xk qN qM) 38,.box b1 (yS s qB qy qL qI) 36] [zi false F_bags x_bags bags,sF false qZ qB qy s.qw,sF false xE qL qI s.qx,sF false xR qV qR t.qA,sF false zy xn xk t.qE,sF false xH qN qM t.qC,sF false Fcounts acounts ccounts counts]) 5 #[true,true,true,true,true,false,true,true,true,true,false,false,false,true,false] ?_ fun L315=>?_
  ·skip
   rintro ρ w317 ⟨xU,b314,rfl,N,H⟩
   refine ji [5,10] qh qm (Qg rfl ?_ (Qg rfl ?_ jk))
   ·skip
    obtain ⟨G318,hg320,hn319,H⟩:=H.Qs (α:=yLI) 2 rfl 0 rfl qj
    have hl325:=H.isLen 0 rfl
    refine o_head H 0 rfl s.qw.length underlying27 ti22 rfl rfl qf qf fun a321 G322 hG323 H=>?_
    have hl324:(bags.take s.qw.length).length=s.qw.length:=List.length_take_of_le qf
    refine ⟨H.pick [1,3,4,5] [2,3,4,5,6,7,8],(ro 10 rfl ?_)⟩
    have hl326:=H.isLen 1 rfl
    obtain ⟨ae327,ce327,Fe327,H⟩:=H.vM 1 rfl s.qw.length s.qw.length qf qf qf
    refine zN (.slice ae327 ((bags[s.qw.length]!).length) ce327) isAgg22 rfl (H.xW 1 rfl 0 rfl) (⟨H.pick [1,3,4,5] [4,5,6,7,8,9,10],(ro 11 rfl (jB [.slice qV t.qA.length qR,.slice a321 ((bags.take s.qw.length).length) c8,.slice ae327 ((bags[s.qw.length]!).length) ce327] [(0,.slice qV t.qA.length qR),(1,.slice a321 ((bags.take s.qw.length).length) c8),(2,.slice ae327 ((bags[s.qw.length]!).length) ce327)] (⟨H.pick [1,3,4,5] [4,5,6,7,8,9,10],(ro 12 rfl ?_)⟩)))⟩)
    obtain ⟨cp0,cp1,cp2,cp3⟩:=copy_pre (al:=t.qA) E_bags p8 p9.2 p12
    have sz331:=H.base.size
    refine oc (Yc _ (⟨t.qA,(bags.take s.qw.length),bags[s.qw.length]!⟩:qJ) (H.get 7 rfl).1 (H.get 2 rfl).1 (H.get 0 rfl).1 qg qg qg qg) ?_
    rintro _ w329 ⟨ra328Alive,rn328Alive,rc328Alive,ra328Bags,rn328Bags,rc328Bags,rx328Bags,rF328Bags,ra328Around,rn328Around,rc328Around,rfl,M,K⟩ _
    replace N:=N.merge sz331 qm M
    replace H:=H.merge K M
    obtain rfl:=H.rowNB 0 rfl
    obtain rfl:=H.zh (α:=yLI) 1 rfl 0 rfl qj
    obtain rfl:=H.Vq 2 rfl
    refine ⟨H.pick [4,6,7,8] [5,6,7,8,9,10,11],(ro 14 rfl (zB H 3 [.slice ra328Alive (((⟨t.qA,(bags.take s.qw.length),bags[s.qw.length]!⟩:qJ).qA).length) rc328Alive,.slice ra328Bags (((⟨t.qA,(bags.take s.qw.length),bags[s.qw.length]!⟩:qJ).qE).length) rc328Bags,.slice ra328Around (((⟨t.qA,(bags.take s.qw.length),bags[s.qw.length]!⟩:qJ).qC).length) rc328Around] sizeOf38 fun w336 H=>⟨H.pick [4,6,7,8] [5,6,7,8,9,10,11],(xO qh (?_))⟩))⟩
    exact meet ⟨_,b314,ra328Alive,rc328Alive,ra328Bags,rc328Bags,ra328Around,rc328Around,rx328Bags,rF328Bags,uE4,N,H.pick [3,0,1,2,4,5,6,7,8] [0,6,7,8,9,10]⟩
   obtain ⟨a337,c338,G339,s340,h341,H⟩:=H.jV 2 rfl 0 rfl (iv:=s.qw.length) s.qw.length qf qf
   refine zN (.slice a337 ((bags[s.qw.length]!).length) c338) isAgg22 rfl (h341) (⟨H.pick [1,3,4,5] [1,2,3,4,5,6,7],(ro 5 rfl ?_)⟩)
   obtain ⟨G342,hg344,hn343,H⟩:=H.Qs (α:=yLI) 2 rfl 1 rfl qj
   have hl349:=H.isLen 0 rfl
   refine o_head H 0 rfl s.qw.length underlying27 ti22 rfl rfl qf qf fun a345 G346 hG347 H=>?_
   have hl348:(bags.take s.qw.length).length=s.qw.length:=List.length_take_of_le qf
   refine ⟨H.pick [1,3,4,5] [3,4,5,6,7,8,9],(ro 11 rfl (jB [.slice qV t.qA.length qR,.slice a345 ((bags.take s.qw.length).length) c8,.slice a337 ((bags[s.qw.length]!).length) c338] [(0,.slice qV t.qA.length qR),(1,.slice a345 ((bags.take s.qw.length).length) c8),(2,.slice a337 ((bags[s.qw.length]!).length) c338)] (⟨H.pick [1,3,4,5] [3,4,5,6,7,8,9],(ro 12 rfl ?_)⟩)))⟩
   obtain ⟨cp0,cp1,cp2,cp3⟩:=copy_pre (al:=t.qA) E_bags p8 p9.2 p12
   have sz353:=H.base.size
   refine oc (Yc _ (⟨t.qA,(bags.take s.qw.length),bags[s.qw.length]!⟩:qJ) (H.get 6 rfl).1 (H.get 0 rfl).1 (H.get 2 rfl).1 qg qg qg qg) ?_
   rintro _ w351 ⟨ra350Alive,rn350Alive,rc350Alive,ra350Bags,rn350Bags,rc350Bags,rx350Bags,rF350Bags,ra350Around,rn350Around,rc350Around,rfl,M,K⟩ _
   replace N:=N.merge sz353 qm M
   replace H:=H.merge K M
   obtain rfl:=H.rowNB 0 rfl
   obtain rfl:=H.zh (α:=yLI) 1 rfl 0 rfl qj
   obtain rfl:=H.Vq 2 rfl
   refine ⟨H.pick [4,6,7,8] [4,5,6,7,8,9,10],(ro 14 rfl (zB H 3 [.slice ra350Alive (((⟨t.qA,(bags.take s.qw.length),bags[s.qw.length]!⟩:qJ).qA).length) rc350Alive,.slice ra350Bags (((⟨t.qA,(bags.take s.qw.length),bags[s.qw.length]!⟩:qJ).qE).length) rc350Bags,.slice ra350Around (((⟨t.qA,(bags.take s.qw.length),bags[s.qw.length]!⟩:qJ).qC).length) rc350Around] sizeOf38 fun w358 H=>⟨H.pick [4,6,7,8] [4,5,6,7,8,9,10],(xO qh (?_))⟩))⟩
   exact meet ⟨_,b314,ra350Alive,rc350Alive,ra350Bags,rc350Bags,ra350Around,rc350Around,rx350Bags,rF350Bags,uE4,N,H.pick [3,0,1,2,4,5,6,7,8] [0,5,6,7,8,9]⟩
  refine r_have (fun ρ w361=>∃ (xU:Env) (b359:Nat),ρ=upd (upd (upd (upd (upd (upd (upd (upd (upd xU 3 (pp b1 0)) 6 (pp b5 0)) 9 (.slice (aa b36 0) s.qw.length s.qw.length)) 13 (pp b359 0)) 77 (.slice qV t.qA.length qR)) 78 (.slice (aa b240 0) (t.qE.length+1) c8)) 80 (yI s.qw.length)) 82 (.slice (aa b240 0) (t.qE.length+1) c8)) 83 (.agg #[yI s.xC,.slice qB s.qw.length qy,.slice qL s.qx.length qI])∧Fresh w.heap.size []∧St w w361 [.box b359 [yN,yN,yN] 38,rr (aa b36 0) s.qw.length s.qw.length 4 1 ((yE s counts s.qw.length i).map (Value.bool)),rr (aa b240 0) (t.qE.length+1) c8 22 1 x_bags,.box b5 [yN,yN,yN] 38,.box b3 (yT t qV qR xn xk qN qM) 38,.box b1 (yS s qB qy qL qI) 36] [zi false F_bags x_bags bags,sF false qZ qB qy s.qw,sF false xE qL qI s.qx,sF false xR qV qR t.qA,sF false zy xn xk t.qE,sF false xH qN qM t.qC,sF false Fcounts acounts ccounts counts]) 7 #[true,true,true,true,true,false,true,true,false,false,false,false,false,true,false] ?_ fun L360=>?_
  ·skip
   rintro ρ w362 ⟨xU,b359,rfl,N,H⟩
   refine ji [5,8] qh qm (Qg rfl ?_ (Qg rfl ?_ jk))
   ·skip
    obtain ⟨G363,hg365,hn364,H⟩:=H.Qs (α:=yLI) 2 rfl 0 rfl qj
    have hl370:=H.isLen 0 rfl
    refine o_head H 0 rfl s.qw.length underlying27 ti22 rfl rfl qf qf fun a366 G367 hG368 H=>?_
    have hl369:(bags.take s.qw.length).length=s.qw.length:=List.length_take_of_le qf
    refine ⟨H.pick [1,3,4,5] [2,3,4,5,6,7,8],(ro 8 rfl (oq (around_ok _ s (H.get 3 rfl).1 (H.get 4 rfl).1) H fun w372 H=>⟨H.pick [1,3,4,5] [2,3,4,5,6,7,8],?_⟩))⟩
    obtain ⟨ae374,ce374,Fe374,H⟩:=H.vM 1 rfl s.qw.length s.qw.length qf qf qf
    refine tI 9 rfl rfl rfl (H.pick [1,3,4,5] [4,5,6,7,8,9,10]) ?_
    refine ro 10 rfl (zN (.slice ae374 ((bags[s.qw.length]!).length) ce374) isAgg22 rfl (H.xW 1 rfl 0 rfl) (⟨H.pick [1,3,4,5] [4,5,6,7,8,9,10],(ro 11 rfl (jB [.slice qV t.qA.length qR,.slice a366 ((bags.take s.qw.length).length) c8,.slice ae374 ((bags[s.qw.length]!).length) ce374] [(0,.slice qV t.qA.length qR),(1,.slice a366 ((bags.take s.qw.length).length) c8),(2,.slice ae374 ((bags[s.qw.length]!).length) ce374)] (⟨H.pick [1,3,4,5] [4,5,6,7,8,9,10],(ro 12 rfl ?_)⟩)))⟩))
    obtain ⟨cp0,cp1,cp2,cp3⟩:=copy_pre (al:=t.qA) E_bags p8 p9.2 p12
    have sz378:=H.base.size
    refine oc (Yc _ (⟨t.qA,(bags.take s.qw.length),bags[s.qw.length]!⟩:qJ) (H.get 7 rfl).1 (H.get 2 rfl).1 (H.get 0 rfl).1 qg qg qg qg) ?_
    rintro _ w376 ⟨ra375Alive,rn375Alive,rc375Alive,ra375Bags,rn375Bags,rc375Bags,rx375Bags,rF375Bags,ra375Around,rn375Around,rc375Around,rfl,M,K⟩ _
    replace N:=N.merge sz378 qm M
    replace H:=H.merge K M
    obtain rfl:=H.rowNB 0 rfl
    obtain rfl:=H.zh (α:=yLI) 1 rfl 0 rfl qj
    obtain rfl:=H.Vq 2 rfl
    refine ⟨H.pick [4,6,7,8] [5,6,7,8,9,10,11],(ro 14 rfl (zB H 3 [.slice ra375Alive (((⟨t.qA,(bags.take s.qw.length),bags[s.qw.length]!⟩:qJ).qA).length) rc375Alive,.slice ra375Bags (((⟨t.qA,(bags.take s.qw.length),bags[s.qw.length]!⟩:qJ).qE).length) rc375Bags,.slice ra375Around (((⟨t.qA,(bags.take s.qw.length),bags[s.qw.length]!⟩:qJ).qC).length) rc375Around] sizeOf38 fun w383 H=>⟨H.pick [4,6,7,8] [5,6,7,8,9,10,11],(xO qh (?_))⟩))⟩
    exact meet ⟨_,b359,ra375Alive,rc375Alive,ra375Bags,rc375Bags,ra375Around,rc375Around,rx375Bags,rF375Bags,uE4,N,H.pick [3,0,1,2,4,5,6,7,8] [0,6,7,8,9,10]⟩
   refine oq (around_ok _ s (H.get 1 rfl).1 (H.get 2 rfl).1) H fun w385 H=>⟨H.pick [1,3,4,5] [0,1,2,3,4,5,6],(tI 9 rfl rfl rfl (H.pick [1,3,4,5] [0,1,2,3,4,5,6]) ?_)⟩
   exact X0 L315 ⟨_,b359,uE8,N,H⟩
  have S:=H.yl [0,2,3,4] [0,1,2,3,4,5,6]
  refine tF 0 rfl rfl S ?_
  refine tL 1 rfl rfl (fun _ h=>h.cell 2 rfl rfl) S ?_
  refine rtp 2 (.slice (aa b240 0) (t.qE.length+1) c8) S ?_
  refine rt 3 (.agg #[yI s.xC,.slice qB s.qw.length qy,.slice qL s.qx.length qI]) (Qe (cs:=(yS s qB qy qL qI)) isAgg36 sizeOf36 rfl (fun _ h=>qF (h.cells 3 rfl) 0 3)) S ?_
  refine rtp 6 (.slice (aa b240 0) (t.qE.length+1) c8) S ?_
  refine rt 7 (.agg #[yI s.xC,.slice qB s.qw.length qy,.slice qL s.qx.length qI]) (Qe (cs:=(yS s qB qy qL qI)) isAgg36 sizeOf36 rfl (fun _ h=>qF (h.cells 3 rfl) 0 3)) S ?_
  refine ji [4,13] qh qm (Qg rfl ?_ (Qg rfl ?_ jk))
  ·skip
   refine oq (around_ok _ s (H.get 1 rfl).1 (H.get 2 rfl).1) H fun w388 H=>⟨H.pick [0,2,3,4] [0,1,2,3,4,5,6],(ji [5,8,13] qh qm (Qg rfl ?_ (Qg rfl ?_ (Qg rfl ?_ jk))))⟩
   ·skip
    obtain ⟨G390,hg392,hn391,H⟩:=H.Qs (α:=yLI) 1 rfl 0 rfl qj
    have hl397:=H.isLen 0 rfl
    refine o_head H 0 rfl s.qw.length underlying27 ti22 rfl rfl qf qf fun a393 G394 hG395 H=>?_
    have hl396:(bags.take s.qw.length).length=s.qw.length:=List.length_take_of_le qf
    refine ⟨H.pick [0,2,3,4] [2,3,4,5,6,7,8],(ji [8,13] qh qm (Qg rfl ?_ (Qg rfl ?_ jk)))⟩
    ·skip
     refine oq (around_ok _ s (H.get 3 rfl).1 (H.get 4 rfl).1) H fun w399 H=>⟨H.pick [0,2,3,4] [2,3,4,5,6,7,8],?_⟩
     obtain ⟨ae401,ce401,Fe401,H⟩:=H.vM 1 rfl s.qw.length s.qw.length qf qf qf
     refine tI 9 rfl rfl rfl (H.pick [0,2,3,4] [4,5,6,7,8,9,10]) ?_
     exact X0 L296 ⟨_,a393,G394,G390,uE6,N,H.pick [0,1,2,3,4] [2,3,4,5,6,7,8,9,10]⟩
    refine zf H ti38 [yN,yN,yN] fun b402 w403 H=>⟨H.pick [1,3,4,5] [2,3,4,5,6,7,8],(ro 8 rfl (oq (around_ok _ s (H.get 3 rfl).1 (H.get 4 rfl).1) H fun w405 H=>⟨H.pick [1,3,4,5] [2,3,4,5,6,7,8],?_⟩))⟩
    obtain ⟨ae407,ce407,Fe407,H⟩:=H.vM 1 rfl s.qw.length s.qw.length qf qf qf
    refine tI 9 rfl rfl rfl (H.pick [1,3,4,5] [4,5,6,7,8,9,10]) ?_
    refine ro 10 rfl (zN (.slice ae407 ((bags[s.qw.length]!).length) ce407) isAgg22 rfl (H.xW 1 rfl 0 rfl) (⟨H.pick [1,3,4,5] [4,5,6,7,8,9,10],(ro 11 rfl (jB [.slice qV t.qA.length qR,.slice a393 ((bags.take s.qw.length).length) c8,.slice ae407 ((bags[s.qw.length]!).length) ce407] [(0,.slice qV t.qA.length qR),(1,.slice a393 ((bags.take s.qw.length).length) c8),(2,.slice ae407 ((bags[s.qw.length]!).length) ce407)] (⟨H.pick [1,3,4,5] [4,5,6,7,8,9,10],(ro 12 rfl ?_)⟩)))⟩))
    obtain ⟨cp0,cp1,cp2,cp3⟩:=copy_pre (al:=t.qA) E_bags p8 p9.2 p12
    have sz411:=H.base.size
    refine oc (Yc _ (⟨t.qA,(bags.take s.qw.length),bags[s.qw.length]!⟩:qJ) (H.get 7 rfl).1 (H.get 2 rfl).1 (H.get 0 rfl).1 qg qg qg qg) ?_
    rintro _ w409 ⟨ra408Alive,rn408Alive,rc408Alive,ra408Bags,rn408Bags,rc408Bags,rx408Bags,rF408Bags,ra408Around,rn408Around,rc408Around,rfl,M,K⟩ _
    replace N:=N.merge sz411 qm M
    replace H:=H.merge K M
    obtain rfl:=H.rowNB 0 rfl
    obtain rfl:=H.zh (α:=yLI) 1 rfl 0 rfl qj
    obtain rfl:=H.Vq 2 rfl
    refine ⟨H.pick [4,6,7,8] [5,6,7,8,9,10,11],(ro 14 rfl (zB H 3 [.slice ra408Alive (((⟨t.qA,(bags.take s.qw.length),bags[s.qw.length]!⟩:qJ).qA).length) rc408Alive,.slice ra408Bags (((⟨t.qA,(bags.take s.qw.length),bags[s.qw.length]!⟩:qJ).qE).length) rc408Bags,.slice ra408Around (((⟨t.qA,(bags.take s.qw.length),bags[s.qw.length]!⟩:qJ).qC).length) rc408Around] sizeOf38 fun w416 H=>⟨H.pick [4,6,7,8] [5,6,7,8,9,10,11],(xO qh (?_))⟩))⟩
    exact meet ⟨_,b402,ra408Alive,rc408Alive,ra408Bags,rc408Bags,ra408Around,rc408Around,rx408Bags,rF408Bags,uE4,N,H.pick [3,0,1,2,4,5,6,7,8] [0,6,7,8,9,10]⟩
   ·skip
    refine oq (around_ok _ s (H.get 1 rfl).1 (H.get 2 rfl).1) H fun w418 H=>⟨H.pick [0,2,3,4] [0,1,2,3,4,5,6],(tI 9 rfl rfl rfl (H.pick [0,2,3,4] [0,1,2,3,4,5,6]) ?_)⟩
    refine ji [5,10,13] qh qm (Qg rfl ?_ (Qg rfl ?_ (Qg rfl ?_ jk)))
    ·skip
     obtain ⟨G420,hg422,hn421,H⟩:=H.Qs (α:=yLI) 1 rfl 0 rfl qj
     have hl427:=H.isLen 0 rfl
     refine o_head H 0 rfl s.qw.length underlying27 ti22 rfl rfl qf qf fun a423 G424 hG425 H=>?_
     have hl426:(bags.take s.qw.length).length=s.qw.length:=List.length_take_of_le qf
     refine ⟨H.pick [0,2,3,4] [2,3,4,5,6,7,8],(X0 L296 ⟨_,a423,G424,G420,uE6,N,H⟩)⟩
    ·skip
     obtain ⟨a428,c429,G430,s431,h432,H⟩:=H.jV 1 rfl 0 rfl (iv:=s.qw.length) s.qw.length qf qf
     refine zN (.slice a428 ((bags[s.qw.length]!).length) c429) isAgg22 rfl (h432) (⟨H.pick [0,2,3,4] [1,2,3,4,5,6,7],(ji [5,13] qh qm (Qg rfl ?_ (Qg rfl ?_ jk)))⟩)
     ·skip
      obtain ⟨G433,hg435,hn434,H⟩:=H.Qs (α:=yLI) 1 rfl 1 rfl qj
      have hl440:=H.isLen 0 rfl
      refine o_head H 0 rfl s.qw.length underlying27 ti22 rfl rfl qf qf fun a436 G437 hG438 H=>?_
      have hl439:(bags.take s.qw.length).length=s.qw.length:=List.length_take_of_le qf
      refine ⟨H.pick [0,2,3,4] [3,4,5,6,7,8,9],(X0 L257 ⟨_,a428,c429,a436,G437,G430,uE6,N,H.pick [0,1,2,3,4] [0,2,3,4,5,6,7,8,9]⟩)⟩
     refine zf H ti38 [yN,yN,yN] fun b441 w442 H=>⟨H.pick [1,3,4,5] [1,2,3,4,5,6,7],(ro 5 rfl ?_)⟩
     obtain ⟨G443,hg445,hn444,H⟩:=H.Qs (α:=yLI) 2 rfl 1 rfl qj
     have hl450:=H.isLen 0 rfl
     refine o_head H 0 rfl s.qw.length underlying27 ti22 rfl rfl qf qf fun a446 G447 hG448 H=>?_
     have hl449:(bags.take s.qw.length).length=s.qw.length:=List.length_take_of_le qf
     refine ⟨H.pick [1,3,4,5] [3,4,5,6,7,8,9],(ro 11 rfl (jB [.slice qV t.qA.length qR,.slice a446 ((bags.take s.qw.length).length) c8,.slice a428 ((bags[s.qw.length]!).length) c429] [(0,.slice qV t.qA.length qR),(1,.slice a446 ((bags.take s.qw.length).length) c8),(2,.slice a428 ((bags[s.qw.length]!).length) c429)] (⟨H.pick [1,3,4,5] [3,4,5,6,7,8,9],(ro 12 rfl ?_)⟩)))⟩
     obtain ⟨cp0,cp1,cp2,cp3⟩:=copy_pre (al:=t.qA) E_bags p8 p9.2 p12
     have sz454:=H.base.size
     refine oc (Yc _ (⟨t.qA,(bags.take s.qw.length),bags[s.qw.length]!⟩:qJ) (H.get 6 rfl).1 (H.get 0 rfl).1 (H.get 2 rfl).1 qg qg qg qg) ?_
     rintro _ w452 ⟨ra451Alive,rn451Alive,rc451Alive,ra451Bags,rn451Bags,rc451Bags,rx451Bags,rF451Bags,ra451Around,rn451Around,rc451Around,rfl,M,K⟩ _
     replace N:=N.merge sz454 qm M
     replace H:=H.merge K M
     obtain rfl:=H.rowNB 0 rfl
     obtain rfl:=H.zh (α:=yLI) 1 rfl 0 rfl qj
     obtain rfl:=H.Vq 2 rfl
     refine ⟨H.pick [4,6,7,8] [4,5,6,7,8,9,10],(ro 14 rfl (zB H 3 [.slice ra451Alive (((⟨t.qA,(bags.take s.qw.length),bags[s.qw.length]!⟩:qJ).qA).length) rc451Alive,.slice ra451Bags (((⟨t.qA,(bags.take s.qw.length),bags[s.qw.length]!⟩:qJ).qE).length) rc451Bags,.slice ra451Around (((⟨t.qA,(bags.take s.qw.length),bags[s.qw.length]!⟩:qJ).qC).length) rc451Around] sizeOf38 fun w459 H=>⟨H.pick [4,6,7,8] [4,5,6,7,8,9,10],(xO qh (?_))⟩))⟩
     exact meet ⟨_,b441,ra451Alive,rc451Alive,ra451Bags,rc451Bags,ra451Around,rc451Around,rx451Bags,rF451Bags,uE4,N,H.pick [3,0,1,2,4,5,6,7,8] [0,5,6,7,8,9]⟩
    refine zf H ti38 [yN,yN,yN] fun b460 w461 H=>⟨H.pick [1,3,4,5] [0,1,2,3,4,5,6],(X0 L315 ⟨_,b460,uE8,N,H⟩)⟩
   refine zf H ti38 [yN,yN,yN] fun b462 w463 H=>⟨H.pick [1,3,4,5] [0,1,2,3,4,5,6],(X0 L360 ⟨_,b462,uE9,N,H⟩)⟩
  refine zf H ti38 [yN,yN,yN] fun b464 w465 H=>⟨H.pick [1,3,4,5] [0,1,2,3,4,5,6],(ro 4 rfl (oq (around_ok _ s (H.get 1 rfl).1 (H.get 2 rfl).1) H fun w467 H=>⟨H.pick [1,3,4,5] [0,1,2,3,4,5,6],(X0 L360 ⟨_,b464,uE9,N,H⟩)⟩))⟩
 clear H N
 rintro ρ w469 ⟨xU,b241,ra242,rc243,ra244,rc245,ra246,rc247,rx248,rF249,rfl,N,H⟩
 refine t_n (zcc (sp (.slice (aa b36 0) s.qw.length s.qw.length) (oN rfl (sw (o_sub s.qw.length 1 rfl rfl qf (sp (yI (s.qw.length - 1)) (zjn (qX ?_))))))))
 obtain rfl:i=s.qx.length:=by omega
 have hl:=stepped_live p1 E_bags qf
 obtain ⟨s1,s2⟩:=step_tab E_bags
 rw [show (⟨t.qA,(bags.take s.qw.length),bags[s.qw.length]!⟩:qJ)=xy s t counts from by rw [show bags.take s.qw.length=_ from s1,show bags[s.qw.length]! =_ from s2];rfl] at H
 refine zu (fun m' ρ w470=>∃ (xU:Env) (c:Int) (out_Alive:List Bool) (out_Bags:yLL) (zS:List Value) (zg:yLN) (j:Nat),ρ=upd (upd (upd (upd (upd xU 3 (pp b1 0)) 6 (pp b5 0)) 9 (.slice (aa b36 0) s.qw.length s.qw.length)) 13 (pp b241 0)) 14 (yI c)∧out_Alive=(xu s counts (xy s t counts) j).qA∧out_Bags=(xu s counts (xy s t counts) j).qE∧(c=(s.qw.length:Int) - 1 - j)∧(j+1≤s.qw.length)∧m' =(c:Int).toNat∧Fresh w.heap.size [zg]∧St w w470 [.box b241 [.slice ra242 (((xy s t counts).qA).length) rc243,.slice ra244 (((xy s t counts).qE).length) rc245,.slice ra246 (((xy s t counts).qC).length) rc247] 38,rr ra242 (((xy s t counts).qA).length) rc243 4 1 (out_Alive.map (Value.bool)),rr ra244 (((xy s t counts).qE).length) rc245 22 1 zS,rr ra246 (((xy s t counts).qC).length) rc247 2 1 (((xy s t counts).qC).map (Value.int .i64)),rr (aa b36 0) s.qw.length s.qw.length 4 1 ((yE s counts s.qw.length s.qx.length).map (Value.bool)),.box b5 [yN,yN,yN] 38,.box b3 (yT t qV qR xn xk qN qM) 38,.box b1 (yS s qB qy qL qI) 36] [zi true zg zS out_Bags,sF false qZ qB qy s.qw,sF false xE qL qI s.qx,sF false xR qV qR t.qA,sF false zy xn xk t.qE,sF false xH qN qM t.qC]) (((s.qw.length - 1):Int).toNat) ⟨_,s.qw.length - 1,(xy s t counts).qA,(xy s t counts).qE,rx248,rF249,0,uE5,(by rfl),(by rfl),qf,qf,rfl,N,H.pick [0,1,2,3,4,6,7,8] [0,1,2,3,4,5]⟩ ?_
 clear H N
 rintro m' ρ w471 ⟨xU,c,out_Alive,out_Bags,zS,zg,j,rfl,rfl,rfl,ic,jc,rfl,N,H⟩
 have hn_out_Alive:=H.rowNB 1 rfl
 have YH:=H.zh (α:=yLI) 2 rfl 0 rfl qj
 have L:=meltDown_live (counts:=counts) p0 hl j qf
 have L1:=L.alive
 have L2:=L.root
 have L3:=L.bags.1
 rw [← QE s counts (xy s t counts) j] at H
 refine zcc (sps [yI c,.bool (decide ((c:Int) > 0))] (zjn (cD rfl (fun h472=>?_) (fun h472=>?_))))
 ·skip
  refine qU (t_n (xQ (qX (zcr (sps [.slice (aa b36 0) s.qw.length s.qw.length,yI c] (oI rfl rfl (oL rfl (H.rowBool 4 rfl (iv:=c) (i:=c.toNat) qf qf) (zjn (xK ((yE s counts s.qw.length s.qx.length)[c.toNat]!) rfl (fun h473=>?_) (fun h473=>?_))))))))))
  ·skip
   refine xY (sw (zn (yS s qB qy qL qI) isAgg36 sizeOf36 rfl (qF (H.cells 7 rfl) 0 3) (sp (yI c) (sw (vF #[.agg #[yI s.xC,.slice qB s.qw.length qy,.slice qL s.qx.length qI],pp b241 0,yI c] rfl rfl call155 (en func155 ntmps155 ?_))))))
   refine zcr (sw (vH H (yS s qB qy qL qI) fun b474 w475 H=>zjn (xQ ?_)))
   refine vT rfl H fun H=>rt 0 (.agg #[yI s.xC,.slice qB s.qw.length qy,.slice qL s.qx.length qI]) (Qe (cs:=(yS s qB qy qL qI)) isAgg36 sizeOf36 rfl (fun _ h=>qF (h.cells 0 rfl) 0 3)) H ?_
   refine rtp 1 (pp b241 0) H ?_
   refine rtp 2 (pp b241 0) H ?_
   refine rt 3 (.agg #[.slice ra242 (((xy s t counts).qA).length) rc243,.slice ra244 (((xy s t counts).qE).length) rc245,.slice ra246 (((xu s counts (xy s t counts) j).qC).length) rc247]) (Qe (cs:=[.slice ra242 (((xy s t counts).qA).length) rc243,.slice ra244 (((xy s t counts).qE).length) rc245,.slice ra246 (((xu s counts (xy s t counts) j).qC).length) rc247]) isAgg38 sizeOf38 rfl (fun _ h=>qF (h.cells 1 rfl) 0 3)) H ?_
   refine rtp 4 (yI c) H ?_
   refine ro 5 rfl ?_
   obtain ⟨G477,hn478,h479⟩:=H.rowIsB 2 rfl
   obtain ⟨G480,hn481,h482⟩:=H.rowIsR (α:=yLI) 3 rfl 0 rfl qj
   obtain ⟨G483,hn484,h485⟩:=H.rowIsI 4 rfl
   refine oq (YM (by rw [← hn478,← hn481]) (parentNow_ok _ s (xu s counts (xy s t counts) j) c (H.get 1 rfl).1 (H.get 2 rfl).1 (hn478▸h479) (hn481▸h482) h485 qg qg qg)) H fun w487 H=>?_
   have pin:=YP (s:=s) (t:=(xu s counts (xy s t counts) j)) (c:=c) p0.1 L2 qf qf
   refine ⟨H,(rtp 6 (yI (xA s (xu s counts (xy s t counts) j) c)) H ?_)⟩
   refine xO qh (t_n (xQ ?_))
   obtain ⟨b489,rfl⟩:=H.Qh 3 rfl qf
   refine c_cut (fun ρ w492=>∃ (xU:Env) (xs490:List Value) (F491:yLN),ρ=upd (upd (upd xU 1 (pp b241 0)) 2 (yI c)) 3 (pp b474 0)∧Fresh w.heap.size [F491]∧St w w492 [.box b474 (yS s qB qy qL qI) 36,.box b241 [.slice ra242 (((xy s t counts).qA).length) rc243,.slice (aa b489 0) (((xy s t counts).qE).length) rc245,.slice ra246 (((xu s counts (xy s t counts) j).qC).length) rc247] 38,rr ra242 (((xy s t counts).qA).length) rc243 4 1 (((xu s counts (xy s t counts) j).qA).map (Value.bool)),rr (aa b489 0) (((xy s t counts).qE).length) rc245 22 1 xs490,rr ra246 (((xu s counts (xy s t counts) j).qC).length) rc247 2 1 (((xu s counts (xy s t counts) j).qC).map (Value.int .i64)),rr (aa b36 0) s.qw.length s.qw.length 4 1 ((yE s counts s.qw.length s.qx.length).map (Value.bool)),.box b5 [yN,yN,yN] 38,.box b3 (yT t qV qR xn xk qN qM) 38,.box b1 (yS s qB qy qL qI) 36] [zi true F491 xs490 (((xu s counts (xy s t counts) j).qE).set ((xA s (xu s counts (xy s t counts) j) c).toNat) (vY (((xu s counts (xy s t counts) j).qE)[(xA s (xu s counts (xy s t counts) j) c).toNat]!) (((xu s counts (xy s t counts) j).qE)[c.toNat]!) 1)),sF false qZ qB qy s.qw,sF false xE qL qI s.qx,sF false xR qV qR t.qA,sF false zy xn xk t.qE,sF false xH qN qM t.qC]) ?_ ?_
   ·skip
    refine Qn rfl H [0,1,2,4,5,6,7,8] fun H=>?_
    have S:=H.yl [0,1,2,4,5,6,7,8] [0,1,2,3,4,5]
    refine rtp 0 (pp b241 0) S ?_
    refine rtp 1 (pp b241 0) S ?_
    refine tF 2 rfl rfl S ?_
    refine tL 3 rfl rfl (fun _ h=>h.cell 1 rfl rfl) S ?_
    refine rtp 4 (yI (xA s (xu s counts (xy s t counts) j) c)) S ?_
    refine rtp 5 (pp b241 0) S ?_
    refine rtp 6 (pp b241 0) S ?_
    refine tF 7 rfl rfl S ?_
    refine tL 8 rfl rfl (fun _ h=>h.cell 1 rfl rfl) S ?_
    refine rtp 9 (yI (xA s (xu s counts (xy s t counts) j) c)) S ?_
    refine tI 10 rfl rfl rfl S ?_
    refine rtp 12 (pp b241 0) S ?_
    refine rtp 13 (pp b241 0) S ?_
    refine tF 14 rfl rfl S ?_
    refine tL 15 rfl rfl (fun _ h=>h.cell 1 rfl rfl) S ?_
    refine rtp 16 (yI c) S ?_
    refine tI 17 rfl rfl rfl S ?_
    refine ji [11,18] qh qm (Qg rfl ?_ (Qg rfl ?_ jk))
    ·skip
     obtain ⟨a494,c495,G496,s497,h498,H⟩:=H.jV 3 rfl 0 rfl (iv:=xA s (xu s counts (xy s t counts) j) c) ((xA s (xu s counts (xy s t counts) j) c).toNat) qf qf
     refine zN (.slice a494 ((((xu s counts (xy s t counts) j).qE)[(xA s (xu s counts (xy s t counts) j) c).toNat]!).length) c495) isAgg22 rfl (h498) (⟨H.pick [0,1,2,4,5,6,7,8] [1,2,3,4,5,6],(ro 18 rfl ?_)⟩)
     obtain ⟨a499,c500,G501,s502,h503,H⟩:=H.jV 3 rfl 1 rfl (iv:=c) c.toNat qf qf
     refine zN (.slice a499 ((((xu s counts (xy s t counts) j).qE)[c.toNat]!).length) c500) isAgg22 rfl (h503) (⟨H.pick [0,1,2,4,5,6,7,8] [2,3,4,5,6,7],(ro 19 rfl ?_)⟩)
     obtain ⟨u1,u2,u4⟩:=L.rows p0 (bnd_le qf) (p:=(xA s (xu s counts (xy s t counts) j) c).toNat) (c:=c.toNat) qf qf
     have sz504:=H.base.size
     have lt505:=H.ltN (L:=[zg]) [2]
     refine oc (plus_ok _ (((xu s counts (xy s t counts) j).qE)[(xA s (xu s counts (xy s t counts) j) c).toNat]!) (((xu s counts (xy s t counts) j).qE)[c.toNat]!) 1 (H.get 1 rfl).1 (H.get 0 rfl).1 qg qg qg) ?_
     rintro v509 w507 r509 x508
     replace H:=H.zD x508 r509
     obtain ⟨a510,c511,rfl,hc512,hm513⟩:=H.jo 0 rfl
     refine ⟨H.pick [1,2,3,5,6,7,8,9] [2,3,4,5,6,7],(tI 20 rfl rfl rfl (H.pick [1,2,3,5,6,7,8,9] [2,3,4,5,6,7]) ?_)⟩
     refine ro 21 rfl ?_
     obtain ⟨G515,N,hn516,H⟩:=H.vS 0 rfl N (H.jQ [2])
     refine jL true H 4 rfl 3 rfl (.slice a510 ((vY (((xu s counts (xy s t counts) j).qE)[(xA s (xu s counts (xy s t counts) j) c).toNat]!) (((xu s counts (xy s t counts) j).qE)[c.toNat]!) 1).length) c511) 0 rfl rfl sizeOf22 rfl rfl (i:=((xA s (xu s counts (xy s t counts) j) c).toNat)) qf qf qm fun w514 xs517 F518 hs519 H=>?_
     replace N:Fresh w.heap.size [F518]:=(N.pick [1,0]).repl hs519
     refine ⟨H.pick [1,2,3,5,6,7,8,9] [4,5,6,7,8,9],(xO qh ((meet ⟨_,xs517,F518,uE3,N,H.pick [1,2,3,4,5,6,7,8,9] [0,5,6,7,8,9]⟩)))⟩
    obtain ⟨a520,c521,G522,s523,h524,H⟩:=H.jV 3 rfl 0 rfl (iv:=c) c.toNat qf qf
    refine zN (.slice a520 ((((xu s counts (xy s t counts) j).qE)[c.toNat]!).length) c521) isAgg22 rfl (h524) (⟨H.pick [0,1,2,4,5,6,7,8] [1,2,3,4,5,6],(ro 11 rfl ?_)⟩)
    obtain ⟨a525,c526,G527,s528,h529,H⟩:=H.jV 3 rfl 1 rfl (iv:=xA s (xu s counts (xy s t counts) j) c) ((xA s (xu s counts (xy s t counts) j) c).toNat) qf qf
    refine zN (.slice a525 ((((xu s counts (xy s t counts) j).qE)[(xA s (xu s counts (xy s t counts) j) c).toNat]!).length) c526) isAgg22 rfl (h529) (⟨H.pick [0,1,2,4,5,6,7,8] [2,3,4,5,6,7],(ro 19 rfl ?_)⟩)
    obtain ⟨u1,u2,u4⟩:=L.rows p0 (bnd_le qf) (p:=(xA s (xu s counts (xy s t counts) j) c).toNat) (c:=c.toNat) qf qf
    have sz530:=H.base.size
    have lt531:=H.ltN (L:=[zg]) [2]
    refine oc (plus_ok _ (((xu s counts (xy s t counts) j).qE)[(xA s (xu s counts (xy s t counts) j) c).toNat]!) (((xu s counts (xy s t counts) j).qE)[c.toNat]!) 1 (H.get 0 rfl).1 (H.get 1 rfl).1 qg qg qg) ?_
    rintro v535 w533 r535 x534
    replace H:=H.zD x534 r535
    obtain ⟨a536,c537,rfl,hc538,hm539⟩:=H.jo 0 rfl
    refine ⟨H.pick [1,2,3,5,6,7,8,9] [2,3,4,5,6,7],(tI 20 rfl rfl rfl (H.pick [1,2,3,5,6,7,8,9] [2,3,4,5,6,7]) ?_)⟩
    refine ro 21 rfl ?_
    obtain ⟨G541,N,hn542,H⟩:=H.vS 0 rfl N (H.jQ [2])
    refine jL true H 4 rfl 3 rfl (.slice a536 ((vY (((xu s counts (xy s t counts) j).qE)[(xA s (xu s counts (xy s t counts) j) c).toNat]!) (((xu s counts (xy s t counts) j).qE)[c.toNat]!) 1).length) c537) 0 rfl rfl sizeOf22 rfl rfl (i:=((xA s (xu s counts (xy s t counts) j) c).toNat)) qf qf qm fun w540 xs543 F544 hs545 H=>?_
    replace N:Fresh w.heap.size [F544]:=(N.pick [1,0]).repl hs545
    refine ⟨H.pick [1,2,3,5,6,7,8,9] [4,5,6,7,8,9],(xO qh ((meet ⟨_,xs543,F544,uE3,N,H.pick [1,2,3,4,5,6,7,8,9] [0,5,6,7,8,9]⟩)))⟩
   clear H N
   rintro ρ w546 ⟨xU,xs490,F491,rfl,N,H⟩
   refine t_n (xQ ?_)
   refine Qn rfl H [0,1,2,4,5,6,7,8] fun H=>?_
   have S:=H.yl [0,1,2,4,5,6,7,8] [0,1,2,3,4,5]
   refine rtp 0 (pp b241 0) S ?_
   refine rtp 1 (pp b241 0) S ?_
   refine tF 2 rfl rfl S ?_
   refine tL 3 rfl rfl (fun _ h=>h.cell 1 rfl rfl) S ?_
   refine rtp 4 (yI c) S ?_
   refine tF 5 rfl rfl S ?_
   refine tL 6 rfl rfl (fun _ h=>h.cell 0 rfl rfl) S ?_
   refine ro 7 rfl (XI H underlying22 ti2 s.xC.toNat rfl rfl qf qf qf fun b548 w549 H=>⟨H.pick [1,2,3,5,6,7,8,9] [0,1,2,3,4,5],(tI 8 rfl rfl rfl (H.pick [1,2,3,5,6,7,8,9] [0,1,2,3,4,5]) ?_)⟩)
   refine ro 9 rfl ?_
   obtain ⟨G551,N,hn552,H⟩:=H.vS 0 rfl N (H.jQ [0])
   refine jL true H 4 rfl 1 rfl (.slice (aa b548 0) s.xC.toNat s.xC.toNat) 0 rfl rfl sizeOf22 rfl rfl (i:=c.toNat) qf qf qm fun w550 xs553 F554 hs555 H=>?_
   replace N:Fresh w.heap.size [F554]:=(N.pick [1,0]).repl hs555
   refine ⟨H.pick [1,2,3,5,6,7,8,9] [2,3,4,5,6,7],(xO qh (t_n (xY (sps [pp b241 0,pp b241 0] (oF rfl (oL rfl (H.cell 2 rfl rfl) (sp (yI c) ?_)))))))⟩
   obtain ⟨b556,rfl⟩:=H.Qh 3 rfl qf
   refine oI rfl rfl (sw (Q4 H 3 rfl false sizeOf4 rfl rfl (i:=c.toNat) qf qf fun w557 H=>xZ (ret0 rfl ⟨_,rfl,?_⟩)))
   replace H:=H.erases [1,0]
   dsimp only [vU,List.eraseIdx] at H
   refine xZ (b_n (t_n (xY (sp (yI c) (sw (o_sub c 1 rfl rfl qf (sp (yI (c - 1)) (xZ ?_))))))))
   rw [QE] at H
   refine xf (m' :=((c - 1):Int).toNat) qf ⟨_,c - 1,(((xu s counts (xy s t counts) j).qA).set c.toNat false),((((xu s counts (xy s t counts) j).qE).set ((xA s (xu s counts (xy s t counts) j) c).toNat) (vY (((xu s counts (xy s t counts) j).qE)[(xA s (xu s counts (xy s t counts) j) c).toNat]!) (((xu s counts (xy s t counts) j).qE)[c.toNat]!) 1)).set c.toNat (List.replicate s.xC.toNat (0:Int))),xs553,F554,j+1,uE5,?_,?_,?_,?_,rfl,N,H.pick [0,1,2,3,4,5,6,7] [0,3,4,5,6,7]⟩
   · first | (rw [meltDown_yesL (c:=c) ‹_› qf qf rfl ic];rfl) | rw [meltDown_noL (c:=c) ‹_› qf qf rfl ic]
   · first | (rw [meltDown_yesL (c:=c) ‹_› qf qf rfl ic];rfl) | rw [meltDown_noL (c:=c) ‹_› qf qf rfl ic]
   · omega
   · omega
  refine qU (b_n (t_n (xY (sp (yI c) (sw (o_sub c 1 rfl rfl qf (sp (yI (c - 1)) (xZ ?_))))))))
  rw [QE] at H
  refine xf (m' :=((c - 1):Int).toNat) qf ⟨_,c - 1,((xu s counts (xy s t counts) j).qA),((xu s counts (xy s t counts) j).qE),zS,zg,j+1,uE5,?_,?_,?_,?_,rfl,N,H⟩
  · first | (rw [meltDown_yesL (c:=c) ‹_› qf qf rfl ic];rfl) | rw [meltDown_noL (c:=c) ‹_› qf qf rfl ic]
  · first | (rw [meltDown_yesL (c:=c) ‹_› qf qf rfl ic];rfl) | rw [meltDown_noL (c:=c) ‹_› qf qf rfl ic]
  · omega
  · omega
 refine zx4 (zcr (sw (zn (yS s qB qy qL qI) isAgg36 sizeOf36 rfl (qF (H.cells 7 rfl) 0 3) (sw (zn [.slice ra242 (((xy s t counts).qA).length) rc243,.slice ra244 (((xy s t counts).qE).length) rc245,.slice ra246 (((xu s counts (xy s t counts) j).qC).length) rc247] isAgg38 sizeOf38 rfl (qF (H.cells 0 rfl) 0 3) ?_)))))
 refine sw (vF #[.agg #[yI s.xC,.slice qB s.qw.length qy,.slice qL s.qx.length qI],.agg #[.slice ra242 (((xy s t counts).qA).length) rc243,.slice ra244 (((xy s t counts).qE).length) rc245,.slice ra246 (((xu s counts (xy s t counts) j).qC).length) rc247]] rfl rfl call156 (en func156 ntmps156 ?_))
 refine zcr (sw (vH H (yS s qB qy qL qI) fun b558 w559 H=>sw (vH H [.slice ra242 (((xy s t counts).qA).length) rc243,.slice ra244 (((xy s t counts).qE).length) rc245,.slice ra246 (((xu s counts (xy s t counts) j).qC).length) rc247] fun b560 w561 H=>sw (zf H ti38 [yN,yN,yN] fun b562 w563 H=>sp (yI 0) (zjcc ?_)))))
 refine sw (zn (yS s qB qy qL qI) isAgg36 sizeOf36 rfl (qF (H.cells 2 rfl) 0 3) (sw (zn [.slice ra242 (((xy s t counts).qA).length) rc243,.slice ra244 (((xy s t counts).qE).length) rc245,.slice ra246 (((xu s counts (xy s t counts) j).qC).length) rc247] isAgg38 sizeOf38 rfl (qF (H.cells 1 rfl) 0 3) ?_)))
 obtain ⟨G564,hn565,h566⟩:=H.rowIsB 4 rfl
 obtain ⟨G567,hn568,h569⟩:=H.rowIsR (α:=yLI) 5 rfl 0 rfl qj
 obtain ⟨G570,hn571,h572⟩:=H.rowIsI 6 rfl
 refine sw (oq (YM (by rw [← hn565,← hn568]) (validState_ok _ s (xu s counts (xy s t counts) j) (H.get 1 rfl).1 (H.get 2 rfl).1 (hn565▸h566) (hn568▸h569) h572)) H fun w574 H=>sp (.bool (!(dec (jO s∧zF s (xu s counts (xy s t counts) j))))) (zjn (cQ rfl (fun h576=>?_) (fun h576=>?_))))
 ·skip
  refine zcr (sw (jB [yN,yN,yN] [] (sw (zB H 0 [yN,yN,yN] sizeOf38 fun w577 H=>sp (yI 3) (zjr (t_r (retC2 H 0 rfl (yI 3) rfl isAgg38 sizeOf38 rfl rfl ⟨_,rfl,?_⟩)))))))
  replace H:=H.erases [2,1,0]
  dsimp only [vU,List.eraseIdx] at H
  refine sps [.agg #[yN,yN,yN],yI 3] (sw (zB H 5 [yN,yN,yN] sizeOf38 fun w578 H=>sp (yI 3) (zjr ?_)))
  replace H:=H.nilRowB 4
  replace H:=H.nilRow 22 1
  replace H:=H.vI (α:=yLI)
  replace H:=H.nilRowI 2
  refine retC2 H 8 rfl (yI 3) rfl isAgg38 sizeOf38 rfl rfl ⟨_,rfl,?_,H.base⟩
  rw [stepBy_yes p3,stepRes,show jg s - 1=j by omega,told_no (fun h=>‹¬ (jO s∧_)› ⟨p0,h⟩)]
  exact ⟨none,0,0,none,0,0,[],[],none,0,0,rfl,(N.emp.pick [0]),H.pick [2,1,0] [0]⟩
 refine qU (t_n (zcr (sw (zn [.slice ra242 (((xy s t counts).qA).length) rc243,.slice ra244 (((xy s t counts).qE).length) rc245,.slice ra246 (((xu s counts (xy s t counts) j).qC).length) rc247] isAgg38 sizeOf38 rfl (qF (H.cells 1 rfl) 0 3) (sw (zB H 0 [.slice ra242 (((xy s t counts).qA).length) rc243,.slice ra244 (((xy s t counts).qE).length) rc245,.slice ra246 (((xu s counts (xy s t counts) j).qC).length) rc247] sizeOf38 fun w579 H=>sp (yI 0) (zjr (retC2 H 0 rfl (yI 0) rfl isAgg38 sizeOf38 rfl rfl ⟨_,rfl,?_⟩))))))))
 replace H:=H.erases [2,1,0]
 dsimp only [vU,List.eraseIdx] at H
 refine sps [.agg #[.slice ra242 (((xy s t counts).qA).length) rc243,.slice ra244 (((xy s t counts).qE).length) rc245,.slice ra246 (((xu s counts (xy s t counts) j).qC).length) rc247],yI 0] (sw (zB H 5 [.slice ra242 (((xy s t counts).qA).length) rc243,.slice ra244 (((xy s t counts).qE).length) rc245,.slice ra246 (((xu s counts (xy s t counts) j).qC).length) rc247] sizeOf38 fun w580 H=>sp (yI 0) (zjr (retC2 H 5 rfl (yI 0) rfl isAgg38 sizeOf38 rfl rfl ⟨_,rfl,?_,H.base⟩))))
 rw [stepBy_yes p3,stepRes,show jg s - 1=j by omega,told_yes (‹jO s∧_›:jO s∧_).2]
 exact ⟨ra242,((xy s t counts).qA).length,rc243,ra244,((xy s t counts).qE).length,rc245,zS,zg,ra246,((xu s counts (xy s t counts) j).qC).length,rc247,rfl,N,H.pick [1,2,3] [0]⟩
theorem l00Same_ok (w:World) (a:yLI) (b:yLI) {aa:yOA} {Fa:yLN} {ab:yOA} {Fb:yLN} (ha:qO.rep w Fa [.slice aa a.length ca] a) (hb:qO.rep w Fb [.slice ab b.length cb] b):Calls Tryz.prog 128 #[.slice aa a.length ca,.slice ab b.length cb] w (Ret (fun v w' =>v=.bool (decide (a=b))) w):=by
 refine en func128 ntmps128 ?_
 have H:=((St.start w).arg hb).arg ha
 have nha:=qK ha
 have nhb:=qK hb
 clear ha hb
 have N:=Fresh.nil w.heap.size
 refine zcr (sp (.bool false) (zjcc (sp (.slice aa a.length ca) (oN rfl (sp (.slice ab b.length cb) (oN rfl (sp (.bool ((a.length:Int) != b.length)) (zjn (xK ((a.length:Int) != b.length) rfl (fun h1=>?_) (fun h1=>?_))))))))))
 ·skip
  replace h1:=bne_iff_ne.1 h1
  refine zcr (sp (.bool false) (zjr (t_r (ret1 (.bool false) rfl rfl ⟨_,rfl,?_,H.base⟩))))
  first | rw [decide_eq_false (fun e=>by subst e;omega)] | rw [decide_eq_false (vZ (k:=i) ‹_›)] | rw [decide_eq_false (vZ (k:=i) (by simpa using ‹_›))]
 replace h1:=xq h1
 refine qU (t_n (zcc (sp (yI 0) (zjn (qX ?_)))))
 refine zu (fun m' ρ w2=>∃ (xU:Env) (i:Nat),ρ=upd (upd (upd xU 0 (.slice aa a.length ca)) 1 (.slice ab b.length cb)) 5 (yI i)∧((i:Int)≤a.length)∧(a.take i=b.take i)∧m' =(a.length - (i:Int)).toNat∧Fresh w.heap.size []∧St w w2 [] [sF false Fa aa ca a,sF false Fb ab cb b]) ((a.length - (0:Int)).toNat) ⟨_,0,uE3,qf,(by rfl),rfl,N,H⟩ ?_
 clear H N
 rintro m' ρ w3 ⟨xU,i,rfl,i0,i1,rfl,N,H⟩
 refine zcc (sps [yI i,.slice aa a.length ca] (oN rfl (sp (.bool (decide ((i:Int) < a.length))) (zjn (cD rfl (fun h4=>?_) (fun h4=>?_))))))
 ·skip
  refine qU (t_n (xQ (qX (xQ ?_))))
  refine vT rfl H fun H=>rtp 0 (.slice aa a.length ca) H ?_
  refine rtp 1 (yI i) H ?_
  obtain ⟨b6,o7,rfl⟩:=H.addr 0 rfl qf
  refine tI 2 rfl rfl rfl H ?_
  refine tL 3 rfl rfl (fun _ h=>h.yu 0 rfl i qf) H ?_
  refine rtp 4 (.slice ab b.length cb) H ?_
  refine rtp 5 (yI i) H ?_
  obtain ⟨b9,o10,rfl⟩:=H.addr 1 rfl qf
  refine tI 6 rfl rfl rfl H ?_
  refine tL 7 rfl rfl (fun _ h=>h.yu 1 rfl i qf) H ?_
  refine rtp 8 (.bool ((a[i]! :Int) != (b[i]!))) H ?_
  refine xO qh (t_n (xK ((a[i]! :Int) != (b[i]!)) rfl (fun h12=>?_) (fun h12=>?_)))
  ·skip
   replace h12:=bne_iff_ne.1 h12
   refine zcr (sp (.bool false) (zjr (zr5 (ret1 (.bool false) rfl rfl ⟨_,rfl,?_,H.base⟩))))
   first | rw [decide_eq_false (fun e=>by subst e;omega)] | rw [decide_eq_false (vZ (k:=i) ‹_›)] | rw [decide_eq_false (vZ (k:=i) (by simpa using ‹_›))]
  replace h12:=xq h12
  refine qU (b_n (t_n (xY (sp (yI i) (sw (zC i 1 rfl rfl qf (sp (yI (i+1)) (xZ (xf (m' :=(a.length - ((i+1):Int)).toNat) qf ⟨_,i+1,uE3,?_,?_,rfl,N,H⟩)))))))))
  · omega
  · exact Xj qf qf i1 qg
 refine zx4 (zcr (sp (.bool true) (zjr (ret1 (.bool true) rfl rfl ⟨_,rfl,?_,H.base⟩))))
 rw [decide_eq_true (jh (k:=i) qf qf i1)]

theorem equalI_ok (w:World) (a:yLI) (b:yLI) {aa:yOA} {Fa:yLN} {ab:yOA} {Fb:yLN} (ha:qO.rep w Fa [.slice aa a.length ca] a) (hb:qO.rep w Fb [.slice ab b.length cb] b):Calls Tryz.prog 96 #[.slice aa a.length ca,.slice ab b.length cb] w (Ret (fun v w' =>v=.bool (decide (a=b))) w):=by
 refine en func96 ntmps96 ?_
 have H:=((St.start w).arg hb).arg ha
 have nha:=qK ha
 have nhb:=qK hb
 clear ha hb
 have N:=Fresh.nil w.heap.size
 refine zcr (sp (.bool false) (zjcc (sp (.slice aa a.length ca) (oN rfl (sp (.slice ab b.length cb) (oN rfl (sp (.bool ((a.length:Int) != b.length)) (zjn (xK ((a.length:Int) != b.length) rfl (fun h1=>?_) (fun h1=>?_))))))))))
 ·skip
  replace h1:=bne_iff_ne.1 h1
  refine zcr (sp (.bool false) (zjr (t_r (ret1 (.bool false) rfl rfl ⟨_,rfl,?_,H.base⟩))))
  first | rw [decide_eq_false (fun e=>by subst e;omega)] | rw [decide_eq_false (vZ (k:=i) ‹_›)] | rw [decide_eq_false (vZ (k:=i) (by simpa using ‹_›))]
 replace h1:=xq h1
 refine qU (t_n (zcc (sp (.slice aa a.length ca) (oN rfl (sp (yI 0) (zjn (qX ?_)))))))
 refine zu (fun m' ρ w2=>∃ (xU:Env) (i:Nat),ρ=upd (upd (upd (upd xU 0 (.slice aa a.length ca)) 1 (.slice ab b.length cb)) 12 (yI a.length)) 13 (yI i)∧((i:Int)≤a.length)∧(a.take i=b.take i)∧m' =(a.length - (i:Int)).toNat∧Fresh w.heap.size []∧St w w2 [] [sF false Fa aa ca a,sF false Fb ab cb b]) ((a.length - (0:Int)).toNat) ⟨_,0,uE4,qf,(by rfl),rfl,N,H⟩ ?_
 clear H N
 rintro m' ρ w3 ⟨xU,i,rfl,i0,i1,rfl,N,H⟩
 refine zcr (sp (.bool (decide ((i:Int) < a.length))) (zjn (xQ (cD rfl (fun h4=>?_) (fun h4=>?_)))))
 ·skip
  refine qU (t_n (xQ (qX (zcr (sps [yI i,yI i] (zjn (xQ ?_)))))))
  refine vT rfl H fun H=>rtp 0 (.slice aa a.length ca) H ?_
  refine rtp 1 (yI i) H ?_
  obtain ⟨b6,o7,rfl⟩:=H.addr 0 rfl qf
  refine tI 2 rfl rfl rfl H ?_
  refine tL 3 rfl rfl (fun _ h=>h.yu 0 rfl i qf) H ?_
  refine rtp 4 (.slice ab b.length cb) H ?_
  refine rtp 5 (yI i) H ?_
  obtain ⟨b9,o10,rfl⟩:=H.addr 1 rfl qf
  refine tI 6 rfl rfl rfl H ?_
  refine tL 7 rfl rfl (fun _ h=>h.yu 1 rfl i qf) H ?_
  refine rtp 8 (.bool ((a[i]! :Int) != (b[i]!))) H ?_
  refine xO qh (t_n (xK ((a[i]! :Int) != (b[i]!)) rfl (fun h12=>?_) (fun h12=>?_)))
  ·skip
   replace h12:=bne_iff_ne.1 h12
   refine zcr (sp (.bool false) (zjr (zr5 (ret1 (.bool false) rfl rfl ⟨_,rfl,?_,H.base⟩))))
   first | rw [decide_eq_false (fun e=>by subst e;omega)] | rw [decide_eq_false (vZ (k:=i) ‹_›)] | rw [decide_eq_false (vZ (k:=i) (by simpa using ‹_›))]
  replace h12:=xq h12
  refine qU (b_n (t_n (xY (sw (zC i 1 rfl rfl qf (sp (yI (i+1)) (xZ (xf (m' :=(a.length - ((i+1):Int)).toNat) qf ⟨_,i+1,uE4,?_,?_,rfl,N,H⟩))))))))
  · omega
  · exact Xj qf qf i1 qg
 refine zx4 (zcr (sp (.bool true) (zjr (ret1 (.bool true) rfl rfl ⟨_,rfl,?_,H.base⟩))))
 rw [decide_eq_true (jh (k:=i) qf qf i1)]

theorem equalB_ok (w:World) (a:List Bool) (b:List Bool) {aa:yOA} {Fa:yLN} {ab:yOA} {Fb:yLN} (ha:qO.rep w Fa [.slice aa a.length ca] a) (hb:qO.rep w Fb [.slice ab b.length cb] b):Calls Tryz.prog 148 #[.slice aa a.length ca,.slice ab b.length cb] w (Ret (fun v w' =>v=.bool (decide (a=b))) w):=by
 refine en func148 ntmps148 ?_
 have H:=((St.start w).arg hb).arg ha
 have nha:=qK ha
 have nhb:=qK hb
 clear ha hb
 have N:=Fresh.nil w.heap.size
 refine zcr (sp (.bool false) (zjcc (sp (.slice aa a.length ca) (oN rfl (sp (.slice ab b.length cb) (oN rfl (sp (.bool ((a.length:Int) != b.length)) (zjn (xK ((a.length:Int) != b.length) rfl (fun h1=>?_) (fun h1=>?_))))))))))
 ·skip
  replace h1:=bne_iff_ne.1 h1
  refine zcr (sp (.bool false) (zjr (t_r (ret1 (.bool false) rfl rfl ⟨_,rfl,?_,H.base⟩))))
  first | rw [decide_eq_false (fun e=>by subst e;omega)] | rw [decide_eq_false (vZ (k:=i) ‹_›)] | rw [decide_eq_false (vZ (k:=i) (by simpa using ‹_›))]
 replace h1:=xq h1
 refine qU (t_n (zcc (sp (.slice aa a.length ca) (oN rfl (sp (yI 0) (zjn (qX ?_)))))))
 refine zu (fun m' ρ w2=>∃ (xU:Env) (i:Nat),ρ=upd (upd (upd (upd xU 0 (.slice aa a.length ca)) 1 (.slice ab b.length cb)) 12 (yI a.length)) 13 (yI i)∧((i:Int)≤a.length)∧(a.take i=b.take i)∧m' =(a.length - (i:Int)).toNat∧Fresh w.heap.size []∧St w w2 [] [sF false Fa aa ca a,sF false Fb ab cb b]) ((a.length - (0:Int)).toNat) ⟨_,0,uE4,qf,(by rfl),rfl,N,H⟩ ?_
 clear H N
 rintro m' ρ w3 ⟨xU,i,rfl,i0,i1,rfl,N,H⟩
 refine zcr (sp (.bool (decide ((i:Int) < a.length))) (zjn (xQ (cD rfl (fun h4=>?_) (fun h4=>?_)))))
 ·skip
  refine qU (t_n (xQ (qX (zcr (sps [yI i,yI i] (zjn (xQ ?_)))))))
  refine vT rfl H fun H=>rtp 0 (.slice aa a.length ca) H ?_
  refine rtp 1 (yI i) H ?_
  obtain ⟨b6,o7,rfl⟩:=H.addr 0 rfl qf
  refine tI 2 rfl rfl rfl H ?_
  refine tL 3 rfl rfl (fun _ h=>h.elemBoolN 0 rfl i qf) H ?_
  refine rtp 4 (.slice ab b.length cb) H ?_
  refine rtp 5 (yI i) H ?_
  obtain ⟨b9,o10,rfl⟩:=H.addr 1 rfl qf
  refine tI 6 rfl rfl rfl H ?_
  refine tL 7 rfl rfl (fun _ h=>h.elemBoolN 1 rfl i qf) H ?_
  refine rt 8 (.bool ((a[i]!) != (b[i]!))) (y_neB underlying4 (a[i]!) (b[i]!) rfl rfl) H ?_
  refine xO qh (t_n (xK ((a[i]!) != (b[i]!)) rfl (fun h12=>?_) (fun h12=>?_)))
  ·skip
   replace h12:=bne_iff_ne.1 h12
   refine zcr (sp (.bool false) (zjr (zr5 (ret1 (.bool false) rfl rfl ⟨_,rfl,?_,H.base⟩))))
   first | rw [decide_eq_false (fun e=>by subst e;omega)] | rw [decide_eq_false (vZ (k:=i) ‹_›)] | rw [decide_eq_false (vZ (k:=i) (by simpa using ‹_›))]
  replace h12:=xq h12
  refine qU (b_n (t_n (xY (sw (zC i 1 rfl rfl qf (sp (yI (i+1)) (xZ (xf (m' :=(a.length - ((i+1):Int)).toNat) qf ⟨_,i+1,uE4,?_,?_,rfl,N,H⟩))))))))
  · omega
  · exact Xj qf qf i1 qg
 refine zx4 (zcr (sp (.bool true) (zjr (ret1 (.bool true) rfl rfl ⟨_,rfl,?_,H.base⟩))))
 rw [decide_eq_true (jh (k:=i) qf qf i1)]

theorem l02Same_ok (w:World) (a:qJ) (b:qJ) {ba oa:Nat} {aaAlive:yOA} {FaAlive:yLN} {aaBags:yOA} {FaBags:yLN} {Vk:yOA} {FaAround:yLN} {bb ob:Nat} {abAlive:yOA} {FbAlive:yLN} {abBags:yOA} {FbBags:yLN} {Vj:yOA} {FbAround:yLN} (ha:ve w ba oa (yT a aaAlive caAlive aaBags caBags Vk Ve)) (haAlive:qO.rep w FaAlive [.slice aaAlive a.qA.length caAlive] a.qA) (haBags:qO.rep w FaBags [.slice aaBags a.qE.length caBags] a.qE) (haAround:qO.rep w FaAround [.slice Vk a.qC.length Ve] a.qC) (hb:ve w bb ob (yT b abAlive cbAlive abBags cbBags Vj Vd)) (hbAlive:qO.rep w FbAlive [.slice abAlive b.qA.length cbAlive] b.qA) (hbBags:qO.rep w FbBags [.slice abBags b.qE.length cbBags] b.qE) (hbAround:qO.rep w FbAround [.slice Vj b.qC.length Vd] b.qC):Calls Tryz.prog 114 #[pp ba oa,pp bb ob] w (Ret (fun v w' =>v=.bool (decide (a=b))) w):=by
 refine en func114 ntmps114 ?_
 have H:=((((((((St.start w).arg hbAround).arg hbBags).arg hbAlive).XW hb).arg haAround).arg haBags).arg haAlive).XW ha
 have nhaAlive:=qK haAlive
 have nhaBags:=qK haBags
 have nhaAround:=qK haAround
 have nhbAlive:=qK hbAlive
 have nhbBags:=qK hbBags
 have nhbAround:=qK hbAround
 clear ha haAlive haBags haAround hb hbAlive hbBags hbAround
 have N:=Fresh.nil w.heap.size
 refine zcr (sp (.bool false) (zjn (xQ (xQ ?_))))
 refine vT rfl H fun H=>rtp 0 (pp ba oa) H ?_
 refine rtp 1 (pp ba oa) H ?_
 refine tF 2 rfl rfl H ?_
 refine tL 3 rfl rfl (fun _ h=>h.xW 0 rfl 0 rfl) H ?_
 refine tN 4 rfl rfl H ?_
 refine rtp 5 (pp bb ob) H ?_
 refine rtp 6 (pp bb ob) H ?_
 refine tF 7 rfl rfl H ?_
 refine tL 8 rfl rfl (fun _ h=>h.xW 4 rfl 0 rfl) H ?_
 refine tN 9 rfl rfl H ?_
 refine rtp 10 (.bool ((a.qA.length:Int) != b.qA.length)) H ?_
 refine rtp 11 (.bool ((a.qA.length:Int) != b.qA.length)) H ?_
 cases h2:((a.qA.length:Int) != b.qA.length)
 ·skip
  replace h2:=xq h2
  refine rgp 12 (pp ba oa) 18 H ?_
  refine rgp 13 (pp ba oa) 18 H ?_
  refine gF 14 rfl rfl H ?_
  refine gL 15 rfl rfl (fun _ h=>h.xW 0 rfl 1 rfl) H ?_
  refine gN 16 rfl rfl H ?_
  refine rgp 17 (pp bb ob) 18 H ?_
  refine rgp 18 (pp bb ob) 18 H ?_
  refine gF 19 rfl rfl H ?_
  refine gL 20 rfl rfl (fun _ h=>h.xW 4 rfl 1 rfl) H ?_
  refine gN 21 rfl rfl H ?_
  refine rgp 22 (.bool ((a.qE.length:Int) != b.qE.length)) 18 H ?_
  refine rtp 23 (.bool ((a.qE.length:Int) != b.qE.length)) H ?_
  refine rtp 24 (.bool ((a.qE.length:Int) != b.qE.length)) H ?_
  cases h3:((a.qE.length:Int) != b.qE.length)
  ·skip
   replace h3:=xq h3
   refine rgp 25 (pp ba oa) 31 H ?_
   refine rgp 26 (pp ba oa) 31 H ?_
   refine gF 27 rfl rfl H ?_
   refine gL 28 rfl rfl (fun _ h=>h.xW 0 rfl 2 rfl) H ?_
   refine rgp 29 (pp bb ob) 31 H ?_
   refine rgp 30 (pp bb ob) 31 H ?_
   refine gF 31 rfl rfl H ?_
   refine gL 32 rfl rfl (fun _ h=>h.xW 4 rfl 2 rfl) H ?_
   refine ji [33] qh qm (YE rfl (e:=31) rfl rfl (oq (l00Same_ok _ a.qC b.qC (H.get 3 rfl).1 (H.get 7 rfl).1) H fun w5 H=>⟨H,(rgp 34 (.bool (!(decide (a.qC=b.qC)))) 31 H ?_)⟩) jk)
   refine rtp 35 (.bool (!(decide (a.qC=b.qC)))) H ?_
   refine xO qh (t_n (xK (!(decide (a.qC=b.qC))) rfl (fun h7=>?_) (fun h7=>?_)))
   ·skip
    replace h7:=xw h7
    replace h7:=of_decide_eq_false h7
    refine zcr (sp (.bool false) (zjr (t_r (ret1 (.bool false) rfl rfl ⟨_,rfl,?_,H.base⟩))))
    rw [decide_eq_false (fun e=>by subst e;first | omega | exact absurd rfl ql | simp_all)]
   replace h7:=xh h7
   replace h7:=of_decide_eq_true h7
   refine qU (t_n (zcc (sp (yI 0) (zjn (qX ?_)))))
   refine zu (fun m' ρ w8=>∃ (xU:Env) (c:Nat),ρ=upd (upd (upd xU 0 (pp ba oa)) 1 (pp bb ob)) 5 (yI c)∧((c:Int)≤a.qA.length)∧(a.qA.take c=b.qA.take c)∧m' =(a.qA.length - (c:Int)).toNat∧Fresh w.heap.size []∧St w w8 [] [atF ba oa (yT a aaAlive caAlive aaBags caBags Vk Ve),sF false FaAlive aaAlive caAlive a.qA,sF false FaBags aaBags caBags a.qE,sF false FaAround Vk Ve a.qC,atF bb ob (yT b abAlive cbAlive abBags cbBags Vj Vd),sF false FbAlive abAlive cbAlive b.qA,sF false FbBags abBags cbBags b.qE,sF false FbAround Vj Vd b.qC]) ((a.qA.length - (0:Int)).toNat) ⟨_,0,uE3,qf,(by rfl),rfl,N,H⟩ ?_
   clear H N
   rintro m' ρ w9 ⟨xU,c,rfl,i0,i1,rfl,N,H⟩
   refine zcc (sps [yI c,pp ba oa,pp ba oa] (oF rfl (oL rfl (H.xW 0 rfl 0 rfl) (oN rfl (sp (.bool (decide ((c:Int) < a.qA.length))) (zjn (cD rfl (fun h10=>?_) (fun h10=>?_))))))))
   ·skip
    refine qU (t_n (xQ (qX (xQ ?_))))
    refine vT rfl H fun H=>rtp 0 (pp ba oa) H ?_
    refine rtp 1 (pp ba oa) H ?_
    refine tF 2 rfl rfl H ?_
    refine tL 3 rfl rfl (fun _ h=>h.xW 0 rfl 0 rfl) H ?_
    refine rtp 4 (yI c) H ?_
    obtain ⟨b12,o13,rfl⟩:=H.addr 1 rfl qf
    refine tI 5 rfl rfl rfl H ?_
    refine tL 6 rfl rfl (fun _ h=>h.elemBoolN 1 rfl c qf) H ?_
    refine rtp 7 (pp bb ob) H ?_
    refine rtp 8 (pp bb ob) H ?_
    refine tF 9 rfl rfl H ?_
    refine tL 10 rfl rfl (fun _ h=>h.xW 4 rfl 0 rfl) H ?_
    refine rtp 11 (yI c) H ?_
    obtain ⟨b15,o16,rfl⟩:=H.addr 5 rfl qf
    refine tI 12 rfl rfl rfl H ?_
    refine tL 13 rfl rfl (fun _ h=>h.elemBoolN 5 rfl c qf) H ?_
    refine rt 14 (.bool ((a.qA[c]!) != (b.qA[c]!))) (y_neB underlying4 (a.qA[c]!) (b.qA[c]!) rfl rfl) H ?_
    refine xO qh (t_n (xK ((a.qA[c]!) != (b.qA[c]!)) rfl (fun h18=>?_) (fun h18=>?_)))
    ·skip
     replace h18:=bne_iff_ne.1 h18
     refine zcr (sp (.bool false) (zjr (zr5 (ret1 (.bool false) rfl rfl ⟨_,rfl,?_,H.base⟩))))
     rw [decide_eq_false (fun e=>by subst e;first | omega | exact absurd rfl ql | simp_all)]
    replace h18:=xq h18
    refine qU (b_n (t_n (xY (sp (yI c) (sw (zC c 1 rfl rfl qf (sp (yI (c+1)) (xZ (xf (m' :=(a.qA.length - ((c+1):Int)).toNat) qf ⟨_,c+1,uE3,?_,?_,rfl,N,H⟩)))))))))
    · omega
    · exact Xj qf qf i1 qg
   refine zx4 (zcc (sp (yI 0) (zjn (qX ?_))))
   refine zu (fun m' ρ w19=>∃ (xU:Env) (c_1:Nat),ρ=upd (upd (upd xU 0 (pp ba oa)) 1 (pp bb ob)) 6 (yI c_1)∧((c_1:Int)≤a.qE.length)∧(a.qE.take c_1=b.qE.take c_1)∧m' =(a.qE.length - (c_1:Int)).toNat∧Fresh w.heap.size []∧St w w19 [] [atF ba oa (yT a aaAlive caAlive aaBags caBags Vk Ve),sF false FaAlive aaAlive caAlive a.qA,sF false FaBags aaBags caBags a.qE,sF false FaAround Vk Ve a.qC,atF bb ob (yT b abAlive cbAlive abBags cbBags Vj Vd),sF false FbAlive abAlive cbAlive b.qA,sF false FbBags abBags cbBags b.qE,sF false FbAround Vj Vd b.qC]) ((a.qE.length - (0:Int)).toNat) ⟨_,0,uE3,qf,(by rfl),rfl,N,H⟩ ?_
   clear H N
   rintro m' ρ w20 ⟨xU,c_1,rfl,i0,i2,rfl,N,H⟩
   refine zcc (sps [yI c_1,pp ba oa,pp ba oa] (oF rfl (oL rfl (H.xW 0 rfl 1 rfl) (oN rfl (sp (.bool (decide ((c_1:Int) < a.qE.length))) (zjn (cD rfl (fun h21=>?_) (fun h21=>?_))))))))
   ·skip
    refine qU (t_n (xQ (qX (xQ ?_))))
    obtain ⟨b22,o23,rfl⟩:=H.addr 2 rfl qf
    obtain ⟨b25,o26,rfl⟩:=H.addr 6 rfl qf
    refine c_cut (fun ρ w34=>∃ (xU:Env) (F28:yLN) (a29:yOA) (c30:Nat) (F31:yLN) (a32:yOA) (c33:Nat),ρ=upd (upd (upd (upd xU 0 (pp ba oa)) 1 (pp bb ob)) 6 (yI c_1)) 91 (.bool (!(decide ((a.qE[c_1]!)=(b.qE[c_1]!)))))∧Fresh w.heap.size []∧St w w34 [] [sF false F28 a29 c30 (b.qE[c_1]!),atF b25 (o26+(c_1:Int).toNat * 1) [.slice a29 ((b.qE[c_1]!).length) c30],sF false F31 a32 c33 (a.qE[c_1]!),atF b22 (o23+(c_1:Int).toNat * 1) [.slice a32 ((a.qE[c_1]!).length) c33],atF ba oa [.slice aaAlive a.qA.length caAlive,.slice (aa b22 o23) a.qE.length caBags,.slice Vk a.qC.length Ve],sF false FaAlive aaAlive caAlive a.qA,sF false FaBags (aa b22 o23) caBags a.qE,sF false FaAround Vk Ve a.qC,atF bb ob [.slice abAlive b.qA.length cbAlive,.slice (aa b25 o26) b.qE.length cbBags,.slice Vj b.qC.length Vd],sF false FbAlive abAlive cbAlive b.qA,sF false FbBags (aa b25 o26) cbBags b.qE,sF false FbAround Vj Vd b.qC]) ?_ ?_
    ·skip
     refine vT rfl H fun H=>rtp 0 (pp ba oa) H ?_
     refine rtp 1 (pp ba oa) H ?_
     refine tF 2 rfl rfl H ?_
     refine tL 3 rfl rfl (fun _ h=>h.xW 0 rfl 1 rfl) H ?_
     refine rtp 4 (yI c_1) H ?_
     obtain ⟨ae36,ce36,Fe36,H⟩:=H.vM 2 rfl c_1 c_1 qf qf qf
     have S:=H.yl [] [2,3,4,5,6,7,8,9]
     refine tI 5 rfl rfl rfl S ?_
     refine rtp 7 (pp bb ob) S ?_
     refine rtp 8 (pp bb ob) S ?_
     refine tF 9 rfl rfl S ?_
     refine tL 10 rfl rfl (fun _ h=>h.xW 4 rfl 1 rfl) S ?_
     refine rtp 11 (yI c_1) S ?_
     obtain ⟨ae37,ce37,Fe37,H⟩:=H.vM 8 rfl c_1 c_1 qf qf qf
     refine tI 12 rfl rfl rfl (H.pick [] [4,5,6,7,8,9,10,11]) ?_
     refine ji [6,13] qh qm (Qg rfl ?_ (Qg rfl ?_ jk))
     ·skip
      refine zN (.slice ae36 ((a.qE[c_1]!).length) ce36) isAgg22 rfl (H.xW 3 rfl 0 rfl) (⟨H.pick [] [4,5,6,7,8,9,10,11],(ro 13 rfl (zN (.slice ae37 ((b.qE[c_1]!).length) ce37) isAgg22 rfl (H.xW 1 rfl 0 rfl) (⟨H.pick [] [4,5,6,7,8,9,10,11],(ro 14 rfl (oq (l00Same_ok _ (a.qE[c_1]!) (b.qE[c_1]!) (H.get 2 rfl).1 (H.get 0 rfl).1) H fun w39 H=>⟨H.pick [] [4,5,6,7,8,9,10,11],(rtp 15 (.bool (!(decide ((a.qE[c_1]!)=(b.qE[c_1]!))))) (H.pick [] [4,5,6,7,8,9,10,11]) ?_)⟩))⟩)))⟩)
      refine xO qh ((meet ⟨_,Fe37,ae37,ce37,Fe36,ae36,ce36,uE4,N,H⟩))
     refine zN (.slice ae37 ((b.qE[c_1]!).length) ce37) isAgg22 rfl (H.xW 1 rfl 0 rfl) (⟨H.pick [] [4,5,6,7,8,9,10,11],(ro 6 rfl (zN (.slice ae36 ((a.qE[c_1]!).length) ce36) isAgg22 rfl (H.xW 3 rfl 0 rfl) (⟨H.pick [] [4,5,6,7,8,9,10,11],(ro 14 rfl (oq (l00Same_ok _ (a.qE[c_1]!) (b.qE[c_1]!) (H.get 2 rfl).1 (H.get 0 rfl).1) H fun w42 H=>⟨H.pick [] [4,5,6,7,8,9,10,11],(rtp 15 (.bool (!(decide ((a.qE[c_1]!)=(b.qE[c_1]!))))) (H.pick [] [4,5,6,7,8,9,10,11]) ?_)⟩))⟩)))⟩)
     refine xO qh ((meet ⟨_,Fe37,ae37,ce37,Fe36,ae36,ce36,uE4,N,H⟩))
    clear H N
    rintro ρ w44 ⟨xU,F28,a29,c30,F31,a32,c33,rfl,N,H⟩
    refine t_n (xK (!(decide ((a.qE[c_1]!)=(b.qE[c_1]!)))) rfl (fun h45=>?_) (fun h45=>?_))
    ·skip
     replace h45:=xw h45
     replace h45:=of_decide_eq_false h45
     refine zcr (sp (.bool false) (zjr (zr5 (ret1 (.bool false) rfl rfl ⟨_,rfl,?_,H.base⟩))))
     rw [decide_eq_false (fun e=>by subst e;first | omega | exact absurd rfl ql | simp_all)]
    replace h45:=xh h45
    replace h45:=of_decide_eq_true h45
    refine qU (b_n (t_n (xY (sp (yI c_1) (sw (zC c_1 1 rfl rfl qf (sp (yI (c_1+1)) (xZ (xf (m' :=(a.qE.length - ((c_1+1):Int)).toNat) qf ⟨_,c_1+1,uE3,?_,?_,rfl,N,H.pick [] [4,5,6,7,8,9,10,11]⟩)))))))))
    · omega
    · exact Xj qf qf i2 ql
   refine zx4 (zcr (sp (.bool true) (zjr (ret1 (.bool true) rfl rfl ⟨_,rfl,?_,H.base⟩))))
   rw [decide_eq_true (state_eq (jh (k:=c) qf qf i1) (jh (k:=c_1) qf qf i2) ql)]
  replace h3:=bne_iff_ne.1 h3
  refine zT [25,26,27,28,29,30,31,32,33,34] 10 (H) (rtp 35 (.bool true) H ?_)
  refine xO qh (t_n (xK true rfl (fun _=>zcr (sp (.bool false) (zjr (t_r (ret1 (.bool false) rfl rfl ⟨_,rfl,?_,H.base⟩))))) (fun h=>absurd h qj)))
  rw [decide_eq_false (fun e=>by subst e;first | omega | exact absurd rfl ql | simp_all)]
 replace h2:=bne_iff_ne.1 h2
 refine zT [12,13,14,15,16,17,18,19,20,21,22] 11 (H) (rtp 23 (.bool true) H ?_)
 refine rtp 24 (.bool true) H ?_
 refine zT [25,26,27,28,29,30,31,32,33,34] 10 (H) (rtp 35 (.bool true) H ?_)
 refine xO qh (t_n (xK true rfl (fun _=>zcr (sp (.bool false) (zjr (t_r (ret1 (.bool false) rfl rfl ⟨_,rfl,?_,H.base⟩))))) (fun h=>absurd h qj)))
 rw [decide_eq_false (fun e=>by subst e;first | omega | exact absurd rfl ql | simp_all)]

theorem l03Find_ok (w:World) (l:List qJ) (u:qJ) {al:yOA} {cl:Nat} {Fl:yLN} {bu ou:Nat} {VV:yOA} {VU:Nat} {FuAlive:yLN} {auBags:yOA} {cuBags:Nat} {FuBags:yLN} {XB:yOA} {Xz:Nat} {FuAround:yLN} (hl:qO.rep w Fl [.slice al l.length cl] l) (hu:ve w bu ou (yT u VV VU auBags cuBags XB Xz)) (huAlive:qO.rep w FuAlive [.slice VV u.qA.length VU] u.qA) (huBags:qO.rep w FuBags [.slice auBags u.qE.length cuBags] u.qE) (huAround:qO.rep w FuAround [.slice XB u.qC.length Xz] u.qC):Calls Tryz.prog 77 #[.slice al l.length cl,pp bu ou] w (Ret (fun v w' =>v=yI (firstIdx (fun zz=>decide (l[zz]! =u)) l.length)) w):=by
 refine en func77 ntmps77 ?_
 have H:=(((((St.start w).arg huAround).arg huBags).arg huAlive).XW hu).arg hl
 have nhl:=qK hl
 have nhuAlive:=qK huAlive
 have nhuBags:=qK huBags
 have nhuAround:=qK huAround
 clear hl hu huAlive huBags huAround
 have N:=Fresh.nil w.heap.size
 refine zcr (sp (yI 0) (zjcc (sp (yI 0) (zjn (qX ?_)))))
 refine zu (fun m' ρ w1=>∃ (xU:Env) (i:Nat),ρ=upd (upd (upd xU 0 (.slice al l.length cl)) 1 (pp bu ou)) 5 (yI i)∧((i:Int)≤l.length)∧(noneTo (fun zz=>decide (l[zz]! =u)) i)∧m' =(l.length - (i:Int)).toNat∧Fresh w.heap.size []∧St w w1 [] [sF false Fl al cl l,atF bu ou (yT u VV VU auBags cuBags XB Xz),sF false FuAlive VV VU u.qA,sF false FuBags auBags cuBags u.qE,sF false FuAround XB Xz u.qC]) ((l.length - (0:Int)).toNat) ⟨_,0,uE3,qf,(by exact fun j hj=>by omega),rfl,N,H⟩ ?_
 clear H N
 rintro m' ρ w2 ⟨xU,i,rfl,i0,i1,rfl,N,H⟩
 refine zcc (sps [yI i,.slice al l.length cl] (oN rfl (sp (.bool (decide ((i:Int) < l.length))) (zjn (cD rfl (fun h3=>?_) (fun h3=>?_))))))
 ·skip
  refine qU (t_n (xQ (qX (zcr (sps [.slice al l.length cl,yI i] ?_)))))
  obtain ⟨b4,o5,rfl⟩:=H.addr 0 rfl qf
  obtain ⟨ae7Alive,ce7Alive,Fe7Alive,ae7Bags,ce7Bags,Fe7Bags,ae7Around,ce7Around,Fe7Around,H⟩:=H.YJ 0 rfl i i qf qf qf
  refine oI rfl rfl (sp (pp bu ou) (sw (oq (l02Same_ok _ (l[i]!) u (qF (H.get 3 rfl) 0 3) (H.get 0 rfl).1 (H.get 1 rfl).1 (H.get 2 rfl).1 (qF (H.get 5 rfl) 0 3) (H.get 6 rfl).1 (H.get 7 rfl).1 (H.get 8 rfl).1) H fun w9 H=>zjn (cD rfl (fun h11=>?_) (fun h11=>?_)))))
  ·skip
   refine zcr (sps [yI i,yI i] (zjr (zr5 (ret1 (yI i) rfl rfl ⟨_,rfl,?_,H.base⟩))))
   rw [firstIdx_some (k:=i) qf i1 (decide_eq_true ‹_›)]
  refine qU (b_n (t_n (xY (sp (yI i) (sw (zC i 1 rfl rfl qf (sp (yI (i+1)) (xZ (xf (m' :=(l.length - ((i+1):Int)).toNat) qf ⟨_,i+1,uE3,?_,?_,rfl,N,H.pick [] [4,5,6,7,8]⟩)))))))))
  · omega
  · exact noneTo_succ i1 (decide_eq_false ‹_›)
 refine zx4 (zcr (sp (yI (-1)) (zjr (ret1 (yI (-1)) rfl rfl ⟨_,rfl,?_,H.base⟩))))
 rw [firstIdx_none (fun j hj=>i1 j qf)]

theorem l03Next_ok (w:World) (s:qG) (t:qJ) (cs:yLL) {qB:yOA} {qZ:yLN} {qL:yOA} {xE:yLN} {qV:yOA} {xR:yLN} {xn:yOA} {zy:yLN} {qN:yOA} {xH:yLN} {acs:yOA} {Fcs:yLN} (hs:ve w bs os (yS s qB qy qL qI)) (xe:qO.rep w qZ [.slice qB s.qw.length qy] s.qw) (xJ:qO.rep w xE [.slice qL s.qx.length qI] s.qx) (ht:ve w bt ot (yT t qV qR xn xk qN qM)) (zl:qO.rep w xR [.slice qV t.qA.length qR] t.qA) (zK:qO.rep w zy [.slice xn t.qE.length xk] t.qE) (xP:qO.rep w xH [.slice qN t.qC.length qM] t.qC) (hcs:qO.rep w Fcs [.slice acs cs.length ccs] cs) (p0:jO s) (p1:zF s t) (p2:cs.length≤1000) (p3:∀ q,q < cs.length→CntOk s (cs[q]!)):Calls Tryz.prog 111 #[pp bs os,pp bt ot,.slice acs cs.length ccs] w (Ret (fun v w' =>∃ (ra0:yOA) (rn0:Nat) (rc0:Nat) (rx0:List Value) (rF0:yLN),v=.tuple #[.slice ra0 rn0 rc0,yI ((Qk s t cs).2)]∧Fresh w.heap.size [rF0]∧St w w' [rr ra0 rn0 rc0 38 3 rx0] [zi true rF0 rx0 ((Qk s t cs).1)]) w):=by
 refine en func111 ntmps111 ?_
 have H:=((((((((St.start w).arg hcs).arg xP).arg zK).arg zl).XW ht).arg xJ).arg xe).XW hs
 have zY:=qK xe
 have jb:=qK xJ
 have Qd:=qK zl
 have QQ:=qK zK
 have jP:=qK xP
 have nhcs:=qK hcs
 clear hs xe xJ ht zl zK xP hcs
 have N:=Fresh.nil w.heap.size
 refine zcr (sps [yN,yI 0] (zjc (sw (vG H underlying47 ti38 fun b1 w2 H=>sp (.slice (aa b1 0) 0 0) (zjcc (sp (yI 0) (zjn (qX ?_))))))))
 replace H:=H.boxRow 0 rfl 3 0 rfl qj
 replace H:=H.vI (α:=qJ)
 replace H:St _ _ [rr (aa b1 0) 0 0 38 3 []] [zi true [] [] ([]:List qJ),atF bs os (yS s qB qy qL qI),sF false qZ qB qy s.qw,sF false xE qL qI s.qx,atF bt ot (yT t qV qR xn xk qN qM),sF false xR qV qR t.qA,sF false zy xn xk t.qE,sF false xH qN qM t.qC,sF false Fcs acs ccs cs]:=H
 refine zu (fun m' ρ w3=>∃ (xU:Env) (zW:yOA) (zt:Nat) (zL:Nat) (out:List qJ) (Qr:List Value) (jR:yLN) (i:Nat),ρ=upd (upd (upd (upd (upd xU 0 (pp bs os)) 1 (pp bt ot)) 2 (.slice acs cs.length ccs)) 8 (.slice zW zt zL)) 9 (yI i)∧out=jH s t cs i∧((i:Int)≤cs.length)∧(NoBad s t cs i)∧m' =(cs.length - (i:Int)).toNat∧Fresh w.heap.size [jR]∧St w w3 [rr zW zt zL 38 3 Qr] [zi true jR Qr out,atF bs os (yS s qB qy qL qI),sF false qZ qB qy s.qw,sF false xE qL qI s.qx,atF bt ot (yT t qV qR xn xk qN qM),sF false xR qV qR t.qA,sF false zy xn xk t.qE,sF false xH qN qM t.qC,sF false Fcs acs ccs cs]) ((cs.length - (0:Int)).toNat) ⟨_,(aa b1 0),0,0,([]:List qJ),[],[],0,uE5,(by rfl),qf,(by exact fun j hj=>by omega),rfl,N.emp,H⟩ ?_
 clear H N
 rintro m' ρ w4 ⟨xU,zW,zt,zL,out,Qr,jR,i,rfl,rfl,i0,i1,rfl,N,H⟩
 have hn_out:=H.zh (α:=qJ) 0 rfl 0 rfl qj
 have nl:=nextTo_len (s:=s) (t:=t) (cs:=cs) i
 refine zcc (sps [yI i,.slice acs cs.length ccs] (oN rfl (sp (.bool (decide ((i:Int) < cs.length))) (zjn (cD rfl (fun h5=>?_) (fun h5=>?_))))))
 ·skip
  refine qU (t_n (xQ (qX (zcr (sps [pp bs os,pp bt ot,.slice acs cs.length ccs,yI i] ?_)))))
  obtain ⟨b6,o7,rfl⟩:=H.addr 8 rfl qf
  obtain ⟨ae9,ce9,Fe9,H⟩:=H.vM 8 rfl i i qf qf qf
  refine oI rfl rfl (oL rfl (H.xW 1 rfl 0 rfl) ?_)
  have k3:=p3 i qf
  have sz13:=H.base.size
  have lt14:=H.ltN (L:=[jR]) [2]
  refine sw (oc (l03Step_ok _ s t (cs[i]!) (qF (H.get 3 rfl) 0 3) (H.get 4 rfl).1 (H.get 5 rfl).1 (qF (H.get 6 rfl) 0 3) (H.get 7 rfl).1 (H.get 8 rfl).1 (H.get 9 rfl).1 (H.get 0 rfl).1 qg qg qg) ?_)
  rintro _ w11 ⟨ra10aAlive,rn10aAlive,rc10aAlive,ra10aBags,rn10aBags,rc10aBags,rx10aBags,rF10aBags,ra10aAround,rn10aAround,rc10aAround,rfl,M,K⟩ _
  replace N:=N.merge sz13 lt14 M
  replace H:=H.merge K M
  obtain rfl:=H.rowNB 0 rfl
  obtain rfl:=H.zh (α:=yLI) 1 rfl 0 rfl qj
  obtain rfl:=H.Vq 2 rfl
  refine sps [.tuple #[.agg #[.slice ra10aAlive ((((xN s t (cs[i]!)).1).qA).length) rc10aAlive,.slice ra10aBags ((((xN s t (cs[i]!)).1).qE).length) rc10aBags,.slice ra10aAround ((((xN s t (cs[i]!)).1).qC).length) rc10aAround],yI ((xN s t (cs[i]!)).2)],.agg #[.slice ra10aAlive ((((xN s t (cs[i]!)).1).qA).length) rc10aAlive,.slice ra10aBags ((((xN s t (cs[i]!)).1).qE).length) rc10aBags,.slice ra10aAround ((((xN s t (cs[i]!)).1).qC).length) rc10aAround],yI ((xN s t (cs[i]!)).2)] (sw (zf H ti38 [yN,yN,yN] fun b18 w19 H=>?_))
  refine sw (zB H 0 [.slice ra10aAlive ((((xN s t (cs[i]!)).1).qA).length) rc10aAlive,.slice ra10aBags ((((xN s t (cs[i]!)).1).qE).length) rc10aBags,.slice ra10aAround ((((xN s t (cs[i]!)).1).qC).length) rc10aAround] sizeOf38 fun w20 H=>sp (yI ((xN s t (cs[i]!)).2)) (zjcc (sps [yI ((xN s t (cs[i]!)).2),.bool (((xN s t (cs[i]!)).2:Int) != 0)] (zjn (xK (((xN s t (cs[i]!)).2:Int) != 0) rfl (fun h21=>?_) (fun h21=>?_))))))
  ·skip
   replace h21:=bne_iff_ne.1 h21
   refine zcr (sw (vG H underlying47 ti38 fun b22 w23 H=>sps [yI ((xN s t (cs[i]!)).2),.slice (aa b22 0) 0 0,yI ((xN s t (cs[i]!)).2)] (zjr (t_r (zr5 ?_)))))
   replace H:=H.boxRow 0 rfl 3 0 rfl qj
   replace H:=H.vI (α:=qJ)
   replace H:St _ _ [rr (aa b22 0) 0 0 38 3 [],.box b18 [.slice ra10aAlive ((((xN s t (cs[i]!)).1).qA).length) rc10aAlive,.slice ra10aBags ((((xN s t (cs[i]!)).1).qE).length) rc10aBags,.slice ra10aAround ((((xN s t (cs[i]!)).1).qC).length) rc10aAround] 38,rr ra10aAlive ((((xN s t (cs[i]!)).1).qA).length) rc10aAlive 4 1 ((((xN s t (cs[i]!)).1).qA).map (Value.bool)),rr ra10aBags ((((xN s t (cs[i]!)).1).qE).length) rc10aBags 22 1 rx10aBags,rr ra10aAround ((((xN s t (cs[i]!)).1).qC).length) rc10aAround 2 1 ((((xN s t (cs[i]!)).1).qC).map (Value.int .i64)),rr zW zt zL 38 3 Qr] [zi true [] [] ([]:List qJ),zi true rF10aBags rx10aBags (((xN s t (cs[i]!)).1).qE),sF false Fe9 ae9 ce9 (cs[i]!),atF b6 (o7+(i:Int).toNat * 1) [.slice ae9 ((cs[i]!).length) ce9],zi true jR Qr (jH s t cs i),atF bs os (yS s qB qy qL qI),sF false qZ qB qy s.qw,sF false xE qL qI s.qx,atF bt ot (yT t qV qR xn xk qN qM),sF false xR qV qR t.qA,sF false zy xn xk t.qE,sF false xH qN qM t.qC,sF false Fcs (aa b6 o7) ccs cs]:=H
   refine ret2 (.slice (aa b22 0) 0 0) (yI ((xN s t (cs[i]!)).2)) rfl rfl rfl ⟨_,rfl,?_,H.base⟩
   rw [next_bad i1 qf ‹_›]
   exact ⟨(aa b22 0),0,0,[],[],rfl,(N.emp.pick [0]),H.pick [0] [0]⟩
  replace h21:=xq h21
  refine qU (t_n (zcr (sp (.slice zW zt zL) ?_)))
  obtain ⟨G24,hn25,h26⟩:=H.rowIsR (α:=qJ) 4 rfl 3 rfl qj
  obtain ⟨G27,hn28,h29⟩:=H.rowIsB 1 rfl
  obtain ⟨G30,hn31,h32⟩:=H.rowIsR (α:=yLI) 2 rfl 0 rfl qj
  obtain ⟨G33,hn34,h35⟩:=H.rowIsI 3 rfl
  refine sw (oq (YM (by rw [← hn25]) (l03Find_ok _ (jH s t cs i) ((xN s t (cs[i]!)).1) (hn25▸h26) (qF (H.cells 0 rfl) 0 3) h29 h32 h35)) H fun w37 H=>sp (.bool (decide ((firstIdx (fun zz=>decide ((jH s t cs i)[zz]! =((xN s t (cs[i]!)).1))) (jH s t cs i).length:Int) < 0))) (zjn (cD rfl (fun h39=>?_) (fun h39=>?_))))
  ·skip
   refine xY (sp (.slice zW zt zL) (sw (zn [.slice ra10aAlive ((((xN s t (cs[i]!)).1).qA).length) rc10aAlive,.slice ra10aBags ((((xN s t (cs[i]!)).1).qE).length) rc10aBags,.slice ra10aAround ((((xN s t (cs[i]!)).1).qC).length) rc10aAround] isAgg38 sizeOf38 rfl (qF (H.cells 0 rfl) 0 3) (sw (zG H underlying47 ti38 [.slice ra10aAlive ((((xN s t (cs[i]!)).1).qA).length) rc10aAlive,.slice ra10aBags ((((xN s t (cs[i]!)).1).qE).length) rc10aBags,.slice ra10aAround ((((xN s t (cs[i]!)).1).qC).length) rc10aAround] fun b40 w41 H=>?_)))))
   obtain ⟨G45,N,hn46,H⟩:=H.freezeB 2 rfl N (H.jQ [0,3])
   have H0:=H
   obtain ⟨G47,hg49,hn48,H⟩:=H.Qs (α:=yLI) 3 rfl 1 rfl qj
   replace N:Fresh w.heap.size [G47,G45,jR]:=Fresh.ice (N.pick [1,0,2]) H0 3 hg49.1 hg49.2 (H0.jQ [0,4])
   clear H0
   obtain ⟨G50,N,hn51,H⟩:=H.vS 4 rfl N (H.jQ [0,1,5])
   refine sw (zQ H 5 rfl 0 rfl underlying47 ti38 rfl qj rfl rfl rfl (by simp [Value.oneCell',Value.cells]) qp qf fun a42 c43 w44 H=>?_)
   replace H:=H.YD 6 rfl 2 rfl 1 rfl 0 rfl
   replace N:Fresh w.heap.size [(jR++(G45++G47++G50))]:=(N.pick [2,1,0,3]).join.join.swap.join
   refine sp (.slice a42 (zt+1) c43) (xZ (b_n (t_n (xY (sp (yI i) (sw (zC i 1 rfl rfl qf (sp (yI (i+1)) (xZ ?_)))))))))
   refine xf (m' :=(cs.length - ((i+1):Int)).toNat) qf ⟨_,a42,zt+1,c43,((jH s t cs i)++[⟨((xN s t (cs[i]!)).1).qA,((xN s t (cs[i]!)).1).qE,((xN s t (cs[i]!)).1).qC⟩]),Qr++[.slice ra10aAlive ((((xN s t (cs[i]!)).1).qA).length) rc10aAlive,.slice ra10aBags ((((xN s t (cs[i]!)).1).qE).length) rc10aBags,.slice ra10aAround ((((xN s t (cs[i]!)).1).qC).length) rc10aAround],(jR++(G45++G47++G50)),i+1,uE5,?_,?_,?_,rfl,N,H.pick [5] [0,8,9,10,11,12,13,14,15]⟩
   · first | exact nextTo_new (find_mem.1 ql) | exact nextTo_in (Classical.byContradiction fun h=>absurd (find_mem.2 h) ql)
   · omega
   · exact i1.succ ‹_›
  refine qU (b_n (t_n (xY (sp (yI i) (sw (zC i 1 rfl rfl qf (sp (yI (i+1)) (xZ (xf (m' :=(cs.length - ((i+1):Int)).toNat) qf ⟨_,zW,zt,zL,(jH s t cs i),Qr,jR,i+1,uE5,?_,?_,?_,rfl,(N.pick [1]),H.pick [4] [3,4,5,6,7,8,9,10,11]⟩)))))))))
  · first | exact nextTo_new (find_mem.1 ql) | exact nextTo_in (Classical.byContradiction fun h=>absurd (find_mem.2 h) ql)
  · omega
  · exact i1.succ ‹_›
 refine zx4 (zcr (sps [.slice zW zt zL,.slice zW zt zL,yI 0] (zjr (ret2 (.slice zW zt zL) (yI 0) rfl rfl rfl ⟨_,rfl,?_,H.base⟩))))
 rw [next_ok (fun j hj=>i1 j qf),show cs.length=i by omega]
 exact ⟨zW,zt,zL,Qr,jR,rfl,N,H.pick [0] [0]⟩

theorem sameState_ok (w:World) (a:qJ) (b:qJ) {aaAlive:yOA} {FaAlive:yLN} {aaBags:yOA} {FaBags:yLN} {Vk:yOA} {FaAround:yLN} {abAlive:yOA} {FbAlive:yLN} {abBags:yOA} {FbBags:yLN} {Vj:yOA} {FbAround:yLN} (haAlive:qO.rep w FaAlive [.slice aaAlive a.qA.length caAlive] a.qA) (haBags:qO.rep w FaBags [.slice aaBags a.qE.length caBags] a.qE) (haAround:qO.rep w FaAround [.slice Vk a.qC.length Ve] a.qC) (hbAlive:qO.rep w FbAlive [.slice abAlive b.qA.length cbAlive] b.qA) (hbBags:qO.rep w FbBags [.slice abBags b.qE.length cbBags] b.qE) (hbAround:qO.rep w FbAround [.slice Vj b.qC.length Vd] b.qC):Calls Tryz.prog 118 #[.agg #[.slice aaAlive a.qA.length caAlive,.slice aaBags a.qE.length caBags,.slice Vk a.qC.length Ve],.agg #[.slice abAlive b.qA.length cbAlive,.slice abBags b.qE.length cbBags,.slice Vj b.qC.length Vd]] w (Ret (fun v w' =>v=.bool (decide (a=b))) w):=by
 refine en func118 ntmps118 ?_
 have H:=((((((St.start w).arg hbAround).arg hbBags).arg hbAlive).arg haAround).arg haBags).arg haAlive
 have nhaAlive:=qK haAlive
 have nhaBags:=qK haBags
 have nhaAround:=qK haAround
 have nhbAlive:=qK hbAlive
 have nhbBags:=qK hbBags
 have nhbAround:=qK hbAround
 clear haAlive haBags haAround hbAlive hbBags hbAround
 have N:=Fresh.nil w.heap.size
 refine zcr (sw (vH H (yT a aaAlive caAlive aaBags caBags Vk Ve) fun b1 w2 H=>sw (vH H (yT b abAlive cbAlive abBags cbBags Vj Vd) fun b3 w4 H=>sp (.bool false) (zjc (oF rfl (oL rfl (H.cell 1 rfl rfl) (oF rfl (oL rfl (H.cell 0 rfl rfl) (sw (oq (equalB_ok _ a.qA b.qA (H.get 0 rfl).1 (H.get 3 rfl).1) H fun w6 H=>sp (.bool (decide (a.qA=b.qA))) ?_))))))))))
 cases h8:(decide (a.qA=b.qA))
 ·skip
  replace h8:=of_decide_eq_false h8
  refine zo [11,12,13,14,15] (sps [.bool false,.bool false] (zo [18,19,20,21,22] (sps [.bool false,.bool false] (zjr (ret1 (.bool false) rfl rfl ⟨_,rfl,?_,H.base⟩)))))
  rw [decide_eq_false (fun e=>by subst e;first | omega | exact absurd rfl ql | simp_all)]
 replace h8:=of_decide_eq_true h8
 refine qP 10 rfl rfl (oF rfl (qP 10 rfl rfl (oL rfl (H.cell 1 rfl rfl) (qP 10 rfl rfl (oF rfl (qP 10 rfl rfl (oL rfl (H.cell 0 rfl rfl) (qP 10 rfl rfl (sw (vF #[.slice aaBags a.qE.length caBags,.slice abBags b.qE.length cbBags,.func (.func 96) #[] #[]] rfl rfl call149 (en func149 ntmps149 ?_)))))))))))
 refine zcr (sp (.bool false) (zjcc (sp (.slice aaBags a.qE.length caBags) (oN rfl (sp (.slice abBags b.qE.length cbBags) (oN rfl (sp (.bool ((a.qE.length:Int) != b.qE.length)) (zjn (xK ((a.qE.length:Int) != b.qE.length) rfl (fun h9=>?_) (fun h9=>?_))))))))))
 ·skip
  replace h9:=bne_iff_ne.1 h9
  refine zcr (sp (.bool false) (zjr (t_r (ret1 (.bool false) rfl rfl ⟨_,rfl,(sps [.bool false,.bool false] (zo [18,19,20,21,22] (sps [.bool false,.bool false] (zjr (ret1 (.bool false) rfl rfl ⟨_,rfl,?_,H.base⟩)))))⟩))))
  rw [decide_eq_false (fun e=>by subst e;first | omega | exact absurd rfl ql | simp_all)]
 replace h9:=xq h9
 refine qU (t_n (zcc (sp (.slice aaBags a.qE.length caBags) (oN rfl (sp (yI 0) (zjn (qX ?_)))))))
 refine zu (fun m' ρ w10=>∃ (xU:Env) (i:Nat),ρ=upd (upd (upd (upd (upd xU 1 (.slice abBags b.qE.length cbBags)) 2 (.func (.func 96) #[] #[])) 15 (.slice aaBags a.qE.length caBags)) 16 (yI a.qE.length)) 17 (yI i)∧((i:Int)≤a.qE.length)∧(a.qE.take i=b.qE.take i)∧m' =(a.qE.length - (i:Int)).toNat∧Fresh w.heap.size []∧St w w10 [.box b3 (yT b abAlive cbAlive abBags cbBags Vj Vd) 38,.box b1 (yT a aaAlive caAlive aaBags caBags Vk Ve) 38] [sF false FaAlive aaAlive caAlive a.qA,sF false FaBags aaBags caBags a.qE,sF false FaAround Vk Ve a.qC,sF false FbAlive abAlive cbAlive b.qA,sF false FbBags abBags cbBags b.qE,sF false FbAround Vj Vd b.qC]) ((a.qE.length - (0:Int)).toNat) ⟨_,0,uE5,qf,(by rfl),rfl,N,H⟩ ?_
 clear H N
 rintro m' ρ w11 ⟨xU,i,rfl,i0,i2,rfl,N,H⟩
 refine zcr (sp (.bool (decide ((i:Int) < a.qE.length))) (zjn (xQ (cD rfl (fun h12=>?_) (fun h12=>?_)))))
 ·skip
  refine qU (t_n (xQ (qX (zcr (sp (yI i) ?_)))))
  obtain ⟨b13,o14,rfl⟩:=H.addr 1 rfl qf
  obtain ⟨ae16,ce16,Fe16,H⟩:=H.vM 1 rfl i i qf qf qf
  refine oI rfl rfl (oL rfl (H.xW 1 rfl 0 rfl) (sps [yI i,.slice ae16 ((a.qE[i]!).length) ce16] (zjc (sps [.slice abBags b.qE.length cbBags,yI i] ?_))))
  obtain ⟨b17,o18,rfl⟩:=H.addr 6 rfl qf
  obtain ⟨ae20,ce20,Fe20,H⟩:=H.vM 6 rfl i i qf qf qf
  refine oI rfl rfl (oL rfl (H.xW 1 rfl 0 rfl) (sp (.slice ae20 ((b.qE[i]!).length) ce20) (zjc (sps [.func (.func 96) #[] #[],.slice ae16 ((a.qE[i]!).length) ce16,.slice ae20 ((b.qE[i]!).length) ce20] (sw (oq (equalI_ok _ (a.qE[i]!) (b.qE[i]!) (H.get 2 rfl).1 (H.get 0 rfl).1) H fun w22 H=>sp (.bool (!(decide ((a.qE[i]!)=(b.qE[i]!))))) (zjn (xK (!(decide ((a.qE[i]!)=(b.qE[i]!)))) rfl (fun h24=>?_) (fun h24=>?_)))))))))
  ·skip
   replace h24:=xw h24
   replace h24:=of_decide_eq_false h24
   refine zcr (sp (.bool false) (zjr (zr5 (ret1 (.bool false) rfl rfl ⟨_,rfl,(sps [.bool false,.bool false] (zo [18,19,20,21,22] (sps [.bool false,.bool false] (zjr (ret1 (.bool false) rfl rfl ⟨_,rfl,?_,H.base⟩)))))⟩))))
   rw [decide_eq_false (fun e=>by subst e;first | omega | exact absurd rfl ql | simp_all)]
  replace h24:=xh h24
  replace h24:=of_decide_eq_true h24
  refine qU (b_n (t_n (xY (sw (zC i 1 rfl rfl qf (sp (yI (i+1)) (xZ (xf (m' :=(a.qE.length - ((i+1):Int)).toNat) qf ⟨_,i+1,uE5,?_,?_,rfl,N,H.pick [0,1] [4,5,6,7,8,9]⟩))))))))
  · omega
  · exact Xj qf qf i2 ql
 refine zx4 (zcr (sp (.bool true) (zjr (ret1 (.bool true) rfl rfl ⟨_,rfl,(sps [.bool true,.bool true] (qP 17 rfl rfl (oF rfl (qP 17 rfl rfl (oL rfl (H.cell 1 rfl rfl) (qP 17 rfl rfl (oF rfl (qP 17 rfl rfl (oL rfl (H.cell 0 rfl rfl) (qP 17 rfl rfl (sw (oq (equalI_ok _ a.qC b.qC (H.get 2 rfl).1 (H.get 5 rfl).1) H fun w26 H=>sps [.bool (decide (a.qC=b.qC)),.bool (decide (a.qC=b.qC))] (zjr (ret1 (.bool (decide (a.qC=b.qC))) rfl rfl ⟨_,rfl,?_,H.base⟩))))))))))))))⟩))))
 rw [show decide (a=b)=decide (a.qC=b.qC) from decide_eq_decide.2 ⟨fun e=>by rw [e],fun e=>state_eq ql (jh (k:=i) qf qf i2) e⟩]

theorem behind_ok (w:World) (s:qG) (t:qJ) (cs:yLL) {qB:yOA} {qZ:yLN} {qL:yOA} {xE:yLN} {qV:yOA} {xR:yLN} {xn:yOA} {zy:yLN} {qN:yOA} {xH:yLN} {acs:yOA} {Fcs:yLN} (xe:qO.rep w qZ [.slice qB s.qw.length qy] s.qw) (xJ:qO.rep w xE [.slice qL s.qx.length qI] s.qx) (zl:qO.rep w xR [.slice qV t.qA.length qR] t.qA) (zK:qO.rep w zy [.slice xn t.qE.length xk] t.qE) (xP:qO.rep w xH [.slice qN t.qC.length qM] t.qC) (hcs:qO.rep w Fcs [.slice acs cs.length ccs] cs) (p0:jO s) (p1:zF s t) (p2:cs.length≤1000) (p3:∀ q,q < cs.length→CntOk s (cs[q]!)) (p4:∀ q,q < cs.length→IsCh s t (cs[q]!)):Calls Tryz.prog 113 #[.agg #[yI s.xC,.slice qB s.qw.length qy,.slice qL s.qx.length qI],.agg #[.slice qV t.qA.length qR,.slice xn t.qE.length xk,.slice qN t.qC.length qM],.slice acs cs.length ccs] w (Ret (fun v w' =>∃ (ra0:yOA) (rn0:Nat) (rc0:Nat) (rx0:List Value) (rF0:yLN),v=.tuple #[.slice ra0 rn0 rc0,yI ((Qk s t cs).2)]∧Fresh w.heap.size [rF0]∧St w w' [rr ra0 rn0 rc0 38 3 rx0] [zi true rF0 rx0 ((Qk s t cs).1)]) w):=by
 refine en func113 ntmps113 ?_
 have H:=((((((St.start w).arg hcs).arg xP).arg zK).arg zl).arg xJ).arg xe
 have zY:=qK xe
 have jb:=qK xJ
 have Qd:=qK zl
 have QQ:=qK zK
 have jP:=qK xP
 have nhcs:=qK hcs
 clear xe xJ zl zK xP hcs
 have N:=Fresh.nil w.heap.size
 refine zcr (sw (vH H (yS s qB qy qL qI) fun b1 w2 H=>sw (vH H (yT t qV qR xn xk qN qM) fun b3 w4 H=>sps [yN,yI 0] (zjc (sw (vG H underlying47 ti38 fun b5 w6 H=>sp (.slice (aa b5 0) 0 0) (zjcc (sp (.slice acs cs.length ccs) (oN rfl (sp (yI 0) (zjn (qX ?_))))))))))))
 replace H:=H.boxRow 0 rfl 3 0 rfl qj
 replace H:=H.vI (α:=qJ)
 replace H:St _ _ [rr (aa b5 0) 0 0 38 3 [],.box b3 (yT t qV qR xn xk qN qM) 38,.box b1 (yS s qB qy qL qI) 36] [zi true [] [] ([]:List qJ),sF false qZ qB qy s.qw,sF false xE qL qI s.qx,sF false xR qV qR t.qA,sF false zy xn xk t.qE,sF false xH qN qM t.qC,sF false Fcs acs ccs cs]:=H
 refine zu (fun m' ρ w7=>∃ (xU:Env) (zW:yOA) (zt:Nat) (zL:Nat) (out:List qJ) (Qr:List Value) (jR:yLN) (k:Nat),ρ=upd (upd (upd (upd (upd (upd xU 3 (pp b1 0)) 4 (pp b3 0)) 8 (.slice zW zt zL)) 14 (.slice acs cs.length ccs)) 15 (yI cs.length)) 16 (yI k)∧out=jH s t cs k∧((k:Int)≤cs.length)∧(NoBad s t cs k)∧m' =(cs.length - (k:Int)).toNat∧Fresh w.heap.size [jR]∧St w w7 [rr zW zt zL 38 3 Qr,.box b3 (yT t qV qR xn xk qN qM) 38,.box b1 (yS s qB qy qL qI) 36] [zi true jR Qr out,sF false qZ qB qy s.qw,sF false xE qL qI s.qx,sF false xR qV qR t.qA,sF false zy xn xk t.qE,sF false xH qN qM t.qC,sF false Fcs acs ccs cs]) ((cs.length - (0:Int)).toNat) ⟨_,(aa b5 0),0,0,([]:List qJ),[],[],0,uE6,(by rfl),qf,(by exact fun j hj=>by omega),rfl,N.emp,H⟩ ?_
 clear H N
 rintro m' ρ w8 ⟨xU,zW,zt,zL,out,Qr,jR,k,rfl,rfl,i0,i1,rfl,N,H⟩
 have hn_out:=H.zh (α:=qJ) 0 rfl 0 rfl qj
 have nl:=nextTo_len (s:=s) (t:=t) (cs:=cs) k
 refine zcr (sp (.bool (decide ((k:Int) < cs.length))) (zjn (xQ (cD rfl (fun h9=>?_) (fun h9=>?_)))))
 ·skip
  refine qU (t_n (xQ (qX (zcr ?_))))
  obtain ⟨b10,o11,rfl⟩:=H.addr 6 rfl qf
  obtain ⟨ae13,ce13,Fe13,H⟩:=H.vM 6 rfl k k qf qf qf
  refine oI rfl rfl (oL rfl (H.xW 1 rfl 0 rfl) (sp (.slice ae13 ((cs[k]!).length) ce13) (zjc (sw (zn (yS s qB qy qL qI) isAgg36 sizeOf36 rfl (qF (H.cells 2 rfl) 0 3) (sw (zn (yT t qV qR xn xk qN qM) isAgg38 sizeOf38 rfl (qF (H.cells 1 rfl) 0 3) (sp (.slice ae13 ((cs[k]!).length) ce13) ?_))))))))
  have k3:=p3 k qf
  have k5:=p4 k qf
  have sz17:=H.base.size
  have lt18:=H.ltN (L:=[jR]) [2]
  refine sw (oc (step_ok _ s t (cs[k]!) (H.get 3 rfl).1 (H.get 4 rfl).1 (H.get 5 rfl).1 (H.get 6 rfl).1 (H.get 7 rfl).1 (H.get 0 rfl).1 qg qg qg qg) ?_)
  rintro _ w15 ⟨ra14aAlive,rn14aAlive,rc14aAlive,ra14aBags,rn14aBags,rc14aBags,rx14aBags,rF14aBags,ra14aAround,rn14aAround,rc14aAround,rfl,M,K⟩ _
  replace N:=N.merge sz17 lt18 M
  replace H:=H.merge K M
  obtain rfl:=H.rowNB 0 rfl
  obtain rfl:=H.zh (α:=yLI) 1 rfl 0 rfl qj
  obtain rfl:=H.Vq 2 rfl
  refine sps [.tuple #[.agg #[.slice ra14aAlive ((((xN s t (cs[k]!)).1).qA).length) rc14aAlive,.slice ra14aBags ((((xN s t (cs[k]!)).1).qE).length) rc14aBags,.slice ra14aAround ((((xN s t (cs[k]!)).1).qC).length) rc14aAround],yI ((xN s t (cs[k]!)).2)],.agg #[.slice ra14aAlive ((((xN s t (cs[k]!)).1).qA).length) rc14aAlive,.slice ra14aBags ((((xN s t (cs[k]!)).1).qE).length) rc14aBags,.slice ra14aAround ((((xN s t (cs[k]!)).1).qC).length) rc14aAround],yI ((xN s t (cs[k]!)).2)] (sw (zf H ti38 [yN,yN,yN] fun b22 w23 H=>?_))
  refine sw (zB H 0 [.slice ra14aAlive ((((xN s t (cs[k]!)).1).qA).length) rc14aAlive,.slice ra14aBags ((((xN s t (cs[k]!)).1).qE).length) rc14aBags,.slice ra14aAround ((((xN s t (cs[k]!)).1).qC).length) rc14aAround] sizeOf38 fun w24 H=>sp (yI ((xN s t (cs[k]!)).2)) (zjcc (sps [yI ((xN s t (cs[k]!)).2),.bool (((xN s t (cs[k]!)).2:Int) != 0)] (zjn (xK (((xN s t (cs[k]!)).2:Int) != 0) rfl (fun h25=>?_) (fun h25=>?_))))))
  ·skip
   replace h25:=bne_iff_ne.1 h25
   refine zcr (sps [yI ((xN s t (cs[k]!)).2),yN,yI ((xN s t (cs[k]!)).2)] (zjr (t_r (zr5 ?_))))
   replace H:=H.nilRow 38 3
   replace H:=H.vI (α:=qJ)
   refine ret2 yN (yI ((xN s t (cs[k]!)).2)) rfl rfl rfl ⟨_,rfl,?_,H.base⟩
   rw [next_bad i1 qf ‹_›]
   exact ⟨none,0,0,[],[],rfl,(N.emp.pick [0]),H.pick [0] [0]⟩
  replace h25:=xq h25
  refine qU (t_n (zcr (sps [.slice zW zt zL,.func (.func 147) #[] #[pp b22 0]] (sw (vF #[.slice zW zt zL,.func (.func 147) #[] #[pp b22 0]] rfl rfl call146 (en func146 ntmps146 ?_))))))
  refine zcr (sp (.bool false) (zjc (sps [.slice zW zt zL,.func (.func 147) #[] #[pp b22 0]] (sw (vF #[.slice zW zt zL,.func (.func 147) #[] #[pp b22 0]] rfl rfl call116 (en func116 ntmps116 ?_))))))
  refine zcr (sp (yI 0) (zjcc (sp (.slice zW zt zL) (oN rfl (sp (yI 0) (zjn (qX ?_)))))))
  refine zu (fun m' ρ w26=>∃ (xU:Env) (i:Nat),ρ=upd (upd (upd (upd xU 0 (.slice zW zt zL)) 1 (.func (.func 147) #[] #[pp b22 0])) 7 (yI zt)) 8 (yI i)∧((i:Int)≤zt)∧(NotIn (jH s t cs k) (xN s t (cs[k]!)).1 i)∧m' =(zt - (i:Int)).toNat∧Fresh w.heap.size [rF14aBags,jR]∧St w w26 [.box b22 [.slice ra14aAlive ((((xN s t (cs[k]!)).1).qA).length) rc14aAlive,.slice ra14aBags ((((xN s t (cs[k]!)).1).qE).length) rc14aBags,.slice ra14aAround ((((xN s t (cs[k]!)).1).qC).length) rc14aAround] 38,rr ra14aAlive ((((xN s t (cs[k]!)).1).qA).length) rc14aAlive 4 1 ((((xN s t (cs[k]!)).1).qA).map (Value.bool)),rr ra14aBags ((((xN s t (cs[k]!)).1).qE).length) rc14aBags 22 1 rx14aBags,rr ra14aAround ((((xN s t (cs[k]!)).1).qC).length) rc14aAround 2 1 ((((xN s t (cs[k]!)).1).qC).map (Value.int .i64)),rr zW zt zL 38 3 Qr,.box b3 (yT t qV qR xn xk qN qM) 38,.box b1 (yS s qB qy qL qI) 36] [zi true rF14aBags rx14aBags (((xN s t (cs[k]!)).1).qE),sF false Fe13 ae13 ce13 (cs[k]!),atF b10 (o11+(k:Int).toNat * 1) [.slice ae13 ((cs[k]!).length) ce13],zi true jR Qr (jH s t cs k),sF false qZ qB qy s.qw,sF false xE qL qI s.qx,sF false xR qV qR t.qA,sF false zy xn xk t.qE,sF false xH qN qM t.qC,sF false Fcs (aa b10 o11) ccs cs]) ((zt - (0:Int)).toNat) ⟨_,0,uE4,qf,(by exact fun j hj=>by omega),rfl,N,H⟩ ?_
  clear H N
  rintro m' ρ w27 ⟨xU,i,rfl,i0,i2,rfl,N,H⟩
  refine zcr (sp (.bool (decide ((i:Int) < zt))) (zjn (xQ (cD rfl (fun h28=>?_) (fun h28=>?_)))))
  ·skip
   refine qU (t_n (xQ (qX (zcr (sps [yI i,yI i] (zjc (sps [.func (.func 147) #[] #[pp b22 0],.slice zW zt zL,yI i] ?_)))))))
   obtain ⟨b29,rfl⟩:=H.Qh 4 rfl qf
   obtain ⟨ae30Alive,ce30Alive,Fe30Alive,ae30Bags,ce30Bags,Fe30Bags,ae30Around,ce30Around,Fe30Around,hx31,H⟩:=H.rowel_StateD 4 rfl 3 rfl (iv:=i) i qf qf
   refine oI rfl rfl (sw (zn [.slice ae30Alive ((((jH s t cs k)[i]!).qA).length) ce30Alive,.slice ae30Bags ((((jH s t cs k)[i]!).qE).length) ce30Bags,.slice ae30Around ((((jH s t cs k)[i]!).qC).length) ce30Around] isAgg38 sizeOf38 rfl (qF (fun j v hj=>H.rowGet 4 rfl (hx31 j v hj)) 0 3) (sw (vF #[.agg #[.slice ae30Alive ((((jH s t cs k)[i]!).qA).length) ce30Alive,.slice ae30Bags ((((jH s t cs k)[i]!).qE).length) ce30Bags,.slice ae30Around ((((jH s t cs k)[i]!).qC).length) ce30Around],pp b22 0] rfl rfl call147 (en func147 ntmps147 ?_)))))
   refine zcr (sw (vH H [.slice ae30Alive ((((jH s t cs k)[i]!).qA).length) ce30Alive,.slice ae30Bags ((((jH s t cs k)[i]!).qE).length) ce30Bags,.slice ae30Around ((((jH s t cs k)[i]!).qC).length) ce30Around] fun b32 w33 H=>sp (.bool false) (zjc (sw (zn [.slice ae30Alive ((((jH s t cs k)[i]!).qA).length) ce30Alive,.slice ae30Bags ((((jH s t cs k)[i]!).qE).length) ce30Bags,.slice ae30Around ((((jH s t cs k)[i]!).qC).length) ce30Around] isAgg38 sizeOf38 rfl (qF (H.cells 0 rfl) 0 3) ?_)))))
   refine sw (zn [.slice ra14aAlive ((((xN s t (cs[k]!)).1).qA).length) rc14aAlive,.slice ra14aBags ((((xN s t (cs[k]!)).1).qE).length) rc14aBags,.slice ra14aAround ((((xN s t (cs[k]!)).1).qC).length) rc14aAround] isAgg38 sizeOf38 rfl (qF (H.cells 1 rfl) 0 3) ?_)
   obtain ⟨G34,hn35,h36⟩:=H.rowIsB 2 rfl
   obtain ⟨G37,hn38,h39⟩:=H.rowIsR (α:=yLI) 3 rfl 3 rfl qj
   obtain ⟨G40,hn41,h42⟩:=H.rowIsI 4 rfl
   refine sw (oq (sameState_ok _ ((jH s t cs k)[i]!) ((xN s t (cs[k]!)).1) (H.get 0 rfl).1 (H.get 1 rfl).1 (H.get 2 rfl).1 h36 h39 h42) H fun w44 H=>sp (.bool (decide (((jH s t cs k)[i]!)=((xN s t (cs[k]!)).1)))) (zjr (ret1 (.bool (decide (((jH s t cs k)[i]!)=((xN s t (cs[k]!)).1)))) rfl rfl ⟨_,rfl,?_⟩)))
   replace H:=H.erases [0]
   dsimp only [vU,List.eraseIdx] at H
   refine zjn (cD rfl (fun h46=>?_) (fun h46=>?_))
   ·skip
    refine zcr (sps [yI i,yI i] (zjr (zr5 (ret1 (yI i) rfl rfl ⟨_,rfl,(sw (o_pure (.bool true) (by show some (Value.bool (decide ((i:Int)≥0)))=some (Value.bool true);rw [decide_eq_true qf]) (sp (.bool true) (zjr (ret1 (.bool true) rfl rfl ⟨_,rfl,(sp (.bool false) (zjn (xK false rfl (fun h=>absurd h qj) (fun _=>qU (b_n (t_n (xY (sw (zC k 1 rfl rfl qf (sp (yI (k+1)) (xZ ?_)))))))))))⟩)))))⟩))))
    refine xf (m' :=(cs.length - ((k+1):Int)).toNat) qf ⟨_,(aa b29 0),zt,zL,(jH s t cs k),Qr,jR,k+1,uE6,?_,?_,?_,rfl,(N.pick [1]),H.pick [4,5,6] [6,7,8,9,10,11,12]⟩
    · first | exact nextTo_new (NotIn.out (fun j hj=>i2 j qf)) | exact nextTo_in (mem_at (k:=i) qf ql)
    · omega
    · exact i1.succ ‹_›
   refine qU (b_n (t_n (xY (sw (zC i 1 rfl rfl qf (sp (yI (i+1)) (xZ (xf (m' :=(zt - ((i+1):Int)).toNat) qf ⟨_,i+1,uE4,?_,?_,rfl,N,H.pick [0,1,2,3,4,5,6] [3,4,5,6,7,8,9,10,11,12]⟩))))))))
   · omega
   · exact i2.succ ‹_›
  refine zx4 (zcr (sp (yI (-1)) (zjr (ret1 (yI (-1)) rfl rfl ⟨_,rfl,(sps [.bool false,.bool false] (zjr (ret1 (.bool false) rfl rfl ⟨_,rfl,(sp (.bool true) (zjn (xK true rfl (fun _=>xY (sp (.slice zW zt zL) (sw (zn [.slice ra14aAlive ((((xN s t (cs[k]!)).1).qA).length) rc14aAlive,.slice ra14aBags ((((xN s t (cs[k]!)).1).qE).length) rc14aBags,.slice ra14aAround ((((xN s t (cs[k]!)).1).qC).length) rc14aAround] isAgg38 sizeOf38 rfl (qF (H.cells 0 rfl) 0 3) ?_)))) (fun h=>absurd h qj))))⟩)))⟩))))
  refine sw (zG H underlying47 ti38 [.slice ra14aAlive ((((xN s t (cs[k]!)).1).qA).length) rc14aAlive,.slice ra14aBags ((((xN s t (cs[k]!)).1).qE).length) rc14aBags,.slice ra14aAround ((((xN s t (cs[k]!)).1).qC).length) rc14aAround] fun b47 w48 H=>?_)
  obtain ⟨G52,N,hn53,H⟩:=H.freezeB 2 rfl N (H.jQ [0,3])
  have H0:=H
  obtain ⟨G54,hg56,hn55,H⟩:=H.Qs (α:=yLI) 3 rfl 1 rfl qj
  replace N:Fresh w.heap.size [G54,G52,jR]:=Fresh.ice (N.pick [1,0,2]) H0 3 hg56.1 hg56.2 (H0.jQ [0,4])
  clear H0
  obtain ⟨G57,N,hn58,H⟩:=H.vS 4 rfl N (H.jQ [0,1,5])
  refine sw (zQ H 5 rfl 0 rfl underlying47 ti38 rfl qj rfl rfl rfl (by simp [Value.oneCell',Value.cells]) qp qf fun a49 c50 w51 H=>?_)
  replace H:=H.YD 6 rfl 2 rfl 1 rfl 0 rfl
  replace N:Fresh w.heap.size [(jR++(G52++G54++G57))]:=(N.pick [2,1,0,3]).join.join.swap.join
  refine sp (.slice a49 (zt+1) c50) (xZ (b_n (t_n (xY (sw (zC k 1 rfl rfl qf (sp (yI (k+1)) (xZ ?_))))))))
  refine xf (m' :=(cs.length - ((k+1):Int)).toNat) qf ⟨_,a49,zt+1,c50,((jH s t cs k)++[⟨((xN s t (cs[k]!)).1).qA,((xN s t (cs[k]!)).1).qE,((xN s t (cs[k]!)).1).qC⟩]),Qr++[.slice ra14aAlive ((((xN s t (cs[k]!)).1).qA).length) rc14aAlive,.slice ra14aBags ((((xN s t (cs[k]!)).1).qE).length) rc14aBags,.slice ra14aAround ((((xN s t (cs[k]!)).1).qC).length) rc14aAround],(jR++(G52++G54++G57)),k+1,uE6,?_,?_,?_,rfl,N,H.pick [5,6,7] [0,8,9,10,11,12,13]⟩
  · first | exact nextTo_new (NotIn.out (fun j hj=>i2 j qf)) | exact nextTo_in (mem_at (k:=i) qf ql)
  · omega
  · exact i1.succ ‹_›
 refine zx4 (zcr (sps [.slice zW zt zL,.slice zW zt zL,yI 0] (zjr (ret2 (.slice zW zt zL) (yI 0) rfl rfl rfl ⟨_,rfl,?_,H.base⟩))))
 rw [next_ok (fun j hj=>i1 j qf),show cs.length=k by omega]
 exact ⟨zW,zt,zL,Qr,jR,rfl,N,H.pick [0] [0]⟩
theorem l01Full_ok (w:World) (rest:yLI) (parts:yLL) {arest:yOA} {crest:Nat} {Frest:yLN} {zk:yOA} {xX:Nat} {Fparts:yLN} (hrest:qO.rep w Frest [.slice arest rest.length crest] rest) (hparts:qO.rep w Fparts [.slice zk parts.length xX] parts) (p0:Yq parts rest):Calls Tryz.prog 198 #[.slice arest rest.length crest,.slice zk parts.length xX] w (Ret (fun v w' =>v=.bool (dec (FullOk parts rest))) w):=by
 refine en func198 ntmps198 ?_
 have H:=((St.start w).arg hparts).arg hrest
 have nhrest:=qK hrest
 have nhparts:=qK hparts
 clear hrest hparts
 have N:=Fresh.nil w.heap.size
 refine zcr (sp (.bool false) (zjcc (sp (yI 0) (zjn (qX ?_)))))
 refine zu (fun m' ρ w1=>∃ (xU:Env) (i:Nat),ρ=upd (upd (upd xU 0 (.slice arest rest.length crest)) 1 (.slice zk parts.length xX)) 5 (yI i)∧((i:Int)≤parts.length)∧(FullTo parts rest i)∧m' =(parts.length - (i:Int)).toNat∧Fresh w.heap.size []∧St w w1 [] [sF false Frest arest crest rest,sF false Fparts zk xX parts]) ((parts.length - (0:Int)).toNat) ⟨_,0,uE3,qf,(by exact fun j hj=>by omega),rfl,N,H⟩ ?_
 clear H N
 rintro m' ρ w2 ⟨xU,i,rfl,i0,i1,rfl,N,H⟩
 refine zcc (sps [yI i,.slice zk parts.length xX] (oN rfl (sp (.bool (decide ((i:Int) < parts.length))) (zjn (cD rfl (fun h3=>?_) (fun h3=>?_))))))
 ·skip
  refine qU (t_n (xQ (qX (zcr (sps [.slice zk parts.length xX,yI i] ?_)))))
  obtain ⟨b4,o5,rfl⟩:=H.addr 1 rfl qf
  obtain ⟨ae7,ce7,Fe7,H⟩:=H.vM 1 rfl i i qf qf qf
  refine oI rfl rfl (oL rfl (H.xW 1 rfl 0 rfl) (sp (.slice arest rest.length crest) ?_))
  obtain ⟨t1,t2⟩:=p0.times (k:=i) qf
  refine sw (oq (l01Within_ok _ (parts[i]!) rest (H.get 0 rfl).1 (H.get 2 rfl).1 qg) H fun w9 H=>zjn (xK (within (parts[i]!) rest) rfl (fun h11=>?_) (fun h11=>?_)))
  ·skip
   refine zcr (sp (.bool false) (zjr (zr5 (ret1 (.bool false) rfl rfl ⟨_,rfl,?_,H.base⟩))))
   rw [xx (fun h=>by have:=h i qf;simp_all)]
  refine qU (b_n (t_n (xY (sp (yI i) (sw (zC i 1 rfl rfl qf (sp (yI (i+1)) (xZ (xf (m' :=(parts.length - ((i+1):Int)).toNat) qf ⟨_,i+1,uE3,?_,?_,rfl,N,H.pick [] [2,3]⟩)))))))))
  · omega
  · exact i1.succ ‹_›
 refine zx4 (zcr (sp (.bool true) (zjr (ret1 (.bool true) rfl rfl ⟨_,rfl,?_,H.base⟩))))
 rw [yD (show FullOk parts rest from fun j hj=>i1 j qf)]

def l01Pack_ok_S (f:Nat):Prop:=∀ {W0 w:World} {ps:List Prv} {Γ:List Fact} {Ns:List yLN} (rest:yLI) (parts:yLL) (vK:yLI) (out:yLL) (arest:yOA) (crest:Nat) (Frest:yLN) (zk:yOA) (xX:Nat) (Fparts:yLN) (abegin:yOA) (cbegin:Nat) (Fbegin:yLN) (bout:Nat) (raout:yOA) (rnout:Nat) (rcout:Nat) (rxout:List Value) (rFout:yLN) (H:St W0 w ((.box bout [.slice raout rnout rcout] 27) :: (rr raout rnout rcout 22 1 rxout) :: ps) ((sF false Frest arest crest rest) :: (sF false Fparts zk xX parts) :: (sF false Fbegin abegin cbegin vK) :: (zi true rFout rxout out) :: Γ)) (N:Fresh W0.heap.size (rFout :: Ns)) (K0:Kept Ns Γ) (p0:vK.length+f=parts.length) (p1:Yq parts rest) (p2:out.length≤2000),Calls Tryz.prog 171 #[.slice arest rest.length crest,.slice zk parts.length xX,.slice abegin vK.length cbegin,pp bout 0] w (fun e w' =>∃ v,e=.returned v∧∃ (raout_:yOA) (rnout_:Nat) (rcout_:Nat) (rxout_:List Value) (rFout_:yLN),v=.tuple #[]∧Fresh W0.heap.size (rFout_ :: Ns)∧St W0 w' ((.box bout [.slice raout_ rnout_ rcout_] 27) :: (rr raout_ rnout_ rcout_ 22 1 rxout_) :: ps) ((sF false Frest arest crest rest) :: (sF false Fparts zk xX parts) :: (sF false Fbegin abegin cbegin vK) :: (zi true rFout_ rxout_ (gath out (begins vK (packs parts (parts.length - vK.length) vK.length rest)))) :: Γ))
theorem l01Pack_ok_step (f:Nat) (IH:∀ k,k < f→l01Pack_ok_S k) {W0 w:World} {ps:List Prv} {Γ:List Fact} {Ns:List yLN} (rest:yLI) (parts:yLL) (vK:yLI) (out:yLL) (arest:yOA) (crest:Nat) (Frest:yLN) (zk:yOA) (xX:Nat) (Fparts:yLN) (abegin:yOA) (cbegin:Nat) (Fbegin:yLN) (bout:Nat) (raout:yOA) (rnout:Nat) (rcout:Nat) (rxout:List Value) (rFout:yLN) (H:St W0 w ((.box bout [.slice raout rnout rcout] 27) :: (rr raout rnout rcout 22 1 rxout) :: ps) ((sF false Frest arest crest rest) :: (sF false Fparts zk xX parts) :: (sF false Fbegin abegin cbegin vK) :: (zi true rFout rxout out) :: Γ)) (N:Fresh W0.heap.size (rFout :: Ns)) (K0:Kept Ns Γ) (p0:vK.length+f=parts.length) (p1:Yq parts rest) (p2:out.length≤2000):Calls Tryz.prog 171 #[.slice arest rest.length crest,.slice zk parts.length xX,.slice abegin vK.length cbegin,pp bout 0] w (fun e w' =>∃ v,e=.returned v∧∃ (raout_:yOA) (rnout_:Nat) (rcout_:Nat) (rxout_:List Value) (rFout_:yLN),v=.tuple #[]∧Fresh W0.heap.size (rFout_ :: Ns)∧St W0 w' ((.box bout [.slice raout_ rnout_ rcout_] 27) :: (rr raout_ rnout_ rcout_ 22 1 rxout_) :: ps) ((sF false Frest arest crest rest) :: (sF false Fparts zk xX parts) :: (sF false Fbegin abegin cbegin vK) :: (zi true rFout_ rxout_ (gath out (begins vK (packs parts (parts.length - vK.length) vK.length rest)))) :: Γ)):=by
 refine en func171 ntmps171 ?_
 have nhrest:=qK (H.get 0 rfl).1
 have nhparts:=qK (H.get 1 rfl).1
 have nhbegin:=qK (H.get 2 rfl).1
 obtain rfl:=H.zh (α:=yLI) 1 rfl 3 rfl qj
 have p3:=p1.small
 refine zcr (sp (.slice abegin vK.length cbegin) (oN rfl (sp (yI vK.length) (zjcc (sps [yI vK.length,.slice zk parts.length xX] (oN rfl (sp (.bool ((vK.length:Int) == parts.length)) (zjn (cE rfl (fun h1=>?_) (fun h1=>?_))))))))))
 ·skip
  refine zcc (sps [.slice arest rest.length crest,.slice zk parts.length xX] (sw (oq (l01Full_ok _ rest parts (H.get 0 rfl).1 (H.get 1 rfl).1 qg) H fun w3 H=>zjn (cP rfl (fun h5=>?_) (fun h5=>?_)))))
  ·skip
   refine c_cut (fun ρ w11=>∃ (xU:Env) (a6:yOA) (c7:Nat) (a8:yOA) (c9:Nat) (G10:yLN),ρ=xU∧Fresh W0.heap.size ((rFout++G10) :: Ns)∧St W0 w11 ((.box bout [.slice a6 (out.length+1) c7] 27) :: (rr a6 (out.length+1) c7 22 1 (rxout++[.slice a8 vK.length c9])) :: ps) ((zi true (rFout++G10) (rxout++[.slice a8 vK.length c9]) (out++[vK])) :: (sF true G10 a8 c9 vK) :: (sF false Frest arest crest rest) :: (sF false Fparts zk xX parts) :: (sF false Fbegin abegin cbegin vK) :: Γ)) ?_ ?_
   ·skip
    refine c_drawK2 rfl H [] [0,1,2,3] fun H=>?_
    have S:=H.yl [] [0,1,2,3]
    refine rtp 0 (pp bout 0) S ?_
    refine rtp 1 (pp bout 0) S ?_
    refine rtp 2 (pp bout 0) S ?_
    refine rtp 4 (.slice abegin vK.length cbegin) S ?_
    refine ji [3,5] qh qm (Qg rfl ?_ (Qg rfl ?_ jk))
    ·skip
     refine zN (.slice raout out.length rcout) isAgg27 rfl (H.cell 0 rfl rfl) (⟨H.pick [] [0,1,2,3],(ro 5 rfl ?_)⟩)
     have sz13:=H.base.size
     have lt14:=all_two (H.ltN (L:=[rFout]) [3]) (H.ltK (K0.behind 4 rfl))
     refine oc (X3 _ vK (H.get 2 rfl).1 qg) ?_
     rintro v18 w16 r18 x17
     replace H:=H.zD x17 r18
     obtain ⟨a19,c20,rfl,hc21,hm22⟩:=H.jo 0 rfl
     refine ⟨H.pick [] [0,1,2,3],(ro 6 rfl (zG H underlying27 ti22 [.slice a19 vK.length c20] fun b23 w24 H=>⟨H.pick [] [0,1,2,3],(ro 7 rfl ?_)⟩))⟩
     obtain ⟨G28,N,hn29,H⟩:=H.vS 1 rfl N (fun F hF b hb=>(List.mem_append.1 (show F∈[rFout]++Ns from hF)).elim (fun h=>(H.jQ (L:=[rFout]) [3]) F h b hb) fun h=>H.awayK (K0.behind 4 rfl) F h b hb)
     try dsimp only [List.set] at H
     refine zQ H 3 rfl 0 rfl underlying27 ti22 rfl qj rfl rfl rfl (by simp [Value.oneCell',Value.cells]) qp qf fun a25 c26 w27 H=>?_
     try dsimp only [List.set] at H
     replace H:=H.jW 4 rfl 0 rfl
     replace N:Fresh W0.heap.size ((rFout++G28) :: Ns):=(N.YV 2 [1,0] qo).join
     refine ⟨H.pick [] [2,3,4,5],(rtp 8 (pp bout 0) (H.pick [] [2,3,4,5]) ?_)⟩
     refine ro 9 rfl (zJ H 2 [.slice a25 (out.length+1) c26] sizeOf27 fun w30 H=>?_)
     try dsimp only [List.set] at H
     refine ⟨H.pick [] [2,3,4,5],(xO qh ((meet ⟨_,a25,c26,a19,c20,G28,(by exact rfl),N,H.YV 4 6 [2,3] [0,1,2,3,4] qo qo⟩)))⟩
    have sz31:=H.base.size
    have lt32:=all_two (H.ltN (L:=[rFout]) [3]) (H.ltK (K0.behind 4 rfl))
    refine oc (X3 _ vK (H.get 2 rfl).1 qg) ?_
    rintro v36 w34 r36 x35
    replace H:=H.zD x35 r36
    obtain ⟨a37,c38,rfl,hc39,hm40⟩:=H.jo 0 rfl
    refine ⟨H.pick [] [0,1,2,3],(ji [3,6] qh qm (Qg rfl ?_ (Qg rfl ?_ jk)))⟩
    ·skip
     refine zN (.slice raout out.length rcout) isAgg27 rfl (H.cell 1 rfl rfl) (⟨H.pick [] [0,1,2,3],(ro 6 rfl (zG H underlying27 ti22 [.slice a37 vK.length c38] fun b41 w42 H=>⟨H.pick [] [0,1,2,3],(ro 7 rfl ?_)⟩))⟩)
     obtain ⟨G46,N,hn47,H⟩:=H.vS 1 rfl N (fun F hF b hb=>(List.mem_append.1 (show F∈[rFout]++Ns from hF)).elim (fun h=>(H.jQ (L:=[rFout]) [3]) F h b hb) fun h=>H.awayK (K0.behind 4 rfl) F h b hb)
     try dsimp only [List.set] at H
     refine zQ H 3 rfl 0 rfl underlying27 ti22 rfl qj rfl rfl rfl (by simp [Value.oneCell',Value.cells]) qp qf fun a43 c44 w45 H=>?_
     try dsimp only [List.set] at H
     replace H:=H.jW 4 rfl 0 rfl
     replace N:Fresh W0.heap.size ((rFout++G46) :: Ns):=(N.YV 2 [1,0] qo).join
     refine ⟨H.pick [] [2,3,4,5],(rtp 8 (pp bout 0) (H.pick [] [2,3,4,5]) ?_)⟩
     refine ro 9 rfl (zJ H 2 [.slice a43 (out.length+1) c44] sizeOf27 fun w48 H=>?_)
     try dsimp only [List.set] at H
     refine ⟨H.pick [] [2,3,4,5],(xO qh ((meet ⟨_,a43,c44,a37,c38,G46,(by exact rfl),N,H.YV 4 6 [2,3] [0,1,2,3,4] qo qo⟩)))⟩
    refine zG H underlying27 ti22 [.slice a37 vK.length c38] fun b49 w50 H=>⟨H.pick [] [0,1,2,3],(ro 3 rfl (zN (.slice raout out.length rcout) isAgg27 rfl (H.cell 2 rfl rfl) (⟨H.pick [] [0,1,2,3],(ro 7 rfl ?_)⟩)))⟩
    obtain ⟨G54,N,hn55,H⟩:=H.vS 1 rfl N (fun F hF b hb=>(List.mem_append.1 (show F∈[rFout]++Ns from hF)).elim (fun h=>(H.jQ (L:=[rFout]) [3]) F h b hb) fun h=>H.awayK (K0.behind 4 rfl) F h b hb)
    try dsimp only [List.set] at H
    refine zQ H 3 rfl 0 rfl underlying27 ti22 rfl qj rfl rfl rfl (by simp [Value.oneCell',Value.cells]) qp qf fun a51 c52 w53 H=>?_
    try dsimp only [List.set] at H
    replace H:=H.jW 4 rfl 0 rfl
    replace N:Fresh W0.heap.size ((rFout++G54) :: Ns):=(N.YV 2 [1,0] qo).join
    refine ⟨H.pick [] [2,3,4,5],(rtp 8 (pp bout 0) (H.pick [] [2,3,4,5]) ?_)⟩
    refine ro 9 rfl (zJ H 2 [.slice a51 (out.length+1) c52] sizeOf27 fun w56 H=>?_)
    try dsimp only [List.set] at H
    refine ⟨H.pick [] [2,3,4,5],(xO qh ((meet ⟨_,a51,c52,a37,c38,G54,(by exact rfl),N,H.YV 4 6 [2,3] [0,1,2,3,4] qo qo⟩)))⟩
   clear H N
   rintro ρ w57 ⟨xU,a6,c7,a8,c9,G10,rfl,N,H⟩
   refine t_n (c_ret (t_r (ret0' rfl ⟨_,rfl,?_⟩)))
   rw [pack_full qf ‹_› p2]
   exact ⟨a6,out.length+1,c7,rxout++[Value.slice a8 vK.length c9],(rFout++G10),rfl,N,H.YV 2 5 [0,1] [2,3,4,0] qo qo⟩
  refine qU (t_n (c_ret (t_r (ret0' rfl ⟨_,rfl,?_⟩))))
  rw [pack_none qf ‹_› p2]
  exact ⟨raout,out.length,rcout,rxout,rFout,rfl,N,H.YV 2 4 [0,1] [0,1,2,3] qo qo⟩
 refine qU (t_n (zcr (sp (yI 0) (zjn (qX ?_)))))
 obtain ⟨t1,t2,t3,t4,t5,t6⟩:=p1.times (k:=vK.length) qf
 refine zu (fun m' ρ w58=>∃ (xU:Env) (n:Nat) (zW:yOA) (zt:Nat) (zL:Nat) (out_1:yLL) (Qr:List Value) (jR:yLN),ρ=upd (upd (upd (upd (upd (upd xU 0 (.slice arest rest.length crest)) 1 (.slice zk parts.length xX)) 2 (.slice abegin vK.length cbegin)) 3 (pp bout 0)) 8 (yI vK.length)) 9 (yI n)∧out_1=gath out (begins vK (jA parts (f - 1) vK.length rest n))∧((n:Int)≤jm (parts[vK.length]!) rest+1)∧m' =(jm (parts[vK.length]!) rest+1 - (n:Int)).toNat∧Fresh W0.heap.size (jR :: Ns)∧St W0 w58 ((.box bout [.slice zW zt zL] 27) :: (rr zW zt zL 22 1 Qr) :: ps) ((sF false Frest arest crest rest) :: (sF false Fparts zk xX parts) :: (sF false Fbegin abegin cbegin vK) :: (zi true jR Qr out_1) :: Γ)) ((jm (parts[vK.length]!) rest+1 - (0:Int)).toNat) ⟨_,0,raout,out.length,rcout,out,rxout,rFout,uE6,(by exact pack_start p2),qf,rfl,N,H⟩ ?_
 clear H N
 rintro m' ρ w59 ⟨xU,n,zW,zt,zL,out_1,Qr,jR,rfl,rfl,i0,rfl,N,H⟩
 have hn_out:=H.zh (α:=yLI) 1 rfl 3 rfl qj
 have gl:=gath_len out (begins vK (jA parts (f - 1) vK.length rest n))
 refine zcc (sps [yI n,.slice zk parts.length xX,yI vK.length] ?_)
 obtain ⟨b60,o61,rfl⟩:=H.addr 1 rfl qf
 obtain ⟨ae63,ce63,Fe63,H⟩:=H.vM 1 rfl vK.length vK.length qf qf qf
 refine oI rfl rfl (oL rfl (H.xW 1 rfl 0 rfl) (sp (.slice arest rest.length crest) ?_))
 obtain ⟨t1,t2,t3,t4,t5,t6⟩:=p1.times (k:=vK.length) qf
 refine sw (oq (l01Times_ok _ (parts[vK.length]!) rest (H.get 0 rfl).1 (H.get 2 rfl).1 qg qg qg) H fun w65 H=>sps [.bool (decide ((n:Int)≤(jm (parts[vK.length]!) rest))),.bool (decide ((n:Int)≤(jm (parts[vK.length]!) rest)))] ?_)
 cases h67:(decide ((n:Int)≤(jm (parts[vK.length]!) rest)))
 ·skip
  replace h67:=of_decide_eq_false h67
  refine zo [37,38,39,40,41] (sp (.bool false) (zjn (xK false rfl (fun h=>absurd h qj) (fun _=>c_exit (t_x (t_x (b_x (ret0 rfl ⟨_,rfl,?_⟩))))))))
  rw [pack_end p0 qf qf qf (by first | (left;omega) | (right;omega))]
  exact ⟨zW,zt,zL,Qr,jR,rfl,N,H.YV 2 6 [0,1] [2,3,4,5] qo qo⟩
 replace h67:=of_decide_eq_true h67
 refine qP 36 rfl rfl (sp (pp bout 0) (qP 36 rfl rfl (sp (pp bout 0) (qP 36 rfl rfl (oL rfl (H.cell 0 rfl rfl) (qP 36 rfl rfl (oN rfl (qP 36 rfl rfl (sps [.bool (decide ((zt:Int)≤2000)),.bool (decide ((zt:Int)≤2000))] (zjn (cD rfl (fun h68=>?_) (fun h68=>?_))))))))))))
 ·skip
  refine qU (t_n (xQ (qX (xY (sps [.slice arest rest.length crest,.slice (aa b60 o61) parts.length xX,yI vK.length] (oI rfl rfl (oL rfl (H.xW 1 rfl 0 rfl) (sp (yI n) (sw (o_neg n rfl qf ?_))))))))))
  obtain ⟨u1,u2,u3,u4⟩:=p1.plus (k:=vK.length) qf (n:=(n:Int)) qf qf
  have sz69:=H.base.size
  have lt70:=all_two (H.ltN (L:=[jR]) [5]) (H.ltK (K0.behind 6 rfl))
  refine sw (oc (X6 _ rest (parts[vK.length]!) (-n) (H.get 2 rfl).1 (H.get 0 rfl).1 qg qg qg) ?_)
  rintro v74 w72 r74 x73
  replace H:=H.zD x73 r74
  obtain ⟨a75,c76,rfl,hc77,hm78⟩:=H.jo 0 rfl
  refine sps [.slice (aa b60 o61) parts.length xX,.slice abegin vK.length cbegin] ?_
  have sz79:=H.base.size
  have lt80:=all_two (H.ltN (L:=[jR]) [5]) (H.ltK (K0.behind 6 rfl))
  refine sw (oc (X3 _ vK (H.get 4 rfl).1 qg) ?_)
  rintro v84 w82 r84 x83
  replace H:=H.zD x83 r84
  obtain ⟨a85,c86,rfl,hc87,hm88⟩:=H.jo 0 rfl
  refine sp (yI n) (sw (zG H underlying22 ti2 [yI n] fun b89 w90 H=>sw (zQ H 1 rfl 0 rfl underlying22 ti2 rfl qj rfl rfl rfl (by simp [Value.oneCell',Value.cells]) qp qf fun a91 c92 w93 H=>?_)))
  rw [snocI] at H
  try dsimp only [List.set] at H
  refine sp (pp bout 0) ?_
  obtain ⟨G94,N,hn95,H⟩:=H.vS 2 rfl N (fun F hF b hb=>(List.mem_append.1 (show F∈[jR]++Ns from hF)).elim (fun h=>(H.jQ (L:=[jR]) [5]) F h b hb) fun h=>H.awayK (K0.behind 6 rfl) F h b hb)
  try dsimp only [List.set] at H
  replace H:=H.unfreeI 0 rfl
  obtain ⟨G96,N,hn97,H⟩:=H.vS 1 rfl N (fun F hF b hb=>(List.mem_append.1 (show F∈[G94,jR]++Ns from hF)).elim (fun h=>(H.jQ (L:=[G94,jR]) [0,7]) F h b hb) fun h=>H.awayK (K0.behind 8 rfl) F h b hb)
  try dsimp only [List.set] at H
  replace H:=H.unfreeI 0 rfl
  have hn98:=H.isLen 0 rfl
  have H1:St W0 w93 ((.box bout [.slice zW zt zL] 27) :: (.row (.slice zW zt zL) 22 1 zt Qr) :: (.box b89 [yI n] 2) :: (.row yN 0 1 0 []) :: (.row yN 0 1 0 []) :: ps) ((isF false G94 (.slice a75 ((vY rest (parts[vK.length]!) (-n)).length) c76) (vY rest (parts[vK.length]!) (-n))) :: (isF false Fparts (.slice (aa b60 o61) parts.length xX) parts) :: (isF false G96 (.slice a91 ((vK++[(n:Int)]).length) c92) (vK++[(n:Int)])) :: (zi true jR Qr (gath out (begins vK (jA parts (f - 1) vK.length rest n)))) :: (isF false G96 (.slice a91 (vK.length+1) c92) (vK++[(n:Int)])) :: (isF true G96 (.slice a91 (vK.length+1) c92) (vK++[(n:Int)])) :: (isF false G94 (.slice a75 ((vY rest (parts[vK.length]!) (-n)).length) c76) (vY rest (parts[vK.length]!) (-n))) :: (isF true G94 (.slice a75 ((vY rest (parts[vK.length]!) (-n)).length) c76) (vY rest (parts[vK.length]!) (-n))) :: (isF false Fe63 (.slice ae63 ((parts[vK.length]!).length) ce63) (parts[vK.length]!)) :: (atF b60 (o61+(vK.length:Int).toNat * 1) [.slice ae63 ((parts[vK.length]!).length) ce63]) :: (isF false Frest (.slice arest rest.length crest) rest) :: (isF false Fparts (.slice (aa b60 o61) parts.length xX) parts) :: (isF false Fbegin (.slice abegin vK.length cbegin) vK) :: Γ):=by (try rw [← hn98]);exact H.YV 5 10 [3,4,0,1,2] [2,7,0,9,0,1,2,3,4,5,6,7,8] qo qo
  have N1:Fresh _ (jR :: G96 :: G94 :: Ns):=(N.YV 3 [2,0,1] qo)
  have K1:Kept (Ns) ((isF false G96 (.slice a91 (vK.length+1) c92) (vK++[(n:Int)])) :: (isF true G96 (.slice a91 (vK.length+1) c92) (vK++[(n:Int)])) :: (sF false G94 a75 c76 (vY rest (parts[vK.length]!) (-n))) :: (sF true G94 a75 c76 (vY rest (parts[vK.length]!) (-n))) :: (sF false Fe63 ae63 ce63 (parts[vK.length]!)) :: (atF b60 (o61+(vK.length:Int).toNat * 1) [.slice ae63 ((parts[vK.length]!).length) ce63]) :: (sF false Frest arest crest rest) :: (sF false Fparts (aa b60 o61) xX parts) :: (sF false Fbegin abegin cbegin vK) :: Γ):=K0.behind 9 rfl
  replace K1:=K1.cons (F:=G94) 2 rfl rfl
  replace K1:=K1.cons (F:=G96) 0 rfl rfl
  refine sw (o_callF #[.slice a75 ((vY rest (parts[vK.length]!) (-n)).length) c76,.slice (aa b60 o61) parts.length xX,.slice a91 (vK.length+1) c92,pp bout 0] rfl rfl call171 (YM (by first | rfl | rw [hn98]) (IH (f - 1) qf (vY rest (parts[vK.length]!) (-n)) parts (vK++[(n:Int)]) (gath out (begins vK (jA parts (f - 1) vK.length rest n))) a75 c76 G94 (aa b60 o61) xX Fparts a91 c92 G96 bout zW zt zL Qr jR H1 N1 K1 (by simp only [List.length_append,List.length_cons,List.length_nil];omega) (by first | assumption | exact u4) (by first | assumption | (simp only [List.length_nil];omega) | omega))) ?_)
  clear H H1 N1 K1
  rintro _ w99 ⟨ra100,rn100,rc100,rx100,rF100,rfl,N,H⟩
  obtain rfl:=H.zh (α:=yLI) 1 rfl 3 rfl qj
  refine xZ (b_n (t_n (xY (sp (yI n) (sw (zC n 1 rfl rfl qf (sp (yI (n+1)) (xZ ?_))))))))
  refine xf (m' :=(jm (parts[vK.length]!) rest+1 - ((n+1):Int)).toNat) qf ⟨_,n+1,ra100,(gath (gath out (begins vK (jA parts (f - 1) vK.length rest n))) (begins (vK++[(n:Int)]) (packs parts (parts.length - (vK++[(n:Int)]).length) (vK++[(n:Int)]).length (vY rest (parts[vK.length]!) (-n))))).length,rc100,(gath (gath out (begins vK (jA parts (f - 1) vK.length rest n))) (begins (vK++[(n:Int)]) (packs parts (parts.length - (vK++[(n:Int)]).length) (vK++[(n:Int)]).length (vY rest (parts[vK.length]!) (-n))))),rx100,rF100,uE6,?_,?_,rfl,(N.YV 3 [0] qo),H.YV 5 13 [0,1] [10,11,12,3] qo qo⟩
  · exact pack_step p0 qf qf
  · omega
 refine c_exit (t_x (t_x (b_x (ret0 rfl ⟨_,rfl,?_⟩))))
 rw [pack_end p0 qf qf qf (by first | (left;omega) | (right;omega))]
 exact ⟨zW,zt,zL,Qr,jR,rfl,N,H.YV 2 6 [0,1] [2,3,4,5] qo qo⟩

theorem l01Pack_ok (f:Nat):l01Pack_ok_S f:=Nat.strongRecOn (motive:=l01Pack_ok_S) f fun f IH=>by unfold l01Pack_ok_S;intros;apply l01Pack_ok_step f IH <;> assumption

theorem l01All_ok (w:World) (b:yLI) (parts:yLL) {ab:yOA} {Fb:yLN} {zk:yOA} {xX:Nat} {Fparts:yLN} (hb:qO.rep w Fb [.slice ab b.length cb] b) (hparts:qO.rep w Fparts [.slice zk parts.length xX] parts) (p0:Yq parts b):Calls Tryz.prog 136 #[.slice ab b.length cb,.slice zk parts.length xX] w (Ret (fun v w' =>∃ (ra0:yOA) (rn0:Nat) (rc0:Nat) (rx0:List Value) (rF0:yLN),v=.tuple #[.slice ra0 rn0 rc0,yI ((vg b parts).2)]∧Fresh w.heap.size [rF0]∧St w w' [rr ra0 rn0 rc0 22 1 rx0] [zi true rF0 rx0 ((vg b parts).1)]) w):=by
 refine en func136 ntmps136 ?_
 have H:=((St.start w).arg hparts).arg hb
 have nhb:=qK hb
 have nhparts:=qK hparts
 clear hb hparts
 have N:=Fresh.nil w.heap.size
 have p3:=p0.small
 have p4:=p0.smallB
 refine zcr (sps [yN,yI 0] (zjcc (sp (.slice ab b.length cb) (sw (oq (YQ _ b (H.get 0 rfl).1 (by first | assumption | exact vJ ql | exact Qo ql)) H fun w1 H=>sp (.bool (decide ((VN b:Int) > 16))) (zjn (cD rfl (fun h3=>?_) (fun h3=>?_))))))))
 ·skip
  refine zcr (sw (vG H underlying27 ti22 fun b4 w5 H=>sps [.slice (aa b4 0) 0 0,yI 3] (zjr (t_r ?_))))
  replace H:=H.boxRow 0 rfl 1 0 rfl qj
  replace H:=H.vI (α:=yLI)
  refine ret2 (.slice (aa b4 0) 0 0) (yI 3) rfl rfl rfl ⟨_,rfl,?_,H.base⟩
  first | rw [all_a ql] | rw [all_b ql ql]
  exact ⟨(aa b4 0),0,0,[],[],rfl,N.emp,H.pick [0] [0]⟩
 refine qU (t_n (zcr (sw (vG H underlying27 ti22 fun b6 w7 H=>sw (zf H ti27 [yN] fun b8 w9 H=>sw (zJ H 0 [.slice (aa b6 0) 0 0] sizeOf27 fun w10 H=>zjc (sps [.slice ab b.length cb,.slice zk parts.length xX] (sw (vG H underlying22 ti2 fun b11 w12 H=>?_)))))))))
 replace H:=H.boxRowI 0 [] 0
 obtain ⟨G13,N,hn14,H⟩:=H.vS 0 rfl N (H.jQ [])
 replace H:=H.unfreeI 0 rfl
 have hn15:=H.isLen 0 rfl
 replace H:=H.boxRow 2 rfl 1 0 rfl qj
 replace H:=H.vI (α:=yLI)
 have H1:St w w12 [.box b8 [.slice (aa b6 0) 0 0] 27,.row (.slice (aa b6 0) 0 0) 22 1 0 [],.row yN 0 1 0 []] [isF false Fb (.slice ab b.length cb) b,isF false Fparts (.slice zk parts.length xX) parts,isF false G13 (.slice (aa b11 0) (([]:yLI).length) 0) ([]:yLI),zi true [] [] ([]:yLL),isF false G13 (.slice (aa b11 0) 0 0) ([]:yLI),isF true G13 (.slice (aa b11 0) 0 0) ([]:yLI),isF false Fb (.slice ab b.length cb) b,isF false Fparts (.slice zk parts.length xX) parts]:=by (try rw [← hn15]);exact H.pick [1,2,0] [3,4,1,0,1,2,3,4]
 have N1:Fresh _ [[],G13]:=N.emp
 have K1:Kept [] [isF false G13 (.slice (aa b11 0) 0 0) ([]:yLI),isF true G13 (.slice (aa b11 0) 0 0) ([]:yLI),sF false Fb ab cb b,sF false Fparts zk xX parts]:=Kept.nil _
 replace K1:=K1.cons (F:=G13) 0 rfl rfl
 refine sw (o_callF #[.slice ab b.length cb,.slice zk parts.length xX,.slice (aa b11 0) 0 0,pp b8 0] rfl rfl call171 (YM (by first | rfl | rw [hn15]) (l01Pack_ok (parts.length - ([]:yLI).length) b parts ([]:yLI) ([]:yLL) ab cb Fb zk xX Fparts (aa b11 0) 0 G13 b8 (aa b6 0) 0 0 [] [] H1 N1 K1 (by simp only [List.length_append,List.length_cons,List.length_nil];omega) (by first | assumption | exact u4) (by first | assumption | (simp only [List.length_nil];omega) | omega))) ?_)
 clear H H1 N1 K1
 rintro _ w16 ⟨ra17,rn17,rc17,rx17,rF17,rfl,N,H⟩
 obtain rfl:=H.zh (α:=yLI) 1 rfl 3 rfl qj
 refine zjcc (oL rfl (H.cell 0 rfl rfl) (oN rfl (sp (.bool (decide (((gath ([]:yLL) (begins ([]:yLI) (packs parts (parts.length - ([]:yLI).length) ([]:yLI).length b))).length:Int) > 2000))) (zjn (cD rfl (fun h18=>?_) (fun h18=>?_))))))
 ·skip
  refine zcr (sw (vG H underlying27 ti22 fun b19 w20 H=>sps [.slice (aa b19 0) 0 0,yI 3] (zjr (t_r ?_))))
  replace H:=H.boxRow 0 rfl 1 0 rfl qj
  replace H:=H.vI (α:=yLI)
  refine ret2 (.slice (aa b19 0) 0 0) (yI 3) rfl rfl rfl ⟨_,rfl,?_,H.base⟩
  first | rw [all_a ql] | rw [all_b ql ql]
  exact ⟨(aa b19 0),0,0,[],[],rfl,(N.emp.pick [0]),H.pick [0] [0]⟩
 refine qU (t_n (zcr (oL rfl (H.cell 0 rfl rfl) (sps [.slice ra17 ((gath ([]:yLL) (begins ([]:yLI) (packs parts (parts.length - ([]:yLI).length) ([]:yLI).length b))).length) rc17,yI 0] (zjr (ret2 (.slice ra17 ((gath ([]:yLL) (begins ([]:yLI) (packs parts (parts.length - ([]:yLI).length) ([]:yLI).length b))).length) rc17) (yI 0) rfl rfl rfl ⟨_,rfl,?_,H.base⟩))))))
 rw [all_0 ql ql]
 exact ⟨ra17,(gath ([]:yLL) (begins ([]:yLI) (packs parts (parts.length - ([]:yLI).length) ([]:yLI).length b))).length,rc17,rx17,rF17,rfl,(N.pick [0]),H.pick [1] [3]⟩
theorem l03Before_ok (w:World) (a:yLI) (b:yLI) {aa:yOA} {Fa:yLN} {ab:yOA} {Fb:yLN} (ha:qO.rep w Fa [.slice aa a.length ca] a) (hb:qO.rep w Fb [.slice ab b.length cb] b) (p0:a.length=b.length):Calls Tryz.prog 102 #[.slice aa a.length ca,.slice ab b.length cb] w (Ret (fun v w' =>v=.bool (dec (ahead a b))) w):=by
 refine en func102 ntmps102 ?_
 have H:=((St.start w).arg hb).arg ha
 have nha:=qK ha
 have nhb:=qK hb
 clear ha hb
 have N:=Fresh.nil w.heap.size
 refine zcr (sp (.bool false) (zjcc (sp (yI 0) (zjn (qX ?_)))))
 refine zu (fun m' ρ w1=>∃ (xU:Env) (i:Nat),ρ=upd (upd (upd xU 0 (.slice aa a.length ca)) 1 (.slice ab b.length cb)) 5 (yI i)∧((i:Int)≤a.length)∧(SameTo a b i)∧m' =(a.length - (i:Int)).toNat∧Fresh w.heap.size []∧St w w1 [] [sF false Fa aa ca a,sF false Fb ab cb b]) ((a.length - (0:Int)).toNat) ⟨_,0,uE3,qf,(by exact fun j hj=>by omega),rfl,N,H⟩ ?_
 clear H N
 rintro m' ρ w2 ⟨xU,i,rfl,i0,i1,rfl,N,H⟩
 refine zcc (sps [yI i,.slice aa a.length ca] (oN rfl (sp (.bool (decide ((i:Int) < a.length))) (zjn (cD rfl (fun h3=>?_) (fun h3=>?_))))))
 ·skip
  refine qU (t_n (xQ (qX (xQ ?_))))
  refine vT rfl H fun H=>rtp 0 (.slice aa a.length ca) H ?_
  refine rtp 1 (yI i) H ?_
  obtain ⟨b5,o6,rfl⟩:=H.addr 0 rfl qf
  refine tI 2 rfl rfl rfl H ?_
  refine tL 3 rfl rfl (fun _ h=>h.yu 0 rfl i qf) H ?_
  refine rtp 4 (.slice ab b.length cb) H ?_
  refine rtp 5 (yI i) H ?_
  obtain ⟨b8,o9,rfl⟩:=H.addr 1 rfl qf
  refine tI 6 rfl rfl rfl H ?_
  refine tL 7 rfl rfl (fun _ h=>h.yu 1 rfl i qf) H ?_
  refine rtp 8 (.bool ((a[i]! :Int) != (b[i]!))) H ?_
  refine xO qh (t_n (xK ((a[i]! :Int) != (b[i]!)) rfl (fun h11=>?_) (fun h11=>?_)))
  ·skip
   replace h11:=bne_iff_ne.1 h11
   refine xQ ?_
   refine vT rfl H fun H=>rtp 0 (.slice (aa b5 o6) a.length ca) H ?_
   refine rtp 1 (yI i) H ?_
   refine tI 2 rfl rfl rfl H ?_
   refine tL 3 rfl rfl (fun _ h=>h.yu 0 rfl i qf) H ?_
   refine rtp 4 (.slice (aa b8 o9) b.length cb) H ?_
   refine rtp 5 (yI i) H ?_
   refine tI 6 rfl rfl rfl H ?_
   refine tL 7 rfl rfl (fun _ h=>h.yu 1 rfl i qf) H ?_
   refine rtp 8 (.bool (decide ((a[i]! :Int) < (b[i]!)))) H ?_
   refine rtp 9 (.bool (decide ((a[i]! :Int) < (b[i]!)))) H ?_
   refine xO qh (t_n (c_ret (zr5 (ret1 (.bool (decide ((a[i]! :Int) < (b[i]!)))) rfl rfl ⟨_,rfl,?_,H.base⟩))))
   first | rw [xx (ahead_same (show SameTo a b a.length from fun j hj=>i1 j qf))] | rw [show decide (a[i]! < b[i]!)=dec (ahead a b) from dec_eq ⟨fun h=>ahead_yes i1 qf (of_decide_eq_true h),fun h=>decide_eq_true (Classical.byContradiction fun h1=>ahead_no i1 h1 ‹_› h)⟩]
  replace h11:=xq h11
  refine qU (b_n (t_n (xY (sp (yI i) (sw (zC i 1 rfl rfl qf (sp (yI (i+1)) (xZ (xf (m' :=(a.length - ((i+1):Int)).toNat) qf ⟨_,i+1,uE3,?_,?_,rfl,N,H⟩)))))))))
  · omega
  · exact i1.succ qg
 refine zx4 (zcr (sp (.bool false) (zjr (ret1 (.bool false) rfl rfl ⟨_,rfl,?_,H.base⟩))))
 first | rw [xx (ahead_same (show SameTo a b a.length from fun j hj=>i1 j qf))] | rw [show decide (a[i]! < b[i]!)=dec (ahead a b) from dec_eq ⟨fun h=>ahead_yes i1 qf (of_decide_eq_true h),fun h=>decide_eq_true (Classical.byContradiction fun h1=>ahead_no i1 h1 ‹_› h)⟩]

theorem l03Count_ok (w:World) (all:List yLL) {aall:yOA} {call:Nat} {Fall:yLN} (hall:qO.rep w Fall [.slice aall all.length call] all) (p0:∀ j,j≤all.length→((Xf all j:Nat):Int)≤2862423051509815793):Calls Tryz.prog 100 #[.slice aall all.length call] w (Ret (fun v w' =>v=yI ((Xf all all.length:Nat):Int)) w):=by
 refine en func100 ntmps100 ?_
 have H:=(St.start w).arg hall
 have nhall:=qK hall
 clear hall
 have N:=Fresh.nil w.heap.size
 refine zcr (sp (yI 0) (zjc (sp (yI 1) (zjcc (sp (yI 0) (zjn (qX ?_)))))))
 refine zu (fun m' ρ w1=>∃ (xU:Env) (n:Int) (i:Nat),ρ=upd (upd (upd xU 0 (.slice aall all.length call)) 3 (yI n)) 4 (yI i)∧n=((Xf all i:Nat):Int)∧((i:Int)≤all.length)∧m' =(all.length - (i:Int)).toNat∧Fresh w.heap.size []∧St w w1 [] [sF false Fall aall call all]) ((all.length - (0:Int)).toNat) ⟨_,1,0,uE3,(by rfl),qf,rfl,N,H⟩ ?_
 clear H N
 rintro m' ρ w2 ⟨xU,n,i,rfl,rfl,i0,rfl,N,H⟩
 have pm:=prod_mul all i
 have pb:=fun h=>p0 (i+1) h
 have pn:=Int.natCast_nonneg (Xf all (i+1))
 refine zcc (sps [yI i,.slice aall all.length call] (oN rfl (sp (.bool (decide ((i:Int) < all.length))) (zjn (cD rfl (fun h3=>?_) (fun h3=>?_))))))
 ·skip
  refine qU (t_n (xQ (qX (xY (sps [yI ((Xf all i:Nat):Int),.slice aall all.length call,yI i] ?_)))))
  obtain ⟨b4,o5,rfl⟩:=H.addr 0 rfl qf
  obtain ⟨ae7,ce7,Fe7,H⟩:=H.vM 0 rfl i i qf qf qf
  refine oI rfl rfl (oL rfl (H.xW 1 rfl 0 rfl) (oN rfl (sw (o_mul ((Xf all i:Nat):Int) ((all[i]!).length) rfl rfl qf (sp (yI (((Xf all i:Nat):Int) * ((all[i]!).length))) (xZ (b_n (t_n (xY (sp (yI i) (sw (zC i 1 rfl rfl qf (sp (yI (i+1)) (xZ (xf (m' :=(all.length - ((i+1):Int)).toNat) qf ⟨_,((Xf all i:Nat):Int) * ((all[i]!).length),i+1,uE3,?_,?_,rfl,N,H.pick [] [2]⟩)))))))))))))))
  · exact prod_mul all i
  · omega
 refine zx4 (zcr (sps [yI ((Xf all i:Nat):Int),yI ((Xf all i:Nat):Int)] (zjr (ret1 (yI ((Xf all i:Nat):Int)) rfl rfl ⟨_,rfl,?_,H.base⟩))))
 rw [show i=all.length by omega]

theorem l03Choices_ok (w:World) (s:qG) (t:qJ) {qB:yOA} {qZ:yLN} {qL:yOA} {xE:yLN} {qV:yOA} {xR:yLN} {xn:yOA} {zy:yLN} {qN:yOA} {xH:yLN} (hs:ve w bs os (yS s qB qy qL qI)) (xe:qO.rep w qZ [.slice qB s.qw.length qy] s.qw) (xJ:qO.rep w xE [.slice qL s.qx.length qI] s.qx) (ht:ve w bt ot (yT t qV qR xn xk qN qM)) (zl:qO.rep w xR [.slice qV t.qA.length qR] t.qA) (zK:qO.rep w zy [.slice xn t.qE.length xk] t.qE) (xP:qO.rep w xH [.slice qN t.qC.length qM] t.qC) (p0:jO s) (p1:zF s t):Calls Tryz.prog 58 #[pp bs os,pp bt ot] w (Ret (fun v w' =>∃ (ra0:yOA) (rn0:Nat) (rc0:Nat) (rx0:List Value) (rF0:yLN),v=.tuple #[.slice ra0 rn0 rc0,yI ((xB s t).2)]∧Fresh w.heap.size [rF0]∧St w w' [rr ra0 rn0 rc0 22 1 rx0] [zi true rF0 rx0 ((xB s t).1)]) w):=by
 refine en func58 ntmps58 ?_
 have H:=(((((((St.start w).arg xP).arg zK).arg zl).XW ht).arg xJ).arg xe).XW hs
 have zY:=qK xe
 have jb:=qK xJ
 have Qd:=qK zl
 have QQ:=qK zK
 have jP:=qK xP
 clear hs xe xJ ht zl zK xP
 have N:=Fresh.nil w.heap.size
 have p2:=p0.2.1
 have p3:=p0.1.2.1
 have p4:=p1.1
 have p5:=p1.2.1
 refine zcr (sps [yN,yI 0] (zjc (sps [pp bs os,pp bt ot] (sw (vF #[pp bs os,pp bt ot] rfl rfl call99 (en func99 ntmps99 ?_))))))
 refine zcr (sps [yN,yN,yI 0] (zjc (sps [pp bs os,pp bt ot] ?_)))
 have sz4:=H.base.size
 refine sw (oc (l03Applicable_ok _ s t (qF (H.get 0 rfl) 0 3) (H.get 1 rfl).1 (H.get 2 rfl).1 (qF (H.get 3 rfl) 0 3) (H.get 4 rfl).1 (H.get 5 rfl).1 (H.get 6 rfl).1 qg qg) ?_)
 rintro _ w2 ⟨ra1,rn1,rc1,rfl,M,K⟩ _
 replace H:=H.merge K M
 obtain rfl:=H.rowNB 0 rfl
 have al:=appl_len s t
 refine sp (.slice ra1 ((appl s t).length) rc1) (zjc (sw (vG H underlying113 ti118 fun b7 w8 H=>sp (.slice (aa b7 0) 0 0) (zjc (sw (vG H underlying114 ti27 fun b9 w10 H=>sp (.slice (aa b9 0) 0 0) (zjcc (sp (yI 0) (zjn (qX ?_))))))))))
 refine zu (fun m' ρ w11=>∃ (xU:Env) (c:Nat),ρ=upd (upd (upd (upd (upd (upd xU 0 (pp bs os)) 1 (pp bt ot)) 7 (.slice ra1 ((appl s t).length) rc1)) 8 (.slice (aa b7 0) 0 0)) 9 (.slice (aa b9 0) 0 0)) 10 (yI c)∧((c:Int)≤s.qw.length)∧m' =(s.qw.length - (c:Int)).toNat∧Fresh w.heap.size []∧St w w11 [.box b9 [] 27,.box b7 [] 118,rr ra1 ((appl s t).length) rc1 4 1 ((appl s t).map (Value.bool))] [atF bs os (yS s qB qy qL qI),sF false qZ qB qy s.qw,sF false xE qL qI s.qx,atF bt ot (yT t qV qR xn xk qN qM),sF false xR qV qR t.qA,sF false zy xn xk t.qE,sF false xH qN qM t.qC]) ((s.qw.length - (0:Int)).toNat) ⟨_,0,uE6,qf,rfl,N,H⟩ ?_
 clear H N
 rintro m' ρ w12 ⟨xU,c,rfl,i0,rfl,N,H⟩
 refine zcc (sps [yI c,pp bs os,pp bs os] (oF rfl (oL rfl (H.xW 0 rfl 1 rfl) (oN rfl (sp (.bool (decide ((c:Int) < s.qw.length))) (zjn (cD rfl (fun h13=>?_) (fun h13=>?_))))))))
 ·skip
  refine qU (t_n (xQ (qX (zcr (sps [pp bs os,.slice ra1 ((appl s t).length) rc1,yI c] (sw (vF #[pp bs os,.slice ra1 ((appl s t).length) rc1,yI c] rfl rfl call135 (en func135 ntmps135 ?_))))))))
  refine zcr (sps [yN,yN] (zjc (sw (vG H underlying118 ti3 fun b14 w15 H=>sp (.slice (aa b14 0) 0 0) (zjc (sw (vG H underlying27 ti22 fun b16 w17 H=>sp (.slice (aa b16 0) 0 0) (zjcc (sp (yI 0) (zjn (qX ?_)))))))))))
  replace H:=H.boxRowI 1 [] 0
  replace H:=H.boxRow 0 rfl 1 0 rfl qj
  replace H:=H.vI (α:=yLI)
  replace H:=H.unfree 0 rfl
  refine zu (fun m' ρ w18=>∃ (xU:Env) (jw:yOA) (vN:Nat) (jl:Nat) (rules:yLI) (yQ:yOA) (jI:Nat) (yK:Nat) (needs:yLL) (X7:List Value) (YO:yLN) (i:Nat),ρ=upd (upd (upd (upd (upd (upd xU 0 (pp bs os)) 1 (.slice ra1 ((appl s t).length) rc1)) 2 (yI c)) 8 (.slice jw vN jl)) 9 (.slice yQ jI yK)) 10 (yI i)∧rules=(cellT s t i c)∧needs=(zq s (cellT s t i c))∧((i:Int)≤((appl s t).length))∧m' =(((appl s t).length) - (i:Int)).toNat∧Fresh w.heap.size []∧St w w18 [rr yQ jI yK 22 1 X7,rr jw vN jl 3 1 (rules.map (Value.int .i64)),.box b9 [] 27,.box b7 [] 118,rr ra1 ((appl s t).length) rc1 4 1 ((appl s t).map (Value.bool))] [zi false YO X7 needs,atF bs os (yS s qB qy qL qI),sF false qZ qB qy s.qw,sF false xE qL qI s.qx,atF bt ot (yT t qV qR xn xk qN qM),sF false xR qV qR t.qA,sF false zy xn xk t.qE,sF false xH qN qM t.qC]) ((((appl s t).length) - (0:Int)).toNat) ⟨_,(aa b14 0),0,0,([]:yLI),(aa b16 0),0,0,([]:yLL),[],[],0,uE6,(by rfl),(by rfl),qf,rfl,N,H.pick [0,1,2,3,4] [0,2,3,4,5,6,7,8]⟩ ?_
  clear H N
  rintro m' ρ w19 ⟨xU,jw,vN,jl,rules,yQ,jI,yK,needs,X7,YO,i,rfl,rfl,rfl,i0,rfl,N,H⟩
  have hn_rules:=H.Vq 1 rfl
  have hn_needs:=H.zh (α:=yLI) 0 rfl 0 rfl qj
  have tl:=cellT_le s t i c
  have nl:=Vr s (cellT s t i c)
  refine zcc (sps [yI i,.slice ra1 ((appl s t).length) rc1] (oN rfl (sp (.bool (decide ((i:Int) < ((appl s t).length)))) (zjn (cD rfl (fun h20=>?_) (fun h20=>?_))))))
  ·skip
   refine qU (t_n (xQ (qX (zcr (sps [.slice ra1 ((appl s t).length) rc1,yI i] ?_)))))
   obtain ⟨b21,rfl⟩:=H.Qh 4 rfl qf
   refine oI rfl rfl (oL rfl (H.rowBool 4 rfl (iv:=i) (i:=i) qf qf) (sp (.bool ((appl s t)[i]!)) ?_))
   cases h22:((appl s t)[i]!)
   ·skip
    refine zo [24,25,26,27,28,29,30,31,32,33] (sp (.bool false) (zjn (xK false rfl (fun h=>absurd h qj) (fun _=>qU (b_n (t_n (xY (sp (yI i) (sw (zC i 1 rfl rfl qf (sp (yI (i+1)) (xZ (xf (m' :=(((appl s t).length) - ((i+1):Int)).toNat) qf ⟨_,jw,vN,jl,(cellT s t i c),yQ,jI,yK,(zq s (cellT s t i c)),X7,YO,i+1,uE6,?_,?_,?_,rfl,N,H⟩)))))))))))))
    · first | exact cellT_yes (Q9 qf ‹_›) ‹_› | exact XT (Qy qf ‹_›) | exact Xk ‹_›
    · first | exact needs_yes (Q9 qf ‹_›) ‹_› | exact congrArg (zq s) (XT (Qy qf ‹_›)) | exact congrArg (zq s) (Xk ‹_›)
    · omega
   refine qP 23 rfl rfl (sp (pp bs os) (qP 23 rfl rfl (sp (pp bs os) (qP 23 rfl rfl (oF rfl (qP 23 rfl rfl (oL rfl (H.xW 1 rfl 2 rfl) (qP 23 rfl rfl (sp (yI i) (qP 23 rfl rfl ?_))))))))))
   obtain ⟨b23,o24,rfl⟩:=H.addr 3 rfl qf
   obtain ⟨ae26Need,ce26Need,Fe26Need,ae26Have,ce26Have,Fe26Have,ae26Lack,ce26Lack,Fe26Lack,ae26Here,ce26Here,Fe26Here,ae26Out,ce26Out,Fe26Out,ae26Into,ce26Into,Fe26Into,H⟩:=H.yt 3 rfl i i qf qf qf
   refine oI rfl rfl (qP 23 rfl rfl (oF rfl (qP 23 rfl rfl (oL rfl (H.xW 6 rfl 0 rfl) (qP 23 rfl rfl (sp (yI c) (qP 23 rfl rfl (sps [.bool (((s.qx[i]!).qH:Int) == c),.bool (((s.qx[i]!).qH:Int) == c)] (zjn (cE rfl (fun h27=>?_) (fun h27=>?_)))))))))))
   ·skip
    refine zcr (sps [.slice jw vN jl,yI i] (sw (zG H underlying118 ti3 [yI i] fun b28 w29 H=>sw (zQ H 2 rfl 0 rfl underlying118 ti3 rfl qj rfl rfl rfl (by simp [Value.oneCell',Value.cells]) qp qf fun a30 c31 w32 H=>?_))))
    rw [snocI] at H
    refine sp (.slice a30 (vN+1) c31) (zjn (xY (sps [.slice yQ jI yK,pp bs os,pp bs os] (oF rfl (oL rfl (H.xW 8 rfl 2 rfl) (sp (yI i) (oI rfl rfl (oF rfl (oL rfl (H.xW 6 rfl 2 rfl) (sw (zG H underlying27 ti22 [.slice ae26Need (((s.qx[i]!).xm).length) ce26Need] fun b33 w34 H=>sw (zQ H 2 rfl 0 rfl underlying27 ti22 rfl qj rfl rfl rfl (by simp [Value.oneCell',Value.cells]) qp qf fun a35 c36 w37 H=>?_))))))))))))
    replace H:=H.jW 7 rfl 0 rfl
    refine sp (.slice a35 (jI+1) c36) (xZ (b_n (t_n (xY (sp (yI i) (sw (zC i 1 rfl rfl qf (sp (yI (i+1)) (xZ (xf (m' :=(((appl s t).length) - ((i+1):Int)).toNat) qf ⟨_,a30,vN+1,c31,((cellT s t i c)++[(i:Int)]),a35,jI+1,c36,((zq s (cellT s t i c))++[(s.qx[i]!).xm]),X7++[.slice ae26Need (((s.qx[i]!).xm).length) ce26Need],(YO++Fe26Need),i+1,uE6,?_,?_,?_,rfl,N,H.pick [2,3,4,5,6] [0,9,10,11,12,13,14,15]⟩))))))))))
    · first | exact cellT_yes (Q9 qf ‹_›) ‹_› | exact XT (Qy qf ‹_›) | exact Xk ‹_›
    · first | exact needs_yes (Q9 qf ‹_›) ‹_› | exact congrArg (zq s) (XT (Qy qf ‹_›)) | exact congrArg (zq s) (Xk ‹_›)
    · omega
   refine qU (b_n (t_n (xY (sp (yI i) (sw (zC i 1 rfl rfl qf (sp (yI (i+1)) (xZ (xf (m' :=(((appl s t).length) - ((i+1):Int)).toNat) qf ⟨_,jw,vN,jl,(cellT s t i c),yQ,jI,yK,(zq s (cellT s t i c)),X7,YO,i+1,uE6,?_,?_,?_,rfl,N,H.pick [0,1,2,3,4] [7,8,9,10,11,12,13,14]⟩)))))))))
   · first | exact cellT_yes (Q9 qf ‹_›) ‹_› | exact XT (Qy qf ‹_›) | exact Xk ‹_›
   · first | exact needs_yes (Q9 qf ‹_›) ‹_› | exact congrArg (zq s) (XT (Qy qf ‹_›)) | exact congrArg (zq s) (Xk ‹_›)
   · omega
  refine zx4 (zcr (sps [.slice jw vN jl,.slice yQ jI yK,.slice jw vN jl,.slice yQ jI yK] (zjr (ret2 (.slice jw vN jl) (.slice yQ jI yK) rfl rfl rfl ⟨_,rfl,?_⟩))))
  obtain rfl:i=s.qx.length:=by omega
  rw [show cellT s t s.qx.length c=zH s t c from rfl] at H hn_rules hn_needs
  refine sps [.tuple #[.slice jw vN jl,.slice yQ jI yK],.slice jw vN jl,.slice yQ jI yK,.slice jw vN jl,.slice yQ jI yK] (zjc (sp (.slice jw vN jl) (oN rfl (sps [.bool (decide ((vN:Int) > 0)),.bool (decide ((vN:Int) > 0))] ?_))))
  cases h38:(decide ((vN:Int) > 0))
  ·skip
   replace h38:=of_decide_eq_false h38
   refine zo [43,44,45,46,47,48,49,50,51] (sp (.bool false) (zjn (xK false rfl (fun h=>absurd h qj) (fun _=>qU (b_n (t_n (xY (sp (yI c) (sw (zC c 1 rfl rfl qf (sp (yI (c+1)) (xZ (xf (m' :=(s.qw.length - ((c+1):Int)).toNat) qf ⟨_,c+1,uE6,?_,rfl,N,H.pick [2,3,4] [1,2,3,4,5,6,7]⟩)))))))))))))
   · omega
  replace h38:=of_decide_eq_true h38
  refine qP 42 rfl rfl (sp (pp bt ot) (qP 42 rfl rfl (sp (pp bt ot) (qP 42 rfl rfl (oF rfl (qP 42 rfl rfl (oL rfl (H.xW 4 rfl 1 rfl) (qP 42 rfl rfl (sp (yI c) (qP 42 rfl rfl ?_))))))))))
  obtain ⟨b39,o40,rfl⟩:=H.addr 6 rfl qf
  obtain ⟨ae42,ce42,Fe42,H⟩:=H.vM 6 rfl c c qf qf qf
  refine oI rfl rfl (qP 42 rfl rfl (oL rfl (H.xW 1 rfl 0 rfl) (qP 42 rfl rfl ?_)))
  have sm:=vJ (p1.2.2.2.2 c qf).1
  refine sw (oq (YQ _ (t.qE[c]!) (H.get 0 rfl).1 (by first | assumption | exact vJ ql | exact Qo ql)) H fun w43 H=>qP 42 rfl rfl (sps [.bool (decide ((VN (t.qE[c]!):Int) > 16)),.bool (decide ((VN (t.qE[c]!):Int) > 16))] (zjn (cD rfl (fun h45=>?_) (fun h45=>?_)))))
  ·skip
   refine zcr (sps [.slice (aa b7 0) 0 0,.slice (aa b9 0) 0 0,.slice (aa b7 0) 0 0,.slice (aa b9 0) 0 0,yI 3] (zjr (zr5 (ret3 (.slice (aa b7 0) 0 0) (.slice (aa b9 0) 0 0) (yI 3) rfl rfl rfl rfl ⟨_,rfl,?_⟩))))
   replace H:=H.erases [4,1,0]
   dsimp only [vU,List.eraseIdx] at H
   refine sps [.tuple #[.slice (aa b7 0) 0 0,.slice (aa b9 0) 0 0,yI 3],.slice (aa b7 0) 0 0,.slice (aa b9 0) 0 0,yI 3,.slice (aa b7 0) 0 0,.slice (aa b9 0) 0 0,yI 3] (zjcc (sps [yI 3,.bool true] (zjn (xK true rfl (fun _=>zcr (sw (vG H underlying27 ti22 fun b46 w47 H=>sps [yI 3,.slice (aa b46 0) 0 0,yI 3] (zjr (t_r ?_))))) (fun h=>absurd h qj)))))
   replace H:=H.boxRow 0 rfl 1 0 rfl qj
   replace H:=H.vI (α:=yLI)
   refine ret2 (.slice (aa b46 0) 0 0) (yI 3) rfl rfl rfl ⟨_,rfl,?_,H.base⟩
   first | rw [cho_3 (.inl (bad_sum (c:=c) qf qf qf))] | rw [cho_3 (.inr qf)]
   exact ⟨(aa b46 0),0,0,[],[],rfl,N.emp,H.pick [0] [0]⟩
  refine qU (b_n (t_n (xY (sp (yI c) (sw (zC c 1 rfl rfl qf (sp (yI (c+1)) (xZ (xf (m' :=(s.qw.length - ((c+1):Int)).toNat) qf ⟨_,c+1,uE6,?_,rfl,N,H.pick [2,3,4] [3,4,5,6,7,8,9]⟩)))))))))
  · omega
 refine zx4 (zcc (sp (yI 0) (zjn (qX ?_))))
 replace H:=H.boxRow 1 rfl 1 0 rfl qj
 replace H:=H.vI (α:=yLI)
 replace H:=H.boxRow 0 rfl 1 0 rfl qj
 replace H:=H.vI (α:=yLL)
 refine zu (fun m' ρ w48=>∃ (xU:Env) (jw:yOA) (vN:Nat) (jl:Nat) (rules:yLL) (x_rules:List Value) (F_rules:yLN) (a_all:yOA) (X8:Nat) (YW:Nat) (all:List yLL) (x_all:List Value) (F_all:yLN) (c_1:Nat),ρ=upd (upd (upd (upd (upd (upd xU 0 (pp bs os)) 1 (pp bt ot)) 7 (.slice ra1 ((appl s t).length) rc1)) 8 (.slice jw vN jl)) 9 (.slice a_all X8 YW)) 13 (yI c_1)∧rules=(xg s t c_1)∧all=(xG s t c_1)∧((c_1:Int)≤s.qw.length)∧(GoodP s t c_1)∧m' =(s.qw.length - (c_1:Int)).toNat∧Fresh w.heap.size [F_rules,F_all]∧St w w48 [rr a_all X8 YW 27 1 x_all,rr jw vN jl 118 1 x_rules,rr ra1 ((appl s t).length) rc1 4 1 ((appl s t).map (Value.bool))] [zi true F_rules x_rules rules,zi true F_all x_all all,atF bs os (yS s qB qy qL qI),sF false qZ qB qy s.qw,sF false xE qL qI s.qx,atF bt ot (yT t qV qR xn xk qN qM),sF false xR qV qR t.qA,sF false zy xn xk t.qE,sF false xH qN qM t.qC]) ((s.qw.length - (0:Int)).toNat) ⟨_,(aa b7 0),0,0,([]:yLL),[],[],(aa b9 0),0,0,([]:List yLL),[],[],0,uE6,(by rfl),(by rfl),qf,(by exact fun j hj=>by omega),rfl,N.emp.emp,H⟩ ?_
 clear H N
 rintro m' ρ w49 ⟨xU,jw,vN,jl,rules,x_rules,F_rules,a_all,X8,YW,all,x_all,F_all,c_1,rfl,rfl,rfl,i0,gp,rfl,N,H⟩
 have hn_rules:=H.zh (α:=yLI) 1 rfl 0 rfl qj
 have hn_all:=H.zh (α:=yLL) 0 rfl 1 rfl qj
 have rl:=rules_le s t c_1
 have pl:=packsL_le s t c_1
 refine zcc (sps [yI c_1,pp bs os,pp bs os] (oF rfl (oL rfl (H.xW 2 rfl 1 rfl) (oN rfl (sp (.bool (decide ((c_1:Int) < s.qw.length))) (zjn (cD rfl (fun h50=>?_) (fun h50=>?_))))))))
 ·skip
  refine qU (t_n (xQ (qX (zcr (sps [pp bs os,.slice ra1 ((appl s t).length) rc1,yI c_1] (sw (vF #[pp bs os,.slice ra1 ((appl s t).length) rc1,yI c_1] rfl rfl call135 (en func135 ntmps135 ?_))))))))
  refine zcr (sps [yN,yN] (zjc (sw (vG H underlying118 ti3 fun b51 w52 H=>sp (.slice (aa b51 0) 0 0) (zjc (sw (vG H underlying27 ti22 fun b53 w54 H=>sp (.slice (aa b53 0) 0 0) (zjcc (sp (yI 0) (zjn (qX ?_)))))))))))
  replace H:=H.boxRowI 1 [] 0
  replace H:=H.boxRow 0 rfl 1 0 rfl qj
  replace H:=H.vI (α:=yLI)
  replace H:=H.unfree 0 rfl
  refine zu (fun m' ρ w55=>∃ (xU:Env) (QP:yOA) (Ql:Nat) (QO:Nat) (rules_1:yLI) (yQ:yOA) (jI:Nat) (yK:Nat) (needs:yLL) (X7:List Value) (YO:yLN) (i:Nat),ρ=upd (upd (upd (upd (upd (upd xU 0 (pp bs os)) 1 (.slice ra1 ((appl s t).length) rc1)) 2 (yI c_1)) 8 (.slice QP Ql QO)) 9 (.slice yQ jI yK)) 10 (yI i)∧rules_1=(cellT s t i c_1)∧needs=(zq s (cellT s t i c_1))∧((i:Int)≤((appl s t).length))∧m' =(((appl s t).length) - (i:Int)).toNat∧Fresh w.heap.size [F_rules,F_all]∧St w w55 [rr yQ jI yK 22 1 X7,rr QP Ql QO 3 1 (rules_1.map (Value.int .i64)),rr a_all X8 YW 27 1 x_all,rr jw vN jl 118 1 x_rules,rr ra1 ((appl s t).length) rc1 4 1 ((appl s t).map (Value.bool))] [zi false YO X7 needs,zi true F_rules x_rules (xg s t c_1),zi true F_all x_all (xG s t c_1),atF bs os (yS s qB qy qL qI),sF false qZ qB qy s.qw,sF false xE qL qI s.qx,atF bt ot (yT t qV qR xn xk qN qM),sF false xR qV qR t.qA,sF false zy xn xk t.qE,sF false xH qN qM t.qC]) ((((appl s t).length) - (0:Int)).toNat) ⟨_,(aa b51 0),0,0,([]:yLI),(aa b53 0),0,0,([]:yLL),[],[],0,uE6,(by rfl),(by rfl),qf,rfl,N,H.pick [0,1,2,3,4] [0,2,3,4,5,6,7,8,9,10]⟩ ?_
  clear H N
  rintro m' ρ w56 ⟨xU,QP,Ql,QO,rules_1,yQ,jI,yK,needs,X7,YO,i,rfl,rfl,rfl,i0,rfl,N,H⟩
  have hn_rules:=H.Vq 1 rfl
  have hn_needs:=H.zh (α:=yLI) 0 rfl 0 rfl qj
  have tl:=cellT_le s t i c_1
  have nl:=Vr s (cellT s t i c_1)
  refine zcc (sps [yI i,.slice ra1 ((appl s t).length) rc1] (oN rfl (sp (.bool (decide ((i:Int) < ((appl s t).length)))) (zjn (cD rfl (fun h57=>?_) (fun h57=>?_))))))
  ·skip
   refine qU (t_n (xQ (qX (zcr (sps [.slice ra1 ((appl s t).length) rc1,yI i] ?_)))))
   obtain ⟨b58,rfl⟩:=H.Qh 4 rfl qf
   refine oI rfl rfl (oL rfl (H.rowBool 4 rfl (iv:=i) (i:=i) qf qf) (sp (.bool ((appl s t)[i]!)) ?_))
   cases h59:((appl s t)[i]!)
   ·skip
    refine zo [24,25,26,27,28,29,30,31,32,33] (sp (.bool false) (zjn (xK false rfl (fun h=>absurd h qj) (fun _=>qU (b_n (t_n (xY (sp (yI i) (sw (zC i 1 rfl rfl qf (sp (yI (i+1)) (xZ (xf (m' :=(((appl s t).length) - ((i+1):Int)).toNat) qf ⟨_,QP,Ql,QO,(cellT s t i c_1),yQ,jI,yK,(zq s (cellT s t i c_1)),X7,YO,i+1,uE6,?_,?_,?_,rfl,N,H⟩)))))))))))))
    · first | exact cellT_yes (Q9 qf ‹_›) ‹_› | exact XT (Qy qf ‹_›) | exact Xk ‹_›
    · first | exact needs_yes (Q9 qf ‹_›) ‹_› | exact congrArg (zq s) (XT (Qy qf ‹_›)) | exact congrArg (zq s) (Xk ‹_›)
    · omega
   refine qP 23 rfl rfl (sp (pp bs os) (qP 23 rfl rfl (sp (pp bs os) (qP 23 rfl rfl (oF rfl (qP 23 rfl rfl (oL rfl (H.xW 3 rfl 2 rfl) (qP 23 rfl rfl (sp (yI i) (qP 23 rfl rfl ?_))))))))))
   obtain ⟨b60,o61,rfl⟩:=H.addr 5 rfl qf
   obtain ⟨ae63Need,ce63Need,Fe63Need,ae63Have,ce63Have,Fe63Have,ae63Lack,ce63Lack,Fe63Lack,ae63Here,ce63Here,Fe63Here,ae63Out,ce63Out,Fe63Out,ae63Into,ce63Into,Fe63Into,H⟩:=H.yt 5 rfl i i qf qf qf
   refine oI rfl rfl (qP 23 rfl rfl (oF rfl (qP 23 rfl rfl (oL rfl (H.xW 6 rfl 0 rfl) (qP 23 rfl rfl (sp (yI c_1) (qP 23 rfl rfl (sps [.bool (((s.qx[i]!).qH:Int) == c_1),.bool (((s.qx[i]!).qH:Int) == c_1)] (zjn (cE rfl (fun h64=>?_) (fun h64=>?_)))))))))))
   ·skip
    refine zcr (sps [.slice QP Ql QO,yI i] (sw (zG H underlying118 ti3 [yI i] fun b65 w66 H=>sw (zQ H 2 rfl 0 rfl underlying118 ti3 rfl qj rfl rfl rfl (by simp [Value.oneCell',Value.cells]) qp qf fun a67 c68 w69 H=>?_))))
    rw [snocI] at H
    refine sp (.slice a67 (Ql+1) c68) (zjn (xY (sps [.slice yQ jI yK,pp bs os,pp bs os] (oF rfl (oL rfl (H.xW 10 rfl 2 rfl) (sp (yI i) (oI rfl rfl (oF rfl (oL rfl (H.xW 6 rfl 2 rfl) (sw (zG H underlying27 ti22 [.slice ae63Need (((s.qx[i]!).xm).length) ce63Need] fun b70 w71 H=>sw (zQ H 2 rfl 0 rfl underlying27 ti22 rfl qj rfl rfl rfl (by simp [Value.oneCell',Value.cells]) qp qf fun a72 c73 w74 H=>?_))))))))))))
    replace H:=H.jW 7 rfl 0 rfl
    refine sp (.slice a72 (jI+1) c73) (xZ (b_n (t_n (xY (sp (yI i) (sw (zC i 1 rfl rfl qf (sp (yI (i+1)) (xZ (xf (m' :=(((appl s t).length) - ((i+1):Int)).toNat) qf ⟨_,a67,Ql+1,c68,((cellT s t i c_1)++[(i:Int)]),a72,jI+1,c73,((zq s (cellT s t i c_1))++[(s.qx[i]!).xm]),X7++[.slice ae63Need (((s.qx[i]!).xm).length) ce63Need],(YO++Fe63Need),i+1,uE6,?_,?_,?_,rfl,N,H.pick [2,3,4,5,6] [0,9,10,11,12,13,14,15,16,17]⟩))))))))))
    · first | exact cellT_yes (Q9 qf ‹_›) ‹_› | exact XT (Qy qf ‹_›) | exact Xk ‹_›
    · first | exact needs_yes (Q9 qf ‹_›) ‹_› | exact congrArg (zq s) (XT (Qy qf ‹_›)) | exact congrArg (zq s) (Xk ‹_›)
    · omega
   refine qU (b_n (t_n (xY (sp (yI i) (sw (zC i 1 rfl rfl qf (sp (yI (i+1)) (xZ (xf (m' :=(((appl s t).length) - ((i+1):Int)).toNat) qf ⟨_,QP,Ql,QO,(cellT s t i c_1),yQ,jI,yK,(zq s (cellT s t i c_1)),X7,YO,i+1,uE6,?_,?_,?_,rfl,N,H.pick [0,1,2,3,4] [7,8,9,10,11,12,13,14,15,16]⟩)))))))))
   · first | exact cellT_yes (Q9 qf ‹_›) ‹_› | exact XT (Qy qf ‹_›) | exact Xk ‹_›
   · first | exact needs_yes (Q9 qf ‹_›) ‹_› | exact congrArg (zq s) (XT (Qy qf ‹_›)) | exact congrArg (zq s) (Xk ‹_›)
   · omega
  refine zx4 (zcr (sps [.slice QP Ql QO,.slice yQ jI yK,.slice QP Ql QO,.slice yQ jI yK] (zjr (ret2 (.slice QP Ql QO) (.slice yQ jI yK) rfl rfl rfl ⟨_,rfl,?_⟩))))
  obtain rfl:i=s.qx.length:=by omega
  rw [show cellT s t s.qx.length c_1=zH s t c_1 from rfl] at H hn_rules hn_needs
  refine sps [.tuple #[.slice QP Ql QO,.slice yQ jI yK],.slice QP Ql QO,.slice yQ jI yK,.slice QP Ql QO,.slice yQ jI yK] (zjcc (sp (.slice QP Ql QO) (oN rfl (sp (.bool ((Ql:Int) == 0)) (zjn (cE rfl (fun h75=>?_) (fun h75=>?_)))))))
  ·skip
   refine c_exit (t_x (b_x (t_n (xY (sp (yI c_1) (sw (zC c_1 1 rfl rfl qf (sp (yI (c_1+1)) (xZ (xf (m' :=(s.qw.length - ((c_1+1):Int)).toNat) qf ⟨_,jw,vN,jl,(xg s t c_1),x_rules,F_rules,a_all,X8,YW,(xG s t c_1),x_all,F_all,c_1+1,uE6,?_,?_,?_,?_,rfl,N,H.pick [2,3,4] [1,2,3,4,5,6,7,8,9]⟩))))))))))
   · first | exact rules_yes qf | exact rules_no qf
   · first | exact packsL_yes qf | exact packsL_no qf
   · omega
   · exact gp.succ (by first | exact .inl qf | exact .inr (show (vg _ _).2=0 from ‹_›))
  refine qU (t_n (zcr (sps [pp bt ot,pp bt ot] (oF rfl (oL rfl (H.xW 6 rfl 1 rfl) (sp (yI c_1) ?_))))))
  obtain ⟨b76,o77,rfl⟩:=H.addr 8 rfl qf
  obtain ⟨ae79,ce79,Fe79,H⟩:=H.vM 8 rfl c_1 c_1 qf qf qf
  refine oI rfl rfl (oL rfl (H.xW 1 rfl 0 rfl) (sp (.slice yQ jI yK) ?_))
  obtain ⟨G80,hn81,h82⟩:=H.rowIsR (α:=yLI) 0 rfl 2 rfl qj
  have cp:=cell_pack p0 p1 (c:=c_1) qf
  have sz86:=H.base.size
  have lt87:=H.ltN (L:=[F_rules,F_all]) [3,4]
  refine sw (oc (YM (by rw [← hn81]) (l01All_ok _ (t.qE[c_1]!) (zq s (zH s t c_1)) (H.get 0 rfl).1 (hn81▸h82) qg)) ?_)
  rintro _ w84 ⟨ra83a,rn83a,rc83a,rx83a,rF83a,rfl,M,K⟩ _
  replace N:=N.merge sz86 lt87 M
  replace H:=H.merge K M
  obtain rfl:=H.zh (α:=yLI) 0 rfl 0 rfl qj
  refine sps [.tuple #[.slice ra83a (((vg (t.qE[c_1]!) (zq s (zH s t c_1))).1).length) rc83a,yI ((vg (t.qE[c_1]!) (zq s (zH s t c_1))).2)],.slice ra83a (((vg (t.qE[c_1]!) (zq s (zH s t c_1))).1).length) rc83a,yI ((vg (t.qE[c_1]!) (zq s (zH s t c_1))).2),.slice ra83a (((vg (t.qE[c_1]!) (zq s (zH s t c_1))).1).length) rc83a,yI ((vg (t.qE[c_1]!) (zq s (zH s t c_1))).2)] (zjcc (sps [yI ((vg (t.qE[c_1]!) (zq s (zH s t c_1))).2),.bool (((vg (t.qE[c_1]!) (zq s (zH s t c_1))).2:Int) != 0)] (zjn ?_)))
  refine xK (((vg (t.qE[c_1]!) (zq s (zH s t c_1))).2:Int) != 0) rfl (fun h89=>?_) (fun h89=>?_)
  ·skip
   replace h89:=bne_iff_ne.1 h89
   refine zcr (sps [.slice jw vN jl,.slice a_all X8 YW,yI ((vg (t.qE[c_1]!) (zq s (zH s t c_1))).2),.slice jw vN jl,.slice a_all X8 YW,yI ((vg (t.qE[c_1]!) (zq s (zH s t c_1))).2)] (zjr (t_r (zr5 (ret3 (.slice jw vN jl) (.slice a_all X8 YW) (yI ((vg (t.qE[c_1]!) (zq s (zH s t c_1))).2)) rfl rfl rfl rfl ⟨_,rfl,?_⟩)))))
   replace H:=H.erases [5,2,1,0]
   dsimp only [vU,List.eraseIdx] at H
   refine sps [.tuple #[.slice jw vN jl,.slice a_all X8 YW,yI ((vg (t.qE[c_1]!) (zq s (zH s t c_1))).2)],.slice jw vN jl,.slice a_all X8 YW,yI ((vg (t.qE[c_1]!) (zq s (zH s t c_1))).2),.slice jw vN jl,.slice a_all X8 YW,yI ((vg (t.qE[c_1]!) (zq s (zH s t c_1))).2)] (zjcc (sps [yI ((vg (t.qE[c_1]!) (zq s (zH s t c_1))).2),.bool (((vg (t.qE[c_1]!) (zq s (zH s t c_1))).2:Int) != 0)] (zjn ?_)))
   refine xK (((vg (t.qE[c_1]!) (zq s (zH s t c_1))).2:Int) != 0) rfl (fun h90=>?_) (fun h=>absurd (xq h) h89)
   replace h90:=bne_iff_ne.1 h90
   refine zcr (sw (vG H underlying27 ti22 fun b91 w92 H=>sps [yI ((vg (t.qE[c_1]!) (zq s (zH s t c_1))).2),.slice (aa b91 0) 0 0,yI ((vg (t.qE[c_1]!) (zq s (zH s t c_1))).2)] (zjr (t_r ?_))))
   replace H:=H.boxRow 0 rfl 1 0 rfl qj
   replace H:=H.vI (α:=yLI)
   refine ret2 (.slice (aa b91 0) 0 0) (yI ((vg (t.qE[c_1]!) (zq s (zH s t c_1))).2)) rfl rfl rfl ⟨_,rfl,?_,H.base⟩
   rw [cho_code (bad_code (c:=c_1) qf qf ‹_›) ‹_›]
   exact ⟨(aa b91 0),0,0,[],[],rfl,(N.emp.pick [0]),H.pick [0] [0]⟩
  replace h89:=xq h89
  refine qU (t_n (zcr (sps [.slice jw vN jl,.slice QP Ql QO] (sw (zG H underlying113 ti118 [.slice QP Ql QO] fun b93 w94 H=>?_)))))
  obtain ⟨G98,N,hn99,H⟩:=H.vS 3 rfl N (H.jQ [0,4,5])
  refine sw (zQ H 5 rfl 0 rfl underlying113 ti118 rfl qj rfl rfl rfl (by simp [Value.oneCell',Value.cells]) qp qf fun a95 c96 w97 H=>?_)
  replace H:=H.jW 5 rfl 0 rfl
  replace N:Fresh w.heap.size [(F_rules++G98),rF83a,F_all]:=(N.pick [2,0,1,3]).join
  refine sp (.slice a95 (vN+1) c96) (zjn (xY (sps [.slice a_all X8 YW,.slice ra83a (((vg (t.qE[c_1]!) (zq s (zH s t c_1))).1).length) rc83a] (sw (zG H underlying114 ti27 [.slice ra83a (((vg (t.qE[c_1]!) (zq s (zH s t c_1))).1).length) rc83a] fun b100 w101 H=>?_)))))
  have H0:=H
  obtain ⟨G105,hg107,hn106,H⟩:=H.Qs (α:=yLI) 2 rfl 2 rfl qj
  replace N:Fresh w.heap.size [G105,(F_rules++G98),F_all]:=Fresh.ice (N.pick [1,0,2]) H0 2 hg107.1 hg107.2 (H0.jQ [0,7])
  clear H0
  refine sw (zQ H 5 rfl 0 rfl underlying114 ti27 rfl qj rfl rfl rfl (by simp [Value.oneCell',Value.cells]) qp qf fun a102 c103 w104 H=>?_)
  replace H:=H.jW 8 rfl 0 rfl
  replace N:Fresh w.heap.size [(F_all++G105),(F_rules++G98)]:=(N.pick [2,0,1]).join
  refine sp (.slice a102 (X8+1) c103) (xZ (b_n (t_n (xY (sp (yI c_1) (sw (zC c_1 1 rfl rfl qf (sp (yI (c_1+1)) (xZ ?_)))))))))
  refine xf (m' :=(s.qw.length - ((c_1+1):Int)).toNat) qf ⟨_,a95,vN+1,c96,((xg s t c_1)++[(zH s t c_1)]),x_rules++[.slice QP Ql QO],(F_rules++G98),a102,X8+1,c103,((xG s t c_1)++[(vg (t.qE[c_1]!) (zq s (zH s t c_1))).1]),x_all++[.slice ra83a (((vg (t.qE[c_1]!) (zq s (zH s t c_1))).1).length) rc83a],(F_all++G105),c_1+1,uE6,?_,?_,?_,?_,rfl,(N.pick [1,0]),H.pick [5,6,7] [2,0,10,11,12,13,14,15,16]⟩
  · first | exact rules_yes qf | exact rules_no qf
  · first | exact packsL_yes qf | exact packsL_no qf
  · omega
  · exact gp.succ (by first | exact .inl qf | exact .inr (show (vg _ _).2=0 from ‹_›))
 refine zx4 (zcr (sps [.slice jw vN jl,.slice a_all X8 YW,.slice jw vN jl,.slice a_all X8 YW,yI 0] (zjr (ret3 (.slice jw vN jl) (.slice a_all X8 YW) (yI 0) rfl rfl rfl rfl ⟨_,rfl,?_⟩))))
 replace H:=H.erases [2]
 dsimp only [vU,List.eraseIdx] at H
 obtain rfl:c_1=s.qw.length:=by omega
 have kb:=prod_bd p0 p1 (k:=s.qw.length) qf gp
 have kn:=packsL_ne p0 p1 (k:=s.qw.length) qf gp
 have kr:=rules_le s t s.qw.length
 have kl:=packsL_le s t s.qw.length
 refine sps [.tuple #[.slice jw vN jl,.slice a_all X8 YW,yI 0],.slice jw vN jl,.slice a_all X8 YW,yI 0,.slice jw vN jl,.slice a_all X8 YW,yI 0] (zjcc (sps [yI 0,.bool false] (zjn (xK false rfl (fun h=>absurd h qj) (fun _=>qU (t_n (zcc (sp (.slice a_all X8 YW) ?_))))))))
 obtain ⟨G108,hn109,h110⟩:=H.rowIsR (α:=yLL) 0 rfl 1 rfl qj
 refine sw (oq (YM (by rw [← hn109]) (l03Count_ok _ (xG s t s.qw.length) (hn109▸h110) qg)) H fun w112 H=>sp (.bool (decide ((((Xf (xG s t s.qw.length) (xG s t s.qw.length).length:Nat):Int):Int) > 300))) (zjn (cD rfl (fun h114=>?_) (fun h114=>?_))))
 ·skip
  refine zcr (sw (vG H underlying27 ti22 fun b115 w116 H=>sps [.slice (aa b115 0) 0 0,yI 3] (zjr (t_r ?_))))
  replace H:=H.boxRow 0 rfl 1 0 rfl qj
  replace H:=H.vI (α:=yLI)
  refine ret2 (.slice (aa b115 0) 0 0) (yI 3) rfl rfl rfl ⟨_,rfl,?_,H.base⟩
  first | rw [cho_3 (.inl (bad_sum (c:=c) qf qf qf))] | rw [cho_3 (.inr qf)]
  exact ⟨(aa b115 0),0,0,[],[],rfl,(N.emp.pick [0]),H.pick [0] [0]⟩
 have kc:¬ Xf (xG s t s.qw.length) (xG s t s.qw.length).length > 300:=by omega
 refine qU (t_n (zcr (sps [pp bs os,pp bs os] (oF rfl (oL rfl (H.xW 2 rfl 2 rfl) (oN rfl (sw (XI H underlying22 ti2 s.qx.length rfl rfl qf qf qf fun b117 w118 H=>sw (zG H underlying27 ti22 [.slice (aa b117 0) s.qx.length s.qx.length] fun b119 w120 H=>sp (.slice (aa b119 0) 1 1) (zjcc (sp (yI 0) (zjn (qX ?_)))))))))))))
 have H0:=H
 obtain ⟨G121,hg123,hn122,H⟩:=H.Qs (α:=yLI) 3 rfl 0 rfl qj
 replace N:Fresh w.heap.size [G121,F_all]:=Fresh.ice N H0 3 hg123.1 hg123.2 (H0.jQ [1])
 clear H0
 have H0:=H
 obtain ⟨G124,hg126,hn125,H⟩:=H.Qs (α:=yLL) 2 rfl 2 rfl qj
 replace N:Fresh w.heap.size [G124,G121]:=Fresh.ice (N.pick [1,0]) H0 2 hg126.1 hg126.2 (H0.jQ [0])
 clear H0
 replace H:=H.boxRow 0 rfl 1 1 rfl qj
 replace H:=H.vI (α:=yLI)
 obtain ⟨G127,N,hn128,H⟩:=H.vS 1 rfl N (H.jQ [1,2])
 replace H:=H.Yx true 0 rfl 1 rfl qm
 replace N:Fresh w.heap.size [(G127++[]),G124,G121]:=(N.emp.pick [1,0,2,3]).join
 refine zu (fun m' ρ w129=>∃ (xU:Env) (zW:yOA) (zt:Nat) (zL:Nat) (out:yLL) (Qr:List Value) (jR:yLN) (i:Nat),ρ=upd (upd (upd (upd xU 6 (.slice jw vN jl)) 7 (.slice a_all X8 YW)) 9 (.slice zW zt zL)) 10 (yI i)∧out=(jf s.qx.length (xg s t s.qw.length) (xG s t s.qw.length) i)∧((i:Int)≤X8)∧m' =(X8 - (i:Int)).toNat∧Fresh w.heap.size [G124,G121,jR]∧St w w129 [rr zW zt zL 22 1 Qr] [zi true jR Qr out,isF true G124 (.slice a_all X8 YW) (xG s t s.qw.length),isF true G121 (.slice jw vN jl) (xg s t s.qw.length)]) ((X8 - (0:Int)).toNat) ⟨_,(aa b119 0),1,1,[(List.replicate s.qx.length (0:Int))],[.slice (aa b117 0) s.qx.length s.qx.length],(G127++[]),0,uE4,(by rfl),qf,rfl,(N.pick [1,2,0]),H.pick [0] [0,3,4]⟩ ?_
 clear H N
 rintro m' ρ w130 ⟨xU,zW,zt,zL,out,Qr,jR,i,rfl,rfl,i0,rfl,N,H⟩
 have hn_out:=H.zh (α:=yLI) 0 rfl 0 rfl qj
 refine zcc (sps [yI i,.slice a_all X8 YW] (oN rfl (sp (.bool (decide ((i:Int) < X8))) (zjn (cD rfl (fun h131=>?_) (fun h131=>?_))))))
 ·skip
  have ga:=G_le (n:=s.qx.length) (rs:=(xg s t s.qw.length)) (i:=i) kn kc qf
  obtain ⟨gb,gc⟩:=cell_few (s:=s) (t:=t) (n:=s.qw.length) (i:=i) p0 qf
  refine qU (t_n (xQ (qX (zcr (sw (vG H underlying27 ti22 fun b132 w133 H=>sp (.slice (aa b132 0) 0 0) (zjcc (sp (yI 0) (zjn (qX ?_))))))))))
  replace H:=H.boxRow 0 rfl 1 0 rfl qj
  replace H:=H.vI (α:=yLI)
  refine zu (fun m' ρ w134=>∃ (xU:Env) (a_next:yOA) (n_next:Nat) (c_next:Nat) (next:yLL) (x_next:List Value) (F_next:yLN) (k:Nat),ρ=upd (upd (upd (upd (upd (upd xU 6 (.slice jw vN jl)) 7 (.slice a_all X8 YW)) 9 (.slice zW zt zL)) 10 (yI i)) 11 (.slice a_next n_next c_next)) 12 (yI k)∧next=(nextK (jf s.qx.length (xg s t s.qw.length) (xG s t s.qw.length) i) ((xg s t s.qw.length)[i]!) ((xG s t s.qw.length)[i]!) k)∧((k:Int)≤zt)∧m' =(zt - (k:Int)).toNat∧Fresh w.heap.size [G124,G121,jR,F_next]∧St w w134 [rr a_next n_next c_next 22 1 x_next,rr zW zt zL 22 1 Qr] [zi true F_next x_next next,zi true jR Qr (jf s.qx.length (xg s t s.qw.length) (xG s t s.qw.length) i),isF true G124 (.slice a_all X8 YW) (xG s t s.qw.length),isF true G121 (.slice jw vN jl) (xg s t s.qw.length)]) ((zt - (0:Int)).toNat) ⟨_,(aa b132 0),0,0,([]:yLL),[],[],0,uE6,(by rfl),qf,rfl,(N.emp.pick [1,2,3,0]),H⟩ ?_
  clear H N
  rintro m' ρ w135 ⟨xU,a_next,n_next,c_next,next,x_next,F_next,k,rfl,rfl,i0,rfl,N,H⟩
  have hn_next:=H.zh (α:=yLI) 0 rfl 0 rfl qj
  refine zcc (sps [yI k,.slice zW zt zL] (oN rfl (sp (.bool (decide ((k:Int) < zt))) (zjn (cD rfl (fun h136=>?_) (fun h136=>?_))))))
  ·skip
   refine qU (t_n (xQ (qX (zcr (sp (yI 0) (zjn (qX ?_)))))))
   refine zu (fun m' ρ w137=>∃ (xU:Env) (XD:yOA) (QB:Nat) (XA:Nat) (next_1:yLL) (XP:List Value) (QV:yLN) (x:Nat),ρ=upd (upd (upd (upd (upd (upd (upd xU 6 (.slice jw vN jl)) 7 (.slice a_all X8 YW)) 9 (.slice zW zt zL)) 10 (yI i)) 11 (.slice XD QB XA)) 12 (yI k)) 13 (yI x)∧next_1=(nextX (jf s.qx.length (xg s t s.qw.length) (xG s t s.qw.length) i) ((xg s t s.qw.length)[i]!) ((xG s t s.qw.length)[i]!) k x)∧((x:Int)≤(((xG s t s.qw.length)[i]!).length))∧m' =((((xG s t s.qw.length)[i]!).length) - (x:Int)).toNat∧Fresh w.heap.size [G124,G121,jR,QV]∧St w w137 [rr XD QB XA 22 1 XP,rr zW zt zL 22 1 Qr] [zi true QV XP next_1,zi true jR Qr (jf s.qx.length (xg s t s.qw.length) (xG s t s.qw.length) i),isF true G124 (.slice a_all X8 YW) (xG s t s.qw.length),isF true G121 (.slice jw vN jl) (xg s t s.qw.length)]) (((((xG s t s.qw.length)[i]!).length) - (0:Int)).toNat) ⟨_,a_next,n_next,c_next,(nextK (jf s.qx.length (xg s t s.qw.length) (xG s t s.qw.length) i) ((xg s t s.qw.length)[i]!) ((xG s t s.qw.length)[i]!) k),x_next,F_next,0,uE7,(by exact nextX_zero _ _ _ _),qf,rfl,N,H⟩ ?_
   clear H N
   rintro m' ρ w138 ⟨xU,XD,QB,XA,next_1,XP,QV,x,rfl,rfl,i0,rfl,N,H⟩
   have hn_next:=H.zh (α:=yLI) 0 rfl 0 rfl qj
   refine zcc (sps [yI x,.slice a_all X8 YW,yI i] ?_)
   have hl141:=H.isLen 2 rfl
   obtain ⟨b139,o140,rfl⟩:=H.addr 2 rfl qf
   obtain ⟨ae142,ce142,Fe142,H⟩:=H.vM 2 rfl i i qf qf qf
   refine oI rfl rfl (oL rfl (H.xW 1 rfl 0 rfl) (oN rfl (sp (.bool (decide ((x:Int) < (((xG s t s.qw.length)[i]!).length)))) (zjn (cD rfl (fun h143=>?_) (fun h143=>?_))))))
   ·skip
    have nx:=next_le (n:=s.qx.length) (rs:=(xg s t s.qw.length)) (i:=i) (k:=k) (x:=x) kn kc qf qf qf
    have g1:=prodG_at (n:=s.qx.length) (rs:=(xg s t s.qw.length)) (all:=(xG s t s.qw.length)) (i:=i) (k:=k) qf
    have g2:=pack_at (s:=s) (t:=t) (n:=s.qw.length) (i:=i) (x:=x) qf qf
    refine qU (t_n (xQ (qX (zcr (sps [.slice zW zt zL,yI k] ?_)))))
    obtain ⟨b144,rfl⟩:=H.Qh 1 rfl qf
    refine oI rfl rfl ?_
    obtain ⟨a145,c146,G147,s148,h149,hx150,hy151,H⟩:=H.rowElemX 1 rfl 3 rfl (iv:=k) k qf qf
    refine oL rfl (H.rowGet 1 rfl hx150) ?_
    have sz152:=H.base.size
    have lt153:=H.ltN (L:=[G124,G121,jR,QV]) [5,6,4,3]
    refine sw (oc (X3 _ ((jf s.qx.length (xg s t s.qw.length) (xG s t s.qw.length) i)[k]!) (H.get 0 rfl).1 qg) ?_)
    rintro v157 w155 r157 x156
    replace H:=H.zD x156 r157
    obtain ⟨a158,c159,rfl,hc160,hm161⟩:=H.jo 0 rfl
    refine sp (.slice a158 (((jf s.qx.length (xg s t s.qw.length) (xG s t s.qw.length) i)[k]!).length) c159) (zjcc (sp (yI 0) (zjn (qX ?_))))
    refine zu (fun m' ρ w162=>∃ (xU:Env) (r:Nat) (own:yLI),ρ=upd (upd (upd (upd (upd (upd (upd (upd (upd xU 6 (.slice jw vN jl)) 7 (.slice (aa b139 o140) X8 YW)) 9 (.slice (aa b144 0) zt zL)) 10 (yI i)) 11 (.slice XD QB XA)) 12 (yI k)) 13 (yI x)) 14 (.slice a158 (((jf s.qx.length (xg s t s.qw.length) (xG s t s.qw.length) i)[k]!).length) c159)) 15 (yI r)∧own=(setTo ((jf s.qx.length (xg s t s.qw.length) (xG s t s.qw.length) i)[k]!) ((xg s t s.qw.length)[i]!) (((xG s t s.qw.length)[i]!)[x]!) r)∧((r:Int)≤(((xg s t s.qw.length)[i]!).length))∧m' =((((xg s t s.qw.length)[i]!).length) - (r:Int)).toNat∧Fresh w.heap.size [G124,G121,jR,QV]∧St w w162 [rr a158 (((jf s.qx.length (xg s t s.qw.length) (xG s t s.qw.length) i)[k]!).length) c159 2 1 (own.map (Value.int .i64)),rr XD QB XA 22 1 XP,rr (aa b144 0) zt zL 22 1 Qr] [sF true Fe142 ae142 ce142 ((xG s t s.qw.length)[i]!),atF b139 (o140+(i:Int).toNat * 1) [.slice ae142 (((xG s t s.qw.length)[i]!).length) ce142],zi true QV XP (nextX (jf s.qx.length (xg s t s.qw.length) (xG s t s.qw.length) i) ((xg s t s.qw.length)[i]!) ((xG s t s.qw.length)[i]!) k x),zi true jR Qr (jf s.qx.length (xg s t s.qw.length) (xG s t s.qw.length) i),isF true G124 (.slice (aa b139 o140) X8 YW) (xG s t s.qw.length),isF true G121 (.slice jw vN jl) (xg s t s.qw.length)]) (((((xg s t s.qw.length)[i]!).length) - (0:Int)).toNat) ⟨_,0,((jf s.qx.length (xg s t s.qw.length) (xG s t s.qw.length) i)[k]!),uE9,(by rfl),qf,rfl,N,H.pick [0,1,2] [1,2,3,4,5,6]⟩ ?_
    clear H N
    rintro m' ρ w163 ⟨xU,r,own,rfl,rfl,i0,rfl,N,H⟩
    have hn_own:=H.Vq 0 rfl
    have sl:=setTo_len ((jf s.qx.length (xg s t s.qw.length) (xG s t s.qw.length) i)[k]!) ((xg s t s.qw.length)[i]!) (((xG s t s.qw.length)[i]!)[x]!) r
    refine zcc (sps [yI r,.slice jw vN jl,yI i] ?_)
    have hl166:=H.isLen 5 rfl
    obtain ⟨b164,o165,rfl⟩:=H.addr 5 rfl qf
    obtain ⟨ae167,ce167,Fe167,H⟩:=H.vM 5 rfl i i qf qf qf
    refine oI rfl rfl (oL rfl (H.xW 1 rfl 0 rfl) (oN rfl (sp (.bool (decide ((r:Int) < (((xg s t s.qw.length)[i]!).length)))) (zjn (cD rfl (fun h168=>?_) (fun h168=>?_))))))
    ·skip
     obtain ⟨g3,g4⟩:=choice_at (s:=s) (t:=t) (n:=s.qw.length) (i:=i) (r:=r) qf qf
     refine qU (t_n (xQ (qX ?_)))
     refine Qn rfl H [1,2] fun H=>?_
     have S:=H.yl [1,2] [0,1,2,3,4,5,6,7]
     refine rtp 0 (.slice a158 (((jf s.qx.length (xg s t s.qw.length) (xG s t s.qw.length) i)[k]!).length) c159) S ?_
     refine rtp 1 (.slice (aa b164 o165) vN jl) S ?_
     refine rtp 2 (yI i) S ?_
     refine tI 3 rfl rfl rfl S ?_
     refine tL 4 rfl rfl (fun _ h=>h.xW 1 rfl 0 rfl) S ?_
     refine rtp 5 (yI r) S ?_
     obtain ⟨b170,o171,rfl⟩:=H.addr 0 rfl qf
     have S:=H.yl [1,2] [0,1,2,3,4,5,6,7]
     refine tI 6 rfl rfl rfl S ?_
     refine tL 7 rfl rfl (fun _ h=>h.yu 0 rfl r qf) S ?_
     refine rtp 8 (.slice (aa b139 o140) X8 YW) S ?_
     refine rtp 9 (yI i) S ?_
     refine tI 10 rfl rfl rfl S ?_
     refine tL 11 rfl rfl (fun _ h=>h.xW 3 rfl 0 rfl) S ?_
     refine rtp 12 (yI x) S ?_
     obtain ⟨b173,o174,rfl⟩:=H.addr 2 rfl qf
     obtain ⟨ae176,ce176,Fe176,H⟩:=H.vM 2 rfl x x qf qf qf
     have S:=H.yl [1,2] [2,3,4,5,6,7,8,9]
     refine tI 13 rfl rfl rfl S ?_
     refine rtp 15 (yI r) S ?_
     refine ro 14 rfl (zN (.slice ae176 ((((xG s t s.qw.length)[i]!)[x]!).length) ce176) isAgg22 rfl (H.xW 1 rfl 0 rfl) (⟨H.pick [1,2] [2,3,4,5,6,7,8,9],?_⟩))
     obtain ⟨b177,o178,rfl⟩:=H.addr 0 rfl qf
     refine tI 16 rfl rfl rfl (H.pick [1,2] [2,3,4,5,6,7,8,9]) ?_
     refine ro 17 rfl (zN (yI ((((xG s t s.qw.length)[i]!)[x]!)[r]!)) isAgg2 rfl (H.jC 0 rfl r qf qf) (⟨H.pick [1,2] [2,3,4,5,6,7,8,9],?_⟩))
     obtain ⟨b180,rfl⟩:=H.Qh 0 rfl qf
     refine tI 18 rfl rfl rfl (H.pick [1,2] [2,3,4,5,6,7,8,9]) ?_
     refine ro 19 rfl (o_storeInt H 0 rfl ((((xG s t s.qw.length)[i]!)[x]!)[r]!) sizeOf2 rfl rfl (i:=((((xg s t s.qw.length)[i]!)[r]!).toNat)) qf qf fun w181 H=>⟨H.pick [1,2] [2,3,4,5,6,7,8,9],(xO qh (b_n (t_n (xY (sp (yI r) (sw (zC r 1 rfl rfl qf (sp (yI (r+1)) (xZ ?_)))))))))⟩)
     refine xf (m' :=((((xg s t s.qw.length)[i]!).length) - ((r+1):Int)).toNat) qf ⟨_,r+1,((setTo ((jf s.qx.length (xg s t s.qw.length) (xG s t s.qw.length) i)[k]!) ((xg s t s.qw.length)[i]!) (((xG s t s.qw.length)[i]!)[x]!) r).set ((((xg s t s.qw.length)[i]!)[r]!).toNat) ((((xG s t s.qw.length)[i]!)[x]!)[r]!)),uE9,?_,?_,rfl,N,H.pick [0,1,2] [4,5,6,7,8,9]⟩
     · rfl
     · omega
    refine zx4 (xY (sps [.slice XD QB XA,.slice a158 (((jf s.qx.length (xg s t s.qw.length) (xG s t s.qw.length) i)[k]!).length) c159] (sw (zG H underlying27 ti22 [.slice a158 (((jf s.qx.length (xg s t s.qw.length) (xG s t s.qw.length) i)[k]!).length) c159] fun b182 w183 H=>?_))))
    obtain ⟨G187,N,hn188,H⟩:=H.vS 1 rfl N (H.jQ [6,7,5,4])
    refine sw (zQ H 2 rfl 0 rfl underlying27 ti22 rfl qj rfl rfl rfl (by simp [Value.oneCell',Value.cells]) qp qf fun a184 c185 w186 H=>?_)
    replace H:=H.jW 5 rfl 0 rfl
    replace N:Fresh w.heap.size [(QV++G187),G124,G121,jR]:=(N.pick [4,0,1,2,3]).join
    refine sp (.slice a184 (QB+1) c185) (xZ (b_n (t_n (xY (sp (yI x) (sw (zC x 1 rfl rfl qf (sp (yI (x+1)) (xZ ?_)))))))))
    refine xf (m' :=((((xG s t s.qw.length)[i]!).length) - ((x+1):Int)).toNat) qf ⟨_,a184,QB+1,c185,((nextX (jf s.qx.length (xg s t s.qw.length) (xG s t s.qw.length) i) ((xg s t s.qw.length)[i]!) ((xG s t s.qw.length)[i]!) k x)++[(setTo ((jf s.qx.length (xg s t s.qw.length) (xG s t s.qw.length) i)[k]!) ((xg s t s.qw.length)[i]!) (((xG s t s.qw.length)[i]!)[x]!) r)]),XP++[.slice a158 (((jf s.qx.length (xg s t s.qw.length) (xG s t s.qw.length) i)[k]!).length) c159],(QV++G187),x+1,uE7,?_,?_,rfl,(N.pick [1,2,3,0]),H.pick [2,3] [0,7,8,9]⟩
    · exact nextX_succ qf (by rw [show r=((xg s t s.qw.length)[i]!).length by omega];rfl)
    · omega
   refine c_exit (t_x (t_x (b_x (b_n (t_n (xY (sp (yI k) (sw (zC k 1 rfl rfl qf (sp (yI (k+1)) (xZ (xf (m' :=(zt - ((k+1):Int)).toNat) qf ⟨_,XD,QB,XA,(nextX (jf s.qx.length (xg s t s.qw.length) (xG s t s.qw.length) i) ((xg s t s.qw.length)[i]!) ((xG s t s.qw.length)[i]!) k x),XP,QV,k+1,uE6,?_,?_,rfl,N,H.pick [0,1] [2,3,4,5]⟩))))))))))))
   · exact nextX_end qf qf
   · omega
  refine zx4 (xY (sps [.slice a_next n_next c_next,.slice a_next n_next c_next] (xZ (b_n (t_n (xY (sp (yI i) (sw (zC i 1 rfl rfl qf (sp (yI (i+1)) (xZ (xf (m' :=(X8 - ((i+1):Int)).toNat) qf ⟨_,a_next,n_next,c_next,(nextK (jf s.qx.length (xg s t s.qw.length) (xG s t s.qw.length) i) ((xg s t s.qw.length)[i]!) ((xG s t s.qw.length)[i]!) k),x_next,F_next,i+1,uE4,?_,?_,rfl,(N.pick [0,1,3]),H.pick [0] [0,2,3]⟩))))))))))))
  · rw [show k=(jf s.qx.length (xg s t s.qw.length) (xG s t s.qw.length) i).length by omega];rfl
  · omega
 refine zx4 (zcc (sp (yI 1) (zjn (qX ?_))))
 have on:0 < (jf s.qx.length (xg s t s.qw.length) (xG s t s.qw.length) i).length:=by rw [XH,show i=(xG s t s.qw.length).length by omega];exact prod_mono kn (Nat.zero_le _) (Nat.le_refl _)
 have on2:=G_le (n:=s.qx.length) (rs:=(xg s t s.qw.length)) (i:=i) kn kc qf
 refine zu (fun m' ρ w189=>∃ (xU:Env) (i_1:Nat) (out_1:yLL) (Xe:List Value) (Qz:yLN),ρ=upd (upd xU 9 (.slice zW zt zL)) 16 (yI i_1)∧((i_1:Int)≤zt)∧((jf s.qx.length (xg s t s.qw.length) (xG s t s.qw.length) (xG s t s.qw.length).length).Perm out_1)∧(∀ a b,a < b→b < i_1→¬ ahead (out_1[b]!) (out_1[a]!))∧m' =(zt - (i_1:Int)).toNat∧Fresh w.heap.size [Qz]∧St w w189 [rr zW zt zL 22 1 Xe] [zi true Qz Xe out_1]) ((zt - (1:Int)).toNat) ⟨_,1,(jf s.qx.length (xg s t s.qw.length) (xG s t s.qw.length) i),Qr,jR,uE2,qf,(by rw [show i=(xG s t s.qw.length).length by omega]),(by exact fun a b h1 h2=>by omega),rfl,(N.pick [2]),H.pick [0] [0]⟩ ?_
 clear H N
 rintro m' ρ w190 ⟨xU,i_1,out_1,Xe,Qz,rfl,i0,o1,o2,rfl,N,H⟩
 have hn_out:=H.zh (α:=yLI) 0 rfl 0 rfl qj
 refine zcc (sps [yI i_1,.slice zW zt zL] (oN rfl (sp (.bool (decide ((i_1:Int) < zt))) (zjn (cD rfl (fun h191=>?_) (fun h191=>?_))))))
 ·skip
  refine qU (t_n (xQ (qX (zcr (sps [yI i_1,yI i_1] (zjn (qX ?_)))))))
  refine zu (fun m' ρ w192=>∃ (xU:Env) (k:Int) (out_51:yLL) (x_out_51:List Value) (F_out_51:yLN),ρ=upd (upd (upd xU 9 (.slice zW zt zL)) 16 (yI i_1)) 17 (yI k)∧((jf s.qx.length (xg s t s.qw.length) (xG s t s.qw.length) (xG s t s.qw.length).length).Perm out_51)∧(InsTo out_51 i_1 k.toNat)∧(0≤k∧k≤i_1)∧m' =((k:Int)).toNat∧Fresh w.heap.size [F_out_51]∧St w w192 [rr zW zt zL 22 1 x_out_51] [zi true F_out_51 x_out_51 out_51]) (((i_1:Int)).toNat) ⟨_,i_1,out_1,Xe,Qz,uE3,ql,(by exact InsTo.start o2),qf,rfl,N,H⟩ ?_
  clear H N
  rintro m' ρ w193 ⟨xU,k,out_51,x_out_51,F_out_51,rfl,o3,o4,o5,rfl,N,H⟩
  have hn_out:=H.zh (α:=yLI) 0 rfl 0 rfl qj
  refine xQ (xQ ?_)
  refine vT rfl H fun H=>rtp 0 (yI k) H ?_
  refine rtp 1 (.bool (decide ((k:Int) > 0))) H ?_
  refine rtp 2 (.bool (decide ((k:Int) > 0))) H ?_
  cases h195:(decide ((k:Int) > 0))
  ·skip
   replace h195:=of_decide_eq_false h195
   refine zT [3,4,5,6,7,8,9,10,11,12] 10 (H) (rtp 13 (.bool false) H ?_)
   refine xO qh (t_n (xK false rfl (fun h=>absurd h qj) (fun _=>c_exit (t_x (t_x (b_x (b_n (t_n (xY (sp (yI i_1) (sw (zC i_1 1 rfl rfl qf (sp (yI (i_1+1)) (xZ (xf (m' :=(zt - ((i_1+1):Int)).toNat) qf ⟨_,i_1+1,out_51,x_out_51,F_out_51,uE2,?_,?_,?_,rfl,N,H⟩)))))))))))))))
   · omega
   · assumption
   · exact o4.stop (perm_rows o3) qf qf (by first | exact .inl qf | exact .inr (by rw [show k.toNat - 1=(k - 1).toNat by omega];assumption))
  replace h195:=of_decide_eq_true h195
  refine rgp 3 (.slice zW zt zL) 110 H ?_
  refine rgp 4 (yI k) 110 H ?_
  obtain ⟨b196,rfl⟩:=H.Qh 0 rfl qf
  refine gI 5 rfl rfl rfl H ?_
  obtain ⟨a197,c198,G199,s200,h201,hx202,hy203,H⟩:=H.rowElemX 0 rfl 0 rfl (iv:=k) k.toNat qf qf
  have S:=H.yl [0] [1]
  refine gL 6 rfl rfl (fun _ h=>h.rowGet 0 rfl hx202) S ?_
  refine rgp 7 (.slice (aa b196 0) zt zL) 110 S ?_
  refine rgp 8 (yI k) 110 S ?_
  refine rg 9 (yI (k - 1)) 110 (y_sub k 1 rfl rfl qf) S ?_
  refine gI 10 rfl rfl rfl S ?_
  obtain ⟨a204,c205,G206,s207,h208,hx209,hy210,H⟩:=H.rowElemX 0 rfl 1 rfl (iv:=k - 1) ((k - 1).toNat) qf qf
  refine gL 11 rfl rfl (fun _ h=>h.rowGet 0 rfl hx209) (H.pick [0] [2]) ?_
  refine ji [12] qh qm (YE rfl (e:=110) rfl rfl ?_ jk)
  have g5:=perm_rows o3
  have g6:=g5 k.toNat qf
  have g7:=g5 (k - 1).toNat qf
  refine oq (l03Before_ok _ (out_51[k.toNat]!) (out_51[(k - 1).toNat]!) (H.get 1 rfl).1 (H.get 0 rfl).1 qg) H fun w212 H=>⟨H.pick [0] [2],(rtp 13 (.bool (dec (ahead (out_51[k.toNat]!) (out_51[(k - 1).toNat]!)))) (H.pick [0] [2]) ?_)⟩
  refine xO qh (t_n (cP rfl (fun h214=>?_) (fun h214=>?_)))
  ·skip
   refine qU (t_n (xQ (qX (zcr (sps [.slice (aa b196 0) zt zL,yI k] (oI rfl rfl ?_))))))
   obtain ⟨a215,c216,G217,s218,h219,hx220,hy221,H⟩:=H.rowElemX 0 rfl 2 rfl (iv:=k) k.toNat qf qf
   refine oL rfl (H.rowGet 0 rfl hx220) (sp (.slice a215 ((out_51[k.toNat]!).length) c216) (zjc (sps [.slice (aa b196 0) zt zL,yI k,.slice (aa b196 0) zt zL,yI k] (sw (o_sub k 1 rfl rfl qf (oI rfl rfl ?_))))))
   obtain ⟨a222,c223,G224,s225,h226,hx227,hy228,H⟩:=H.rowElemX 0 rfl 3 rfl (iv:=k - 1) ((k - 1).toNat) qf qf
   refine oL rfl (H.rowGet 0 rfl hx227) (oI rfl rfl (sw (o_storeRow1 H 0 rfl (.slice a222 ((out_51[(k - 1).toNat]!).length) c223) sizeOf22 rfl rfl rfl qf fun w229 H=>zjn (xY (sps [.slice (aa b196 0) zt zL,yI k] (sw (o_sub k 1 rfl rfl qf (sp (.slice a215 ((out_51[k.toNat]!).length) c216) (oI rfl rfl (sw (o_storeRow1 H 0 rfl (.slice a215 ((out_51[k.toNat]!).length) c216) sizeOf22 rfl rfl rfl qf fun w230 H=>?_)))))))))))
   obtain ⟨F231,hF232,H⟩:=H.swapR 4 rfl (k:=(k:Int).toNat) (i:=(k - 1:Int).toNat) qf qf qf hy228 hy221
   replace N:Fresh w.heap.size [F231]:=Fresh.perm N hF232
   refine xZ (b_n (t_n (xY (sp (yI k) (sw (o_sub k 1 rfl rfl qf (sp (yI (k - 1)) (xZ (xf (m' :=(((k - 1):Int)).toNat) qf ⟨_,k - 1,(swapAt out_51 k.toNat),((x_out_51.set (k:Int).toNat (.slice a222 ((out_51[(k - 1).toNat]!).length) c223)).set (k - 1:Int).toNat (.slice a215 ((out_51[k.toNat]!).length) c216)),F231,uE3,?_,?_,?_,rfl,N,H.pick [0] [0]⟩)))))))))
   · exact perm_swap o3 qf qf
   · rw [show (k - 1).toNat=k.toNat - 1 by omega];exact o4.down (perm_rows o3) qf qf qf (by rw [show k.toNat - 1=(k - 1).toNat by omega];assumption)
   · omega
  refine c_exit (t_x (t_x (b_x (b_n (t_n (xY (sp (yI i_1) (sw (zC i_1 1 rfl rfl qf (sp (yI (i_1+1)) (xZ (xf (m' :=(zt - ((i_1+1):Int)).toNat) qf ⟨_,i_1+1,out_51,x_out_51,F_out_51,uE2,?_,?_,?_,rfl,N,H.pick [0] [2]⟩))))))))))))
  · omega
  · assumption
  · exact o4.stop (perm_rows o3) qf qf (by first | exact .inl qf | exact .inr (by rw [show k.toNat - 1=(k - 1).toNat by omega];assumption))
 refine zx4 (zcr (sps [.slice zW zt zL,.slice zW zt zL,yI 0] (zjr (ret2 (.slice zW zt zL) (yI 0) rfl rfl rfl ⟨_,rfl,?_,H.base⟩))))
 rw [cho_0 gp kc o1 (in_order qf o2)]
 exact ⟨zW,zt,zL,Xe,Qz,rfl,N,H.pick [0] [0]⟩
end
end Go.Proofs.YtgjnaocffdhnbaaGreat
