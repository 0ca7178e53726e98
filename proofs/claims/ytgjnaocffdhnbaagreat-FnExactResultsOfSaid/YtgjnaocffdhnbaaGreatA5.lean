/- Walks and laws, printed by program and by hand: what each function comes to, for all arguments, part 5. -/
import Derived.Test.YtgjnaocffdhnbaaGreatA4
namespace Go.Proofs.YtgjnaocffdhnbaaGreat
set_option linter.unusedVariables false
set_option linter.unusedSimpArgs false
open Go.Proofs.YtgjnaocffdhnbaaGreat.Tot (tot)
open Go.Proofs.YtgjnaocffdhnbaaGreat.Mark (cnt mrk mkd mkd_mark cnt_mark)
section
open Go.Proofs.Tryz
open Go.RowKit
set_option linter.unusedVariables false
set_option linter.unusedSimpArgs false
set_option maxRecDepth 100000
set_option maxHeartbeats 4000000
variable {qB qJ qR xk qK ca cb caAlive caBags VD cbAlive cbBags VC ccs : Nat}
theorem around_ok (w:World) (s:qI) {qC:yOA} {qZ:yLN} {qN:yOA} {xG:yLN} (xf:qO.rep w qZ [Sv qC s.qw.length qB] s.qw) (xJ:qO.rep w xG [Sv qN s.qx.length qJ] s.qx):Calls Tryz.prog 154 #[.agg #[yI s.xB,Sv qC s.qw.length qB,Sv qN s.qx.length qJ]] w (Ret (fun v w' =>v=yI s.qw.length) w):=by
 refine en func154 ntmps154 ?_
 have H:=((St.start w).arg xJ).arg xf
 have vH:=qM xf
 have jw:=qM xJ
 clear xf xJ
 have N:=Fresh.nil w.heap.size
 refine zcr (sw (vU H (yS s qC qB qN qJ) fun b1 w2 H=>sp (yI 0) (zjc (oF rfl (oL rfl (H.cell 0 rfl rfl) (oN rfl (sp (yI s.qw.length) (zjr (ret1 (yI s.qw.length) rfl rfl ⟨_,rfl,?_,H.base⟩)))))))))
 rfl

theorem step_ok (w:World) (s:qI) (t:qH) (counts:yLI) {qC:yOA} {qZ:yLN} {qN:yOA} {xG:yLN} {qV:yOA} {xR:yLN} {xm:yOA} {zC:yLN} {qL:yOA} {xC:yLN} {acounts:yOA} {ccounts:Nat} {Fcounts:yLN} (xf:qO.rep w qZ [Sv qC s.qw.length qB] s.qw) (xJ:qO.rep w xG [Sv qN s.qx.length qJ] s.qx) (zi:qO.rep w xR [Sv qV t.qA.length qR] t.qA) (zM:qO.rep w zC [Sv xm t.qE.length xk] t.qE) (xN:qO.rep w xC [Sv qL t.qy.length qK] t.qy) (hcounts:qO.rep w Fcounts [Sv acounts counts.length ccounts] counts) (p0:jE s) (p1:zu s t) (p2:CntOk s counts) (p3:IsCh s t counts):Calls Tryz.prog 125 #[.agg #[yI s.xB,Sv qC s.qw.length qB,Sv qN s.qx.length qJ],.agg #[Sv qV t.qA.length qR,Sv xm t.qE.length xk,Sv qL t.qy.length qK],Sv acounts counts.length ccounts] w (Ret (fun v w' =>∃ (ra0Alive:yOA) (rn0Alive:Nat) (rc0Alive:Nat) (ra0Bags:yOA) (rn0Bags:Nat) (rc0Bags:Nat) (rx0Bags:List Value) (rF0Bags:yLN) (ra0Around:yOA) (rn0Around:Nat) (rc0Around:Nat),v=.tuple #[.agg #[Sv ra0Alive rn0Alive rc0Alive,Sv ra0Bags rn0Bags rc0Bags,Sv ra0Around rn0Around rc0Around],yI ((zI s t counts).2)]∧Fresh w.heap.size [rF0Bags]∧St w w' [rr ra0Alive rn0Alive rc0Alive 4 1 ((((zI s t counts).1).qA).map (Value.bool)),rr ra0Bags rn0Bags rc0Bags 22 1 rx0Bags,rr ra0Around rn0Around rc0Around 2 1 ((((zI s t counts).1).qy).map (Value.int .i64))] [zf true rF0Bags rx0Bags (((zI s t counts).1).qE)]) w):=by
 refine en func125 ntmps125 ?_
 have H:=((((((St.start w).arg hcounts).arg xN).arg zM).arg zi).arg xJ).arg xf
 have vH:=qM xf
 have jw:=qM xJ
 have Qj:=qM zi
 have Q7:=qM zM
 have jV:=qM xN
 have nhcounts:=qM hcounts
 clear xf xJ zi zM xN hcounts
 have N:=Fresh.nil w.heap.size
 have p5:=p0.2.1
 have p6:=p2.1
 have p7:=p1.2.1
 have p8:=kinds_le p0
 have p9:=p0.1.2.1
 have p11:jr s=s.qw.length:=rfl
 have p12:=p1.1
 have p15:=p0.1
 have p16:=p0.1.1
 have p17:=p1.around.1
 refine zcr (sw (vU H (yS s qC qB qN qJ) fun b1 w2 H=>sw (vU H (yT t qV qR xm xk qL qK) fun b3 w4 H=>sw (zh H ti38 [yN,yN,yN] fun b5 w6 H=>sp (yI 0) (zjn (xQ ?_))))))
 refine c_cut (fun ρ w11=>∃ (xY:Env) (a7:yOA) (c8:Nat) (rx9:List Value) (rF10:yLN),ρ=upd (upd (upd (upd (upd xY 2 (Sv acounts counts.length ccounts)) 3 (pp b1 0)) 4 (pp b3 0)) 6 (pp b5 0)) 8 (Sv a7 (t.qE.length+1) c8)∧Fresh w.heap.size []∧St w w11 [rr a7 (t.qE.length+1) c8 22 1 (rx9++[Sv qL t.qy.length qK]),.box b5 [yN,yN,yN] 38,.box b3 (yT t qV qR xm xk qL qK) 38,.box b1 (yS s qC qB qN qJ) 36] [zf false (rF10++xC) (rx9++[Sv qL t.qy.length qK]) (t.qE++[t.qy]),sF false qZ qC qB s.qw,sF false xG qN qJ s.qx,sF false xR qV qR t.qA,sF false zC xm xk t.qE,sF false xC qL qK t.qy,sF false Fcounts acounts ccounts counts]) ?_ ?_
 ·skip
  refine jh rfl H fun H=>tF 0 rfl rfl H ?_
  refine tL 1 rfl rfl (fun _ h=>h.cell 1 rfl rfl) H ?_
  refine tF 3 rfl rfl H ?_
  refine tL 4 rfl rfl (fun _ h=>h.cell 1 rfl rfl) H ?_
  refine jK [2,5] qh qm (Qy rfl ?_ (Qy rfl ?_ jL))
  ·skip
   have sz16:=H.base.size
   refine oc (cloneSS_ok _ t.qE (H.get 3 rfl).1 qg) ?_
   rintro _ w14 ⟨ra13,rn13,rc13,rx13,rF13,rfl,hG18,K⟩ _
   replace H:=H.mergeIn K 3 rfl hG18
   obtain rfl:=H.zq (α:=yLI) 0 rfl 0 rfl qj
   refine ⟨H.pick [1,2,3] [1,2,3,4,5,6],(ro 5 rfl (zA H underlying27 ti22 [Sv qL t.qy.length qK] fun b19 w20 H=>⟨H.pick [2,3,4] [1,2,3,4,5,6],(ro 6 rfl (zG H 1 rfl 0 rfl underlying27 ti22 rfl qj rfl rfl rfl (by simp [Value.oneCell',Value.cells]) qp qf fun a21 c22 w23 H=>?_))⟩))⟩
   replace H:=H.jd 0 rfl 5 rfl
   refine ⟨H.pick [2,3,4] [2,3,4,5,6,7],(rtp 7 (Sv a21 (t.qE.length+1) c22) (H.pick [2,3,4] [2,3,4,5,6,7]) ?_)⟩
   refine xP qh ((meet ⟨_,a21,c22,rx13,rF13,uE5,N,H.pick [1,2,3,4] [0,2,3,4,5,6,7]⟩))
  refine zA H underlying27 ti22 [Sv qL t.qy.length qK] fun b24 w25 H=>⟨H.pick [1,2,3] [0,1,2,3,4,5],(ro 2 rfl ?_)⟩
  have sz29:=H.base.size
  refine oc (cloneSS_ok _ t.qE (H.get 3 rfl).1 qg) ?_
  rintro _ w27 ⟨ra26,rn26,rc26,rx26,rF26,rfl,hG31,K⟩ _
  replace H:=H.mergeIn K 3 rfl hG31
  obtain rfl:=H.zq (α:=yLI) 0 rfl 0 rfl qj
  refine ⟨H.pick [2,3,4] [1,2,3,4,5,6],(ro 6 rfl (zG H 0 rfl 1 rfl underlying27 ti22 rfl qj rfl rfl rfl (by simp [Value.oneCell',Value.cells]) qp qf fun a32 c33 w34 H=>?_))⟩
  replace H:=H.jd 0 rfl 5 rfl
  refine ⟨H.pick [2,3,4] [2,3,4,5,6,7],(rtp 7 (Sv a32 (t.qE.length+1) c33) (H.pick [2,3,4] [2,3,4,5,6,7]) ?_)⟩
  refine xP qh ((meet ⟨_,a32,c33,rx26,rF26,uE5,N,H.pick [0,2,3,4] [0,2,3,4,5,6,7]⟩))
 clear H N
 rintro ρ w35 ⟨xY,a7,c8,rx9,rF10,rfl,N,H⟩
 refine t_n (zcr (oF rfl (oL rfl (H.cell 3 rfl rfl) (oN rfl (sw (o_makeB H underlying26 ti4 s.qw.length rfl rfl qf qf qf fun b36 w37 H=>sp (Sv (aa b36 0) s.qw.length s.qw.length) (zjcc (sp (Sv acounts counts.length ccounts) (oN rfl (sp (yI 0) (zjn (qX ?_))))))))))))
 refine zD (fun m' ρ w38=>∃ (xY:Env) (i:Nat) (melts:List Bool) (bags:yLL) (x_bags:List Value) (F_bags:yLN),ρ=upd (upd (upd (upd (upd (upd (upd (upd xY 3 (pp b1 0)) 4 (pp b3 0)) 6 (pp b5 0)) 8 (Sv a7 (t.qE.length+1) c8)) 9 (Sv (aa b36 0) s.qw.length s.qw.length)) 26 (Sv acounts counts.length ccounts)) 27 (yI counts.length)) 28 (yI i)∧melts=yV s counts s.qw.length i∧((i:Int)≤counts.length)∧(Ent (s.qw.length+1) (QY s) (fun p q=>base0 s t p q+allS s t counts i p q) (20000000+6000000 * i) bags)∧(bags.length=s.qw.length+1)∧m' =(counts.length - (i:Int)).toNat∧Fresh w.heap.size []∧St w w38 [rr (aa b36 0) s.qw.length s.qw.length 4 1 (melts.map (Value.bool)),rr a7 (t.qE.length+1) c8 22 1 x_bags,.box b5 [yN,yN,yN] 38,.box b3 (yT t qV qR xm xk qL qK) 38,.box b1 (yS s qC qB qN qJ) 36] [zf false F_bags x_bags bags,sF false qZ qC qB s.qw,sF false xG qN qJ s.qx,sF false xR qV qR t.qA,sF false zC xm xk t.qE,sF false xC qL qK t.qy,sF false Fcounts acounts ccounts counts]) ((counts.length - (0:Int)).toNat) ⟨_,0,(List.replicate s.qw.length (false)),(t.qE++[t.qy]),rx9++[Sv qL t.qy.length qK],(rF10++xC),uE8,(by exact meltsL_zero s counts _),qf,(by exact (start_ent p1).to (fun _ _=>rfl) qf),(by simp;omega),rfl,N,H⟩ ?_
 clear H N
 rintro m' ρ w39 ⟨xY,i,melts,bags,x_bags,F_bags,rfl,rfl,i0,E_bags,z_bags,rfl,N,H⟩
 have hn_melts:=H.rowNB 0 rfl
 have hn_bags:=H.zq (α:=yLI) 1 rfl 0 rfl qj
 refine zcr (sp (Bv (decide ((i:Int) < counts.length))) (zjn (xQ (cD rfl (fun h40=>?_) (fun h40=>?_)))))
 ·skip
  have q:=p0.rule (i:=i) qf
  have qc:=q.1
  have qk:=q.cell
  have qr:=q.2.1
  have bn1:=q.2.2.2.2.1
  have bn2:=q.2.2.2.2.2.2.2.1
  have bn3:=q.2.2.2.2.2.2.2.2.1
  have ln1:=bn1.len
  have ln2:=bn2.len
  have ln3:=bn3.len
  have p10:=p2.bd (i:=i) qf
  have qn:=q.2.2.2.1
  have ml:=meltsL_len s counts s.qw.length i
  refine qW (t_n (xQ (qX (zcr (sp (yI i) ?_)))))
  obtain ⟨b41,o42,rfl⟩:=H.addr 6 rfl qf
  refine oI rfl rfl (oL rfl (H.jY 6 rfl i qf qf) (sps [yI i,yI (counts[i]!)] (zjc (oF rfl (oL rfl (H.cell 4 rfl rfl) (sp (yI i) ?_))))))
  obtain ⟨b44,o45,rfl⟩:=H.addr 2 rfl qf
  obtain ⟨V9,V3,Fe47Need,Yb,V5,Fe47Have,Ya,V4,Fe47Lack,Vo,Vl,Fe47Here,VR,VP,Fe47Out,Vm,Vk,Fe47Into,H⟩:=H.yF 2 rfl i i qf qf qf
  refine oI rfl rfl (sw (zl [yI ((s.qx[i]!).qG),yI ((s.qx[i]!).zS),Sv V9 (((s.qx[i]!).xn).length) V3,Sv Yb (((s.qx[i]!).xF).length) V5,Sv Ya (((s.qx[i]!).xI).length) V4,Sv Vo (((s.qx[i]!).xK).length) Vl,Sv VR (((s.qx[i]!).ve).length) VP,Sv Vm (((s.qx[i]!).qU).length) Vk,Bv ((s.qx[i]!).zH)] isAgg121 sizeOf121 rfl (qF (H.get 6 rfl) 0 9) ?_))
  refine sw (zh H ti121 [yI 0,yI 0,yN,yN,yN,yN,yN,yN,Bv false] fun b48 w49 H=>sw (zF H 0 [yI ((s.qx[i]!).qG),yI ((s.qx[i]!).zS),Sv V9 (((s.qx[i]!).xn).length) V3,Sv Yb (((s.qx[i]!).xF).length) V5,Sv Ya (((s.qx[i]!).xI).length) V4,Sv Vo (((s.qx[i]!).xK).length) Vl,Sv VR (((s.qx[i]!).ve).length) VP,Sv Vm (((s.qx[i]!).qU).length) Vk,Bv ((s.qx[i]!).zH)] sizeOf121 fun w50 H=>?_))
  refine zjn (xQ ?_)
  refine QI rfl H [0,1,3,4,5] fun H=>?_
  have S:=H.yU [0,1,3,4,5] [0,1,2,3,4,5,6,7,8,9,10,11,12,13]
  refine rtp 0 (Sv a7 (t.qE.length+1) c8) S ?_
  refine tF 1 rfl rfl S ?_
  refine tL 2 rfl rfl (fun _ h=>h.cell 0 rfl rfl) S ?_
  refine rtp 3 (Sv a7 (t.qE.length+1) c8) S ?_
  refine tF 4 rfl rfl S ?_
  refine tL 5 rfl rfl (fun _ h=>h.cell 0 rfl rfl) S ?_
  obtain ⟨b52,rfl⟩:=H.Qn 2 rfl qf
  have S:=H.yU [0,1,3,4,5] [0,1,2,3,4,5,6,7,8,9,10,11,12,13]
  refine tI 6 rfl rfl rfl S ?_
  refine tF 8 rfl rfl S ?_
  refine tL 9 rfl rfl (fun _ h=>h.cell 0 rfl rfl) S ?_
  refine rtp 10 (yI (counts[i]!)) S ?_
  refine rt 11 (yI (-(counts[i]!))) (y_neg (counts[i]!) rfl qf) S ?_
  refine ro 7 rfl ?_
  obtain ⟨a53,c54,G55,s56,h57,H⟩:=H.yw 2 rfl 7 rfl (iv:=(s.qx[i]!).qG) (((s.qx[i]!).qG).toNat) qf qf
  refine zT (Sv a53 ((bags[((s.qx[i]!).qG).toNat]!).length) c54) isAgg22 rfl (h57) (⟨H.pick [0,1,3,4,5] [1,2,3,4,5,6,7,8,9,10,11,12,13,14],(ro 12 rfl ?_)⟩)
  obtain ⟨u1,u2⟩:=E_bags.sh.row (c:=((s.qx[i]!).qG).toNat) qf p8 qf
  have u4:=(by first | exact bn1.Qq qf | exact bn2.Qq qf | exact bn3.Qq qf | exact bn4.Qq qf:SmallT ((s.qx[i]!).xn) (-(counts[i]!)))
  have sz58:=H.base.size
  refine oc (plus_ok _ (bags[((s.qx[i]!).qG).toNat]!) ((s.qx[i]!).xn) (-(counts[i]!)) (H.get 0 rfl).1 (H.get 1 rfl).1 qg qg qg) ?_
  rintro v63 w61 r63 x62
  replace H:=H.zJ x62 r63
  obtain ⟨a64,c65,rfl,hc66,hm67⟩:=H.jA 0 rfl
  refine ⟨H.pick [1,2,4,5,6] [1,2,3,4,5,6,7,8,9,10,11,12,13,14],(tI 13 rfl rfl rfl (H.pick [1,2,4,5,6] [1,2,3,4,5,6,7,8,9,10,11,12,13,14]) ?_)⟩
  refine ro 14 rfl ?_
  obtain ⟨G69,N,hn70,H⟩:=H.jb 0 rfl N (H.jU [])
  refine jX false H 3 rfl 9 rfl (Sv a64 ((ji (bags[((s.qx[i]!).qG).toNat]!) ((s.qx[i]!).xn) (-(counts[i]!))).length) c65) 0 rfl rfl sizeOf22 rfl rfl (i:=(((s.qx[i]!).qG).toNat)) qf qf qm fun w68 xs71 F72 hs73 H=>⟨H.pick [1,2,4,5,6] [3,4,5,6,7,8,9,10,11,12,13,14,15,16],(xP qh (t_n (zcr (sw (zl [yI s.xB,Sv qC s.qw.length qB,Sv (aa b44 o45) s.qx.length qJ] isAgg36 sizeOf36 rfl (qF (H.cells 6 rfl) 0 3) ?_)))))⟩
  refine sw (zl (yT t qV qR xm xk qL qK) isAgg38 sizeOf38 rfl (qF (H.cells 5 rfl) 0 3) (sp (Sv (aa b52 0) (t.qE.length+1) c8) ?_))
  refine sw (zl [yI ((s.qx[i]!).qG),yI ((s.qx[i]!).zS),Sv V9 (((s.qx[i]!).xn).length) V3,Sv Yb (((s.qx[i]!).xF).length) V5,Sv Ya (((s.qx[i]!).xI).length) V4,Sv Vo (((s.qx[i]!).xK).length) Vl,Sv VR (((s.qx[i]!).ve).length) VP,Sv Vm (((s.qx[i]!).qU).length) Vk,Bv ((s.qx[i]!).zH)] isAgg121 sizeOf121 rfl (qF (H.cells 1 rfl) 0 9) (sp (yI (counts[i]!)) ?_))
  obtain ⟨bg74,e_bg74⟩:∃ z,z=(bags.set (((s.qx[i]!).qG).toNat) (ji (bags[((s.qx[i]!).qG).toNat]!) ((s.qx[i]!).xn) (-(counts[i]!)))):=⟨_,rfl⟩
  rw [← e_bg74] at H
  have E_bg74:=Ent.add (D:=1000000) E_bags e_bg74 qf (by first | exact bn1.mul qf | exact bn2.mul qf | exact bn3.mul qf | exact bn4.mul qf) qf
  have z_bg74:=E_bg74.sh.1
  have E_cur:=E_bg74
  refine sw (vJ #[.agg #[yI s.xB,Sv qC s.qw.length qB,Sv (aa b44 o45) s.qx.length qJ],.agg #[Sv qV t.qA.length qR,Sv xm t.qE.length xk,Sv qL t.qy.length qK],Sv (aa b52 0) (t.qE.length+1) c8,.agg #[yI ((s.qx[i]!).qG),yI ((s.qx[i]!).zS),Sv V9 (((s.qx[i]!).xn).length) V3,Sv Yb (((s.qx[i]!).xF).length) V5,Sv Ya (((s.qx[i]!).xI).length) V4,Sv Vo (((s.qx[i]!).xK).length) Vl,Sv VR (((s.qx[i]!).ve).length) VP,Sv Vm (((s.qx[i]!).qU).length) Vk,Bv ((s.qx[i]!).zH)],yI (counts[i]!)] rfl rfl call153 ?_)
  refine en func153 ntmps153 ?_
  refine zcr (sw (vU H [yI s.xB,Sv qC s.qw.length qB,Sv (aa b44 o45) s.qx.length qJ] fun b75 w76 H=>sw (vU H (yT t qV qR xm xk qL qK) fun b77 w78 H=>sw (vU H [Sv (aa b52 0) (t.qE.length+1) c8] fun b79 w80 H=>?_))))
  refine sw (vU H [yI ((s.qx[i]!).qG),yI ((s.qx[i]!).zS),Sv V9 (((s.qx[i]!).xn).length) V3,Sv Yb (((s.qx[i]!).xF).length) V5,Sv Ya (((s.qx[i]!).xI).length) V4,Sv Vo (((s.qx[i]!).xK).length) Vl,Sv VR (((s.qx[i]!).ve).length) VP,Sv Vm (((s.qx[i]!).qU).length) Vk,Bv ((s.qx[i]!).zH)] fun b81 w82 H=>sw (vU H [yI (counts[i]!)] fun b83 w84 H=>zjc ?_))
  refine sps [.func (.func 191) #[] #[pp b79 0,pp b83 0],.func (.func 191) #[] #[pp b79 0,pp b83 0]] (zjc (sp (.func (.func 191) #[] #[pp b79 0,pp b83 0]) (oF rfl (oL rfl (H.cell 1 rfl rfl) (oF rfl (oL rfl (H.cell 1 rfl rfl) (sw (vJ #[yI ((s.qx[i]!).qG),Sv Vo (((s.qx[i]!).xK).length) Vl,pp b79 0,pp b83 0] rfl rfl call191 (en func191 ntmps191 ?_)))))))))
  refine QI rfl H [0,1,2,3,4,5,6,7,9,10,11] fun H=>?_
  have S:=H.yU [0,1,2,3,4,5,6,7,9,10,11] [0,1,2,3,4,5,6,7,8,9,10,11,12,13,14,15,16]
  refine tL 0 rfl rfl (fun _ h=>h.cell 2 rfl rfl) S ?_
  refine rtp 1 (yI ((s.qx[i]!).qG)) S ?_
  refine tL 2 rfl rfl (fun _ h=>h.cell 2 rfl rfl) S ?_
  refine rtp 3 (yI ((s.qx[i]!).qG)) S ?_
  refine tI 4 rfl rfl rfl S ?_
  refine rtp 6 (Sv Vo (((s.qx[i]!).xK).length) Vl) S ?_
  refine tL 7 rfl rfl (fun _ h=>h.cell 0 rfl rfl) S ?_
  refine ro 5 rfl ?_
  obtain ⟨a86,c87,G88,s89,h90,H⟩:=H.yw 8 rfl 0 rfl (iv:=(s.qx[i]!).qG) (((s.qx[i]!).qG).toNat) qf qf
  refine zT (Sv a86 ((bg74[((s.qx[i]!).qG).toNat]!).length) c87) isAgg22 rfl (h90) (⟨H.pick [0,1,2,3,4,5,6,7,9,10,11] [1,2,3,4,5,6,7,8,9,10,11,12,13,14,15,16,17],(ro 8 rfl ?_)⟩)
  obtain ⟨u1,u2⟩:=E_bg74.sh.row (c:=((s.qx[i]!).qG).toNat) qf p8 qf
  have u4:=(by first | exact bn1.Qq qf | exact bn2.Qq qf | exact bn3.Qq qf | exact bn4.Qq qf:SmallT ((s.qx[i]!).xK) (counts[i]!))
  have sz91:=H.base.size
  have lt92:=H.ltN (L:=[G69]) [2]
  refine oc (plus_ok _ (bg74[((s.qx[i]!).qG).toNat]!) ((s.qx[i]!).xK) (counts[i]!) (H.get 0 rfl).1 (H.get 7 rfl).1 qg qg qg) ?_
  rintro v96 w94 r96 x95
  replace H:=H.zJ x95 r96
  obtain ⟨a97,c98,rfl,hc99,hm100⟩:=H.jA 0 rfl
  refine ⟨H.pick [1,2,3,4,5,6,7,8,10,11,12] [1,2,3,4,5,6,7,8,9,10,11,12,13,14,15,16,17],(tI 9 rfl rfl rfl (H.pick [1,2,3,4,5,6,7,8,10,11,12] [1,2,3,4,5,6,7,8,9,10,11,12,13,14,15,16,17]) ?_)⟩
  refine ro 10 rfl ?_
  obtain ⟨G102,N,hn103,H⟩:=H.jb 0 rfl N (H.jU [2])
  refine jX false H 9 rfl 2 rfl (Sv a97 ((ji (bg74[((s.qx[i]!).qG).toNat]!) ((s.qx[i]!).xK) (counts[i]!)).length) c98) 0 rfl rfl sizeOf22 rfl rfl (i:=(((s.qx[i]!).qG).toNat)) qf qf qm fun w101 xs104 F105 hs106 H=>⟨H.pick [1,2,3,4,5,6,7,8,10,11,12] [3,4,5,6,7,8,9,10,11,12,13,14,15,16,17,18,19],(xP qh ((ret0 rfl ⟨_,rfl,?_⟩)))⟩
  replace H:=H.erases [6,0]
  dsimp only [vS,List.eraseIdx] at H
  obtain ⟨bg107,e_bg107⟩:∃ z,z=(bg74.set (((s.qx[i]!).qG).toNat) (ji (bg74[((s.qx[i]!).qG).toNat]!) ((s.qx[i]!).xK) (counts[i]!))):=⟨_,rfl⟩
  rw [← e_bg107] at H
  have E_bg107:=Ent.add (D:=1000000) E_bg74 e_bg107 qf (by first | exact bn1.mul qf | exact bn2.mul qf | exact bn3.mul qf | exact bn4.mul qf) qf
  have z_bg107:=E_bg107.sh.1
  have E_cur:=E_bg107
  refine zjcc (sw (zl [yI s.xB,Sv qC s.qw.length qB,Sv (aa b44 o45) s.qx.length qJ] isAgg36 sizeOf36 rfl (qF (H.cells 4 rfl) 0 3) (sw (zl (yT t qV qR xm xk qL qK) isAgg38 sizeOf38 rfl (qF (H.cells 3 rfl) 0 3) (oF rfl (oL rfl (H.cell 1 rfl rfl) ?_))))))
  have qc' :=qc
  refine sw (oq (parentNow_ok _ s t ((s.qx[i]!).qG) (H.get 14 rfl).1 (H.get 15 rfl).1 (H.get 16 rfl).1 (H.get 17 rfl).1 (H.get 18 rfl).1 qg qg qg) H fun w109 H=>?_)
  have pl:=parentNow_lt p15 p1.2.2.1 qc
  refine sp (yI (xA s t ((s.qx[i]!).qG))) (zjc (sps [yI (xA s t ((s.qx[i]!).qG)),Bv (decide ((xA s t ((s.qx[i]!).qG):Int)≥0))] (zjn (cD rfl (fun h111=>?_) (fun h111=>?_)))))
  ·skip
   have po:=outPl_in (r:=s.qx[i]!) p15 ‹_›
   refine xO (sps [.func (.func 191) #[] #[pp b79 0,pp b83 0],yI (xA s t ((s.qx[i]!).qG))] (oF rfl (oL rfl (H.cell 1 rfl rfl) (sw (vJ #[yI (xA s t ((s.qx[i]!).qG)),Sv VR (((s.qx[i]!).ve).length) VP,pp b79 0,pp b83 0] rfl rfl call191 (en func191 ntmps191 ?_))))))
   refine QI rfl H [0,1,2,3,4,5,6,8,9,10] fun H=>?_
   have S:=H.yU [0,1,2,3,4,5,6,8,9,10] [0,1,2,3,4,5,6,7,8,9,10,11,12,13,14,15,16,17,18,19]
   refine tL 0 rfl rfl (fun _ h=>h.cell 2 rfl rfl) S ?_
   refine rtp 1 (yI (xA s t ((s.qx[i]!).qG))) S ?_
   refine tL 2 rfl rfl (fun _ h=>h.cell 2 rfl rfl) S ?_
   refine rtp 3 (yI (xA s t ((s.qx[i]!).qG))) S ?_
   refine tI 4 rfl rfl rfl S ?_
   refine rtp 6 (Sv VR (((s.qx[i]!).ve).length) VP) S ?_
   refine tL 7 rfl rfl (fun _ h=>h.cell 0 rfl rfl) S ?_
   refine ro 5 rfl ?_
   obtain ⟨a113,c114,G115,s116,h117,H⟩:=H.yw 7 rfl 0 rfl (iv:=xA s t ((s.qx[i]!).qG)) ((xA s t ((s.qx[i]!).qG)).toNat) qf qf
   refine zT (Sv a113 ((bg107[(xA s t ((s.qx[i]!).qG)).toNat]!).length) c114) isAgg22 rfl (h117) (⟨H.pick [0,1,2,3,4,5,6,8,9,10] [1,2,3,4,5,6,7,8,9,10,11,12,13,14,15,16,17,18,19,20],(ro 8 rfl ?_)⟩)
   obtain ⟨u1,u2⟩:=E_bg107.sh.row (c:=(xA s t ((s.qx[i]!).qG)).toNat) qf p8 qf
   have u4:=(by first | exact bn1.Qq qf | exact bn2.Qq qf | exact bn3.Qq qf | exact bn4.Qq qf:SmallT ((s.qx[i]!).ve) (counts[i]!))
   have sz118:=H.base.size
   have lt119:=H.ltN (L:=[G102,G69]) [2,5]
   refine oc (plus_ok _ (bg107[(xA s t ((s.qx[i]!).qG)).toNat]!) ((s.qx[i]!).ve) (counts[i]!) (H.get 0 rfl).1 (H.get 11 rfl).1 qg qg qg) ?_
   rintro v123 w121 r123 x122
   replace H:=H.zJ x122 r123
   obtain ⟨a124,c125,rfl,hc126,hm127⟩:=H.jA 0 rfl
   refine ⟨H.pick [1,2,3,4,5,6,7,9,10,11] [1,2,3,4,5,6,7,8,9,10,11,12,13,14,15,16,17,18,19,20],(tI 9 rfl rfl rfl (H.pick [1,2,3,4,5,6,7,9,10,11] [1,2,3,4,5,6,7,8,9,10,11,12,13,14,15,16,17,18,19,20]) ?_)⟩
   refine ro 10 rfl ?_
   obtain ⟨G129,N,hn130,H⟩:=H.jb 0 rfl N (H.jU [2,5])
   refine jX false H 8 rfl 2 rfl (Sv a124 ((ji (bg107[(xA s t ((s.qx[i]!).qG)).toNat]!) ((s.qx[i]!).ve) (counts[i]!)).length) c125) 0 rfl rfl sizeOf22 rfl rfl (i:=((xA s t ((s.qx[i]!).qG)).toNat)) qf qf qm fun w128 xs131 F132 hs133 H=>⟨H.pick [1,2,3,4,5,6,7,9,10,11] [3,4,5,6,7,8,9,10,11,12,13,14,15,16,17,18,19,20,21,22],(xP qh ((ret0 rfl ⟨_,rfl,?_⟩)))⟩
   replace H:=H.erases [0]
   dsimp only [vS,List.eraseIdx] at H
   obtain ⟨bg134,e_bg134⟩:∃ z,z=(bg107.set ((xA s t ((s.qx[i]!).qG)).toNat) (ji (bg107[(xA s t ((s.qx[i]!).qG)).toNat]!) ((s.qx[i]!).ve) (counts[i]!))):=⟨_,rfl⟩
   rw [← e_bg134] at H
   have E_bg134:=Ent.add (D:=1000000) E_bg107 e_bg134 qf (by first | exact bn1.mul qf | exact bn2.mul qf | exact bn3.mul qf | exact bn4.mul qf) qf
   have z_bg134:=E_bg134.sh.1
   have E_cur:=E_bg134
   refine zjc (oF rfl (oL rfl (H.cell 1 rfl rfl) (oN rfl (sp (yI 0) (zjn (qX ?_))))))
   refine zD (fun m' ρ w135=>∃ (xY:Env) (k:Nat) (bags_1:yLL) (VV:List Value) (F_bags_1:yLN),ρ=upd (upd (upd (upd xY 10 (.func (.func 191) #[] #[pp b79 0,pp b83 0])) 40 (Sv Vm (((s.qx[i]!).qU).length) Vk)) 41 (yI (((s.qx[i]!).qU).length))) 42 (yI k)∧((k:Int)≤(((s.qx[i]!).qU).length))∧(Ent (s.qw.length+1) (QY s) (fun p q=>base0 s t p q+allS s t counts i p q+at' p (s.qx[i]!).qG.toNat (-(counts[i]!) * ((s.qx[i]!).xn)[q]!)+at' p (s.qx[i]!).qG.toNat ((counts[i]!) * ((s.qx[i]!).xK)[q]!)+at' p (outPl s t (s.qx[i]!)) ((counts[i]!) * ((s.qx[i]!).ve)[q]!)+intoF (s.qx[i]!) (counts[i]!) k p q) (23000000+6000000 * i+1000000 * k) bags_1)∧(bags_1.length=s.qw.length+1)∧m' =((((s.qx[i]!).qU).length) - (k:Int)).toNat∧Fresh w.heap.size [G69]∧St w w135 [.box b83 [yI (counts[i]!)] 2,.box b81 [yI ((s.qx[i]!).qG),yI ((s.qx[i]!).zS),Sv V9 (((s.qx[i]!).xn).length) V3,Sv Yb (((s.qx[i]!).xF).length) V5,Sv Ya (((s.qx[i]!).xI).length) V4,Sv Vo (((s.qx[i]!).xK).length) Vl,Sv VR (((s.qx[i]!).ve).length) VP,Sv Vm (((s.qx[i]!).qU).length) Vk,Bv ((s.qx[i]!).zH)] 121,.box b79 [Sv (aa b52 0) (t.qE.length+1) c8] 27,.box b77 (yT t qV qR xm xk qL qK) 38,.box b75 [yI s.xB,Sv qC s.qw.length qB,Sv (aa b44 o45) s.qx.length qJ] 36,.box b48 [yI ((s.qx[i]!).qG),yI ((s.qx[i]!).zS),Sv V9 (((s.qx[i]!).xn).length) V3,Sv Yb (((s.qx[i]!).xF).length) V5,Sv Ya (((s.qx[i]!).xI).length) V4,Sv Vo (((s.qx[i]!).xK).length) Vl,Sv VR (((s.qx[i]!).ve).length) VP,Sv Vm (((s.qx[i]!).qU).length) Vk,Bv ((s.qx[i]!).zH)] 121,rr (aa b36 0) s.qw.length s.qw.length 4 1 ((yV s counts s.qw.length i).map (Value.bool)),rr (aa b52 0) (t.qE.length+1) c8 22 1 VV,.box b5 [yN,yN,yN] 38,.box b3 (yT t qV qR xm xk qL qK) 38,.box b1 [yI s.xB,Sv qC s.qw.length qB,Sv (aa b44 o45) s.qx.length qJ] 36] [zf false F_bags_1 VV bags_1,sF true G69 a64 c65 (ji (bags[((s.qx[i]!).qG).toNat]!) ((s.qx[i]!).xn) (-(counts[i]!))),sF false G55 a53 c54 (bags[((s.qx[i]!).qG).toNat]!),sF false Fe47Need V9 V3 ((s.qx[i]!).xn),sF false Fe47Have Yb V5 ((s.qx[i]!).xF),sF false Fe47Lack Ya V4 ((s.qx[i]!).xI),sF false Fe47Here Vo Vl ((s.qx[i]!).xK),sF false Fe47Out VR VP ((s.qx[i]!).ve),sF false Fe47Into Vm Vk ((s.qx[i]!).qU),atF b44 (o45+(i:Int).toNat * 9) [yI ((s.qx[i]!).qG),yI ((s.qx[i]!).zS),Sv V9 (((s.qx[i]!).xn).length) V3,Sv Yb (((s.qx[i]!).xF).length) V5,Sv Ya (((s.qx[i]!).xI).length) V4,Sv Vo (((s.qx[i]!).xK).length) Vl,Sv VR (((s.qx[i]!).ve).length) VP,Sv Vm (((s.qx[i]!).qU).length) Vk,Bv ((s.qx[i]!).zH)],sF false qZ qC qB s.qw,sF false xG (aa b44 o45) qJ s.qx,sF false xR qV qR t.qA,sF false zC xm xk t.qE,sF false xC qL qK t.qy,sF false Fcounts (aa b41 o42) ccounts counts]) (((((s.qx[i]!).qU).length) - (0:Int)).toNat) ⟨_,0,bg134,xs131,F132,uE4,qf,(by exact E_cur.to (fun p q=>by rw [po];simp only [intoF];first | omega | (simp only [Int.toNat_natCast];omega)) qf),qf,rfl,(N.pick [2]),H.pick [0,1,2,3,4,5,6,7,8,9,10] [0,7,8,9,10,11,12,13,14,15,17,18,19,20,21,22]⟩ ?_
   clear H N
   rintro m' ρ w136 ⟨xY,k,bags_1,VV,F_bags_1,rfl,i0,E_bags_1,z_bags_1,rfl,N,H⟩
   have hn_bags:=H.zq (α:=yLI) 7 rfl 0 rfl qj
   refine zcr (sp (Bv (decide ((k:Int) < (((s.qx[i]!).qU).length)))) (zjn (xQ (cD rfl (fun h137=>?_) (fun h137=>?_)))))
   ·skip
    have qi:=q.2.2.2.2.2.2.2.2.2.2 k qf
    have qi1:=qi.1
    have bn4:=qi.2.2.1
    have ln4:=bn4.len
    refine qW (t_n (xQ (qX (zcr ?_))))
    obtain ⟨b138,o139,rfl⟩:=H.addr 8 rfl qf
    obtain ⟨ae141Bag,ce141Bag,Fe141Bag,H⟩:=H.yh 8 rfl k k qf qf qf
    refine oI rfl rfl (sw (zl [yI ((((s.qx[i]!).qU)[k]!).qG),Sv ae141Bag (((((s.qx[i]!).qU)[k]!).jJ).length) ce141Bag] isAgg164 sizeOf164 rfl (qF (H.get 1 rfl) 0 2) (sw (zh H ti164 [yI 0,yN] fun b142 w143 H=>sw (zF H 0 [yI ((((s.qx[i]!).qU)[k]!).qG),Sv ae141Bag (((((s.qx[i]!).qU)[k]!).jJ).length) ce141Bag] sizeOf164 fun w144 H=>zjn (xO (sp (.func (.func 191) #[] #[pp b79 0,pp b83 0]) (oF rfl (oL rfl (H.cell 0 rfl rfl) (oF rfl (oL rfl (H.cell 0 rfl rfl) ?_)))))))))))
    refine sw (vJ #[yI ((((s.qx[i]!).qU)[k]!).qG),Sv ae141Bag (((((s.qx[i]!).qU)[k]!).jJ).length) ce141Bag,pp b79 0,pp b83 0] rfl rfl call191 (en func191 ntmps191 ?_))
    refine QI rfl H [0,1,2,3,4,5,6,7,9,10,11] fun H=>?_
    have S:=H.yU [0,1,2,3,4,5,6,7,9,10,11] [0,1,2,3,4,5,6,7,8,9,10,11,12,13,14,15,16,17]
    refine tL 0 rfl rfl (fun _ h=>h.cell 3 rfl rfl) S ?_
    refine rtp 1 (yI ((((s.qx[i]!).qU)[k]!).qG)) S ?_
    refine tL 2 rfl rfl (fun _ h=>h.cell 3 rfl rfl) S ?_
    refine rtp 3 (yI ((((s.qx[i]!).qU)[k]!).qG)) S ?_
    refine tI 4 rfl rfl rfl S ?_
    refine rtp 6 (Sv ae141Bag (((((s.qx[i]!).qU)[k]!).jJ).length) ce141Bag) S ?_
    refine tL 7 rfl rfl (fun _ h=>h.cell 1 rfl rfl) S ?_
    refine ro 5 rfl ?_
    obtain ⟨a146,c147,G148,s149,h150,H⟩:=H.yw 8 rfl 2 rfl (iv:=(((s.qx[i]!).qU)[k]!).qG) (((((s.qx[i]!).qU)[k]!).qG).toNat) qf qf
    refine zT (Sv a146 ((bags_1[((((s.qx[i]!).qU)[k]!).qG).toNat]!).length) c147) isAgg22 rfl (h150) (⟨H.pick [0,1,2,3,4,5,6,7,9,10,11] [1,2,3,4,5,6,7,8,9,10,11,12,13,14,15,16,17,18],(ro 8 rfl ?_)⟩)
    obtain ⟨u1,u2⟩:=E_bags_1.sh.row (c:=((((s.qx[i]!).qU)[k]!).qG).toNat) qf p8 qf
    have u4:=(by first | exact bn1.Qq qf | exact bn2.Qq qf | exact bn3.Qq qf | exact bn4.Qq qf:SmallT ((((s.qx[i]!).qU)[k]!).jJ) (counts[i]!))
    have sz151:=H.base.size
    have lt152:=H.ltN (L:=[G69]) [4]
    refine oc (plus_ok _ (bags_1[((((s.qx[i]!).qU)[k]!).qG).toNat]!) ((((s.qx[i]!).qU)[k]!).jJ) (counts[i]!) (H.get 0 rfl).1 (H.get 1 rfl).1 qg qg qg) ?_
    rintro v156 w154 r156 x155
    replace H:=H.zJ x155 r156
    obtain ⟨a157,c158,rfl,hc159,hm160⟩:=H.jA 0 rfl
    refine ⟨H.pick [1,2,3,4,5,6,7,8,10,11,12] [1,2,3,4,5,6,7,8,9,10,11,12,13,14,15,16,17,18],(tI 9 rfl rfl rfl (H.pick [1,2,3,4,5,6,7,8,10,11,12] [1,2,3,4,5,6,7,8,9,10,11,12,13,14,15,16,17,18]) ?_)⟩
    refine ro 10 rfl ?_
    obtain ⟨G162,N,hn163,H⟩:=H.jb 0 rfl N (H.jU [4])
    refine jX false H 9 rfl 4 rfl (Sv a157 ((ji (bags_1[((((s.qx[i]!).qU)[k]!).qG).toNat]!) ((((s.qx[i]!).qU)[k]!).jJ) (counts[i]!)).length) c158) 0 rfl rfl sizeOf22 rfl rfl (i:=(((((s.qx[i]!).qU)[k]!).qG).toNat)) qf qf qm fun w161 xs164 F165 hs166 H=>⟨H.pick [1,2,3,4,5,6,7,8,10,11,12] [3,4,5,6,7,8,9,10,11,12,13,14,15,16,17,18,19,20],(xP qh ((ret0 rfl ⟨_,rfl,?_⟩)))⟩
    replace H:=H.erases [0]
    dsimp only [vS,List.eraseIdx] at H
    obtain ⟨bg167,e_bg167⟩:∃ z,z=(bags_1.set (((((s.qx[i]!).qU)[k]!).qG).toNat) (ji (bags_1[((((s.qx[i]!).qU)[k]!).qG).toNat]!) ((((s.qx[i]!).qU)[k]!).jJ) (counts[i]!))):=⟨_,rfl⟩
    rw [← e_bg167] at H
    have E_bg167:=Ent.add (D:=1000000) E_bags_1 e_bg167 qf (by first | exact bn1.mul qf | exact bn2.mul qf | exact bn3.mul qf | exact bn4.mul qf) qf
    have z_bg167:=E_bg167.sh.1
    have E_cur:=E_bg167
    refine xM (b_n (t_n (xO (sw (zB k 1 rfl rfl qf (sp (yI (k+1)) (xM (qY (m' :=((((s.qx[i]!).qU).length) - ((k+1):Int)).toNat) qf ⟨_,k+1,bg167,xs164,F165,uE4,?_,?_,?_,rfl,(N.pick [1]),H.pick [1,2,3,4,5,6,7,8,9,10,11] [0,6,7,8,9,10,11,12,13,14,15,16,17,18,19,20]⟩))))))))
    · omega
    · exact E_cur.to (fun p q=>by simp only [intoF];omega) qf
    · omega
   refine c_exit (t_x (t_x (b_x (ret0 rfl ⟨_,rfl,?_⟩))))
   replace H:=H.erases [4,3,2,1,0]
   dsimp only [vS,List.eraseIdx] at H
   refine zjn ?_
   refine QI rfl H [0,2,3,4,5] fun H=>?_
   have S:=H.yU [0,2,3,4,5] [0,1,2,3,4,5,6,7,8,9,10,11,12,13,14,15]
   refine rtp 0 (Sv (aa b36 0) s.qw.length s.qw.length) S ?_
   refine tF 1 rfl rfl S ?_
   refine tL 2 rfl rfl (fun _ h=>h.cell 0 rfl rfl) S ?_
   refine rtp 3 (Sv (aa b36 0) s.qw.length s.qw.length) S ?_
   refine tF 4 rfl rfl S ?_
   refine tL 5 rfl rfl (fun _ h=>h.cell 0 rfl rfl) S ?_
   refine tI 6 rfl rfl rfl S ?_
   refine ro 7 rfl (zT (Bv ((yV s counts s.qw.length i)[((s.qx[i]!).qG).toNat]!)) isAgg4 rfl (H.rowBool 1 rfl (iv:=(s.qx[i]!).qG) (i:=(((s.qx[i]!).qG).toNat)) qf qf) (⟨H.pick [0,2,3,4,5] [0,1,2,3,4,5,6,7,8,9,10,11,12,13,14,15],(rtp 8 (Bv ((yV s counts s.qw.length i)[((s.qx[i]!).qG).toNat]!)) (H.pick [0,2,3,4,5] [0,1,2,3,4,5,6,7,8,9,10,11,12,13,14,15]) ?_)⟩))
   cases h169:((yV s counts s.qw.length i)[((s.qx[i]!).qG).toNat]!)
   ·skip
    have S:=H.yU [0,2,3,4,5] [0,1,2,3,4,5,6,7,8,9,10,11,12,13,14,15]
    refine rgp 9 (yI (counts[i]!)) 66 S ?_
    refine rgp 10 (Bv (decide ((counts[i]! :Int) > 0))) 66 S ?_
    refine rgp 11 (Bv (decide ((counts[i]! :Int) > 0))) 66 S ?_
    cases h170:(decide ((counts[i]! :Int) > 0))
    ·skip
     replace h170:=of_decide_eq_false h170
     refine zZ [12,13] 2 (H.pick [0,2,3,4,5] [0,1,2,3,4,5,6,7,8,9,10,11,12,13,14,15]) ?_
     have S:=H.yU [0,2,3,4,5] [0,1,2,3,4,5,6,7,8,9,10,11,12,13,14,15]
     refine rgp 14 (Bv false) 66 S ?_
     refine rtp 15 (Bv false) S ?_
     refine tI 16 rfl rfl rfl S ?_
     refine ro 17 rfl (Xo H 1 rfl false sizeOf4 rfl rfl (i:=(((s.qx[i]!).qG).toNat)) qf qf fun w171 H=>⟨H.pick [0,2,3,4,5] [0,1,2,3,4,5,6,7,8,9,10,11,12,13,14,15],(xP qh (b_n (t_n (xO (sw (zB i 1 rfl rfl qf (sp (yI (i+1)) (xM (qY (m' :=(counts.length - ((i+1):Int)).toNat) qf ⟨_,i+1,((yV s counts s.qw.length i).set (((s.qx[i]!).qG).toNat) false),bags_1,VV,F_bags_1,uE8,?_,?_,?_,?_,rfl,(N.pick []),H.pick [1,2,3,4,5] [0,10,11,12,13,14,15]⟩)))))))))⟩)
     · first | exact meltsL_1 qf qf ‹_› | exact meltsL_2 qf qf ‹_› qf | exact meltsL_3 qf qf ‹_› qf
     · omega
     · exact E_bags_1.to (fun p q=>by rw [show k=((s.qx[i]!).qU).length by omega];simp only [allS,needF,putF];omega) qf
     · omega
    replace h170:=of_decide_eq_true h170
    have S:=H.yU [0,2,3,4,5] [0,1,2,3,4,5,6,7,8,9,10,11,12,13,14,15]
    refine gF 12 rfl rfl S ?_
    refine gL 13 rfl rfl (fun _ h=>h.cell 0 rfl rfl) S ?_
    refine rgp 14 (Bv ((s.qx[i]!).zH)) 66 S ?_
    refine rtp 15 (Bv ((s.qx[i]!).zH)) S ?_
    refine tI 16 rfl rfl rfl S ?_
    refine ro 17 rfl (Xo H 1 rfl ((s.qx[i]!).zH) sizeOf4 rfl rfl (i:=(((s.qx[i]!).qG).toNat)) qf qf fun w172 H=>⟨H.pick [0,2,3,4,5] [0,1,2,3,4,5,6,7,8,9,10,11,12,13,14,15],(xP qh (b_n (t_n (xO (sw (zB i 1 rfl rfl qf (sp (yI (i+1)) (xM (qY (m' :=(counts.length - ((i+1):Int)).toNat) qf ⟨_,i+1,((yV s counts s.qw.length i).set (((s.qx[i]!).qG).toNat) ((s.qx[i]!).zH)),bags_1,VV,F_bags_1,uE8,?_,?_,?_,?_,rfl,(N.pick []),H.pick [1,2,3,4,5] [0,10,11,12,13,14,15]⟩)))))))))⟩)
    · first | exact meltsL_1 qf qf ‹_› | exact meltsL_2 qf qf ‹_› qf | exact meltsL_3 qf qf ‹_› qf
    · omega
    · exact E_bags_1.to (fun p q=>by rw [show k=((s.qx[i]!).qU).length by omega];simp only [allS,needF,putF];omega) qf
    · omega
   refine zZ [9,10,11,12,13,14] 6 (H.pick [0,2,3,4,5] [0,1,2,3,4,5,6,7,8,9,10,11,12,13,14,15]) ?_
   have S:=H.yU [0,2,3,4,5] [0,1,2,3,4,5,6,7,8,9,10,11,12,13,14,15]
   refine rtp 15 (Bv true) S ?_
   refine tI 16 rfl rfl rfl S ?_
   refine ro 17 rfl (Xo H 1 rfl true sizeOf4 rfl rfl (i:=(((s.qx[i]!).qG).toNat)) qf qf fun w173 H=>⟨H.pick [0,2,3,4,5] [0,1,2,3,4,5,6,7,8,9,10,11,12,13,14,15],(xP qh (b_n (t_n (xO (sw (zB i 1 rfl rfl qf (sp (yI (i+1)) (xM (qY (m' :=(counts.length - ((i+1):Int)).toNat) qf ⟨_,i+1,((yV s counts s.qw.length i).set (((s.qx[i]!).qG).toNat) true),bags_1,VV,F_bags_1,uE8,?_,?_,?_,?_,rfl,(N.pick []),H.pick [1,2,3,4,5] [0,10,11,12,13,14,15]⟩)))))))))⟩)
   · first | exact meltsL_1 qf qf ‹_› | exact meltsL_2 qf qf ‹_› qf | exact meltsL_3 qf qf ‹_› qf
   · omega
   · exact E_bags_1.to (fun p q=>by rw [show k=((s.qx[i]!).qU).length by omega];simp only [allS,needF,putF];omega) qf
   · omega
  have po:=outPl_out (r:=s.qx[i]!) p15 p1.2.2.1 qc qf
  refine QI rfl H [0,1,2,3,4,5,6,8,9,10] fun H=>?_
  have S:=H.yU [0,1,2,3,4,5,6,8,9,10] [0,1,2,3,4,5,6,7,8,9,10,11,12,13,14,15,16,17,18,19]
  refine rtp 0 (.func (.func 191) #[] #[pp b79 0,pp b83 0]) S ?_
  refine rt 1 (.agg #[yI s.xB,Sv qC s.qw.length qB,Sv (aa b44 o45) s.qx.length qJ]) (QL (cs:=[yI s.xB,Sv qC s.qw.length qB,Sv (aa b44 o45) s.qx.length qJ]) isAgg36 sizeOf36 rfl (fun _ h=>qF (h.cells 4 rfl) 0 3)) S ?_
  refine tF 3 rfl rfl S ?_
  refine tL 4 rfl rfl (fun _ h=>h.cell 1 rfl rfl) S ?_
  refine ro 2 rfl (oq (around_ok _ s (H.get 14 rfl).1 (H.get 15 rfl).1) H fun w176 H=>⟨H.pick [0,1,2,3,4,5,6,8,9,10] [0,1,2,3,4,5,6,7,8,9,10,11,12,13,14,15,16,17,18,19],(ro 5 rfl (vJ #[yI s.qw.length,Sv VR (((s.qx[i]!).ve).length) VP,pp b79 0,pp b83 0] rfl rfl call191 (en func191 ntmps191 ?_)))⟩)
  refine QI rfl H [0,1,2,3,4,5,6,8,9,10] fun H=>?_
  have S:=H.yU [0,1,2,3,4,5,6,8,9,10] [0,1,2,3,4,5,6,7,8,9,10,11,12,13,14,15,16,17,18,19]
  refine tL 0 rfl rfl (fun _ h=>h.cell 2 rfl rfl) S ?_
  refine rtp 1 (yI s.qw.length) S ?_
  refine tL 2 rfl rfl (fun _ h=>h.cell 2 rfl rfl) S ?_
  refine rtp 3 (yI s.qw.length) S ?_
  refine tI 4 rfl rfl rfl S ?_
  refine rtp 6 (Sv VR (((s.qx[i]!).ve).length) VP) S ?_
  refine tL 7 rfl rfl (fun _ h=>h.cell 0 rfl rfl) S ?_
  refine ro 5 rfl ?_
  obtain ⟨a179,c180,G181,s182,h183,H⟩:=H.yw 7 rfl 0 rfl (iv:=s.qw.length) s.qw.length qf qf
  refine zT (Sv a179 ((bg107[s.qw.length]!).length) c180) isAgg22 rfl (h183) (⟨H.pick [0,1,2,3,4,5,6,8,9,10] [1,2,3,4,5,6,7,8,9,10,11,12,13,14,15,16,17,18,19,20],(ro 8 rfl ?_)⟩)
  obtain ⟨u1,u2⟩:=E_bg107.sh.row (c:=s.qw.length) qf p8 qf
  have u4:=(by first | exact bn1.Qq qf | exact bn2.Qq qf | exact bn3.Qq qf | exact bn4.Qq qf:SmallT ((s.qx[i]!).ve) (counts[i]!))
  have sz184:=H.base.size
  have lt185:=H.ltN (L:=[G102,G69]) [2,5]
  refine oc (plus_ok _ (bg107[s.qw.length]!) ((s.qx[i]!).ve) (counts[i]!) (H.get 0 rfl).1 (H.get 11 rfl).1 qg qg qg) ?_
  rintro v189 w187 r189 x188
  replace H:=H.zJ x188 r189
  obtain ⟨a190,c191,rfl,hc192,hm193⟩:=H.jA 0 rfl
  refine ⟨H.pick [1,2,3,4,5,6,7,9,10,11] [1,2,3,4,5,6,7,8,9,10,11,12,13,14,15,16,17,18,19,20],(tI 9 rfl rfl rfl (H.pick [1,2,3,4,5,6,7,9,10,11] [1,2,3,4,5,6,7,8,9,10,11,12,13,14,15,16,17,18,19,20]) ?_)⟩
  refine ro 10 rfl ?_
  obtain ⟨G195,N,hn196,H⟩:=H.jb 0 rfl N (H.jU [2,5])
  refine jX false H 8 rfl 2 rfl (Sv a190 ((ji (bg107[s.qw.length]!) ((s.qx[i]!).ve) (counts[i]!)).length) c191) 0 rfl rfl sizeOf22 rfl rfl (i:=s.qw.length) qf qf qm fun w194 xs197 F198 hs199 H=>⟨H.pick [1,2,3,4,5,6,7,9,10,11] [3,4,5,6,7,8,9,10,11,12,13,14,15,16,17,18,19,20,21,22],(xP qh ((ret0 rfl ⟨_,rfl,?_⟩)))⟩
  replace H:=H.erases [0]
  dsimp only [vS,List.eraseIdx] at H
  obtain ⟨bg200,e_bg200⟩:∃ z,z=(bg107.set s.qw.length (ji (bg107[s.qw.length]!) ((s.qx[i]!).ve) (counts[i]!))):=⟨_,rfl⟩
  rw [← e_bg200] at H
  have E_bg200:=Ent.add (D:=1000000) E_bg107 e_bg200 qf (by first | exact bn1.mul qf | exact bn2.mul qf | exact bn3.mul qf | exact bn4.mul qf) qf
  have z_bg200:=E_bg200.sh.1
  have E_cur:=E_bg200
  refine ⟨H.pick [0,1,2,3,4,5,6,8,9,10] [3,4,5,6,7,8,9,10,11,12,13,14,15,16,17,18,19,20,21,22],(xP qh (t_n (zcr (oF rfl (oL rfl (H.cell 1 rfl rfl) (oN rfl (sp (yI 0) (zjn (qX ?_)))))))))⟩
  refine zD (fun m' ρ w201=>∃ (xY:Env) (k:Nat) (bags_1:yLL) (VV:List Value) (F_bags_1:yLN),ρ=upd (upd (upd (upd xY 10 (.func (.func 191) #[] #[pp b79 0,pp b83 0])) 40 (Sv Vm (((s.qx[i]!).qU).length) Vk)) 41 (yI (((s.qx[i]!).qU).length))) 42 (yI k)∧((k:Int)≤(((s.qx[i]!).qU).length))∧(Ent (s.qw.length+1) (QY s) (fun p q=>base0 s t p q+allS s t counts i p q+at' p (s.qx[i]!).qG.toNat (-(counts[i]!) * ((s.qx[i]!).xn)[q]!)+at' p (s.qx[i]!).qG.toNat ((counts[i]!) * ((s.qx[i]!).xK)[q]!)+at' p (outPl s t (s.qx[i]!)) ((counts[i]!) * ((s.qx[i]!).ve)[q]!)+intoF (s.qx[i]!) (counts[i]!) k p q) (23000000+6000000 * i+1000000 * k) bags_1)∧(bags_1.length=s.qw.length+1)∧m' =((((s.qx[i]!).qU).length) - (k:Int)).toNat∧Fresh w.heap.size [G69]∧St w w201 [.box b83 [yI (counts[i]!)] 2,.box b81 [yI ((s.qx[i]!).qG),yI ((s.qx[i]!).zS),Sv V9 (((s.qx[i]!).xn).length) V3,Sv Yb (((s.qx[i]!).xF).length) V5,Sv Ya (((s.qx[i]!).xI).length) V4,Sv Vo (((s.qx[i]!).xK).length) Vl,Sv VR (((s.qx[i]!).ve).length) VP,Sv Vm (((s.qx[i]!).qU).length) Vk,Bv ((s.qx[i]!).zH)] 121,.box b79 [Sv (aa b52 0) (t.qE.length+1) c8] 27,.box b77 (yT t qV qR xm xk qL qK) 38,.box b75 [yI s.xB,Sv qC s.qw.length qB,Sv (aa b44 o45) s.qx.length qJ] 36,.box b48 [yI ((s.qx[i]!).qG),yI ((s.qx[i]!).zS),Sv V9 (((s.qx[i]!).xn).length) V3,Sv Yb (((s.qx[i]!).xF).length) V5,Sv Ya (((s.qx[i]!).xI).length) V4,Sv Vo (((s.qx[i]!).xK).length) Vl,Sv VR (((s.qx[i]!).ve).length) VP,Sv Vm (((s.qx[i]!).qU).length) Vk,Bv ((s.qx[i]!).zH)] 121,rr (aa b36 0) s.qw.length s.qw.length 4 1 ((yV s counts s.qw.length i).map (Value.bool)),rr (aa b52 0) (t.qE.length+1) c8 22 1 VV,.box b5 [yN,yN,yN] 38,.box b3 (yT t qV qR xm xk qL qK) 38,.box b1 [yI s.xB,Sv qC s.qw.length qB,Sv (aa b44 o45) s.qx.length qJ] 36] [zf false F_bags_1 VV bags_1,sF true G69 a64 c65 (ji (bags[((s.qx[i]!).qG).toNat]!) ((s.qx[i]!).xn) (-(counts[i]!))),sF false G55 a53 c54 (bags[((s.qx[i]!).qG).toNat]!),sF false Fe47Need V9 V3 ((s.qx[i]!).xn),sF false Fe47Have Yb V5 ((s.qx[i]!).xF),sF false Fe47Lack Ya V4 ((s.qx[i]!).xI),sF false Fe47Here Vo Vl ((s.qx[i]!).xK),sF false Fe47Out VR VP ((s.qx[i]!).ve),sF false Fe47Into Vm Vk ((s.qx[i]!).qU),atF b44 (o45+(i:Int).toNat * 9) [yI ((s.qx[i]!).qG),yI ((s.qx[i]!).zS),Sv V9 (((s.qx[i]!).xn).length) V3,Sv Yb (((s.qx[i]!).xF).length) V5,Sv Ya (((s.qx[i]!).xI).length) V4,Sv Vo (((s.qx[i]!).xK).length) Vl,Sv VR (((s.qx[i]!).ve).length) VP,Sv Vm (((s.qx[i]!).qU).length) Vk,Bv ((s.qx[i]!).zH)],sF false qZ qC qB s.qw,sF false xG (aa b44 o45) qJ s.qx,sF false xR qV qR t.qA,sF false zC xm xk t.qE,sF false xC qL qK t.qy,sF false Fcounts (aa b41 o42) ccounts counts]) (((((s.qx[i]!).qU).length) - (0:Int)).toNat) ⟨_,0,bg200,xs197,F198,uE4,qf,(by exact E_cur.to (fun p q=>by rw [po];simp only [intoF];first | omega | (simp only [Int.toNat_natCast];omega)) qf),qf,rfl,(N.pick [2]),H.pick [0,1,2,3,4,5,6,7,8,9,10] [0,7,8,9,10,11,12,13,14,15,17,18,19,20,21,22]⟩ ?_
  clear H N
  rintro m' ρ w202 ⟨xY,k,bags_1,VV,F_bags_1,rfl,i0,E_bags_1,z_bags_1,rfl,N,H⟩
  have hn_bags:=H.zq (α:=yLI) 7 rfl 0 rfl qj
  refine zcr (sp (Bv (decide ((k:Int) < (((s.qx[i]!).qU).length)))) (zjn (xQ (cD rfl (fun h203=>?_) (fun h203=>?_)))))
  ·skip
   have qi:=q.2.2.2.2.2.2.2.2.2.2 k qf
   have qi1:=qi.1
   have bn4:=qi.2.2.1
   have ln4:=bn4.len
   refine qW (t_n (xQ (qX (zcr ?_))))
   obtain ⟨b204,o205,rfl⟩:=H.addr 8 rfl qf
   obtain ⟨ae207Bag,ce207Bag,Fe207Bag,H⟩:=H.yh 8 rfl k k qf qf qf
   refine oI rfl rfl (sw (zl [yI ((((s.qx[i]!).qU)[k]!).qG),Sv ae207Bag (((((s.qx[i]!).qU)[k]!).jJ).length) ce207Bag] isAgg164 sizeOf164 rfl (qF (H.get 1 rfl) 0 2) (sw (zh H ti164 [yI 0,yN] fun b208 w209 H=>sw (zF H 0 [yI ((((s.qx[i]!).qU)[k]!).qG),Sv ae207Bag (((((s.qx[i]!).qU)[k]!).jJ).length) ce207Bag] sizeOf164 fun w210 H=>zjn (xO (sp (.func (.func 191) #[] #[pp b79 0,pp b83 0]) (oF rfl (oL rfl (H.cell 0 rfl rfl) (oF rfl (oL rfl (H.cell 0 rfl rfl) ?_)))))))))))
   refine sw (vJ #[yI ((((s.qx[i]!).qU)[k]!).qG),Sv ae207Bag (((((s.qx[i]!).qU)[k]!).jJ).length) ce207Bag,pp b79 0,pp b83 0] rfl rfl call191 (en func191 ntmps191 ?_))
   refine QI rfl H [0,1,2,3,4,5,6,7,9,10,11] fun H=>?_
   have S:=H.yU [0,1,2,3,4,5,6,7,9,10,11] [0,1,2,3,4,5,6,7,8,9,10,11,12,13,14,15,16,17]
   refine tL 0 rfl rfl (fun _ h=>h.cell 3 rfl rfl) S ?_
   refine rtp 1 (yI ((((s.qx[i]!).qU)[k]!).qG)) S ?_
   refine tL 2 rfl rfl (fun _ h=>h.cell 3 rfl rfl) S ?_
   refine rtp 3 (yI ((((s.qx[i]!).qU)[k]!).qG)) S ?_
   refine tI 4 rfl rfl rfl S ?_
   refine rtp 6 (Sv ae207Bag (((((s.qx[i]!).qU)[k]!).jJ).length) ce207Bag) S ?_
   refine tL 7 rfl rfl (fun _ h=>h.cell 1 rfl rfl) S ?_
   refine ro 5 rfl ?_
   obtain ⟨a212,c213,G214,s215,h216,H⟩:=H.yw 8 rfl 2 rfl (iv:=(((s.qx[i]!).qU)[k]!).qG) (((((s.qx[i]!).qU)[k]!).qG).toNat) qf qf
   refine zT (Sv a212 ((bags_1[((((s.qx[i]!).qU)[k]!).qG).toNat]!).length) c213) isAgg22 rfl (h216) (⟨H.pick [0,1,2,3,4,5,6,7,9,10,11] [1,2,3,4,5,6,7,8,9,10,11,12,13,14,15,16,17,18],(ro 8 rfl ?_)⟩)
   obtain ⟨u1,u2⟩:=E_bags_1.sh.row (c:=((((s.qx[i]!).qU)[k]!).qG).toNat) qf p8 qf
   have u4:=(by first | exact bn1.Qq qf | exact bn2.Qq qf | exact bn3.Qq qf | exact bn4.Qq qf:SmallT ((((s.qx[i]!).qU)[k]!).jJ) (counts[i]!))
   have sz217:=H.base.size
   have lt218:=H.ltN (L:=[G69]) [4]
   refine oc (plus_ok _ (bags_1[((((s.qx[i]!).qU)[k]!).qG).toNat]!) ((((s.qx[i]!).qU)[k]!).jJ) (counts[i]!) (H.get 0 rfl).1 (H.get 1 rfl).1 qg qg qg) ?_
   rintro v222 w220 r222 x221
   replace H:=H.zJ x221 r222
   obtain ⟨a223,c224,rfl,hc225,hm226⟩:=H.jA 0 rfl
   refine ⟨H.pick [1,2,3,4,5,6,7,8,10,11,12] [1,2,3,4,5,6,7,8,9,10,11,12,13,14,15,16,17,18],(tI 9 rfl rfl rfl (H.pick [1,2,3,4,5,6,7,8,10,11,12] [1,2,3,4,5,6,7,8,9,10,11,12,13,14,15,16,17,18]) ?_)⟩
   refine ro 10 rfl ?_
   obtain ⟨G228,N,hn229,H⟩:=H.jb 0 rfl N (H.jU [4])
   refine jX false H 9 rfl 4 rfl (Sv a223 ((ji (bags_1[((((s.qx[i]!).qU)[k]!).qG).toNat]!) ((((s.qx[i]!).qU)[k]!).jJ) (counts[i]!)).length) c224) 0 rfl rfl sizeOf22 rfl rfl (i:=(((((s.qx[i]!).qU)[k]!).qG).toNat)) qf qf qm fun w227 xs230 F231 hs232 H=>⟨H.pick [1,2,3,4,5,6,7,8,10,11,12] [3,4,5,6,7,8,9,10,11,12,13,14,15,16,17,18,19,20],(xP qh ((ret0 rfl ⟨_,rfl,?_⟩)))⟩
   replace H:=H.erases [0]
   dsimp only [vS,List.eraseIdx] at H
   obtain ⟨bg233,e_bg233⟩:∃ z,z=(bags_1.set (((((s.qx[i]!).qU)[k]!).qG).toNat) (ji (bags_1[((((s.qx[i]!).qU)[k]!).qG).toNat]!) ((((s.qx[i]!).qU)[k]!).jJ) (counts[i]!))):=⟨_,rfl⟩
   rw [← e_bg233] at H
   have E_bg233:=Ent.add (D:=1000000) E_bags_1 e_bg233 qf (by first | exact bn1.mul qf | exact bn2.mul qf | exact bn3.mul qf | exact bn4.mul qf) qf
   have z_bg233:=E_bg233.sh.1
   have E_cur:=E_bg233
   refine xM (b_n (t_n (xO (sw (zB k 1 rfl rfl qf (sp (yI (k+1)) (xM (qY (m' :=((((s.qx[i]!).qU).length) - ((k+1):Int)).toNat) qf ⟨_,k+1,bg233,xs230,F231,uE4,?_,?_,?_,rfl,(N.pick [1]),H.pick [1,2,3,4,5,6,7,8,9,10,11] [0,6,7,8,9,10,11,12,13,14,15,16,17,18,19,20]⟩))))))))
   · omega
   · exact E_cur.to (fun p q=>by simp only [intoF];omega) qf
   · omega
  refine c_exit (t_x (t_x (b_x (ret0 rfl ⟨_,rfl,?_⟩))))
  replace H:=H.erases [4,3,2,1,0]
  dsimp only [vS,List.eraseIdx] at H
  refine zjn ?_
  refine QI rfl H [0,2,3,4,5] fun H=>?_
  have S:=H.yU [0,2,3,4,5] [0,1,2,3,4,5,6,7,8,9,10,11,12,13,14,15]
  refine rtp 0 (Sv (aa b36 0) s.qw.length s.qw.length) S ?_
  refine tF 1 rfl rfl S ?_
  refine tL 2 rfl rfl (fun _ h=>h.cell 0 rfl rfl) S ?_
  refine rtp 3 (Sv (aa b36 0) s.qw.length s.qw.length) S ?_
  refine tF 4 rfl rfl S ?_
  refine tL 5 rfl rfl (fun _ h=>h.cell 0 rfl rfl) S ?_
  refine tI 6 rfl rfl rfl S ?_
  refine ro 7 rfl (zT (Bv ((yV s counts s.qw.length i)[((s.qx[i]!).qG).toNat]!)) isAgg4 rfl (H.rowBool 1 rfl (iv:=(s.qx[i]!).qG) (i:=(((s.qx[i]!).qG).toNat)) qf qf) (⟨H.pick [0,2,3,4,5] [0,1,2,3,4,5,6,7,8,9,10,11,12,13,14,15],(rtp 8 (Bv ((yV s counts s.qw.length i)[((s.qx[i]!).qG).toNat]!)) (H.pick [0,2,3,4,5] [0,1,2,3,4,5,6,7,8,9,10,11,12,13,14,15]) ?_)⟩))
  cases h235:((yV s counts s.qw.length i)[((s.qx[i]!).qG).toNat]!)
  ·skip
   have S:=H.yU [0,2,3,4,5] [0,1,2,3,4,5,6,7,8,9,10,11,12,13,14,15]
   refine rgp 9 (yI (counts[i]!)) 66 S ?_
   refine rgp 10 (Bv (decide ((counts[i]! :Int) > 0))) 66 S ?_
   refine rgp 11 (Bv (decide ((counts[i]! :Int) > 0))) 66 S ?_
   cases h236:(decide ((counts[i]! :Int) > 0))
   ·skip
    replace h236:=of_decide_eq_false h236
    refine zZ [12,13] 2 (H.pick [0,2,3,4,5] [0,1,2,3,4,5,6,7,8,9,10,11,12,13,14,15]) ?_
    have S:=H.yU [0,2,3,4,5] [0,1,2,3,4,5,6,7,8,9,10,11,12,13,14,15]
    refine rgp 14 (Bv false) 66 S ?_
    refine rtp 15 (Bv false) S ?_
    refine tI 16 rfl rfl rfl S ?_
    refine ro 17 rfl (Xo H 1 rfl false sizeOf4 rfl rfl (i:=(((s.qx[i]!).qG).toNat)) qf qf fun w237 H=>⟨H.pick [0,2,3,4,5] [0,1,2,3,4,5,6,7,8,9,10,11,12,13,14,15],(xP qh (b_n (t_n (xO (sw (zB i 1 rfl rfl qf (sp (yI (i+1)) (xM (qY (m' :=(counts.length - ((i+1):Int)).toNat) qf ⟨_,i+1,((yV s counts s.qw.length i).set (((s.qx[i]!).qG).toNat) false),bags_1,VV,F_bags_1,uE8,?_,?_,?_,?_,rfl,(N.pick []),H.pick [1,2,3,4,5] [0,10,11,12,13,14,15]⟩)))))))))⟩)
    · first | exact meltsL_1 qf qf ‹_› | exact meltsL_2 qf qf ‹_› qf | exact meltsL_3 qf qf ‹_› qf
    · omega
    · exact E_bags_1.to (fun p q=>by rw [show k=((s.qx[i]!).qU).length by omega];simp only [allS,needF,putF];omega) qf
    · omega
   replace h236:=of_decide_eq_true h236
   have S:=H.yU [0,2,3,4,5] [0,1,2,3,4,5,6,7,8,9,10,11,12,13,14,15]
   refine gF 12 rfl rfl S ?_
   refine gL 13 rfl rfl (fun _ h=>h.cell 0 rfl rfl) S ?_
   refine rgp 14 (Bv ((s.qx[i]!).zH)) 66 S ?_
   refine rtp 15 (Bv ((s.qx[i]!).zH)) S ?_
   refine tI 16 rfl rfl rfl S ?_
   refine ro 17 rfl (Xo H 1 rfl ((s.qx[i]!).zH) sizeOf4 rfl rfl (i:=(((s.qx[i]!).qG).toNat)) qf qf fun w238 H=>⟨H.pick [0,2,3,4,5] [0,1,2,3,4,5,6,7,8,9,10,11,12,13,14,15],(xP qh (b_n (t_n (xO (sw (zB i 1 rfl rfl qf (sp (yI (i+1)) (xM (qY (m' :=(counts.length - ((i+1):Int)).toNat) qf ⟨_,i+1,((yV s counts s.qw.length i).set (((s.qx[i]!).qG).toNat) ((s.qx[i]!).zH)),bags_1,VV,F_bags_1,uE8,?_,?_,?_,?_,rfl,(N.pick []),H.pick [1,2,3,4,5] [0,10,11,12,13,14,15]⟩)))))))))⟩)
   · first | exact meltsL_1 qf qf ‹_› | exact meltsL_2 qf qf ‹_› qf | exact meltsL_3 qf qf ‹_› qf
   · omega
   · exact E_bags_1.to (fun p q=>by rw [show k=((s.qx[i]!).qU).length by omega];simp only [allS,needF,putF];omega) qf
   · omega
  refine zZ [9,10,11,12,13,14] 6 (H.pick [0,2,3,4,5] [0,1,2,3,4,5,6,7,8,9,10,11,12,13,14,15]) ?_
  have S:=H.yU [0,2,3,4,5] [0,1,2,3,4,5,6,7,8,9,10,11,12,13,14,15]
  refine rtp 15 (Bv true) S ?_
  refine tI 16 rfl rfl rfl S ?_
  refine ro 17 rfl (Xo H 1 rfl true sizeOf4 rfl rfl (i:=(((s.qx[i]!).qG).toNat)) qf qf fun w239 H=>⟨H.pick [0,2,3,4,5] [0,1,2,3,4,5,6,7,8,9,10,11,12,13,14,15],(xP qh (b_n (t_n (xO (sw (zB i 1 rfl rfl qf (sp (yI (i+1)) (xM (qY (m' :=(counts.length - ((i+1):Int)).toNat) qf ⟨_,i+1,((yV s counts s.qw.length i).set (((s.qx[i]!).qG).toNat) true),bags_1,VV,F_bags_1,uE8,?_,?_,?_,?_,rfl,(N.pick []),H.pick [1,2,3,4,5] [0,10,11,12,13,14,15]⟩)))))))))⟩)
  · first | exact meltsL_1 qf qf ‹_› | exact meltsL_2 qf qf ‹_› qf | exact meltsL_3 qf qf ‹_› qf
  · omega
  · exact E_bags_1.to (fun p q=>by rw [show k=((s.qx[i]!).qU).length by omega];simp only [allS,needF,putF];omega) qf
  · omega
 refine zx4 (xQ ?_)
 obtain ⟨b240,rfl⟩:=H.Qn 1 rfl qf
 refine c_cut (fun ρ w250=>∃ (xY:Env) (b241:Nat) (ra242:yOA) (rc243:Nat) (ra244:yOA) (rc245:Nat) (ra246:yOA) (rc247:Nat) (rx248:List Value) (rF249:yLN),ρ=upd (upd (upd (upd xY 3 (pp b1 0)) 6 (pp b5 0)) 9 (Sv (aa b36 0) s.qw.length s.qw.length)) 13 (pp b241 0)∧Fresh w.heap.size [rF249]∧St w w250 [.box b241 [Sv ra242 (((⟨t.qA,(bags.take s.qw.length),bags[s.qw.length]!⟩:qH).qA).length) rc243,Sv ra244 (((⟨t.qA,(bags.take s.qw.length),bags[s.qw.length]!⟩:qH).qE).length) rc245,Sv ra246 (((⟨t.qA,(bags.take s.qw.length),bags[s.qw.length]!⟩:qH).qy).length) rc247] 38,rr ra242 (((⟨t.qA,(bags.take s.qw.length),bags[s.qw.length]!⟩:qH).qA).length) rc243 4 1 (((⟨t.qA,(bags.take s.qw.length),bags[s.qw.length]!⟩:qH).qA).map (Value.bool)),rr ra244 (((⟨t.qA,(bags.take s.qw.length),bags[s.qw.length]!⟩:qH).qE).length) rc245 22 1 rx248,rr ra246 (((⟨t.qA,(bags.take s.qw.length),bags[s.qw.length]!⟩:qH).qy).length) rc247 2 1 (((⟨t.qA,(bags.take s.qw.length),bags[s.qw.length]!⟩:qH).qy).map (Value.int .i64)),rr (aa b36 0) s.qw.length s.qw.length 4 1 ((yV s counts s.qw.length i).map (Value.bool)),rr none 0 0 0 1 [],.box b5 [yN,yN,yN] 38,.box b3 (yT t qV qR xm xk qL qK) 38,.box b1 (yS s qC qB qN qJ) 36] [zf true rF249 rx248 ((⟨t.qA,(bags.take s.qw.length),bags[s.qw.length]!⟩:qH).qE),sF false qZ qC qB s.qw,sF false xG qN qJ s.qx,sF false xR qV qR t.qA,sF false zC xm xk t.qE,sF false xC qL qK t.qy]) ?_ ?_
 ·skip
  refine QI rfl H [0,2,3,4] fun H=>?_
  refine r_have (fun ρ w258=>∃ (xY:Env) (a252:yOA) (c253:Nat) (a254:yOA) (G255:yLN) (G256:yLN),ρ=upd (upd (upd (upd (upd (upd xY 3 (pp b1 0)) 6 (pp b5 0)) 9 (Sv (aa b36 0) s.qw.length s.qw.length)) 77 (Sv qV t.qA.length qR)) 81 (Sv a254 ((bags.take s.qw.length).length) c8)) 86 (Sv a252 ((bags[s.qw.length]!).length) c253)∧Fresh w.heap.size []∧St w w258 [rr (aa b36 0) s.qw.length s.qw.length 4 1 ((yV s counts s.qw.length i).map (Value.bool)),rr none 0 0 0 1 [],.box b5 [yN,yN,yN] 38,.box b3 (yT t qV qR xm xk qL qK) 38,.box b1 (yS s qC qB qN qJ) 36] [sF false G255 a254 c8 (bags.take s.qw.length),sF false G256 a252 c253 (bags[s.qw.length]!),zf false F_bags x_bags bags,sF false qZ qC qB s.qw,sF false xG qN qJ s.qx,sF false xR qV qR t.qA,sF false zC xm xk t.qE,sF false xC qL qK t.qy,sF false Fcounts acounts ccounts counts]) 4 #[true,true,true,true,true,true,true,true,true,true,true,false,false,false,false] ?_ fun L257=>?_
  ·skip
   rintro ρ w259 ⟨xY,a252,c253,a254,G255,G256,rfl,N,H⟩
   refine jK [11,13] qh qm (Qy rfl ?_ (Qy rfl ?_ jL))
   ·skip
    refine jF [Sv qV t.qA.length qR,Sv a254 ((bags.take s.qw.length).length) c8,Sv a252 ((bags[s.qw.length]!).length) c253] [(0,Sv qV t.qA.length qR),(1,Sv a254 ((bags.take s.qw.length).length) c8),(2,Sv a252 ((bags[s.qw.length]!).length) c253)] (⟨H.pick [0,2,3,4] [2,3,4,5,6,7,8],(jK [12,13] qh qm (Qy rfl ?_ (Qy rfl ?_ jL)))⟩)
    ·skip
     obtain ⟨cp0,cp1,cp2,cp3⟩:=copy_pre (al:=t.qA) E_bags p8 p9.2 p12
     have sz263:=H.base.size
     refine oc (Yy _ (⟨t.qA,(bags.take s.qw.length),bags[s.qw.length]!⟩:qH) (H.get 5 rfl).1 (H.get 0 rfl).1 (H.get 1 rfl).1 qg qg qg qg) ?_
     rintro _ w261 ⟨ra260Alive,rn260Alive,rc260Alive,ra260Bags,rn260Bags,rc260Bags,rx260Bags,rF260Bags,ra260Around,rn260Around,rc260Around,rfl,M,K⟩ _
     replace N:=N.merge sz263 qm M
     replace H:=H.merge K M
     obtain rfl:=H.rowNB 0 rfl
     obtain rfl:=H.zq (α:=yLI) 1 rfl 0 rfl qj
     obtain rfl:=H.YX 2 rfl
     refine ⟨H.pick [3,5,6,7] [3,4,5,6,7,8,9],(ro 13 rfl (zh H ti38 [yN,yN,yN] fun b268 w269 H=>⟨H.pick [4,6,7,8] [3,4,5,6,7,8,9],(ro 14 rfl (zF H 0 [Sv ra260Alive (((⟨t.qA,(bags.take s.qw.length),bags[s.qw.length]!⟩:qH).qA).length) rc260Alive,Sv ra260Bags (((⟨t.qA,(bags.take s.qw.length),bags[s.qw.length]!⟩:qH).qE).length) rc260Bags,Sv ra260Around (((⟨t.qA,(bags.take s.qw.length),bags[s.qw.length]!⟩:qH).qy).length) rc260Around] sizeOf38 fun w270 H=>⟨H.pick [4,6,7,8] [3,4,5,6,7,8,9],?_⟩))⟩))⟩
     refine xP qh ((meet ⟨_,b268,ra260Alive,rc260Alive,ra260Bags,rc260Bags,ra260Around,rc260Around,rx260Bags,rF260Bags,uE4,N,H.pick [0,1,2,3,4,5,6,7,8] [0,4,5,6,7,8]⟩))
    refine zh H ti38 [yN,yN,yN] fun b271 w272 H=>⟨H.pick [1,3,4,5] [2,3,4,5,6,7,8],(ro 12 rfl ?_)⟩
    obtain ⟨cp0,cp1,cp2,cp3⟩:=copy_pre (al:=t.qA) E_bags p8 p9.2 p12
    have sz276:=H.base.size
    refine oc (Yy _ (⟨t.qA,(bags.take s.qw.length),bags[s.qw.length]!⟩:qH) (H.get 5 rfl).1 (H.get 0 rfl).1 (H.get 1 rfl).1 qg qg qg qg) ?_
    rintro _ w274 ⟨ra273Alive,rn273Alive,rc273Alive,ra273Bags,rn273Bags,rc273Bags,rx273Bags,rF273Bags,ra273Around,rn273Around,rc273Around,rfl,M,K⟩ _
    replace N:=N.merge sz276 qm M
    replace H:=H.merge K M
    obtain rfl:=H.rowNB 0 rfl
    obtain rfl:=H.zq (α:=yLI) 1 rfl 0 rfl qj
    obtain rfl:=H.YX 2 rfl
    refine ⟨H.pick [4,6,7,8] [3,4,5,6,7,8,9],(ro 14 rfl (zF H 3 [Sv ra273Alive (((⟨t.qA,(bags.take s.qw.length),bags[s.qw.length]!⟩:qH).qA).length) rc273Alive,Sv ra273Bags (((⟨t.qA,(bags.take s.qw.length),bags[s.qw.length]!⟩:qH).qE).length) rc273Bags,Sv ra273Around (((⟨t.qA,(bags.take s.qw.length),bags[s.qw.length]!⟩:qH).qy).length) rc273Around] sizeOf38 fun w281 H=>⟨H.pick [4,6,7,8] [3,4,5,6,7,8,9],(xP qh (?_))⟩))⟩
    exact meet ⟨_,b271,ra273Alive,rc273Alive,ra273Bags,rc273Bags,ra273Around,rc273Around,rx273Bags,rF273Bags,uE4,N,H.pick [3,0,1,2,4,5,6,7,8] [0,4,5,6,7,8]⟩
   refine zh H ti38 [yN,yN,yN] fun b282 w283 H=>⟨H.pick [1,3,4,5] [2,3,4,5,6,7,8],(ro 11 rfl (jF [Sv qV t.qA.length qR,Sv a254 ((bags.take s.qw.length).length) c8,Sv a252 ((bags[s.qw.length]!).length) c253] [(0,Sv qV t.qA.length qR),(1,Sv a254 ((bags.take s.qw.length).length) c8),(2,Sv a252 ((bags[s.qw.length]!).length) c253)] (⟨H.pick [1,3,4,5] [2,3,4,5,6,7,8],(ro 12 rfl ?_)⟩)))⟩
   obtain ⟨cp0,cp1,cp2,cp3⟩:=copy_pre (al:=t.qA) E_bags p8 p9.2 p12
   have sz287:=H.base.size
   refine oc (Yy _ (⟨t.qA,(bags.take s.qw.length),bags[s.qw.length]!⟩:qH) (H.get 5 rfl).1 (H.get 0 rfl).1 (H.get 1 rfl).1 qg qg qg qg) ?_
   rintro _ w285 ⟨ra284Alive,rn284Alive,rc284Alive,ra284Bags,rn284Bags,rc284Bags,rx284Bags,rF284Bags,ra284Around,rn284Around,rc284Around,rfl,M,K⟩ _
   replace N:=N.merge sz287 qm M
   replace H:=H.merge K M
   obtain rfl:=H.rowNB 0 rfl
   obtain rfl:=H.zq (α:=yLI) 1 rfl 0 rfl qj
   obtain rfl:=H.YX 2 rfl
   refine ⟨H.pick [4,6,7,8] [3,4,5,6,7,8,9],(ro 14 rfl (zF H 3 [Sv ra284Alive (((⟨t.qA,(bags.take s.qw.length),bags[s.qw.length]!⟩:qH).qA).length) rc284Alive,Sv ra284Bags (((⟨t.qA,(bags.take s.qw.length),bags[s.qw.length]!⟩:qH).qE).length) rc284Bags,Sv ra284Around (((⟨t.qA,(bags.take s.qw.length),bags[s.qw.length]!⟩:qH).qy).length) rc284Around] sizeOf38 fun w292 H=>⟨H.pick [4,6,7,8] [3,4,5,6,7,8,9],(xP qh (?_))⟩))⟩
   exact meet ⟨_,b282,ra284Alive,rc284Alive,ra284Bags,rc284Bags,ra284Around,rc284Around,rx284Bags,rF284Bags,uE4,N,H.pick [3,0,1,2,4,5,6,7,8] [0,4,5,6,7,8]⟩
  refine r_have (fun ρ w297=>∃ (xY:Env) (a293:yOA) (G294:yLN) (G295:yLN),ρ=upd (upd (upd (upd (upd (upd xY 3 (pp b1 0)) 6 (pp b5 0)) 9 (Sv (aa b36 0) s.qw.length s.qw.length)) 77 (Sv qV t.qA.length qR)) 81 (Sv a293 ((bags.take s.qw.length).length) c8)) 85 (pp b240 (0+(s.qw.length:Int).toNat * 1))∧Fresh w.heap.size []∧St w w297 [rr (aa b36 0) s.qw.length s.qw.length 4 1 ((yV s counts s.qw.length i).map (Value.bool)),rr none 0 0 0 1 [],.box b5 [yN,yN,yN] 38,.box b3 (yT t qV qR xm xk qL qK) 38,.box b1 (yS s qC qB qN qJ) 36] [sF false G294 a293 c8 (bags.take s.qw.length),isF false G295 (Sv (aa b240 0) (t.qE.length+1) c8) bags,zf false F_bags x_bags bags,sF false qZ qC qB s.qw,sF false xG qN qJ s.qx,sF false xR qV qR t.qA,sF false zC xm xk t.qE,sF false xC qL qK t.qy,sF false Fcounts acounts ccounts counts]) 5 #[true,true,true,true,true,true,true,true,true,true,false,false,false,false,false] ?_ fun L296=>?_
  ·skip
   rintro ρ w298 ⟨xY,a293,G294,G295,rfl,N,H⟩
   refine jK [10,13] qh qm (Qy rfl ?_ (Qy rfl ?_ jL))
   ·skip
    have hl299:=H.isLen 1 rfl
    obtain ⟨ae300,ce300,Fe300,H⟩:=H.vV 1 rfl s.qw.length s.qw.length qf qf qf
    refine zT (Sv ae300 ((bags[s.qw.length]!).length) ce300) isAgg22 rfl (H.xW 1 rfl 0 rfl) (⟨H.pick [0,2,3,4] [4,5,6,7,8,9,10],(Vr L257 ⟨_,ae300,ce300,a293,G294,Fe300,uE6,N,H.pick [0,1,2,3,4] [2,0,4,5,6,7,8,9,10]⟩)⟩)
   refine zh H ti38 [yN,yN,yN] fun b301 w302 H=>⟨H.pick [1,3,4,5] [2,3,4,5,6,7,8],(ro 10 rfl ?_)⟩
   have hl303:=H.isLen 1 rfl
   obtain ⟨ae304,ce304,Fe304,H⟩:=H.vV 1 rfl s.qw.length s.qw.length qf qf qf
   refine zT (Sv ae304 ((bags[s.qw.length]!).length) ce304) isAgg22 rfl (H.xW 1 rfl 0 rfl) (⟨H.pick [1,3,4,5] [4,5,6,7,8,9,10],(ro 11 rfl (jF [Sv qV t.qA.length qR,Sv a293 ((bags.take s.qw.length).length) c8,Sv ae304 ((bags[s.qw.length]!).length) ce304] [(0,Sv qV t.qA.length qR),(1,Sv a293 ((bags.take s.qw.length).length) c8),(2,Sv ae304 ((bags[s.qw.length]!).length) ce304)] (⟨H.pick [1,3,4,5] [4,5,6,7,8,9,10],(ro 12 rfl ?_)⟩)))⟩)
   obtain ⟨cp0,cp1,cp2,cp3⟩:=copy_pre (al:=t.qA) E_bags p8 p9.2 p12
   have sz308:=H.base.size
   refine oc (Yy _ (⟨t.qA,(bags.take s.qw.length),bags[s.qw.length]!⟩:qH) (H.get 7 rfl).1 (H.get 2 rfl).1 (H.get 0 rfl).1 qg qg qg qg) ?_
   rintro _ w306 ⟨ra305Alive,rn305Alive,rc305Alive,ra305Bags,rn305Bags,rc305Bags,rx305Bags,rF305Bags,ra305Around,rn305Around,rc305Around,rfl,M,K⟩ _
   replace N:=N.merge sz308 qm M
   replace H:=H.merge K M
   obtain rfl:=H.rowNB 0 rfl
   obtain rfl:=H.zq (α:=yLI) 1 rfl 0 rfl qj
   obtain rfl:=H.YX 2 rfl
   refine ⟨H.pick [4,6,7,8] [5,6,7,8,9,10,11],(ro 14 rfl (zF H 3 [Sv ra305Alive (((⟨t.qA,(bags.take s.qw.length),bags[s.qw.length]!⟩:qH).qA).length) rc305Alive,Sv ra305Bags (((⟨t.qA,(bags.take s.qw.length),bags[s.qw.length]!⟩:qH).qE).length) rc305Bags,Sv ra305Around (((⟨t.qA,(bags.take s.qw.length),bags[s.qw.length]!⟩:qH).qy).length) rc305Around] sizeOf38 fun w313 H=>⟨H.pick [4,6,7,8] [5,6,7,8,9,10,11],(xP qh (?_))⟩))⟩
   exact meet ⟨_,b301,ra305Alive,rc305Alive,ra305Bags,rc305Bags,ra305Around,rc305Around,rx305Bags,rF305Bags,uE4,N,H.pick [3,0,1,2,4,5,6,7,8] [0,6,7,8,9,10]⟩
  refine r_have (fun ρ w316=>∃ (xY:Env) (b314:Nat),ρ=upd (upd (upd (upd (upd (upd (upd (upd xY 3 (pp b1 0)) 6 (pp b5 0)) 9 (Sv (aa b36 0) s.qw.length s.qw.length)) 13 (pp b314 0)) 77 (Sv qV t.qA.length qR)) 78 (Sv (aa b240 0) (t.qE.length+1) c8)) 80 (yI s.qw.length)) 85 (pp b240 (0+(s.qw.length:Int).toNat * 1))∧Fresh w.heap.size []∧St w w316 [.box b314 [yN,yN,yN] 38,rr (aa b36 0) s.qw.length s.qw.length 4 1 ((yV s counts s.qw.length i).map (Value.bool)),rr (aa b240 0) (t.qE.length+1) c8 22 1 x_bags,.box b5 [yN,yN,yN] 38,.box b3 (yT t qV qR xm xk qL qK) 38,.box b1 (yS s qC qB qN qJ) 36] [zf false F_bags x_bags bags,sF false qZ qC qB s.qw,sF false xG qN qJ s.qx,sF false xR qV qR t.qA,sF false zC xm xk t.qE,sF false xC qL qK t.qy,sF false Fcounts acounts ccounts counts]) 5 #[true,true,true,true,true,false,true,true,true,true,false,false,false,true,false] ?_ fun L315=>?_
  ·skip
   rintro ρ w317 ⟨xY,b314,rfl,N,H⟩
   refine jK [5,10] qh qm (Qy rfl ?_ (Qy rfl ?_ jL))
   ·skip
    obtain ⟨G318,hg320,hn319,H⟩:=H.yX (α:=yLI) 2 rfl 0 rfl qj
    have hl325:=H.isLen 0 rfl
    refine o_head H 0 rfl s.qw.length underlying27 ti22 rfl rfl qf qf fun a321 G322 hG323 H=>?_
    have hl324:(bags.take s.qw.length).length=s.qw.length:=List.length_take_of_le qf
    refine ⟨H.pick [1,3,4,5] [2,3,4,5,6,7,8],(ro 10 rfl ?_)⟩
    have hl326:=H.isLen 1 rfl
    obtain ⟨ae327,ce327,Fe327,H⟩:=H.vV 1 rfl s.qw.length s.qw.length qf qf qf
    refine zT (Sv ae327 ((bags[s.qw.length]!).length) ce327) isAgg22 rfl (H.xW 1 rfl 0 rfl) (⟨H.pick [1,3,4,5] [4,5,6,7,8,9,10],(ro 11 rfl (jF [Sv qV t.qA.length qR,Sv a321 ((bags.take s.qw.length).length) c8,Sv ae327 ((bags[s.qw.length]!).length) ce327] [(0,Sv qV t.qA.length qR),(1,Sv a321 ((bags.take s.qw.length).length) c8),(2,Sv ae327 ((bags[s.qw.length]!).length) ce327)] (⟨H.pick [1,3,4,5] [4,5,6,7,8,9,10],(ro 12 rfl ?_)⟩)))⟩)
    obtain ⟨cp0,cp1,cp2,cp3⟩:=copy_pre (al:=t.qA) E_bags p8 p9.2 p12
    have sz331:=H.base.size
    refine oc (Yy _ (⟨t.qA,(bags.take s.qw.length),bags[s.qw.length]!⟩:qH) (H.get 7 rfl).1 (H.get 2 rfl).1 (H.get 0 rfl).1 qg qg qg qg) ?_
    rintro _ w329 ⟨ra328Alive,rn328Alive,rc328Alive,ra328Bags,rn328Bags,rc328Bags,rx328Bags,rF328Bags,ra328Around,rn328Around,rc328Around,rfl,M,K⟩ _
    replace N:=N.merge sz331 qm M
    replace H:=H.merge K M
    obtain rfl:=H.rowNB 0 rfl
    obtain rfl:=H.zq (α:=yLI) 1 rfl 0 rfl qj
    obtain rfl:=H.YX 2 rfl
    refine ⟨H.pick [4,6,7,8] [5,6,7,8,9,10,11],(ro 14 rfl (zF H 3 [Sv ra328Alive (((⟨t.qA,(bags.take s.qw.length),bags[s.qw.length]!⟩:qH).qA).length) rc328Alive,Sv ra328Bags (((⟨t.qA,(bags.take s.qw.length),bags[s.qw.length]!⟩:qH).qE).length) rc328Bags,Sv ra328Around (((⟨t.qA,(bags.take s.qw.length),bags[s.qw.length]!⟩:qH).qy).length) rc328Around] sizeOf38 fun w336 H=>⟨H.pick [4,6,7,8] [5,6,7,8,9,10,11],(xP qh (?_))⟩))⟩
    exact meet ⟨_,b314,ra328Alive,rc328Alive,ra328Bags,rc328Bags,ra328Around,rc328Around,rx328Bags,rF328Bags,uE4,N,H.pick [3,0,1,2,4,5,6,7,8] [0,6,7,8,9,10]⟩
   obtain ⟨a337,c338,G339,s340,h341,H⟩:=H.yw 2 rfl 0 rfl (iv:=s.qw.length) s.qw.length qf qf
   refine zT (Sv a337 ((bags[s.qw.length]!).length) c338) isAgg22 rfl (h341) (⟨H.pick [1,3,4,5] [1,2,3,4,5,6,7],(ro 5 rfl ?_)⟩)
   obtain ⟨G342,hg344,hn343,H⟩:=H.yX (α:=yLI) 2 rfl 1 rfl qj
   have hl349:=H.isLen 0 rfl
   refine o_head H 0 rfl s.qw.length underlying27 ti22 rfl rfl qf qf fun a345 G346 hG347 H=>?_
   have hl348:(bags.take s.qw.length).length=s.qw.length:=List.length_take_of_le qf
   refine ⟨H.pick [1,3,4,5] [3,4,5,6,7,8,9],(ro 11 rfl (jF [Sv qV t.qA.length qR,Sv a345 ((bags.take s.qw.length).length) c8,Sv a337 ((bags[s.qw.length]!).length) c338] [(0,Sv qV t.qA.length qR),(1,Sv a345 ((bags.take s.qw.length).length) c8),(2,Sv a337 ((bags[s.qw.length]!).length) c338)] (⟨H.pick [1,3,4,5] [3,4,5,6,7,8,9],(ro 12 rfl ?_)⟩)))⟩
   obtain ⟨cp0,cp1,cp2,cp3⟩:=copy_pre (al:=t.qA) E_bags p8 p9.2 p12
   have sz353:=H.base.size
   refine oc (Yy _ (⟨t.qA,(bags.take s.qw.length),bags[s.qw.length]!⟩:qH) (H.get 6 rfl).1 (H.get 0 rfl).1 (H.get 2 rfl).1 qg qg qg qg) ?_
   rintro _ w351 ⟨ra350Alive,rn350Alive,rc350Alive,ra350Bags,rn350Bags,rc350Bags,rx350Bags,rF350Bags,ra350Around,rn350Around,rc350Around,rfl,M,K⟩ _
   replace N:=N.merge sz353 qm M
   replace H:=H.merge K M
   obtain rfl:=H.rowNB 0 rfl
   obtain rfl:=H.zq (α:=yLI) 1 rfl 0 rfl qj
   obtain rfl:=H.YX 2 rfl
   refine ⟨H.pick [4,6,7,8] [4,5,6,7,8,9,10],(ro 14 rfl (zF H 3 [Sv ra350Alive (((⟨t.qA,(bags.take s.qw.length),bags[s.qw.length]!⟩:qH).qA).length) rc350Alive,Sv ra350Bags (((⟨t.qA,(bags.take s.qw.length),bags[s.qw.length]!⟩:qH).qE).length) rc350Bags,Sv ra350Around (((⟨t.qA,(bags.take s.qw.length),bags[s.qw.length]!⟩:qH).qy).length) rc350Around] sizeOf38 fun w358 H=>⟨H.pick [4,6,7,8] [4,5,6,7,8,9,10],(xP qh (?_))⟩))⟩
   exact meet ⟨_,b314,ra350Alive,rc350Alive,ra350Bags,rc350Bags,ra350Around,rc350Around,rx350Bags,rF350Bags,uE4,N,H.pick [3,0,1,2,4,5,6,7,8] [0,5,6,7,8,9]⟩
  refine r_have (fun ρ w361=>∃ (xY:Env) (b359:Nat),ρ=upd (upd (upd (upd (upd (upd (upd (upd (upd xY 3 (pp b1 0)) 6 (pp b5 0)) 9 (Sv (aa b36 0) s.qw.length s.qw.length)) 13 (pp b359 0)) 77 (Sv qV t.qA.length qR)) 78 (Sv (aa b240 0) (t.qE.length+1) c8)) 80 (yI s.qw.length)) 82 (Sv (aa b240 0) (t.qE.length+1) c8)) 83 (.agg #[yI s.xB,Sv qC s.qw.length qB,Sv qN s.qx.length qJ])∧Fresh w.heap.size []∧St w w361 [.box b359 [yN,yN,yN] 38,rr (aa b36 0) s.qw.length s.qw.length 4 1 ((yV s counts s.qw.length i).map (Value.bool)),rr (aa b240 0) (t.qE.length+1) c8 22 1 x_bags,.box b5 [yN,yN,yN] 38,.box b3 (yT t qV qR xm xk qL qK) 38,.box b1 (yS s qC qB qN qJ) 36] [zf false F_bags x_bags bags,sF false qZ qC qB s.qw,sF false xG qN qJ s.qx,sF false xR qV qR t.qA,sF false zC xm xk t.qE,sF false xC qL qK t.qy,sF false Fcounts acounts ccounts counts]) 7 #[true,true,true,true,true,false,true,true,false,false,false,false,false,true,false] ?_ fun L360=>?_
  ·skip
   rintro ρ w362 ⟨xY,b359,rfl,N,H⟩
   refine jK [5,8] qh qm (Qy rfl ?_ (Qy rfl ?_ jL))
   ·skip
    obtain ⟨G363,hg365,hn364,H⟩:=H.yX (α:=yLI) 2 rfl 0 rfl qj
    have hl370:=H.isLen 0 rfl
    refine o_head H 0 rfl s.qw.length underlying27 ti22 rfl rfl qf qf fun a366 G367 hG368 H=>?_
    have hl369:(bags.take s.qw.length).length=s.qw.length:=List.length_take_of_le qf
    refine ⟨H.pick [1,3,4,5] [2,3,4,5,6,7,8],(ro 8 rfl (oq (around_ok _ s (H.get 3 rfl).1 (H.get 4 rfl).1) H fun w372 H=>⟨H.pick [1,3,4,5] [2,3,4,5,6,7,8],?_⟩))⟩
    obtain ⟨ae374,ce374,Fe374,H⟩:=H.vV 1 rfl s.qw.length s.qw.length qf qf qf
    refine tI 9 rfl rfl rfl (H.pick [1,3,4,5] [4,5,6,7,8,9,10]) ?_
    refine ro 10 rfl (zT (Sv ae374 ((bags[s.qw.length]!).length) ce374) isAgg22 rfl (H.xW 1 rfl 0 rfl) (⟨H.pick [1,3,4,5] [4,5,6,7,8,9,10],(ro 11 rfl (jF [Sv qV t.qA.length qR,Sv a366 ((bags.take s.qw.length).length) c8,Sv ae374 ((bags[s.qw.length]!).length) ce374] [(0,Sv qV t.qA.length qR),(1,Sv a366 ((bags.take s.qw.length).length) c8),(2,Sv ae374 ((bags[s.qw.length]!).length) ce374)] (⟨H.pick [1,3,4,5] [4,5,6,7,8,9,10],(ro 12 rfl ?_)⟩)))⟩))
    obtain ⟨cp0,cp1,cp2,cp3⟩:=copy_pre (al:=t.qA) E_bags p8 p9.2 p12
    have sz378:=H.base.size
    refine oc (Yy _ (⟨t.qA,(bags.take s.qw.length),bags[s.qw.length]!⟩:qH) (H.get 7 rfl).1 (H.get 2 rfl).1 (H.get 0 rfl).1 qg qg qg qg) ?_
    rintro _ w376 ⟨ra375Alive,rn375Alive,rc375Alive,ra375Bags,rn375Bags,rc375Bags,rx375Bags,rF375Bags,ra375Around,rn375Around,rc375Around,rfl,M,K⟩ _
    replace N:=N.merge sz378 qm M
    replace H:=H.merge K M
    obtain rfl:=H.rowNB 0 rfl
    obtain rfl:=H.zq (α:=yLI) 1 rfl 0 rfl qj
    obtain rfl:=H.YX 2 rfl
    refine ⟨H.pick [4,6,7,8] [5,6,7,8,9,10,11],(ro 14 rfl (zF H 3 [Sv ra375Alive (((⟨t.qA,(bags.take s.qw.length),bags[s.qw.length]!⟩:qH).qA).length) rc375Alive,Sv ra375Bags (((⟨t.qA,(bags.take s.qw.length),bags[s.qw.length]!⟩:qH).qE).length) rc375Bags,Sv ra375Around (((⟨t.qA,(bags.take s.qw.length),bags[s.qw.length]!⟩:qH).qy).length) rc375Around] sizeOf38 fun w383 H=>⟨H.pick [4,6,7,8] [5,6,7,8,9,10,11],(xP qh (?_))⟩))⟩
    exact meet ⟨_,b359,ra375Alive,rc375Alive,ra375Bags,rc375Bags,ra375Around,rc375Around,rx375Bags,rF375Bags,uE4,N,H.pick [3,0,1,2,4,5,6,7,8] [0,6,7,8,9,10]⟩
   refine oq (around_ok _ s (H.get 1 rfl).1 (H.get 2 rfl).1) H fun w385 H=>⟨H.pick [1,3,4,5] [0,1,2,3,4,5,6],(tI 9 rfl rfl rfl (H.pick [1,3,4,5] [0,1,2,3,4,5,6]) ?_)⟩
   exact Vr L315 ⟨_,b359,uE8,N,H⟩
  have S:=H.yU [0,2,3,4] [0,1,2,3,4,5,6]
  refine tF 0 rfl rfl S ?_
  refine tL 1 rfl rfl (fun _ h=>h.cell 2 rfl rfl) S ?_
  refine rtp 2 (Sv (aa b240 0) (t.qE.length+1) c8) S ?_
  refine rt 3 (.agg #[yI s.xB,Sv qC s.qw.length qB,Sv qN s.qx.length qJ]) (QL (cs:=(yS s qC qB qN qJ)) isAgg36 sizeOf36 rfl (fun _ h=>qF (h.cells 3 rfl) 0 3)) S ?_
  refine rtp 6 (Sv (aa b240 0) (t.qE.length+1) c8) S ?_
  refine rt 7 (.agg #[yI s.xB,Sv qC s.qw.length qB,Sv qN s.qx.length qJ]) (QL (cs:=(yS s qC qB qN qJ)) isAgg36 sizeOf36 rfl (fun _ h=>qF (h.cells 3 rfl) 0 3)) S ?_
  refine jK [4,13] qh qm (Qy rfl ?_ (Qy rfl ?_ jL))
  ·skip
   refine oq (around_ok _ s (H.get 1 rfl).1 (H.get 2 rfl).1) H fun w388 H=>⟨H.pick [0,2,3,4] [0,1,2,3,4,5,6],(jK [5,8,13] qh qm (Qy rfl ?_ (Qy rfl ?_ (Qy rfl ?_ jL))))⟩
   ·skip
    obtain ⟨G390,hg392,hn391,H⟩:=H.yX (α:=yLI) 1 rfl 0 rfl qj
    have hl397:=H.isLen 0 rfl
    refine o_head H 0 rfl s.qw.length underlying27 ti22 rfl rfl qf qf fun a393 G394 hG395 H=>?_
    have hl396:(bags.take s.qw.length).length=s.qw.length:=List.length_take_of_le qf
    refine ⟨H.pick [0,2,3,4] [2,3,4,5,6,7,8],(jK [8,13] qh qm (Qy rfl ?_ (Qy rfl ?_ jL)))⟩
    ·skip
     refine oq (around_ok _ s (H.get 3 rfl).1 (H.get 4 rfl).1) H fun w399 H=>⟨H.pick [0,2,3,4] [2,3,4,5,6,7,8],?_⟩
     obtain ⟨ae401,ce401,Fe401,H⟩:=H.vV 1 rfl s.qw.length s.qw.length qf qf qf
     refine tI 9 rfl rfl rfl (H.pick [0,2,3,4] [4,5,6,7,8,9,10]) ?_
     exact Vr L296 ⟨_,a393,G394,G390,uE6,N,H.pick [0,1,2,3,4] [2,3,4,5,6,7,8,9,10]⟩
    refine zh H ti38 [yN,yN,yN] fun b402 w403 H=>⟨H.pick [1,3,4,5] [2,3,4,5,6,7,8],(ro 8 rfl (oq (around_ok _ s (H.get 3 rfl).1 (H.get 4 rfl).1) H fun w405 H=>⟨H.pick [1,3,4,5] [2,3,4,5,6,7,8],?_⟩))⟩
    obtain ⟨ae407,ce407,Fe407,H⟩:=H.vV 1 rfl s.qw.length s.qw.length qf qf qf
    refine tI 9 rfl rfl rfl (H.pick [1,3,4,5] [4,5,6,7,8,9,10]) ?_
    refine ro 10 rfl (zT (Sv ae407 ((bags[s.qw.length]!).length) ce407) isAgg22 rfl (H.xW 1 rfl 0 rfl) (⟨H.pick [1,3,4,5] [4,5,6,7,8,9,10],(ro 11 rfl (jF [Sv qV t.qA.length qR,Sv a393 ((bags.take s.qw.length).length) c8,Sv ae407 ((bags[s.qw.length]!).length) ce407] [(0,Sv qV t.qA.length qR),(1,Sv a393 ((bags.take s.qw.length).length) c8),(2,Sv ae407 ((bags[s.qw.length]!).length) ce407)] (⟨H.pick [1,3,4,5] [4,5,6,7,8,9,10],(ro 12 rfl ?_)⟩)))⟩))
    obtain ⟨cp0,cp1,cp2,cp3⟩:=copy_pre (al:=t.qA) E_bags p8 p9.2 p12
    have sz411:=H.base.size
    refine oc (Yy _ (⟨t.qA,(bags.take s.qw.length),bags[s.qw.length]!⟩:qH) (H.get 7 rfl).1 (H.get 2 rfl).1 (H.get 0 rfl).1 qg qg qg qg) ?_
    rintro _ w409 ⟨ra408Alive,rn408Alive,rc408Alive,ra408Bags,rn408Bags,rc408Bags,rx408Bags,rF408Bags,ra408Around,rn408Around,rc408Around,rfl,M,K⟩ _
    replace N:=N.merge sz411 qm M
    replace H:=H.merge K M
    obtain rfl:=H.rowNB 0 rfl
    obtain rfl:=H.zq (α:=yLI) 1 rfl 0 rfl qj
    obtain rfl:=H.YX 2 rfl
    refine ⟨H.pick [4,6,7,8] [5,6,7,8,9,10,11],(ro 14 rfl (zF H 3 [Sv ra408Alive (((⟨t.qA,(bags.take s.qw.length),bags[s.qw.length]!⟩:qH).qA).length) rc408Alive,Sv ra408Bags (((⟨t.qA,(bags.take s.qw.length),bags[s.qw.length]!⟩:qH).qE).length) rc408Bags,Sv ra408Around (((⟨t.qA,(bags.take s.qw.length),bags[s.qw.length]!⟩:qH).qy).length) rc408Around] sizeOf38 fun w416 H=>⟨H.pick [4,6,7,8] [5,6,7,8,9,10,11],(xP qh (?_))⟩))⟩
    exact meet ⟨_,b402,ra408Alive,rc408Alive,ra408Bags,rc408Bags,ra408Around,rc408Around,rx408Bags,rF408Bags,uE4,N,H.pick [3,0,1,2,4,5,6,7,8] [0,6,7,8,9,10]⟩
   ·skip
    refine oq (around_ok _ s (H.get 1 rfl).1 (H.get 2 rfl).1) H fun w418 H=>⟨H.pick [0,2,3,4] [0,1,2,3,4,5,6],(tI 9 rfl rfl rfl (H.pick [0,2,3,4] [0,1,2,3,4,5,6]) ?_)⟩
    refine jK [5,10,13] qh qm (Qy rfl ?_ (Qy rfl ?_ (Qy rfl ?_ jL)))
    ·skip
     obtain ⟨G420,hg422,hn421,H⟩:=H.yX (α:=yLI) 1 rfl 0 rfl qj
     have hl427:=H.isLen 0 rfl
     refine o_head H 0 rfl s.qw.length underlying27 ti22 rfl rfl qf qf fun a423 G424 hG425 H=>?_
     have hl426:(bags.take s.qw.length).length=s.qw.length:=List.length_take_of_le qf
     refine ⟨H.pick [0,2,3,4] [2,3,4,5,6,7,8],(Vr L296 ⟨_,a423,G424,G420,uE6,N,H⟩)⟩
    ·skip
     obtain ⟨a428,c429,G430,s431,h432,H⟩:=H.yw 1 rfl 0 rfl (iv:=s.qw.length) s.qw.length qf qf
     refine zT (Sv a428 ((bags[s.qw.length]!).length) c429) isAgg22 rfl (h432) (⟨H.pick [0,2,3,4] [1,2,3,4,5,6,7],(jK [5,13] qh qm (Qy rfl ?_ (Qy rfl ?_ jL)))⟩)
     ·skip
      obtain ⟨G433,hg435,hn434,H⟩:=H.yX (α:=yLI) 1 rfl 1 rfl qj
      have hl440:=H.isLen 0 rfl
      refine o_head H 0 rfl s.qw.length underlying27 ti22 rfl rfl qf qf fun a436 G437 hG438 H=>?_
      have hl439:(bags.take s.qw.length).length=s.qw.length:=List.length_take_of_le qf
      refine ⟨H.pick [0,2,3,4] [3,4,5,6,7,8,9],(Vr L257 ⟨_,a428,c429,a436,G437,G430,uE6,N,H.pick [0,1,2,3,4] [0,2,3,4,5,6,7,8,9]⟩)⟩
     refine zh H ti38 [yN,yN,yN] fun b441 w442 H=>⟨H.pick [1,3,4,5] [1,2,3,4,5,6,7],(ro 5 rfl ?_)⟩
     obtain ⟨G443,hg445,hn444,H⟩:=H.yX (α:=yLI) 2 rfl 1 rfl qj
     have hl450:=H.isLen 0 rfl
     refine o_head H 0 rfl s.qw.length underlying27 ti22 rfl rfl qf qf fun a446 G447 hG448 H=>?_
     have hl449:(bags.take s.qw.length).length=s.qw.length:=List.length_take_of_le qf
     refine ⟨H.pick [1,3,4,5] [3,4,5,6,7,8,9],(ro 11 rfl (jF [Sv qV t.qA.length qR,Sv a446 ((bags.take s.qw.length).length) c8,Sv a428 ((bags[s.qw.length]!).length) c429] [(0,Sv qV t.qA.length qR),(1,Sv a446 ((bags.take s.qw.length).length) c8),(2,Sv a428 ((bags[s.qw.length]!).length) c429)] (⟨H.pick [1,3,4,5] [3,4,5,6,7,8,9],(ro 12 rfl ?_)⟩)))⟩
     obtain ⟨cp0,cp1,cp2,cp3⟩:=copy_pre (al:=t.qA) E_bags p8 p9.2 p12
     have sz454:=H.base.size
     refine oc (Yy _ (⟨t.qA,(bags.take s.qw.length),bags[s.qw.length]!⟩:qH) (H.get 6 rfl).1 (H.get 0 rfl).1 (H.get 2 rfl).1 qg qg qg qg) ?_
     rintro _ w452 ⟨ra451Alive,rn451Alive,rc451Alive,ra451Bags,rn451Bags,rc451Bags,rx451Bags,rF451Bags,ra451Around,rn451Around,rc451Around,rfl,M,K⟩ _
     replace N:=N.merge sz454 qm M
     replace H:=H.merge K M
     obtain rfl:=H.rowNB 0 rfl
     obtain rfl:=H.zq (α:=yLI) 1 rfl 0 rfl qj
     obtain rfl:=H.YX 2 rfl
     refine ⟨H.pick [4,6,7,8] [4,5,6,7,8,9,10],(ro 14 rfl (zF H 3 [Sv ra451Alive (((⟨t.qA,(bags.take s.qw.length),bags[s.qw.length]!⟩:qH).qA).length) rc451Alive,Sv ra451Bags (((⟨t.qA,(bags.take s.qw.length),bags[s.qw.length]!⟩:qH).qE).length) rc451Bags,Sv ra451Around (((⟨t.qA,(bags.take s.qw.length),bags[s.qw.length]!⟩:qH).qy).length) rc451Around] sizeOf38 fun w459 H=>⟨H.pick [4,6,7,8] [4,5,6,7,8,9,10],(xP qh (?_))⟩))⟩
     exact meet ⟨_,b441,ra451Alive,rc451Alive,ra451Bags,rc451Bags,ra451Around,rc451Around,rx451Bags,rF451Bags,uE4,N,H.pick [3,0,1,2,4,5,6,7,8] [0,5,6,7,8,9]⟩
    refine zh H ti38 [yN,yN,yN] fun b460 w461 H=>⟨H.pick [1,3,4,5] [0,1,2,3,4,5,6],(Vr L315 ⟨_,b460,uE8,N,H⟩)⟩
   refine zh H ti38 [yN,yN,yN] fun b462 w463 H=>⟨H.pick [1,3,4,5] [0,1,2,3,4,5,6],(Vr L360 ⟨_,b462,uE9,N,H⟩)⟩
  refine zh H ti38 [yN,yN,yN] fun b464 w465 H=>⟨H.pick [1,3,4,5] [0,1,2,3,4,5,6],(ro 4 rfl (oq (around_ok _ s (H.get 1 rfl).1 (H.get 2 rfl).1) H fun w467 H=>⟨H.pick [1,3,4,5] [0,1,2,3,4,5,6],(Vr L360 ⟨_,b464,uE9,N,H⟩)⟩))⟩
 clear H N
 rintro ρ w469 ⟨xY,b241,ra242,rc243,ra244,rc245,ra246,rc247,rx248,rF249,rfl,N,H⟩
 refine t_n (zcc (sp (Sv (aa b36 0) s.qw.length s.qw.length) (oN rfl (sw (o_sub s.qw.length 1 rfl rfl qf (sp (yI (s.qw.length - 1)) (zjn (qX ?_))))))))
 obtain rfl:i=s.qx.length:=by omega
 have hl:=stepped_live p1 E_bags qf
 obtain ⟨s1,s2⟩:=step_tab E_bags
 rw [show (⟨t.qA,(bags.take s.qw.length),bags[s.qw.length]!⟩:qH)=xy s t counts from by rw [show bags.take s.qw.length=_ from s1,show bags[s.qw.length]! =_ from s2];rfl] at H
 refine zD (fun m' ρ w470=>∃ (xY:Env) (c:Int) (out_Alive:List Bool) (out_Bags:yLL) (zW:List Value) (zn:yLN) (j:Nat),ρ=upd (upd (upd (upd (upd xY 3 (pp b1 0)) 6 (pp b5 0)) 9 (Sv (aa b36 0) s.qw.length s.qw.length)) 13 (pp b241 0)) 14 (yI c)∧out_Alive=(xu s counts (xy s t counts) j).qA∧out_Bags=(xu s counts (xy s t counts) j).qE∧(c=(s.qw.length:Int) - 1 - j)∧(j+1≤s.qw.length)∧m' =(c:Int).toNat∧Fresh w.heap.size [zn]∧St w w470 [.box b241 [Sv ra242 (((xy s t counts).qA).length) rc243,Sv ra244 (((xy s t counts).qE).length) rc245,Sv ra246 (((xy s t counts).qy).length) rc247] 38,rr ra242 (((xy s t counts).qA).length) rc243 4 1 (out_Alive.map (Value.bool)),rr ra244 (((xy s t counts).qE).length) rc245 22 1 zW,rr ra246 (((xy s t counts).qy).length) rc247 2 1 (((xy s t counts).qy).map (Value.int .i64)),rr (aa b36 0) s.qw.length s.qw.length 4 1 ((yV s counts s.qw.length s.qx.length).map (Value.bool)),.box b5 [yN,yN,yN] 38,.box b3 (yT t qV qR xm xk qL qK) 38,.box b1 (yS s qC qB qN qJ) 36] [zf true zn zW out_Bags,sF false qZ qC qB s.qw,sF false xG qN qJ s.qx,sF false xR qV qR t.qA,sF false zC xm xk t.qE,sF false xC qL qK t.qy]) (((s.qw.length - 1):Int).toNat) ⟨_,s.qw.length - 1,(xy s t counts).qA,(xy s t counts).qE,rx248,rF249,0,uE5,(by rfl),(by rfl),qf,qf,rfl,N,H.pick [0,1,2,3,4,6,7,8] [0,1,2,3,4,5]⟩ ?_
 clear H N
 rintro m' ρ w471 ⟨xY,c,out_Alive,out_Bags,zW,zn,j,rfl,rfl,rfl,ic,jc,rfl,N,H⟩
 have hn_out_Alive:=H.rowNB 1 rfl
 have Y0:=H.zq (α:=yLI) 2 rfl 0 rfl qj
 have L:=meltDown_live (counts:=counts) p0 hl j qf
 have L1:=L.alive
 have L2:=L.root
 have L3:=L.bags.1
 rw [← QV s counts (xy s t counts) j] at H
 refine zcc (sps [yI c,Bv (decide ((c:Int) > 0))] (zjn (cD rfl (fun h472=>?_) (fun h472=>?_))))
 ·skip
  refine qW (t_n (xQ (qX (zcr (sps [Sv (aa b36 0) s.qw.length s.qw.length,yI c] (oI rfl rfl (oL rfl (H.rowBool 4 rfl (iv:=c) (i:=c.toNat) qf qf) (zjn (xE ((yV s counts s.qw.length s.qx.length)[c.toNat]!) rfl (fun h473=>?_) (fun h473=>?_))))))))))
  ·skip
   refine xO (sw (zl (yS s qC qB qN qJ) isAgg36 sizeOf36 rfl (qF (H.cells 7 rfl) 0 3) (sp (yI c) (sw (vJ #[.agg #[yI s.xB,Sv qC s.qw.length qB,Sv qN s.qx.length qJ],pp b241 0,yI c] rfl rfl call155 (en func155 ntmps155 ?_))))))
   refine zcr (sw (vU H (yS s qC qB qN qJ) fun b474 w475 H=>zjn (xQ ?_)))
   refine jh rfl H fun H=>rt 0 (.agg #[yI s.xB,Sv qC s.qw.length qB,Sv qN s.qx.length qJ]) (QL (cs:=(yS s qC qB qN qJ)) isAgg36 sizeOf36 rfl (fun _ h=>qF (h.cells 0 rfl) 0 3)) H ?_
   refine rtp 1 (pp b241 0) H ?_
   refine rtp 2 (pp b241 0) H ?_
   refine rt 3 (.agg #[Sv ra242 (((xy s t counts).qA).length) rc243,Sv ra244 (((xy s t counts).qE).length) rc245,Sv ra246 (((xu s counts (xy s t counts) j).qy).length) rc247]) (QL (cs:=[Sv ra242 (((xy s t counts).qA).length) rc243,Sv ra244 (((xy s t counts).qE).length) rc245,Sv ra246 (((xu s counts (xy s t counts) j).qy).length) rc247]) isAgg38 sizeOf38 rfl (fun _ h=>qF (h.cells 1 rfl) 0 3)) H ?_
   refine rtp 4 (yI c) H ?_
   refine ro 5 rfl ?_
   obtain ⟨G477,hn478,h479⟩:=H.rowIsB 2 rfl
   obtain ⟨G480,hn481,h482⟩:=H.rowIsR (α:=yLI) 3 rfl 0 rfl qj
   obtain ⟨G483,hn484,h485⟩:=H.rowIsI 4 rfl
   refine oq (args_eq (by rw [← hn478,← hn481]) (parentNow_ok _ s (xu s counts (xy s t counts) j) c (H.get 1 rfl).1 (H.get 2 rfl).1 (hn478▸h479) (hn481▸h482) h485 qg qg qg)) H fun w487 H=>?_
   have pin:=Y6 (s:=s) (t:=(xu s counts (xy s t counts) j)) (c:=c) p0.1 L2 qf qf
   refine ⟨H,(rtp 6 (yI (xA s (xu s counts (xy s t counts) j) c)) H ?_)⟩
   refine xP qh (t_n (xQ ?_))
   obtain ⟨b489,rfl⟩:=H.Qn 3 rfl qf
   refine c_cut (fun ρ w492=>∃ (xY:Env) (xs490:List Value) (F491:yLN),ρ=upd (upd (upd xY 1 (pp b241 0)) 2 (yI c)) 3 (pp b474 0)∧Fresh w.heap.size [F491]∧St w w492 [.box b474 (yS s qC qB qN qJ) 36,.box b241 [Sv ra242 (((xy s t counts).qA).length) rc243,Sv (aa b489 0) (((xy s t counts).qE).length) rc245,Sv ra246 (((xu s counts (xy s t counts) j).qy).length) rc247] 38,rr ra242 (((xy s t counts).qA).length) rc243 4 1 (((xu s counts (xy s t counts) j).qA).map (Value.bool)),rr (aa b489 0) (((xy s t counts).qE).length) rc245 22 1 xs490,rr ra246 (((xu s counts (xy s t counts) j).qy).length) rc247 2 1 (((xu s counts (xy s t counts) j).qy).map (Value.int .i64)),rr (aa b36 0) s.qw.length s.qw.length 4 1 ((yV s counts s.qw.length s.qx.length).map (Value.bool)),.box b5 [yN,yN,yN] 38,.box b3 (yT t qV qR xm xk qL qK) 38,.box b1 (yS s qC qB qN qJ) 36] [zf true F491 xs490 (((xu s counts (xy s t counts) j).qE).set ((xA s (xu s counts (xy s t counts) j) c).toNat) (ji (((xu s counts (xy s t counts) j).qE)[(xA s (xu s counts (xy s t counts) j) c).toNat]!) (((xu s counts (xy s t counts) j).qE)[c.toNat]!) 1)),sF false qZ qC qB s.qw,sF false xG qN qJ s.qx,sF false xR qV qR t.qA,sF false zC xm xk t.qE,sF false xC qL qK t.qy]) ?_ ?_
   ·skip
    refine QI rfl H [0,1,2,4,5,6,7,8] fun H=>?_
    have S:=H.yU [0,1,2,4,5,6,7,8] [0,1,2,3,4,5]
    refine rtp 0 (pp b241 0) S ?_
    refine rtp 1 (pp b241 0) S ?_
    refine tF 2 rfl rfl S ?_
    refine tL 3 rfl rfl (fun _ h=>h.cell 1 rfl rfl) S ?_
    refine rtp 4 (yI (xA s (xu s counts (xy s t counts) j) c)) S ?_
    refine rtp 5 (pp b241 0) S ?_
    refine rtp 6 (pp b241 0) S ?_
    refine tF 7 rfl rfl S ?_
    refine tL 8 rfl rfl (fun _ h=>h.cell 1 rfl rfl) S ?_
    refine rtp 9 (yI (xA s (xu s counts (xy s t counts) j) c)) S ?_
    refine tI 10 rfl rfl rfl S ?_
    refine rtp 12 (pp b241 0) S ?_
    refine rtp 13 (pp b241 0) S ?_
    refine tF 14 rfl rfl S ?_
    refine tL 15 rfl rfl (fun _ h=>h.cell 1 rfl rfl) S ?_
    refine rtp 16 (yI c) S ?_
    refine tI 17 rfl rfl rfl S ?_
    refine jK [11,18] qh qm (Qy rfl ?_ (Qy rfl ?_ jL))
    ·skip
     obtain ⟨a494,c495,G496,s497,h498,H⟩:=H.yw 3 rfl 0 rfl (iv:=xA s (xu s counts (xy s t counts) j) c) ((xA s (xu s counts (xy s t counts) j) c).toNat) qf qf
     refine zT (Sv a494 ((((xu s counts (xy s t counts) j).qE)[(xA s (xu s counts (xy s t counts) j) c).toNat]!).length) c495) isAgg22 rfl (h498) (⟨H.pick [0,1,2,4,5,6,7,8] [1,2,3,4,5,6],(ro 18 rfl ?_)⟩)
     obtain ⟨a499,c500,G501,s502,h503,H⟩:=H.yw 3 rfl 1 rfl (iv:=c) c.toNat qf qf
     refine zT (Sv a499 ((((xu s counts (xy s t counts) j).qE)[c.toNat]!).length) c500) isAgg22 rfl (h503) (⟨H.pick [0,1,2,4,5,6,7,8] [2,3,4,5,6,7],(ro 19 rfl ?_)⟩)
     obtain ⟨u1,u2,u4⟩:=L.rows p0 (bnd_le qf) (p:=(xA s (xu s counts (xy s t counts) j) c).toNat) (c:=c.toNat) qf qf
     have sz504:=H.base.size
     have lt505:=H.ltN (L:=[zn]) [2]
     refine oc (plus_ok _ (((xu s counts (xy s t counts) j).qE)[(xA s (xu s counts (xy s t counts) j) c).toNat]!) (((xu s counts (xy s t counts) j).qE)[c.toNat]!) 1 (H.get 1 rfl).1 (H.get 0 rfl).1 qg qg qg) ?_
     rintro v509 w507 r509 x508
     replace H:=H.zJ x508 r509
     obtain ⟨a510,c511,rfl,hc512,hm513⟩:=H.jA 0 rfl
     refine ⟨H.pick [1,2,3,5,6,7,8,9] [2,3,4,5,6,7],(tI 20 rfl rfl rfl (H.pick [1,2,3,5,6,7,8,9] [2,3,4,5,6,7]) ?_)⟩
     refine ro 21 rfl ?_
     obtain ⟨G515,N,hn516,H⟩:=H.jb 0 rfl N (H.jU [2])
     refine jX true H 4 rfl 3 rfl (Sv a510 ((ji (((xu s counts (xy s t counts) j).qE)[(xA s (xu s counts (xy s t counts) j) c).toNat]!) (((xu s counts (xy s t counts) j).qE)[c.toNat]!) 1).length) c511) 0 rfl rfl sizeOf22 rfl rfl (i:=((xA s (xu s counts (xy s t counts) j) c).toNat)) qf qf qm fun w514 xs517 F518 hs519 H=>?_
     replace N:Fresh w.heap.size [F518]:=(N.pick [1,0]).repl hs519
     refine ⟨H.pick [1,2,3,5,6,7,8,9] [4,5,6,7,8,9],(xP qh ((meet ⟨_,xs517,F518,uE3,N,H.pick [1,2,3,4,5,6,7,8,9] [0,5,6,7,8,9]⟩)))⟩
    obtain ⟨a520,c521,G522,s523,h524,H⟩:=H.yw 3 rfl 0 rfl (iv:=c) c.toNat qf qf
    refine zT (Sv a520 ((((xu s counts (xy s t counts) j).qE)[c.toNat]!).length) c521) isAgg22 rfl (h524) (⟨H.pick [0,1,2,4,5,6,7,8] [1,2,3,4,5,6],(ro 11 rfl ?_)⟩)
    obtain ⟨a525,c526,G527,s528,h529,H⟩:=H.yw 3 rfl 1 rfl (iv:=xA s (xu s counts (xy s t counts) j) c) ((xA s (xu s counts (xy s t counts) j) c).toNat) qf qf
    refine zT (Sv a525 ((((xu s counts (xy s t counts) j).qE)[(xA s (xu s counts (xy s t counts) j) c).toNat]!).length) c526) isAgg22 rfl (h529) (⟨H.pick [0,1,2,4,5,6,7,8] [2,3,4,5,6,7],(ro 19 rfl ?_)⟩)
    obtain ⟨u1,u2,u4⟩:=L.rows p0 (bnd_le qf) (p:=(xA s (xu s counts (xy s t counts) j) c).toNat) (c:=c.toNat) qf qf
    have sz530:=H.base.size
    have lt531:=H.ltN (L:=[zn]) [2]
    refine oc (plus_ok _ (((xu s counts (xy s t counts) j).qE)[(xA s (xu s counts (xy s t counts) j) c).toNat]!) (((xu s counts (xy s t counts) j).qE)[c.toNat]!) 1 (H.get 0 rfl).1 (H.get 1 rfl).1 qg qg qg) ?_
    rintro v535 w533 r535 x534
    replace H:=H.zJ x534 r535
    obtain ⟨a536,c537,rfl,hc538,hm539⟩:=H.jA 0 rfl
    refine ⟨H.pick [1,2,3,5,6,7,8,9] [2,3,4,5,6,7],(tI 20 rfl rfl rfl (H.pick [1,2,3,5,6,7,8,9] [2,3,4,5,6,7]) ?_)⟩
    refine ro 21 rfl ?_
    obtain ⟨G541,N,hn542,H⟩:=H.jb 0 rfl N (H.jU [2])
    refine jX true H 4 rfl 3 rfl (Sv a536 ((ji (((xu s counts (xy s t counts) j).qE)[(xA s (xu s counts (xy s t counts) j) c).toNat]!) (((xu s counts (xy s t counts) j).qE)[c.toNat]!) 1).length) c537) 0 rfl rfl sizeOf22 rfl rfl (i:=((xA s (xu s counts (xy s t counts) j) c).toNat)) qf qf qm fun w540 xs543 F544 hs545 H=>?_
    replace N:Fresh w.heap.size [F544]:=(N.pick [1,0]).repl hs545
    refine ⟨H.pick [1,2,3,5,6,7,8,9] [4,5,6,7,8,9],(xP qh ((meet ⟨_,xs543,F544,uE3,N,H.pick [1,2,3,4,5,6,7,8,9] [0,5,6,7,8,9]⟩)))⟩
   clear H N
   rintro ρ w546 ⟨xY,xs490,F491,rfl,N,H⟩
   refine t_n (xQ ?_)
   refine QI rfl H [0,1,2,4,5,6,7,8] fun H=>?_
   have S:=H.yU [0,1,2,4,5,6,7,8] [0,1,2,3,4,5]
   refine rtp 0 (pp b241 0) S ?_
   refine rtp 1 (pp b241 0) S ?_
   refine tF 2 rfl rfl S ?_
   refine tL 3 rfl rfl (fun _ h=>h.cell 1 rfl rfl) S ?_
   refine rtp 4 (yI c) S ?_
   refine tF 5 rfl rfl S ?_
   refine tL 6 rfl rfl (fun _ h=>h.cell 0 rfl rfl) S ?_
   refine ro 7 rfl (Vg H underlying22 ti2 s.xB.toNat rfl rfl qf qf qf fun b548 w549 H=>⟨H.pick [1,2,3,5,6,7,8,9] [0,1,2,3,4,5],(tI 8 rfl rfl rfl (H.pick [1,2,3,5,6,7,8,9] [0,1,2,3,4,5]) ?_)⟩)
   refine ro 9 rfl ?_
   obtain ⟨G551,N,hn552,H⟩:=H.jb 0 rfl N (H.jU [0])
   refine jX true H 4 rfl 1 rfl (Sv (aa b548 0) s.xB.toNat s.xB.toNat) 0 rfl rfl sizeOf22 rfl rfl (i:=c.toNat) qf qf qm fun w550 xs553 F554 hs555 H=>?_
   replace N:Fresh w.heap.size [F554]:=(N.pick [1,0]).repl hs555
   refine ⟨H.pick [1,2,3,5,6,7,8,9] [2,3,4,5,6,7],(xP qh (t_n (xO (sps [pp b241 0,pp b241 0] (oF rfl (oL rfl (H.cell 2 rfl rfl) (sp (yI c) ?_)))))))⟩
   obtain ⟨b556,rfl⟩:=H.Qn 3 rfl qf
   refine oI rfl rfl (sw (Xo H 3 rfl false sizeOf4 rfl rfl (i:=c.toNat) qf qf fun w557 H=>xM (ret0 rfl ⟨_,rfl,?_⟩)))
   replace H:=H.erases [1,0]
   dsimp only [vS,List.eraseIdx] at H
   refine xM (b_n (t_n (xO (sp (yI c) (sw (o_sub c 1 rfl rfl qf (sp (yI (c - 1)) (xM ?_))))))))
   rw [QV] at H
   refine qY (m' :=((c - 1):Int).toNat) qf ⟨_,c - 1,(((xu s counts (xy s t counts) j).qA).set c.toNat false),((((xu s counts (xy s t counts) j).qE).set ((xA s (xu s counts (xy s t counts) j) c).toNat) (ji (((xu s counts (xy s t counts) j).qE)[(xA s (xu s counts (xy s t counts) j) c).toNat]!) (((xu s counts (xy s t counts) j).qE)[c.toNat]!) 1)).set c.toNat (List.replicate s.xB.toNat (0:Int))),xs553,F554,j+1,uE5,?_,?_,?_,?_,rfl,N,H.pick [0,1,2,3,4,5,6,7] [0,3,4,5,6,7]⟩
   · first | (rw [meltDown_yesL (c:=c) ‹_› qf qf rfl ic];rfl) | rw [meltDown_noL (c:=c) ‹_› qf qf rfl ic]
   · first | (rw [meltDown_yesL (c:=c) ‹_› qf qf rfl ic];rfl) | rw [meltDown_noL (c:=c) ‹_› qf qf rfl ic]
   · omega
   · omega
  refine qW (b_n (t_n (xO (sp (yI c) (sw (o_sub c 1 rfl rfl qf (sp (yI (c - 1)) (xM ?_))))))))
  rw [QV] at H
  refine qY (m' :=((c - 1):Int).toNat) qf ⟨_,c - 1,((xu s counts (xy s t counts) j).qA),((xu s counts (xy s t counts) j).qE),zW,zn,j+1,uE5,?_,?_,?_,?_,rfl,N,H⟩
  · first | (rw [meltDown_yesL (c:=c) ‹_› qf qf rfl ic];rfl) | rw [meltDown_noL (c:=c) ‹_› qf qf rfl ic]
  · first | (rw [meltDown_yesL (c:=c) ‹_› qf qf rfl ic];rfl) | rw [meltDown_noL (c:=c) ‹_› qf qf rfl ic]
  · omega
  · omega
 refine zx4 (zcr (sw (zl (yS s qC qB qN qJ) isAgg36 sizeOf36 rfl (qF (H.cells 7 rfl) 0 3) (sw (zl [Sv ra242 (((xy s t counts).qA).length) rc243,Sv ra244 (((xy s t counts).qE).length) rc245,Sv ra246 (((xu s counts (xy s t counts) j).qy).length) rc247] isAgg38 sizeOf38 rfl (qF (H.cells 0 rfl) 0 3) ?_)))))
 refine sw (vJ #[.agg #[yI s.xB,Sv qC s.qw.length qB,Sv qN s.qx.length qJ],.agg #[Sv ra242 (((xy s t counts).qA).length) rc243,Sv ra244 (((xy s t counts).qE).length) rc245,Sv ra246 (((xu s counts (xy s t counts) j).qy).length) rc247]] rfl rfl call156 (en func156 ntmps156 ?_))
 refine zcr (sw (vU H (yS s qC qB qN qJ) fun b558 w559 H=>sw (vU H [Sv ra242 (((xy s t counts).qA).length) rc243,Sv ra244 (((xy s t counts).qE).length) rc245,Sv ra246 (((xu s counts (xy s t counts) j).qy).length) rc247] fun b560 w561 H=>sw (zh H ti38 [yN,yN,yN] fun b562 w563 H=>sp (yI 0) (zjcc ?_)))))
 refine sw (zl (yS s qC qB qN qJ) isAgg36 sizeOf36 rfl (qF (H.cells 2 rfl) 0 3) (sw (zl [Sv ra242 (((xy s t counts).qA).length) rc243,Sv ra244 (((xy s t counts).qE).length) rc245,Sv ra246 (((xu s counts (xy s t counts) j).qy).length) rc247] isAgg38 sizeOf38 rfl (qF (H.cells 1 rfl) 0 3) ?_)))
 obtain ⟨G564,hn565,h566⟩:=H.rowIsB 4 rfl
 obtain ⟨G567,hn568,h569⟩:=H.rowIsR (α:=yLI) 5 rfl 0 rfl qj
 obtain ⟨G570,hn571,h572⟩:=H.rowIsI 6 rfl
 refine sw (oq (args_eq (by rw [← hn565,← hn568]) (validState_ok _ s (xu s counts (xy s t counts) j) (H.get 1 rfl).1 (H.get 2 rfl).1 (hn565▸h566) (hn568▸h569) h572)) H fun w574 H=>sp (Bv (!(dec (jE s∧zu s (xu s counts (xy s t counts) j))))) (zjn (cQ rfl (fun h576=>?_) (fun h576=>?_))))
 ·skip
  refine zcr (sw (jF [yN,yN,yN] [] (sw (zF H 0 [yN,yN,yN] sizeOf38 fun w577 H=>sp (yI 3) (zjr (t_r (retC2 H 0 rfl (yI 3) rfl isAgg38 sizeOf38 rfl rfl ⟨_,rfl,?_⟩)))))))
  replace H:=H.erases [2,1,0]
  dsimp only [vS,List.eraseIdx] at H
  refine sps [.agg #[yN,yN,yN],yI 3] (sw (zF H 5 [yN,yN,yN] sizeOf38 fun w578 H=>sp (yI 3) (zjr ?_)))
  replace H:=H.nilRowB 4
  replace H:=H.nilRow 22 1
  replace H:=H.vT (α:=yLI)
  replace H:=H.nilRowI 2
  refine retC2 H 8 rfl (yI 3) rfl isAgg38 sizeOf38 rfl rfl ⟨_,rfl,?_,H.base⟩
  rw [stepBy_yes p3,stepRes,show jr s - 1=j by omega,told_no (fun h=>‹¬ (jE s∧_)› ⟨p0,h⟩)]
  exact ⟨none,0,0,none,0,0,[],[],none,0,0,rfl,(N.emp.pick [0]),H.pick [2,1,0] [0]⟩
 refine qW (t_n (zcr (sw (zl [Sv ra242 (((xy s t counts).qA).length) rc243,Sv ra244 (((xy s t counts).qE).length) rc245,Sv ra246 (((xu s counts (xy s t counts) j).qy).length) rc247] isAgg38 sizeOf38 rfl (qF (H.cells 1 rfl) 0 3) (sw (zF H 0 [Sv ra242 (((xy s t counts).qA).length) rc243,Sv ra244 (((xy s t counts).qE).length) rc245,Sv ra246 (((xu s counts (xy s t counts) j).qy).length) rc247] sizeOf38 fun w579 H=>sp (yI 0) (zjr (retC2 H 0 rfl (yI 0) rfl isAgg38 sizeOf38 rfl rfl ⟨_,rfl,?_⟩))))))))
 replace H:=H.erases [2,1,0]
 dsimp only [vS,List.eraseIdx] at H
 refine sps [.agg #[Sv ra242 (((xy s t counts).qA).length) rc243,Sv ra244 (((xy s t counts).qE).length) rc245,Sv ra246 (((xu s counts (xy s t counts) j).qy).length) rc247],yI 0] (sw (zF H 5 [Sv ra242 (((xy s t counts).qA).length) rc243,Sv ra244 (((xy s t counts).qE).length) rc245,Sv ra246 (((xu s counts (xy s t counts) j).qy).length) rc247] sizeOf38 fun w580 H=>sp (yI 0) (zjr (retC2 H 5 rfl (yI 0) rfl isAgg38 sizeOf38 rfl rfl ⟨_,rfl,?_,H.base⟩))))
 rw [stepBy_yes p3,stepRes,show jr s - 1=j by omega,told_yes (‹jE s∧_›:jE s∧_).2]
 exact ⟨ra242,((xy s t counts).qA).length,rc243,ra244,((xy s t counts).qE).length,rc245,zW,zn,ra246,((xu s counts (xy s t counts) j).qy).length,rc247,rfl,N,H.pick [1,2,3] [0]⟩
theorem l00Same_ok (w:World) (a:yLI) (b:yLI) {aa:yOA} {Fa:yLN} {ab:yOA} {Fb:yLN} (ha:qO.rep w Fa [Sv aa a.length ca] a) (hb:qO.rep w Fb [Sv ab b.length cb] b):Calls Tryz.prog 128 #[Sv aa a.length ca,Sv ab b.length cb] w (Ret (fun v w' =>v=Bv (decide (a=b))) w):=by
 refine en func128 ntmps128 ?_
 have H:=((St.start w).arg hb).arg ha
 have nha:=qM ha
 have nhb:=qM hb
 clear ha hb
 have N:=Fresh.nil w.heap.size
 refine zcr (sp (Bv false) (zjcc (sp (Sv aa a.length ca) (oN rfl (sp (Sv ab b.length cb) (oN rfl (sp (Bv ((a.length:Int) != b.length)) (zjn (xE ((a.length:Int) != b.length) rfl (fun h1=>?_) (fun h1=>?_))))))))))
 ·skip
  replace h1:=bne_iff_ne.1 h1
  refine zcr (sp (Bv false) (zjr (t_r (ret1 (Bv false) rfl rfl ⟨_,rfl,?_,H.base⟩))))
  first | rw [decide_eq_false (fun e=>by subst e;omega)] | rw [decide_eq_false (jk (k:=i) ‹_›)] | rw [decide_eq_false (jk (k:=i) (by simpa using ‹_›))]
 replace h1:=xw h1
 refine qW (t_n (zcc (sp (yI 0) (zjn (qX ?_)))))
 refine zD (fun m' ρ w2=>∃ (xY:Env) (i:Nat),ρ=upd (upd (upd xY 0 (Sv aa a.length ca)) 1 (Sv ab b.length cb)) 5 (yI i)∧((i:Int)≤a.length)∧(a.take i=b.take i)∧m' =(a.length - (i:Int)).toNat∧Fresh w.heap.size []∧St w w2 [] [sF false Fa aa ca a,sF false Fb ab cb b]) ((a.length - (0:Int)).toNat) ⟨_,0,uE3,qf,(by rfl),rfl,N,H⟩ ?_
 clear H N
 rintro m' ρ w3 ⟨xY,i,rfl,i0,i1,rfl,N,H⟩
 refine zcc (sps [yI i,Sv aa a.length ca] (oN rfl (sp (Bv (decide ((i:Int) < a.length))) (zjn (cD rfl (fun h4=>?_) (fun h4=>?_))))))
 ·skip
  refine qW (t_n (xQ (qX (xQ ?_))))
  refine jh rfl H fun H=>rtp 0 (Sv aa a.length ca) H ?_
  refine rtp 1 (yI i) H ?_
  obtain ⟨b6,o7,rfl⟩:=H.addr 0 rfl qf
  refine tI 2 rfl rfl rfl H ?_
  refine tL 3 rfl rfl (fun _ h=>h.yG 0 rfl i qf) H ?_
  refine rtp 4 (Sv ab b.length cb) H ?_
  refine rtp 5 (yI i) H ?_
  obtain ⟨b9,o10,rfl⟩:=H.addr 1 rfl qf
  refine tI 6 rfl rfl rfl H ?_
  refine tL 7 rfl rfl (fun _ h=>h.yG 1 rfl i qf) H ?_
  refine rtp 8 (Bv ((a[i]! :Int) != (b[i]!))) H ?_
  refine xP qh (t_n (xE ((a[i]! :Int) != (b[i]!)) rfl (fun h12=>?_) (fun h12=>?_)))
  ·skip
   replace h12:=bne_iff_ne.1 h12
   refine zcr (sp (Bv false) (zjr (zr5 (ret1 (Bv false) rfl rfl ⟨_,rfl,?_,H.base⟩))))
   first | rw [decide_eq_false (fun e=>by subst e;omega)] | rw [decide_eq_false (jk (k:=i) ‹_›)] | rw [decide_eq_false (jk (k:=i) (by simpa using ‹_›))]
  replace h12:=xw h12
  refine qW (b_n (t_n (xO (sp (yI i) (sw (zB i 1 rfl rfl qf (sp (yI (i+1)) (xM (qY (m' :=(a.length - ((i+1):Int)).toNat) qf ⟨_,i+1,uE3,?_,?_,rfl,N,H⟩)))))))))
  · omega
  · exact XD qf qf i1 qg
 refine zx4 (zcr (sp (Bv true) (zjr (ret1 (Bv true) rfl rfl ⟨_,rfl,?_,H.base⟩))))
 rw [decide_eq_true (jy (k:=i) qf qf i1)]

theorem equalI_ok (w:World) (a:yLI) (b:yLI) {aa:yOA} {Fa:yLN} {ab:yOA} {Fb:yLN} (ha:qO.rep w Fa [Sv aa a.length ca] a) (hb:qO.rep w Fb [Sv ab b.length cb] b):Calls Tryz.prog 96 #[Sv aa a.length ca,Sv ab b.length cb] w (Ret (fun v w' =>v=Bv (decide (a=b))) w):=by
 refine en func96 ntmps96 ?_
 have H:=((St.start w).arg hb).arg ha
 have nha:=qM ha
 have nhb:=qM hb
 clear ha hb
 have N:=Fresh.nil w.heap.size
 refine zcr (sp (Bv false) (zjcc (sp (Sv aa a.length ca) (oN rfl (sp (Sv ab b.length cb) (oN rfl (sp (Bv ((a.length:Int) != b.length)) (zjn (xE ((a.length:Int) != b.length) rfl (fun h1=>?_) (fun h1=>?_))))))))))
 ·skip
  replace h1:=bne_iff_ne.1 h1
  refine zcr (sp (Bv false) (zjr (t_r (ret1 (Bv false) rfl rfl ⟨_,rfl,?_,H.base⟩))))
  first | rw [decide_eq_false (fun e=>by subst e;omega)] | rw [decide_eq_false (jk (k:=i) ‹_›)] | rw [decide_eq_false (jk (k:=i) (by simpa using ‹_›))]
 replace h1:=xw h1
 refine qW (t_n (zcc (sp (Sv aa a.length ca) (oN rfl (sp (yI 0) (zjn (qX ?_)))))))
 refine zD (fun m' ρ w2=>∃ (xY:Env) (i:Nat),ρ=upd (upd (upd (upd xY 0 (Sv aa a.length ca)) 1 (Sv ab b.length cb)) 12 (yI a.length)) 13 (yI i)∧((i:Int)≤a.length)∧(a.take i=b.take i)∧m' =(a.length - (i:Int)).toNat∧Fresh w.heap.size []∧St w w2 [] [sF false Fa aa ca a,sF false Fb ab cb b]) ((a.length - (0:Int)).toNat) ⟨_,0,uE4,qf,(by rfl),rfl,N,H⟩ ?_
 clear H N
 rintro m' ρ w3 ⟨xY,i,rfl,i0,i1,rfl,N,H⟩
 refine zcr (sp (Bv (decide ((i:Int) < a.length))) (zjn (xQ (cD rfl (fun h4=>?_) (fun h4=>?_)))))
 ·skip
  refine qW (t_n (xQ (qX (zcr (sps [yI i,yI i] (zjn (xQ ?_)))))))
  refine jh rfl H fun H=>rtp 0 (Sv aa a.length ca) H ?_
  refine rtp 1 (yI i) H ?_
  obtain ⟨b6,o7,rfl⟩:=H.addr 0 rfl qf
  refine tI 2 rfl rfl rfl H ?_
  refine tL 3 rfl rfl (fun _ h=>h.yG 0 rfl i qf) H ?_
  refine rtp 4 (Sv ab b.length cb) H ?_
  refine rtp 5 (yI i) H ?_
  obtain ⟨b9,o10,rfl⟩:=H.addr 1 rfl qf
  refine tI 6 rfl rfl rfl H ?_
  refine tL 7 rfl rfl (fun _ h=>h.yG 1 rfl i qf) H ?_
  refine rtp 8 (Bv ((a[i]! :Int) != (b[i]!))) H ?_
  refine xP qh (t_n (xE ((a[i]! :Int) != (b[i]!)) rfl (fun h12=>?_) (fun h12=>?_)))
  ·skip
   replace h12:=bne_iff_ne.1 h12
   refine zcr (sp (Bv false) (zjr (zr5 (ret1 (Bv false) rfl rfl ⟨_,rfl,?_,H.base⟩))))
   first | rw [decide_eq_false (fun e=>by subst e;omega)] | rw [decide_eq_false (jk (k:=i) ‹_›)] | rw [decide_eq_false (jk (k:=i) (by simpa using ‹_›))]
  replace h12:=xw h12
  refine qW (b_n (t_n (xO (sw (zB i 1 rfl rfl qf (sp (yI (i+1)) (xM (qY (m' :=(a.length - ((i+1):Int)).toNat) qf ⟨_,i+1,uE4,?_,?_,rfl,N,H⟩))))))))
  · omega
  · exact XD qf qf i1 qg
 refine zx4 (zcr (sp (Bv true) (zjr (ret1 (Bv true) rfl rfl ⟨_,rfl,?_,H.base⟩))))
 rw [decide_eq_true (jy (k:=i) qf qf i1)]

theorem equalB_ok (w:World) (a:List Bool) (b:List Bool) {aa:yOA} {Fa:yLN} {ab:yOA} {Fb:yLN} (ha:qO.rep w Fa [Sv aa a.length ca] a) (hb:qO.rep w Fb [Sv ab b.length cb] b):Calls Tryz.prog 148 #[Sv aa a.length ca,Sv ab b.length cb] w (Ret (fun v w' =>v=Bv (decide (a=b))) w):=by
 refine en func148 ntmps148 ?_
 have H:=((St.start w).arg hb).arg ha
 have nha:=qM ha
 have nhb:=qM hb
 clear ha hb
 have N:=Fresh.nil w.heap.size
 refine zcr (sp (Bv false) (zjcc (sp (Sv aa a.length ca) (oN rfl (sp (Sv ab b.length cb) (oN rfl (sp (Bv ((a.length:Int) != b.length)) (zjn (xE ((a.length:Int) != b.length) rfl (fun h1=>?_) (fun h1=>?_))))))))))
 ·skip
  replace h1:=bne_iff_ne.1 h1
  refine zcr (sp (Bv false) (zjr (t_r (ret1 (Bv false) rfl rfl ⟨_,rfl,?_,H.base⟩))))
  first | rw [decide_eq_false (fun e=>by subst e;omega)] | rw [decide_eq_false (jk (k:=i) ‹_›)] | rw [decide_eq_false (jk (k:=i) (by simpa using ‹_›))]
 replace h1:=xw h1
 refine qW (t_n (zcc (sp (Sv aa a.length ca) (oN rfl (sp (yI 0) (zjn (qX ?_)))))))
 refine zD (fun m' ρ w2=>∃ (xY:Env) (i:Nat),ρ=upd (upd (upd (upd xY 0 (Sv aa a.length ca)) 1 (Sv ab b.length cb)) 12 (yI a.length)) 13 (yI i)∧((i:Int)≤a.length)∧(a.take i=b.take i)∧m' =(a.length - (i:Int)).toNat∧Fresh w.heap.size []∧St w w2 [] [sF false Fa aa ca a,sF false Fb ab cb b]) ((a.length - (0:Int)).toNat) ⟨_,0,uE4,qf,(by rfl),rfl,N,H⟩ ?_
 clear H N
 rintro m' ρ w3 ⟨xY,i,rfl,i0,i1,rfl,N,H⟩
 refine zcr (sp (Bv (decide ((i:Int) < a.length))) (zjn (xQ (cD rfl (fun h4=>?_) (fun h4=>?_)))))
 ·skip
  refine qW (t_n (xQ (qX (zcr (sps [yI i,yI i] (zjn (xQ ?_)))))))
  refine jh rfl H fun H=>rtp 0 (Sv aa a.length ca) H ?_
  refine rtp 1 (yI i) H ?_
  obtain ⟨b6,o7,rfl⟩:=H.addr 0 rfl qf
  refine tI 2 rfl rfl rfl H ?_
  refine tL 3 rfl rfl (fun _ h=>h.elemBoolN 0 rfl i qf) H ?_
  refine rtp 4 (Sv ab b.length cb) H ?_
  refine rtp 5 (yI i) H ?_
  obtain ⟨b9,o10,rfl⟩:=H.addr 1 rfl qf
  refine tI 6 rfl rfl rfl H ?_
  refine tL 7 rfl rfl (fun _ h=>h.elemBoolN 1 rfl i qf) H ?_
  refine rt 8 (Bv ((a[i]!) != (b[i]!))) (y_neB underlying4 (a[i]!) (b[i]!) rfl rfl) H ?_
  refine xP qh (t_n (xE ((a[i]!) != (b[i]!)) rfl (fun h12=>?_) (fun h12=>?_)))
  ·skip
   replace h12:=bne_iff_ne.1 h12
   refine zcr (sp (Bv false) (zjr (zr5 (ret1 (Bv false) rfl rfl ⟨_,rfl,?_,H.base⟩))))
   first | rw [decide_eq_false (fun e=>by subst e;omega)] | rw [decide_eq_false (jk (k:=i) ‹_›)] | rw [decide_eq_false (jk (k:=i) (by simpa using ‹_›))]
  replace h12:=xw h12
  refine qW (b_n (t_n (xO (sw (zB i 1 rfl rfl qf (sp (yI (i+1)) (xM (qY (m' :=(a.length - ((i+1):Int)).toNat) qf ⟨_,i+1,uE4,?_,?_,rfl,N,H⟩))))))))
  · omega
  · exact XD qf qf i1 qg
 refine zx4 (zcr (sp (Bv true) (zjr (ret1 (Bv true) rfl rfl ⟨_,rfl,?_,H.base⟩))))
 rw [decide_eq_true (jy (k:=i) qf qf i1)]

theorem l02Same_ok (w:World) (a:qH) (b:qH) {ba oa:Nat} {aaAlive:yOA} {FaAlive:yLN} {aaBags:yOA} {FaBags:yLN} {VI:yOA} {FaAround:yLN} {bb ob:Nat} {abAlive:yOA} {FbAlive:yLN} {abBags:yOA} {FbBags:yLN} {VH:yOA} {FbAround:yLN} (ha:vN w ba oa (yT a aaAlive caAlive aaBags caBags VI VD)) (haAlive:qO.rep w FaAlive [Sv aaAlive a.qA.length caAlive] a.qA) (haBags:qO.rep w FaBags [Sv aaBags a.qE.length caBags] a.qE) (haAround:qO.rep w FaAround [Sv VI a.qy.length VD] a.qy) (hb:vN w bb ob (yT b abAlive cbAlive abBags cbBags VH VC)) (hbAlive:qO.rep w FbAlive [Sv abAlive b.qA.length cbAlive] b.qA) (hbBags:qO.rep w FbBags [Sv abBags b.qE.length cbBags] b.qE) (hbAround:qO.rep w FbAround [Sv VH b.qy.length VC] b.qy):Calls Tryz.prog 114 #[pp ba oa,pp bb ob] w (Ret (fun v w' =>v=Bv (decide (a=b))) w):=by
 refine en func114 ntmps114 ?_
 have H:=((((((((St.start w).arg hbAround).arg hbBags).arg hbAlive).V7 hb).arg haAround).arg haBags).arg haAlive).V7 ha
 have nhaAlive:=qM haAlive
 have nhaBags:=qM haBags
 have nhaAround:=qM haAround
 have nhbAlive:=qM hbAlive
 have nhbBags:=qM hbBags
 have nhbAround:=qM hbAround
 clear ha haAlive haBags haAround hb hbAlive hbBags hbAround
 have N:=Fresh.nil w.heap.size
 refine zcr (sp (Bv false) (zjn (xQ (xQ ?_))))
 refine jh rfl H fun H=>rtp 0 (pp ba oa) H ?_
 refine rtp 1 (pp ba oa) H ?_
 refine tF 2 rfl rfl H ?_
 refine tL 3 rfl rfl (fun _ h=>h.xW 0 rfl 0 rfl) H ?_
 refine tN 4 rfl rfl H ?_
 refine rtp 5 (pp bb ob) H ?_
 refine rtp 6 (pp bb ob) H ?_
 refine tF 7 rfl rfl H ?_
 refine tL 8 rfl rfl (fun _ h=>h.xW 4 rfl 0 rfl) H ?_
 refine tN 9 rfl rfl H ?_
 refine rtp 10 (Bv ((a.qA.length:Int) != b.qA.length)) H ?_
 refine rtp 11 (Bv ((a.qA.length:Int) != b.qA.length)) H ?_
 cases h2:((a.qA.length:Int) != b.qA.length)
 ·skip
  replace h2:=xw h2
  refine rgp 12 (pp ba oa) 18 H ?_
  refine rgp 13 (pp ba oa) 18 H ?_
  refine gF 14 rfl rfl H ?_
  refine gL 15 rfl rfl (fun _ h=>h.xW 0 rfl 1 rfl) H ?_
  refine gN 16 rfl rfl H ?_
  refine rgp 17 (pp bb ob) 18 H ?_
  refine rgp 18 (pp bb ob) 18 H ?_
  refine gF 19 rfl rfl H ?_
  refine gL 20 rfl rfl (fun _ h=>h.xW 4 rfl 1 rfl) H ?_
  refine gN 21 rfl rfl H ?_
  refine rgp 22 (Bv ((a.qE.length:Int) != b.qE.length)) 18 H ?_
  refine rtp 23 (Bv ((a.qE.length:Int) != b.qE.length)) H ?_
  refine rtp 24 (Bv ((a.qE.length:Int) != b.qE.length)) H ?_
  cases h3:((a.qE.length:Int) != b.qE.length)
  ·skip
   replace h3:=xw h3
   refine rgp 25 (pp ba oa) 31 H ?_
   refine rgp 26 (pp ba oa) 31 H ?_
   refine gF 27 rfl rfl H ?_
   refine gL 28 rfl rfl (fun _ h=>h.xW 0 rfl 2 rfl) H ?_
   refine rgp 29 (pp bb ob) 31 H ?_
   refine rgp 30 (pp bb ob) 31 H ?_
   refine gF 31 rfl rfl H ?_
   refine gL 32 rfl rfl (fun _ h=>h.xW 4 rfl 2 rfl) H ?_
   refine jK [33] qh qm (r_opG rfl (e:=31) rfl rfl (oq (l00Same_ok _ a.qy b.qy (H.get 3 rfl).1 (H.get 7 rfl).1) H fun w5 H=>⟨H,(rgp 34 (Bv (!(decide (a.qy=b.qy)))) 31 H ?_)⟩) jL)
   refine rtp 35 (Bv (!(decide (a.qy=b.qy)))) H ?_
   refine xP qh (t_n (xE (!(decide (a.qy=b.qy))) rfl (fun h7=>?_) (fun h7=>?_)))
   ·skip
    replace h7:=xq h7
    replace h7:=of_decide_eq_false h7
    refine zcr (sp (Bv false) (zjr (t_r (ret1 (Bv false) rfl rfl ⟨_,rfl,?_,H.base⟩))))
    rw [decide_eq_false (fun e=>by subst e;first | omega | exact absurd rfl ql | simp_all)]
   replace h7:=xg h7
   replace h7:=of_decide_eq_true h7
   refine qW (t_n (zcc (sp (yI 0) (zjn (qX ?_)))))
   refine zD (fun m' ρ w8=>∃ (xY:Env) (c:Nat),ρ=upd (upd (upd xY 0 (pp ba oa)) 1 (pp bb ob)) 5 (yI c)∧((c:Int)≤a.qA.length)∧(a.qA.take c=b.qA.take c)∧m' =(a.qA.length - (c:Int)).toNat∧Fresh w.heap.size []∧St w w8 [] [atF ba oa (yT a aaAlive caAlive aaBags caBags VI VD),sF false FaAlive aaAlive caAlive a.qA,sF false FaBags aaBags caBags a.qE,sF false FaAround VI VD a.qy,atF bb ob (yT b abAlive cbAlive abBags cbBags VH VC),sF false FbAlive abAlive cbAlive b.qA,sF false FbBags abBags cbBags b.qE,sF false FbAround VH VC b.qy]) ((a.qA.length - (0:Int)).toNat) ⟨_,0,uE3,qf,(by rfl),rfl,N,H⟩ ?_
   clear H N
   rintro m' ρ w9 ⟨xY,c,rfl,i0,i1,rfl,N,H⟩
   refine zcc (sps [yI c,pp ba oa,pp ba oa] (oF rfl (oL rfl (H.xW 0 rfl 0 rfl) (oN rfl (sp (Bv (decide ((c:Int) < a.qA.length))) (zjn (cD rfl (fun h10=>?_) (fun h10=>?_))))))))
   ·skip
    refine qW (t_n (xQ (qX (xQ ?_))))
    refine jh rfl H fun H=>rtp 0 (pp ba oa) H ?_
    refine rtp 1 (pp ba oa) H ?_
    refine tF 2 rfl rfl H ?_
    refine tL 3 rfl rfl (fun _ h=>h.xW 0 rfl 0 rfl) H ?_
    refine rtp 4 (yI c) H ?_
    obtain ⟨b12,o13,rfl⟩:=H.addr 1 rfl qf
    refine tI 5 rfl rfl rfl H ?_
    refine tL 6 rfl rfl (fun _ h=>h.elemBoolN 1 rfl c qf) H ?_
    refine rtp 7 (pp bb ob) H ?_
    refine rtp 8 (pp bb ob) H ?_
    refine tF 9 rfl rfl H ?_
    refine tL 10 rfl rfl (fun _ h=>h.xW 4 rfl 0 rfl) H ?_
    refine rtp 11 (yI c) H ?_
    obtain ⟨b15,o16,rfl⟩:=H.addr 5 rfl qf
    refine tI 12 rfl rfl rfl H ?_
    refine tL 13 rfl rfl (fun _ h=>h.elemBoolN 5 rfl c qf) H ?_
    refine rt 14 (Bv ((a.qA[c]!) != (b.qA[c]!))) (y_neB underlying4 (a.qA[c]!) (b.qA[c]!) rfl rfl) H ?_
    refine xP qh (t_n (xE ((a.qA[c]!) != (b.qA[c]!)) rfl (fun h18=>?_) (fun h18=>?_)))
    ·skip
     replace h18:=bne_iff_ne.1 h18
     refine zcr (sp (Bv false) (zjr (zr5 (ret1 (Bv false) rfl rfl ⟨_,rfl,?_,H.base⟩))))
     rw [decide_eq_false (fun e=>by subst e;first | omega | exact absurd rfl ql | simp_all)]
    replace h18:=xw h18
    refine qW (b_n (t_n (xO (sp (yI c) (sw (zB c 1 rfl rfl qf (sp (yI (c+1)) (xM (qY (m' :=(a.qA.length - ((c+1):Int)).toNat) qf ⟨_,c+1,uE3,?_,?_,rfl,N,H⟩)))))))))
    · omega
    · exact XD qf qf i1 qg
   refine zx4 (zcc (sp (yI 0) (zjn (qX ?_))))
   refine zD (fun m' ρ w19=>∃ (xY:Env) (c_1:Nat),ρ=upd (upd (upd xY 0 (pp ba oa)) 1 (pp bb ob)) 6 (yI c_1)∧((c_1:Int)≤a.qE.length)∧(a.qE.take c_1=b.qE.take c_1)∧m' =(a.qE.length - (c_1:Int)).toNat∧Fresh w.heap.size []∧St w w19 [] [atF ba oa (yT a aaAlive caAlive aaBags caBags VI VD),sF false FaAlive aaAlive caAlive a.qA,sF false FaBags aaBags caBags a.qE,sF false FaAround VI VD a.qy,atF bb ob (yT b abAlive cbAlive abBags cbBags VH VC),sF false FbAlive abAlive cbAlive b.qA,sF false FbBags abBags cbBags b.qE,sF false FbAround VH VC b.qy]) ((a.qE.length - (0:Int)).toNat) ⟨_,0,uE3,qf,(by rfl),rfl,N,H⟩ ?_
   clear H N
   rintro m' ρ w20 ⟨xY,c_1,rfl,i0,i2,rfl,N,H⟩
   refine zcc (sps [yI c_1,pp ba oa,pp ba oa] (oF rfl (oL rfl (H.xW 0 rfl 1 rfl) (oN rfl (sp (Bv (decide ((c_1:Int) < a.qE.length))) (zjn (cD rfl (fun h21=>?_) (fun h21=>?_))))))))
   ·skip
    refine qW (t_n (xQ (qX (xQ ?_))))
    obtain ⟨b22,o23,rfl⟩:=H.addr 2 rfl qf
    obtain ⟨b25,o26,rfl⟩:=H.addr 6 rfl qf
    refine c_cut (fun ρ w34=>∃ (xY:Env) (F28:yLN) (a29:yOA) (c30:Nat) (F31:yLN) (a32:yOA) (c33:Nat),ρ=upd (upd (upd (upd xY 0 (pp ba oa)) 1 (pp bb ob)) 6 (yI c_1)) 91 (Bv (!(decide ((a.qE[c_1]!)=(b.qE[c_1]!)))))∧Fresh w.heap.size []∧St w w34 [] [sF false F28 a29 c30 (b.qE[c_1]!),atF b25 (o26+(c_1:Int).toNat * 1) [Sv a29 ((b.qE[c_1]!).length) c30],sF false F31 a32 c33 (a.qE[c_1]!),atF b22 (o23+(c_1:Int).toNat * 1) [Sv a32 ((a.qE[c_1]!).length) c33],atF ba oa [Sv aaAlive a.qA.length caAlive,Sv (aa b22 o23) a.qE.length caBags,Sv VI a.qy.length VD],sF false FaAlive aaAlive caAlive a.qA,sF false FaBags (aa b22 o23) caBags a.qE,sF false FaAround VI VD a.qy,atF bb ob [Sv abAlive b.qA.length cbAlive,Sv (aa b25 o26) b.qE.length cbBags,Sv VH b.qy.length VC],sF false FbAlive abAlive cbAlive b.qA,sF false FbBags (aa b25 o26) cbBags b.qE,sF false FbAround VH VC b.qy]) ?_ ?_
    ·skip
     refine jh rfl H fun H=>rtp 0 (pp ba oa) H ?_
     refine rtp 1 (pp ba oa) H ?_
     refine tF 2 rfl rfl H ?_
     refine tL 3 rfl rfl (fun _ h=>h.xW 0 rfl 1 rfl) H ?_
     refine rtp 4 (yI c_1) H ?_
     obtain ⟨ae36,ce36,Fe36,H⟩:=H.vV 2 rfl c_1 c_1 qf qf qf
     have S:=H.yU [] [2,3,4,5,6,7,8,9]
     refine tI 5 rfl rfl rfl S ?_
     refine rtp 7 (pp bb ob) S ?_
     refine rtp 8 (pp bb ob) S ?_
     refine tF 9 rfl rfl S ?_
     refine tL 10 rfl rfl (fun _ h=>h.xW 4 rfl 1 rfl) S ?_
     refine rtp 11 (yI c_1) S ?_
     obtain ⟨ae37,ce37,Fe37,H⟩:=H.vV 8 rfl c_1 c_1 qf qf qf
     refine tI 12 rfl rfl rfl (H.pick [] [4,5,6,7,8,9,10,11]) ?_
     refine jK [6,13] qh qm (Qy rfl ?_ (Qy rfl ?_ jL))
     ·skip
      refine zT (Sv ae36 ((a.qE[c_1]!).length) ce36) isAgg22 rfl (H.xW 3 rfl 0 rfl) (⟨H.pick [] [4,5,6,7,8,9,10,11],(ro 13 rfl (zT (Sv ae37 ((b.qE[c_1]!).length) ce37) isAgg22 rfl (H.xW 1 rfl 0 rfl) (⟨H.pick [] [4,5,6,7,8,9,10,11],(ro 14 rfl (oq (l00Same_ok _ (a.qE[c_1]!) (b.qE[c_1]!) (H.get 2 rfl).1 (H.get 0 rfl).1) H fun w39 H=>⟨H.pick [] [4,5,6,7,8,9,10,11],(rtp 15 (Bv (!(decide ((a.qE[c_1]!)=(b.qE[c_1]!))))) (H.pick [] [4,5,6,7,8,9,10,11]) ?_)⟩))⟩)))⟩)
      refine xP qh ((meet ⟨_,Fe37,ae37,ce37,Fe36,ae36,ce36,uE4,N,H⟩))
     refine zT (Sv ae37 ((b.qE[c_1]!).length) ce37) isAgg22 rfl (H.xW 1 rfl 0 rfl) (⟨H.pick [] [4,5,6,7,8,9,10,11],(ro 6 rfl (zT (Sv ae36 ((a.qE[c_1]!).length) ce36) isAgg22 rfl (H.xW 3 rfl 0 rfl) (⟨H.pick [] [4,5,6,7,8,9,10,11],(ro 14 rfl (oq (l00Same_ok _ (a.qE[c_1]!) (b.qE[c_1]!) (H.get 2 rfl).1 (H.get 0 rfl).1) H fun w42 H=>⟨H.pick [] [4,5,6,7,8,9,10,11],(rtp 15 (Bv (!(decide ((a.qE[c_1]!)=(b.qE[c_1]!))))) (H.pick [] [4,5,6,7,8,9,10,11]) ?_)⟩))⟩)))⟩)
     refine xP qh ((meet ⟨_,Fe37,ae37,ce37,Fe36,ae36,ce36,uE4,N,H⟩))
    clear H N
    rintro ρ w44 ⟨xY,F28,a29,c30,F31,a32,c33,rfl,N,H⟩
    refine t_n (xE (!(decide ((a.qE[c_1]!)=(b.qE[c_1]!)))) rfl (fun h45=>?_) (fun h45=>?_))
    ·skip
     replace h45:=xq h45
     replace h45:=of_decide_eq_false h45
     refine zcr (sp (Bv false) (zjr (zr5 (ret1 (Bv false) rfl rfl ⟨_,rfl,?_,H.base⟩))))
     rw [decide_eq_false (fun e=>by subst e;first | omega | exact absurd rfl ql | simp_all)]
    replace h45:=xg h45
    replace h45:=of_decide_eq_true h45
    refine qW (b_n (t_n (xO (sp (yI c_1) (sw (zB c_1 1 rfl rfl qf (sp (yI (c_1+1)) (xM (qY (m' :=(a.qE.length - ((c_1+1):Int)).toNat) qf ⟨_,c_1+1,uE3,?_,?_,rfl,N,H.pick [] [4,5,6,7,8,9,10,11]⟩)))))))))
    · omega
    · exact XD qf qf i2 ql
   refine zx4 (zcr (sp (Bv true) (zjr (ret1 (Bv true) rfl rfl ⟨_,rfl,?_,H.base⟩))))
   rw [decide_eq_true (state_eq (jy (k:=c) qf qf i1) (jy (k:=c_1) qf qf i2) ql)]
  replace h3:=bne_iff_ne.1 h3
  refine zZ [25,26,27,28,29,30,31,32,33,34] 10 (H) (rtp 35 (Bv true) H ?_)
  refine xP qh (t_n (xE true rfl (fun _=>zcr (sp (Bv false) (zjr (t_r (ret1 (Bv false) rfl rfl ⟨_,rfl,?_,H.base⟩))))) (fun h=>absurd h qj)))
  rw [decide_eq_false (fun e=>by subst e;first | omega | exact absurd rfl ql | simp_all)]
 replace h2:=bne_iff_ne.1 h2
 refine zZ [12,13,14,15,16,17,18,19,20,21,22] 11 (H) (rtp 23 (Bv true) H ?_)
 refine rtp 24 (Bv true) H ?_
 refine zZ [25,26,27,28,29,30,31,32,33,34] 10 (H) (rtp 35 (Bv true) H ?_)
 refine xP qh (t_n (xE true rfl (fun _=>zcr (sp (Bv false) (zjr (t_r (ret1 (Bv false) rfl rfl ⟨_,rfl,?_,H.base⟩))))) (fun h=>absurd h qj)))
 rw [decide_eq_false (fun e=>by subst e;first | omega | exact absurd rfl ql | simp_all)]

theorem l03Find_ok (w:World) (l:List qH) (u:qH) {al:yOA} {cl:Nat} {Fl:yLN} {bu ou:Nat} {auAlive:yOA} {cuAlive:Nat} {FuAlive:yLN} {auBags:yOA} {cuBags:Nat} {FuBags:yLN} {auAround:yOA} {cuAround:Nat} {FuAround:yLN} (hl:qO.rep w Fl [Sv al l.length cl] l) (hu:vN w bu ou (yT u auAlive cuAlive auBags cuBags auAround cuAround)) (huAlive:qO.rep w FuAlive [Sv auAlive u.qA.length cuAlive] u.qA) (huBags:qO.rep w FuBags [Sv auBags u.qE.length cuBags] u.qE) (huAround:qO.rep w FuAround [Sv auAround u.qy.length cuAround] u.qy):Calls Tryz.prog 77 #[Sv al l.length cl,pp bu ou] w (Ret (fun v w' =>v=yI (firstIdx (fun zz=>decide (l[zz]! =u)) l.length)) w):=by
 refine en func77 ntmps77 ?_
 have H:=(((((St.start w).arg huAround).arg huBags).arg huAlive).V7 hu).arg hl
 have nhl:=qM hl
 have nhuAlive:=qM huAlive
 have nhuBags:=qM huBags
 have nhuAround:=qM huAround
 clear hl hu huAlive huBags huAround
 have N:=Fresh.nil w.heap.size
 refine zcr (sp (yI 0) (zjcc (sp (yI 0) (zjn (qX ?_)))))
 refine zD (fun m' ρ w1=>∃ (xY:Env) (i:Nat),ρ=upd (upd (upd xY 0 (Sv al l.length cl)) 1 (pp bu ou)) 5 (yI i)∧((i:Int)≤l.length)∧(noneTo (fun zz=>decide (l[zz]! =u)) i)∧m' =(l.length - (i:Int)).toNat∧Fresh w.heap.size []∧St w w1 [] [sF false Fl al cl l,atF bu ou (yT u auAlive cuAlive auBags cuBags auAround cuAround),sF false FuAlive auAlive cuAlive u.qA,sF false FuBags auBags cuBags u.qE,sF false FuAround auAround cuAround u.qy]) ((l.length - (0:Int)).toNat) ⟨_,0,uE3,qf,(by exact fun j hj=>by omega),rfl,N,H⟩ ?_
 clear H N
 rintro m' ρ w2 ⟨xY,i,rfl,i0,i1,rfl,N,H⟩
 refine zcc (sps [yI i,Sv al l.length cl] (oN rfl (sp (Bv (decide ((i:Int) < l.length))) (zjn (cD rfl (fun h3=>?_) (fun h3=>?_))))))
 ·skip
  refine qW (t_n (xQ (qX (zcr (sps [Sv al l.length cl,yI i] ?_)))))
  obtain ⟨b4,o5,rfl⟩:=H.addr 0 rfl qf
  obtain ⟨ae7Alive,ce7Alive,Fe7Alive,ae7Bags,ce7Bags,Fe7Bags,ae7Around,ce7Around,Fe7Around,H⟩:=H.elem_StateD 0 rfl i i qf qf qf
  refine oI rfl rfl (sp (pp bu ou) (sw (oq (l02Same_ok _ (l[i]!) u (qF (H.get 3 rfl) 0 3) (H.get 0 rfl).1 (H.get 1 rfl).1 (H.get 2 rfl).1 (qF (H.get 5 rfl) 0 3) (H.get 6 rfl).1 (H.get 7 rfl).1 (H.get 8 rfl).1) H fun w9 H=>zjn (cD rfl (fun h11=>?_) (fun h11=>?_)))))
  ·skip
   refine zcr (sps [yI i,yI i] (zjr (zr5 (ret1 (yI i) rfl rfl ⟨_,rfl,?_,H.base⟩))))
   rw [firstIdx_some (k:=i) qf i1 (decide_eq_true ‹_›)]
  refine qW (b_n (t_n (xO (sp (yI i) (sw (zB i 1 rfl rfl qf (sp (yI (i+1)) (xM (qY (m' :=(l.length - ((i+1):Int)).toNat) qf ⟨_,i+1,uE3,?_,?_,rfl,N,H.pick [] [4,5,6,7,8]⟩)))))))))
  · omega
  · exact noneTo_succ i1 (decide_eq_false ‹_›)
 refine zx4 (zcr (sp (yI (-1)) (zjr (ret1 (yI (-1)) rfl rfl ⟨_,rfl,?_,H.base⟩))))
 rw [firstIdx_none (fun j hj=>i1 j qf)]

theorem l03Next_ok (w:World) (s:qI) (t:qH) (cs:yLL) {bs os:Nat} {qC:yOA} {qZ:yLN} {qN:yOA} {xG:yLN} {bt ot:Nat} {qV:yOA} {xR:yLN} {xm:yOA} {zC:yLN} {qL:yOA} {xC:yLN} {acs:yOA} {Fcs:yLN} (hs:vN w bs os (yS s qC qB qN qJ)) (xf:qO.rep w qZ [Sv qC s.qw.length qB] s.qw) (xJ:qO.rep w xG [Sv qN s.qx.length qJ] s.qx) (ht:vN w bt ot (yT t qV qR xm xk qL qK)) (zi:qO.rep w xR [Sv qV t.qA.length qR] t.qA) (zM:qO.rep w zC [Sv xm t.qE.length xk] t.qE) (xN:qO.rep w xC [Sv qL t.qy.length qK] t.qy) (hcs:qO.rep w Fcs [Sv acs cs.length ccs] cs) (p0:jE s) (p1:zu s t) (p2:cs.length≤1000) (p3:∀ q,q < cs.length→CntOk s (cs[q]!)):Calls Tryz.prog 111 #[pp bs os,pp bt ot,Sv acs cs.length ccs] w (Ret (fun v w' =>∃ (ra0:yOA) (rn0:Nat) (rc0:Nat) (rx0:List Value) (rF0:yLN),v=.tuple #[Sv ra0 rn0 rc0,yI ((QH s t cs).2)]∧Fresh w.heap.size [rF0]∧St w w' [rr ra0 rn0 rc0 38 3 rx0] [zf true rF0 rx0 ((QH s t cs).1)]) w):=by
 refine en func111 ntmps111 ?_
 have H:=((((((((St.start w).arg hcs).arg xN).arg zM).arg zi).V7 ht).arg xJ).arg xf).V7 hs
 have vH:=qM xf
 have jw:=qM xJ
 have Qj:=qM zi
 have Q7:=qM zM
 have jV:=qM xN
 have nhcs:=qM hcs
 clear hs xf xJ ht zi zM xN hcs
 have N:=Fresh.nil w.heap.size
 refine zcr (sps [yN,yI 0] (zjc (sw (vP H underlying47 ti38 fun b1 w2 H=>sp (Sv (aa b1 0) 0 0) (zjcc (sp (yI 0) (zjn (qX ?_))))))))
 replace H:=H.boxRow 0 rfl 3 0 rfl qj
 replace H:=H.vT (α:=qH)
 replace H:St _ _ [rr (aa b1 0) 0 0 38 3 []] [zf true [] [] ([]:List qH),atF bs os (yS s qC qB qN qJ),sF false qZ qC qB s.qw,sF false xG qN qJ s.qx,atF bt ot (yT t qV qR xm xk qL qK),sF false xR qV qR t.qA,sF false zC xm xk t.qE,sF false xC qL qK t.qy,sF false Fcs acs ccs cs]:=H
 refine zD (fun m' ρ w3=>∃ (xY:Env) (zX:yOA) (xX:Nat) (zK:Nat) (out:List qH) (Ql:List Value) (jI:yLN) (i:Nat),ρ=upd (upd (upd (upd (upd xY 0 (pp bs os)) 1 (pp bt ot)) 2 (Sv acs cs.length ccs)) 8 (Sv zX xX zK)) 9 (yI i)∧out=yc s t cs i∧((i:Int)≤cs.length)∧(NoBad s t cs i)∧m' =(cs.length - (i:Int)).toNat∧Fresh w.heap.size [jI]∧St w w3 [rr zX xX zK 38 3 Ql] [zf true jI Ql out,atF bs os (yS s qC qB qN qJ),sF false qZ qC qB s.qw,sF false xG qN qJ s.qx,atF bt ot (yT t qV qR xm xk qL qK),sF false xR qV qR t.qA,sF false zC xm xk t.qE,sF false xC qL qK t.qy,sF false Fcs acs ccs cs]) ((cs.length - (0:Int)).toNat) ⟨_,(aa b1 0),0,0,([]:List qH),[],[],0,uE5,(by rfl),qf,(by exact fun j hj=>by omega),rfl,N.emp,H⟩ ?_
 clear H N
 rintro m' ρ w4 ⟨xY,zX,xX,zK,out,Ql,jI,i,rfl,rfl,i0,i1,rfl,N,H⟩
 have hn_out:=H.zq (α:=qH) 0 rfl 0 rfl qj
 have nl:=nextTo_len (s:=s) (t:=t) (cs:=cs) i
 refine zcc (sps [yI i,Sv acs cs.length ccs] (oN rfl (sp (Bv (decide ((i:Int) < cs.length))) (zjn (cD rfl (fun h5=>?_) (fun h5=>?_))))))
 ·skip
  refine qW (t_n (xQ (qX (zcr (sps [pp bs os,pp bt ot,Sv acs cs.length ccs,yI i] ?_)))))
  obtain ⟨b6,o7,rfl⟩:=H.addr 8 rfl qf
  obtain ⟨ae9,ce9,Fe9,H⟩:=H.vV 8 rfl i i qf qf qf
  refine oI rfl rfl (oL rfl (H.xW 1 rfl 0 rfl) ?_)
  have k3:=p3 i qf
  have sz13:=H.base.size
  have lt14:=H.ltN (L:=[jI]) [2]
  refine sw (oc (l03Step_ok _ s t (cs[i]!) (qF (H.get 3 rfl) 0 3) (H.get 4 rfl).1 (H.get 5 rfl).1 (qF (H.get 6 rfl) 0 3) (H.get 7 rfl).1 (H.get 8 rfl).1 (H.get 9 rfl).1 (H.get 0 rfl).1 qg qg qg) ?_)
  rintro _ w11 ⟨ra10aAlive,rn10aAlive,rc10aAlive,ra10aBags,rn10aBags,rc10aBags,rx10aBags,rF10aBags,ra10aAround,rn10aAround,rc10aAround,rfl,M,K⟩ _
  replace N:=N.merge sz13 lt14 M
  replace H:=H.merge K M
  obtain rfl:=H.rowNB 0 rfl
  obtain rfl:=H.zq (α:=yLI) 1 rfl 0 rfl qj
  obtain rfl:=H.YX 2 rfl
  refine sps [.tuple #[.agg #[Sv ra10aAlive ((((zI s t (cs[i]!)).1).qA).length) rc10aAlive,Sv ra10aBags ((((zI s t (cs[i]!)).1).qE).length) rc10aBags,Sv ra10aAround ((((zI s t (cs[i]!)).1).qy).length) rc10aAround],yI ((zI s t (cs[i]!)).2)],.agg #[Sv ra10aAlive ((((zI s t (cs[i]!)).1).qA).length) rc10aAlive,Sv ra10aBags ((((zI s t (cs[i]!)).1).qE).length) rc10aBags,Sv ra10aAround ((((zI s t (cs[i]!)).1).qy).length) rc10aAround],yI ((zI s t (cs[i]!)).2)] (sw (zh H ti38 [yN,yN,yN] fun b18 w19 H=>?_))
  refine sw (zF H 0 [Sv ra10aAlive ((((zI s t (cs[i]!)).1).qA).length) rc10aAlive,Sv ra10aBags ((((zI s t (cs[i]!)).1).qE).length) rc10aBags,Sv ra10aAround ((((zI s t (cs[i]!)).1).qy).length) rc10aAround] sizeOf38 fun w20 H=>sp (yI ((zI s t (cs[i]!)).2)) (zjcc (sps [yI ((zI s t (cs[i]!)).2),Bv (((zI s t (cs[i]!)).2:Int) != 0)] (zjn (xE (((zI s t (cs[i]!)).2:Int) != 0) rfl (fun h21=>?_) (fun h21=>?_))))))
  ·skip
   replace h21:=bne_iff_ne.1 h21
   refine zcr (sw (vP H underlying47 ti38 fun b22 w23 H=>sps [yI ((zI s t (cs[i]!)).2),Sv (aa b22 0) 0 0,yI ((zI s t (cs[i]!)).2)] (zjr (t_r (zr5 ?_)))))
   replace H:=H.boxRow 0 rfl 3 0 rfl qj
   replace H:=H.vT (α:=qH)
   replace H:St _ _ [rr (aa b22 0) 0 0 38 3 [],.box b18 [Sv ra10aAlive ((((zI s t (cs[i]!)).1).qA).length) rc10aAlive,Sv ra10aBags ((((zI s t (cs[i]!)).1).qE).length) rc10aBags,Sv ra10aAround ((((zI s t (cs[i]!)).1).qy).length) rc10aAround] 38,rr ra10aAlive ((((zI s t (cs[i]!)).1).qA).length) rc10aAlive 4 1 ((((zI s t (cs[i]!)).1).qA).map (Value.bool)),rr ra10aBags ((((zI s t (cs[i]!)).1).qE).length) rc10aBags 22 1 rx10aBags,rr ra10aAround ((((zI s t (cs[i]!)).1).qy).length) rc10aAround 2 1 ((((zI s t (cs[i]!)).1).qy).map (Value.int .i64)),rr zX xX zK 38 3 Ql] [zf true [] [] ([]:List qH),zf true rF10aBags rx10aBags (((zI s t (cs[i]!)).1).qE),sF false Fe9 ae9 ce9 (cs[i]!),atF b6 (o7+(i:Int).toNat * 1) [Sv ae9 ((cs[i]!).length) ce9],zf true jI Ql (yc s t cs i),atF bs os (yS s qC qB qN qJ),sF false qZ qC qB s.qw,sF false xG qN qJ s.qx,atF bt ot (yT t qV qR xm xk qL qK),sF false xR qV qR t.qA,sF false zC xm xk t.qE,sF false xC qL qK t.qy,sF false Fcs (aa b6 o7) ccs cs]:=H
   refine ret2 (Sv (aa b22 0) 0 0) (yI ((zI s t (cs[i]!)).2)) rfl rfl rfl ⟨_,rfl,?_,H.base⟩
   rw [next_bad i1 qf ‹_›]
   exact ⟨(aa b22 0),0,0,[],[],rfl,(N.emp.pick [0]),H.pick [0] [0]⟩
  replace h21:=xw h21
  refine qW (t_n (zcr (sp (Sv zX xX zK) ?_)))
  obtain ⟨G24,hn25,h26⟩:=H.rowIsR (α:=qH) 4 rfl 3 rfl qj
  obtain ⟨G27,hn28,h29⟩:=H.rowIsB 1 rfl
  obtain ⟨G30,hn31,h32⟩:=H.rowIsR (α:=yLI) 2 rfl 0 rfl qj
  obtain ⟨G33,hn34,h35⟩:=H.rowIsI 3 rfl
  refine sw (oq (args_eq (by rw [← hn25]) (l03Find_ok _ (yc s t cs i) ((zI s t (cs[i]!)).1) (hn25▸h26) (qF (H.cells 0 rfl) 0 3) h29 h32 h35)) H fun w37 H=>sp (Bv (decide ((firstIdx (fun zz=>decide ((yc s t cs i)[zz]! =((zI s t (cs[i]!)).1))) (yc s t cs i).length:Int) < 0))) (zjn (cD rfl (fun h39=>?_) (fun h39=>?_))))
  ·skip
   refine xO (sp (Sv zX xX zK) (sw (zl [Sv ra10aAlive ((((zI s t (cs[i]!)).1).qA).length) rc10aAlive,Sv ra10aBags ((((zI s t (cs[i]!)).1).qE).length) rc10aBags,Sv ra10aAround ((((zI s t (cs[i]!)).1).qy).length) rc10aAround] isAgg38 sizeOf38 rfl (qF (H.cells 0 rfl) 0 3) (sw (zA H underlying47 ti38 [Sv ra10aAlive ((((zI s t (cs[i]!)).1).qA).length) rc10aAlive,Sv ra10aBags ((((zI s t (cs[i]!)).1).qE).length) rc10aBags,Sv ra10aAround ((((zI s t (cs[i]!)).1).qy).length) rc10aAround] fun b40 w41 H=>?_)))))
   obtain ⟨G45,N,hn46,H⟩:=H.freezeB 2 rfl N (H.jU [0,3])
   have H0:=H
   obtain ⟨G47,hg49,hn48,H⟩:=H.yX (α:=yLI) 3 rfl 1 rfl qj
   replace N:Fresh w.heap.size [G47,G45,jI]:=Fresh.ice (N.pick [1,0,2]) H0 3 hg49.1 hg49.2 (H0.jU [0,4])
   clear H0
   obtain ⟨G50,N,hn51,H⟩:=H.jb 4 rfl N (H.jU [0,1,5])
   refine sw (zG H 5 rfl 0 rfl underlying47 ti38 rfl qj rfl rfl rfl (by simp [Value.oneCell',Value.cells]) qp qf fun a42 c43 w44 H=>?_)
   replace H:=H.Vf 6 rfl 2 rfl 1 rfl 0 rfl
   replace N:Fresh w.heap.size [(jI++(G45++G47++G50))]:=(N.pick [2,1,0,3]).join.join.swap.join
   refine sp (Sv a42 (xX+1) c43) (xM (b_n (t_n (xO (sp (yI i) (sw (zB i 1 rfl rfl qf (sp (yI (i+1)) (xM ?_)))))))))
   refine qY (m' :=(cs.length - ((i+1):Int)).toNat) qf ⟨_,a42,xX+1,c43,((yc s t cs i)++[⟨((zI s t (cs[i]!)).1).qA,((zI s t (cs[i]!)).1).qE,((zI s t (cs[i]!)).1).qy⟩]),Ql++[Sv ra10aAlive ((((zI s t (cs[i]!)).1).qA).length) rc10aAlive,Sv ra10aBags ((((zI s t (cs[i]!)).1).qE).length) rc10aBags,Sv ra10aAround ((((zI s t (cs[i]!)).1).qy).length) rc10aAround],(jI++(G45++G47++G50)),i+1,uE5,?_,?_,?_,rfl,N,H.pick [5] [0,8,9,10,11,12,13,14,15]⟩
   · first | exact nextTo_new (find_mem.1 ql) | exact nextTo_in (Classical.byContradiction fun h=>absurd (find_mem.2 h) ql)
   · omega
   · exact i1.succ ‹_›
  refine qW (b_n (t_n (xO (sp (yI i) (sw (zB i 1 rfl rfl qf (sp (yI (i+1)) (xM (qY (m' :=(cs.length - ((i+1):Int)).toNat) qf ⟨_,zX,xX,zK,(yc s t cs i),Ql,jI,i+1,uE5,?_,?_,?_,rfl,(N.pick [1]),H.pick [4] [3,4,5,6,7,8,9,10,11]⟩)))))))))
  · first | exact nextTo_new (find_mem.1 ql) | exact nextTo_in (Classical.byContradiction fun h=>absurd (find_mem.2 h) ql)
  · omega
  · exact i1.succ ‹_›
 refine zx4 (zcr (sps [Sv zX xX zK,Sv zX xX zK,yI 0] (zjr (ret2 (Sv zX xX zK) (yI 0) rfl rfl rfl ⟨_,rfl,?_,H.base⟩))))
 rw [next_ok (fun j hj=>i1 j qf),show cs.length=i by omega]
 exact ⟨zX,xX,zK,Ql,jI,rfl,N,H.pick [0] [0]⟩

theorem sameState_ok (w:World) (a:qH) (b:qH) {aaAlive:yOA} {FaAlive:yLN} {aaBags:yOA} {FaBags:yLN} {VI:yOA} {FaAround:yLN} {abAlive:yOA} {FbAlive:yLN} {abBags:yOA} {FbBags:yLN} {VH:yOA} {FbAround:yLN} (haAlive:qO.rep w FaAlive [Sv aaAlive a.qA.length caAlive] a.qA) (haBags:qO.rep w FaBags [Sv aaBags a.qE.length caBags] a.qE) (haAround:qO.rep w FaAround [Sv VI a.qy.length VD] a.qy) (hbAlive:qO.rep w FbAlive [Sv abAlive b.qA.length cbAlive] b.qA) (hbBags:qO.rep w FbBags [Sv abBags b.qE.length cbBags] b.qE) (hbAround:qO.rep w FbAround [Sv VH b.qy.length VC] b.qy):Calls Tryz.prog 118 #[.agg #[Sv aaAlive a.qA.length caAlive,Sv aaBags a.qE.length caBags,Sv VI a.qy.length VD],.agg #[Sv abAlive b.qA.length cbAlive,Sv abBags b.qE.length cbBags,Sv VH b.qy.length VC]] w (Ret (fun v w' =>v=Bv (decide (a=b))) w):=by
 refine en func118 ntmps118 ?_
 have H:=((((((St.start w).arg hbAround).arg hbBags).arg hbAlive).arg haAround).arg haBags).arg haAlive
 have nhaAlive:=qM haAlive
 have nhaBags:=qM haBags
 have nhaAround:=qM haAround
 have nhbAlive:=qM hbAlive
 have nhbBags:=qM hbBags
 have nhbAround:=qM hbAround
 clear haAlive haBags haAround hbAlive hbBags hbAround
 have N:=Fresh.nil w.heap.size
 refine zcr (sw (vU H (yT a aaAlive caAlive aaBags caBags VI VD) fun b1 w2 H=>sw (vU H (yT b abAlive cbAlive abBags cbBags VH VC) fun b3 w4 H=>sp (Bv false) (zjc (oF rfl (oL rfl (H.cell 1 rfl rfl) (oF rfl (oL rfl (H.cell 0 rfl rfl) (sw (oq (equalB_ok _ a.qA b.qA (H.get 0 rfl).1 (H.get 3 rfl).1) H fun w6 H=>sp (Bv (decide (a.qA=b.qA))) ?_))))))))))
 cases h8:(decide (a.qA=b.qA))
 ·skip
  replace h8:=of_decide_eq_false h8
  refine zk [11,12,13,14,15] (sps [Bv false,Bv false] (zk [18,19,20,21,22] (sps [Bv false,Bv false] (zjr (ret1 (Bv false) rfl rfl ⟨_,rfl,?_,H.base⟩)))))
  rw [decide_eq_false (fun e=>by subst e;first | omega | exact absurd rfl ql | simp_all)]
 replace h8:=of_decide_eq_true h8
 refine qQ 10 rfl rfl (oF rfl (qQ 10 rfl rfl (oL rfl (H.cell 1 rfl rfl) (qQ 10 rfl rfl (oF rfl (qQ 10 rfl rfl (oL rfl (H.cell 0 rfl rfl) (qQ 10 rfl rfl (sw (vJ #[Sv aaBags a.qE.length caBags,Sv abBags b.qE.length cbBags,.func (.func 96) #[] #[]] rfl rfl call149 (en func149 ntmps149 ?_)))))))))))
 refine zcr (sp (Bv false) (zjcc (sp (Sv aaBags a.qE.length caBags) (oN rfl (sp (Sv abBags b.qE.length cbBags) (oN rfl (sp (Bv ((a.qE.length:Int) != b.qE.length)) (zjn (xE ((a.qE.length:Int) != b.qE.length) rfl (fun h9=>?_) (fun h9=>?_))))))))))
 ·skip
  replace h9:=bne_iff_ne.1 h9
  refine zcr (sp (Bv false) (zjr (t_r (ret1 (Bv false) rfl rfl ⟨_,rfl,(sps [Bv false,Bv false] (zk [18,19,20,21,22] (sps [Bv false,Bv false] (zjr (ret1 (Bv false) rfl rfl ⟨_,rfl,?_,H.base⟩)))))⟩))))
  rw [decide_eq_false (fun e=>by subst e;first | omega | exact absurd rfl ql | simp_all)]
 replace h9:=xw h9
 refine qW (t_n (zcc (sp (Sv aaBags a.qE.length caBags) (oN rfl (sp (yI 0) (zjn (qX ?_)))))))
 refine zD (fun m' ρ w10=>∃ (xY:Env) (i:Nat),ρ=upd (upd (upd (upd (upd xY 1 (Sv abBags b.qE.length cbBags)) 2 (.func (.func 96) #[] #[])) 15 (Sv aaBags a.qE.length caBags)) 16 (yI a.qE.length)) 17 (yI i)∧((i:Int)≤a.qE.length)∧(a.qE.take i=b.qE.take i)∧m' =(a.qE.length - (i:Int)).toNat∧Fresh w.heap.size []∧St w w10 [.box b3 (yT b abAlive cbAlive abBags cbBags VH VC) 38,.box b1 (yT a aaAlive caAlive aaBags caBags VI VD) 38] [sF false FaAlive aaAlive caAlive a.qA,sF false FaBags aaBags caBags a.qE,sF false FaAround VI VD a.qy,sF false FbAlive abAlive cbAlive b.qA,sF false FbBags abBags cbBags b.qE,sF false FbAround VH VC b.qy]) ((a.qE.length - (0:Int)).toNat) ⟨_,0,uE5,qf,(by rfl),rfl,N,H⟩ ?_
 clear H N
 rintro m' ρ w11 ⟨xY,i,rfl,i0,i2,rfl,N,H⟩
 refine zcr (sp (Bv (decide ((i:Int) < a.qE.length))) (zjn (xQ (cD rfl (fun h12=>?_) (fun h12=>?_)))))
 ·skip
  refine qW (t_n (xQ (qX (zcr (sp (yI i) ?_)))))
  obtain ⟨b13,o14,rfl⟩:=H.addr 1 rfl qf
  obtain ⟨ae16,ce16,Fe16,H⟩:=H.vV 1 rfl i i qf qf qf
  refine oI rfl rfl (oL rfl (H.xW 1 rfl 0 rfl) (sps [yI i,Sv ae16 ((a.qE[i]!).length) ce16] (zjc (sps [Sv abBags b.qE.length cbBags,yI i] ?_))))
  obtain ⟨b17,o18,rfl⟩:=H.addr 6 rfl qf
  obtain ⟨ae20,ce20,Fe20,H⟩:=H.vV 6 rfl i i qf qf qf
  refine oI rfl rfl (oL rfl (H.xW 1 rfl 0 rfl) (sp (Sv ae20 ((b.qE[i]!).length) ce20) (zjc (sps [.func (.func 96) #[] #[],Sv ae16 ((a.qE[i]!).length) ce16,Sv ae20 ((b.qE[i]!).length) ce20] (sw (oq (equalI_ok _ (a.qE[i]!) (b.qE[i]!) (H.get 2 rfl).1 (H.get 0 rfl).1) H fun w22 H=>sp (Bv (!(decide ((a.qE[i]!)=(b.qE[i]!))))) (zjn (xE (!(decide ((a.qE[i]!)=(b.qE[i]!)))) rfl (fun h24=>?_) (fun h24=>?_)))))))))
  ·skip
   replace h24:=xq h24
   replace h24:=of_decide_eq_false h24
   refine zcr (sp (Bv false) (zjr (zr5 (ret1 (Bv false) rfl rfl ⟨_,rfl,(sps [Bv false,Bv false] (zk [18,19,20,21,22] (sps [Bv false,Bv false] (zjr (ret1 (Bv false) rfl rfl ⟨_,rfl,?_,H.base⟩)))))⟩))))
   rw [decide_eq_false (fun e=>by subst e;first | omega | exact absurd rfl ql | simp_all)]
  replace h24:=xg h24
  replace h24:=of_decide_eq_true h24
  refine qW (b_n (t_n (xO (sw (zB i 1 rfl rfl qf (sp (yI (i+1)) (xM (qY (m' :=(a.qE.length - ((i+1):Int)).toNat) qf ⟨_,i+1,uE5,?_,?_,rfl,N,H.pick [0,1] [4,5,6,7,8,9]⟩))))))))
  · omega
  · exact XD qf qf i2 ql
 refine zx4 (zcr (sp (Bv true) (zjr (ret1 (Bv true) rfl rfl ⟨_,rfl,(sps [Bv true,Bv true] (qQ 17 rfl rfl (oF rfl (qQ 17 rfl rfl (oL rfl (H.cell 1 rfl rfl) (qQ 17 rfl rfl (oF rfl (qQ 17 rfl rfl (oL rfl (H.cell 0 rfl rfl) (qQ 17 rfl rfl (sw (oq (equalI_ok _ a.qy b.qy (H.get 2 rfl).1 (H.get 5 rfl).1) H fun w26 H=>sps [Bv (decide (a.qy=b.qy)),Bv (decide (a.qy=b.qy))] (zjr (ret1 (Bv (decide (a.qy=b.qy))) rfl rfl ⟨_,rfl,?_,H.base⟩))))))))))))))⟩))))
 rw [show decide (a=b)=decide (a.qy=b.qy) from decide_eq_decide.2 ⟨fun e=>by rw [e],fun e=>state_eq ql (jy (k:=i) qf qf i2) e⟩]

theorem behind_ok (w:World) (s:qI) (t:qH) (cs:yLL) {qC:yOA} {qZ:yLN} {qN:yOA} {xG:yLN} {qV:yOA} {xR:yLN} {xm:yOA} {zC:yLN} {qL:yOA} {xC:yLN} {acs:yOA} {Fcs:yLN} (xf:qO.rep w qZ [Sv qC s.qw.length qB] s.qw) (xJ:qO.rep w xG [Sv qN s.qx.length qJ] s.qx) (zi:qO.rep w xR [Sv qV t.qA.length qR] t.qA) (zM:qO.rep w zC [Sv xm t.qE.length xk] t.qE) (xN:qO.rep w xC [Sv qL t.qy.length qK] t.qy) (hcs:qO.rep w Fcs [Sv acs cs.length ccs] cs) (p0:jE s) (p1:zu s t) (p2:cs.length≤1000) (p3:∀ q,q < cs.length→CntOk s (cs[q]!)) (p4:∀ q,q < cs.length→IsCh s t (cs[q]!)):Calls Tryz.prog 113 #[.agg #[yI s.xB,Sv qC s.qw.length qB,Sv qN s.qx.length qJ],.agg #[Sv qV t.qA.length qR,Sv xm t.qE.length xk,Sv qL t.qy.length qK],Sv acs cs.length ccs] w (Ret (fun v w' =>∃ (ra0:yOA) (rn0:Nat) (rc0:Nat) (rx0:List Value) (rF0:yLN),v=.tuple #[Sv ra0 rn0 rc0,yI ((QH s t cs).2)]∧Fresh w.heap.size [rF0]∧St w w' [rr ra0 rn0 rc0 38 3 rx0] [zf true rF0 rx0 ((QH s t cs).1)]) w):=by
 refine en func113 ntmps113 ?_
 have H:=((((((St.start w).arg hcs).arg xN).arg zM).arg zi).arg xJ).arg xf
 have vH:=qM xf
 have jw:=qM xJ
 have Qj:=qM zi
 have Q7:=qM zM
 have jV:=qM xN
 have nhcs:=qM hcs
 clear xf xJ zi zM xN hcs
 have N:=Fresh.nil w.heap.size
 refine zcr (sw (vU H (yS s qC qB qN qJ) fun b1 w2 H=>sw (vU H (yT t qV qR xm xk qL qK) fun b3 w4 H=>sps [yN,yI 0] (zjc (sw (vP H underlying47 ti38 fun b5 w6 H=>sp (Sv (aa b5 0) 0 0) (zjcc (sp (Sv acs cs.length ccs) (oN rfl (sp (yI 0) (zjn (qX ?_))))))))))))
 replace H:=H.boxRow 0 rfl 3 0 rfl qj
 replace H:=H.vT (α:=qH)
 replace H:St _ _ [rr (aa b5 0) 0 0 38 3 [],.box b3 (yT t qV qR xm xk qL qK) 38,.box b1 (yS s qC qB qN qJ) 36] [zf true [] [] ([]:List qH),sF false qZ qC qB s.qw,sF false xG qN qJ s.qx,sF false xR qV qR t.qA,sF false zC xm xk t.qE,sF false xC qL qK t.qy,sF false Fcs acs ccs cs]:=H
 refine zD (fun m' ρ w7=>∃ (xY:Env) (zX:yOA) (xX:Nat) (zK:Nat) (out:List qH) (Ql:List Value) (jI:yLN) (k:Nat),ρ=upd (upd (upd (upd (upd (upd xY 3 (pp b1 0)) 4 (pp b3 0)) 8 (Sv zX xX zK)) 14 (Sv acs cs.length ccs)) 15 (yI cs.length)) 16 (yI k)∧out=yc s t cs k∧((k:Int)≤cs.length)∧(NoBad s t cs k)∧m' =(cs.length - (k:Int)).toNat∧Fresh w.heap.size [jI]∧St w w7 [rr zX xX zK 38 3 Ql,.box b3 (yT t qV qR xm xk qL qK) 38,.box b1 (yS s qC qB qN qJ) 36] [zf true jI Ql out,sF false qZ qC qB s.qw,sF false xG qN qJ s.qx,sF false xR qV qR t.qA,sF false zC xm xk t.qE,sF false xC qL qK t.qy,sF false Fcs acs ccs cs]) ((cs.length - (0:Int)).toNat) ⟨_,(aa b5 0),0,0,([]:List qH),[],[],0,uE6,(by rfl),qf,(by exact fun j hj=>by omega),rfl,N.emp,H⟩ ?_
 clear H N
 rintro m' ρ w8 ⟨xY,zX,xX,zK,out,Ql,jI,k,rfl,rfl,i0,i1,rfl,N,H⟩
 have hn_out:=H.zq (α:=qH) 0 rfl 0 rfl qj
 have nl:=nextTo_len (s:=s) (t:=t) (cs:=cs) k
 refine zcr (sp (Bv (decide ((k:Int) < cs.length))) (zjn (xQ (cD rfl (fun h9=>?_) (fun h9=>?_)))))
 ·skip
  refine qW (t_n (xQ (qX (zcr ?_))))
  obtain ⟨b10,o11,rfl⟩:=H.addr 6 rfl qf
  obtain ⟨ae13,ce13,Fe13,H⟩:=H.vV 6 rfl k k qf qf qf
  refine oI rfl rfl (oL rfl (H.xW 1 rfl 0 rfl) (sp (Sv ae13 ((cs[k]!).length) ce13) (zjc (sw (zl (yS s qC qB qN qJ) isAgg36 sizeOf36 rfl (qF (H.cells 2 rfl) 0 3) (sw (zl (yT t qV qR xm xk qL qK) isAgg38 sizeOf38 rfl (qF (H.cells 1 rfl) 0 3) (sp (Sv ae13 ((cs[k]!).length) ce13) ?_))))))))
  have k3:=p3 k qf
  have k5:=p4 k qf
  have sz17:=H.base.size
  have lt18:=H.ltN (L:=[jI]) [2]
  refine sw (oc (step_ok _ s t (cs[k]!) (H.get 3 rfl).1 (H.get 4 rfl).1 (H.get 5 rfl).1 (H.get 6 rfl).1 (H.get 7 rfl).1 (H.get 0 rfl).1 qg qg qg qg) ?_)
  rintro _ w15 ⟨ra14aAlive,rn14aAlive,rc14aAlive,ra14aBags,rn14aBags,rc14aBags,rx14aBags,rF14aBags,ra14aAround,rn14aAround,rc14aAround,rfl,M,K⟩ _
  replace N:=N.merge sz17 lt18 M
  replace H:=H.merge K M
  obtain rfl:=H.rowNB 0 rfl
  obtain rfl:=H.zq (α:=yLI) 1 rfl 0 rfl qj
  obtain rfl:=H.YX 2 rfl
  refine sps [.tuple #[.agg #[Sv ra14aAlive ((((zI s t (cs[k]!)).1).qA).length) rc14aAlive,Sv ra14aBags ((((zI s t (cs[k]!)).1).qE).length) rc14aBags,Sv ra14aAround ((((zI s t (cs[k]!)).1).qy).length) rc14aAround],yI ((zI s t (cs[k]!)).2)],.agg #[Sv ra14aAlive ((((zI s t (cs[k]!)).1).qA).length) rc14aAlive,Sv ra14aBags ((((zI s t (cs[k]!)).1).qE).length) rc14aBags,Sv ra14aAround ((((zI s t (cs[k]!)).1).qy).length) rc14aAround],yI ((zI s t (cs[k]!)).2)] (sw (zh H ti38 [yN,yN,yN] fun b22 w23 H=>?_))
  refine sw (zF H 0 [Sv ra14aAlive ((((zI s t (cs[k]!)).1).qA).length) rc14aAlive,Sv ra14aBags ((((zI s t (cs[k]!)).1).qE).length) rc14aBags,Sv ra14aAround ((((zI s t (cs[k]!)).1).qy).length) rc14aAround] sizeOf38 fun w24 H=>sp (yI ((zI s t (cs[k]!)).2)) (zjcc (sps [yI ((zI s t (cs[k]!)).2),Bv (((zI s t (cs[k]!)).2:Int) != 0)] (zjn (xE (((zI s t (cs[k]!)).2:Int) != 0) rfl (fun h25=>?_) (fun h25=>?_))))))
  ·skip
   replace h25:=bne_iff_ne.1 h25
   refine zcr (sps [yI ((zI s t (cs[k]!)).2),yN,yI ((zI s t (cs[k]!)).2)] (zjr (t_r (zr5 ?_))))
   replace H:=H.nilRow 38 3
   replace H:=H.vT (α:=qH)
   refine ret2 yN (yI ((zI s t (cs[k]!)).2)) rfl rfl rfl ⟨_,rfl,?_,H.base⟩
   rw [next_bad i1 qf ‹_›]
   exact ⟨none,0,0,[],[],rfl,(N.emp.pick [0]),H.pick [0] [0]⟩
  replace h25:=xw h25
  refine qW (t_n (zcr (sps [Sv zX xX zK,.func (.func 147) #[] #[pp b22 0]] (sw (vJ #[Sv zX xX zK,.func (.func 147) #[] #[pp b22 0]] rfl rfl call146 (en func146 ntmps146 ?_))))))
  refine zcr (sp (Bv false) (zjc (sps [Sv zX xX zK,.func (.func 147) #[] #[pp b22 0]] (sw (vJ #[Sv zX xX zK,.func (.func 147) #[] #[pp b22 0]] rfl rfl call116 (en func116 ntmps116 ?_))))))
  refine zcr (sp (yI 0) (zjcc (sp (Sv zX xX zK) (oN rfl (sp (yI 0) (zjn (qX ?_)))))))
  refine zD (fun m' ρ w26=>∃ (xY:Env) (i:Nat),ρ=upd (upd (upd (upd xY 0 (Sv zX xX zK)) 1 (.func (.func 147) #[] #[pp b22 0])) 7 (yI xX)) 8 (yI i)∧((i:Int)≤xX)∧(NotIn (yc s t cs k) (zI s t (cs[k]!)).1 i)∧m' =(xX - (i:Int)).toNat∧Fresh w.heap.size [rF14aBags,jI]∧St w w26 [.box b22 [Sv ra14aAlive ((((zI s t (cs[k]!)).1).qA).length) rc14aAlive,Sv ra14aBags ((((zI s t (cs[k]!)).1).qE).length) rc14aBags,Sv ra14aAround ((((zI s t (cs[k]!)).1).qy).length) rc14aAround] 38,rr ra14aAlive ((((zI s t (cs[k]!)).1).qA).length) rc14aAlive 4 1 ((((zI s t (cs[k]!)).1).qA).map (Value.bool)),rr ra14aBags ((((zI s t (cs[k]!)).1).qE).length) rc14aBags 22 1 rx14aBags,rr ra14aAround ((((zI s t (cs[k]!)).1).qy).length) rc14aAround 2 1 ((((zI s t (cs[k]!)).1).qy).map (Value.int .i64)),rr zX xX zK 38 3 Ql,.box b3 (yT t qV qR xm xk qL qK) 38,.box b1 (yS s qC qB qN qJ) 36] [zf true rF14aBags rx14aBags (((zI s t (cs[k]!)).1).qE),sF false Fe13 ae13 ce13 (cs[k]!),atF b10 (o11+(k:Int).toNat * 1) [Sv ae13 ((cs[k]!).length) ce13],zf true jI Ql (yc s t cs k),sF false qZ qC qB s.qw,sF false xG qN qJ s.qx,sF false xR qV qR t.qA,sF false zC xm xk t.qE,sF false xC qL qK t.qy,sF false Fcs (aa b10 o11) ccs cs]) ((xX - (0:Int)).toNat) ⟨_,0,uE4,qf,(by exact fun j hj=>by omega),rfl,N,H⟩ ?_
  clear H N
  rintro m' ρ w27 ⟨xY,i,rfl,i0,i2,rfl,N,H⟩
  refine zcr (sp (Bv (decide ((i:Int) < xX))) (zjn (xQ (cD rfl (fun h28=>?_) (fun h28=>?_)))))
  ·skip
   refine qW (t_n (xQ (qX (zcr (sps [yI i,yI i] (zjc (sps [.func (.func 147) #[] #[pp b22 0],Sv zX xX zK,yI i] ?_)))))))
   obtain ⟨b29,rfl⟩:=H.Qn 4 rfl qf
   obtain ⟨ae30Alive,ce30Alive,Fe30Alive,ae30Bags,ce30Bags,Fe30Bags,ae30Around,ce30Around,Fe30Around,hx31,H⟩:=H.rowel_StateD 4 rfl 3 rfl (iv:=i) i qf qf
   refine oI rfl rfl (sw (zl [Sv ae30Alive ((((yc s t cs k)[i]!).qA).length) ce30Alive,Sv ae30Bags ((((yc s t cs k)[i]!).qE).length) ce30Bags,Sv ae30Around ((((yc s t cs k)[i]!).qy).length) ce30Around] isAgg38 sizeOf38 rfl (qF (fun j v hj=>H.rowGet 4 rfl (hx31 j v hj)) 0 3) (sw (vJ #[.agg #[Sv ae30Alive ((((yc s t cs k)[i]!).qA).length) ce30Alive,Sv ae30Bags ((((yc s t cs k)[i]!).qE).length) ce30Bags,Sv ae30Around ((((yc s t cs k)[i]!).qy).length) ce30Around],pp b22 0] rfl rfl call147 (en func147 ntmps147 ?_)))))
   refine zcr (sw (vU H [Sv ae30Alive ((((yc s t cs k)[i]!).qA).length) ce30Alive,Sv ae30Bags ((((yc s t cs k)[i]!).qE).length) ce30Bags,Sv ae30Around ((((yc s t cs k)[i]!).qy).length) ce30Around] fun b32 w33 H=>sp (Bv false) (zjc (sw (zl [Sv ae30Alive ((((yc s t cs k)[i]!).qA).length) ce30Alive,Sv ae30Bags ((((yc s t cs k)[i]!).qE).length) ce30Bags,Sv ae30Around ((((yc s t cs k)[i]!).qy).length) ce30Around] isAgg38 sizeOf38 rfl (qF (H.cells 0 rfl) 0 3) ?_)))))
   refine sw (zl [Sv ra14aAlive ((((zI s t (cs[k]!)).1).qA).length) rc14aAlive,Sv ra14aBags ((((zI s t (cs[k]!)).1).qE).length) rc14aBags,Sv ra14aAround ((((zI s t (cs[k]!)).1).qy).length) rc14aAround] isAgg38 sizeOf38 rfl (qF (H.cells 1 rfl) 0 3) ?_)
   obtain ⟨G34,hn35,h36⟩:=H.rowIsB 2 rfl
   obtain ⟨G37,hn38,h39⟩:=H.rowIsR (α:=yLI) 3 rfl 3 rfl qj
   obtain ⟨G40,hn41,h42⟩:=H.rowIsI 4 rfl
   refine sw (oq (sameState_ok _ ((yc s t cs k)[i]!) ((zI s t (cs[k]!)).1) (H.get 0 rfl).1 (H.get 1 rfl).1 (H.get 2 rfl).1 h36 h39 h42) H fun w44 H=>sp (Bv (decide (((yc s t cs k)[i]!)=((zI s t (cs[k]!)).1)))) (zjr (ret1 (Bv (decide (((yc s t cs k)[i]!)=((zI s t (cs[k]!)).1)))) rfl rfl ⟨_,rfl,?_⟩)))
   replace H:=H.erases [0]
   dsimp only [vS,List.eraseIdx] at H
   refine zjn (cD rfl (fun h46=>?_) (fun h46=>?_))
   ·skip
    refine zcr (sps [yI i,yI i] (zjr (zr5 (ret1 (yI i) rfl rfl ⟨_,rfl,(sw (o_pure (Bv true) (by show some (Value.bool (decide ((i:Int)≥0)))=some (Value.bool true);rw [decide_eq_true qf]) (sp (Bv true) (zjr (ret1 (Bv true) rfl rfl ⟨_,rfl,(sp (Bv false) (zjn (xE false rfl (fun h=>absurd h qj) (fun _=>qW (b_n (t_n (xO (sw (zB k 1 rfl rfl qf (sp (yI (k+1)) (xM ?_)))))))))))⟩)))))⟩))))
    refine qY (m' :=(cs.length - ((k+1):Int)).toNat) qf ⟨_,(aa b29 0),xX,zK,(yc s t cs k),Ql,jI,k+1,uE6,?_,?_,?_,rfl,(N.pick [1]),H.pick [4,5,6] [6,7,8,9,10,11,12]⟩
    · first | exact nextTo_new (NotIn.out (fun j hj=>i2 j qf)) | exact nextTo_in (mem_at (k:=i) qf ql)
    · omega
    · exact i1.succ ‹_›
   refine qW (b_n (t_n (xO (sw (zB i 1 rfl rfl qf (sp (yI (i+1)) (xM (qY (m' :=(xX - ((i+1):Int)).toNat) qf ⟨_,i+1,uE4,?_,?_,rfl,N,H.pick [0,1,2,3,4,5,6] [3,4,5,6,7,8,9,10,11,12]⟩))))))))
   · omega
   · exact i2.succ ‹_›
  refine zx4 (zcr (sp (yI (-1)) (zjr (ret1 (yI (-1)) rfl rfl ⟨_,rfl,(sps [Bv false,Bv false] (zjr (ret1 (Bv false) rfl rfl ⟨_,rfl,(sp (Bv true) (zjn (xE true rfl (fun _=>xO (sp (Sv zX xX zK) (sw (zl [Sv ra14aAlive ((((zI s t (cs[k]!)).1).qA).length) rc14aAlive,Sv ra14aBags ((((zI s t (cs[k]!)).1).qE).length) rc14aBags,Sv ra14aAround ((((zI s t (cs[k]!)).1).qy).length) rc14aAround] isAgg38 sizeOf38 rfl (qF (H.cells 0 rfl) 0 3) ?_)))) (fun h=>absurd h qj))))⟩)))⟩))))
  refine sw (zA H underlying47 ti38 [Sv ra14aAlive ((((zI s t (cs[k]!)).1).qA).length) rc14aAlive,Sv ra14aBags ((((zI s t (cs[k]!)).1).qE).length) rc14aBags,Sv ra14aAround ((((zI s t (cs[k]!)).1).qy).length) rc14aAround] fun b47 w48 H=>?_)
  obtain ⟨G52,N,hn53,H⟩:=H.freezeB 2 rfl N (H.jU [0,3])
  have H0:=H
  obtain ⟨G54,hg56,hn55,H⟩:=H.yX (α:=yLI) 3 rfl 1 rfl qj
  replace N:Fresh w.heap.size [G54,G52,jI]:=Fresh.ice (N.pick [1,0,2]) H0 3 hg56.1 hg56.2 (H0.jU [0,4])
  clear H0
  obtain ⟨G57,N,hn58,H⟩:=H.jb 4 rfl N (H.jU [0,1,5])
  refine sw (zG H 5 rfl 0 rfl underlying47 ti38 rfl qj rfl rfl rfl (by simp [Value.oneCell',Value.cells]) qp qf fun a49 c50 w51 H=>?_)
  replace H:=H.Vf 6 rfl 2 rfl 1 rfl 0 rfl
  replace N:Fresh w.heap.size [(jI++(G52++G54++G57))]:=(N.pick [2,1,0,3]).join.join.swap.join
  refine sp (Sv a49 (xX+1) c50) (xM (b_n (t_n (xO (sw (zB k 1 rfl rfl qf (sp (yI (k+1)) (xM ?_))))))))
  refine qY (m' :=(cs.length - ((k+1):Int)).toNat) qf ⟨_,a49,xX+1,c50,((yc s t cs k)++[⟨((zI s t (cs[k]!)).1).qA,((zI s t (cs[k]!)).1).qE,((zI s t (cs[k]!)).1).qy⟩]),Ql++[Sv ra14aAlive ((((zI s t (cs[k]!)).1).qA).length) rc14aAlive,Sv ra14aBags ((((zI s t (cs[k]!)).1).qE).length) rc14aBags,Sv ra14aAround ((((zI s t (cs[k]!)).1).qy).length) rc14aAround],(jI++(G52++G54++G57)),k+1,uE6,?_,?_,?_,rfl,N,H.pick [5,6,7] [0,8,9,10,11,12,13]⟩
  · first | exact nextTo_new (NotIn.out (fun j hj=>i2 j qf)) | exact nextTo_in (mem_at (k:=i) qf ql)
  · omega
  · exact i1.succ ‹_›
 refine zx4 (zcr (sps [Sv zX xX zK,Sv zX xX zK,yI 0] (zjr (ret2 (Sv zX xX zK) (yI 0) rfl rfl rfl ⟨_,rfl,?_,H.base⟩))))
 rw [next_ok (fun j hj=>i1 j qf),show cs.length=k by omega]
 exact ⟨zX,xX,zK,Ql,jI,rfl,N,H.pick [0] [0]⟩
end
section
open Go.RowKit
set_option linter.unusedVariables false
set_option linter.unusedSimpArgs false
set_option maxRecDepth 100000
set_option maxHeartbeats 4000000
def X9 (l:yLL):Nat→yLN
  | 0=>[]
  | j+1=>if 0 < j∧l[j]! =l[j - 1]! then X9 l j else X9 l j++[j]
def compL (l:yLL):yLL:=(X9 l l.length).map fun i=>l[i]!
def cvals (xs:List Value) (l:yLL) (j:Nat):List Value:=(X9 l j).map (fun i=>xs[i]!)++xs.drop (X9 l j).length
theorem keepI_lt {l:yLL}:∀ j,∀ i∈X9 l j,i < j
  | 0,i,h=>by simp [X9] at h
  | j+1,i,h=>by
    rw [X9] at h
    split at h
    · have:=keepI_lt j i h;omega
    · rcases List.mem_append.1 h with h | h
      · have:=keepI_lt j i h;omega
      · have:=List.mem_singleton.1 h;omega
theorem keepI_all {l:yLL}:∀ j,(∀ i,0 < i→i < j→¬ l[i]! =l[i - 1]!)→X9 l j=List.range j
  | 0,_=>rfl
  | j+1,h=>by rw [X9,if_neg (fun e=>h j e.1 qf e.2),keepI_all j (fun i a b=>h i a qf),List.range_succ]
theorem range_get {α:Type} [Inhabited α] {xs:List α}:∀ j,j≤xs.length→(List.range j).map (fun i=>xs[i]!)=xs.take j
  | 0,_=>rfl
  | j+1,h=>by rw [List.range_succ,List.map_append,range_get j qf];exact take_snoc qf
theorem cvals_all {xs:List Value} {l:yLL} {j:Nat} (hj:j≤xs.length) (h:∀ i,0 < i→i < j→¬ l[i]! =l[i - 1]!):cvals xs l j=xs:=by
  unfold cvals;rw [keepI_all j h,range_get j hj,List.length_range,List.take_append_drop]
theorem cvals_get {xs:List Value} {l:yLL} {j p:Nat} (h:(X9 l j).length≤p):(cvals xs l j)[p]? =xs[p]? :=by
  unfold cvals
  rw [List.getElem?_append_right (by simpa using h),List.length_map,List.getElem?_drop]
  congr 1;omega
theorem cvals_skip {xs:List Value} {l:yLL} {j:Nat} (h:0 < j∧l[j]! =l[j - 1]!):cvals xs l (j+1)=cvals xs l j∧(X9 l (j+1)).length=(X9 l j).length:=by
  unfold cvals;rw [X9,if_pos h];exact ⟨rfl,rfl⟩
theorem cvals_keep {xs:List Value} {l:yLL} {j:Nat} (h:¬ l[j]! =l[j - 1]!) (hq:(X9 l j).length < xs.length):(cvals xs l j).set (X9 l j).length (xs[j]!)=cvals xs l (j+1)∧(X9 l (j+1)).length=(X9 l j).length+1:=by
  unfold cvals;rw [X9,if_neg (fun e=>h e.2)]
  refine ⟨?_,by simp⟩
  rw [List.set_append_right _ _ qm,List.length_map,Nat.sub_self,List.drop_eq_getElem_cons hq,List.set_cons_zero,List.map_append,List.length_append,List.append_assoc];rfl
theorem cvals_end {xs:List Value} {l:yLL} {j m:Nat} (hm:(X9 l j).length=m) (ys:List Value):((cvals xs l j).take m++ys).take m=(X9 l j).map fun i=>xs[i]! :=by
  subst hm
  unfold cvals
  rw [List.take_append_of_le_length qm,List.take_take,Nat.min_self,List.take_append_of_le_length qm,List.take_of_length_le qm]
theorem reps_subl {α:Type} [qO α] (h1:qO.size α=1) {w:World}:∀ {zs' zs:List (Value×α)},zs'.Sublist zs→∀ {F:yLN},reps w F (zs.map Prod.fst) (zs.map Prod.snd)→∃ F',F'.Sublist F∧reps w F' (zs'.map Prod.fst) (zs'.map Prod.snd):=by
  intro zs' zs hs
  induction hs with
  | slnil=>intro F h;exact ⟨F,.refl _,h⟩
  | cons a s ih=>
    intro F h
    obtain ⟨F1,F2,c1,c2,hF,hv,h2,h3⟩:=h
    have hl:=qO.len h2
    rw [h1] at hl
    obtain ⟨u,rfl⟩:=List.length_eq_one_iff.1 hl
    simp only [List.map_cons,List.singleton_append,List.cons.injEq] at hv
    obtain ⟨_,rfl⟩:=hv
    obtain ⟨F',a1,a2⟩:=ih h3
    exact ⟨F',hF▸a1.trans (List.sublist_append_right ..),a2⟩
  | cons_cons a s ih=>
    intro F h
    obtain ⟨F1,F2,c1,c2,hF,hv,h2,h3⟩:=h
    have hl:=qO.len h2
    rw [h1] at hl
    obtain ⟨u,rfl⟩:=List.length_eq_one_iff.1 hl
    simp only [List.map_cons,List.singleton_append,List.cons.injEq] at hv
    obtain ⟨hu,rfl⟩:=hv
    obtain ⟨F',a1,a2⟩:=ih h3
    exact ⟨F1++F',hF▸List.Sublist.append (.refl _) a1,F1,F',[u],_,rfl,by rw [List.map_cons,hu];rfl,h2,a2⟩
theorem keep_subl {β:Type} [Inhabited β] {zs:List β} (l:yLL):∀ j,j≤zs.length→((X9 l j).map (fun i=>zs[i]!)).Sublist (zs.take j)
  | 0,_=>by simp [X9]
  | j+1,h=>by
    have ih:=keep_subl (zs:=zs) l j qf
    rw [← take_snoc qf,X9]
    split
    · exact ih.trans (List.sublist_append_left ..)
    · rw [List.map_append];exact List.Sublist.append ih (.refl _)
theorem compReps {w:World} {F:yLN} {xs:List Value} {l:yLL} (hr:reps w F xs l):∃ F',F'.Sublist F∧reps w F' ((X9 l l.length).map fun i=>xs[i]!) (compL l):=by
  have hxl:xs.length=l.length:=by have:=XU hr;simpa [qO.size] using this
  have hz:(xs.zip l).length=l.length:=by simp [hxl]
  have hs:=keep_subl (zs:=xs.zip l) l l.length qf
  rw [List.take_of_length_le qf] at hs
  have hr' :reps w F ((xs.zip l).map Prod.fst) ((xs.zip l).map Prod.snd):=by rw [zip_fst hxl,zip_snd hxl];exact hr
  obtain ⟨F',a,b⟩:=reps_subl (α:=yLI) rfl hs hr'
  refine ⟨F',a,?_⟩
  have e1:∀ i,i < l.length→(xs.zip l)[i]! =(xs[i]!,l[i]!):=fun i hi=>by
    rw [getElem!_pos _ i qf,getElem!_pos xs i qf,getElem!_pos l i hi,List.getElem_zip]
  rw [List.map_map,List.map_map] at b
  have e2:(X9 l l.length).map (Prod.fst ∘ fun i=>(xs.zip l)[i]!)=(X9 l l.length).map fun i=>xs[i]! :=List.map_congr_left fun i hi=>by show ((xs.zip l)[i]!).1=_;rw [e1 i (keepI_lt _ i hi)]
  have e3:(X9 l l.length).map (Prod.snd ∘ fun i=>(xs.zip l)[i]!)=compL l:=List.map_congr_left fun i hi=>by show ((xs.zip l)[i]!).2=_;rw [e1 i (keepI_lt _ i hi)]
  rwa [e2,e3] at b

section
variable {P : Program} {Q : Exit → Act → World → Prop} {n : Nat} {ρ : Env} {W0 w : World} {ps : List Prv} {Γ : List Fact}
  {d:Nat} {op:Op} {ty:TypeId} {pos:String} {af:Array Edge} {K:Env→World→Prop}
theorem St.rowCut (H:St W0 w ps Γ) (k:Nat) {b c:Nat} {e:TypeId} {nn:Nat} {xs:List Value} (hp:ps[k]? =some (.row (Sv (some ⟨b,0,none⟩) nn c) e 1 nn xs)) (m:Nat) (hm:m≤nn):
    St W0 w (ps.set k (.row (Sv (some ⟨b,0,none⟩) m c) e 1 m (xs.take m))) Γ:=
  H.turn k hp (fun h=>by
    have h:w.ownsRow W0.heap.size e 1 (Sv (some ⟨b,0,none⟩) nn c) nn xs:=h
    obtain ⟨hl,h | ⟨g,cap,cur,hv,hB,hg,hn,hmx,hcs,ht⟩⟩:=h
    · simp at h
    · simp only [Value.slice.injEq] at hv
      obtain ⟨hv1,_,hv3⟩:=hv
      refine ⟨by rw [List.length_take];omega,Or.inr ⟨g,cap,cur,by rw [hv1,hv3],hB,hg,by omega,hmx,hcs,?_⟩⟩
      rw [← ht,List.take_take];congr 1;omega) rfl
theorem o_none {w' :World} (v:Value) (h:(execOp (ev n ρ) ⟨none,op,ty,pos,af,none⟩).run P w=.ok (.value v) w') (k:K ρ w'):OW P Q ⟨none,op,ty,pos,af,none⟩ n ρ w K:=by
  unfold OW
  intro K' hK
  unfold Oper.wp
  rw [XM,h]
  exact hK _ _ k
theorem o_from {x y:Operand} {t e:TypeId} {z:Value} {by' b off m c:Nat} (kk:Nat) (hu:P.underlying t=some (.slice e)) (he:TI P e z 1 by') (hx:ev n ρ x=Sv (some ⟨b,off,none⟩) m c) (hy:ev n ρ y=.int .i64 (kk:Int)) (hk:kk≤m) (hc:kk < c) (hm:m≤c)
    (k:K (upd ρ d (Sv (some ⟨b,off+kk,none⟩) (m - kk) (c - kk))) w):OW P Q ⟨some d,.slice t x (some y) none none,ty,pos,af,none⟩ n ρ w K:=by
  refine VN _ ?_ k
  have hne:¬ c=kk:=by omega
  simp [execOp,hx,hy,Instr.sliceAt,Instr.slice,Instr.sliceBounds,Instr.sliceBound,asIntOf,run_underlying hu,he.sizeOf,hk,hne,Addr.add]
theorem o_upto {x y:Operand} {t e:TypeId} {z:Value} {by' m c:Nat} {a:yOA} (kk:Nat) (hu:P.underlying t=some (.slice e)) (he:TI P e z 1 by') (hx:ev n ρ x=Sv a m c) (hy:ev n ρ y=.int .i64 (kk:Int)) (hk:kk≤c) (h0:0 < c)
    (k:K (upd ρ d (Sv a kk c)) w):OW P Q ⟨some d,.slice t x none (some y) none,ty,pos,af,none⟩ n ρ w K:=by
  refine VN _ ?_ k
  have hne:¬ c=0:=by omega
  cases a <;> simp [execOp,hx,hy,Instr.sliceAt,Instr.slice,Instr.sliceBounds,Instr.sliceBound,asIntOf,run_underlying hu,he.sizeOf,hk,hne,Addr.add]
theorem o_clearRow {x:Operand} {t e' e:TypeId} {b c c' kk m nn:Nat} {xs:List Value} (H:St W0 w ps Γ) (i:Nat) (hp:ps[i]? =some (.row (Sv (some ⟨b,0,none⟩) nn c) e 1 nn xs)) (hu:P.underlying t=some (.slice e')) (hv:∀ w,(zeroValue e').run P w=.ok (Sv none 0 0) w)
    (hx:ev n ρ x=Sv (some ⟨b,0+kk,none⟩) m c') (hm:kk+m=nn) (h0:0 < m) (k:∀ w',St W0 w' (ps.set i (.row (Sv (some ⟨b,0,none⟩) nn c) e 1 nn (xs.take kk++List.replicate m (Sv none 0 0)))) Γ→K ρ w'):
    OW P Q ⟨none,.call ⟨.builtin .clear,#[x],#[t]⟩,ty,pos,af,none⟩ n ρ w K:=by
  have hl:=H.rowLen i hp
  obtain ⟨w',hr,H'⟩:=H.rowSet i hp kk (List.replicate m (Sv none 0 0)) (by rw [List.length_replicate];omega) (fun u hu=>by rw [(List.mem_replicate.1 hu).2];rfl) (P:=P)
  refine o_none (w' :=w') (.tuple #[]) ?_ (k w' ?_)
  · have hz:(Builtin.zeroCells (Value.slice none 0 0).cells m).toList=List.replicate m (Sv none 0 0):=by
      rw [show (Value.slice none 0 0).cells=#[Sv none 0 0] from rfl]
      simp [Builtin.zeroCells]
      apply List.ext_getElem
      · simp
      · intro q h1 h2;simp [Nat.mod_one]
    obtain ⟨m',rfl⟩:∃ q,m=q+1:=⟨m - 1,by omega⟩
    rw [Nat.zero_add] at hx
    simp [execOp,resolve,invoke,builtin,Builtin.clear_,hx,run_underlying hu,hv,hz,hr]
  · rw [List.length_replicate,List.drop_of_length_le qf,List.append_nil] at H'
    exact H'
end

theorem St.repsEl {W0 w:World} {ps:List Prv} {Γ:List Fact} (H:St W0 w ps Γ) (j:Nat) {fr:Bool} {F:yLN} {xs:List Value} {l:yLL} (hf:Γ[j]? =some (zf fr F xs l)) (p:Nat) (hp:p < l.length):
    ∃ (a:yOA) (c:Nat) (G:yLN),xs[p]? =some (Sv a (l[p]!).length c)∧St W0 w ps (isF fr G (Sv a (l[p]!).length c) (l[p]!) :: Γ):=by
  obtain ⟨hr,hfr⟩:=H.get j hf
  obtain ⟨F1,Fk,F2,v1,cs,v2,hF,hv,hl1,hl2,hk,_,_⟩:=reps_get hr p hp
  obtain ⟨a,c,hcs,_⟩:=id hk
  have e:l[p]=l[p]! :=(getElem!_pos l p hp).symm
  rw [e] at hk hcs
  subst hcs
  have hsub:∀ x∈Fk,x∈F:=fun x hx=>by rw [hF];simp [hx]
  refine ⟨a,c,Fk,?_,H.jC j hf _ ⟨hk,fun e=>(hfr e).sub hsub⟩ hsub⟩
  have:v1.length=p:=by rw [hl1];exact Nat.mul_one _
  rw [hv,List.append_assoc,List.getElem?_append_right qf,this];simp
theorem compL_all {l:yLL} (h:∀ i,0 < i→i < l.length→¬ l[i]! =l[i - 1]!):compL l=l:=by
  unfold compL;rw [keepI_all _ h,range_get _ (Nat.le_refl _),List.take_length]
theorem kept_all {l:yLL} {xs:List Value} (hx:xs.length=l.length) (h:∀ i,0 < i→i < l.length→¬ l[i]! =l[i - 1]!):((X9 l l.length).map fun i=>xs[i]!)=xs:=by
  rw [keepI_all _ h,range_get _ qf,← hx,List.take_length]
theorem set_selfR {ps:List Prv} {k:Nat} {p:Prv} (hp:ps[k]? =some p):ps.set k p=ps:=by
  obtain ⟨hk,he⟩:=List.getElem?_eq_some_iff.1 hp
  rw [← he,List.set_getElem_self]
instance iSCF:SliC Tryz.prog 27 22:=⟨Tryz.underlying27⟩
instance iTCF:TIC Tryz.prog 22 (Sv none 0 0) 1 24:=⟨by unfold TI;kernel_rfl⟩
instance iACF:SclC Tryz.prog 22:=⟨Tryz.isAgg22⟩
instance iCCF:QZ Tryz.prog 96:=⟨Tryz.call96⟩

theorem compactRow {W0 w:World} {ps:List Prv} {Γ:List Fact} (H:St W0 w ps Γ) (k:Nat) {a:yOA} {c:Nat} {e:TypeId} {nn:Nat} {xs:List Value} (hp:ps[k]? =some (.row (Sv a nn c) e 1 nn xs)) (j:Nat) {fr:Bool} {F:yLN} {l:yLL} (hf:Γ[j]? =some (zf fr F xs l)) (hb:l.length≤1000000):
    Calls Tryz.prog 95 #[Sv a nn c,.func (.func 96) #[] #[]] w fun e' w' =>∃ v,e' =.returned v∧∃ (F' :yLN) (xs' :List Value),v=Sv a (compL l).length c∧F'.Sublist F∧
      St W0 w' (ps.set k (.row (Sv a (compL l).length c) e 1 (compL l).length xs')) (zf fr F' xs' (compL l) :: Γ):=by
  have hxl:xs.length=l.length:=by have:=XU (H.get j hf).1;simpa [qO.size] using this
  have hnl:nn=l.length:=by have:=H.rowLen k hp;omega
  subst hnl
  obtain ⟨F',hsub,hrep⟩:=compReps (H.get j hf).1
  have hfr' :fr=true→vg w F' :=fun e x hx=>(H.get j hf).2 e x (hsub.subset hx)
  have hF' :∀ b∈F',b < w.heap.size∧∀ i,jS ps i≠some b:=fun b hb=>(H.facts _ (List.mem_of_getElem? hf)).2 b (hsub.subset hb)
  have Hr:=H.add (zf fr F' ((X9 l l.length).map fun i=>xs[i]!) (compL l)) ⟨hrep,hfr'⟩ hF'
  refine en Tryz.func95 Tryz.ntmps95 ?_
  refine xQ (xO ?_)
  refine sp (Sv none 0 0) ?_
  refine xM (t_n (xQ (xQ (xO ?_))))
  refine sp (Sv a l.length c) ?_
  refine sw (o_len Tryz.underlying27 a l.length c rfl ?_)
  refine sp (Bv (decide ((l.length:Int) < 2))) ?_
  refine xM (t_n ?_)
  refine xE (decide ((l.length:Int) < 2)) rfl (fun h1=>?_) (fun h1=>?_)
  · replace h1:=of_decide_eq_true h1
    refine xQ (xO ?_)
    refine sps [Sv a l.length c,Sv a l.length c] ?_
    refine xM (t_n (c_ret (t_r ?_)))
    have hn:∀ i,0 < i→i < l.length→¬ l[i]! =l[i - 1]! :=fun i h2 h3=>by omega
    rw [kept_all hxl hn] at Hr
    rw [compL_all hn] at Hr ⊢
    refine ret1 (Sv a l.length c) rfl rfl ⟨_,rfl,F',xs,rfl,hsub,?_⟩
    rw [set_selfR hp];exact Hr
  · replace h1:=of_decide_eq_false h1
    obtain ⟨b,rfl⟩:=H.Qn k hp qf
    have hj:(zf fr F' ((X9 l l.length).map fun i=>xs[i]!) (compL l) :: Γ)[j+1]? =some (zf fr F xs l):=hf
    have hc:l.length≤c:=by
      obtain ⟨_,h | ⟨g,cap,cur,hv,_,_,h2,_⟩⟩:=(Hr.has _ (List.mem_of_getElem? hp):w.ownsRow W0.heap.size e 1 _ l.length xs)
      · exact absurd h.2 qf
      · simp only [Value.slice.injEq] at hv;omega
    clear H
    refine qW (t_n (xQ (xQ (xO ?_))))
    refine sp (.int .i64 1) ?_
    refine xM (t_n (qX ?_))
    refine zD (fun m' ρ w1=>∃ (xY:Env) (i:Nat),ρ=upd (upd (upd xY 0 (Sv (some ⟨b,0,none⟩) l.length c)) 1 (.func (.func 96) #[] #[])) 5 (.int .i64 i)∧(1≤i∧i≤l.length)∧(∀ q,0 < q→q < i→¬ l[q]! =l[q - 1]!)∧m' =l.length - i∧
      St W0 w1 ps (zf fr F' ((X9 l l.length).map fun i=>xs[i]!) (compL l) :: Γ)) (l.length - 1) ⟨_,1,(by exact zQ (zQ (zQ rfl rfl) rfl) rfl),⟨by omega,by omega⟩,fun q h2 h3=>by omega,rfl,Hr⟩ ?_
    clear Hr
    rintro m' ρ w1 ⟨xY,i,rfl,⟨hi1,hi2⟩,hall,rfl,H⟩
    refine xQ (xQ (xO ?_))
    refine sps [.int .i64 i,Sv (some ⟨b,0,none⟩) l.length c] ?_
    refine oN rfl ?_
    refine sp (Bv (decide ((i:Int) < l.length))) ?_
    refine xM (t_n ?_)
    refine xE (decide ((i:Int) < l.length)) rfl (fun h4=>?_) (fun h4=>?_)
    · replace h4:=of_decide_eq_true h4
      refine qW (t_n (xQ (qX (xQ ?_))))
      refine jh rfl H fun H=>?_
      refine rtp 0 (.func (.func 96) #[] #[]) H ?_
      refine rtp 1 (Sv (some ⟨b,0,none⟩) l.length c) H ?_
      refine rtp 2 (.int .i64 i) H ?_
      refine tI 3 rfl rfl rfl H ?_
      obtain ⟨a1,c1,G1,s1,hc1,hx1,hy1,H⟩:=H.rowElemX k hp (j+1) hj (iv:=i) i qf qf
      have S:=H.sub _ (fun f hf=>List.mem_cons_of_mem _ hf)
      refine tL 4 rfl rfl (fun _ h=>h.rowGet k hp hx1) S ?_
      refine rtp 5 (Sv (some ⟨b,0,none⟩) l.length c) S ?_
      refine rtp 6 (.int .i64 i) S ?_
      refine rt 7 (.int .i64 (i - 1)) (y_sub i 1 rfl rfl qf) S ?_
      refine tI 8 rfl rfl rfl S ?_
      obtain ⟨a2,c2,G2,s2,hc2,hx2,hy2,H⟩:=H.rowElemX k hp (j+2) hj (iv:=(i:Int) - 1) (i - 1) qf qf
      replace S:=H.sub _ (fun f hf=>List.mem_cons_of_mem _ (List.mem_cons_of_mem _ hf))
      refine tL 9 rfl rfl (fun _ h=>h.rowGet k hp hx2) S ?_
      refine ro 10 rfl (oq (equalI_ok _ (l[i]!) (l[i - 1]!) (H.get 1 rfl).1 (H.get 0 rfl).1) H fun w2 H=>⟨H.sub _ (fun f hf=>List.mem_cons_of_mem _ (List.mem_cons_of_mem _ hf)),?_⟩)
      refine xP qh (t_n ?_)
      replace H:=H.sub _ (fun f hf=>List.mem_cons_of_mem _ (List.mem_cons_of_mem _ hf))
      clear S hc1 hc2
      refine xE (decide (l[i]! =l[i - 1]!)) rfl (fun h5=>?_) (fun h5=>?_)
      · replace h5:=of_decide_eq_true h5
        have hk0:(X9 l (i+1)).length=i:=by rw [(cvals_skip (xs:=xs) ⟨hi1,h5⟩).2,keepI_all i hall,List.length_range]
        have hv0:cvals xs l (i+1)=xs:=by rw [(cvals_skip ⟨hi1,h5⟩).1,cvals_all qf hall]
        refine xQ (xO ?_)
        refine sps [Sv (some ⟨b,0,none⟩) l.length c,.int .i64 i] ?_
        refine sw (o_from i Tryz.underlying27 iTCF.out rfl rfl qf qf qf ?_)
        refine sp (Sv (some ⟨b,0+i,none⟩) (l.length - i) (c - i)) ?_
        refine xM (t_n (xQ (xQ (xO ?_))))
        refine sp (.int .i64 1) ?_
        refine xM (t_n (qX ?_))
        have set2:∀ {ys zs:List Value},(ps.set k (.row (Sv (some ⟨b,0,none⟩) l.length c) e 1 l.length ys)).set k (.row (Sv (some ⟨b,0,none⟩) l.length c) e 1 l.length zs)=ps.set k (.row (Sv (some ⟨b,0,none⟩) l.length c) e 1 l.length zs):=fun {_ _}=>List.set_set ..
        have hat:∀ {ys:List Value},(ps.set k (.row (Sv (some ⟨b,0,none⟩) l.length c) e 1 l.length ys))[k]? =some (.row (Sv (some ⟨b,0,none⟩) l.length c) e 1 l.length ys):=fun {_}=>set_at hp
        refine zD (fun m' ρ w1=>∃ (xY:Env) (q m:Nat),ρ=upd (upd (upd (upd (upd xY 0 (Sv (some ⟨b,0,none⟩) l.length c)) 1 (.func (.func 96) #[] #[])) 5 (.int .i64 m)) 6 (Sv (some ⟨b,0+i,none⟩) (l.length - i) (c - i))) 7 (.int .i64 q)∧
          (1≤q∧i+q≤l.length∧m+1≤i+q)∧(X9 l (i+q)).length=m∧m' =l.length - (i+q)∧
          St W0 w1 (ps.set k (.row (Sv (some ⟨b,0,none⟩) l.length c) e 1 l.length (cvals xs l (i+q)))) (zf fr F' ((X9 l l.length).map fun i=>xs[i]!) (compL l) :: Γ)) (l.length - (i+1))
          ⟨_,1,i,(by exact zQ (zQ (zQ (zQ (zQ rfl rfl) rfl) rfl) rfl) rfl),⟨by omega,by omega,by omega⟩,hk0,rfl,by rw [hv0,set_selfR hp];exact H⟩ ?_
        clear H
        rintro m' ρ w3 ⟨xY,q,m,rfl,⟨hq1,hq2,hq3⟩,hm,rfl,H⟩
        refine xQ (xQ (xO ?_))
        refine sps [.int .i64 q,Sv (some ⟨b,0+i,none⟩) (l.length - i) (c - i)] ?_
        refine oN rfl ?_
        refine sp (Bv (decide ((q:Int) < ((l.length - i:Nat):Int)))) ?_
        refine xM (t_n ?_)
        refine xE (decide ((q:Int) < ((l.length - i:Nat):Int))) rfl (fun h6=>?_) (fun h6=>?_)
        · replace h6:=of_decide_eq_true h6
          refine qW (t_n (xQ (qX (xQ ?_))))
          refine jh rfl H fun H=>?_
          refine rtp 0 (.func (.func 96) #[] #[]) H ?_
          refine rtp 1 (Sv (some ⟨b,0+i,none⟩) (l.length - i) (c - i)) H ?_
          refine rtp 2 (.int .i64 q) H ?_
          refine tI 3 rfl rfl rfl H ?_
          obtain ⟨a1,c1,G1,hx1,H⟩:=H.repsEl (j+1) hj (i+q) qf
          have hv1:(cvals xs l (i+q))[0+i+(q:Int).toNat * 1]? =some (Sv a1 (l[i+q]!).length c1):=by rw [show 0+i+(q:Int).toNat * 1=i+q by omega,cvals_get qf];exact hx1
          have S:=H.sub _ (fun f hf=>List.mem_cons_of_mem _ hf)
          refine tL 4 rfl rfl (fun _ h=>h.rowGet k hat hv1) S ?_
          refine rtp 5 (Sv (some ⟨b,0+i,none⟩) (l.length - i) (c - i)) S ?_
          refine rtp 6 (.int .i64 q) S ?_
          refine rt 7 (.int .i64 (q - 1)) (y_sub q 1 rfl rfl qf) S ?_
          refine tI 8 rfl rfl rfl S ?_
          obtain ⟨a2,c2,G2,hx2,H⟩:=H.repsEl (j+2) hj (i+q - 1) qf
          have hv2:(cvals xs l (i+q))[0+i+((q:Int) - 1).toNat * 1]? =some (Sv a2 (l[i+q - 1]!).length c2):=by rw [show 0+i+((q:Int) - 1).toNat * 1=i+q - 1 by omega,cvals_get qf];exact hx2
          replace S:=H.sub _ (fun f hf=>List.mem_cons_of_mem _ (List.mem_cons_of_mem _ hf))
          refine tL 9 rfl rfl (fun _ h=>h.rowGet k hat hv2) S ?_
          refine ro 10 rfl (oq (equalI_ok _ (l[i+q]!) (l[i+q - 1]!) (H.get 1 rfl).1 (H.get 0 rfl).1) H fun w4 H=>⟨H.sub _ (fun f hf=>List.mem_cons_of_mem _ (List.mem_cons_of_mem _ hf)),?_⟩)
          replace S:=H.sub _ (fun f hf=>List.mem_cons_of_mem _ (List.mem_cons_of_mem _ hf))
          refine rtp 11 (Bv (!(decide (l[i+q]! =l[i+q - 1]!)))) S ?_
          refine xP qh (t_n ?_)
          replace H:=S
          clear S
          refine xE (!(decide (l[i+q]! =l[i+q - 1]!))) rfl (fun h7=>?_) (fun h7=>?_)
          · replace h7:¬ l[i+q]! =l[i+q - 1]! :=of_decide_eq_false (xq h7)
            obtain ⟨e1,e2⟩:=cvals_keep (xs:=xs) (l:=l) (j:=i+q) h7 qf
            rw [hm] at e1 e2
            rw [show xs[i+q]! =.slice a1 (l[i+q]!).length c1 by rw [getElem!_def,hx1]] at e1
            refine xQ (xO ?_)
            refine sps [Sv (some ⟨b,0,none⟩) l.length c,.int .i64 m,Sv (some ⟨b,0+i,none⟩) (l.length - i) (c - i),.int .i64 q] ?_
            refine oI rfl rfl ?_
            refine oL rfl (H.rowGet k hat hv1) ?_
            refine oI rfl rfl ?_
            refine sw (YY H k hat (Sv a1 (l[i+q]!).length c1) Tryz.sizeOf22 rfl rfl rfl qf fun w5 H=>?_)
            rw [set2,Int.toNat_natCast,e1] at H
            refine xM (t_n (xO ?_))
            refine sp (.int .i64 m) ?_
            refine sw (zB m 1 rfl rfl qf ?_)
            refine sp (.int .i64 (m+1)) ?_
            refine xM (b_n (t_n (xO ?_)))
            refine sp (.int .i64 q) ?_
            refine sw (zB q 1 rfl rfl qf ?_)
            refine sp (.int .i64 (q+1)) ?_
            refine xM ?_
            refine qY (m' :=l.length - (i+(q+1))) qf ⟨_,q+1,m+1,(by exact zQ (zQ (zQ (zQ (zQ rfl rfl) rfl) rfl) rfl) rfl),⟨by omega,by omega,by omega⟩,e2,rfl,H⟩
          · replace h7:l[i+q]! =l[i+q - 1]! :=of_decide_eq_true (xg h7)
            obtain ⟨e1,e2⟩:=cvals_skip (xs:=xs) (l:=l) (j:=i+q) ⟨by omega,h7⟩
            rw [hm] at e2
            rw [← e1] at H
            refine qW (b_n (t_n (xO ?_)))
            refine sp (.int .i64 q) ?_
            refine sw (zB q 1 rfl rfl qf ?_)
            refine sp (.int .i64 (q+1)) ?_
            refine xM ?_
            refine qY (m' :=l.length - (i+(q+1))) qf ⟨_,q+1,m,(by exact zQ (zQ (zQ (zQ (zQ rfl rfl) rfl) rfl) rfl) rfl),⟨by omega,by omega,by omega⟩,e2,rfl,H⟩
        · replace h6:=of_decide_eq_false h6
          have hend:i+q=l.length:=by omega
          have hcl:(compL l).length=m:=by rw [← hm,hend];simp [compL]
          refine c_exit (t_x (t_x (b_x (t_n (xQ (xO ?_))))))
          refine sps [Sv (some ⟨b,0,none⟩) l.length c,.int .i64 m] ?_
          refine sw (o_from m Tryz.underlying27 iTCF.out rfl rfl qf qf qf ?_)
          refine sw (o_clearRow H k hat Tryz.underlying27 Tryz.zeroValue22 rfl qf qf fun w5 H=>?_)
          refine xM (t_n (xQ (xO ?_)))
          refine sps [Sv (some ⟨b,0,none⟩) l.length c,.int .i64 m] ?_
          refine sw (o_upto m Tryz.underlying27 iTCF.out rfl rfl qf qf ?_)
          refine sp (Sv (some ⟨b,0,none⟩) m c) ?_
          refine xM (t_n (c_ret ?_))
          repeat (first | refine t_r ?_ | refine b_r ?_)
          rw [set2] at H
          replace H:=H.rowCut k hat m qf
          rw [cvals_end hm,hend,List.set_set] at H
          refine ret1 (Sv (some ⟨b,0,none⟩) m c) rfl rfl ⟨_,rfl,F',(X9 l l.length).map (fun i=>xs[i]!),by rw [hcl],hsub,?_⟩
          rw [hcl];exact H
      · replace h5:=of_decide_eq_false h5
        refine qW (b_n (t_n (xO ?_)))
        refine sp (.int .i64 i) ?_
        refine sw (zB i 1 rfl rfl qf ?_)
        refine sp (.int .i64 (i+1)) ?_
        refine xM ?_
        refine qY (m' :=l.length - (i+1)) qf ⟨_,i+1,(by exact zQ (zQ (zQ rfl rfl) rfl) rfl),⟨by omega,by omega⟩,fun q h6 h7=>?_,rfl,H⟩
        by_cases e:q=i
        · subst e;exact h5
        · exact hall q h6 qf
    · replace h4:=of_decide_eq_false h4
      have hn:∀ q,0 < q→q < l.length→¬ l[q]! =l[q - 1]! :=fun q h2 h3=>hall q h2 qf
      rw [kept_all hxl hn] at H
      rw [compL_all hn] at H ⊢
      refine c_exit (t_x (t_x (b_x (t_n (xQ (xO ?_))))))
      refine sps [Sv (some ⟨b,0,none⟩) l.length c,Sv (some ⟨b,0,none⟩) l.length c] ?_
      refine xM (t_n (c_ret ?_))
      refine ret1 (Sv (some ⟨b,0,none⟩) l.length c) rfl rfl ⟨_,rfl,F',xs,rfl,hsub,?_⟩
      rw [set_selfR hp];exact H
end
section
open Go.RowKit Go.Shelf Go.Lib Go.Sort
set_option linter.unusedVariables false
set_option linter.unusedSimpArgs false
section
variable {W0 w : World} {ps : List Prv} {Γ : List Fact}
theorem putCells_none (enc:Nat→Value) (d:Array Nat) (hd:d.size=0) (cur:Array Value):putCells enc 0 d cur=cur:=by
  unfold putCells
  apply Array.ext
  · simp
  · intro i h1 h2
    simp [hd]
theorem sortRow0 {P:Program} {ρ:Ren} (L:SlLaysF.n6 P ρ) {g:Nat} (eg:∀ args w,(callFunc g args).run P w=.ok (.enter g args) w)
    (cmp:∀ (W:World) (x y:yLI) (a:yOA) (c:Nat) (F:yLN) (a' :yOA) (c' :Nat) (F' :yLN),qO.rep W F [Sv a x.length c] x→qO.rep W F' [Sv a' y.length c'] y→
      Calls P g #[Sv a x.length c,Sv a' y.length c'] W fun e w' =>e=.returned (.int .i64 (cmpL x y))∧w' =W)
    (H:St W0 w ps Γ) (k:Nat) {b c:Nat} {e:TypeId} {nn:Nat} {xs:List Value} (hp:ps[k]? =some (.row (Sv (some ⟨b,0,none⟩) nn c) e 1 nn xs)) (j:Nat) {fr:Bool} {F:yLN} {l:yLL} (hf:Γ[j]? =some (zf fr F xs l)) (hsz:l.length < 4611686018427387904):
    Calls P (ρ.f 6) #[Sv (some ⟨b,0,none⟩) nn c,.func (.func g) #[] #[]] w fun e' w' =>∃ v,e' =.returned v∧∃ xs' F' l',v=.tuple #[]∧F'.Perm F∧l.Perm l' ∧(∀ i j,i < j→j < l'.length→¬ cmpL (l'[j]!) (l'[i]!) < 0)∧
      St W0 w' (ps.set k (.row (Sv (some ⟨b,0,none⟩) nn c) e 1 nn xs')) (zf fr F' xs' l' :: Γ):=by
  by_cases h0:0 < l.length
  · exact sortRow L eg cmp H k hp j hf h0 hsz
  obtain rfl:l=[]:=List.eq_nil_of_length_eq_zero qf
  have ho:=(H.has _ (List.mem_of_getElem? hp):w.ownsRow W0.heap.size e 1 _ nn xs)
  obtain ⟨hr,hfr⟩:=H.get j hf
  obtain ⟨rfl,rfl⟩:F=[]∧xs=[]:=hr
  have hnn:nn=0:=by have:=ho.1;simp at this;omega
  subst hnn
  obtain ⟨hl,h | ⟨g',cap,cur,hv,hB,hg,hn,hm,hcs,ht⟩⟩:=ho
  · simp at h
  simp only [Value.slice.injEq,Option.some.injEq,Addr.mk.injEq,and_true] at hv
  obtain ⟨rfl,_,rfl⟩:=hv
  let enc:Nat→Value:=fun _=>Sv none 0 0
  let cf:Nat→Nat→Int:=fun _ _=>0
  have hO:OneCell enc:=fun i=>rfl
  have hS:SWO (ltOf cf):=⟨fun x=>rfl,fun x y z h1 h2=>h1,fun x y z h1 h2=>rfl⟩
  have hblk:b < w.heap.size:=(Array.getElem?_eq_some_iff.1 hg).1
  have hrep:∀ W:World,qO.rep W [] [Value.slice none ([]:yLI).length 0] ([]:yLI):=fun W=>⟨none,0,rfl,by simp,Or.inl ⟨rfl,rfl⟩⟩
  have hcmp:CmpLays1 P g #[] enc cf b 0 (#[]:Array Nat).size w:=fun m os dk hs x y=>by
    refine (cmp _ [] [] none 0 [] none 0 [] (hrep _) (hrep _)).mono fun e' w' h=>⟨h.1,0,#[],?_⟩
    rw [grow_empty];exact h.2
  have hc:=Any.slices_SortFunc L enc hO cf hS g #[] b 0 c (#[]:Array Nat) w eg hcmp (fun i hi=>absurd hi qm) hblk qm
  refine hc.mono fun e' w' ⟨he,d',n,os,hpm,hso,hw⟩=>⟨_,he,[],[],[],rfl,.refl _,.refl _,fun i j _ h=>absurd h qm,?_⟩
  have hd' :d'.size=0:=hpm.1
  subst hw
  have hown:(sortWorld enc w b 0 n d' os).ownsRow W0.heap.size e 1 (Sv (some ⟨b,0,none⟩) 0 c) 0 []:=
    ⟨rfl,Or.inr ⟨b,c,putCells enc 0 d' cur,rfl,hB,sw_row hg,hn,hm,by rw [putCells_none _ _ hd'];exact hcs,by simp⟩⟩
  have hsize:w.heap.size≤(sortWorld enc w b 0 n d' os).heap.size:=by
    unfold sortWorld putRow mapBlock grow
    show _≤((Sort.ahead w n).heap.modify b _++os).size
    rw [Array.size_append,Array.size_modify]
    exact Nat.le_add_right _ _
  have H1:=H.change k hp (w' :=sortWorld enc w b 0 n d' os) (p' :=.row (Sv (some ⟨b,0,none⟩) 0 c) e 1 0 []) rfl rfl rfl hsize (fun i hi hne=>sw_block hi (fun e2=>hne (by subst e2;rfl))) hown (Or.inl rfl)
  exact H1.add _ ⟨⟨rfl,rfl⟩,fun _=>vg.nil _⟩ (by simp [zf])
end

section
variable {P : Program} {Q : Exit → Act → World → Prop} {n : Nat} {ρ : Env} {W0 w : World} {ps : List Prv} {Γ : List Fact}
  {d:Nat} {ty:TypeId} {pos:String} {af:Array Edge} {K:Env→World→Prop}
theorem o_tailC {α:Type} [qO α] {x y:Operand} {t e:TypeId} {z:Value} {by' :Nat} {fr:Bool} {F B:yLN} {a:yOA} {m c:Nat} {l:List α} {ys:List Value} (H:St W0 w ps Γ) (i:Nat) (hf:Γ[i]? =some (isF fr F (Sv a m c) l)) (j:Nat) (hc:Γ[j]? =some (Yf B (Sv a m c) ys)) (kk:Nat) (q:Nat) {fr' :Bool} {G:yLN} (hg:Γ[q]? =some (zf fr' G (ys.drop (kk * qO.size α)) (l.drop kk)))
    (hu:P.underlying t=some (.slice e)) (he:TI P e z (qO.size α) by') (hx:ev n ρ x=Sv a m c) (hy:ev n ρ y=.int .i64 (kk:Int)) (hk:kk≤l.length)
    (k:∀ a',St W0 w ps (Yf B (Sv a' (l.drop kk).length (c - kk)) (ys.drop (kk * qO.size α)) :: Γ)→K (upd ρ d (Sv a' (l.drop kk).length (c - kk))) w):
    OW P Q ⟨some d,.slice t x (some y) none none,ty,pos,af,none⟩ n ρ w K:=by
  obtain ⟨⟨a0,c0,hcc,⟨hl,hcap⟩,_⟩,_⟩:=H.get i hf
  simp only [List.cons.injEq,Value.slice.injEq,and_true] at hcc
  obtain ⟨rfl,rfl,rfl⟩:=hcc
  have hrun:(execOp (ev n ρ) ⟨some d,.slice t x (some y) none none,ty,pos,af,none⟩).run P w=
      .ok (.value (Sv (if c=kk then a else a.map (·.add (kk * qO.size α))) (l.length - kk) (c - kk))) w:=by
    simp [execOp,hx,hy,Instr.sliceAt,Instr.slice,Instr.sliceBounds,Instr.sliceBound,asIntOf,run_underlying hu,he.sizeOf,hk]
  have hlen:(l.drop kk).length=l.length - kk:=List.length_drop
  refine VN _ hrun ?_
  rw [← hlen]
  refine k _ (H.jC j hc _ ?_ fun _ h=>h)
  rcases H.get j hc with h | ⟨b,o,m,c',h1,h2,h3⟩
  · exact Or.inl (by rw [h];exact List.drop_nil)
  · simp only [Value.slice.injEq] at h1
    obtain ⟨rfl,rfl,rfl⟩:=h1
    by_cases hck:c=kk
    · refine Or.inl (List.eq_nil_of_length_eq_zero ?_)
      have h4:=XU (H.get q hg).1
      rw [hlen,show l.length - kk=0 by omega,Nat.zero_mul] at h4
      exact h4
    · rw [if_neg hck]
      refine Or.inr ⟨b,o+kk * qO.size α,(l.drop kk).length,c - kk,by simp [Addr.add],h2,fun q v hv=>?_⟩
      rw [List.getElem?_drop] at hv
      have:=h3 _ v hv
      rwa [← Nat.add_assoc] at this
theorem Vs {α:Type} [qO α] {t e:TypeId} {s x:Operand} {v z:Value} {by' nn m c:Nat} {a:yOA} {xs ys:List Value} {fr:Bool} {B G:yLN} {l:List α} (H:St W0 w ps Γ) (i:Nat) (hp:ps[i]? =some (.row v e (qO.size α) nn xs))
    (j:Nat) (hf:Γ[j]? =some (Yf B (Sv a m c) ys)) (q:Nat) (hg:Γ[q]? =some (zf fr G ys l)) (hml:m=l.length) (hu:P.underlying t=some (.slice e)) (he:TI P e z (qO.size α) by') (hzs:z.cells.size=qO.size α) (h0:0 < qO.size α) (hs:ev n ρ s=v)
    (hx:ev n ρ x=Sv a m c) (hm:nn+m≤maxLen) (hb:(nn+m) * by' ≤140737488355328)
    (k:∀ a' c' w',St W0 w' (ps.set i (.row (Sv a' (nn+m) c') e (qO.size α) (nn+m) (xs++ys))) Γ→K (upd ρ d (Sv a' (nn+m) c')) w'):
    OW P Q ⟨some d,.call ⟨.builtin .append,#[s,x],#[t,t]⟩,ty,pos,af,none⟩ n ρ w K:=by
  obtain ⟨i',hi,hz1,hz2,hz3⟩:=info_parts he
  have hown:w.ownsRow W0.heap.size e (qO.size α) v nn xs:=H.has _ (List.mem_of_getElem? hp)
  have hr:=(H.get q hg).1
  have hyl:ys.length=m * qO.size α:=by rw [hml];exact XU hr
  have key:∀ (w' :World) (v' :Value),w'.ownsRow W0.heap.size e (qO.size α) v' (nn+m) (xs++ys)→St W0 w' (ps.set i (.row v' e (qO.size α) (nn+m) (xs++ys))) Γ→K (upd ρ d v') w' :=fun w' v' _ H' =>by
    obtain ⟨a',c',rfl,_⟩:=H'.jA i (set_at hp)
    exact k a' c' w' H'
  rcases a with _ | ⟨b,off,sp⟩
  · have hm0:m=0∧ys=[]:=by
      rcases H.get j hf with h | ⟨b,o,m',c',h1,_⟩
      · rw [h] at hyl
        refine ⟨?_,h⟩
        simp only [List.length_nil] at hyl
        rcases Nat.eq_zero_or_pos m with h2 | h2
        · exact h2
        · have:=Nat.mul_pos h2 h0;omega
      · simp at h1
    obtain ⟨rfl,rfl⟩:=hm0
    have hv:∃ b0 c0,v=Sv b0 nn c0∧nn≤c0:=by
      rcases hown.2 with ⟨rfl,rfl⟩ | ⟨g,cap',cur,rfl,_,_,hnc,_⟩
      · exact ⟨none,0,rfl,Nat.le_refl _⟩
      · exact ⟨_,_,rfl,hnc⟩
    obtain ⟨b0,c0,rfl,hnc⟩:=hv
    refine VN (Sv b0 nn c0) (by simp [execOp,resolve,invoke,builtin,hs,hx,run_append_none hu hi hnc]) (k b0 c0 w ?_)
    rw [List.append_nil,Nat.add_zero,set_selfR hp];exact H
  · obtain ⟨v',w',hrun,ho,hg',_,hbl'⟩:=run_append_own_at (P:=P) w W0.heap.size t ty e i' z _ by' hu hi hz1 hz2 hz3 hzs h0 v nn xs hown ⟨b,off,sp⟩ m c ys hyl
      (fun k' u hk=>by
        rcases H.get j hf with h | ⟨b',o,m',c',h1,_,h3⟩
        · rw [h] at hk;simp at hk
        · simp only [Value.slice.injEq,Option.some.injEq,Addr.mk.injEq] at h1
          obtain ⟨⟨rfl,rfl,rfl⟩,_⟩:=h1
          rw [Addr.add_mid];exact h3 k' u hk) (reps_cells hr) hm hb H.base.size
    refine VN v' (by simp [execOp,resolve,invoke,builtin,hs,hx,hrun]) (key w' v' ho ?_)
    exact H.change i hp hg'.os hg'.tape hg'.output hg'.size (fun c hc hne=>hg'.block c hc (fun e' =>hne e'.symm)) ho (by
      rcases hbl' with h | h
      · exact Or.inl h
      · exact Or.inr (Or.inr ⟨_,h,Nat.le_refl _⟩))
end
end
section

open Classical in
noncomputable def putL (x:yLI):yLL→yLL
  | []=>[x]
  | a :: l=>if ahead a x then a :: putL x l else if a=x then a :: l else x :: a :: l
theorem vW {x:yLI}:∀ {all:yLL} {k:Nat},(∀ j,j < k→ahead (all[j]!) x)→k≤all.length→(k=all.length∨¬ ahead (all[k]!) x∧¬ all[k]! =x)→all.take k++[x]++all.drop k=putL x all
  | [], k, _, hk, _ => by obtain rfl : k = 0 := by simpa using hk
                          rfl
  | a :: l,0,_,_,h=>by
    rcases h with h | ⟨h1,h2⟩
    · simp at h
    · have h1:¬ ahead a x:=h1
      have h2:¬ a=x:=h2
      rw [putL,if_neg h1,if_neg h2];rfl
  | a :: l,k+1,h0,hk,h=>by
    have ha:ahead a x:=h0 0 qf
    have hk' :k≤l.length:=by simpa using hk
    rw [putL,if_pos ha,← vW (k:=k) (fun j hj=>h0 (j+1) qf) hk' (by
      rcases h with h | h
      · exact Or.inl (by simpa using h)
      · exact Or.inr h)]
    rfl
theorem QO {x:yLI}:∀ {all:yLL} {k:Nat},(∀ j,j < k→ahead (all[j]!) x)→k < all.length→all[k]! =x→¬ ahead (all[k]!) x→all.take k++all.drop k=putL x all
  | [],k,_,hk,_,_=>by simp at hk
  | a :: l,0,_,_,h,hn=>by
    have h:a=x:=h
    have hn:¬ ahead a x:=hn
    rw [putL,if_neg hn,if_pos h];rfl
  | a :: l,k+1,h0,hk,h,hn=>by
    have ha:ahead a x:=h0 0 qf
    rw [putL,if_pos ha,← QO (k:=k) (fun j hj=>h0 (j+1) qf) (by simpa using hk) h hn]
    rfl
theorem put_mem {x y:yLI}:∀ {l:yLL},y∈putL x l↔y=x∨y∈l
  | []=>by simp [putL]
  | a :: l=>by
    rw [putL]
    split
    · rw [List.mem_cons,put_mem,List.mem_cons]
      constructor
      · rintro (h | h | h) <;> simp [h]
      · rintro (h | h | h) <;> simp [h]
    · split
      · next h=>subst h;simp
      · simp
theorem put_len {x:yLI}:∀ {l:yLL},(putL x l).length≤l.length+1
  | []=>by simp [putL]
  | a :: l=>by
    have:=put_len (x:=x) (l:=l)
    rw [putL]
    split
    · simp;omega
    · split <;> simp
theorem put_asc {x:yLI} {K:Nat} (hx:x.length=K):∀ {l:yLL},(∀ y∈l,y.length=K)→l.Pairwise ahead→(putL x l).Pairwise ahead
  | [],_,_=>by simp [putL]
  | a :: l,hl,h=>by
    have h' :=List.pairwise_cons.1 h
    have ha:=hl a (List.mem_cons_self ..)
    rw [putL]
    split
    · next h1=>
      refine List.pairwise_cons.2 ⟨fun y hy=>?_,put_asc hx (fun y hy=>hl y (List.mem_cons_of_mem _ hy)) h'.2⟩
      rcases put_mem.1 hy with rfl | hy
      · exact h1
      · exact h'.1 y hy
    · split
      · exact h
      · next h1 h2=>
        have h3:ahead x a:=Classical.byContradiction fun hn=>h2 (ahead_tri (ha.trans hx.symm) h1 hn)
        refine List.pairwise_cons.2 ⟨fun y hy=>?_,h⟩
        rcases List.mem_cons.1 hy with rfl | hy
        · exact h3
        · exact ahead_trans (hx.trans ha.symm) h3 (h'.1 y hy)
theorem asc_one {K:Nat}:∀ {l m:yLL},(∀ y∈l,y.length=K)→l.Pairwise ahead→m.Pairwise ahead→(∀ x,x∈l↔x∈m)→l=m
  | [],m,_,_,_,h=>by
    cases m with
    | nil=>rfl
    | cons y m=>exact absurd ((h y).2 (List.mem_cons_self ..)) qm
  | x :: l,[],_,_,_,h=>absurd ((h x).1 (List.mem_cons_self ..)) qm
  | x :: l,y :: m,hK,hl,hm,h=>by
    have hl' :=List.pairwise_cons.1 hl
    have hm' :=List.pairwise_cons.1 hm
    have e:x=y:=by
      rcases List.mem_cons.1 ((h x).1 (List.mem_cons_self ..)) with h1 | h1
      · exact h1
      · rcases List.mem_cons.1 ((h y).2 (List.mem_cons_self ..)) with h2 | h2
        · exact h2.symm
        · exact absurd (ahead_trans ((hK x (List.mem_cons_self ..)).trans (hK y ((h y).2 (List.mem_cons_self ..))).symm) (hl'.1 y h2) (hm'.1 x h1)) (ahead_irr x)
    subst e
    rw [asc_one (fun z hz=>hK z (List.mem_cons_of_mem _ hz)) hl'.2 hm'.2 fun z=>?_]
    constructor
    · intro hz
      rcases List.mem_cons.1 ((h z).1 (List.mem_cons_of_mem _ hz)) with h1 | h1
      · subst h1;exact absurd (hl'.1 z hz) (ahead_irr z)
      · exact h1
    · intro hz
      rcases List.mem_cons.1 ((h z).2 (List.mem_cons_of_mem _ hz)) with h1 | h1
      · subst h1;exact absurd (hm'.1 z hz) (ahead_irr z)
      · exact h1
theorem keepI_pair {l:yLL}:∀ j,(X9 l j).Pairwise fun p q=>p < q∧¬ l[q]! =l[q - 1]!
  | 0=>List.Pairwise.nil
  | j+1=>by
    have ih:=keepI_pair (l:=l) j
    rw [X9]
    split
    · exact ih
    · next h=>
      refine List.pairwise_append.2 ⟨ih,by simp,fun p hp q hq=>?_⟩
      obtain rfl:=List.mem_singleton.1 hq
      have:=keepI_lt _ p hp
      exact ⟨this,fun e=>h ⟨by omega,e⟩⟩
theorem keep_mem {l:yLL}:∀ j,∀ i,i < j→∃ q∈X9 l j,l[q]! =l[i]!
  | 0,i,h=>by omega
  | j+1,i,h=>by
    have ih:=keep_mem (l:=l) j
    rw [X9]
    split
    · next hk=>
      by_cases e:i=j
      · subst e
        obtain ⟨q,a,b⟩:=ih (i - 1) qf
        exact ⟨q,a,b.trans hk.2.symm⟩
      · exact ih i qf
    · by_cases e:i=j
      · exact ⟨i,by simp [e],rfl⟩
      · obtain ⟨q,a,b⟩:=ih i qf
        exact ⟨q,List.mem_append_left _ a,b⟩
theorem comp_mem {l:yLL} {x:yLI}:x∈compL l↔x∈l:=by
  unfold compL
  constructor
  · intro h
    obtain ⟨i,hi,rfl⟩:=List.mem_map.1 h
    have:=keepI_lt _ i hi
    rw [getElem!_pos l i this];exact List.getElem_mem _
  · intro h
    obtain ⟨i,hi,rfl⟩:=List.getElem_of_mem h
    obtain ⟨q,a,b⟩:=keep_mem l.length i hi
    exact List.mem_map.2 ⟨q,a,b.trans (getElem!_pos l i hi)⟩
theorem comp_asc {l:yLL} {K:Nat} (hK:∀ y∈l,y.length=K) (hs:∀ i j,i < j→j < l.length→¬ ahead (l[j]!) (l[i]!)):(compL l).Pairwise ahead:=by
  unfold compL
  rw [List.pairwise_map]
  refine ((keepI_pair (l:=l) l.length).imp_of_mem fun {p q} hp hq h=>?_)
  have hq' :=keepI_lt _ q hq
  have hat:∀ i,i < l.length→(l[i]!).length=K:=fun i hi=>hK _ (by rw [getElem!_pos l i hi];exact List.getElem_mem _)
  refine Classical.byContradiction fun hn=>?_
  have e:=ahead_tri ((hat p qf).trans (hat q hq').symm) hn (hs p q h.1 hq')
  by_cases e2:p=q - 1
  · subst e2;exact h.2 e.symm
  · refine h.2 (ahead_tri ((hat q hq').trans (hat (q - 1) qf).symm) (hs (q - 1) q qf hq') ?_)
    rw [← e];exact hs p (q - 1) qf qf

open Classical in
noncomputable def resB (N:Nat) (cell:Int) (u:qH):Option yLI:=if cell=N then some u.qy else if u.qA[cell.toNat]! =true then some (u.qE[cell.toNat]!) else none
noncomputable def rsL (N:Nat) (cell:Int) (E:List qH):Nat→yLL
  | 0=>[]
  | k+1=>match resB N cell (E[k]!) with | none=>rsL N cell E k | some b=>putL b (rsL N cell E k)
noncomputable def bgL (N:Nat) (cell:Int) (E:List qH):Nat→yLL
  | 0=>[]
  | k+1=>match resB N cell (E[k]!) with | none=>bgL N cell E k | some b=>bgL N cell E k++[b]
theorem XT {N:Nat} {cell:Int} {u:qH} (h:cell=N):resB N cell u=some u.qy:=if_pos h
theorem XR {N:Nat} {cell:Int} {u:qH} (h:¬ cell=N) (h1:u.qA[cell.toNat]! =true):resB N cell u=some (u.qE[cell.toNat]!):=by rw [resB,if_neg h,if_pos h1]
theorem res_c {N:Nat} {cell:Int} {u:qH} (h:¬ cell=N) (h1:¬ u.qA[cell.toNat]! =true):resB N cell u=none:=by rw [resB,if_neg h,if_neg h1]
theorem zL {N k:Nat} {cell:Int} {E:List qH} {b:yLI} (h:resB N cell (E[k]!)=some b):putL b (rsL N cell E k)=rsL N cell E (k+1):=by rw [rsL,h]
theorem rs_none {N k:Nat} {cell:Int} {E:List qH} (h:resB N cell (E[k]!)=none):rsL N cell E k=rsL N cell E (k+1):=by rw [rsL,h]
theorem bg_some {N k:Nat} {cell:Int} {E:List qH} {b:yLI} (h:resB N cell (E[k]!)=some b):bgL N cell E k++[b]=bgL N cell E (k+1):=by rw [bgL,h]
theorem bg_none {N k:Nat} {cell:Int} {E:List qH} (h:resB N cell (E[k]!)=none):bgL N cell E k=bgL N cell E (k+1):=by rw [bgL,h]
theorem rs_len {N:Nat} {cell:Int} {E:List qH}:∀ k,(rsL N cell E k).length≤k
  | 0=>Nat.le_refl _
  | k+1=>by
    have:=rs_len (N:=N) (cell:=cell) (E:=E) k
    rw [rsL]
    split
    · omega
    · exact Nat.le_trans put_len qf
theorem bg_len {N:Nat} {cell:Int} {E:List qH}:∀ k,(bgL N cell E k).length≤k
  | 0=>Nat.le_refl _
  | k+1=>by
    have:=bg_len (N:=N) (cell:=cell) (E:=E) k
    rw [bgL]
    split
    · omega
    · rw [List.length_append,List.length_singleton];omega
theorem rs_mem {N:Nat} {cell:Int} {E:List qH} {x:yLI}:∀ k,x∈rsL N cell E k↔x∈bgL N cell E k
  | 0=>Iff.rfl
  | k+1=>by
    have ih:=rs_mem (N:=N) (cell:=cell) (E:=E) (x:=x) k
    rw [rsL,bgL]
    split
    · exact ih
    · rw [put_mem,List.mem_append,List.mem_singleton,ih,Or.comm]
theorem resB_len {s:qI} {cell:Int} {u:qH} (h:zu s u) (hc:0≤cell∧cell≤(s.qw.length:Int)) {b:yLI} (hb:resB s.qw.length cell u=some b):b.length=s.xB.toNat:=by
  obtain ⟨h1,h2,h3,h4,h5⟩:=h
  unfold resB at hb
  split at hb
  · cases hb;have:=h4.2;omega
  · split at hb
    · cases hb;have:=(h5 cell.toNat qf).1.2;omega
    · cases hb
theorem bg_row {s:qI} {cell:Int} {E:List qH} (hE:∀ u∈E,zu s u) (hc:0≤cell∧cell≤(s.qw.length:Int)):∀ k,k≤E.length→∀ x∈bgL s.qw.length cell E k,x.length=s.xB.toNat
  | 0,_,x,h=>by simp [bgL] at h
  | k+1,hk,x,h=>by
    have ih:=bg_row hE hc k qf
    rw [bgL] at h
    split at h
    · exact ih x h
    · next b hb=>
      rcases List.mem_append.1 h with h | h
      · exact ih x h
      · obtain rfl:=List.mem_singleton.1 h
        exact resB_len (hE _ (by rw [getElem!_pos E k qf];exact List.getElem_mem _)) hc hb
theorem rs_row {s:qI} {cell:Int} {E:List qH} (hE:∀ u∈E,zu s u) (hc:0≤cell∧cell≤(s.qw.length:Int)) {k:Nat} (hk:k≤E.length):∀ j,j < (rsL s.qw.length cell E k).length→((rsL s.qw.length cell E k)[j]!).length=s.xB.toNat:=fun j hj=>
  bg_row hE hc k hk _ ((rs_mem k).1 (by rw [getElem!_pos _ j hj];exact List.getElem_mem _))
theorem rs_asc {s:qI} {cell:Int} {E:List qH} (hE:∀ u∈E,zu s u) (hc:0≤cell∧cell≤(s.qw.length:Int)):∀ k,k≤E.length→(rsL s.qw.length cell E k).Pairwise ahead
  | 0,_=>List.Pairwise.nil
  | k+1,hk=>by
    have ih:=rs_asc hE hc k qf
    rw [rsL]
    split
    · exact ih
    · next b hb=>
      exact put_asc (resB_len (hE _ (by rw [getElem!_pos E k qf];exact List.getElem_mem _)) hc hb) (fun y hy=>bg_row hE hc k qf y ((rs_mem k).1 hy)) ih
theorem rs_comp {s:qI} {cell:Int} {E:List qH} (hE:∀ u∈E,zu s u) (hc:0≤cell∧cell≤(s.qw.length:Int)) {k:Nat} (hk:k≤E.length) {l:yLL} (hp:(bgL s.qw.length cell E k).Perm l)
    (hs:∀ i j,i < j→j < l.length→¬ ahead (l[j]!) (l[i]!)):rsL s.qw.length cell E k=compL l:=by
  have hK:∀ y∈l,y.length=s.xB.toNat:=fun y hy=>bg_row hE hc k hk y (hp.symm.subset hy)
  exact asc_one (fun y hy=>bg_row hE hc k hk y ((rs_mem k).1 hy)) (rs_asc hE hc k hk) (comp_asc hK hs) fun x=>by rw [comp_mem,rs_mem];exact hp.mem_iff
open Classical in
noncomputable def vw (s:qI) (t:qH) (cell:Int):yLL×Int:=
  if jE s∧zu s t then (if 0≤cell∧cell≤(s.qw.length:Int) then (if (Xp s t).2=0 then (rsL s.qw.length cell (xU s (exG s t).qP (exG s t).qP.length) (xU s (exG s t).qP (exG s t).qP.length).length,0) else ([],(Xp s t).2)) else ([],2)) else ([],1)
theorem rs_1 {s:qI} {t:qH} {cell:Int} (h:¬ (jE s∧zu s t)):vw s t cell=([],1):=by rw [vw,if_neg h]
theorem rs_2 {s:qI} {t:qH} {cell:Int} (h:jE s∧zu s t) (h1:¬ (0≤cell∧cell≤(s.qw.length:Int))):vw s t cell=([],2):=by rw [vw,if_pos h,if_neg h1]
theorem rs_c {s:qI} {t:qH} {cell:Int} (h:jE s∧zu s t) (h1:0≤cell∧cell≤(s.qw.length:Int)) (h2:(Xp s t).2≠0):vw s t cell=([],(Xp s t).2):=by rw [vw,if_pos h,if_pos h1,if_neg h2]
theorem rs_0 {s:qI} {t:qH} {cell:Int} (h:jE s∧zu s t) (h1:0≤cell∧cell≤(s.qw.length:Int)) (h2:(Xp s t).2=0) {i k:Nat} (hi:i=(exG s t).qP.length) (hk:k=(xU s (exG s t).qP i).length):
    vw s t cell=(rsL s.qw.length cell (xU s (exG s t).qP i) k,0):=by subst hk hi;rw [vw,if_pos h,if_pos h1,if_pos h2]
theorem ends_ok {s:qI} {S:List qH} (h:∀ u∈S,zu s u) (k:Nat):∀ u∈xU s S k,zu s u:=fun u hu=>h u (List.mem_of_mem_take (List.mem_filter.1 hu).1)
theorem hs_code {s:qI} {t:qH}:(Qk s t).2=(Xp s t).2:=by
  by_cases h:(Xp s t).2=0
  · rw [hs_0 h];exact h.symm
  · rw [hs_c h]
theorem hs_ok {s:qI} {t:qH} (h:(Qk s t).2=0):(∀ u∈(Qk s t).1,zu s u)∧(Qk s t).1.length≤300∧(Xp s t).2=0:=by
  rw [hs_code] at h
  have ga:=ex_all h
  rw [hs_0 h]
  exact ⟨ends_ok ga.st _,Nat.le_trans (ends_len ..) ga.le,h⟩
theorem rs_i {s:qI} {t:qH} {cell:Int} (h:jE s∧zu s t) (h1:0≤cell∧cell≤(s.qw.length:Int)) (h2:(Qk s t).2=0) {k:Nat} (hk:k=(Qk s t).1.length) {l:yLL} (hp:(bgL s.qw.length cell (Qk s t).1 k).Perm l)
    (hs:∀ i j,i < j→j < l.length→¬ ahead (l[j]!) (l[i]!)):vw s t cell=(compL l,0):=by
  obtain ⟨e1,e2,e3⟩:=hs_ok h2
  rw [← rs_comp e1 h1 qf hp hs,hk,hs_0 e3]
  exact rs_0 h h1 e3 rfl rfl
theorem rs_ci {s:qI} {t:qH} {cell:Int} (h:jE s∧zu s t) (h1:0≤cell∧cell≤(s.qw.length:Int)) (h2:(Qk s t).2≠0):vw s t cell=([],(Qk s t).2):=by
  rw [hs_code] at h2 ⊢;exact rs_c h h1 h2
theorem few_rs (s:qI) (t:qH) (cell:Int):cnt (vw s t cell).1≤2400:=by
  by_cases h:jE s∧zu s t
  · by_cases h1:0≤cell∧cell≤(s.qw.length:Int)
    · by_cases h2:(Xp s t).2=0
      · rw [rs_0 h h1 h2 rfl rfl]
        have ga:=ex_all h2
        have hE:=ends_ok ga.st (exG s t).qP.length
        have hl:=ends_len s (exG s t).qP (exG s t).qP.length
        have h3:=rs_len (N:=s.qw.length) (cell:=cell) (E:=xU s (exG s t).qP (exG s t).qP.length) (xU s (exG s t).qP (exG s t).qP.length).length
        have gl:=ga.le
        have hk:=h.1.1.1
        have:=cntTo_one (rsL s.qw.length cell (xU s (exG s t).qP (exG s t).qP.length) (xU s (exG s t).qP (exG s t).qP.length).length) 8 (fun j hj=>by
          rw [cnt_ints,rs_row hE h1 (Nat.le_refl _) j hj];omega) _ (Nat.le_refl _)
        show cnt (rsL _ _ _ _)≤2400
        rw [cnt_list];omega
      · rw [rs_c h h1 h2];exact Nat.zero_le _
    · rw [rs_2 h h1];exact Nat.zero_le _
  · rw [rs_1 h];exact Nat.zero_le _
theorem perm_row {s:qI} {cell:Int} {E:List qH} (hE:∀ u∈E,zu s u) (hc:0≤cell∧cell≤(s.qw.length:Int)) {k:Nat} (hk:k≤E.length) {l:yLL} (hp:(bgL s.qw.length cell E k).Perm l):∀ j,j < l.length→(l[j]!).length=s.xB.toNat:=fun j hj=>
  bg_row hE hc k hk _ (hp.symm.subset (by rw [getElem!_pos _ j hj];exact List.getElem_mem _))
theorem below_up {p:Nat→Prop} {i:Nat} (h:∀ j,j < i→p j) (h1:p i):∀ j,j < i+1→p j:=fun j hj=>by
  by_cases e:j=i
  · subst e;exact h1
  · exact h j qf
end
section
open Go.Proofs.Tryz
open Go.RowKit
set_option linter.unusedVariables false
set_option linter.unusedSimpArgs false
set_option maxRecDepth 100000
set_option maxHeartbeats 4000000
variable {cb : Nat}
theorem l01Full_ok (w:World) (rest:yLI) (parts:yLL) {arest:yOA} {crest:Nat} {Frest:yLN} {zo:yOA} {zg:Nat} {Fparts:yLN} (hrest:qO.rep w Frest [Sv arest rest.length crest] rest) (hparts:qO.rep w Fparts [Sv zo parts.length zg] parts) (p0:YL parts rest):Calls Tryz.prog 198 #[Sv arest rest.length crest,Sv zo parts.length zg] w (Ret (fun v w' =>v=Bv (dec (FullOk parts rest))) w):=by
 refine en func198 ntmps198 ?_
 have H:=((St.start w).arg hparts).arg hrest
 have nhrest:=qM hrest
 have nhparts:=qM hparts
 clear hrest hparts
 have N:=Fresh.nil w.heap.size
 refine zcr (sp (Bv false) (zjcc (sp (yI 0) (zjn (qX ?_)))))
 refine zD (fun m' ρ w1=>∃ (xY:Env) (i:Nat),ρ=upd (upd (upd xY 0 (Sv arest rest.length crest)) 1 (Sv zo parts.length zg)) 5 (yI i)∧((i:Int)≤parts.length)∧(FullTo parts rest i)∧m' =(parts.length - (i:Int)).toNat∧Fresh w.heap.size []∧St w w1 [] [sF false Frest arest crest rest,sF false Fparts zo zg parts]) ((parts.length - (0:Int)).toNat) ⟨_,0,uE3,qf,(by exact fun j hj=>by omega),rfl,N,H⟩ ?_
 clear H N
 rintro m' ρ w2 ⟨xY,i,rfl,i0,i1,rfl,N,H⟩
 refine zcc (sps [yI i,Sv zo parts.length zg] (oN rfl (sp (Bv (decide ((i:Int) < parts.length))) (zjn (cD rfl (fun h3=>?_) (fun h3=>?_))))))
 ·skip
  refine qW (t_n (xQ (qX (zcr (sps [Sv zo parts.length zg,yI i] ?_)))))
  obtain ⟨b4,o5,rfl⟩:=H.addr 1 rfl qf
  obtain ⟨ae7,ce7,Fe7,H⟩:=H.vV 1 rfl i i qf qf qf
  refine oI rfl rfl (oL rfl (H.xW 1 rfl 0 rfl) (sp (Sv arest rest.length crest) ?_))
  obtain ⟨t1,t2⟩:=p0.times (k:=i) qf
  refine sw (oq (l01Within_ok _ (parts[i]!) rest (H.get 0 rfl).1 (H.get 2 rfl).1 qg) H fun w9 H=>zjn (xE (within (parts[i]!) rest) rfl (fun h11=>?_) (fun h11=>?_)))
  ·skip
   refine zcr (sp (Bv false) (zjr (zr5 (ret1 (Bv false) rfl rfl ⟨_,rfl,?_,H.base⟩))))
   rw [xx (fun h=>by have:=h i qf;simp_all)]
  refine qW (b_n (t_n (xO (sp (yI i) (sw (zB i 1 rfl rfl qf (sp (yI (i+1)) (xM (qY (m' :=(parts.length - ((i+1):Int)).toNat) qf ⟨_,i+1,uE3,?_,?_,rfl,N,H.pick [] [2,3]⟩)))))))))
  · omega
  · exact i1.succ ‹_›
 refine zx4 (zcr (sp (Bv true) (zjr (ret1 (Bv true) rfl rfl ⟨_,rfl,?_,H.base⟩))))
 rw [yH (show FullOk parts rest from fun j hj=>i1 j qf)]

def l01Pack_ok_S (f:Nat):Prop:=∀ {W0 w:World} {ps:List Prv} {Γ:List Fact} {Ns:List yLN} (rest:yLI) (parts:yLL) (vY:yLI) (out:yLL) (arest:yOA) (crest:Nat) (Frest:yLN) (zo:yOA) (zg:Nat) (Fparts:yLN) (abegin:yOA) (cbegin:Nat) (Fbegin:yLN) (bout:Nat) (raout:yOA) (rnout:Nat) (rcout:Nat) (rxout:List Value) (rFout:yLN) (H:St W0 w ((.box bout [Sv raout rnout rcout] 27) :: (rr raout rnout rcout 22 1 rxout) :: ps) ((sF false Frest arest crest rest) :: (sF false Fparts zo zg parts) :: (sF false Fbegin abegin cbegin vY) :: (zf true rFout rxout out) :: Γ)) (N:Fresh W0.heap.size (rFout :: Ns)) (K0:Kept Ns Γ) (p0:vY.length+f=parts.length) (p1:YL parts rest) (p2:out.length≤2000),Calls Tryz.prog 171 #[Sv arest rest.length crest,Sv zo parts.length zg,Sv abegin vY.length cbegin,pp bout 0] w (fun e w' =>∃ v,e=.returned v∧∃ (raout_:yOA) (rnout_:Nat) (rcout_:Nat) (rxout_:List Value) (rFout_:yLN),v=.tuple #[]∧Fresh W0.heap.size (rFout_ :: Ns)∧St W0 w' ((.box bout [Sv raout_ rnout_ rcout_] 27) :: (rr raout_ rnout_ rcout_ 22 1 rxout_) :: ps) ((sF false Frest arest crest rest) :: (sF false Fparts zo zg parts) :: (sF false Fbegin abegin cbegin vY) :: (zf true rFout_ rxout_ (gath out (begins vY (packs parts (parts.length - vY.length) vY.length rest)))) :: Γ))
theorem l01Pack_ok_step (f:Nat) (IH:∀ k,k < f→l01Pack_ok_S k) {W0 w:World} {ps:List Prv} {Γ:List Fact} {Ns:List yLN} (rest:yLI) (parts:yLL) (vY:yLI) (out:yLL) (arest:yOA) (crest:Nat) (Frest:yLN) (zo:yOA) (zg:Nat) (Fparts:yLN) (abegin:yOA) (cbegin:Nat) (Fbegin:yLN) (bout:Nat) (raout:yOA) (rnout:Nat) (rcout:Nat) (rxout:List Value) (rFout:yLN) (H:St W0 w ((.box bout [Sv raout rnout rcout] 27) :: (rr raout rnout rcout 22 1 rxout) :: ps) ((sF false Frest arest crest rest) :: (sF false Fparts zo zg parts) :: (sF false Fbegin abegin cbegin vY) :: (zf true rFout rxout out) :: Γ)) (N:Fresh W0.heap.size (rFout :: Ns)) (K0:Kept Ns Γ) (p0:vY.length+f=parts.length) (p1:YL parts rest) (p2:out.length≤2000):Calls Tryz.prog 171 #[Sv arest rest.length crest,Sv zo parts.length zg,Sv abegin vY.length cbegin,pp bout 0] w (fun e w' =>∃ v,e=.returned v∧∃ (raout_:yOA) (rnout_:Nat) (rcout_:Nat) (rxout_:List Value) (rFout_:yLN),v=.tuple #[]∧Fresh W0.heap.size (rFout_ :: Ns)∧St W0 w' ((.box bout [Sv raout_ rnout_ rcout_] 27) :: (rr raout_ rnout_ rcout_ 22 1 rxout_) :: ps) ((sF false Frest arest crest rest) :: (sF false Fparts zo zg parts) :: (sF false Fbegin abegin cbegin vY) :: (zf true rFout_ rxout_ (gath out (begins vY (packs parts (parts.length - vY.length) vY.length rest)))) :: Γ)):=by
 refine en func171 ntmps171 ?_
 have nhrest:=qM (H.get 0 rfl).1
 have nhparts:=qM (H.get 1 rfl).1
 have nhbegin:=qM (H.get 2 rfl).1
 obtain rfl:=H.zq (α:=yLI) 1 rfl 3 rfl qj
 have p3:=p1.small
 refine zcr (sp (Sv abegin vY.length cbegin) (oN rfl (sp (yI vY.length) (zjcc (sps [yI vY.length,Sv zo parts.length zg] (oN rfl (sp (Bv ((vY.length:Int) == parts.length)) (zjn (cE rfl (fun h1=>?_) (fun h1=>?_))))))))))
 ·skip
  refine zcc (sps [Sv arest rest.length crest,Sv zo parts.length zg] (sw (oq (l01Full_ok _ rest parts (H.get 0 rfl).1 (H.get 1 rfl).1 qg) H fun w3 H=>zjn (cP rfl (fun h5=>?_) (fun h5=>?_)))))
  ·skip
   refine c_cut (fun ρ w11=>∃ (xY:Env) (a6:yOA) (c7:Nat) (a8:yOA) (c9:Nat) (G10:yLN),ρ=xY∧Fresh W0.heap.size ((rFout++G10) :: Ns)∧St W0 w11 ((.box bout [Sv a6 (out.length+1) c7] 27) :: (rr a6 (out.length+1) c7 22 1 (rxout++[Sv a8 vY.length c9])) :: ps) ((zf true (rFout++G10) (rxout++[Sv a8 vY.length c9]) (out++[vY])) :: (sF true G10 a8 c9 vY) :: (sF false Frest arest crest rest) :: (sF false Fparts zo zg parts) :: (sF false Fbegin abegin cbegin vY) :: Γ)) ?_ ?_
   ·skip
    refine c_drawK2 rfl H [] [0,1,2,3] fun H=>?_
    have S:=H.yU [] [0,1,2,3]
    refine rtp 0 (pp bout 0) S ?_
    refine rtp 1 (pp bout 0) S ?_
    refine rtp 2 (pp bout 0) S ?_
    refine rtp 4 (Sv abegin vY.length cbegin) S ?_
    refine jK [3,5] qh qm (Qy rfl ?_ (Qy rfl ?_ jL))
    ·skip
     refine zT (Sv raout out.length rcout) isAgg27 rfl (H.cell 0 rfl rfl) (⟨H.pick [] [0,1,2,3],(ro 5 rfl ?_)⟩)
     have sz13:=H.base.size
     have lt14:=all_two (H.ltN (L:=[rFout]) [3]) (H.ltK (K0.behind 4 rfl))
     refine oc (Vt _ vY (H.get 2 rfl).1 qg) ?_
     rintro v18 w16 r18 x17
     replace H:=H.zJ x17 r18
     obtain ⟨a19,c20,rfl,hc21,hm22⟩:=H.jA 0 rfl
     refine ⟨H.pick [] [0,1,2,3],(ro 6 rfl (zA H underlying27 ti22 [Sv a19 vY.length c20] fun b23 w24 H=>⟨H.pick [] [0,1,2,3],(ro 7 rfl ?_)⟩))⟩
     obtain ⟨G28,N,hn29,H⟩:=H.jb 1 rfl N (fun F hF b hb=>(List.mem_append.1 (show F∈[rFout]++Ns from hF)).elim (fun h=>(H.jU (L:=[rFout]) [3]) F h b hb) fun h=>H.awayK (K0.behind 4 rfl) F h b hb)
     try dsimp only [List.set] at H
     refine zG H 3 rfl 0 rfl underlying27 ti22 rfl qj rfl rfl rfl (by simp [Value.oneCell',Value.cells]) qp qf fun a25 c26 w27 H=>?_
     try dsimp only [List.set] at H
     replace H:=H.jd 4 rfl 0 rfl
     replace N:Fresh W0.heap.size ((rFout++G28) :: Ns):=(N.Jc 2 [1,0] qo).join
     refine ⟨H.pick [] [2,3,4,5],(rtp 8 (pp bout 0) (H.pick [] [2,3,4,5]) ?_)⟩
     refine ro 9 rfl (zO H 2 [Sv a25 (out.length+1) c26] sizeOf27 fun w30 H=>?_)
     try dsimp only [List.set] at H
     refine ⟨H.pick [] [2,3,4,5],(xP qh ((meet ⟨_,a25,c26,a19,c20,G28,(by exact rfl),N,H.Jc 4 6 [2,3] [0,1,2,3,4] qo qo⟩)))⟩
    have sz31:=H.base.size
    have lt32:=all_two (H.ltN (L:=[rFout]) [3]) (H.ltK (K0.behind 4 rfl))
    refine oc (Vt _ vY (H.get 2 rfl).1 qg) ?_
    rintro v36 w34 r36 x35
    replace H:=H.zJ x35 r36
    obtain ⟨a37,c38,rfl,hc39,hm40⟩:=H.jA 0 rfl
    refine ⟨H.pick [] [0,1,2,3],(jK [3,6] qh qm (Qy rfl ?_ (Qy rfl ?_ jL)))⟩
    ·skip
     refine zT (Sv raout out.length rcout) isAgg27 rfl (H.cell 1 rfl rfl) (⟨H.pick [] [0,1,2,3],(ro 6 rfl (zA H underlying27 ti22 [Sv a37 vY.length c38] fun b41 w42 H=>⟨H.pick [] [0,1,2,3],(ro 7 rfl ?_)⟩))⟩)
     obtain ⟨G46,N,hn47,H⟩:=H.jb 1 rfl N (fun F hF b hb=>(List.mem_append.1 (show F∈[rFout]++Ns from hF)).elim (fun h=>(H.jU (L:=[rFout]) [3]) F h b hb) fun h=>H.awayK (K0.behind 4 rfl) F h b hb)
     try dsimp only [List.set] at H
     refine zG H 3 rfl 0 rfl underlying27 ti22 rfl qj rfl rfl rfl (by simp [Value.oneCell',Value.cells]) qp qf fun a43 c44 w45 H=>?_
     try dsimp only [List.set] at H
     replace H:=H.jd 4 rfl 0 rfl
     replace N:Fresh W0.heap.size ((rFout++G46) :: Ns):=(N.Jc 2 [1,0] qo).join
     refine ⟨H.pick [] [2,3,4,5],(rtp 8 (pp bout 0) (H.pick [] [2,3,4,5]) ?_)⟩
     refine ro 9 rfl (zO H 2 [Sv a43 (out.length+1) c44] sizeOf27 fun w48 H=>?_)
     try dsimp only [List.set] at H
     refine ⟨H.pick [] [2,3,4,5],(xP qh ((meet ⟨_,a43,c44,a37,c38,G46,(by exact rfl),N,H.Jc 4 6 [2,3] [0,1,2,3,4] qo qo⟩)))⟩
    refine zA H underlying27 ti22 [Sv a37 vY.length c38] fun b49 w50 H=>⟨H.pick [] [0,1,2,3],(ro 3 rfl (zT (Sv raout out.length rcout) isAgg27 rfl (H.cell 2 rfl rfl) (⟨H.pick [] [0,1,2,3],(ro 7 rfl ?_)⟩)))⟩
    obtain ⟨G54,N,hn55,H⟩:=H.jb 1 rfl N (fun F hF b hb=>(List.mem_append.1 (show F∈[rFout]++Ns from hF)).elim (fun h=>(H.jU (L:=[rFout]) [3]) F h b hb) fun h=>H.awayK (K0.behind 4 rfl) F h b hb)
    try dsimp only [List.set] at H
    refine zG H 3 rfl 0 rfl underlying27 ti22 rfl qj rfl rfl rfl (by simp [Value.oneCell',Value.cells]) qp qf fun a51 c52 w53 H=>?_
    try dsimp only [List.set] at H
    replace H:=H.jd 4 rfl 0 rfl
    replace N:Fresh W0.heap.size ((rFout++G54) :: Ns):=(N.Jc 2 [1,0] qo).join
    refine ⟨H.pick [] [2,3,4,5],(rtp 8 (pp bout 0) (H.pick [] [2,3,4,5]) ?_)⟩
    refine ro 9 rfl (zO H 2 [Sv a51 (out.length+1) c52] sizeOf27 fun w56 H=>?_)
    try dsimp only [List.set] at H
    refine ⟨H.pick [] [2,3,4,5],(xP qh ((meet ⟨_,a51,c52,a37,c38,G54,(by exact rfl),N,H.Jc 4 6 [2,3] [0,1,2,3,4] qo qo⟩)))⟩
   clear H N
   rintro ρ w57 ⟨xY,a6,c7,a8,c9,G10,rfl,N,H⟩
   refine t_n (c_ret (t_r (ret0' rfl ⟨_,rfl,?_⟩)))
   rw [pack_full qf ‹_› p2]
   exact ⟨a6,out.length+1,c7,rxout++[Value.slice a8 vY.length c9],(rFout++G10),rfl,N,H.Jc 2 5 [0,1] [2,3,4,0] qo qo⟩
  refine qW (t_n (c_ret (t_r (ret0' rfl ⟨_,rfl,?_⟩))))
  rw [pack_none qf ‹_› p2]
  exact ⟨raout,out.length,rcout,rxout,rFout,rfl,N,H.Jc 2 4 [0,1] [0,1,2,3] qo qo⟩
 refine qW (t_n (zcr (sp (yI 0) (zjn (qX ?_)))))
 obtain ⟨t1,t2,t3,t4,t5,t6⟩:=p1.times (k:=vY.length) qf
 refine zD (fun m' ρ w58=>∃ (xY:Env) (n:Nat) (zX:yOA) (xX:Nat) (zK:Nat) (out_1:yLL) (Ql:List Value) (jI:yLN),ρ=upd (upd (upd (upd (upd (upd xY 0 (Sv arest rest.length crest)) 1 (Sv zo parts.length zg)) 2 (Sv abegin vY.length cbegin)) 3 (pp bout 0)) 8 (yI vY.length)) 9 (yI n)∧out_1=gath out (begins vY (jM parts (f - 1) vY.length rest n))∧((n:Int)≤jD (parts[vY.length]!) rest+1)∧m' =(jD (parts[vY.length]!) rest+1 - (n:Int)).toNat∧Fresh W0.heap.size (jI :: Ns)∧St W0 w58 ((.box bout [Sv zX xX zK] 27) :: (rr zX xX zK 22 1 Ql) :: ps) ((sF false Frest arest crest rest) :: (sF false Fparts zo zg parts) :: (sF false Fbegin abegin cbegin vY) :: (zf true jI Ql out_1) :: Γ)) ((jD (parts[vY.length]!) rest+1 - (0:Int)).toNat) ⟨_,0,raout,out.length,rcout,out,rxout,rFout,uE6,(by exact pack_start p2),qf,rfl,N,H⟩ ?_
 clear H N
 rintro m' ρ w59 ⟨xY,n,zX,xX,zK,out_1,Ql,jI,rfl,rfl,i0,rfl,N,H⟩
 have hn_out:=H.zq (α:=yLI) 1 rfl 3 rfl qj
 have gl:=gath_len out (begins vY (jM parts (f - 1) vY.length rest n))
 refine zcc (sps [yI n,Sv zo parts.length zg,yI vY.length] ?_)
 obtain ⟨b60,o61,rfl⟩:=H.addr 1 rfl qf
 obtain ⟨ae63,ce63,Fe63,H⟩:=H.vV 1 rfl vY.length vY.length qf qf qf
 refine oI rfl rfl (oL rfl (H.xW 1 rfl 0 rfl) (sp (Sv arest rest.length crest) ?_))
 obtain ⟨t1,t2,t3,t4,t5,t6⟩:=p1.times (k:=vY.length) qf
 refine sw (oq (l01Times_ok _ (parts[vY.length]!) rest (H.get 0 rfl).1 (H.get 2 rfl).1 qg qg qg) H fun w65 H=>sps [Bv (decide ((n:Int)≤(jD (parts[vY.length]!) rest))),Bv (decide ((n:Int)≤(jD (parts[vY.length]!) rest)))] ?_)
 cases h67:(decide ((n:Int)≤(jD (parts[vY.length]!) rest)))
 ·skip
  replace h67:=of_decide_eq_false h67
  refine zk [37,38,39,40,41] (sp (Bv false) (zjn (xE false rfl (fun h=>absurd h qj) (fun _=>c_exit (t_x (t_x (b_x (ret0 rfl ⟨_,rfl,?_⟩))))))))
  rw [pack_end p0 qf qf qf (by first | (left;omega) | (right;omega))]
  exact ⟨zX,xX,zK,Ql,jI,rfl,N,H.Jc 2 6 [0,1] [2,3,4,5] qo qo⟩
 replace h67:=of_decide_eq_true h67
 refine qQ 36 rfl rfl (sp (pp bout 0) (qQ 36 rfl rfl (sp (pp bout 0) (qQ 36 rfl rfl (oL rfl (H.cell 0 rfl rfl) (qQ 36 rfl rfl (oN rfl (qQ 36 rfl rfl (sps [Bv (decide ((xX:Int)≤2000)),Bv (decide ((xX:Int)≤2000))] (zjn (cD rfl (fun h68=>?_) (fun h68=>?_))))))))))))
 ·skip
  refine qW (t_n (xQ (qX (xO (sps [Sv arest rest.length crest,Sv (aa b60 o61) parts.length zg,yI vY.length] (oI rfl rfl (oL rfl (H.xW 1 rfl 0 rfl) (sp (yI n) (sw (o_neg n rfl qf ?_))))))))))
  obtain ⟨u1,u2,u3,u4⟩:=p1.plus (k:=vY.length) qf (n:=(n:Int)) qf qf
  have sz69:=H.base.size
  have lt70:=all_two (H.ltN (L:=[jI]) [5]) (H.ltK (K0.behind 6 rfl))
  refine sw (oc (Vx _ rest (parts[vY.length]!) (-n) (H.get 2 rfl).1 (H.get 0 rfl).1 qg qg qg) ?_)
  rintro v74 w72 r74 x73
  replace H:=H.zJ x73 r74
  obtain ⟨a75,c76,rfl,hc77,hm78⟩:=H.jA 0 rfl
  refine sps [Sv (aa b60 o61) parts.length zg,Sv abegin vY.length cbegin] ?_
  have sz79:=H.base.size
  have lt80:=all_two (H.ltN (L:=[jI]) [5]) (H.ltK (K0.behind 6 rfl))
  refine sw (oc (Vt _ vY (H.get 4 rfl).1 qg) ?_)
  rintro v84 w82 r84 x83
  replace H:=H.zJ x83 r84
  obtain ⟨a85,c86,rfl,hc87,hm88⟩:=H.jA 0 rfl
  refine sp (yI n) (sw (zA H underlying22 ti2 [yI n] fun b89 w90 H=>sw (zG H 1 rfl 0 rfl underlying22 ti2 rfl qj rfl rfl rfl (by simp [Value.oneCell',Value.cells]) qp qf fun a91 c92 w93 H=>?_)))
  rw [snocI] at H
  try dsimp only [List.set] at H
  refine sp (pp bout 0) ?_
  obtain ⟨G94,N,hn95,H⟩:=H.jb 2 rfl N (fun F hF b hb=>(List.mem_append.1 (show F∈[jI]++Ns from hF)).elim (fun h=>(H.jU (L:=[jI]) [5]) F h b hb) fun h=>H.awayK (K0.behind 6 rfl) F h b hb)
  try dsimp only [List.set] at H
  replace H:=H.unfreeI 0 rfl
  obtain ⟨G96,N,hn97,H⟩:=H.jb 1 rfl N (fun F hF b hb=>(List.mem_append.1 (show F∈[G94,jI]++Ns from hF)).elim (fun h=>(H.jU (L:=[G94,jI]) [0,7]) F h b hb) fun h=>H.awayK (K0.behind 8 rfl) F h b hb)
  try dsimp only [List.set] at H
  replace H:=H.unfreeI 0 rfl
  have hn98:=H.isLen 0 rfl
  have H1:St W0 w93 ((.box bout [Sv zX xX zK] 27) :: (.row (Sv zX xX zK) 22 1 xX Ql) :: (.box b89 [yI n] 2) :: (.row yN 0 1 0 []) :: (.row yN 0 1 0 []) :: ps) ((isF false G94 (Sv a75 ((ji rest (parts[vY.length]!) (-n)).length) c76) (ji rest (parts[vY.length]!) (-n))) :: (isF false Fparts (Sv (aa b60 o61) parts.length zg) parts) :: (isF false G96 (Sv a91 ((vY++[(n:Int)]).length) c92) (vY++[(n:Int)])) :: (zf true jI Ql (gath out (begins vY (jM parts (f - 1) vY.length rest n)))) :: (isF false G96 (Sv a91 (vY.length+1) c92) (vY++[(n:Int)])) :: (isF true G96 (Sv a91 (vY.length+1) c92) (vY++[(n:Int)])) :: (isF false G94 (Sv a75 ((ji rest (parts[vY.length]!) (-n)).length) c76) (ji rest (parts[vY.length]!) (-n))) :: (isF true G94 (Sv a75 ((ji rest (parts[vY.length]!) (-n)).length) c76) (ji rest (parts[vY.length]!) (-n))) :: (isF false Fe63 (Sv ae63 ((parts[vY.length]!).length) ce63) (parts[vY.length]!)) :: (atF b60 (o61+(vY.length:Int).toNat * 1) [Sv ae63 ((parts[vY.length]!).length) ce63]) :: (isF false Frest (Sv arest rest.length crest) rest) :: (isF false Fparts (Sv (aa b60 o61) parts.length zg) parts) :: (isF false Fbegin (Sv abegin vY.length cbegin) vY) :: Γ):=by (try rw [← hn98]);exact H.Jc 5 10 [3,4,0,1,2] [2,7,0,9,0,1,2,3,4,5,6,7,8] qo qo
  have N1:Fresh _ (jI :: G96 :: G94 :: Ns):=(N.Jc 3 [2,0,1] qo)
  have K1:Kept (Ns) ((isF false G96 (Sv a91 (vY.length+1) c92) (vY++[(n:Int)])) :: (isF true G96 (Sv a91 (vY.length+1) c92) (vY++[(n:Int)])) :: (sF false G94 a75 c76 (ji rest (parts[vY.length]!) (-n))) :: (sF true G94 a75 c76 (ji rest (parts[vY.length]!) (-n))) :: (sF false Fe63 ae63 ce63 (parts[vY.length]!)) :: (atF b60 (o61+(vY.length:Int).toNat * 1) [Sv ae63 ((parts[vY.length]!).length) ce63]) :: (sF false Frest arest crest rest) :: (sF false Fparts (aa b60 o61) zg parts) :: (sF false Fbegin abegin cbegin vY) :: Γ):=K0.behind 9 rfl
  replace K1:=K1.cons (F:=G94) 2 rfl rfl
  replace K1:=K1.cons (F:=G96) 0 rfl rfl
  refine sw (o_callF #[Sv a75 ((ji rest (parts[vY.length]!) (-n)).length) c76,Sv (aa b60 o61) parts.length zg,Sv a91 (vY.length+1) c92,pp bout 0] rfl rfl call171 (args_eq (by first | rfl | rw [hn98]) (IH (f - 1) qf (ji rest (parts[vY.length]!) (-n)) parts (vY++[(n:Int)]) (gath out (begins vY (jM parts (f - 1) vY.length rest n))) a75 c76 G94 (aa b60 o61) zg Fparts a91 c92 G96 bout zX xX zK Ql jI H1 N1 K1 (by simp only [List.length_append,List.length_cons,List.length_nil];omega) (by first | assumption | exact u4) (by first | assumption | (simp only [List.length_nil];omega) | omega))) ?_)
  clear H H1 N1 K1
  rintro _ w99 ⟨ra100,rn100,rc100,rx100,rF100,rfl,N,H⟩
  obtain rfl:=H.zq (α:=yLI) 1 rfl 3 rfl qj
  refine xM (b_n (t_n (xO (sp (yI n) (sw (zB n 1 rfl rfl qf (sp (yI (n+1)) (xM ?_))))))))
  refine qY (m' :=(jD (parts[vY.length]!) rest+1 - ((n+1):Int)).toNat) qf ⟨_,n+1,ra100,(gath (gath out (begins vY (jM parts (f - 1) vY.length rest n))) (begins (vY++[(n:Int)]) (packs parts (parts.length - (vY++[(n:Int)]).length) (vY++[(n:Int)]).length (ji rest (parts[vY.length]!) (-n))))).length,rc100,(gath (gath out (begins vY (jM parts (f - 1) vY.length rest n))) (begins (vY++[(n:Int)]) (packs parts (parts.length - (vY++[(n:Int)]).length) (vY++[(n:Int)]).length (ji rest (parts[vY.length]!) (-n))))),rx100,rF100,uE6,?_,?_,rfl,(N.Jc 3 [0] qo),H.Jc 5 13 [0,1] [10,11,12,3] qo qo⟩
  · exact pack_step p0 qf qf
  · omega
 refine c_exit (t_x (t_x (b_x (ret0 rfl ⟨_,rfl,?_⟩))))
 rw [pack_end p0 qf qf qf (by first | (left;omega) | (right;omega))]
 exact ⟨zX,xX,zK,Ql,jI,rfl,N,H.Jc 2 6 [0,1] [2,3,4,5] qo qo⟩

theorem l01Pack_ok (f:Nat):l01Pack_ok_S f:=Nat.strongRecOn (motive:=l01Pack_ok_S) f fun f IH=>by unfold l01Pack_ok_S;intros;apply l01Pack_ok_step f IH <;> assumption

theorem l01All_ok (w:World) (b:yLI) (parts:yLL) {ab:yOA} {Fb:yLN} {zo:yOA} {zg:Nat} {Fparts:yLN} (hb:qO.rep w Fb [Sv ab b.length cb] b) (hparts:qO.rep w Fparts [Sv zo parts.length zg] parts) (p0:YL parts b):Calls Tryz.prog 136 #[Sv ab b.length cb,Sv zo parts.length zg] w (Ret (fun v w' =>∃ (ra0:yOA) (rn0:Nat) (rc0:Nat) (rx0:List Value) (rF0:yLN),v=.tuple #[Sv ra0 rn0 rc0,yI ((vC b parts).2)]∧Fresh w.heap.size [rF0]∧St w w' [rr ra0 rn0 rc0 22 1 rx0] [zf true rF0 rx0 ((vC b parts).1)]) w):=by
 refine en func136 ntmps136 ?_
 have H:=((St.start w).arg hparts).arg hb
 have nhb:=qM hb
 have nhparts:=qM hparts
 clear hb hparts
 have N:=Fresh.nil w.heap.size
 have p3:=p0.small
 have p4:=p0.smallB
 refine zcr (sps [yN,yI 0] (zjcc (sp (Sv ab b.length cb) (sw (oq (Y7 _ b (H.get 0 rfl).1 (by first | assumption | exact vX ql | exact QD ql)) H fun w1 H=>sp (Bv (decide ((Yd b:Int) > 16))) (zjn (cD rfl (fun h3=>?_) (fun h3=>?_))))))))
 ·skip
  refine zcr (sw (vP H underlying27 ti22 fun b4 w5 H=>sps [Sv (aa b4 0) 0 0,yI 3] (zjr (t_r ?_))))
  replace H:=H.boxRow 0 rfl 1 0 rfl qj
  replace H:=H.vT (α:=yLI)
  refine ret2 (Sv (aa b4 0) 0 0) (yI 3) rfl rfl rfl ⟨_,rfl,?_,H.base⟩
  first | rw [all_a ql] | rw [all_b ql ql]
  exact ⟨(aa b4 0),0,0,[],[],rfl,N.emp,H.pick [0] [0]⟩
 refine qW (t_n (zcr (sw (vP H underlying27 ti22 fun b6 w7 H=>sw (zh H ti27 [yN] fun b8 w9 H=>sw (zO H 0 [Sv (aa b6 0) 0 0] sizeOf27 fun w10 H=>zjc (sps [Sv ab b.length cb,Sv zo parts.length zg] (sw (vP H underlying22 ti2 fun b11 w12 H=>?_)))))))))
 replace H:=H.boxRowI 0 [] 0
 obtain ⟨G13,N,hn14,H⟩:=H.jb 0 rfl N (H.jU [])
 replace H:=H.unfreeI 0 rfl
 have hn15:=H.isLen 0 rfl
 replace H:=H.boxRow 2 rfl 1 0 rfl qj
 replace H:=H.vT (α:=yLI)
 have H1:St w w12 [.box b8 [Sv (aa b6 0) 0 0] 27,.row (Sv (aa b6 0) 0 0) 22 1 0 [],.row yN 0 1 0 []] [isF false Fb (Sv ab b.length cb) b,isF false Fparts (Sv zo parts.length zg) parts,isF false G13 (Sv (aa b11 0) (([]:yLI).length) 0) ([]:yLI),zf true [] [] ([]:yLL),isF false G13 (Sv (aa b11 0) 0 0) ([]:yLI),isF true G13 (Sv (aa b11 0) 0 0) ([]:yLI),isF false Fb (Sv ab b.length cb) b,isF false Fparts (Sv zo parts.length zg) parts]:=by (try rw [← hn15]);exact H.pick [1,2,0] [3,4,1,0,1,2,3,4]
 have N1:Fresh _ [[],G13]:=N.emp
 have K1:Kept [] [isF false G13 (Sv (aa b11 0) 0 0) ([]:yLI),isF true G13 (Sv (aa b11 0) 0 0) ([]:yLI),sF false Fb ab cb b,sF false Fparts zo zg parts]:=Kept.nil _
 replace K1:=K1.cons (F:=G13) 0 rfl rfl
 refine sw (o_callF #[Sv ab b.length cb,Sv zo parts.length zg,Sv (aa b11 0) 0 0,pp b8 0] rfl rfl call171 (args_eq (by first | rfl | rw [hn15]) (l01Pack_ok (parts.length - ([]:yLI).length) b parts ([]:yLI) ([]:yLL) ab cb Fb zo zg Fparts (aa b11 0) 0 G13 b8 (aa b6 0) 0 0 [] [] H1 N1 K1 (by simp only [List.length_append,List.length_cons,List.length_nil];omega) (by first | assumption | exact u4) (by first | assumption | (simp only [List.length_nil];omega) | omega))) ?_)
 clear H H1 N1 K1
 rintro _ w16 ⟨ra17,rn17,rc17,rx17,rF17,rfl,N,H⟩
 obtain rfl:=H.zq (α:=yLI) 1 rfl 3 rfl qj
 refine zjcc (oL rfl (H.cell 0 rfl rfl) (oN rfl (sp (Bv (decide (((gath ([]:yLL) (begins ([]:yLI) (packs parts (parts.length - ([]:yLI).length) ([]:yLI).length b))).length:Int) > 2000))) (zjn (cD rfl (fun h18=>?_) (fun h18=>?_))))))
 ·skip
  refine zcr (sw (vP H underlying27 ti22 fun b19 w20 H=>sps [Sv (aa b19 0) 0 0,yI 3] (zjr (t_r ?_))))
  replace H:=H.boxRow 0 rfl 1 0 rfl qj
  replace H:=H.vT (α:=yLI)
  refine ret2 (Sv (aa b19 0) 0 0) (yI 3) rfl rfl rfl ⟨_,rfl,?_,H.base⟩
  first | rw [all_a ql] | rw [all_b ql ql]
  exact ⟨(aa b19 0),0,0,[],[],rfl,(N.emp.pick [0]),H.pick [0] [0]⟩
 refine qW (t_n (zcr (oL rfl (H.cell 0 rfl rfl) (sps [Sv ra17 ((gath ([]:yLL) (begins ([]:yLI) (packs parts (parts.length - ([]:yLI).length) ([]:yLI).length b))).length) rc17,yI 0] (zjr (ret2 (Sv ra17 ((gath ([]:yLL) (begins ([]:yLI) (packs parts (parts.length - ([]:yLI).length) ([]:yLI).length b))).length) rc17) (yI 0) rfl rfl rfl ⟨_,rfl,?_,H.base⟩))))))
 rw [all_0 ql ql]
 exact ⟨ra17,(gath ([]:yLL) (begins ([]:yLI) (packs parts (parts.length - ([]:yLI).length) ([]:yLI).length b))).length,rc17,rx17,rF17,rfl,(N.pick [0]),H.pick [1] [3]⟩
theorem l03Before_ok (w:World) (a:yLI) (b:yLI) {aa:yOA} {ca:Nat} {Fa:yLN} {ab:yOA} {Fb:yLN} (ha:qO.rep w Fa [Sv aa a.length ca] a) (hb:qO.rep w Fb [Sv ab b.length cb] b) (p0:a.length=b.length):Calls Tryz.prog 102 #[Sv aa a.length ca,Sv ab b.length cb] w (Ret (fun v w' =>v=Bv (dec (ahead a b))) w):=by
 refine en func102 ntmps102 ?_
 have H:=((St.start w).arg hb).arg ha
 have nha:=qM ha
 have nhb:=qM hb
 clear ha hb
 have N:=Fresh.nil w.heap.size
 refine zcr (sp (Bv false) (zjcc (sp (yI 0) (zjn (qX ?_)))))
 refine zD (fun m' ρ w1=>∃ (xY:Env) (i:Nat),ρ=upd (upd (upd xY 0 (Sv aa a.length ca)) 1 (Sv ab b.length cb)) 5 (yI i)∧((i:Int)≤a.length)∧(SameTo a b i)∧m' =(a.length - (i:Int)).toNat∧Fresh w.heap.size []∧St w w1 [] [sF false Fa aa ca a,sF false Fb ab cb b]) ((a.length - (0:Int)).toNat) ⟨_,0,uE3,qf,(by exact fun j hj=>by omega),rfl,N,H⟩ ?_
 clear H N
 rintro m' ρ w2 ⟨xY,i,rfl,i0,i1,rfl,N,H⟩
 refine zcc (sps [yI i,Sv aa a.length ca] (oN rfl (sp (Bv (decide ((i:Int) < a.length))) (zjn (cD rfl (fun h3=>?_) (fun h3=>?_))))))
 ·skip
  refine qW (t_n (xQ (qX (xQ ?_))))
  refine jh rfl H fun H=>rtp 0 (Sv aa a.length ca) H ?_
  refine rtp 1 (yI i) H ?_
  obtain ⟨b5,o6,rfl⟩:=H.addr 0 rfl qf
  refine tI 2 rfl rfl rfl H ?_
  refine tL 3 rfl rfl (fun _ h=>h.yG 0 rfl i qf) H ?_
  refine rtp 4 (Sv ab b.length cb) H ?_
  refine rtp 5 (yI i) H ?_
  obtain ⟨b8,o9,rfl⟩:=H.addr 1 rfl qf
  refine tI 6 rfl rfl rfl H ?_
  refine tL 7 rfl rfl (fun _ h=>h.yG 1 rfl i qf) H ?_
  refine rtp 8 (Bv ((a[i]! :Int) != (b[i]!))) H ?_
  refine xP qh (t_n (xE ((a[i]! :Int) != (b[i]!)) rfl (fun h11=>?_) (fun h11=>?_)))
  ·skip
   replace h11:=bne_iff_ne.1 h11
   refine xQ ?_
   refine jh rfl H fun H=>rtp 0 (Sv (aa b5 o6) a.length ca) H ?_
   refine rtp 1 (yI i) H ?_
   refine tI 2 rfl rfl rfl H ?_
   refine tL 3 rfl rfl (fun _ h=>h.yG 0 rfl i qf) H ?_
   refine rtp 4 (Sv (aa b8 o9) b.length cb) H ?_
   refine rtp 5 (yI i) H ?_
   refine tI 6 rfl rfl rfl H ?_
   refine tL 7 rfl rfl (fun _ h=>h.yG 1 rfl i qf) H ?_
   refine rtp 8 (Bv (decide ((a[i]! :Int) < (b[i]!)))) H ?_
   refine rtp 9 (Bv (decide ((a[i]! :Int) < (b[i]!)))) H ?_
   refine xP qh (t_n (c_ret (zr5 (ret1 (Bv (decide ((a[i]! :Int) < (b[i]!)))) rfl rfl ⟨_,rfl,?_,H.base⟩))))
   first | rw [xx (ahead_same (show SameTo a b a.length from fun j hj=>i1 j qf))] | rw [show decide (a[i]! < b[i]!)=dec (ahead a b) from dec_eq ⟨fun h=>ahead_yes i1 qf (of_decide_eq_true h),fun h=>decide_eq_true (Classical.byContradiction fun h1=>ahead_no i1 h1 ‹_› h)⟩]
  replace h11:=xw h11
  refine qW (b_n (t_n (xO (sp (yI i) (sw (zB i 1 rfl rfl qf (sp (yI (i+1)) (xM (qY (m' :=(a.length - ((i+1):Int)).toNat) qf ⟨_,i+1,uE3,?_,?_,rfl,N,H⟩)))))))))
  · omega
  · exact i1.succ qg
 refine zx4 (zcr (sp (Bv false) (zjr (ret1 (Bv false) rfl rfl ⟨_,rfl,?_,H.base⟩))))
 first | rw [xx (ahead_same (show SameTo a b a.length from fun j hj=>i1 j qf))] | rw [show decide (a[i]! < b[i]!)=dec (ahead a b) from dec_eq ⟨fun h=>ahead_yes i1 qf (of_decide_eq_true h),fun h=>decide_eq_true (Classical.byContradiction fun h1=>ahead_no i1 h1 ‹_› h)⟩]

theorem l03Count_ok (w:World) (all:List yLL) {aall:yOA} {call:Nat} {Fall:yLN} (hall:qO.rep w Fall [Sv aall all.length call] all) (p0:∀ j,j≤all.length→((Xz all j:Nat):Int)≤2862423051509815793):Calls Tryz.prog 100 #[Sv aall all.length call] w (Ret (fun v w' =>v=yI ((Xz all all.length:Nat):Int)) w):=by
 refine en func100 ntmps100 ?_
 have H:=(St.start w).arg hall
 have nhall:=qM hall
 clear hall
 have N:=Fresh.nil w.heap.size
 refine zcr (sp (yI 0) (zjc (sp (yI 1) (zjcc (sp (yI 0) (zjn (qX ?_)))))))
 refine zD (fun m' ρ w1=>∃ (xY:Env) (n:Int) (i:Nat),ρ=upd (upd (upd xY 0 (Sv aall all.length call)) 3 (yI n)) 4 (yI i)∧n=((Xz all i:Nat):Int)∧((i:Int)≤all.length)∧m' =(all.length - (i:Int)).toNat∧Fresh w.heap.size []∧St w w1 [] [sF false Fall aall call all]) ((all.length - (0:Int)).toNat) ⟨_,1,0,uE3,(by rfl),qf,rfl,N,H⟩ ?_
 clear H N
 rintro m' ρ w2 ⟨xY,n,i,rfl,rfl,i0,rfl,N,H⟩
 have pm:=prod_mul all i
 have pb:=fun h=>p0 (i+1) h
 have pn:=Int.natCast_nonneg (Xz all (i+1))
 refine zcc (sps [yI i,Sv aall all.length call] (oN rfl (sp (Bv (decide ((i:Int) < all.length))) (zjn (cD rfl (fun h3=>?_) (fun h3=>?_))))))
 ·skip
  refine qW (t_n (xQ (qX (xO (sps [yI ((Xz all i:Nat):Int),Sv aall all.length call,yI i] ?_)))))
  obtain ⟨b4,o5,rfl⟩:=H.addr 0 rfl qf
  obtain ⟨ae7,ce7,Fe7,H⟩:=H.vV 0 rfl i i qf qf qf
  refine oI rfl rfl (oL rfl (H.xW 1 rfl 0 rfl) (oN rfl (sw (o_mul ((Xz all i:Nat):Int) ((all[i]!).length) rfl rfl qf (sp (yI (((Xz all i:Nat):Int) * ((all[i]!).length))) (xM (b_n (t_n (xO (sp (yI i) (sw (zB i 1 rfl rfl qf (sp (yI (i+1)) (xM (qY (m' :=(all.length - ((i+1):Int)).toNat) qf ⟨_,((Xz all i:Nat):Int) * ((all[i]!).length),i+1,uE3,?_,?_,rfl,N,H.pick [] [2]⟩)))))))))))))))
  · exact prod_mul all i
  · omega
 refine zx4 (zcr (sps [yI ((Xz all i:Nat):Int),yI ((Xz all i:Nat):Int)] (zjr (ret1 (yI ((Xz all i:Nat):Int)) rfl rfl ⟨_,rfl,?_,H.base⟩))))
 rw [show i=all.length by omega]

theorem l03Choices_ok (w:World) (s:qI) (t:qH) {bs os:Nat} {qC:yOA} {qB:Nat} {qZ:yLN} {qN:yOA} {qJ:Nat} {xG:yLN} {bt ot:Nat} {qV:yOA} {qR:Nat} {xR:yLN} {xm:yOA} {xk:Nat} {zC:yLN} {qL:yOA} {qK:Nat} {xC:yLN} (hs:vN w bs os (yS s qC qB qN qJ)) (xf:qO.rep w qZ [Sv qC s.qw.length qB] s.qw) (xJ:qO.rep w xG [Sv qN s.qx.length qJ] s.qx) (ht:vN w bt ot (yT t qV qR xm xk qL qK)) (zi:qO.rep w xR [Sv qV t.qA.length qR] t.qA) (zM:qO.rep w zC [Sv xm t.qE.length xk] t.qE) (xN:qO.rep w xC [Sv qL t.qy.length qK] t.qy) (p0:jE s) (p1:zu s t):Calls Tryz.prog 58 #[pp bs os,pp bt ot] w (Ret (fun v w' =>∃ (ra0:yOA) (rn0:Nat) (rc0:Nat) (rx0:List Value) (rF0:yLN),v=.tuple #[Sv ra0 rn0 rc0,yI ((vF s t).2)]∧Fresh w.heap.size [rF0]∧St w w' [rr ra0 rn0 rc0 22 1 rx0] [zf true rF0 rx0 ((vF s t).1)]) w):=by
 refine en func58 ntmps58 ?_
 have H:=(((((((St.start w).arg xN).arg zM).arg zi).V7 ht).arg xJ).arg xf).V7 hs
 have vH:=qM xf
 have jw:=qM xJ
 have Qj:=qM zi
 have Q7:=qM zM
 have jV:=qM xN
 clear hs xf xJ ht zi zM xN
 have N:=Fresh.nil w.heap.size
 have p2:=p0.2.1
 have p3:=p0.1.2.1
 have p4:=p1.1
 have p5:=p1.2.1
 refine zcr (sps [yN,yI 0] (zjc (sps [pp bs os,pp bt ot] (sw (vJ #[pp bs os,pp bt ot] rfl rfl call99 (en func99 ntmps99 ?_))))))
 refine zcr (sps [yN,yN,yI 0] (zjc (sps [pp bs os,pp bt ot] ?_)))
 have sz4:=H.base.size
 refine sw (oc (l03Applicable_ok _ s t (qF (H.get 0 rfl) 0 3) (H.get 1 rfl).1 (H.get 2 rfl).1 (qF (H.get 3 rfl) 0 3) (H.get 4 rfl).1 (H.get 5 rfl).1 (H.get 6 rfl).1 qg qg) ?_)
 rintro _ w2 ⟨ra1,rn1,rc1,rfl,M,K⟩ _
 replace H:=H.merge K M
 obtain rfl:=H.rowNB 0 rfl
 have al:=appl_len s t
 refine sp (Sv ra1 ((appl s t).length) rc1) (zjc (sw (vP H underlying113 ti118 fun b7 w8 H=>sp (Sv (aa b7 0) 0 0) (zjc (sw (vP H underlying114 ti27 fun b9 w10 H=>sp (Sv (aa b9 0) 0 0) (zjcc (sp (yI 0) (zjn (qX ?_))))))))))
 refine zD (fun m' ρ w11=>∃ (xY:Env) (c:Nat),ρ=upd (upd (upd (upd (upd (upd xY 0 (pp bs os)) 1 (pp bt ot)) 7 (Sv ra1 ((appl s t).length) rc1)) 8 (Sv (aa b7 0) 0 0)) 9 (Sv (aa b9 0) 0 0)) 10 (yI c)∧((c:Int)≤s.qw.length)∧m' =(s.qw.length - (c:Int)).toNat∧Fresh w.heap.size []∧St w w11 [.box b9 [] 27,.box b7 [] 118,rr ra1 ((appl s t).length) rc1 4 1 ((appl s t).map (Value.bool))] [atF bs os (yS s qC qB qN qJ),sF false qZ qC qB s.qw,sF false xG qN qJ s.qx,atF bt ot (yT t qV qR xm xk qL qK),sF false xR qV qR t.qA,sF false zC xm xk t.qE,sF false xC qL qK t.qy]) ((s.qw.length - (0:Int)).toNat) ⟨_,0,uE6,qf,rfl,N,H⟩ ?_
 clear H N
 rintro m' ρ w12 ⟨xY,c,rfl,i0,rfl,N,H⟩
 refine zcc (sps [yI c,pp bs os,pp bs os] (oF rfl (oL rfl (H.xW 0 rfl 1 rfl) (oN rfl (sp (Bv (decide ((c:Int) < s.qw.length))) (zjn (cD rfl (fun h13=>?_) (fun h13=>?_))))))))
 ·skip
  refine qW (t_n (xQ (qX (zcr (sps [pp bs os,Sv ra1 ((appl s t).length) rc1,yI c] (sw (vJ #[pp bs os,Sv ra1 ((appl s t).length) rc1,yI c] rfl rfl call135 (en func135 ntmps135 ?_))))))))
  refine zcr (sps [yN,yN] (zjc (sw (vP H underlying118 ti3 fun b14 w15 H=>sp (Sv (aa b14 0) 0 0) (zjc (sw (vP H underlying27 ti22 fun b16 w17 H=>sp (Sv (aa b16 0) 0 0) (zjcc (sp (yI 0) (zjn (qX ?_)))))))))))
  replace H:=H.boxRowI 1 [] 0
  replace H:=H.boxRow 0 rfl 1 0 rfl qj
  replace H:=H.vT (α:=yLI)
  replace H:=H.unfree 0 rfl
  refine zD (fun m' ρ w18=>∃ (xY:Env) (jH:yOA) (ja:Nat) (jB:Nat) (rules:yLI) (Qi:yOA) (jW:Nat) (Qc:Nat) (needs:yLL) (Vy:List Value) (Y5:yLN) (i:Nat),ρ=upd (upd (upd (upd (upd (upd xY 0 (pp bs os)) 1 (Sv ra1 ((appl s t).length) rc1)) 2 (yI c)) 8 (Sv jH ja jB)) 9 (Sv Qi jW Qc)) 10 (yI i)∧rules=(cellT s t i c)∧needs=(zt s (cellT s t i c))∧((i:Int)≤((appl s t).length))∧m' =(((appl s t).length) - (i:Int)).toNat∧Fresh w.heap.size []∧St w w18 [rr Qi jW Qc 22 1 Vy,rr jH ja jB 3 1 (rules.map (Value.int .i64)),.box b9 [] 27,.box b7 [] 118,rr ra1 ((appl s t).length) rc1 4 1 ((appl s t).map (Value.bool))] [zf false Y5 Vy needs,atF bs os (yS s qC qB qN qJ),sF false qZ qC qB s.qw,sF false xG qN qJ s.qx,atF bt ot (yT t qV qR xm xk qL qK),sF false xR qV qR t.qA,sF false zC xm xk t.qE,sF false xC qL qK t.qy]) ((((appl s t).length) - (0:Int)).toNat) ⟨_,(aa b14 0),0,0,([]:yLI),(aa b16 0),0,0,([]:yLL),[],[],0,uE6,(by rfl),(by rfl),qf,rfl,N,H.pick [0,1,2,3,4] [0,2,3,4,5,6,7,8]⟩ ?_
  clear H N
  rintro m' ρ w19 ⟨xY,jH,ja,jB,rules,Qi,jW,Qc,needs,Vy,Y5,i,rfl,rfl,rfl,i0,rfl,N,H⟩
  have hn_rules:=H.YX 1 rfl
  have hn_needs:=H.zq (α:=yLI) 0 rfl 0 rfl qj
  have tl:=cellT_le s t i c
  have nl:=VO s (cellT s t i c)
  refine zcc (sps [yI i,Sv ra1 ((appl s t).length) rc1] (oN rfl (sp (Bv (decide ((i:Int) < ((appl s t).length)))) (zjn (cD rfl (fun h20=>?_) (fun h20=>?_))))))
  ·skip
   refine qW (t_n (xQ (qX (zcr (sps [Sv ra1 ((appl s t).length) rc1,yI i] ?_)))))
   obtain ⟨b21,rfl⟩:=H.Qn 4 rfl qf
   refine oI rfl rfl (oL rfl (H.rowBool 4 rfl (iv:=i) (i:=i) qf qf) (sp (Bv ((appl s t)[i]!)) ?_))
   cases h22:((appl s t)[i]!)
   ·skip
    refine zk [24,25,26,27,28,29,30,31,32,33] (sp (Bv false) (zjn (xE false rfl (fun h=>absurd h qj) (fun _=>qW (b_n (t_n (xO (sp (yI i) (sw (zB i 1 rfl rfl qf (sp (yI (i+1)) (xM (qY (m' :=(((appl s t).length) - ((i+1):Int)).toNat) qf ⟨_,jH,ja,jB,(cellT s t i c),Qi,jW,Qc,(zt s (cellT s t i c)),Vy,Y5,i+1,uE6,?_,?_,?_,rfl,N,H⟩)))))))))))))
    · first | exact cellT_yes (Xt qf ‹_›) ‹_› | exact Vj (QP qf ‹_›) | exact XE ‹_›
    · first | exact needs_yes (Xt qf ‹_›) ‹_› | exact congrArg (zt s) (Vj (QP qf ‹_›)) | exact congrArg (zt s) (XE ‹_›)
    · omega
   refine qQ 23 rfl rfl (sp (pp bs os) (qQ 23 rfl rfl (sp (pp bs os) (qQ 23 rfl rfl (oF rfl (qQ 23 rfl rfl (oL rfl (H.xW 1 rfl 2 rfl) (qQ 23 rfl rfl (sp (yI i) (qQ 23 rfl rfl ?_))))))))))
   obtain ⟨b23,o24,rfl⟩:=H.addr 3 rfl qf
   obtain ⟨ae26Need,ce26Need,Fe26Need,ae26Have,ce26Have,Fe26Have,ae26Lack,ce26Lack,Fe26Lack,ae26Here,ce26Here,Fe26Here,ae26Out,ce26Out,Fe26Out,ae26Into,ce26Into,Fe26Into,H⟩:=H.yF 3 rfl i i qf qf qf
   refine oI rfl rfl (qQ 23 rfl rfl (oF rfl (qQ 23 rfl rfl (oL rfl (H.xW 6 rfl 0 rfl) (qQ 23 rfl rfl (sp (yI c) (qQ 23 rfl rfl (sps [Bv (((s.qx[i]!).qG:Int) == c),Bv (((s.qx[i]!).qG:Int) == c)] (zjn (cE rfl (fun h27=>?_) (fun h27=>?_)))))))))))
   ·skip
    refine zcr (sps [Sv jH ja jB,yI i] (sw (zA H underlying118 ti3 [yI i] fun b28 w29 H=>sw (zG H 2 rfl 0 rfl underlying118 ti3 rfl qj rfl rfl rfl (by simp [Value.oneCell',Value.cells]) qp qf fun a30 c31 w32 H=>?_))))
    rw [snocI] at H
    refine sp (Sv a30 (ja+1) c31) (zjn (xO (sps [Sv Qi jW Qc,pp bs os,pp bs os] (oF rfl (oL rfl (H.xW 8 rfl 2 rfl) (sp (yI i) (oI rfl rfl (oF rfl (oL rfl (H.xW 6 rfl 2 rfl) (sw (zA H underlying27 ti22 [Sv ae26Need (((s.qx[i]!).xn).length) ce26Need] fun b33 w34 H=>sw (zG H 2 rfl 0 rfl underlying27 ti22 rfl qj rfl rfl rfl (by simp [Value.oneCell',Value.cells]) qp qf fun a35 c36 w37 H=>?_))))))))))))
    replace H:=H.jd 7 rfl 0 rfl
    refine sp (Sv a35 (jW+1) c36) (xM (b_n (t_n (xO (sp (yI i) (sw (zB i 1 rfl rfl qf (sp (yI (i+1)) (xM (qY (m' :=(((appl s t).length) - ((i+1):Int)).toNat) qf ⟨_,a30,ja+1,c31,((cellT s t i c)++[(i:Int)]),a35,jW+1,c36,((zt s (cellT s t i c))++[(s.qx[i]!).xn]),Vy++[Sv ae26Need (((s.qx[i]!).xn).length) ce26Need],(Y5++Fe26Need),i+1,uE6,?_,?_,?_,rfl,N,H.pick [2,3,4,5,6] [0,9,10,11,12,13,14,15]⟩))))))))))
    · first | exact cellT_yes (Xt qf ‹_›) ‹_› | exact Vj (QP qf ‹_›) | exact XE ‹_›
    · first | exact needs_yes (Xt qf ‹_›) ‹_› | exact congrArg (zt s) (Vj (QP qf ‹_›)) | exact congrArg (zt s) (XE ‹_›)
    · omega
   refine qW (b_n (t_n (xO (sp (yI i) (sw (zB i 1 rfl rfl qf (sp (yI (i+1)) (xM (qY (m' :=(((appl s t).length) - ((i+1):Int)).toNat) qf ⟨_,jH,ja,jB,(cellT s t i c),Qi,jW,Qc,(zt s (cellT s t i c)),Vy,Y5,i+1,uE6,?_,?_,?_,rfl,N,H.pick [0,1,2,3,4] [7,8,9,10,11,12,13,14]⟩)))))))))
   · first | exact cellT_yes (Xt qf ‹_›) ‹_› | exact Vj (QP qf ‹_›) | exact XE ‹_›
   · first | exact needs_yes (Xt qf ‹_›) ‹_› | exact congrArg (zt s) (Vj (QP qf ‹_›)) | exact congrArg (zt s) (XE ‹_›)
   · omega
  refine zx4 (zcr (sps [Sv jH ja jB,Sv Qi jW Qc,Sv jH ja jB,Sv Qi jW Qc] (zjr (ret2 (Sv jH ja jB) (Sv Qi jW Qc) rfl rfl rfl ⟨_,rfl,?_⟩))))
  obtain rfl:i=s.qx.length:=by omega
  rw [show cellT s t s.qx.length c=zN s t c from rfl] at H hn_rules hn_needs
  refine sps [.tuple #[Sv jH ja jB,Sv Qi jW Qc],Sv jH ja jB,Sv Qi jW Qc,Sv jH ja jB,Sv Qi jW Qc] (zjc (sp (Sv jH ja jB) (oN rfl (sps [Bv (decide ((ja:Int) > 0)),Bv (decide ((ja:Int) > 0))] ?_))))
  cases h38:(decide ((ja:Int) > 0))
  ·skip
   replace h38:=of_decide_eq_false h38
   refine zk [43,44,45,46,47,48,49,50,51] (sp (Bv false) (zjn (xE false rfl (fun h=>absurd h qj) (fun _=>qW (b_n (t_n (xO (sp (yI c) (sw (zB c 1 rfl rfl qf (sp (yI (c+1)) (xM (qY (m' :=(s.qw.length - ((c+1):Int)).toNat) qf ⟨_,c+1,uE6,?_,rfl,N,H.pick [2,3,4] [1,2,3,4,5,6,7]⟩)))))))))))))
   · omega
  replace h38:=of_decide_eq_true h38
  refine qQ 42 rfl rfl (sp (pp bt ot) (qQ 42 rfl rfl (sp (pp bt ot) (qQ 42 rfl rfl (oF rfl (qQ 42 rfl rfl (oL rfl (H.xW 4 rfl 1 rfl) (qQ 42 rfl rfl (sp (yI c) (qQ 42 rfl rfl ?_))))))))))
  obtain ⟨b39,o40,rfl⟩:=H.addr 6 rfl qf
  obtain ⟨ae42,ce42,Fe42,H⟩:=H.vV 6 rfl c c qf qf qf
  refine oI rfl rfl (qQ 42 rfl rfl (oL rfl (H.xW 1 rfl 0 rfl) (qQ 42 rfl rfl ?_)))
  have sm:=vX (p1.2.2.2.2 c qf).1
  refine sw (oq (Y7 _ (t.qE[c]!) (H.get 0 rfl).1 (by first | assumption | exact vX ql | exact QD ql)) H fun w43 H=>qQ 42 rfl rfl (sps [Bv (decide ((Yd (t.qE[c]!):Int) > 16)),Bv (decide ((Yd (t.qE[c]!):Int) > 16))] (zjn (cD rfl (fun h45=>?_) (fun h45=>?_)))))
  ·skip
   refine zcr (sps [Sv (aa b7 0) 0 0,Sv (aa b9 0) 0 0,Sv (aa b7 0) 0 0,Sv (aa b9 0) 0 0,yI 3] (zjr (zr5 (ret3 (Sv (aa b7 0) 0 0) (Sv (aa b9 0) 0 0) (yI 3) rfl rfl rfl rfl ⟨_,rfl,?_⟩))))
   replace H:=H.erases [4,1,0]
   dsimp only [vS,List.eraseIdx] at H
   refine sps [.tuple #[Sv (aa b7 0) 0 0,Sv (aa b9 0) 0 0,yI 3],Sv (aa b7 0) 0 0,Sv (aa b9 0) 0 0,yI 3,Sv (aa b7 0) 0 0,Sv (aa b9 0) 0 0,yI 3] (zjcc (sps [yI 3,Bv true] (zjn (xE true rfl (fun _=>zcr (sw (vP H underlying27 ti22 fun b46 w47 H=>sps [yI 3,Sv (aa b46 0) 0 0,yI 3] (zjr (t_r ?_))))) (fun h=>absurd h qj)))))
   replace H:=H.boxRow 0 rfl 1 0 rfl qj
   replace H:=H.vT (α:=yLI)
   refine ret2 (Sv (aa b46 0) 0 0) (yI 3) rfl rfl rfl ⟨_,rfl,?_,H.base⟩
   first | rw [cho_3 (.inl (bad_sum (c:=c) qf qf qf))] | rw [cho_3 (.inr qf)]
   exact ⟨(aa b46 0),0,0,[],[],rfl,N.emp,H.pick [0] [0]⟩
  refine qW (b_n (t_n (xO (sp (yI c) (sw (zB c 1 rfl rfl qf (sp (yI (c+1)) (xM (qY (m' :=(s.qw.length - ((c+1):Int)).toNat) qf ⟨_,c+1,uE6,?_,rfl,N,H.pick [2,3,4] [3,4,5,6,7,8,9]⟩)))))))))
  · omega
 refine zx4 (zcc (sp (yI 0) (zjn (qX ?_))))
 replace H:=H.boxRow 1 rfl 1 0 rfl qj
 replace H:=H.vT (α:=yLI)
 replace H:=H.boxRow 0 rfl 1 0 rfl qj
 replace H:=H.vT (α:=yLL)
 refine zD (fun m' ρ w48=>∃ (xY:Env) (jH:yOA) (ja:Nat) (jB:Nat) (rules:yLL) (x_rules:List Value) (F_rules:yLN) (a_all:yOA) (Vz:Nat) (Jd:Nat) (all:List yLL) (x_all:List Value) (F_all:yLN) (c_1:Nat),ρ=upd (upd (upd (upd (upd (upd xY 0 (pp bs os)) 1 (pp bt ot)) 7 (Sv ra1 ((appl s t).length) rc1)) 8 (Sv jH ja jB)) 9 (Sv a_all Vz Jd)) 13 (yI c_1)∧rules=(xh s t c_1)∧all=(xH s t c_1)∧((c_1:Int)≤s.qw.length)∧(GoodP s t c_1)∧m' =(s.qw.length - (c_1:Int)).toNat∧Fresh w.heap.size [F_rules,F_all]∧St w w48 [rr a_all Vz Jd 27 1 x_all,rr jH ja jB 118 1 x_rules,rr ra1 ((appl s t).length) rc1 4 1 ((appl s t).map (Value.bool))] [zf true F_rules x_rules rules,zf true F_all x_all all,atF bs os (yS s qC qB qN qJ),sF false qZ qC qB s.qw,sF false xG qN qJ s.qx,atF bt ot (yT t qV qR xm xk qL qK),sF false xR qV qR t.qA,sF false zC xm xk t.qE,sF false xC qL qK t.qy]) ((s.qw.length - (0:Int)).toNat) ⟨_,(aa b7 0),0,0,([]:yLL),[],[],(aa b9 0),0,0,([]:List yLL),[],[],0,uE6,(by rfl),(by rfl),qf,(by exact fun j hj=>by omega),rfl,N.emp.emp,H⟩ ?_
 clear H N
 rintro m' ρ w49 ⟨xY,jH,ja,jB,rules,x_rules,F_rules,a_all,Vz,Jd,all,x_all,F_all,c_1,rfl,rfl,rfl,i0,gp,rfl,N,H⟩
 have hn_rules:=H.zq (α:=yLI) 1 rfl 0 rfl qj
 have hn_all:=H.zq (α:=yLL) 0 rfl 1 rfl qj
 have rl:=rules_le s t c_1
 have pl:=packsL_le s t c_1
 refine zcc (sps [yI c_1,pp bs os,pp bs os] (oF rfl (oL rfl (H.xW 2 rfl 1 rfl) (oN rfl (sp (Bv (decide ((c_1:Int) < s.qw.length))) (zjn (cD rfl (fun h50=>?_) (fun h50=>?_))))))))
 ·skip
  refine qW (t_n (xQ (qX (zcr (sps [pp bs os,Sv ra1 ((appl s t).length) rc1,yI c_1] (sw (vJ #[pp bs os,Sv ra1 ((appl s t).length) rc1,yI c_1] rfl rfl call135 (en func135 ntmps135 ?_))))))))
  refine zcr (sps [yN,yN] (zjc (sw (vP H underlying118 ti3 fun b51 w52 H=>sp (Sv (aa b51 0) 0 0) (zjc (sw (vP H underlying27 ti22 fun b53 w54 H=>sp (Sv (aa b53 0) 0 0) (zjcc (sp (yI 0) (zjn (qX ?_)))))))))))
  replace H:=H.boxRowI 1 [] 0
  replace H:=H.boxRow 0 rfl 1 0 rfl qj
  replace H:=H.vT (α:=yLI)
  replace H:=H.unfree 0 rfl
  refine zD (fun m' ρ w55=>∃ (xY:Env) (Xc:yOA) (QB:Nat) (Xb:Nat) (rules_1:yLI) (Qi:yOA) (jW:Nat) (Qc:Nat) (needs:yLL) (Vy:List Value) (Y5:yLN) (i:Nat),ρ=upd (upd (upd (upd (upd (upd xY 0 (pp bs os)) 1 (Sv ra1 ((appl s t).length) rc1)) 2 (yI c_1)) 8 (Sv Xc QB Xb)) 9 (Sv Qi jW Qc)) 10 (yI i)∧rules_1=(cellT s t i c_1)∧needs=(zt s (cellT s t i c_1))∧((i:Int)≤((appl s t).length))∧m' =(((appl s t).length) - (i:Int)).toNat∧Fresh w.heap.size [F_rules,F_all]∧St w w55 [rr Qi jW Qc 22 1 Vy,rr Xc QB Xb 3 1 (rules_1.map (Value.int .i64)),rr a_all Vz Jd 27 1 x_all,rr jH ja jB 118 1 x_rules,rr ra1 ((appl s t).length) rc1 4 1 ((appl s t).map (Value.bool))] [zf false Y5 Vy needs,zf true F_rules x_rules (xh s t c_1),zf true F_all x_all (xH s t c_1),atF bs os (yS s qC qB qN qJ),sF false qZ qC qB s.qw,sF false xG qN qJ s.qx,atF bt ot (yT t qV qR xm xk qL qK),sF false xR qV qR t.qA,sF false zC xm xk t.qE,sF false xC qL qK t.qy]) ((((appl s t).length) - (0:Int)).toNat) ⟨_,(aa b51 0),0,0,([]:yLI),(aa b53 0),0,0,([]:yLL),[],[],0,uE6,(by rfl),(by rfl),qf,rfl,N,H.pick [0,1,2,3,4] [0,2,3,4,5,6,7,8,9,10]⟩ ?_
  clear H N
  rintro m' ρ w56 ⟨xY,Xc,QB,Xb,rules_1,Qi,jW,Qc,needs,Vy,Y5,i,rfl,rfl,rfl,i0,rfl,N,H⟩
  have hn_rules:=H.YX 1 rfl
  have hn_needs:=H.zq (α:=yLI) 0 rfl 0 rfl qj
  have tl:=cellT_le s t i c_1
  have nl:=VO s (cellT s t i c_1)
  refine zcc (sps [yI i,Sv ra1 ((appl s t).length) rc1] (oN rfl (sp (Bv (decide ((i:Int) < ((appl s t).length)))) (zjn (cD rfl (fun h57=>?_) (fun h57=>?_))))))
  ·skip
   refine qW (t_n (xQ (qX (zcr (sps [Sv ra1 ((appl s t).length) rc1,yI i] ?_)))))
   obtain ⟨b58,rfl⟩:=H.Qn 4 rfl qf
   refine oI rfl rfl (oL rfl (H.rowBool 4 rfl (iv:=i) (i:=i) qf qf) (sp (Bv ((appl s t)[i]!)) ?_))
   cases h59:((appl s t)[i]!)
   ·skip
    refine zk [24,25,26,27,28,29,30,31,32,33] (sp (Bv false) (zjn (xE false rfl (fun h=>absurd h qj) (fun _=>qW (b_n (t_n (xO (sp (yI i) (sw (zB i 1 rfl rfl qf (sp (yI (i+1)) (xM (qY (m' :=(((appl s t).length) - ((i+1):Int)).toNat) qf ⟨_,Xc,QB,Xb,(cellT s t i c_1),Qi,jW,Qc,(zt s (cellT s t i c_1)),Vy,Y5,i+1,uE6,?_,?_,?_,rfl,N,H⟩)))))))))))))
    · first | exact cellT_yes (Xt qf ‹_›) ‹_› | exact Vj (QP qf ‹_›) | exact XE ‹_›
    · first | exact needs_yes (Xt qf ‹_›) ‹_› | exact congrArg (zt s) (Vj (QP qf ‹_›)) | exact congrArg (zt s) (XE ‹_›)
    · omega
   refine qQ 23 rfl rfl (sp (pp bs os) (qQ 23 rfl rfl (sp (pp bs os) (qQ 23 rfl rfl (oF rfl (qQ 23 rfl rfl (oL rfl (H.xW 3 rfl 2 rfl) (qQ 23 rfl rfl (sp (yI i) (qQ 23 rfl rfl ?_))))))))))
   obtain ⟨b60,o61,rfl⟩:=H.addr 5 rfl qf
   obtain ⟨ae63Need,ce63Need,Fe63Need,ae63Have,ce63Have,Fe63Have,ae63Lack,ce63Lack,Fe63Lack,ae63Here,ce63Here,Fe63Here,ae63Out,ce63Out,Fe63Out,ae63Into,ce63Into,Fe63Into,H⟩:=H.yF 5 rfl i i qf qf qf
   refine oI rfl rfl (qQ 23 rfl rfl (oF rfl (qQ 23 rfl rfl (oL rfl (H.xW 6 rfl 0 rfl) (qQ 23 rfl rfl (sp (yI c_1) (qQ 23 rfl rfl (sps [Bv (((s.qx[i]!).qG:Int) == c_1),Bv (((s.qx[i]!).qG:Int) == c_1)] (zjn (cE rfl (fun h64=>?_) (fun h64=>?_)))))))))))
   ·skip
    refine zcr (sps [Sv Xc QB Xb,yI i] (sw (zA H underlying118 ti3 [yI i] fun b65 w66 H=>sw (zG H 2 rfl 0 rfl underlying118 ti3 rfl qj rfl rfl rfl (by simp [Value.oneCell',Value.cells]) qp qf fun a67 c68 w69 H=>?_))))
    rw [snocI] at H
    refine sp (Sv a67 (QB+1) c68) (zjn (xO (sps [Sv Qi jW Qc,pp bs os,pp bs os] (oF rfl (oL rfl (H.xW 10 rfl 2 rfl) (sp (yI i) (oI rfl rfl (oF rfl (oL rfl (H.xW 6 rfl 2 rfl) (sw (zA H underlying27 ti22 [Sv ae63Need (((s.qx[i]!).xn).length) ce63Need] fun b70 w71 H=>sw (zG H 2 rfl 0 rfl underlying27 ti22 rfl qj rfl rfl rfl (by simp [Value.oneCell',Value.cells]) qp qf fun a72 c73 w74 H=>?_))))))))))))
    replace H:=H.jd 7 rfl 0 rfl
    refine sp (Sv a72 (jW+1) c73) (xM (b_n (t_n (xO (sp (yI i) (sw (zB i 1 rfl rfl qf (sp (yI (i+1)) (xM (qY (m' :=(((appl s t).length) - ((i+1):Int)).toNat) qf ⟨_,a67,QB+1,c68,((cellT s t i c_1)++[(i:Int)]),a72,jW+1,c73,((zt s (cellT s t i c_1))++[(s.qx[i]!).xn]),Vy++[Sv ae63Need (((s.qx[i]!).xn).length) ce63Need],(Y5++Fe63Need),i+1,uE6,?_,?_,?_,rfl,N,H.pick [2,3,4,5,6] [0,9,10,11,12,13,14,15,16,17]⟩))))))))))
    · first | exact cellT_yes (Xt qf ‹_›) ‹_› | exact Vj (QP qf ‹_›) | exact XE ‹_›
    · first | exact needs_yes (Xt qf ‹_›) ‹_› | exact congrArg (zt s) (Vj (QP qf ‹_›)) | exact congrArg (zt s) (XE ‹_›)
    · omega
   refine qW (b_n (t_n (xO (sp (yI i) (sw (zB i 1 rfl rfl qf (sp (yI (i+1)) (xM (qY (m' :=(((appl s t).length) - ((i+1):Int)).toNat) qf ⟨_,Xc,QB,Xb,(cellT s t i c_1),Qi,jW,Qc,(zt s (cellT s t i c_1)),Vy,Y5,i+1,uE6,?_,?_,?_,rfl,N,H.pick [0,1,2,3,4] [7,8,9,10,11,12,13,14,15,16]⟩)))))))))
   · first | exact cellT_yes (Xt qf ‹_›) ‹_› | exact Vj (QP qf ‹_›) | exact XE ‹_›
   · first | exact needs_yes (Xt qf ‹_›) ‹_› | exact congrArg (zt s) (Vj (QP qf ‹_›)) | exact congrArg (zt s) (XE ‹_›)
   · omega
  refine zx4 (zcr (sps [Sv Xc QB Xb,Sv Qi jW Qc,Sv Xc QB Xb,Sv Qi jW Qc] (zjr (ret2 (Sv Xc QB Xb) (Sv Qi jW Qc) rfl rfl rfl ⟨_,rfl,?_⟩))))
  obtain rfl:i=s.qx.length:=by omega
  rw [show cellT s t s.qx.length c_1=zN s t c_1 from rfl] at H hn_rules hn_needs
  refine sps [.tuple #[Sv Xc QB Xb,Sv Qi jW Qc],Sv Xc QB Xb,Sv Qi jW Qc,Sv Xc QB Xb,Sv Qi jW Qc] (zjcc (sp (Sv Xc QB Xb) (oN rfl (sp (Bv ((QB:Int) == 0)) (zjn (cE rfl (fun h75=>?_) (fun h75=>?_)))))))
  ·skip
   refine c_exit (t_x (b_x (t_n (xO (sp (yI c_1) (sw (zB c_1 1 rfl rfl qf (sp (yI (c_1+1)) (xM (qY (m' :=(s.qw.length - ((c_1+1):Int)).toNat) qf ⟨_,jH,ja,jB,(xh s t c_1),x_rules,F_rules,a_all,Vz,Jd,(xH s t c_1),x_all,F_all,c_1+1,uE6,?_,?_,?_,?_,rfl,N,H.pick [2,3,4] [1,2,3,4,5,6,7,8,9]⟩))))))))))
   · first | exact rules_yes qf | exact rules_no qf
   · first | exact packsL_yes qf | exact packsL_no qf
   · omega
   · exact gp.succ (by first | exact .inl qf | exact .inr (show (vC _ _).2=0 from ‹_›))
  refine qW (t_n (zcr (sps [pp bt ot,pp bt ot] (oF rfl (oL rfl (H.xW 6 rfl 1 rfl) (sp (yI c_1) ?_))))))
  obtain ⟨b76,o77,rfl⟩:=H.addr 8 rfl qf
  obtain ⟨ae79,ce79,Fe79,H⟩:=H.vV 8 rfl c_1 c_1 qf qf qf
  refine oI rfl rfl (oL rfl (H.xW 1 rfl 0 rfl) (sp (Sv Qi jW Qc) ?_))
  obtain ⟨G80,hn81,h82⟩:=H.rowIsR (α:=yLI) 0 rfl 2 rfl qj
  have cp:=cell_pack p0 p1 (c:=c_1) qf
  have sz86:=H.base.size
  have lt87:=H.ltN (L:=[F_rules,F_all]) [3,4]
  refine sw (oc (args_eq (by rw [← hn81]) (l01All_ok _ (t.qE[c_1]!) (zt s (zN s t c_1)) (H.get 0 rfl).1 (hn81▸h82) qg)) ?_)
  rintro _ w84 ⟨ra83a,rn83a,rc83a,rx83a,rF83a,rfl,M,K⟩ _
  replace N:=N.merge sz86 lt87 M
  replace H:=H.merge K M
  obtain rfl:=H.zq (α:=yLI) 0 rfl 0 rfl qj
  refine sps [.tuple #[Sv ra83a (((vC (t.qE[c_1]!) (zt s (zN s t c_1))).1).length) rc83a,yI ((vC (t.qE[c_1]!) (zt s (zN s t c_1))).2)],Sv ra83a (((vC (t.qE[c_1]!) (zt s (zN s t c_1))).1).length) rc83a,yI ((vC (t.qE[c_1]!) (zt s (zN s t c_1))).2),Sv ra83a (((vC (t.qE[c_1]!) (zt s (zN s t c_1))).1).length) rc83a,yI ((vC (t.qE[c_1]!) (zt s (zN s t c_1))).2)] (zjcc (sps [yI ((vC (t.qE[c_1]!) (zt s (zN s t c_1))).2),Bv (((vC (t.qE[c_1]!) (zt s (zN s t c_1))).2:Int) != 0)] (zjn ?_)))
  refine xE (((vC (t.qE[c_1]!) (zt s (zN s t c_1))).2:Int) != 0) rfl (fun h89=>?_) (fun h89=>?_)
  ·skip
   replace h89:=bne_iff_ne.1 h89
   refine zcr (sps [Sv jH ja jB,Sv a_all Vz Jd,yI ((vC (t.qE[c_1]!) (zt s (zN s t c_1))).2),Sv jH ja jB,Sv a_all Vz Jd,yI ((vC (t.qE[c_1]!) (zt s (zN s t c_1))).2)] (zjr (t_r (zr5 (ret3 (Sv jH ja jB) (Sv a_all Vz Jd) (yI ((vC (t.qE[c_1]!) (zt s (zN s t c_1))).2)) rfl rfl rfl rfl ⟨_,rfl,?_⟩)))))
   replace H:=H.erases [5,2,1,0]
   dsimp only [vS,List.eraseIdx] at H
   refine sps [.tuple #[Sv jH ja jB,Sv a_all Vz Jd,yI ((vC (t.qE[c_1]!) (zt s (zN s t c_1))).2)],Sv jH ja jB,Sv a_all Vz Jd,yI ((vC (t.qE[c_1]!) (zt s (zN s t c_1))).2),Sv jH ja jB,Sv a_all Vz Jd,yI ((vC (t.qE[c_1]!) (zt s (zN s t c_1))).2)] (zjcc (sps [yI ((vC (t.qE[c_1]!) (zt s (zN s t c_1))).2),Bv (((vC (t.qE[c_1]!) (zt s (zN s t c_1))).2:Int) != 0)] (zjn ?_)))
   refine xE (((vC (t.qE[c_1]!) (zt s (zN s t c_1))).2:Int) != 0) rfl (fun h90=>?_) (fun h=>absurd (xw h) h89)
   replace h90:=bne_iff_ne.1 h90
   refine zcr (sw (vP H underlying27 ti22 fun b91 w92 H=>sps [yI ((vC (t.qE[c_1]!) (zt s (zN s t c_1))).2),Sv (aa b91 0) 0 0,yI ((vC (t.qE[c_1]!) (zt s (zN s t c_1))).2)] (zjr (t_r ?_))))
   replace H:=H.boxRow 0 rfl 1 0 rfl qj
   replace H:=H.vT (α:=yLI)
   refine ret2 (Sv (aa b91 0) 0 0) (yI ((vC (t.qE[c_1]!) (zt s (zN s t c_1))).2)) rfl rfl rfl ⟨_,rfl,?_,H.base⟩
   rw [cho_code (bad_code (c:=c_1) qf qf ‹_›) ‹_›]
   exact ⟨(aa b91 0),0,0,[],[],rfl,(N.emp.pick [0]),H.pick [0] [0]⟩
  replace h89:=xw h89
  refine qW (t_n (zcr (sps [Sv jH ja jB,Sv Xc QB Xb] (sw (zA H underlying113 ti118 [Sv Xc QB Xb] fun b93 w94 H=>?_)))))
  obtain ⟨G98,N,hn99,H⟩:=H.jb 3 rfl N (H.jU [0,4,5])
  refine sw (zG H 5 rfl 0 rfl underlying113 ti118 rfl qj rfl rfl rfl (by simp [Value.oneCell',Value.cells]) qp qf fun a95 c96 w97 H=>?_)
  replace H:=H.jd 5 rfl 0 rfl
  replace N:Fresh w.heap.size [(F_rules++G98),rF83a,F_all]:=(N.pick [2,0,1,3]).join
  refine sp (Sv a95 (ja+1) c96) (zjn (xO (sps [Sv a_all Vz Jd,Sv ra83a (((vC (t.qE[c_1]!) (zt s (zN s t c_1))).1).length) rc83a] (sw (zA H underlying114 ti27 [Sv ra83a (((vC (t.qE[c_1]!) (zt s (zN s t c_1))).1).length) rc83a] fun b100 w101 H=>?_)))))
  have H0:=H
  obtain ⟨G105,hg107,hn106,H⟩:=H.yX (α:=yLI) 2 rfl 2 rfl qj
  replace N:Fresh w.heap.size [G105,(F_rules++G98),F_all]:=Fresh.ice (N.pick [1,0,2]) H0 2 hg107.1 hg107.2 (H0.jU [0,7])
  clear H0
  refine sw (zG H 5 rfl 0 rfl underlying114 ti27 rfl qj rfl rfl rfl (by simp [Value.oneCell',Value.cells]) qp qf fun a102 c103 w104 H=>?_)
  replace H:=H.jd 8 rfl 0 rfl
  replace N:Fresh w.heap.size [(F_all++G105),(F_rules++G98)]:=(N.pick [2,0,1]).join
  refine sp (Sv a102 (Vz+1) c103) (xM (b_n (t_n (xO (sp (yI c_1) (sw (zB c_1 1 rfl rfl qf (sp (yI (c_1+1)) (xM ?_)))))))))
  refine qY (m' :=(s.qw.length - ((c_1+1):Int)).toNat) qf ⟨_,a95,ja+1,c96,((xh s t c_1)++[(zN s t c_1)]),x_rules++[Sv Xc QB Xb],(F_rules++G98),a102,Vz+1,c103,((xH s t c_1)++[(vC (t.qE[c_1]!) (zt s (zN s t c_1))).1]),x_all++[Sv ra83a (((vC (t.qE[c_1]!) (zt s (zN s t c_1))).1).length) rc83a],(F_all++G105),c_1+1,uE6,?_,?_,?_,?_,rfl,(N.pick [1,0]),H.pick [5,6,7] [2,0,10,11,12,13,14,15,16]⟩
  · first | exact rules_yes qf | exact rules_no qf
  · first | exact packsL_yes qf | exact packsL_no qf
  · omega
  · exact gp.succ (by first | exact .inl qf | exact .inr (show (vC _ _).2=0 from ‹_›))
 refine zx4 (zcr (sps [Sv jH ja jB,Sv a_all Vz Jd,Sv jH ja jB,Sv a_all Vz Jd,yI 0] (zjr (ret3 (Sv jH ja jB) (Sv a_all Vz Jd) (yI 0) rfl rfl rfl rfl ⟨_,rfl,?_⟩))))
 replace H:=H.erases [2]
 dsimp only [vS,List.eraseIdx] at H
 obtain rfl:c_1=s.qw.length:=by omega
 have kb:=prod_bd p0 p1 (k:=s.qw.length) qf gp
 have kn:=packsL_ne p0 p1 (k:=s.qw.length) qf gp
 have kr:=rules_le s t s.qw.length
 have kl:=packsL_le s t s.qw.length
 refine sps [.tuple #[Sv jH ja jB,Sv a_all Vz Jd,yI 0],Sv jH ja jB,Sv a_all Vz Jd,yI 0,Sv jH ja jB,Sv a_all Vz Jd,yI 0] (zjcc (sps [yI 0,Bv false] (zjn (xE false rfl (fun h=>absurd h qj) (fun _=>qW (t_n (zcc (sp (Sv a_all Vz Jd) ?_))))))))
 obtain ⟨G108,hn109,h110⟩:=H.rowIsR (α:=yLL) 0 rfl 1 rfl qj
 refine sw (oq (args_eq (by rw [← hn109]) (l03Count_ok _ (xH s t s.qw.length) (hn109▸h110) qg)) H fun w112 H=>sp (Bv (decide ((((Xz (xH s t s.qw.length) (xH s t s.qw.length).length:Nat):Int):Int) > 300))) (zjn (cD rfl (fun h114=>?_) (fun h114=>?_))))
 ·skip
  refine zcr (sw (vP H underlying27 ti22 fun b115 w116 H=>sps [Sv (aa b115 0) 0 0,yI 3] (zjr (t_r ?_))))
  replace H:=H.boxRow 0 rfl 1 0 rfl qj
  replace H:=H.vT (α:=yLI)
  refine ret2 (Sv (aa b115 0) 0 0) (yI 3) rfl rfl rfl ⟨_,rfl,?_,H.base⟩
  first | rw [cho_3 (.inl (bad_sum (c:=c) qf qf qf))] | rw [cho_3 (.inr qf)]
  exact ⟨(aa b115 0),0,0,[],[],rfl,(N.emp.pick [0]),H.pick [0] [0]⟩
 have kc:¬ Xz (xH s t s.qw.length) (xH s t s.qw.length).length > 300:=by omega
 refine qW (t_n (zcr (sps [pp bs os,pp bs os] (oF rfl (oL rfl (H.xW 2 rfl 2 rfl) (oN rfl (sw (Vg H underlying22 ti2 s.qx.length rfl rfl qf qf qf fun b117 w118 H=>sw (zA H underlying27 ti22 [Sv (aa b117 0) s.qx.length s.qx.length] fun b119 w120 H=>sp (Sv (aa b119 0) 1 1) (zjcc (sp (yI 0) (zjn (qX ?_)))))))))))))
 have H0:=H
 obtain ⟨G121,hg123,hn122,H⟩:=H.yX (α:=yLI) 3 rfl 0 rfl qj
 replace N:Fresh w.heap.size [G121,F_all]:=Fresh.ice N H0 3 hg123.1 hg123.2 (H0.jU [1])
 clear H0
 have H0:=H
 obtain ⟨G124,hg126,hn125,H⟩:=H.yX (α:=yLL) 2 rfl 2 rfl qj
 replace N:Fresh w.heap.size [G124,G121]:=Fresh.ice (N.pick [1,0]) H0 2 hg126.1 hg126.2 (H0.jU [0])
 clear H0
 replace H:=H.boxRow 0 rfl 1 1 rfl qj
 replace H:=H.vT (α:=yLI)
 obtain ⟨G127,N,hn128,H⟩:=H.jb 1 rfl N (H.jU [1,2])
 replace H:=H.YR true 0 rfl 1 rfl qm
 replace N:Fresh w.heap.size [(G127++[]),G124,G121]:=(N.emp.pick [1,0,2,3]).join
 refine zD (fun m' ρ w129=>∃ (xY:Env) (zX:yOA) (xX:Nat) (zK:Nat) (out:yLL) (Ql:List Value) (jI:yLN) (i:Nat),ρ=upd (upd (upd (upd xY 6 (Sv jH ja jB)) 7 (Sv a_all Vz Jd)) 9 (Sv zX xX zK)) 10 (yI i)∧out=(jv s.qx.length (xh s t s.qw.length) (xH s t s.qw.length) i)∧((i:Int)≤Vz)∧m' =(Vz - (i:Int)).toNat∧Fresh w.heap.size [G124,G121,jI]∧St w w129 [rr zX xX zK 22 1 Ql] [zf true jI Ql out,isF true G124 (Sv a_all Vz Jd) (xH s t s.qw.length),isF true G121 (Sv jH ja jB) (xh s t s.qw.length)]) ((Vz - (0:Int)).toNat) ⟨_,(aa b119 0),1,1,[(List.replicate s.qx.length (0:Int))],[Sv (aa b117 0) s.qx.length s.qx.length],(G127++[]),0,uE4,(by rfl),qf,rfl,(N.pick [1,2,0]),H.pick [0] [0,3,4]⟩ ?_
 clear H N
 rintro m' ρ w130 ⟨xY,zX,xX,zK,out,Ql,jI,i,rfl,rfl,i0,rfl,N,H⟩
 have hn_out:=H.zq (α:=yLI) 0 rfl 0 rfl qj
 refine zcc (sps [yI i,Sv a_all Vz Jd] (oN rfl (sp (Bv (decide ((i:Int) < Vz))) (zjn (cD rfl (fun h131=>?_) (fun h131=>?_))))))
 ·skip
  have ga:=G_le (n:=s.qx.length) (rs:=(xh s t s.qw.length)) (i:=i) kn kc qf
  obtain ⟨gb,gc⟩:=cell_few (s:=s) (t:=t) (n:=s.qw.length) (i:=i) p0 qf
  refine qW (t_n (xQ (qX (zcr (sw (vP H underlying27 ti22 fun b132 w133 H=>sp (Sv (aa b132 0) 0 0) (zjcc (sp (yI 0) (zjn (qX ?_))))))))))
  replace H:=H.boxRow 0 rfl 1 0 rfl qj
  replace H:=H.vT (α:=yLI)
  refine zD (fun m' ρ w134=>∃ (xY:Env) (a_next:yOA) (n_next:Nat) (c_next:Nat) (next:yLL) (x_next:List Value) (F_next:yLN) (k:Nat),ρ=upd (upd (upd (upd (upd (upd xY 6 (Sv jH ja jB)) 7 (Sv a_all Vz Jd)) 9 (Sv zX xX zK)) 10 (yI i)) 11 (Sv a_next n_next c_next)) 12 (yI k)∧next=(nextK (jv s.qx.length (xh s t s.qw.length) (xH s t s.qw.length) i) ((xh s t s.qw.length)[i]!) ((xH s t s.qw.length)[i]!) k)∧((k:Int)≤xX)∧m' =(xX - (k:Int)).toNat∧Fresh w.heap.size [G124,G121,jI,F_next]∧St w w134 [rr a_next n_next c_next 22 1 x_next,rr zX xX zK 22 1 Ql] [zf true F_next x_next next,zf true jI Ql (jv s.qx.length (xh s t s.qw.length) (xH s t s.qw.length) i),isF true G124 (Sv a_all Vz Jd) (xH s t s.qw.length),isF true G121 (Sv jH ja jB) (xh s t s.qw.length)]) ((xX - (0:Int)).toNat) ⟨_,(aa b132 0),0,0,([]:yLL),[],[],0,uE6,(by rfl),qf,rfl,(N.emp.pick [1,2,3,0]),H⟩ ?_
  clear H N
  rintro m' ρ w135 ⟨xY,a_next,n_next,c_next,next,x_next,F_next,k,rfl,rfl,i0,rfl,N,H⟩
  have hn_next:=H.zq (α:=yLI) 0 rfl 0 rfl qj
  refine zcc (sps [yI k,Sv zX xX zK] (oN rfl (sp (Bv (decide ((k:Int) < xX))) (zjn (cD rfl (fun h136=>?_) (fun h136=>?_))))))
  ·skip
   refine qW (t_n (xQ (qX (zcr (sp (yI 0) (zjn (qX ?_)))))))
   refine zD (fun m' ρ w137=>∃ (xY:Env) (XZ:yOA) (QR:Nat) (XY:Nat) (next_1:yLL) (Va:List Value) (Xh:yLN) (x:Nat),ρ=upd (upd (upd (upd (upd (upd (upd xY 6 (Sv jH ja jB)) 7 (Sv a_all Vz Jd)) 9 (Sv zX xX zK)) 10 (yI i)) 11 (Sv XZ QR XY)) 12 (yI k)) 13 (yI x)∧next_1=(nextX (jv s.qx.length (xh s t s.qw.length) (xH s t s.qw.length) i) ((xh s t s.qw.length)[i]!) ((xH s t s.qw.length)[i]!) k x)∧((x:Int)≤(((xH s t s.qw.length)[i]!).length))∧m' =((((xH s t s.qw.length)[i]!).length) - (x:Int)).toNat∧Fresh w.heap.size [G124,G121,jI,Xh]∧St w w137 [rr XZ QR XY 22 1 Va,rr zX xX zK 22 1 Ql] [zf true Xh Va next_1,zf true jI Ql (jv s.qx.length (xh s t s.qw.length) (xH s t s.qw.length) i),isF true G124 (Sv a_all Vz Jd) (xH s t s.qw.length),isF true G121 (Sv jH ja jB) (xh s t s.qw.length)]) (((((xH s t s.qw.length)[i]!).length) - (0:Int)).toNat) ⟨_,a_next,n_next,c_next,(nextK (jv s.qx.length (xh s t s.qw.length) (xH s t s.qw.length) i) ((xh s t s.qw.length)[i]!) ((xH s t s.qw.length)[i]!) k),x_next,F_next,0,uE7,(by exact nextX_zero _ _ _ _),qf,rfl,N,H⟩ ?_
   clear H N
   rintro m' ρ w138 ⟨xY,XZ,QR,XY,next_1,Va,Xh,x,rfl,rfl,i0,rfl,N,H⟩
   have hn_next:=H.zq (α:=yLI) 0 rfl 0 rfl qj
   refine zcc (sps [yI x,Sv a_all Vz Jd,yI i] ?_)
   have hl141:=H.isLen 2 rfl
   obtain ⟨b139,o140,rfl⟩:=H.addr 2 rfl qf
   obtain ⟨ae142,ce142,Fe142,H⟩:=H.vV 2 rfl i i qf qf qf
   refine oI rfl rfl (oL rfl (H.xW 1 rfl 0 rfl) (oN rfl (sp (Bv (decide ((x:Int) < (((xH s t s.qw.length)[i]!).length)))) (zjn (cD rfl (fun h143=>?_) (fun h143=>?_))))))
   ·skip
    have nx:=next_le (n:=s.qx.length) (rs:=(xh s t s.qw.length)) (i:=i) (k:=k) (x:=x) kn kc qf qf qf
    have g1:=prodG_at (n:=s.qx.length) (rs:=(xh s t s.qw.length)) (all:=(xH s t s.qw.length)) (i:=i) (k:=k) qf
    have g2:=pack_at (s:=s) (t:=t) (n:=s.qw.length) (i:=i) (x:=x) qf qf
    refine qW (t_n (xQ (qX (zcr (sps [Sv zX xX zK,yI k] ?_)))))
    obtain ⟨b144,rfl⟩:=H.Qn 1 rfl qf
    refine oI rfl rfl ?_
    obtain ⟨a145,c146,G147,s148,h149,hx150,hy151,H⟩:=H.rowElemX 1 rfl 3 rfl (iv:=k) k qf qf
    refine oL rfl (H.rowGet 1 rfl hx150) ?_
    have sz152:=H.base.size
    have lt153:=H.ltN (L:=[G124,G121,jI,Xh]) [5,6,4,3]
    refine sw (oc (Vt _ ((jv s.qx.length (xh s t s.qw.length) (xH s t s.qw.length) i)[k]!) (H.get 0 rfl).1 qg) ?_)
    rintro v157 w155 r157 x156
    replace H:=H.zJ x156 r157
    obtain ⟨a158,c159,rfl,hc160,hm161⟩:=H.jA 0 rfl
    refine sp (Sv a158 (((jv s.qx.length (xh s t s.qw.length) (xH s t s.qw.length) i)[k]!).length) c159) (zjcc (sp (yI 0) (zjn (qX ?_))))
    refine zD (fun m' ρ w162=>∃ (xY:Env) (r:Nat) (own:yLI),ρ=upd (upd (upd (upd (upd (upd (upd (upd (upd xY 6 (Sv jH ja jB)) 7 (Sv (aa b139 o140) Vz Jd)) 9 (Sv (aa b144 0) xX zK)) 10 (yI i)) 11 (Sv XZ QR XY)) 12 (yI k)) 13 (yI x)) 14 (Sv a158 (((jv s.qx.length (xh s t s.qw.length) (xH s t s.qw.length) i)[k]!).length) c159)) 15 (yI r)∧own=(setTo ((jv s.qx.length (xh s t s.qw.length) (xH s t s.qw.length) i)[k]!) ((xh s t s.qw.length)[i]!) (((xH s t s.qw.length)[i]!)[x]!) r)∧((r:Int)≤(((xh s t s.qw.length)[i]!).length))∧m' =((((xh s t s.qw.length)[i]!).length) - (r:Int)).toNat∧Fresh w.heap.size [G124,G121,jI,Xh]∧St w w162 [rr a158 (((jv s.qx.length (xh s t s.qw.length) (xH s t s.qw.length) i)[k]!).length) c159 2 1 (own.map (Value.int .i64)),rr XZ QR XY 22 1 Va,rr (aa b144 0) xX zK 22 1 Ql] [sF true Fe142 ae142 ce142 ((xH s t s.qw.length)[i]!),atF b139 (o140+(i:Int).toNat * 1) [Sv ae142 (((xH s t s.qw.length)[i]!).length) ce142],zf true Xh Va (nextX (jv s.qx.length (xh s t s.qw.length) (xH s t s.qw.length) i) ((xh s t s.qw.length)[i]!) ((xH s t s.qw.length)[i]!) k x),zf true jI Ql (jv s.qx.length (xh s t s.qw.length) (xH s t s.qw.length) i),isF true G124 (Sv (aa b139 o140) Vz Jd) (xH s t s.qw.length),isF true G121 (Sv jH ja jB) (xh s t s.qw.length)]) (((((xh s t s.qw.length)[i]!).length) - (0:Int)).toNat) ⟨_,0,((jv s.qx.length (xh s t s.qw.length) (xH s t s.qw.length) i)[k]!),uE9,(by rfl),qf,rfl,N,H.pick [0,1,2] [1,2,3,4,5,6]⟩ ?_
    clear H N
    rintro m' ρ w163 ⟨xY,r,own,rfl,rfl,i0,rfl,N,H⟩
    have hn_own:=H.YX 0 rfl
    have sl:=setTo_len ((jv s.qx.length (xh s t s.qw.length) (xH s t s.qw.length) i)[k]!) ((xh s t s.qw.length)[i]!) (((xH s t s.qw.length)[i]!)[x]!) r
    refine zcc (sps [yI r,Sv jH ja jB,yI i] ?_)
    have hl166:=H.isLen 5 rfl
    obtain ⟨b164,o165,rfl⟩:=H.addr 5 rfl qf
    obtain ⟨ae167,ce167,Fe167,H⟩:=H.vV 5 rfl i i qf qf qf
    refine oI rfl rfl (oL rfl (H.xW 1 rfl 0 rfl) (oN rfl (sp (Bv (decide ((r:Int) < (((xh s t s.qw.length)[i]!).length)))) (zjn (cD rfl (fun h168=>?_) (fun h168=>?_))))))
    ·skip
     obtain ⟨g3,g4⟩:=choice_at (s:=s) (t:=t) (n:=s.qw.length) (i:=i) (r:=r) qf qf
     refine qW (t_n (xQ (qX ?_)))
     refine QI rfl H [1,2] fun H=>?_
     have S:=H.yU [1,2] [0,1,2,3,4,5,6,7]
     refine rtp 0 (Sv a158 (((jv s.qx.length (xh s t s.qw.length) (xH s t s.qw.length) i)[k]!).length) c159) S ?_
     refine rtp 1 (Sv (aa b164 o165) ja jB) S ?_
     refine rtp 2 (yI i) S ?_
     refine tI 3 rfl rfl rfl S ?_
     refine tL 4 rfl rfl (fun _ h=>h.xW 1 rfl 0 rfl) S ?_
     refine rtp 5 (yI r) S ?_
     obtain ⟨b170,o171,rfl⟩:=H.addr 0 rfl qf
     have S:=H.yU [1,2] [0,1,2,3,4,5,6,7]
     refine tI 6 rfl rfl rfl S ?_
     refine tL 7 rfl rfl (fun _ h=>h.yG 0 rfl r qf) S ?_
     refine rtp 8 (Sv (aa b139 o140) Vz Jd) S ?_
     refine rtp 9 (yI i) S ?_
     refine tI 10 rfl rfl rfl S ?_
     refine tL 11 rfl rfl (fun _ h=>h.xW 3 rfl 0 rfl) S ?_
     refine rtp 12 (yI x) S ?_
     obtain ⟨b173,o174,rfl⟩:=H.addr 2 rfl qf
     obtain ⟨ae176,ce176,Fe176,H⟩:=H.vV 2 rfl x x qf qf qf
     have S:=H.yU [1,2] [2,3,4,5,6,7,8,9]
     refine tI 13 rfl rfl rfl S ?_
     refine rtp 15 (yI r) S ?_
     refine ro 14 rfl (zT (Sv ae176 ((((xH s t s.qw.length)[i]!)[x]!).length) ce176) isAgg22 rfl (H.xW 1 rfl 0 rfl) (⟨H.pick [1,2] [2,3,4,5,6,7,8,9],?_⟩))
     obtain ⟨b177,o178,rfl⟩:=H.addr 0 rfl qf
     refine tI 16 rfl rfl rfl (H.pick [1,2] [2,3,4,5,6,7,8,9]) ?_
     refine ro 17 rfl (zT (yI ((((xH s t s.qw.length)[i]!)[x]!)[r]!)) isAgg2 rfl (H.jY 0 rfl r qf qf) (⟨H.pick [1,2] [2,3,4,5,6,7,8,9],?_⟩))
     obtain ⟨b180,rfl⟩:=H.Qn 0 rfl qf
     refine tI 18 rfl rfl rfl (H.pick [1,2] [2,3,4,5,6,7,8,9]) ?_
     refine ro 19 rfl (o_storeInt H 0 rfl ((((xH s t s.qw.length)[i]!)[x]!)[r]!) sizeOf2 rfl rfl (i:=((((xh s t s.qw.length)[i]!)[r]!).toNat)) qf qf fun w181 H=>⟨H.pick [1,2] [2,3,4,5,6,7,8,9],(xP qh (b_n (t_n (xO (sp (yI r) (sw (zB r 1 rfl rfl qf (sp (yI (r+1)) (xM ?_)))))))))⟩)
     refine qY (m' :=((((xh s t s.qw.length)[i]!).length) - ((r+1):Int)).toNat) qf ⟨_,r+1,((setTo ((jv s.qx.length (xh s t s.qw.length) (xH s t s.qw.length) i)[k]!) ((xh s t s.qw.length)[i]!) (((xH s t s.qw.length)[i]!)[x]!) r).set ((((xh s t s.qw.length)[i]!)[r]!).toNat) ((((xH s t s.qw.length)[i]!)[x]!)[r]!)),uE9,?_,?_,rfl,N,H.pick [0,1,2] [4,5,6,7,8,9]⟩
     · rfl
     · omega
    refine zx4 (xO (sps [Sv XZ QR XY,Sv a158 (((jv s.qx.length (xh s t s.qw.length) (xH s t s.qw.length) i)[k]!).length) c159] (sw (zA H underlying27 ti22 [Sv a158 (((jv s.qx.length (xh s t s.qw.length) (xH s t s.qw.length) i)[k]!).length) c159] fun b182 w183 H=>?_))))
    obtain ⟨G187,N,hn188,H⟩:=H.jb 1 rfl N (H.jU [6,7,5,4])
    refine sw (zG H 2 rfl 0 rfl underlying27 ti22 rfl qj rfl rfl rfl (by simp [Value.oneCell',Value.cells]) qp qf fun a184 c185 w186 H=>?_)
    replace H:=H.jd 5 rfl 0 rfl
    replace N:Fresh w.heap.size [(Xh++G187),G124,G121,jI]:=(N.pick [4,0,1,2,3]).join
    refine sp (Sv a184 (QR+1) c185) (xM (b_n (t_n (xO (sp (yI x) (sw (zB x 1 rfl rfl qf (sp (yI (x+1)) (xM ?_)))))))))
    refine qY (m' :=((((xH s t s.qw.length)[i]!).length) - ((x+1):Int)).toNat) qf ⟨_,a184,QR+1,c185,((nextX (jv s.qx.length (xh s t s.qw.length) (xH s t s.qw.length) i) ((xh s t s.qw.length)[i]!) ((xH s t s.qw.length)[i]!) k x)++[(setTo ((jv s.qx.length (xh s t s.qw.length) (xH s t s.qw.length) i)[k]!) ((xh s t s.qw.length)[i]!) (((xH s t s.qw.length)[i]!)[x]!) r)]),Va++[Sv a158 (((jv s.qx.length (xh s t s.qw.length) (xH s t s.qw.length) i)[k]!).length) c159],(Xh++G187),x+1,uE7,?_,?_,rfl,(N.pick [1,2,3,0]),H.pick [2,3] [0,7,8,9]⟩
    · exact nextX_succ qf (by rw [show r=((xh s t s.qw.length)[i]!).length by omega];rfl)
    · omega
   refine c_exit (t_x (t_x (b_x (b_n (t_n (xO (sp (yI k) (sw (zB k 1 rfl rfl qf (sp (yI (k+1)) (xM (qY (m' :=(xX - ((k+1):Int)).toNat) qf ⟨_,XZ,QR,XY,(nextX (jv s.qx.length (xh s t s.qw.length) (xH s t s.qw.length) i) ((xh s t s.qw.length)[i]!) ((xH s t s.qw.length)[i]!) k x),Va,Xh,k+1,uE6,?_,?_,rfl,N,H.pick [0,1] [2,3,4,5]⟩))))))))))))
   · exact nextX_end qf qf
   · omega
  refine zx4 (xO (sps [Sv a_next n_next c_next,Sv a_next n_next c_next] (xM (b_n (t_n (xO (sp (yI i) (sw (zB i 1 rfl rfl qf (sp (yI (i+1)) (xM (qY (m' :=(Vz - ((i+1):Int)).toNat) qf ⟨_,a_next,n_next,c_next,(nextK (jv s.qx.length (xh s t s.qw.length) (xH s t s.qw.length) i) ((xh s t s.qw.length)[i]!) ((xH s t s.qw.length)[i]!) k),x_next,F_next,i+1,uE4,?_,?_,rfl,(N.pick [0,1,3]),H.pick [0] [0,2,3]⟩))))))))))))
  · rw [show k=(jv s.qx.length (xh s t s.qw.length) (xH s t s.qw.length) i).length by omega];rfl
  · omega
 refine zx4 (zcc (sp (yI 1) (zjn (qX ?_))))
 have on:0 < (jv s.qx.length (xh s t s.qw.length) (xH s t s.qw.length) i).length:=by rw [X5,show i=(xH s t s.qw.length).length by omega];exact prod_mono kn (Nat.zero_le _) (Nat.le_refl _)
 have on2:=G_le (n:=s.qx.length) (rs:=(xh s t s.qw.length)) (i:=i) kn kc qf
 refine zD (fun m' ρ w189=>∃ (xY:Env) (i_1:Nat) (out_1:yLL) (X3:List Value) (Q8:yLN),ρ=upd (upd xY 9 (Sv zX xX zK)) 16 (yI i_1)∧((i_1:Int)≤xX)∧((jv s.qx.length (xh s t s.qw.length) (xH s t s.qw.length) (xH s t s.qw.length).length).Perm out_1)∧(∀ a b,a < b→b < i_1→¬ ahead (out_1[b]!) (out_1[a]!))∧m' =(xX - (i_1:Int)).toNat∧Fresh w.heap.size [Q8]∧St w w189 [rr zX xX zK 22 1 X3] [zf true Q8 X3 out_1]) ((xX - (1:Int)).toNat) ⟨_,1,(jv s.qx.length (xh s t s.qw.length) (xH s t s.qw.length) i),Ql,jI,uE2,qf,(by rw [show i=(xH s t s.qw.length).length by omega]),(by exact fun a b h1 h2=>by omega),rfl,(N.pick [2]),H.pick [0] [0]⟩ ?_
 clear H N
 rintro m' ρ w190 ⟨xY,i_1,out_1,X3,Q8,rfl,i0,o1,o2,rfl,N,H⟩
 have hn_out:=H.zq (α:=yLI) 0 rfl 0 rfl qj
 refine zcc (sps [yI i_1,Sv zX xX zK] (oN rfl (sp (Bv (decide ((i_1:Int) < xX))) (zjn (cD rfl (fun h191=>?_) (fun h191=>?_))))))
 ·skip
  refine qW (t_n (xQ (qX (zcr (sps [yI i_1,yI i_1] (zjn (qX ?_)))))))
  refine zD (fun m' ρ w192=>∃ (xY:Env) (k:Int) (out_51:yLL) (yu:List Value) (vk:yLN),ρ=upd (upd (upd xY 9 (Sv zX xX zK)) 16 (yI i_1)) 17 (yI k)∧((jv s.qx.length (xh s t s.qw.length) (xH s t s.qw.length) (xH s t s.qw.length).length).Perm out_51)∧(InsTo out_51 i_1 k.toNat)∧(0≤k∧k≤i_1)∧m' =((k:Int)).toNat∧Fresh w.heap.size [vk]∧St w w192 [rr zX xX zK 22 1 yu] [zf true vk yu out_51]) (((i_1:Int)).toNat) ⟨_,i_1,out_1,X3,Q8,uE3,ql,(by exact InsTo.start o2),qf,rfl,N,H⟩ ?_
  clear H N
  rintro m' ρ w193 ⟨xY,k,out_51,yu,vk,rfl,o3,o4,o5,rfl,N,H⟩
  have hn_out:=H.zq (α:=yLI) 0 rfl 0 rfl qj
  refine xQ (xQ ?_)
  refine jh rfl H fun H=>rtp 0 (yI k) H ?_
  refine rtp 1 (Bv (decide ((k:Int) > 0))) H ?_
  refine rtp 2 (Bv (decide ((k:Int) > 0))) H ?_
  cases h195:(decide ((k:Int) > 0))
  ·skip
   replace h195:=of_decide_eq_false h195
   refine zZ [3,4,5,6,7,8,9,10,11,12] 10 (H) (rtp 13 (Bv false) H ?_)
   refine xP qh (t_n (xE false rfl (fun h=>absurd h qj) (fun _=>c_exit (t_x (t_x (b_x (b_n (t_n (xO (sp (yI i_1) (sw (zB i_1 1 rfl rfl qf (sp (yI (i_1+1)) (xM (qY (m' :=(xX - ((i_1+1):Int)).toNat) qf ⟨_,i_1+1,out_51,yu,vk,uE2,?_,?_,?_,rfl,N,H⟩)))))))))))))))
   · omega
   · assumption
   · exact o4.stop (perm_rows o3) qf qf (by first | exact .inl qf | exact .inr (by rw [show k.toNat - 1=(k - 1).toNat by omega];assumption))
  replace h195:=of_decide_eq_true h195
  refine rgp 3 (Sv zX xX zK) 110 H ?_
  refine rgp 4 (yI k) 110 H ?_
  obtain ⟨b196,rfl⟩:=H.Qn 0 rfl qf
  refine gI 5 rfl rfl rfl H ?_
  obtain ⟨a197,c198,G199,s200,h201,hx202,hy203,H⟩:=H.rowElemX 0 rfl 0 rfl (iv:=k) k.toNat qf qf
  have S:=H.yU [0] [1]
  refine gL 6 rfl rfl (fun _ h=>h.rowGet 0 rfl hx202) S ?_
  refine rgp 7 (Sv (aa b196 0) xX zK) 110 S ?_
  refine rgp 8 (yI k) 110 S ?_
  refine rg 9 (yI (k - 1)) 110 (y_sub k 1 rfl rfl qf) S ?_
  refine gI 10 rfl rfl rfl S ?_
  obtain ⟨a204,c205,G206,s207,h208,hx209,hy210,H⟩:=H.rowElemX 0 rfl 1 rfl (iv:=k - 1) ((k - 1).toNat) qf qf
  refine gL 11 rfl rfl (fun _ h=>h.rowGet 0 rfl hx209) (H.pick [0] [2]) ?_
  refine jK [12] qh qm (r_opG rfl (e:=110) rfl rfl ?_ jL)
  have g5:=perm_rows o3
  have g6:=g5 k.toNat qf
  have g7:=g5 (k - 1).toNat qf
  refine oq (l03Before_ok _ (out_51[k.toNat]!) (out_51[(k - 1).toNat]!) (H.get 1 rfl).1 (H.get 0 rfl).1 qg) H fun w212 H=>⟨H.pick [0] [2],(rtp 13 (Bv (dec (ahead (out_51[k.toNat]!) (out_51[(k - 1).toNat]!)))) (H.pick [0] [2]) ?_)⟩
  refine xP qh (t_n (cP rfl (fun h214=>?_) (fun h214=>?_)))
  ·skip
   refine qW (t_n (xQ (qX (zcr (sps [Sv (aa b196 0) xX zK,yI k] (oI rfl rfl ?_))))))
   obtain ⟨a215,c216,G217,s218,h219,hx220,hy221,H⟩:=H.rowElemX 0 rfl 2 rfl (iv:=k) k.toNat qf qf
   refine oL rfl (H.rowGet 0 rfl hx220) (sp (Sv a215 ((out_51[k.toNat]!).length) c216) (zjc (sps [Sv (aa b196 0) xX zK,yI k,Sv (aa b196 0) xX zK,yI k] (sw (o_sub k 1 rfl rfl qf (oI rfl rfl ?_))))))
   obtain ⟨a222,c223,G224,s225,h226,hx227,hy228,H⟩:=H.rowElemX 0 rfl 3 rfl (iv:=k - 1) ((k - 1).toNat) qf qf
   refine oL rfl (H.rowGet 0 rfl hx227) (oI rfl rfl (sw (YY H 0 rfl (Sv a222 ((out_51[(k - 1).toNat]!).length) c223) sizeOf22 rfl rfl rfl qf fun w229 H=>zjn (xO (sps [Sv (aa b196 0) xX zK,yI k] (sw (o_sub k 1 rfl rfl qf (sp (Sv a215 ((out_51[k.toNat]!).length) c216) (oI rfl rfl (sw (YY H 0 rfl (Sv a215 ((out_51[k.toNat]!).length) c216) sizeOf22 rfl rfl rfl qf fun w230 H=>?_)))))))))))
   obtain ⟨F231,hF232,H⟩:=H.swapR 4 rfl (k:=(k:Int).toNat) (i:=(k - 1:Int).toNat) qf qf qf hy228 hy221
   replace N:Fresh w.heap.size [F231]:=Fresh.perm N hF232
   refine xM (b_n (t_n (xO (sp (yI k) (sw (o_sub k 1 rfl rfl qf (sp (yI (k - 1)) (xM (qY (m' :=(((k - 1):Int)).toNat) qf ⟨_,k - 1,(swapAt out_51 k.toNat),((yu.set (k:Int).toNat (Sv a222 ((out_51[(k - 1).toNat]!).length) c223)).set (k - 1:Int).toNat (Sv a215 ((out_51[k.toNat]!).length) c216)),F231,uE3,?_,?_,?_,rfl,N,H.pick [0] [0]⟩)))))))))
   · exact perm_swap o3 qf qf
   · rw [show (k - 1).toNat=k.toNat - 1 by omega];exact o4.down (perm_rows o3) qf qf qf (by rw [show k.toNat - 1=(k - 1).toNat by omega];assumption)
   · omega
  refine c_exit (t_x (t_x (b_x (b_n (t_n (xO (sp (yI i_1) (sw (zB i_1 1 rfl rfl qf (sp (yI (i_1+1)) (xM (qY (m' :=(xX - ((i_1+1):Int)).toNat) qf ⟨_,i_1+1,out_51,yu,vk,uE2,?_,?_,?_,rfl,N,H.pick [0] [2]⟩))))))))))))
  · omega
  · assumption
  · exact o4.stop (perm_rows o3) qf qf (by first | exact .inl qf | exact .inr (by rw [show k.toNat - 1=(k - 1).toNat by omega];assumption))
 refine zx4 (zcr (sps [Sv zX xX zK,Sv zX xX zK,yI 0] (zjr (ret2 (Sv zX xX zK) (yI 0) rfl rfl rfl ⟨_,rfl,?_,H.base⟩))))
 rw [cho_0 gp kc o1 (in_order qf o2)]
 exact ⟨zX,xX,zK,X3,Q8,rfl,N,H.pick [0] [0]⟩
end
end Go.Proofs.YtgjnaocffdhnbaaGreat
