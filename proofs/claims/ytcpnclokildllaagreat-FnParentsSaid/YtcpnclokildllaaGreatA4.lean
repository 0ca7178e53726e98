/- Walks and laws, printed by program and by hand: what each function comes to, for all arguments, part 4. -/
import Derived.Test.YtcpnclokildllaaGreatA3
namespace Go.Proofs.YtcpnclokildllaaGreat
set_option linter.unusedVariables false
set_option linter.unusedSimpArgs false
open Go.Proofs.YtcpnclokildllaaGreat.Tot (tot)
open Go.Proofs.YtcpnclokildllaaGreat.Mark (cnt mrk mkd mkd_mark cnt_mark)
section
open Go.Proofs.Tryz
open Go.RowKit
set_option linter.unusedVariables false
set_option linter.unusedSimpArgs false
set_option maxRecDepth 100000
set_option maxHeartbeats 4000000
variable {qA qI qU xB qN : Nat}
theorem around_ok (w:World) (s:qy) {qB:yOA} {qX:yLN} {qJ:yOA} {xG:yLN} (qP:qW.rep w qX [.slice qB s.qx.length qA] s.qx) (xx:qW.rep w xG [.slice qJ s.qw.length qI] s.qw):Calls Tryz.prog 106 #[.agg #[yI s.xk,.slice qB s.qx.length qA,.slice qJ s.qw.length qI]] w (Ret (fun v w' =>v=yI s.qx.length) w):=by
 refine en func106 ntmps106 ?_
 have H:=((St.start w).arg xx).arg qP
 have zS:=qQ qP
 have jv:=qQ xx
 clear qP xx
 have N:=Fresh.nil w.heap.size
 refine zcr (sw (jT H (yS s qB qA qJ qI) fun b1 w2 H=>sp (yI 0) (zjc (oF rfl (oL rfl (H.cell 0 rfl rfl) (oN rfl (sp (yI s.qx.length) (zjr (ret1 (yI s.qx.length) rfl rfl ⟨_,rfl,?_,H.base⟩)))))))))
 rfl

theorem step_ok (w:World) (s:qy) (t:qF) (counts:yLI) {qB:yOA} {qX:yLN} {qJ:yOA} {xG:yLN} {qY:yOA} {x9:yLN} {xH:yOA} {zN:yLN} {qO:yOA} {xM:yLN} {acounts:yOA} {ccounts:Nat} {Fcounts:yLN} (qP:qW.rep w qX [.slice qB s.qx.length qA] s.qx) (xx:qW.rep w xG [.slice qJ s.qw.length qI] s.qw) (xY:qW.rep w x9 [.slice qY t.qC.length qU] t.qC) (zG:qW.rep w zN [.slice xH t.qK.length xB] t.qK) (xJ:qW.rep w xM [.slice qO t.qG.length qN] t.qG) (hcounts:qW.rep w Fcounts [.slice acounts counts.length ccounts] counts) (p0:jB s) (p1:xW s t) (p2:CntOk s counts) (p3:IsCh s t counts):Calls Tryz.prog 51 #[.agg #[yI s.xk,.slice qB s.qx.length qA,.slice qJ s.qw.length qI],.agg #[.slice qY t.qC.length qU,.slice xH t.qK.length xB,.slice qO t.qG.length qN],.slice acounts counts.length ccounts] w (Ret (fun v w' =>∃ (ra0Alive:yOA) (rn0Alive:Nat) (rc0Alive:Nat) (ra0Bags:yOA) (rn0Bags:Nat) (rc0Bags:Nat) (rx0Bags:List Value) (rF0Bags:yLN) (Xe:yOA) (Xc:Nat) (Xd:Nat),v=.tuple #[.agg #[.slice ra0Alive rn0Alive rc0Alive,.slice ra0Bags rn0Bags rc0Bags,.slice Xe Xc Xd],yI ((xU s t counts).2)]∧Fresh w.heap.size [rF0Bags]∧St w w' [rr ra0Alive rn0Alive rc0Alive 4 1 ((((xU s t counts).1).qC).map (Value.bool)),rr ra0Bags rn0Bags rc0Bags 24 1 rx0Bags,rr Xe Xc Xd 2 1 ((((xU s t counts).1).qG).map (Value.int .i64))] [xe true rF0Bags rx0Bags (((xU s t counts).1).qK)]) w):=by
 refine en func51 ntmps51 ?_
 have H:=((((((St.start w).arg hcounts).arg xJ).arg zG).arg xY).arg xx).arg qP
 have zS:=qQ qP
 have jv:=qQ xx
 have Qe:=qQ xY
 have QI:=qQ zG
 have yg:=qQ xJ
 have nhcounts:=qQ hcounts
 clear qP xx xY zG xJ hcounts
 have N:=Fresh.nil w.heap.size
 have p5:=p0.2.1
 have p6:=p2.1
 have p7:=p1.2.1
 have p8:=kinds_le p0
 have p9:=p0.1.2.1
 have p11:vK s=s.qx.length:=rfl
 have p12:=p1.1
 have p15:=p0.1
 have p16:=p0.1.1
 have p17:=p1.around.1
 refine zcr (sw (jT H (yS s qB qA qJ qI) fun b1 w2 H=>sw (jT H (yT t qY qU xH xB qO qN) fun b3 w4 H=>sw (xu H ti31 [yN,yN,yN] fun b5 w6 H=>sp (yI 0) (zjn (zn ?_))))))
 refine c_cut (fun ρ w11=>∃ (zx:Env) (a7:yOA) (c8:Nat) (rx9:List Value) (rF10:yLN),ρ=upd (upd (upd (upd (upd zx 2 (.slice acounts counts.length ccounts)) 3 (pp b1 0)) 4 (pp b3 0)) 6 (pp b5 0)) 8 (.slice a7 (t.qK.length+1) c8)∧Fresh w.heap.size []∧St w w11 [rr a7 (t.qK.length+1) c8 24 1 (rx9++[.slice qO t.qG.length qN]),.box b5 [yN,yN,yN] 31,.box b3 (yT t qY qU xH xB qO qN) 31,.box b1 (yS s qB qA qJ qI) 27] [xe false (rF10++xM) (rx9++[.slice qO t.qG.length qN]) (t.qK++[t.qG]),sF false qX qB qA s.qx,sF false xG qJ qI s.qw,sF false x9 qY qU t.qC,sF false zN xH xB t.qK,sF false xM qO qN t.qG,sF false Fcounts acounts ccounts counts]) ?_ ?_
 ·skip
  refine y9 rfl H fun H=>tF 0 rfl rfl H ?_
  refine tL 1 rfl rfl (fun _ h=>h.cell 1 rfl rfl) H ?_
  refine tF 3 rfl rfl H ?_
  refine tL 4 rfl rfl (fun _ h=>h.cell 1 rfl rfl) H ?_
  refine zI [2,5] qh qm (vk rfl ?_ (vk rfl ?_ zJ))
  ·skip
   have sz16:=H.base.size
   refine oc (cloneSS_ok _ t.qK (H.get 3 rfl).1 qg) ?_
   rintro _ w14 ⟨ra13,rn13,rc13,rx13,rF13,rfl,hG18,K⟩ _
   replace H:=H.mergeIn K 3 rfl hG18
   obtain rfl:=H.zi (α:=yLI) 0 rfl 0 rfl qj
   refine ⟨H.pick [1,2,3] [1,2,3,4,5,6],(ro 5 rfl (vz H underlying29 ti24 [.slice qO t.qG.length qN] fun b19 w20 H=>⟨H.pick [2,3,4] [1,2,3,4,5,6],(ro 6 rfl (vM H 1 rfl 0 rfl underlying29 ti24 rfl qj rfl rfl rfl (by simp [Value.oneCell',Value.cells]) qp qf fun a21 c22 w23 H=>?_))⟩))⟩
   replace H:=H.Q9 0 rfl 5 rfl
   refine ⟨H.pick [2,3,4] [2,3,4,5,6,7],(rtp 7 (.slice a21 (t.qK.length+1) c22) (H.pick [2,3,4] [2,3,4,5,6,7]) ?_)⟩
   refine xh qh ((meet ⟨_,a21,c22,rx13,rF13,uE5,N,H.pick [1,2,3,4] [0,2,3,4,5,6,7]⟩))
  refine vz H underlying29 ti24 [.slice qO t.qG.length qN] fun b24 w25 H=>⟨H.pick [1,2,3] [0,1,2,3,4,5],(ro 2 rfl ?_)⟩
  have sz29:=H.base.size
  refine oc (cloneSS_ok _ t.qK (H.get 3 rfl).1 qg) ?_
  rintro _ w27 ⟨ra26,rn26,rc26,rx26,rF26,rfl,hG31,K⟩ _
  replace H:=H.mergeIn K 3 rfl hG31
  obtain rfl:=H.zi (α:=yLI) 0 rfl 0 rfl qj
  refine ⟨H.pick [2,3,4] [1,2,3,4,5,6],(ro 6 rfl (vM H 0 rfl 1 rfl underlying29 ti24 rfl qj rfl rfl rfl (by simp [Value.oneCell',Value.cells]) qp qf fun a32 c33 w34 H=>?_))⟩
  replace H:=H.Q9 0 rfl 5 rfl
  refine ⟨H.pick [2,3,4] [2,3,4,5,6,7],(rtp 7 (.slice a32 (t.qK.length+1) c33) (H.pick [2,3,4] [2,3,4,5,6,7]) ?_)⟩
  refine xh qh ((meet ⟨_,a32,c33,rx26,rF26,uE5,N,H.pick [0,2,3,4] [0,2,3,4,5,6,7]⟩))
 clear H N
 rintro ρ w35 ⟨zx,a7,c8,rx9,rF10,rfl,N,H⟩
 refine t_n (zcr (oF rfl (oL rfl (H.cell 3 rfl rfl) (oN rfl (sw (o_makeB H underlying28 ti4 s.qx.length rfl rfl qf qf qf fun b36 w37 H=>sp (.slice (aa b36 0) s.qx.length s.qx.length) (zjcc (sp (.slice acounts counts.length ccounts) (oN rfl (sp (yI 0) (zjn (xq ?_))))))))))))
 refine vJ (fun m' ρ w38=>∃ (zx:Env) (i:Nat) (melts:List Bool) (bags:yLL) (x_bags:List Value) (F_bags:yLN),ρ=upd (upd (upd (upd (upd (upd (upd (upd zx 3 (pp b1 0)) 4 (pp b3 0)) 6 (pp b5 0)) 8 (.slice a7 (t.qK.length+1) c8)) 9 (.slice (aa b36 0) s.qx.length s.qx.length)) 26 (.slice acounts counts.length ccounts)) 27 (yI counts.length)) 28 (yI i)∧melts=yj s counts s.qx.length i∧((i:Int)≤counts.length)∧(Ent (s.qx.length+1) (yX s) (fun p q=>base0 s t p q+allS s t counts i p q) (20000000+6000000 * i) bags)∧(bags.length=s.qx.length+1)∧m' =(counts.length - (i:Int)).toNat∧Fresh w.heap.size []∧St w w38 [rr (aa b36 0) s.qx.length s.qx.length 4 1 (melts.map (Value.bool)),rr a7 (t.qK.length+1) c8 24 1 x_bags,.box b5 [yN,yN,yN] 31,.box b3 (yT t qY qU xH xB qO qN) 31,.box b1 (yS s qB qA qJ qI) 27] [xe false F_bags x_bags bags,sF false qX qB qA s.qx,sF false xG qJ qI s.qw,sF false x9 qY qU t.qC,sF false zN xH xB t.qK,sF false xM qO qN t.qG,sF false Fcounts acounts ccounts counts]) ((counts.length - (0:Int)).toNat) ⟨_,0,(List.replicate s.qx.length (false)),(t.qK++[t.qG]),rx9++[.slice qO t.qG.length qN],(rF10++xM),uE8,(by exact meltsL_zero s counts _),qf,(by exact (start_ent p1).to (fun _ _=>rfl) qf),(by simp;omega),rfl,N,H⟩ ?_
 clear H N
 rintro m' ρ w39 ⟨zx,i,melts,bags,x_bags,F_bags,rfl,rfl,i0,E_bags,z_bags,rfl,N,H⟩
 have hn_melts:=H.QY 0 rfl
 have hn_bags:=H.zi (α:=yLI) 1 rfl 0 rfl qj
 refine zcr (sp (.bool (decide ((i:Int) < counts.length))) (zjn (zn (cD rfl (fun h40=>?_) (fun h40=>?_)))))
 ·skip
  have q:=p0.rule (i:=i) qf
  have qc:=q.1
  have qk:=q.cell
  have qr:=q.2.1
  have bn1:=q.2.2.2.2.1
  have bn2:=q.2.2.2.2.2.2.2.1
  have bn3:=q.2.2.2.2.2.2.2.2.1
  have ln1:=bn1.len
  have ln2:=bn2.len
  have ln3:=bn3.len
  have p10:=p2.bd (i:=i) qf
  have qn:=q.2.2.2.1
  have ml:=meltsL_len s counts s.qx.length i
  refine xw (t_n (zn (xq (zcr (sp (yI i) ?_)))))
  obtain ⟨b41,o42,rfl⟩:=H.addr 6 rfl qf
  refine oI rfl rfl (oL rfl (H.jZ 6 rfl i qf qf) (sps [yI i,yI (counts[i]!)] (zjc (oF rfl (oL rfl (H.cell 4 rfl rfl) (sp (yI i) ?_))))))
  obtain ⟨b44,o45,rfl⟩:=H.addr 2 rfl qf
  obtain ⟨Xq,Xn,Fe47Need,Xt,Xp,Fe47Have,Xr,Xo,Fe47Lack,QX,QV,Fe47Here,Xi,Xh,Fe47Out,QW,QU,Fe47Into,H⟩:=H.Qm 2 rfl i i qf qf qf
  refine oI rfl rfl (sw (zu [yI ((s.qw[i]!).qE),yI ((s.qw[i]!).vw),.slice Xq (((s.qw[i]!).xC).length) Xn,.slice Xt (((s.qw[i]!).x8).length) Xp,.slice Xr (((s.qw[i]!).xZ).length) Xo,.slice QX (((s.qw[i]!).zf).length) QV,.slice Xi (((s.qw[i]!).jb).length) Xh,.slice QW (((s.qw[i]!).qM).length) QU,.bool ((s.qw[i]!).zD)] isAgg56 sizeOf56 rfl (qH (H.get 6 rfl) 0 9) ?_))
  refine sw (xu H ti56 [yI 0,yI 0,yN,yN,yN,yN,yN,yN,.bool false] fun b48 w49 H=>sw (qV H 0 [yI ((s.qw[i]!).qE),yI ((s.qw[i]!).vw),.slice Xq (((s.qw[i]!).xC).length) Xn,.slice Xt (((s.qw[i]!).x8).length) Xp,.slice Xr (((s.qw[i]!).xZ).length) Xo,.slice QX (((s.qw[i]!).zf).length) QV,.slice Xi (((s.qw[i]!).jb).length) Xh,.slice QW (((s.qw[i]!).qM).length) QU,.bool ((s.qw[i]!).zD)] sizeOf56 fun w50 H=>?_))
  refine zjn (zn ?_)
  refine yU rfl H [0,1,3,4,5] fun H=>?_
  have S:=H.jA [0,1,3,4,5] [0,1,2,3,4,5,6,7,8,9,10,11,12,13]
  refine rtp 0 (.slice a7 (t.qK.length+1) c8) S ?_
  refine tF 1 rfl rfl S ?_
  refine tL 2 rfl rfl (fun _ h=>h.cell 0 rfl rfl) S ?_
  refine rtp 3 (.slice a7 (t.qK.length+1) c8) S ?_
  refine tF 4 rfl rfl S ?_
  refine tL 5 rfl rfl (fun _ h=>h.cell 0 rfl rfl) S ?_
  obtain ⟨b52,rfl⟩:=H.QQ 2 rfl qf
  have S:=H.jA [0,1,3,4,5] [0,1,2,3,4,5,6,7,8,9,10,11,12,13]
  refine tI 6 rfl rfl rfl S ?_
  refine tF 8 rfl rfl S ?_
  refine tL 9 rfl rfl (fun _ h=>h.cell 0 rfl rfl) S ?_
  refine rtp 10 (yI (counts[i]!)) S ?_
  refine rt 11 (yI (-(counts[i]!))) (y_neg (counts[i]!) rfl qf) S ?_
  refine ro 7 rfl ?_
  obtain ⟨a53,c54,G55,s56,h57,H⟩:=H.jI 2 rfl 7 rfl (iv:=(s.qw[i]!).qE) (((s.qw[i]!).qE).toNat) qf qf
  refine zk (.slice a53 ((bags[((s.qw[i]!).qE).toNat]!).length) c54) isAgg24 rfl (h57) (⟨H.pick [0,1,3,4,5] [1,2,3,4,5,6,7,8,9,10,11,12,13,14],(ro 12 rfl ?_)⟩)
  obtain ⟨u1,u2⟩:=E_bags.sh.row (c:=((s.qw[i]!).qE).toNat) qf p8 qf
  have u4:=(by first | exact bn1.yf qf | exact bn2.yf qf | exact bn3.yf qf | exact bn4.yf qf:SmallT ((s.qw[i]!).xC) (-(counts[i]!)))
  have sz58:=H.base.size
  refine oc (plus_ok _ (bags[((s.qw[i]!).qE).toNat]!) ((s.qw[i]!).xC) (-(counts[i]!)) (H.get 0 rfl).1 (H.get 1 rfl).1 qg qg qg) ?_
  rintro v63 w61 r63 x62
  replace H:=H.zt x62 r63
  obtain ⟨a64,c65,rfl,hc66,hm67⟩:=H.jS 0 rfl
  refine ⟨H.pick [1,2,4,5,6] [1,2,3,4,5,6,7,8,9,10,11,12,13,14],(tI 13 rfl rfl rfl (H.pick [1,2,4,5,6] [1,2,3,4,5,6,7,8,9,10,11,12,13,14]) ?_)⟩
  refine ro 14 rfl ?_
  obtain ⟨G69,N,hn70,H⟩:=H.zV 0 rfl N (H.yK [])
  refine jw false H 3 rfl 9 rfl (.slice a64 ((jR (bags[((s.qw[i]!).qE).toNat]!) ((s.qw[i]!).xC) (-(counts[i]!))).length) c65) 0 rfl rfl sizeOf24 rfl rfl (i:=(((s.qw[i]!).qE).toNat)) qf qf qm fun w68 xs71 F72 hs73 H=>⟨H.pick [1,2,4,5,6] [3,4,5,6,7,8,9,10,11,12,13,14,15,16],(xh qh (t_n (zcr (sw (zu [yI s.xk,.slice qB s.qx.length qA,.slice (aa b44 o45) s.qw.length qI] isAgg27 sizeOf27 rfl (qH (H.cells 6 rfl) 0 3) ?_)))))⟩
  refine sw (zu (yT t qY qU xH xB qO qN) isAgg31 sizeOf31 rfl (qH (H.cells 5 rfl) 0 3) (sp (.slice (aa b52 0) (t.qK.length+1) c8) ?_))
  refine sw (zu [yI ((s.qw[i]!).qE),yI ((s.qw[i]!).vw),.slice Xq (((s.qw[i]!).xC).length) Xn,.slice Xt (((s.qw[i]!).x8).length) Xp,.slice Xr (((s.qw[i]!).xZ).length) Xo,.slice QX (((s.qw[i]!).zf).length) QV,.slice Xi (((s.qw[i]!).jb).length) Xh,.slice QW (((s.qw[i]!).qM).length) QU,.bool ((s.qw[i]!).zD)] isAgg56 sizeOf56 rfl (qH (H.cells 1 rfl) 0 9) (sp (yI (counts[i]!)) ?_))
  obtain ⟨bg74,e_bg74⟩:∃ z,z=(bags.set (((s.qw[i]!).qE).toNat) (jR (bags[((s.qw[i]!).qE).toNat]!) ((s.qw[i]!).xC) (-(counts[i]!)))):=⟨_,rfl⟩
  rw [← e_bg74] at H
  have E_bg74:=Ent.add (D:=1000000) E_bags e_bg74 qf (by first | exact bn1.mul qf | exact bn2.mul qf | exact bn3.mul qf | exact bn4.mul qf) qf
  have z_bg74:=E_bg74.sh.1
  have E_cur:=E_bg74
  refine sw (Qb #[.agg #[yI s.xk,.slice qB s.qx.length qA,.slice (aa b44 o45) s.qw.length qI],.agg #[.slice qY t.qC.length qU,.slice xH t.qK.length xB,.slice qO t.qG.length qN],.slice (aa b52 0) (t.qK.length+1) c8,.agg #[yI ((s.qw[i]!).qE),yI ((s.qw[i]!).vw),.slice Xq (((s.qw[i]!).xC).length) Xn,.slice Xt (((s.qw[i]!).x8).length) Xp,.slice Xr (((s.qw[i]!).xZ).length) Xo,.slice QX (((s.qw[i]!).zf).length) QV,.slice Xi (((s.qw[i]!).jb).length) Xh,.slice QW (((s.qw[i]!).qM).length) QU,.bool ((s.qw[i]!).zD)],yI (counts[i]!)] rfl rfl call105 ?_)
  refine en func105 ntmps105 ?_
  refine zcr (sw (jT H [yI s.xk,.slice qB s.qx.length qA,.slice (aa b44 o45) s.qw.length qI] fun b75 w76 H=>sw (jT H (yT t qY qU xH xB qO qN) fun b77 w78 H=>sw (jT H [.slice (aa b52 0) (t.qK.length+1) c8] fun b79 w80 H=>?_))))
  refine sw (jT H [yI ((s.qw[i]!).qE),yI ((s.qw[i]!).vw),.slice Xq (((s.qw[i]!).xC).length) Xn,.slice Xt (((s.qw[i]!).x8).length) Xp,.slice Xr (((s.qw[i]!).xZ).length) Xo,.slice QX (((s.qw[i]!).zf).length) QV,.slice Xi (((s.qw[i]!).jb).length) Xh,.slice QW (((s.qw[i]!).qM).length) QU,.bool ((s.qw[i]!).zD)] fun b81 w82 H=>sw (jT H [yI (counts[i]!)] fun b83 w84 H=>zjc ?_))
  refine sps [.func (.func 173) #[] #[pp b79 0,pp b83 0],.func (.func 173) #[] #[pp b79 0,pp b83 0]] (zjc (sp (.func (.func 173) #[] #[pp b79 0,pp b83 0]) (oF rfl (oL rfl (H.cell 1 rfl rfl) (oF rfl (oL rfl (H.cell 1 rfl rfl) (sw (Qb #[yI ((s.qw[i]!).qE),.slice QX (((s.qw[i]!).zf).length) QV,pp b79 0,pp b83 0] rfl rfl call173 (en func173 ntmps173 ?_)))))))))
  refine yU rfl H [0,1,2,3,4,5,6,7,9,10,11] fun H=>?_
  have S:=H.jA [0,1,2,3,4,5,6,7,9,10,11] [0,1,2,3,4,5,6,7,8,9,10,11,12,13,14,15,16]
  refine tL 0 rfl rfl (fun _ h=>h.cell 2 rfl rfl) S ?_
  refine rtp 1 (yI ((s.qw[i]!).qE)) S ?_
  refine tL 2 rfl rfl (fun _ h=>h.cell 2 rfl rfl) S ?_
  refine rtp 3 (yI ((s.qw[i]!).qE)) S ?_
  refine tI 4 rfl rfl rfl S ?_
  refine rtp 6 (.slice QX (((s.qw[i]!).zf).length) QV) S ?_
  refine tL 7 rfl rfl (fun _ h=>h.cell 0 rfl rfl) S ?_
  refine ro 5 rfl ?_
  obtain ⟨a86,c87,G88,s89,h90,H⟩:=H.jI 8 rfl 0 rfl (iv:=(s.qw[i]!).qE) (((s.qw[i]!).qE).toNat) qf qf
  refine zk (.slice a86 ((bg74[((s.qw[i]!).qE).toNat]!).length) c87) isAgg24 rfl (h90) (⟨H.pick [0,1,2,3,4,5,6,7,9,10,11] [1,2,3,4,5,6,7,8,9,10,11,12,13,14,15,16,17],(ro 8 rfl ?_)⟩)
  obtain ⟨u1,u2⟩:=E_bg74.sh.row (c:=((s.qw[i]!).qE).toNat) qf p8 qf
  have u4:=(by first | exact bn1.yf qf | exact bn2.yf qf | exact bn3.yf qf | exact bn4.yf qf:SmallT ((s.qw[i]!).zf) (counts[i]!))
  have sz91:=H.base.size
  have lt92:=H.ltN (L:=[G69]) [2]
  refine oc (plus_ok _ (bg74[((s.qw[i]!).qE).toNat]!) ((s.qw[i]!).zf) (counts[i]!) (H.get 0 rfl).1 (H.get 7 rfl).1 qg qg qg) ?_
  rintro v96 w94 r96 x95
  replace H:=H.zt x95 r96
  obtain ⟨a97,c98,rfl,hc99,hm100⟩:=H.jS 0 rfl
  refine ⟨H.pick [1,2,3,4,5,6,7,8,10,11,12] [1,2,3,4,5,6,7,8,9,10,11,12,13,14,15,16,17],(tI 9 rfl rfl rfl (H.pick [1,2,3,4,5,6,7,8,10,11,12] [1,2,3,4,5,6,7,8,9,10,11,12,13,14,15,16,17]) ?_)⟩
  refine ro 10 rfl ?_
  obtain ⟨G102,N,hn103,H⟩:=H.zV 0 rfl N (H.yK [2])
  refine jw false H 9 rfl 2 rfl (.slice a97 ((jR (bg74[((s.qw[i]!).qE).toNat]!) ((s.qw[i]!).zf) (counts[i]!)).length) c98) 0 rfl rfl sizeOf24 rfl rfl (i:=(((s.qw[i]!).qE).toNat)) qf qf qm fun w101 xs104 F105 hs106 H=>⟨H.pick [1,2,3,4,5,6,7,8,10,11,12] [3,4,5,6,7,8,9,10,11,12,13,14,15,16,17,18,19],(xh qh ((ret0 rfl ⟨_,rfl,?_⟩)))⟩
  replace H:=H.erases [6,0]
  dsimp only [Qg,List.eraseIdx] at H
  obtain ⟨bg107,e_bg107⟩:∃ z,z=(bg74.set (((s.qw[i]!).qE).toNat) (jR (bg74[((s.qw[i]!).qE).toNat]!) ((s.qw[i]!).zf) (counts[i]!))):=⟨_,rfl⟩
  rw [← e_bg107] at H
  have E_bg107:=Ent.add (D:=1000000) E_bg74 e_bg107 qf (by first | exact bn1.mul qf | exact bn2.mul qf | exact bn3.mul qf | exact bn4.mul qf) qf
  have z_bg107:=E_bg107.sh.1
  have E_cur:=E_bg107
  refine zjcc (sw (zu [yI s.xk,.slice qB s.qx.length qA,.slice (aa b44 o45) s.qw.length qI] isAgg27 sizeOf27 rfl (qH (H.cells 4 rfl) 0 3) (sw (zu (yT t qY qU xH xB qO qN) isAgg31 sizeOf31 rfl (qH (H.cells 3 rfl) 0 3) (oF rfl (oL rfl (H.cell 1 rfl rfl) ?_))))))
  have qc' :=qc
  refine sw (oq (parentNow_ok _ s t ((s.qw[i]!).qE) (H.get 14 rfl).1 (H.get 15 rfl).1 (H.get 16 rfl).1 (H.get 17 rfl).1 (H.get 18 rfl).1 qg qg qg) H fun w109 H=>?_)
  have pl:=parentNow_lt p15 p1.2.2.1 qc
  refine sp (yI (qR s t ((s.qw[i]!).qE))) (zjc (sps [yI (qR s t ((s.qw[i]!).qE)),.bool (decide ((qR s t ((s.qw[i]!).qE):Int)≥0))] (zjn (cD rfl (fun h111=>?_) (fun h111=>?_)))))
  ·skip
   have po:=outPl_in (r:=s.qw[i]!) p15 ‹_›
   refine zl (sps [.func (.func 173) #[] #[pp b79 0,pp b83 0],yI (qR s t ((s.qw[i]!).qE))] (oF rfl (oL rfl (H.cell 1 rfl rfl) (sw (Qb #[yI (qR s t ((s.qw[i]!).qE)),.slice Xi (((s.qw[i]!).jb).length) Xh,pp b79 0,pp b83 0] rfl rfl call173 (en func173 ntmps173 ?_))))))
   refine yU rfl H [0,1,2,3,4,5,6,8,9,10] fun H=>?_
   have S:=H.jA [0,1,2,3,4,5,6,8,9,10] [0,1,2,3,4,5,6,7,8,9,10,11,12,13,14,15,16,17,18,19]
   refine tL 0 rfl rfl (fun _ h=>h.cell 2 rfl rfl) S ?_
   refine rtp 1 (yI (qR s t ((s.qw[i]!).qE))) S ?_
   refine tL 2 rfl rfl (fun _ h=>h.cell 2 rfl rfl) S ?_
   refine rtp 3 (yI (qR s t ((s.qw[i]!).qE))) S ?_
   refine tI 4 rfl rfl rfl S ?_
   refine rtp 6 (.slice Xi (((s.qw[i]!).jb).length) Xh) S ?_
   refine tL 7 rfl rfl (fun _ h=>h.cell 0 rfl rfl) S ?_
   refine ro 5 rfl ?_
   obtain ⟨a113,c114,G115,s116,h117,H⟩:=H.jI 7 rfl 0 rfl (iv:=qR s t ((s.qw[i]!).qE)) ((qR s t ((s.qw[i]!).qE)).toNat) qf qf
   refine zk (.slice a113 ((bg107[(qR s t ((s.qw[i]!).qE)).toNat]!).length) c114) isAgg24 rfl (h117) (⟨H.pick [0,1,2,3,4,5,6,8,9,10] [1,2,3,4,5,6,7,8,9,10,11,12,13,14,15,16,17,18,19,20],(ro 8 rfl ?_)⟩)
   obtain ⟨u1,u2⟩:=E_bg107.sh.row (c:=(qR s t ((s.qw[i]!).qE)).toNat) qf p8 qf
   have u4:=(by first | exact bn1.yf qf | exact bn2.yf qf | exact bn3.yf qf | exact bn4.yf qf:SmallT ((s.qw[i]!).jb) (counts[i]!))
   have sz118:=H.base.size
   have lt119:=H.ltN (L:=[G102,G69]) [2,5]
   refine oc (plus_ok _ (bg107[(qR s t ((s.qw[i]!).qE)).toNat]!) ((s.qw[i]!).jb) (counts[i]!) (H.get 0 rfl).1 (H.get 11 rfl).1 qg qg qg) ?_
   rintro v123 w121 r123 x122
   replace H:=H.zt x122 r123
   obtain ⟨a124,c125,rfl,hc126,hm127⟩:=H.jS 0 rfl
   refine ⟨H.pick [1,2,3,4,5,6,7,9,10,11] [1,2,3,4,5,6,7,8,9,10,11,12,13,14,15,16,17,18,19,20],(tI 9 rfl rfl rfl (H.pick [1,2,3,4,5,6,7,9,10,11] [1,2,3,4,5,6,7,8,9,10,11,12,13,14,15,16,17,18,19,20]) ?_)⟩
   refine ro 10 rfl ?_
   obtain ⟨G129,N,hn130,H⟩:=H.zV 0 rfl N (H.yK [2,5])
   refine jw false H 8 rfl 2 rfl (.slice a124 ((jR (bg107[(qR s t ((s.qw[i]!).qE)).toNat]!) ((s.qw[i]!).jb) (counts[i]!)).length) c125) 0 rfl rfl sizeOf24 rfl rfl (i:=((qR s t ((s.qw[i]!).qE)).toNat)) qf qf qm fun w128 xs131 F132 hs133 H=>⟨H.pick [1,2,3,4,5,6,7,9,10,11] [3,4,5,6,7,8,9,10,11,12,13,14,15,16,17,18,19,20,21,22],(xh qh ((ret0 rfl ⟨_,rfl,?_⟩)))⟩
   replace H:=H.erases [0]
   dsimp only [Qg,List.eraseIdx] at H
   obtain ⟨bg134,e_bg134⟩:∃ z,z=(bg107.set ((qR s t ((s.qw[i]!).qE)).toNat) (jR (bg107[(qR s t ((s.qw[i]!).qE)).toNat]!) ((s.qw[i]!).jb) (counts[i]!))):=⟨_,rfl⟩
   rw [← e_bg134] at H
   have E_bg134:=Ent.add (D:=1000000) E_bg107 e_bg134 qf (by first | exact bn1.mul qf | exact bn2.mul qf | exact bn3.mul qf | exact bn4.mul qf) qf
   have z_bg134:=E_bg134.sh.1
   have E_cur:=E_bg134
   refine zjc (oF rfl (oL rfl (H.cell 1 rfl rfl) (oN rfl (sp (yI 0) (zjn (xq ?_))))))
   refine vJ (fun m' ρ w135=>∃ (zx:Env) (k:Nat) (bags_1:yLL) (Xk:List Value) (F_bags_1:yLN),ρ=upd (upd (upd (upd zx 10 (.func (.func 173) #[] #[pp b79 0,pp b83 0])) 40 (.slice QW (((s.qw[i]!).qM).length) QU)) 41 (yI (((s.qw[i]!).qM).length))) 42 (yI k)∧((k:Int)≤(((s.qw[i]!).qM).length))∧(Ent (s.qx.length+1) (yX s) (fun p q=>base0 s t p q+allS s t counts i p q+at' p (s.qw[i]!).qE.toNat (-(counts[i]!) * ((s.qw[i]!).xC)[q]!)+at' p (s.qw[i]!).qE.toNat ((counts[i]!) * ((s.qw[i]!).zf)[q]!)+at' p (outPl s t (s.qw[i]!)) ((counts[i]!) * ((s.qw[i]!).jb)[q]!)+intoF (s.qw[i]!) (counts[i]!) k p q) (23000000+6000000 * i+1000000 * k) bags_1)∧(bags_1.length=s.qx.length+1)∧m' =((((s.qw[i]!).qM).length) - (k:Int)).toNat∧Fresh w.heap.size [G69]∧St w w135 [.box b83 [yI (counts[i]!)] 2,.box b81 [yI ((s.qw[i]!).qE),yI ((s.qw[i]!).vw),.slice Xq (((s.qw[i]!).xC).length) Xn,.slice Xt (((s.qw[i]!).x8).length) Xp,.slice Xr (((s.qw[i]!).xZ).length) Xo,.slice QX (((s.qw[i]!).zf).length) QV,.slice Xi (((s.qw[i]!).jb).length) Xh,.slice QW (((s.qw[i]!).qM).length) QU,.bool ((s.qw[i]!).zD)] 56,.box b79 [.slice (aa b52 0) (t.qK.length+1) c8] 29,.box b77 (yT t qY qU xH xB qO qN) 31,.box b75 [yI s.xk,.slice qB s.qx.length qA,.slice (aa b44 o45) s.qw.length qI] 27,.box b48 [yI ((s.qw[i]!).qE),yI ((s.qw[i]!).vw),.slice Xq (((s.qw[i]!).xC).length) Xn,.slice Xt (((s.qw[i]!).x8).length) Xp,.slice Xr (((s.qw[i]!).xZ).length) Xo,.slice QX (((s.qw[i]!).zf).length) QV,.slice Xi (((s.qw[i]!).jb).length) Xh,.slice QW (((s.qw[i]!).qM).length) QU,.bool ((s.qw[i]!).zD)] 56,rr (aa b36 0) s.qx.length s.qx.length 4 1 ((yj s counts s.qx.length i).map (Value.bool)),rr (aa b52 0) (t.qK.length+1) c8 24 1 Xk,.box b5 [yN,yN,yN] 31,.box b3 (yT t qY qU xH xB qO qN) 31,.box b1 [yI s.xk,.slice qB s.qx.length qA,.slice (aa b44 o45) s.qw.length qI] 27] [xe false F_bags_1 Xk bags_1,sF true G69 a64 c65 (jR (bags[((s.qw[i]!).qE).toNat]!) ((s.qw[i]!).xC) (-(counts[i]!))),sF false G55 a53 c54 (bags[((s.qw[i]!).qE).toNat]!),sF false Fe47Need Xq Xn ((s.qw[i]!).xC),sF false Fe47Have Xt Xp ((s.qw[i]!).x8),sF false Fe47Lack Xr Xo ((s.qw[i]!).xZ),sF false Fe47Here QX QV ((s.qw[i]!).zf),sF false Fe47Out Xi Xh ((s.qw[i]!).jb),sF false Fe47Into QW QU ((s.qw[i]!).qM),atF b44 (o45+(i:Int).toNat * 9) [yI ((s.qw[i]!).qE),yI ((s.qw[i]!).vw),.slice Xq (((s.qw[i]!).xC).length) Xn,.slice Xt (((s.qw[i]!).x8).length) Xp,.slice Xr (((s.qw[i]!).xZ).length) Xo,.slice QX (((s.qw[i]!).zf).length) QV,.slice Xi (((s.qw[i]!).jb).length) Xh,.slice QW (((s.qw[i]!).qM).length) QU,.bool ((s.qw[i]!).zD)],sF false qX qB qA s.qx,sF false xG (aa b44 o45) qI s.qw,sF false x9 qY qU t.qC,sF false zN xH xB t.qK,sF false xM qO qN t.qG,sF false Fcounts (aa b41 o42) ccounts counts]) (((((s.qw[i]!).qM).length) - (0:Int)).toNat) ⟨_,0,bg134,xs131,F132,uE4,qf,(by exact E_cur.to (fun p q=>by rw [po];simp only [intoF];first | omega | (simp only [Int.toNat_natCast];omega)) qf),qf,rfl,(N.pick [2]),H.pick [0,1,2,3,4,5,6,7,8,9,10] [0,7,8,9,10,11,12,13,14,15,17,18,19,20,21,22]⟩ ?_
   clear H N
   rintro m' ρ w136 ⟨zx,k,bags_1,Xk,F_bags_1,rfl,i0,E_bags_1,z_bags_1,rfl,N,H⟩
   have hn_bags:=H.zi (α:=yLI) 7 rfl 0 rfl qj
   refine zcr (sp (.bool (decide ((k:Int) < (((s.qw[i]!).qM).length)))) (zjn (zn (cD rfl (fun h137=>?_) (fun h137=>?_)))))
   ·skip
    have qi:=q.2.2.2.2.2.2.2.2.2.2 k qf
    have qi1:=qi.1
    have bn4:=qi.2.2.1
    have ln4:=bn4.len
    refine xw (t_n (zn (xq (zcr ?_))))
    obtain ⟨b138,o139,rfl⟩:=H.addr 8 rfl qf
    obtain ⟨ae141Bag,ce141Bag,Fe141Bag,H⟩:=H.yY 8 rfl k k qf qf qf
    refine oI rfl rfl (sw (zu [yI ((((s.qw[i]!).qM)[k]!).qE),.slice ae141Bag (((((s.qw[i]!).qM)[k]!).QC).length) ce141Bag] isAgg142 sizeOf142 rfl (qH (H.get 1 rfl) 0 2) (sw (xu H ti142 [yI 0,yN] fun b142 w143 H=>sw (qV H 0 [yI ((((s.qw[i]!).qM)[k]!).qE),.slice ae141Bag (((((s.qw[i]!).qM)[k]!).QC).length) ce141Bag] sizeOf142 fun w144 H=>zjn (zl (sp (.func (.func 173) #[] #[pp b79 0,pp b83 0]) (oF rfl (oL rfl (H.cell 0 rfl rfl) (oF rfl (oL rfl (H.cell 0 rfl rfl) ?_)))))))))))
    refine sw (Qb #[yI ((((s.qw[i]!).qM)[k]!).qE),.slice ae141Bag (((((s.qw[i]!).qM)[k]!).QC).length) ce141Bag,pp b79 0,pp b83 0] rfl rfl call173 (en func173 ntmps173 ?_))
    refine yU rfl H [0,1,2,3,4,5,6,7,9,10,11] fun H=>?_
    have S:=H.jA [0,1,2,3,4,5,6,7,9,10,11] [0,1,2,3,4,5,6,7,8,9,10,11,12,13,14,15,16,17]
    refine tL 0 rfl rfl (fun _ h=>h.cell 3 rfl rfl) S ?_
    refine rtp 1 (yI ((((s.qw[i]!).qM)[k]!).qE)) S ?_
    refine tL 2 rfl rfl (fun _ h=>h.cell 3 rfl rfl) S ?_
    refine rtp 3 (yI ((((s.qw[i]!).qM)[k]!).qE)) S ?_
    refine tI 4 rfl rfl rfl S ?_
    refine rtp 6 (.slice ae141Bag (((((s.qw[i]!).qM)[k]!).QC).length) ce141Bag) S ?_
    refine tL 7 rfl rfl (fun _ h=>h.cell 1 rfl rfl) S ?_
    refine ro 5 rfl ?_
    obtain ⟨a146,c147,G148,s149,h150,H⟩:=H.jI 8 rfl 2 rfl (iv:=(((s.qw[i]!).qM)[k]!).qE) (((((s.qw[i]!).qM)[k]!).qE).toNat) qf qf
    refine zk (.slice a146 ((bags_1[((((s.qw[i]!).qM)[k]!).qE).toNat]!).length) c147) isAgg24 rfl (h150) (⟨H.pick [0,1,2,3,4,5,6,7,9,10,11] [1,2,3,4,5,6,7,8,9,10,11,12,13,14,15,16,17,18],(ro 8 rfl ?_)⟩)
    obtain ⟨u1,u2⟩:=E_bags_1.sh.row (c:=((((s.qw[i]!).qM)[k]!).qE).toNat) qf p8 qf
    have u4:=(by first | exact bn1.yf qf | exact bn2.yf qf | exact bn3.yf qf | exact bn4.yf qf:SmallT ((((s.qw[i]!).qM)[k]!).QC) (counts[i]!))
    have sz151:=H.base.size
    have lt152:=H.ltN (L:=[G69]) [4]
    refine oc (plus_ok _ (bags_1[((((s.qw[i]!).qM)[k]!).qE).toNat]!) ((((s.qw[i]!).qM)[k]!).QC) (counts[i]!) (H.get 0 rfl).1 (H.get 1 rfl).1 qg qg qg) ?_
    rintro v156 w154 r156 x155
    replace H:=H.zt x155 r156
    obtain ⟨a157,c158,rfl,hc159,hm160⟩:=H.jS 0 rfl
    refine ⟨H.pick [1,2,3,4,5,6,7,8,10,11,12] [1,2,3,4,5,6,7,8,9,10,11,12,13,14,15,16,17,18],(tI 9 rfl rfl rfl (H.pick [1,2,3,4,5,6,7,8,10,11,12] [1,2,3,4,5,6,7,8,9,10,11,12,13,14,15,16,17,18]) ?_)⟩
    refine ro 10 rfl ?_
    obtain ⟨G162,N,hn163,H⟩:=H.zV 0 rfl N (H.yK [4])
    refine jw false H 9 rfl 4 rfl (.slice a157 ((jR (bags_1[((((s.qw[i]!).qM)[k]!).qE).toNat]!) ((((s.qw[i]!).qM)[k]!).QC) (counts[i]!)).length) c158) 0 rfl rfl sizeOf24 rfl rfl (i:=(((((s.qw[i]!).qM)[k]!).qE).toNat)) qf qf qm fun w161 xs164 F165 hs166 H=>⟨H.pick [1,2,3,4,5,6,7,8,10,11,12] [3,4,5,6,7,8,9,10,11,12,13,14,15,16,17,18,19,20],(xh qh ((ret0 rfl ⟨_,rfl,?_⟩)))⟩
    replace H:=H.erases [0]
    dsimp only [Qg,List.eraseIdx] at H
    obtain ⟨bg167,e_bg167⟩:∃ z,z=(bags_1.set (((((s.qw[i]!).qM)[k]!).qE).toNat) (jR (bags_1[((((s.qw[i]!).qM)[k]!).qE).toNat]!) ((((s.qw[i]!).qM)[k]!).QC) (counts[i]!))):=⟨_,rfl⟩
    rw [← e_bg167] at H
    have E_bg167:=Ent.add (D:=1000000) E_bags_1 e_bg167 qf (by first | exact bn1.mul qf | exact bn2.mul qf | exact bn3.mul qf | exact bn4.mul qf) qf
    have z_bg167:=E_bg167.sh.1
    have E_cur:=E_bg167
    refine zo (b_n (t_n (zl (sw (vg k 1 rfl rfl qf (sp (yI (k+1)) (zo (xn (m' :=((((s.qw[i]!).qM).length) - ((k+1):Int)).toNat) qf ⟨_,k+1,bg167,xs164,F165,uE4,?_,?_,?_,rfl,(N.pick [1]),H.pick [1,2,3,4,5,6,7,8,9,10,11] [0,6,7,8,9,10,11,12,13,14,15,16,17,18,19,20]⟩))))))))
    · omega
    · exact E_cur.to (fun p q=>by simp only [intoF];omega) qf
    · omega
   refine c_exit (t_x (t_x (b_x (ret0 rfl ⟨_,rfl,?_⟩))))
   replace H:=H.erases [4,3,2,1,0]
   dsimp only [Qg,List.eraseIdx] at H
   refine zjn ?_
   refine yU rfl H [0,2,3,4,5] fun H=>?_
   have S:=H.jA [0,2,3,4,5] [0,1,2,3,4,5,6,7,8,9,10,11,12,13,14,15]
   refine rtp 0 (.slice (aa b36 0) s.qx.length s.qx.length) S ?_
   refine tF 1 rfl rfl S ?_
   refine tL 2 rfl rfl (fun _ h=>h.cell 0 rfl rfl) S ?_
   refine rtp 3 (.slice (aa b36 0) s.qx.length s.qx.length) S ?_
   refine tF 4 rfl rfl S ?_
   refine tL 5 rfl rfl (fun _ h=>h.cell 0 rfl rfl) S ?_
   refine tI 6 rfl rfl rfl S ?_
   refine ro 7 rfl (zk (.bool ((yj s counts s.qx.length i)[((s.qw[i]!).qE).toNat]!)) isAgg4 rfl (H.rowBool 1 rfl (iv:=(s.qw[i]!).qE) (i:=(((s.qw[i]!).qE).toNat)) qf qf) (⟨H.pick [0,2,3,4,5] [0,1,2,3,4,5,6,7,8,9,10,11,12,13,14,15],(rtp 8 (.bool ((yj s counts s.qx.length i)[((s.qw[i]!).qE).toNat]!)) (H.pick [0,2,3,4,5] [0,1,2,3,4,5,6,7,8,9,10,11,12,13,14,15]) ?_)⟩))
   cases h169:((yj s counts s.qx.length i)[((s.qw[i]!).qE).toNat]!)
   ·skip
    have S:=H.jA [0,2,3,4,5] [0,1,2,3,4,5,6,7,8,9,10,11,12,13,14,15]
    refine rgp 9 (yI (counts[i]!)) 66 S ?_
    refine rgp 10 (.bool (decide ((counts[i]! :Int) > 0))) 66 S ?_
    refine rgp 11 (.bool (decide ((counts[i]! :Int) > 0))) 66 S ?_
    cases h170:(decide ((counts[i]! :Int) > 0))
    ·skip
     replace h170:=of_decide_eq_false h170
     refine zH [12,13] 2 (H.pick [0,2,3,4,5] [0,1,2,3,4,5,6,7,8,9,10,11,12,13,14,15]) ?_
     have S:=H.jA [0,2,3,4,5] [0,1,2,3,4,5,6,7,8,9,10,11,12,13,14,15]
     refine rgp 14 (.bool false) 66 S ?_
     refine rtp 15 (.bool false) S ?_
     refine tI 16 rfl rfl rfl S ?_
     refine ro 17 rfl (Qv H 1 rfl false sizeOf4 rfl rfl (i:=(((s.qw[i]!).qE).toNat)) qf qf fun w171 H=>⟨H.pick [0,2,3,4,5] [0,1,2,3,4,5,6,7,8,9,10,11,12,13,14,15],(xh qh (b_n (t_n (zl (sw (vg i 1 rfl rfl qf (sp (yI (i+1)) (zo (xn (m' :=(counts.length - ((i+1):Int)).toNat) qf ⟨_,i+1,((yj s counts s.qx.length i).set (((s.qw[i]!).qE).toNat) false),bags_1,Xk,F_bags_1,uE8,?_,?_,?_,?_,rfl,(N.pick []),H.pick [1,2,3,4,5] [0,10,11,12,13,14,15]⟩)))))))))⟩)
     · first | exact meltsL_1 qf qf ‹_› | exact meltsL_2 qf qf ‹_› qf | exact meltsL_3 qf qf ‹_› qf
     · omega
     · exact E_bags_1.to (fun p q=>by rw [show k=((s.qw[i]!).qM).length by omega];simp only [allS,needF,putF];omega) qf
     · omega
    replace h170:=of_decide_eq_true h170
    have S:=H.jA [0,2,3,4,5] [0,1,2,3,4,5,6,7,8,9,10,11,12,13,14,15]
    refine gF 12 rfl rfl S ?_
    refine gL 13 rfl rfl (fun _ h=>h.cell 0 rfl rfl) S ?_
    refine rgp 14 (.bool ((s.qw[i]!).zD)) 66 S ?_
    refine rtp 15 (.bool ((s.qw[i]!).zD)) S ?_
    refine tI 16 rfl rfl rfl S ?_
    refine ro 17 rfl (Qv H 1 rfl ((s.qw[i]!).zD) sizeOf4 rfl rfl (i:=(((s.qw[i]!).qE).toNat)) qf qf fun w172 H=>⟨H.pick [0,2,3,4,5] [0,1,2,3,4,5,6,7,8,9,10,11,12,13,14,15],(xh qh (b_n (t_n (zl (sw (vg i 1 rfl rfl qf (sp (yI (i+1)) (zo (xn (m' :=(counts.length - ((i+1):Int)).toNat) qf ⟨_,i+1,((yj s counts s.qx.length i).set (((s.qw[i]!).qE).toNat) ((s.qw[i]!).zD)),bags_1,Xk,F_bags_1,uE8,?_,?_,?_,?_,rfl,(N.pick []),H.pick [1,2,3,4,5] [0,10,11,12,13,14,15]⟩)))))))))⟩)
    · first | exact meltsL_1 qf qf ‹_› | exact meltsL_2 qf qf ‹_› qf | exact meltsL_3 qf qf ‹_› qf
    · omega
    · exact E_bags_1.to (fun p q=>by rw [show k=((s.qw[i]!).qM).length by omega];simp only [allS,needF,putF];omega) qf
    · omega
   refine zH [9,10,11,12,13,14] 6 (H.pick [0,2,3,4,5] [0,1,2,3,4,5,6,7,8,9,10,11,12,13,14,15]) ?_
   have S:=H.jA [0,2,3,4,5] [0,1,2,3,4,5,6,7,8,9,10,11,12,13,14,15]
   refine rtp 15 (.bool true) S ?_
   refine tI 16 rfl rfl rfl S ?_
   refine ro 17 rfl (Qv H 1 rfl true sizeOf4 rfl rfl (i:=(((s.qw[i]!).qE).toNat)) qf qf fun w173 H=>⟨H.pick [0,2,3,4,5] [0,1,2,3,4,5,6,7,8,9,10,11,12,13,14,15],(xh qh (b_n (t_n (zl (sw (vg i 1 rfl rfl qf (sp (yI (i+1)) (zo (xn (m' :=(counts.length - ((i+1):Int)).toNat) qf ⟨_,i+1,((yj s counts s.qx.length i).set (((s.qw[i]!).qE).toNat) true),bags_1,Xk,F_bags_1,uE8,?_,?_,?_,?_,rfl,(N.pick []),H.pick [1,2,3,4,5] [0,10,11,12,13,14,15]⟩)))))))))⟩)
   · first | exact meltsL_1 qf qf ‹_› | exact meltsL_2 qf qf ‹_› qf | exact meltsL_3 qf qf ‹_› qf
   · omega
   · exact E_bags_1.to (fun p q=>by rw [show k=((s.qw[i]!).qM).length by omega];simp only [allS,needF,putF];omega) qf
   · omega
  have po:=outPl_out (r:=s.qw[i]!) p15 p1.2.2.1 qc qf
  refine yU rfl H [0,1,2,3,4,5,6,8,9,10] fun H=>?_
  have S:=H.jA [0,1,2,3,4,5,6,8,9,10] [0,1,2,3,4,5,6,7,8,9,10,11,12,13,14,15,16,17,18,19]
  refine rtp 0 (.func (.func 173) #[] #[pp b79 0,pp b83 0]) S ?_
  refine rt 1 (.agg #[yI s.xk,.slice qB s.qx.length qA,.slice (aa b44 o45) s.qw.length qI]) (Qn (cs:=[yI s.xk,.slice qB s.qx.length qA,.slice (aa b44 o45) s.qw.length qI]) isAgg27 sizeOf27 rfl (fun _ h=>qH (h.cells 4 rfl) 0 3)) S ?_
  refine tF 3 rfl rfl S ?_
  refine tL 4 rfl rfl (fun _ h=>h.cell 1 rfl rfl) S ?_
  refine ro 2 rfl (oq (around_ok _ s (H.get 14 rfl).1 (H.get 15 rfl).1) H fun w176 H=>⟨H.pick [0,1,2,3,4,5,6,8,9,10] [0,1,2,3,4,5,6,7,8,9,10,11,12,13,14,15,16,17,18,19],(ro 5 rfl (Qb #[yI s.qx.length,.slice Xi (((s.qw[i]!).jb).length) Xh,pp b79 0,pp b83 0] rfl rfl call173 (en func173 ntmps173 ?_)))⟩)
  refine yU rfl H [0,1,2,3,4,5,6,8,9,10] fun H=>?_
  have S:=H.jA [0,1,2,3,4,5,6,8,9,10] [0,1,2,3,4,5,6,7,8,9,10,11,12,13,14,15,16,17,18,19]
  refine tL 0 rfl rfl (fun _ h=>h.cell 2 rfl rfl) S ?_
  refine rtp 1 (yI s.qx.length) S ?_
  refine tL 2 rfl rfl (fun _ h=>h.cell 2 rfl rfl) S ?_
  refine rtp 3 (yI s.qx.length) S ?_
  refine tI 4 rfl rfl rfl S ?_
  refine rtp 6 (.slice Xi (((s.qw[i]!).jb).length) Xh) S ?_
  refine tL 7 rfl rfl (fun _ h=>h.cell 0 rfl rfl) S ?_
  refine ro 5 rfl ?_
  obtain ⟨a179,c180,G181,s182,h183,H⟩:=H.jI 7 rfl 0 rfl (iv:=s.qx.length) s.qx.length qf qf
  refine zk (.slice a179 ((bg107[s.qx.length]!).length) c180) isAgg24 rfl (h183) (⟨H.pick [0,1,2,3,4,5,6,8,9,10] [1,2,3,4,5,6,7,8,9,10,11,12,13,14,15,16,17,18,19,20],(ro 8 rfl ?_)⟩)
  obtain ⟨u1,u2⟩:=E_bg107.sh.row (c:=s.qx.length) qf p8 qf
  have u4:=(by first | exact bn1.yf qf | exact bn2.yf qf | exact bn3.yf qf | exact bn4.yf qf:SmallT ((s.qw[i]!).jb) (counts[i]!))
  have sz184:=H.base.size
  have lt185:=H.ltN (L:=[G102,G69]) [2,5]
  refine oc (plus_ok _ (bg107[s.qx.length]!) ((s.qw[i]!).jb) (counts[i]!) (H.get 0 rfl).1 (H.get 11 rfl).1 qg qg qg) ?_
  rintro v189 w187 r189 x188
  replace H:=H.zt x188 r189
  obtain ⟨a190,c191,rfl,hc192,hm193⟩:=H.jS 0 rfl
  refine ⟨H.pick [1,2,3,4,5,6,7,9,10,11] [1,2,3,4,5,6,7,8,9,10,11,12,13,14,15,16,17,18,19,20],(tI 9 rfl rfl rfl (H.pick [1,2,3,4,5,6,7,9,10,11] [1,2,3,4,5,6,7,8,9,10,11,12,13,14,15,16,17,18,19,20]) ?_)⟩
  refine ro 10 rfl ?_
  obtain ⟨G195,N,hn196,H⟩:=H.zV 0 rfl N (H.yK [2,5])
  refine jw false H 8 rfl 2 rfl (.slice a190 ((jR (bg107[s.qx.length]!) ((s.qw[i]!).jb) (counts[i]!)).length) c191) 0 rfl rfl sizeOf24 rfl rfl (i:=s.qx.length) qf qf qm fun w194 xs197 F198 hs199 H=>⟨H.pick [1,2,3,4,5,6,7,9,10,11] [3,4,5,6,7,8,9,10,11,12,13,14,15,16,17,18,19,20,21,22],(xh qh ((ret0 rfl ⟨_,rfl,?_⟩)))⟩
  replace H:=H.erases [0]
  dsimp only [Qg,List.eraseIdx] at H
  obtain ⟨bg200,e_bg200⟩:∃ z,z=(bg107.set s.qx.length (jR (bg107[s.qx.length]!) ((s.qw[i]!).jb) (counts[i]!))):=⟨_,rfl⟩
  rw [← e_bg200] at H
  have E_bg200:=Ent.add (D:=1000000) E_bg107 e_bg200 qf (by first | exact bn1.mul qf | exact bn2.mul qf | exact bn3.mul qf | exact bn4.mul qf) qf
  have z_bg200:=E_bg200.sh.1
  have E_cur:=E_bg200
  refine ⟨H.pick [0,1,2,3,4,5,6,8,9,10] [3,4,5,6,7,8,9,10,11,12,13,14,15,16,17,18,19,20,21,22],(xh qh (t_n (zcr (oF rfl (oL rfl (H.cell 1 rfl rfl) (oN rfl (sp (yI 0) (zjn (xq ?_)))))))))⟩
  refine vJ (fun m' ρ w201=>∃ (zx:Env) (k:Nat) (bags_1:yLL) (Xk:List Value) (F_bags_1:yLN),ρ=upd (upd (upd (upd zx 10 (.func (.func 173) #[] #[pp b79 0,pp b83 0])) 40 (.slice QW (((s.qw[i]!).qM).length) QU)) 41 (yI (((s.qw[i]!).qM).length))) 42 (yI k)∧((k:Int)≤(((s.qw[i]!).qM).length))∧(Ent (s.qx.length+1) (yX s) (fun p q=>base0 s t p q+allS s t counts i p q+at' p (s.qw[i]!).qE.toNat (-(counts[i]!) * ((s.qw[i]!).xC)[q]!)+at' p (s.qw[i]!).qE.toNat ((counts[i]!) * ((s.qw[i]!).zf)[q]!)+at' p (outPl s t (s.qw[i]!)) ((counts[i]!) * ((s.qw[i]!).jb)[q]!)+intoF (s.qw[i]!) (counts[i]!) k p q) (23000000+6000000 * i+1000000 * k) bags_1)∧(bags_1.length=s.qx.length+1)∧m' =((((s.qw[i]!).qM).length) - (k:Int)).toNat∧Fresh w.heap.size [G69]∧St w w201 [.box b83 [yI (counts[i]!)] 2,.box b81 [yI ((s.qw[i]!).qE),yI ((s.qw[i]!).vw),.slice Xq (((s.qw[i]!).xC).length) Xn,.slice Xt (((s.qw[i]!).x8).length) Xp,.slice Xr (((s.qw[i]!).xZ).length) Xo,.slice QX (((s.qw[i]!).zf).length) QV,.slice Xi (((s.qw[i]!).jb).length) Xh,.slice QW (((s.qw[i]!).qM).length) QU,.bool ((s.qw[i]!).zD)] 56,.box b79 [.slice (aa b52 0) (t.qK.length+1) c8] 29,.box b77 (yT t qY qU xH xB qO qN) 31,.box b75 [yI s.xk,.slice qB s.qx.length qA,.slice (aa b44 o45) s.qw.length qI] 27,.box b48 [yI ((s.qw[i]!).qE),yI ((s.qw[i]!).vw),.slice Xq (((s.qw[i]!).xC).length) Xn,.slice Xt (((s.qw[i]!).x8).length) Xp,.slice Xr (((s.qw[i]!).xZ).length) Xo,.slice QX (((s.qw[i]!).zf).length) QV,.slice Xi (((s.qw[i]!).jb).length) Xh,.slice QW (((s.qw[i]!).qM).length) QU,.bool ((s.qw[i]!).zD)] 56,rr (aa b36 0) s.qx.length s.qx.length 4 1 ((yj s counts s.qx.length i).map (Value.bool)),rr (aa b52 0) (t.qK.length+1) c8 24 1 Xk,.box b5 [yN,yN,yN] 31,.box b3 (yT t qY qU xH xB qO qN) 31,.box b1 [yI s.xk,.slice qB s.qx.length qA,.slice (aa b44 o45) s.qw.length qI] 27] [xe false F_bags_1 Xk bags_1,sF true G69 a64 c65 (jR (bags[((s.qw[i]!).qE).toNat]!) ((s.qw[i]!).xC) (-(counts[i]!))),sF false G55 a53 c54 (bags[((s.qw[i]!).qE).toNat]!),sF false Fe47Need Xq Xn ((s.qw[i]!).xC),sF false Fe47Have Xt Xp ((s.qw[i]!).x8),sF false Fe47Lack Xr Xo ((s.qw[i]!).xZ),sF false Fe47Here QX QV ((s.qw[i]!).zf),sF false Fe47Out Xi Xh ((s.qw[i]!).jb),sF false Fe47Into QW QU ((s.qw[i]!).qM),atF b44 (o45+(i:Int).toNat * 9) [yI ((s.qw[i]!).qE),yI ((s.qw[i]!).vw),.slice Xq (((s.qw[i]!).xC).length) Xn,.slice Xt (((s.qw[i]!).x8).length) Xp,.slice Xr (((s.qw[i]!).xZ).length) Xo,.slice QX (((s.qw[i]!).zf).length) QV,.slice Xi (((s.qw[i]!).jb).length) Xh,.slice QW (((s.qw[i]!).qM).length) QU,.bool ((s.qw[i]!).zD)],sF false qX qB qA s.qx,sF false xG (aa b44 o45) qI s.qw,sF false x9 qY qU t.qC,sF false zN xH xB t.qK,sF false xM qO qN t.qG,sF false Fcounts (aa b41 o42) ccounts counts]) (((((s.qw[i]!).qM).length) - (0:Int)).toNat) ⟨_,0,bg200,xs197,F198,uE4,qf,(by exact E_cur.to (fun p q=>by rw [po];simp only [intoF];first | omega | (simp only [Int.toNat_natCast];omega)) qf),qf,rfl,(N.pick [2]),H.pick [0,1,2,3,4,5,6,7,8,9,10] [0,7,8,9,10,11,12,13,14,15,17,18,19,20,21,22]⟩ ?_
  clear H N
  rintro m' ρ w202 ⟨zx,k,bags_1,Xk,F_bags_1,rfl,i0,E_bags_1,z_bags_1,rfl,N,H⟩
  have hn_bags:=H.zi (α:=yLI) 7 rfl 0 rfl qj
  refine zcr (sp (.bool (decide ((k:Int) < (((s.qw[i]!).qM).length)))) (zjn (zn (cD rfl (fun h203=>?_) (fun h203=>?_)))))
  ·skip
   have qi:=q.2.2.2.2.2.2.2.2.2.2 k qf
   have qi1:=qi.1
   have bn4:=qi.2.2.1
   have ln4:=bn4.len
   refine xw (t_n (zn (xq (zcr ?_))))
   obtain ⟨b204,o205,rfl⟩:=H.addr 8 rfl qf
   obtain ⟨ae207Bag,ce207Bag,Fe207Bag,H⟩:=H.yY 8 rfl k k qf qf qf
   refine oI rfl rfl (sw (zu [yI ((((s.qw[i]!).qM)[k]!).qE),.slice ae207Bag (((((s.qw[i]!).qM)[k]!).QC).length) ce207Bag] isAgg142 sizeOf142 rfl (qH (H.get 1 rfl) 0 2) (sw (xu H ti142 [yI 0,yN] fun b208 w209 H=>sw (qV H 0 [yI ((((s.qw[i]!).qM)[k]!).qE),.slice ae207Bag (((((s.qw[i]!).qM)[k]!).QC).length) ce207Bag] sizeOf142 fun w210 H=>zjn (zl (sp (.func (.func 173) #[] #[pp b79 0,pp b83 0]) (oF rfl (oL rfl (H.cell 0 rfl rfl) (oF rfl (oL rfl (H.cell 0 rfl rfl) ?_)))))))))))
   refine sw (Qb #[yI ((((s.qw[i]!).qM)[k]!).qE),.slice ae207Bag (((((s.qw[i]!).qM)[k]!).QC).length) ce207Bag,pp b79 0,pp b83 0] rfl rfl call173 (en func173 ntmps173 ?_))
   refine yU rfl H [0,1,2,3,4,5,6,7,9,10,11] fun H=>?_
   have S:=H.jA [0,1,2,3,4,5,6,7,9,10,11] [0,1,2,3,4,5,6,7,8,9,10,11,12,13,14,15,16,17]
   refine tL 0 rfl rfl (fun _ h=>h.cell 3 rfl rfl) S ?_
   refine rtp 1 (yI ((((s.qw[i]!).qM)[k]!).qE)) S ?_
   refine tL 2 rfl rfl (fun _ h=>h.cell 3 rfl rfl) S ?_
   refine rtp 3 (yI ((((s.qw[i]!).qM)[k]!).qE)) S ?_
   refine tI 4 rfl rfl rfl S ?_
   refine rtp 6 (.slice ae207Bag (((((s.qw[i]!).qM)[k]!).QC).length) ce207Bag) S ?_
   refine tL 7 rfl rfl (fun _ h=>h.cell 1 rfl rfl) S ?_
   refine ro 5 rfl ?_
   obtain ⟨a212,c213,G214,s215,h216,H⟩:=H.jI 8 rfl 2 rfl (iv:=(((s.qw[i]!).qM)[k]!).qE) (((((s.qw[i]!).qM)[k]!).qE).toNat) qf qf
   refine zk (.slice a212 ((bags_1[((((s.qw[i]!).qM)[k]!).qE).toNat]!).length) c213) isAgg24 rfl (h216) (⟨H.pick [0,1,2,3,4,5,6,7,9,10,11] [1,2,3,4,5,6,7,8,9,10,11,12,13,14,15,16,17,18],(ro 8 rfl ?_)⟩)
   obtain ⟨u1,u2⟩:=E_bags_1.sh.row (c:=((((s.qw[i]!).qM)[k]!).qE).toNat) qf p8 qf
   have u4:=(by first | exact bn1.yf qf | exact bn2.yf qf | exact bn3.yf qf | exact bn4.yf qf:SmallT ((((s.qw[i]!).qM)[k]!).QC) (counts[i]!))
   have sz217:=H.base.size
   have lt218:=H.ltN (L:=[G69]) [4]
   refine oc (plus_ok _ (bags_1[((((s.qw[i]!).qM)[k]!).qE).toNat]!) ((((s.qw[i]!).qM)[k]!).QC) (counts[i]!) (H.get 0 rfl).1 (H.get 1 rfl).1 qg qg qg) ?_
   rintro v222 w220 r222 x221
   replace H:=H.zt x221 r222
   obtain ⟨a223,c224,rfl,hc225,hm226⟩:=H.jS 0 rfl
   refine ⟨H.pick [1,2,3,4,5,6,7,8,10,11,12] [1,2,3,4,5,6,7,8,9,10,11,12,13,14,15,16,17,18],(tI 9 rfl rfl rfl (H.pick [1,2,3,4,5,6,7,8,10,11,12] [1,2,3,4,5,6,7,8,9,10,11,12,13,14,15,16,17,18]) ?_)⟩
   refine ro 10 rfl ?_
   obtain ⟨G228,N,hn229,H⟩:=H.zV 0 rfl N (H.yK [4])
   refine jw false H 9 rfl 4 rfl (.slice a223 ((jR (bags_1[((((s.qw[i]!).qM)[k]!).qE).toNat]!) ((((s.qw[i]!).qM)[k]!).QC) (counts[i]!)).length) c224) 0 rfl rfl sizeOf24 rfl rfl (i:=(((((s.qw[i]!).qM)[k]!).qE).toNat)) qf qf qm fun w227 xs230 F231 hs232 H=>⟨H.pick [1,2,3,4,5,6,7,8,10,11,12] [3,4,5,6,7,8,9,10,11,12,13,14,15,16,17,18,19,20],(xh qh ((ret0 rfl ⟨_,rfl,?_⟩)))⟩
   replace H:=H.erases [0]
   dsimp only [Qg,List.eraseIdx] at H
   obtain ⟨bg233,e_bg233⟩:∃ z,z=(bags_1.set (((((s.qw[i]!).qM)[k]!).qE).toNat) (jR (bags_1[((((s.qw[i]!).qM)[k]!).qE).toNat]!) ((((s.qw[i]!).qM)[k]!).QC) (counts[i]!))):=⟨_,rfl⟩
   rw [← e_bg233] at H
   have E_bg233:=Ent.add (D:=1000000) E_bags_1 e_bg233 qf (by first | exact bn1.mul qf | exact bn2.mul qf | exact bn3.mul qf | exact bn4.mul qf) qf
   have z_bg233:=E_bg233.sh.1
   have E_cur:=E_bg233
   refine zo (b_n (t_n (zl (sw (vg k 1 rfl rfl qf (sp (yI (k+1)) (zo (xn (m' :=((((s.qw[i]!).qM).length) - ((k+1):Int)).toNat) qf ⟨_,k+1,bg233,xs230,F231,uE4,?_,?_,?_,rfl,(N.pick [1]),H.pick [1,2,3,4,5,6,7,8,9,10,11] [0,6,7,8,9,10,11,12,13,14,15,16,17,18,19,20]⟩))))))))
   · omega
   · exact E_cur.to (fun p q=>by simp only [intoF];omega) qf
   · omega
  refine c_exit (t_x (t_x (b_x (ret0 rfl ⟨_,rfl,?_⟩))))
  replace H:=H.erases [4,3,2,1,0]
  dsimp only [Qg,List.eraseIdx] at H
  refine zjn ?_
  refine yU rfl H [0,2,3,4,5] fun H=>?_
  have S:=H.jA [0,2,3,4,5] [0,1,2,3,4,5,6,7,8,9,10,11,12,13,14,15]
  refine rtp 0 (.slice (aa b36 0) s.qx.length s.qx.length) S ?_
  refine tF 1 rfl rfl S ?_
  refine tL 2 rfl rfl (fun _ h=>h.cell 0 rfl rfl) S ?_
  refine rtp 3 (.slice (aa b36 0) s.qx.length s.qx.length) S ?_
  refine tF 4 rfl rfl S ?_
  refine tL 5 rfl rfl (fun _ h=>h.cell 0 rfl rfl) S ?_
  refine tI 6 rfl rfl rfl S ?_
  refine ro 7 rfl (zk (.bool ((yj s counts s.qx.length i)[((s.qw[i]!).qE).toNat]!)) isAgg4 rfl (H.rowBool 1 rfl (iv:=(s.qw[i]!).qE) (i:=(((s.qw[i]!).qE).toNat)) qf qf) (⟨H.pick [0,2,3,4,5] [0,1,2,3,4,5,6,7,8,9,10,11,12,13,14,15],(rtp 8 (.bool ((yj s counts s.qx.length i)[((s.qw[i]!).qE).toNat]!)) (H.pick [0,2,3,4,5] [0,1,2,3,4,5,6,7,8,9,10,11,12,13,14,15]) ?_)⟩))
  cases h235:((yj s counts s.qx.length i)[((s.qw[i]!).qE).toNat]!)
  ·skip
   have S:=H.jA [0,2,3,4,5] [0,1,2,3,4,5,6,7,8,9,10,11,12,13,14,15]
   refine rgp 9 (yI (counts[i]!)) 66 S ?_
   refine rgp 10 (.bool (decide ((counts[i]! :Int) > 0))) 66 S ?_
   refine rgp 11 (.bool (decide ((counts[i]! :Int) > 0))) 66 S ?_
   cases h236:(decide ((counts[i]! :Int) > 0))
   ·skip
    replace h236:=of_decide_eq_false h236
    refine zH [12,13] 2 (H.pick [0,2,3,4,5] [0,1,2,3,4,5,6,7,8,9,10,11,12,13,14,15]) ?_
    have S:=H.jA [0,2,3,4,5] [0,1,2,3,4,5,6,7,8,9,10,11,12,13,14,15]
    refine rgp 14 (.bool false) 66 S ?_
    refine rtp 15 (.bool false) S ?_
    refine tI 16 rfl rfl rfl S ?_
    refine ro 17 rfl (Qv H 1 rfl false sizeOf4 rfl rfl (i:=(((s.qw[i]!).qE).toNat)) qf qf fun w237 H=>⟨H.pick [0,2,3,4,5] [0,1,2,3,4,5,6,7,8,9,10,11,12,13,14,15],(xh qh (b_n (t_n (zl (sw (vg i 1 rfl rfl qf (sp (yI (i+1)) (zo (xn (m' :=(counts.length - ((i+1):Int)).toNat) qf ⟨_,i+1,((yj s counts s.qx.length i).set (((s.qw[i]!).qE).toNat) false),bags_1,Xk,F_bags_1,uE8,?_,?_,?_,?_,rfl,(N.pick []),H.pick [1,2,3,4,5] [0,10,11,12,13,14,15]⟩)))))))))⟩)
    · first | exact meltsL_1 qf qf ‹_› | exact meltsL_2 qf qf ‹_› qf | exact meltsL_3 qf qf ‹_› qf
    · omega
    · exact E_bags_1.to (fun p q=>by rw [show k=((s.qw[i]!).qM).length by omega];simp only [allS,needF,putF];omega) qf
    · omega
   replace h236:=of_decide_eq_true h236
   have S:=H.jA [0,2,3,4,5] [0,1,2,3,4,5,6,7,8,9,10,11,12,13,14,15]
   refine gF 12 rfl rfl S ?_
   refine gL 13 rfl rfl (fun _ h=>h.cell 0 rfl rfl) S ?_
   refine rgp 14 (.bool ((s.qw[i]!).zD)) 66 S ?_
   refine rtp 15 (.bool ((s.qw[i]!).zD)) S ?_
   refine tI 16 rfl rfl rfl S ?_
   refine ro 17 rfl (Qv H 1 rfl ((s.qw[i]!).zD) sizeOf4 rfl rfl (i:=(((s.qw[i]!).qE).toNat)) qf qf fun w238 H=>⟨H.pick [0,2,3,4,5] [0,1,2,3,4,5,6,7,8,9,10,11,12,13,14,15],(xh qh (b_n (t_n (zl (sw (vg i 1 rfl rfl qf (sp (yI (i+1)) (zo (xn (m' :=(counts.length - ((i+1):Int)).toNat) qf ⟨_,i+1,((yj s counts s.qx.length i).set (((s.qw[i]!).qE).toNat) ((s.qw[i]!).zD)),bags_1,Xk,F_bags_1,uE8,?_,?_,?_,?_,rfl,(N.pick []),H.pick [1,2,3,4,5] [0,10,11,12,13,14,15]⟩)))))))))⟩)
   · first | exact meltsL_1 qf qf ‹_› | exact meltsL_2 qf qf ‹_› qf | exact meltsL_3 qf qf ‹_› qf
   · omega
   · exact E_bags_1.to (fun p q=>by rw [show k=((s.qw[i]!).qM).length by omega];simp only [allS,needF,putF];omega) qf
   · omega
  refine zH [9,10,11,12,13,14] 6 (H.pick [0,2,3,4,5] [0,1,2,3,4,5,6,7,8,9,10,11,12,13,14,15]) ?_
  have S:=H.jA [0,2,3,4,5] [0,1,2,3,4,5,6,7,8,9,10,11,12,13,14,15]
  refine rtp 15 (.bool true) S ?_
  refine tI 16 rfl rfl rfl S ?_
  refine ro 17 rfl (Qv H 1 rfl true sizeOf4 rfl rfl (i:=(((s.qw[i]!).qE).toNat)) qf qf fun w239 H=>⟨H.pick [0,2,3,4,5] [0,1,2,3,4,5,6,7,8,9,10,11,12,13,14,15],(xh qh (b_n (t_n (zl (sw (vg i 1 rfl rfl qf (sp (yI (i+1)) (zo (xn (m' :=(counts.length - ((i+1):Int)).toNat) qf ⟨_,i+1,((yj s counts s.qx.length i).set (((s.qw[i]!).qE).toNat) true),bags_1,Xk,F_bags_1,uE8,?_,?_,?_,?_,rfl,(N.pick []),H.pick [1,2,3,4,5] [0,10,11,12,13,14,15]⟩)))))))))⟩)
  · first | exact meltsL_1 qf qf ‹_› | exact meltsL_2 qf qf ‹_› qf | exact meltsL_3 qf qf ‹_› qf
  · omega
  · exact E_bags_1.to (fun p q=>by rw [show k=((s.qw[i]!).qM).length by omega];simp only [allS,needF,putF];omega) qf
  · omega
 refine zx4 (zn ?_)
 obtain ⟨b240,rfl⟩:=H.QQ 1 rfl qf
 refine c_cut (fun ρ w250=>∃ (zx:Env) (b241:Nat) (ra242:yOA) (rc243:Nat) (ra244:yOA) (rc245:Nat) (ra246:yOA) (rc247:Nat) (rx248:List Value) (rF249:yLN),ρ=upd (upd (upd (upd zx 3 (pp b1 0)) 6 (pp b5 0)) 9 (.slice (aa b36 0) s.qx.length s.qx.length)) 13 (pp b241 0)∧Fresh w.heap.size [rF249]∧St w w250 [.box b241 [.slice ra242 (((⟨t.qC,(bags.take s.qx.length),bags[s.qx.length]!⟩:qF).qC).length) rc243,.slice ra244 (((⟨t.qC,(bags.take s.qx.length),bags[s.qx.length]!⟩:qF).qK).length) rc245,.slice ra246 (((⟨t.qC,(bags.take s.qx.length),bags[s.qx.length]!⟩:qF).qG).length) rc247] 31,rr ra242 (((⟨t.qC,(bags.take s.qx.length),bags[s.qx.length]!⟩:qF).qC).length) rc243 4 1 (((⟨t.qC,(bags.take s.qx.length),bags[s.qx.length]!⟩:qF).qC).map (Value.bool)),rr ra244 (((⟨t.qC,(bags.take s.qx.length),bags[s.qx.length]!⟩:qF).qK).length) rc245 24 1 rx248,rr ra246 (((⟨t.qC,(bags.take s.qx.length),bags[s.qx.length]!⟩:qF).qG).length) rc247 2 1 (((⟨t.qC,(bags.take s.qx.length),bags[s.qx.length]!⟩:qF).qG).map (Value.int .i64)),rr (aa b36 0) s.qx.length s.qx.length 4 1 ((yj s counts s.qx.length i).map (Value.bool)),rr none 0 0 0 1 [],.box b5 [yN,yN,yN] 31,.box b3 (yT t qY qU xH xB qO qN) 31,.box b1 (yS s qB qA qJ qI) 27] [xe true rF249 rx248 ((⟨t.qC,(bags.take s.qx.length),bags[s.qx.length]!⟩:qF).qK),sF false qX qB qA s.qx,sF false xG qJ qI s.qw,sF false x9 qY qU t.qC,sF false zN xH xB t.qK,sF false xM qO qN t.qG]) ?_ ?_
 ·skip
  refine yU rfl H [0,2,3,4] fun H=>?_
  refine r_have (fun ρ w258=>∃ (zx:Env) (a252:yOA) (c253:Nat) (a254:yOA) (G255:yLN) (G256:yLN),ρ=upd (upd (upd (upd (upd (upd zx 3 (pp b1 0)) 6 (pp b5 0)) 9 (.slice (aa b36 0) s.qx.length s.qx.length)) 77 (.slice qY t.qC.length qU)) 81 (.slice a254 ((bags.take s.qx.length).length) c8)) 86 (.slice a252 ((bags[s.qx.length]!).length) c253)∧Fresh w.heap.size []∧St w w258 [rr (aa b36 0) s.qx.length s.qx.length 4 1 ((yj s counts s.qx.length i).map (Value.bool)),rr none 0 0 0 1 [],.box b5 [yN,yN,yN] 31,.box b3 (yT t qY qU xH xB qO qN) 31,.box b1 (yS s qB qA qJ qI) 27] [sF false G255 a254 c8 (bags.take s.qx.length),sF false G256 a252 c253 (bags[s.qx.length]!),xe false F_bags x_bags bags,sF false qX qB qA s.qx,sF false xG qJ qI s.qw,sF false x9 qY qU t.qC,sF false zN xH xB t.qK,sF false xM qO qN t.qG,sF false Fcounts acounts ccounts counts]) 4 #[true,true,true,true,true,true,true,true,true,true,true,false,false,false,false] ?_ fun L257=>?_
  ·skip
   rintro ρ w259 ⟨zx,a252,c253,a254,G255,G256,rfl,N,H⟩
   refine zI [11,13] qh qm (vk rfl ?_ (vk rfl ?_ zJ))
   ·skip
    refine xK [.slice qY t.qC.length qU,.slice a254 ((bags.take s.qx.length).length) c8,.slice a252 ((bags[s.qx.length]!).length) c253] [(0,.slice qY t.qC.length qU),(1,.slice a254 ((bags.take s.qx.length).length) c8),(2,.slice a252 ((bags[s.qx.length]!).length) c253)] (⟨H.pick [0,2,3,4] [2,3,4,5,6,7,8],(zI [12,13] qh qm (vk rfl ?_ (vk rfl ?_ zJ)))⟩)
    ·skip
     obtain ⟨cp0,cp1,cp2,cp3⟩:=copy_pre (al:=t.qC) E_bags p8 p9.2 p12
     have sz263:=H.base.size
     refine oc (Xx _ (⟨t.qC,(bags.take s.qx.length),bags[s.qx.length]!⟩:qF) (H.get 5 rfl).1 (H.get 0 rfl).1 (H.get 1 rfl).1 qg qg qg qg) ?_
     rintro _ w261 ⟨ra260Alive,rn260Alive,rc260Alive,ra260Bags,rn260Bags,rc260Bags,rx260Bags,rF260Bags,ra260Around,rn260Around,rc260Around,rfl,M,K⟩ _
     replace N:=N.merge sz263 qm M
     replace H:=H.merge K M
     obtain rfl:=H.QY 0 rfl
     obtain rfl:=H.zi (α:=yLI) 1 rfl 0 rfl qj
     obtain rfl:=H.zO 2 rfl
     refine ⟨H.pick [3,5,6,7] [3,4,5,6,7,8,9],(ro 13 rfl (xu H ti31 [yN,yN,yN] fun b268 w269 H=>⟨H.pick [4,6,7,8] [3,4,5,6,7,8,9],(ro 14 rfl (qV H 0 [.slice ra260Alive (((⟨t.qC,(bags.take s.qx.length),bags[s.qx.length]!⟩:qF).qC).length) rc260Alive,.slice ra260Bags (((⟨t.qC,(bags.take s.qx.length),bags[s.qx.length]!⟩:qF).qK).length) rc260Bags,.slice ra260Around (((⟨t.qC,(bags.take s.qx.length),bags[s.qx.length]!⟩:qF).qG).length) rc260Around] sizeOf31 fun w270 H=>⟨H.pick [4,6,7,8] [3,4,5,6,7,8,9],?_⟩))⟩))⟩
     refine xh qh ((meet ⟨_,b268,ra260Alive,rc260Alive,ra260Bags,rc260Bags,ra260Around,rc260Around,rx260Bags,rF260Bags,uE4,N,H.pick [0,1,2,3,4,5,6,7,8] [0,4,5,6,7,8]⟩))
    refine xu H ti31 [yN,yN,yN] fun b271 w272 H=>⟨H.pick [1,3,4,5] [2,3,4,5,6,7,8],(ro 12 rfl ?_)⟩
    obtain ⟨cp0,cp1,cp2,cp3⟩:=copy_pre (al:=t.qC) E_bags p8 p9.2 p12
    have sz276:=H.base.size
    refine oc (Xx _ (⟨t.qC,(bags.take s.qx.length),bags[s.qx.length]!⟩:qF) (H.get 5 rfl).1 (H.get 0 rfl).1 (H.get 1 rfl).1 qg qg qg qg) ?_
    rintro _ w274 ⟨ra273Alive,rn273Alive,rc273Alive,ra273Bags,rn273Bags,rc273Bags,rx273Bags,rF273Bags,ra273Around,rn273Around,rc273Around,rfl,M,K⟩ _
    replace N:=N.merge sz276 qm M
    replace H:=H.merge K M
    obtain rfl:=H.QY 0 rfl
    obtain rfl:=H.zi (α:=yLI) 1 rfl 0 rfl qj
    obtain rfl:=H.zO 2 rfl
    refine ⟨H.pick [4,6,7,8] [3,4,5,6,7,8,9],(ro 14 rfl (qV H 3 [.slice ra273Alive (((⟨t.qC,(bags.take s.qx.length),bags[s.qx.length]!⟩:qF).qC).length) rc273Alive,.slice ra273Bags (((⟨t.qC,(bags.take s.qx.length),bags[s.qx.length]!⟩:qF).qK).length) rc273Bags,.slice ra273Around (((⟨t.qC,(bags.take s.qx.length),bags[s.qx.length]!⟩:qF).qG).length) rc273Around] sizeOf31 fun w281 H=>⟨H.pick [4,6,7,8] [3,4,5,6,7,8,9],(xh qh (?_))⟩))⟩
    exact meet ⟨_,b271,ra273Alive,rc273Alive,ra273Bags,rc273Bags,ra273Around,rc273Around,rx273Bags,rF273Bags,uE4,N,H.pick [3,0,1,2,4,5,6,7,8] [0,4,5,6,7,8]⟩
   refine xu H ti31 [yN,yN,yN] fun b282 w283 H=>⟨H.pick [1,3,4,5] [2,3,4,5,6,7,8],(ro 11 rfl (xK [.slice qY t.qC.length qU,.slice a254 ((bags.take s.qx.length).length) c8,.slice a252 ((bags[s.qx.length]!).length) c253] [(0,.slice qY t.qC.length qU),(1,.slice a254 ((bags.take s.qx.length).length) c8),(2,.slice a252 ((bags[s.qx.length]!).length) c253)] (⟨H.pick [1,3,4,5] [2,3,4,5,6,7,8],(ro 12 rfl ?_)⟩)))⟩
   obtain ⟨cp0,cp1,cp2,cp3⟩:=copy_pre (al:=t.qC) E_bags p8 p9.2 p12
   have sz287:=H.base.size
   refine oc (Xx _ (⟨t.qC,(bags.take s.qx.length),bags[s.qx.length]!⟩:qF) (H.get 5 rfl).1 (H.get 0 rfl).1 (H.get 1 rfl).1 qg qg qg qg) ?_
   rintro _ w285 ⟨ra284Alive,rn284Alive,rc284Alive,ra284Bags,rn284Bags,rc284Bags,rx284Bags,rF284Bags,ra284Around,rn284Around,rc284Around,rfl,M,K⟩ _
   replace N:=N.merge sz287 qm M
   replace H:=H.merge K M
   obtain rfl:=H.QY 0 rfl
   obtain rfl:=H.zi (α:=yLI) 1 rfl 0 rfl qj
   obtain rfl:=H.zO 2 rfl
   refine ⟨H.pick [4,6,7,8] [3,4,5,6,7,8,9],(ro 14 rfl (qV H 3 [.slice ra284Alive (((⟨t.qC,(bags.take s.qx.length),bags[s.qx.length]!⟩:qF).qC).length) rc284Alive,.slice ra284Bags (((⟨t.qC,(bags.take s.qx.length),bags[s.qx.length]!⟩:qF).qK).length) rc284Bags,.slice ra284Around (((⟨t.qC,(bags.take s.qx.length),bags[s.qx.length]!⟩:qF).qG).length) rc284Around] sizeOf31 fun w292 H=>⟨H.pick [4,6,7,8] [3,4,5,6,7,8,9],(xh qh (?_))⟩))⟩
   exact meet ⟨_,b282,ra284Alive,rc284Alive,ra284Bags,rc284Bags,ra284Around,rc284Around,rx284Bags,rF284Bags,uE4,N,H.pick [3,0,1,2,4,5,6,7,8] [0,4,5,6,7,8]⟩
  refine r_have (fun ρ w297=>∃ (zx:Env) (a293:yOA) (G294:yLN) (G295:yLN),ρ=upd (upd (upd (upd (upd (upd zx 3 (pp b1 0)) 6 (pp b5 0)) 9 (.slice (aa b36 0) s.qx.length s.qx.length)) 77 (.slice qY t.qC.length qU)) 81 (.slice a293 ((bags.take s.qx.length).length) c8)) 85 (pp b240 (0+(s.qx.length:Int).toNat * 1))∧Fresh w.heap.size []∧St w w297 [rr (aa b36 0) s.qx.length s.qx.length 4 1 ((yj s counts s.qx.length i).map (Value.bool)),rr none 0 0 0 1 [],.box b5 [yN,yN,yN] 31,.box b3 (yT t qY qU xH xB qO qN) 31,.box b1 (yS s qB qA qJ qI) 27] [sF false G294 a293 c8 (bags.take s.qx.length),isF false G295 (.slice (aa b240 0) (t.qK.length+1) c8) bags,xe false F_bags x_bags bags,sF false qX qB qA s.qx,sF false xG qJ qI s.qw,sF false x9 qY qU t.qC,sF false zN xH xB t.qK,sF false xM qO qN t.qG,sF false Fcounts acounts ccounts counts]) 5 #[true,true,true,true,true,true,true,true,true,true,false,false,false,false,false] ?_ fun L296=>?_
  ·skip
   rintro ρ w298 ⟨zx,a293,G294,G295,rfl,N,H⟩
   refine zI [10,13] qh qm (vk rfl ?_ (vk rfl ?_ zJ))
   ·skip
    have hl299:=H.isLen 1 rfl
    obtain ⟨ae300,ce300,Fe300,H⟩:=H.Xa 1 rfl s.qx.length s.qx.length qf qf qf
    refine zk (.slice ae300 ((bags[s.qx.length]!).length) ce300) isAgg24 rfl (H.zg 1 rfl 0 rfl) (⟨H.pick [0,2,3,4] [4,5,6,7,8,9,10],(r_use L257 ⟨_,ae300,ce300,a293,G294,Fe300,uE6,N,H.pick [0,1,2,3,4] [2,0,4,5,6,7,8,9,10]⟩)⟩)
   refine xu H ti31 [yN,yN,yN] fun b301 w302 H=>⟨H.pick [1,3,4,5] [2,3,4,5,6,7,8],(ro 10 rfl ?_)⟩
   have hl303:=H.isLen 1 rfl
   obtain ⟨ae304,ce304,Fe304,H⟩:=H.Xa 1 rfl s.qx.length s.qx.length qf qf qf
   refine zk (.slice ae304 ((bags[s.qx.length]!).length) ce304) isAgg24 rfl (H.zg 1 rfl 0 rfl) (⟨H.pick [1,3,4,5] [4,5,6,7,8,9,10],(ro 11 rfl (xK [.slice qY t.qC.length qU,.slice a293 ((bags.take s.qx.length).length) c8,.slice ae304 ((bags[s.qx.length]!).length) ce304] [(0,.slice qY t.qC.length qU),(1,.slice a293 ((bags.take s.qx.length).length) c8),(2,.slice ae304 ((bags[s.qx.length]!).length) ce304)] (⟨H.pick [1,3,4,5] [4,5,6,7,8,9,10],(ro 12 rfl ?_)⟩)))⟩)
   obtain ⟨cp0,cp1,cp2,cp3⟩:=copy_pre (al:=t.qC) E_bags p8 p9.2 p12
   have sz308:=H.base.size
   refine oc (Xx _ (⟨t.qC,(bags.take s.qx.length),bags[s.qx.length]!⟩:qF) (H.get 7 rfl).1 (H.get 2 rfl).1 (H.get 0 rfl).1 qg qg qg qg) ?_
   rintro _ w306 ⟨ra305Alive,rn305Alive,rc305Alive,ra305Bags,rn305Bags,rc305Bags,rx305Bags,rF305Bags,ra305Around,rn305Around,rc305Around,rfl,M,K⟩ _
   replace N:=N.merge sz308 qm M
   replace H:=H.merge K M
   obtain rfl:=H.QY 0 rfl
   obtain rfl:=H.zi (α:=yLI) 1 rfl 0 rfl qj
   obtain rfl:=H.zO 2 rfl
   refine ⟨H.pick [4,6,7,8] [5,6,7,8,9,10,11],(ro 14 rfl (qV H 3 [.slice ra305Alive (((⟨t.qC,(bags.take s.qx.length),bags[s.qx.length]!⟩:qF).qC).length) rc305Alive,.slice ra305Bags (((⟨t.qC,(bags.take s.qx.length),bags[s.qx.length]!⟩:qF).qK).length) rc305Bags,.slice ra305Around (((⟨t.qC,(bags.take s.qx.length),bags[s.qx.length]!⟩:qF).qG).length) rc305Around] sizeOf31 fun w313 H=>⟨H.pick [4,6,7,8] [5,6,7,8,9,10,11],(xh qh (?_))⟩))⟩
   exact meet ⟨_,b301,ra305Alive,rc305Alive,ra305Bags,rc305Bags,ra305Around,rc305Around,rx305Bags,rF305Bags,uE4,N,H.pick [3,0,1,2,4,5,6,7,8] [0,6,7,8,9,10]⟩
  refine r_have (fun ρ w316=>∃ (zx:Env) (b314:Nat),ρ=upd (upd (upd (upd (upd (upd (upd (upd zx 3 (pp b1 0)) 6 (pp b5 0)) 9 (.slice (aa b36 0) s.qx.length s.qx.length)) 13 (pp b314 0)) 77 (.slice qY t.qC.length qU)) 78 (.slice (aa b240 0) (t.qK.length+1) c8)) 80 (yI s.qx.length)) 85 (pp b240 (0+(s.qx.length:Int).toNat * 1))∧Fresh w.heap.size []∧St w w316 [.box b314 [yN,yN,yN] 31,rr (aa b36 0) s.qx.length s.qx.length 4 1 ((yj s counts s.qx.length i).map (Value.bool)),rr (aa b240 0) (t.qK.length+1) c8 24 1 x_bags,.box b5 [yN,yN,yN] 31,.box b3 (yT t qY qU xH xB qO qN) 31,.box b1 (yS s qB qA qJ qI) 27] [xe false F_bags x_bags bags,sF false qX qB qA s.qx,sF false xG qJ qI s.qw,sF false x9 qY qU t.qC,sF false zN xH xB t.qK,sF false xM qO qN t.qG,sF false Fcounts acounts ccounts counts]) 5 #[true,true,true,true,true,false,true,true,true,true,false,false,false,true,false] ?_ fun L315=>?_
  ·skip
   rintro ρ w317 ⟨zx,b314,rfl,N,H⟩
   refine zI [5,10] qh qm (vk rfl ?_ (vk rfl ?_ zJ))
   ·skip
    obtain ⟨G318,hg320,hn319,H⟩:=H.freezeR (α:=yLI) 2 rfl 0 rfl qj
    have hl325:=H.isLen 0 rfl
    refine o_head H 0 rfl s.qx.length underlying29 ti24 rfl rfl qf qf fun a321 G322 hG323 H=>?_
    have hl324:(bags.take s.qx.length).length=s.qx.length:=List.length_take_of_le qf
    refine ⟨H.pick [1,3,4,5] [2,3,4,5,6,7,8],(ro 10 rfl ?_)⟩
    have hl326:=H.isLen 1 rfl
    obtain ⟨ae327,ce327,Fe327,H⟩:=H.Xa 1 rfl s.qx.length s.qx.length qf qf qf
    refine zk (.slice ae327 ((bags[s.qx.length]!).length) ce327) isAgg24 rfl (H.zg 1 rfl 0 rfl) (⟨H.pick [1,3,4,5] [4,5,6,7,8,9,10],(ro 11 rfl (xK [.slice qY t.qC.length qU,.slice a321 ((bags.take s.qx.length).length) c8,.slice ae327 ((bags[s.qx.length]!).length) ce327] [(0,.slice qY t.qC.length qU),(1,.slice a321 ((bags.take s.qx.length).length) c8),(2,.slice ae327 ((bags[s.qx.length]!).length) ce327)] (⟨H.pick [1,3,4,5] [4,5,6,7,8,9,10],(ro 12 rfl ?_)⟩)))⟩)
    obtain ⟨cp0,cp1,cp2,cp3⟩:=copy_pre (al:=t.qC) E_bags p8 p9.2 p12
    have sz331:=H.base.size
    refine oc (Xx _ (⟨t.qC,(bags.take s.qx.length),bags[s.qx.length]!⟩:qF) (H.get 7 rfl).1 (H.get 2 rfl).1 (H.get 0 rfl).1 qg qg qg qg) ?_
    rintro _ w329 ⟨ra328Alive,rn328Alive,rc328Alive,ra328Bags,rn328Bags,rc328Bags,rx328Bags,rF328Bags,ra328Around,rn328Around,rc328Around,rfl,M,K⟩ _
    replace N:=N.merge sz331 qm M
    replace H:=H.merge K M
    obtain rfl:=H.QY 0 rfl
    obtain rfl:=H.zi (α:=yLI) 1 rfl 0 rfl qj
    obtain rfl:=H.zO 2 rfl
    refine ⟨H.pick [4,6,7,8] [5,6,7,8,9,10,11],(ro 14 rfl (qV H 3 [.slice ra328Alive (((⟨t.qC,(bags.take s.qx.length),bags[s.qx.length]!⟩:qF).qC).length) rc328Alive,.slice ra328Bags (((⟨t.qC,(bags.take s.qx.length),bags[s.qx.length]!⟩:qF).qK).length) rc328Bags,.slice ra328Around (((⟨t.qC,(bags.take s.qx.length),bags[s.qx.length]!⟩:qF).qG).length) rc328Around] sizeOf31 fun w336 H=>⟨H.pick [4,6,7,8] [5,6,7,8,9,10,11],(xh qh (?_))⟩))⟩
    exact meet ⟨_,b314,ra328Alive,rc328Alive,ra328Bags,rc328Bags,ra328Around,rc328Around,rx328Bags,rF328Bags,uE4,N,H.pick [3,0,1,2,4,5,6,7,8] [0,6,7,8,9,10]⟩
   obtain ⟨a337,c338,G339,s340,h341,H⟩:=H.jI 2 rfl 0 rfl (iv:=s.qx.length) s.qx.length qf qf
   refine zk (.slice a337 ((bags[s.qx.length]!).length) c338) isAgg24 rfl (h341) (⟨H.pick [1,3,4,5] [1,2,3,4,5,6,7],(ro 5 rfl ?_)⟩)
   obtain ⟨G342,hg344,hn343,H⟩:=H.freezeR (α:=yLI) 2 rfl 1 rfl qj
   have hl349:=H.isLen 0 rfl
   refine o_head H 0 rfl s.qx.length underlying29 ti24 rfl rfl qf qf fun a345 G346 hG347 H=>?_
   have hl348:(bags.take s.qx.length).length=s.qx.length:=List.length_take_of_le qf
   refine ⟨H.pick [1,3,4,5] [3,4,5,6,7,8,9],(ro 11 rfl (xK [.slice qY t.qC.length qU,.slice a345 ((bags.take s.qx.length).length) c8,.slice a337 ((bags[s.qx.length]!).length) c338] [(0,.slice qY t.qC.length qU),(1,.slice a345 ((bags.take s.qx.length).length) c8),(2,.slice a337 ((bags[s.qx.length]!).length) c338)] (⟨H.pick [1,3,4,5] [3,4,5,6,7,8,9],(ro 12 rfl ?_)⟩)))⟩
   obtain ⟨cp0,cp1,cp2,cp3⟩:=copy_pre (al:=t.qC) E_bags p8 p9.2 p12
   have sz353:=H.base.size
   refine oc (Xx _ (⟨t.qC,(bags.take s.qx.length),bags[s.qx.length]!⟩:qF) (H.get 6 rfl).1 (H.get 0 rfl).1 (H.get 2 rfl).1 qg qg qg qg) ?_
   rintro _ w351 ⟨ra350Alive,rn350Alive,rc350Alive,ra350Bags,rn350Bags,rc350Bags,rx350Bags,rF350Bags,ra350Around,rn350Around,rc350Around,rfl,M,K⟩ _
   replace N:=N.merge sz353 qm M
   replace H:=H.merge K M
   obtain rfl:=H.QY 0 rfl
   obtain rfl:=H.zi (α:=yLI) 1 rfl 0 rfl qj
   obtain rfl:=H.zO 2 rfl
   refine ⟨H.pick [4,6,7,8] [4,5,6,7,8,9,10],(ro 14 rfl (qV H 3 [.slice ra350Alive (((⟨t.qC,(bags.take s.qx.length),bags[s.qx.length]!⟩:qF).qC).length) rc350Alive,.slice ra350Bags (((⟨t.qC,(bags.take s.qx.length),bags[s.qx.length]!⟩:qF).qK).length) rc350Bags,.slice ra350Around (((⟨t.qC,(bags.take s.qx.length),bags[s.qx.length]!⟩:qF).qG).length) rc350Around] sizeOf31 fun w358 H=>⟨H.pick [4,6,7,8] [4,5,6,7,8,9,10],(xh qh (?_))⟩))⟩
   exact meet ⟨_,b314,ra350Alive,rc350Alive,ra350Bags,rc350Bags,ra350Around,rc350Around,rx350Bags,rF350Bags,uE4,N,H.pick [3,0,1,2,4,5,6,7,8] [0,5,6,7,8,9]⟩
  refine r_have (fun ρ w361=>∃ (zx:Env) (b359:Nat),ρ=upd (upd (upd (upd (upd (upd (upd (upd (upd zx 3 (pp b1 0)) 6 (pp b5 0)) 9 (.slice (aa b36 0) s.qx.length s.qx.length)) 13 (pp b359 0)) 77 (.slice qY t.qC.length qU)) 78 (.slice (aa b240 0) (t.qK.length+1) c8)) 80 (yI s.qx.length)) 82 (.slice (aa b240 0) (t.qK.length+1) c8)) 83 (.agg #[yI s.xk,.slice qB s.qx.length qA,.slice qJ s.qw.length qI])∧Fresh w.heap.size []∧St w w361 [.box b359 [yN,yN,yN] 31,rr (aa b36 0) s.qx.length s.qx.length 4 1 ((yj s counts s.qx.length i).map (Value.bool)),rr (aa b240 0) (t.qK.length+1) c8 24 1 x_bags,.box b5 [yN,yN,yN] 31,.box b3 (yT t qY qU xH xB qO qN) 31,.box b1 (yS s qB qA qJ qI) 27] [xe false F_bags x_bags bags,sF false qX qB qA s.qx,sF false xG qJ qI s.qw,sF false x9 qY qU t.qC,sF false zN xH xB t.qK,sF false xM qO qN t.qG,sF false Fcounts acounts ccounts counts]) 7 #[true,true,true,true,true,false,true,true,false,false,false,false,false,true,false] ?_ fun L360=>?_
  ·skip
   rintro ρ w362 ⟨zx,b359,rfl,N,H⟩
   refine zI [5,8] qh qm (vk rfl ?_ (vk rfl ?_ zJ))
   ·skip
    obtain ⟨G363,hg365,hn364,H⟩:=H.freezeR (α:=yLI) 2 rfl 0 rfl qj
    have hl370:=H.isLen 0 rfl
    refine o_head H 0 rfl s.qx.length underlying29 ti24 rfl rfl qf qf fun a366 G367 hG368 H=>?_
    have hl369:(bags.take s.qx.length).length=s.qx.length:=List.length_take_of_le qf
    refine ⟨H.pick [1,3,4,5] [2,3,4,5,6,7,8],(ro 8 rfl (oq (around_ok _ s (H.get 3 rfl).1 (H.get 4 rfl).1) H fun w372 H=>⟨H.pick [1,3,4,5] [2,3,4,5,6,7,8],?_⟩))⟩
    obtain ⟨ae374,ce374,Fe374,H⟩:=H.Xa 1 rfl s.qx.length s.qx.length qf qf qf
    refine tI 9 rfl rfl rfl (H.pick [1,3,4,5] [4,5,6,7,8,9,10]) ?_
    refine ro 10 rfl (zk (.slice ae374 ((bags[s.qx.length]!).length) ce374) isAgg24 rfl (H.zg 1 rfl 0 rfl) (⟨H.pick [1,3,4,5] [4,5,6,7,8,9,10],(ro 11 rfl (xK [.slice qY t.qC.length qU,.slice a366 ((bags.take s.qx.length).length) c8,.slice ae374 ((bags[s.qx.length]!).length) ce374] [(0,.slice qY t.qC.length qU),(1,.slice a366 ((bags.take s.qx.length).length) c8),(2,.slice ae374 ((bags[s.qx.length]!).length) ce374)] (⟨H.pick [1,3,4,5] [4,5,6,7,8,9,10],(ro 12 rfl ?_)⟩)))⟩))
    obtain ⟨cp0,cp1,cp2,cp3⟩:=copy_pre (al:=t.qC) E_bags p8 p9.2 p12
    have sz378:=H.base.size
    refine oc (Xx _ (⟨t.qC,(bags.take s.qx.length),bags[s.qx.length]!⟩:qF) (H.get 7 rfl).1 (H.get 2 rfl).1 (H.get 0 rfl).1 qg qg qg qg) ?_
    rintro _ w376 ⟨ra375Alive,rn375Alive,rc375Alive,ra375Bags,rn375Bags,rc375Bags,rx375Bags,rF375Bags,ra375Around,rn375Around,rc375Around,rfl,M,K⟩ _
    replace N:=N.merge sz378 qm M
    replace H:=H.merge K M
    obtain rfl:=H.QY 0 rfl
    obtain rfl:=H.zi (α:=yLI) 1 rfl 0 rfl qj
    obtain rfl:=H.zO 2 rfl
    refine ⟨H.pick [4,6,7,8] [5,6,7,8,9,10,11],(ro 14 rfl (qV H 3 [.slice ra375Alive (((⟨t.qC,(bags.take s.qx.length),bags[s.qx.length]!⟩:qF).qC).length) rc375Alive,.slice ra375Bags (((⟨t.qC,(bags.take s.qx.length),bags[s.qx.length]!⟩:qF).qK).length) rc375Bags,.slice ra375Around (((⟨t.qC,(bags.take s.qx.length),bags[s.qx.length]!⟩:qF).qG).length) rc375Around] sizeOf31 fun w383 H=>⟨H.pick [4,6,7,8] [5,6,7,8,9,10,11],(xh qh (?_))⟩))⟩
    exact meet ⟨_,b359,ra375Alive,rc375Alive,ra375Bags,rc375Bags,ra375Around,rc375Around,rx375Bags,rF375Bags,uE4,N,H.pick [3,0,1,2,4,5,6,7,8] [0,6,7,8,9,10]⟩
   refine oq (around_ok _ s (H.get 1 rfl).1 (H.get 2 rfl).1) H fun w385 H=>⟨H.pick [1,3,4,5] [0,1,2,3,4,5,6],(tI 9 rfl rfl rfl (H.pick [1,3,4,5] [0,1,2,3,4,5,6]) ?_)⟩
   exact r_use L315 ⟨_,b359,uE8,N,H⟩
  have S:=H.jA [0,2,3,4] [0,1,2,3,4,5,6]
  refine tF 0 rfl rfl S ?_
  refine tL 1 rfl rfl (fun _ h=>h.cell 2 rfl rfl) S ?_
  refine rtp 2 (.slice (aa b240 0) (t.qK.length+1) c8) S ?_
  refine rt 3 (.agg #[yI s.xk,.slice qB s.qx.length qA,.slice qJ s.qw.length qI]) (Qn (cs:=(yS s qB qA qJ qI)) isAgg27 sizeOf27 rfl (fun _ h=>qH (h.cells 3 rfl) 0 3)) S ?_
  refine rtp 6 (.slice (aa b240 0) (t.qK.length+1) c8) S ?_
  refine rt 7 (.agg #[yI s.xk,.slice qB s.qx.length qA,.slice qJ s.qw.length qI]) (Qn (cs:=(yS s qB qA qJ qI)) isAgg27 sizeOf27 rfl (fun _ h=>qH (h.cells 3 rfl) 0 3)) S ?_
  refine zI [4,13] qh qm (vk rfl ?_ (vk rfl ?_ zJ))
  ·skip
   refine oq (around_ok _ s (H.get 1 rfl).1 (H.get 2 rfl).1) H fun w388 H=>⟨H.pick [0,2,3,4] [0,1,2,3,4,5,6],(zI [5,8,13] qh qm (vk rfl ?_ (vk rfl ?_ (vk rfl ?_ zJ))))⟩
   ·skip
    obtain ⟨G390,hg392,hn391,H⟩:=H.freezeR (α:=yLI) 1 rfl 0 rfl qj
    have hl397:=H.isLen 0 rfl
    refine o_head H 0 rfl s.qx.length underlying29 ti24 rfl rfl qf qf fun a393 G394 hG395 H=>?_
    have hl396:(bags.take s.qx.length).length=s.qx.length:=List.length_take_of_le qf
    refine ⟨H.pick [0,2,3,4] [2,3,4,5,6,7,8],(zI [8,13] qh qm (vk rfl ?_ (vk rfl ?_ zJ)))⟩
    ·skip
     refine oq (around_ok _ s (H.get 3 rfl).1 (H.get 4 rfl).1) H fun w399 H=>⟨H.pick [0,2,3,4] [2,3,4,5,6,7,8],?_⟩
     obtain ⟨ae401,ce401,Fe401,H⟩:=H.Xa 1 rfl s.qx.length s.qx.length qf qf qf
     refine tI 9 rfl rfl rfl (H.pick [0,2,3,4] [4,5,6,7,8,9,10]) ?_
     exact r_use L296 ⟨_,a393,G394,G390,uE6,N,H.pick [0,1,2,3,4] [2,3,4,5,6,7,8,9,10]⟩
    refine xu H ti31 [yN,yN,yN] fun b402 w403 H=>⟨H.pick [1,3,4,5] [2,3,4,5,6,7,8],(ro 8 rfl (oq (around_ok _ s (H.get 3 rfl).1 (H.get 4 rfl).1) H fun w405 H=>⟨H.pick [1,3,4,5] [2,3,4,5,6,7,8],?_⟩))⟩
    obtain ⟨ae407,ce407,Fe407,H⟩:=H.Xa 1 rfl s.qx.length s.qx.length qf qf qf
    refine tI 9 rfl rfl rfl (H.pick [1,3,4,5] [4,5,6,7,8,9,10]) ?_
    refine ro 10 rfl (zk (.slice ae407 ((bags[s.qx.length]!).length) ce407) isAgg24 rfl (H.zg 1 rfl 0 rfl) (⟨H.pick [1,3,4,5] [4,5,6,7,8,9,10],(ro 11 rfl (xK [.slice qY t.qC.length qU,.slice a393 ((bags.take s.qx.length).length) c8,.slice ae407 ((bags[s.qx.length]!).length) ce407] [(0,.slice qY t.qC.length qU),(1,.slice a393 ((bags.take s.qx.length).length) c8),(2,.slice ae407 ((bags[s.qx.length]!).length) ce407)] (⟨H.pick [1,3,4,5] [4,5,6,7,8,9,10],(ro 12 rfl ?_)⟩)))⟩))
    obtain ⟨cp0,cp1,cp2,cp3⟩:=copy_pre (al:=t.qC) E_bags p8 p9.2 p12
    have sz411:=H.base.size
    refine oc (Xx _ (⟨t.qC,(bags.take s.qx.length),bags[s.qx.length]!⟩:qF) (H.get 7 rfl).1 (H.get 2 rfl).1 (H.get 0 rfl).1 qg qg qg qg) ?_
    rintro _ w409 ⟨ra408Alive,rn408Alive,rc408Alive,ra408Bags,rn408Bags,rc408Bags,rx408Bags,rF408Bags,ra408Around,rn408Around,rc408Around,rfl,M,K⟩ _
    replace N:=N.merge sz411 qm M
    replace H:=H.merge K M
    obtain rfl:=H.QY 0 rfl
    obtain rfl:=H.zi (α:=yLI) 1 rfl 0 rfl qj
    obtain rfl:=H.zO 2 rfl
    refine ⟨H.pick [4,6,7,8] [5,6,7,8,9,10,11],(ro 14 rfl (qV H 3 [.slice ra408Alive (((⟨t.qC,(bags.take s.qx.length),bags[s.qx.length]!⟩:qF).qC).length) rc408Alive,.slice ra408Bags (((⟨t.qC,(bags.take s.qx.length),bags[s.qx.length]!⟩:qF).qK).length) rc408Bags,.slice ra408Around (((⟨t.qC,(bags.take s.qx.length),bags[s.qx.length]!⟩:qF).qG).length) rc408Around] sizeOf31 fun w416 H=>⟨H.pick [4,6,7,8] [5,6,7,8,9,10,11],(xh qh (?_))⟩))⟩
    exact meet ⟨_,b402,ra408Alive,rc408Alive,ra408Bags,rc408Bags,ra408Around,rc408Around,rx408Bags,rF408Bags,uE4,N,H.pick [3,0,1,2,4,5,6,7,8] [0,6,7,8,9,10]⟩
   ·skip
    refine oq (around_ok _ s (H.get 1 rfl).1 (H.get 2 rfl).1) H fun w418 H=>⟨H.pick [0,2,3,4] [0,1,2,3,4,5,6],(tI 9 rfl rfl rfl (H.pick [0,2,3,4] [0,1,2,3,4,5,6]) ?_)⟩
    refine zI [5,10,13] qh qm (vk rfl ?_ (vk rfl ?_ (vk rfl ?_ zJ)))
    ·skip
     obtain ⟨G420,hg422,hn421,H⟩:=H.freezeR (α:=yLI) 1 rfl 0 rfl qj
     have hl427:=H.isLen 0 rfl
     refine o_head H 0 rfl s.qx.length underlying29 ti24 rfl rfl qf qf fun a423 G424 hG425 H=>?_
     have hl426:(bags.take s.qx.length).length=s.qx.length:=List.length_take_of_le qf
     refine ⟨H.pick [0,2,3,4] [2,3,4,5,6,7,8],(r_use L296 ⟨_,a423,G424,G420,uE6,N,H⟩)⟩
    ·skip
     obtain ⟨a428,c429,G430,s431,h432,H⟩:=H.jI 1 rfl 0 rfl (iv:=s.qx.length) s.qx.length qf qf
     refine zk (.slice a428 ((bags[s.qx.length]!).length) c429) isAgg24 rfl (h432) (⟨H.pick [0,2,3,4] [1,2,3,4,5,6,7],(zI [5,13] qh qm (vk rfl ?_ (vk rfl ?_ zJ)))⟩)
     ·skip
      obtain ⟨G433,hg435,hn434,H⟩:=H.freezeR (α:=yLI) 1 rfl 1 rfl qj
      have hl440:=H.isLen 0 rfl
      refine o_head H 0 rfl s.qx.length underlying29 ti24 rfl rfl qf qf fun a436 G437 hG438 H=>?_
      have hl439:(bags.take s.qx.length).length=s.qx.length:=List.length_take_of_le qf
      refine ⟨H.pick [0,2,3,4] [3,4,5,6,7,8,9],(r_use L257 ⟨_,a428,c429,a436,G437,G430,uE6,N,H.pick [0,1,2,3,4] [0,2,3,4,5,6,7,8,9]⟩)⟩
     refine xu H ti31 [yN,yN,yN] fun b441 w442 H=>⟨H.pick [1,3,4,5] [1,2,3,4,5,6,7],(ro 5 rfl ?_)⟩
     obtain ⟨G443,hg445,hn444,H⟩:=H.freezeR (α:=yLI) 2 rfl 1 rfl qj
     have hl450:=H.isLen 0 rfl
     refine o_head H 0 rfl s.qx.length underlying29 ti24 rfl rfl qf qf fun a446 G447 hG448 H=>?_
     have hl449:(bags.take s.qx.length).length=s.qx.length:=List.length_take_of_le qf
     refine ⟨H.pick [1,3,4,5] [3,4,5,6,7,8,9],(ro 11 rfl (xK [.slice qY t.qC.length qU,.slice a446 ((bags.take s.qx.length).length) c8,.slice a428 ((bags[s.qx.length]!).length) c429] [(0,.slice qY t.qC.length qU),(1,.slice a446 ((bags.take s.qx.length).length) c8),(2,.slice a428 ((bags[s.qx.length]!).length) c429)] (⟨H.pick [1,3,4,5] [3,4,5,6,7,8,9],(ro 12 rfl ?_)⟩)))⟩
     obtain ⟨cp0,cp1,cp2,cp3⟩:=copy_pre (al:=t.qC) E_bags p8 p9.2 p12
     have sz454:=H.base.size
     refine oc (Xx _ (⟨t.qC,(bags.take s.qx.length),bags[s.qx.length]!⟩:qF) (H.get 6 rfl).1 (H.get 0 rfl).1 (H.get 2 rfl).1 qg qg qg qg) ?_
     rintro _ w452 ⟨ra451Alive,rn451Alive,rc451Alive,ra451Bags,rn451Bags,rc451Bags,rx451Bags,rF451Bags,ra451Around,rn451Around,rc451Around,rfl,M,K⟩ _
     replace N:=N.merge sz454 qm M
     replace H:=H.merge K M
     obtain rfl:=H.QY 0 rfl
     obtain rfl:=H.zi (α:=yLI) 1 rfl 0 rfl qj
     obtain rfl:=H.zO 2 rfl
     refine ⟨H.pick [4,6,7,8] [4,5,6,7,8,9,10],(ro 14 rfl (qV H 3 [.slice ra451Alive (((⟨t.qC,(bags.take s.qx.length),bags[s.qx.length]!⟩:qF).qC).length) rc451Alive,.slice ra451Bags (((⟨t.qC,(bags.take s.qx.length),bags[s.qx.length]!⟩:qF).qK).length) rc451Bags,.slice ra451Around (((⟨t.qC,(bags.take s.qx.length),bags[s.qx.length]!⟩:qF).qG).length) rc451Around] sizeOf31 fun w459 H=>⟨H.pick [4,6,7,8] [4,5,6,7,8,9,10],(xh qh (?_))⟩))⟩
     exact meet ⟨_,b441,ra451Alive,rc451Alive,ra451Bags,rc451Bags,ra451Around,rc451Around,rx451Bags,rF451Bags,uE4,N,H.pick [3,0,1,2,4,5,6,7,8] [0,5,6,7,8,9]⟩
    refine xu H ti31 [yN,yN,yN] fun b460 w461 H=>⟨H.pick [1,3,4,5] [0,1,2,3,4,5,6],(r_use L315 ⟨_,b460,uE8,N,H⟩)⟩
   refine xu H ti31 [yN,yN,yN] fun b462 w463 H=>⟨H.pick [1,3,4,5] [0,1,2,3,4,5,6],(r_use L360 ⟨_,b462,uE9,N,H⟩)⟩
  refine xu H ti31 [yN,yN,yN] fun b464 w465 H=>⟨H.pick [1,3,4,5] [0,1,2,3,4,5,6],(ro 4 rfl (oq (around_ok _ s (H.get 1 rfl).1 (H.get 2 rfl).1) H fun w467 H=>⟨H.pick [1,3,4,5] [0,1,2,3,4,5,6],(r_use L360 ⟨_,b464,uE9,N,H⟩)⟩))⟩
 clear H N
 rintro ρ w469 ⟨zx,b241,ra242,rc243,ra244,rc245,ra246,rc247,rx248,rF249,rfl,N,H⟩
 refine t_n (zcc (sp (.slice (aa b36 0) s.qx.length s.qx.length) (oN rfl (sw (o_sub s.qx.length 1 rfl rfl qf (sp (yI (s.qx.length - 1)) (zjn (xq ?_))))))))
 obtain rfl:i=s.qw.length:=by omega
 have hl:=stepped_live p1 E_bags qf
 obtain ⟨s1,s2⟩:=step_tab E_bags
 rw [show (⟨t.qC,(bags.take s.qx.length),bags[s.qx.length]!⟩:qF)=xf s t counts from by rw [show bags.take s.qx.length=_ from s1,show bags[s.qx.length]! =_ from s2];rfl] at H
 refine vJ (fun m' ρ w470=>∃ (zx:Env) (c:Int) (out_Alive:List Bool) (out_Bags:yLL) (zq:List Value) (xN:yLN) (j:Nat),ρ=upd (upd (upd (upd (upd zx 3 (pp b1 0)) 6 (pp b5 0)) 9 (.slice (aa b36 0) s.qx.length s.qx.length)) 13 (pp b241 0)) 14 (yI c)∧out_Alive=(qZ s counts (xf s t counts) j).qC∧out_Bags=(qZ s counts (xf s t counts) j).qK∧(c=(s.qx.length:Int) - 1 - j)∧(j+1≤s.qx.length)∧m' =(c:Int).toNat∧Fresh w.heap.size [xN]∧St w w470 [.box b241 [.slice ra242 (((xf s t counts).qC).length) rc243,.slice ra244 (((xf s t counts).qK).length) rc245,.slice ra246 (((xf s t counts).qG).length) rc247] 31,rr ra242 (((xf s t counts).qC).length) rc243 4 1 (out_Alive.map (Value.bool)),rr ra244 (((xf s t counts).qK).length) rc245 24 1 zq,rr ra246 (((xf s t counts).qG).length) rc247 2 1 (((xf s t counts).qG).map (Value.int .i64)),rr (aa b36 0) s.qx.length s.qx.length 4 1 ((yj s counts s.qx.length s.qw.length).map (Value.bool)),.box b5 [yN,yN,yN] 31,.box b3 (yT t qY qU xH xB qO qN) 31,.box b1 (yS s qB qA qJ qI) 27] [xe true xN zq out_Bags,sF false qX qB qA s.qx,sF false xG qJ qI s.qw,sF false x9 qY qU t.qC,sF false zN xH xB t.qK,sF false xM qO qN t.qG]) (((s.qx.length - 1):Int).toNat) ⟨_,s.qx.length - 1,(xf s t counts).qC,(xf s t counts).qK,rx248,rF249,0,uE5,(by rfl),(by rfl),qf,qf,rfl,N,H.pick [0,1,2,3,4,6,7,8] [0,1,2,3,4,5]⟩ ?_
 clear H N
 rintro m' ρ w471 ⟨zx,c,out_Alive,out_Bags,zq,xN,j,rfl,rfl,rfl,ic,jc,rfl,N,H⟩
 have hn_out_Alive:=H.QY 1 rfl
 have XE:=H.zi (α:=yLI) 2 rfl 0 rfl qj
 have L:=meltDown_live (counts:=counts) p0 hl j qf
 have L1:=L.alive
 have L2:=L.root
 have L3:=L.bags.1
 rw [← Ql s counts (xf s t counts) j] at H
 refine zcc (sps [yI c,.bool (decide ((c:Int) > 0))] (zjn (cD rfl (fun h472=>?_) (fun h472=>?_))))
 ·skip
  refine xw (t_n (zn (xq (zcr (sps [.slice (aa b36 0) s.qx.length s.qx.length,yI c] (oI rfl rfl (oL rfl (H.rowBool 4 rfl (iv:=c) (i:=c.toNat) qf qf) (zjn (xO ((yj s counts s.qx.length s.qw.length)[c.toNat]!) rfl (fun h473=>?_) (fun h473=>?_))))))))))
  ·skip
   refine zl (sw (zu (yS s qB qA qJ qI) isAgg27 sizeOf27 rfl (qH (H.cells 7 rfl) 0 3) (sp (yI c) (sw (Qb #[.agg #[yI s.xk,.slice qB s.qx.length qA,.slice qJ s.qw.length qI],pp b241 0,yI c] rfl rfl call107 (en func107 ntmps107 ?_))))))
   refine zcr (sw (jT H (yS s qB qA qJ qI) fun b474 w475 H=>zjn (zn ?_)))
   refine y9 rfl H fun H=>rt 0 (.agg #[yI s.xk,.slice qB s.qx.length qA,.slice qJ s.qw.length qI]) (Qn (cs:=(yS s qB qA qJ qI)) isAgg27 sizeOf27 rfl (fun _ h=>qH (h.cells 0 rfl) 0 3)) H ?_
   refine rtp 1 (pp b241 0) H ?_
   refine rtp 2 (pp b241 0) H ?_
   refine rt 3 (.agg #[.slice ra242 (((xf s t counts).qC).length) rc243,.slice ra244 (((xf s t counts).qK).length) rc245,.slice ra246 (((qZ s counts (xf s t counts) j).qG).length) rc247]) (Qn (cs:=[.slice ra242 (((xf s t counts).qC).length) rc243,.slice ra244 (((xf s t counts).qK).length) rc245,.slice ra246 (((qZ s counts (xf s t counts) j).qG).length) rc247]) isAgg31 sizeOf31 rfl (fun _ h=>qH (h.cells 1 rfl) 0 3)) H ?_
   refine rtp 4 (yI c) H ?_
   refine ro 5 rfl ?_
   obtain ⟨G477,hn478,h479⟩:=H.Xw 2 rfl
   obtain ⟨G480,hn481,h482⟩:=H.Qu (α:=yLI) 3 rfl 0 rfl qj
   obtain ⟨G483,hn484,h485⟩:=H.yZ 4 rfl
   refine oq (args_eq (by rw [← hn478,← hn481]) (parentNow_ok _ s (qZ s counts (xf s t counts) j) c (H.get 1 rfl).1 (H.get 2 rfl).1 (hn478▸h479) (hn481▸h482) h485 qg qg qg)) H fun w487 H=>?_
   have pin:=Xf (s:=s) (t:=(qZ s counts (xf s t counts) j)) (c:=c) p0.1 L2 qf qf
   refine ⟨H,(rtp 6 (yI (qR s (qZ s counts (xf s t counts) j) c)) H ?_)⟩
   refine xh qh (t_n (zn ?_))
   obtain ⟨b489,rfl⟩:=H.QQ 3 rfl qf
   refine c_cut (fun ρ w492=>∃ (zx:Env) (xs490:List Value) (F491:yLN),ρ=upd (upd (upd zx 1 (pp b241 0)) 2 (yI c)) 3 (pp b474 0)∧Fresh w.heap.size [F491]∧St w w492 [.box b474 (yS s qB qA qJ qI) 27,.box b241 [.slice ra242 (((xf s t counts).qC).length) rc243,.slice (aa b489 0) (((xf s t counts).qK).length) rc245,.slice ra246 (((qZ s counts (xf s t counts) j).qG).length) rc247] 31,rr ra242 (((xf s t counts).qC).length) rc243 4 1 (((qZ s counts (xf s t counts) j).qC).map (Value.bool)),rr (aa b489 0) (((xf s t counts).qK).length) rc245 24 1 xs490,rr ra246 (((qZ s counts (xf s t counts) j).qG).length) rc247 2 1 (((qZ s counts (xf s t counts) j).qG).map (Value.int .i64)),rr (aa b36 0) s.qx.length s.qx.length 4 1 ((yj s counts s.qx.length s.qw.length).map (Value.bool)),.box b5 [yN,yN,yN] 31,.box b3 (yT t qY qU xH xB qO qN) 31,.box b1 (yS s qB qA qJ qI) 27] [xe true F491 xs490 (((qZ s counts (xf s t counts) j).qK).set ((qR s (qZ s counts (xf s t counts) j) c).toNat) (jR (((qZ s counts (xf s t counts) j).qK)[(qR s (qZ s counts (xf s t counts) j) c).toNat]!) (((qZ s counts (xf s t counts) j).qK)[c.toNat]!) 1)),sF false qX qB qA s.qx,sF false xG qJ qI s.qw,sF false x9 qY qU t.qC,sF false zN xH xB t.qK,sF false xM qO qN t.qG]) ?_ ?_
   ·skip
    refine yU rfl H [0,1,2,4,5,6,7,8] fun H=>?_
    have S:=H.jA [0,1,2,4,5,6,7,8] [0,1,2,3,4,5]
    refine rtp 0 (pp b241 0) S ?_
    refine rtp 1 (pp b241 0) S ?_
    refine tF 2 rfl rfl S ?_
    refine tL 3 rfl rfl (fun _ h=>h.cell 1 rfl rfl) S ?_
    refine rtp 4 (yI (qR s (qZ s counts (xf s t counts) j) c)) S ?_
    refine rtp 5 (pp b241 0) S ?_
    refine rtp 6 (pp b241 0) S ?_
    refine tF 7 rfl rfl S ?_
    refine tL 8 rfl rfl (fun _ h=>h.cell 1 rfl rfl) S ?_
    refine rtp 9 (yI (qR s (qZ s counts (xf s t counts) j) c)) S ?_
    refine tI 10 rfl rfl rfl S ?_
    refine rtp 12 (pp b241 0) S ?_
    refine rtp 13 (pp b241 0) S ?_
    refine tF 14 rfl rfl S ?_
    refine tL 15 rfl rfl (fun _ h=>h.cell 1 rfl rfl) S ?_
    refine rtp 16 (yI c) S ?_
    refine tI 17 rfl rfl rfl S ?_
    refine zI [11,18] qh qm (vk rfl ?_ (vk rfl ?_ zJ))
    ·skip
     obtain ⟨a494,c495,G496,s497,h498,H⟩:=H.jI 3 rfl 0 rfl (iv:=qR s (qZ s counts (xf s t counts) j) c) ((qR s (qZ s counts (xf s t counts) j) c).toNat) qf qf
     refine zk (.slice a494 ((((qZ s counts (xf s t counts) j).qK)[(qR s (qZ s counts (xf s t counts) j) c).toNat]!).length) c495) isAgg24 rfl (h498) (⟨H.pick [0,1,2,4,5,6,7,8] [1,2,3,4,5,6],(ro 18 rfl ?_)⟩)
     obtain ⟨a499,c500,G501,s502,h503,H⟩:=H.jI 3 rfl 1 rfl (iv:=c) c.toNat qf qf
     refine zk (.slice a499 ((((qZ s counts (xf s t counts) j).qK)[c.toNat]!).length) c500) isAgg24 rfl (h503) (⟨H.pick [0,1,2,4,5,6,7,8] [2,3,4,5,6,7],(ro 19 rfl ?_)⟩)
     obtain ⟨u1,u2,u4⟩:=L.rows p0 (bnd_le qf) (p:=(qR s (qZ s counts (xf s t counts) j) c).toNat) (c:=c.toNat) qf qf
     have sz504:=H.base.size
     have lt505:=H.ltN (L:=[xN]) [2]
     refine oc (plus_ok _ (((qZ s counts (xf s t counts) j).qK)[(qR s (qZ s counts (xf s t counts) j) c).toNat]!) (((qZ s counts (xf s t counts) j).qK)[c.toNat]!) 1 (H.get 1 rfl).1 (H.get 0 rfl).1 qg qg qg) ?_
     rintro v509 w507 r509 x508
     replace H:=H.zt x508 r509
     obtain ⟨a510,c511,rfl,hc512,hm513⟩:=H.jS 0 rfl
     refine ⟨H.pick [1,2,3,5,6,7,8,9] [2,3,4,5,6,7],(tI 20 rfl rfl rfl (H.pick [1,2,3,5,6,7,8,9] [2,3,4,5,6,7]) ?_)⟩
     refine ro 21 rfl ?_
     obtain ⟨G515,N,hn516,H⟩:=H.zV 0 rfl N (H.yK [2])
     refine jw true H 4 rfl 3 rfl (.slice a510 ((jR (((qZ s counts (xf s t counts) j).qK)[(qR s (qZ s counts (xf s t counts) j) c).toNat]!) (((qZ s counts (xf s t counts) j).qK)[c.toNat]!) 1).length) c511) 0 rfl rfl sizeOf24 rfl rfl (i:=((qR s (qZ s counts (xf s t counts) j) c).toNat)) qf qf qm fun w514 xs517 F518 hs519 H=>?_
     replace N:Fresh w.heap.size [F518]:=(N.pick [1,0]).repl hs519
     refine ⟨H.pick [1,2,3,5,6,7,8,9] [4,5,6,7,8,9],(xh qh ((meet ⟨_,xs517,F518,uE3,N,H.pick [1,2,3,4,5,6,7,8,9] [0,5,6,7,8,9]⟩)))⟩
    obtain ⟨a520,c521,G522,s523,h524,H⟩:=H.jI 3 rfl 0 rfl (iv:=c) c.toNat qf qf
    refine zk (.slice a520 ((((qZ s counts (xf s t counts) j).qK)[c.toNat]!).length) c521) isAgg24 rfl (h524) (⟨H.pick [0,1,2,4,5,6,7,8] [1,2,3,4,5,6],(ro 11 rfl ?_)⟩)
    obtain ⟨a525,c526,G527,s528,h529,H⟩:=H.jI 3 rfl 1 rfl (iv:=qR s (qZ s counts (xf s t counts) j) c) ((qR s (qZ s counts (xf s t counts) j) c).toNat) qf qf
    refine zk (.slice a525 ((((qZ s counts (xf s t counts) j).qK)[(qR s (qZ s counts (xf s t counts) j) c).toNat]!).length) c526) isAgg24 rfl (h529) (⟨H.pick [0,1,2,4,5,6,7,8] [2,3,4,5,6,7],(ro 19 rfl ?_)⟩)
    obtain ⟨u1,u2,u4⟩:=L.rows p0 (bnd_le qf) (p:=(qR s (qZ s counts (xf s t counts) j) c).toNat) (c:=c.toNat) qf qf
    have sz530:=H.base.size
    have lt531:=H.ltN (L:=[xN]) [2]
    refine oc (plus_ok _ (((qZ s counts (xf s t counts) j).qK)[(qR s (qZ s counts (xf s t counts) j) c).toNat]!) (((qZ s counts (xf s t counts) j).qK)[c.toNat]!) 1 (H.get 0 rfl).1 (H.get 1 rfl).1 qg qg qg) ?_
    rintro v535 w533 r535 x534
    replace H:=H.zt x534 r535
    obtain ⟨a536,c537,rfl,hc538,hm539⟩:=H.jS 0 rfl
    refine ⟨H.pick [1,2,3,5,6,7,8,9] [2,3,4,5,6,7],(tI 20 rfl rfl rfl (H.pick [1,2,3,5,6,7,8,9] [2,3,4,5,6,7]) ?_)⟩
    refine ro 21 rfl ?_
    obtain ⟨G541,N,hn542,H⟩:=H.zV 0 rfl N (H.yK [2])
    refine jw true H 4 rfl 3 rfl (.slice a536 ((jR (((qZ s counts (xf s t counts) j).qK)[(qR s (qZ s counts (xf s t counts) j) c).toNat]!) (((qZ s counts (xf s t counts) j).qK)[c.toNat]!) 1).length) c537) 0 rfl rfl sizeOf24 rfl rfl (i:=((qR s (qZ s counts (xf s t counts) j) c).toNat)) qf qf qm fun w540 xs543 F544 hs545 H=>?_
    replace N:Fresh w.heap.size [F544]:=(N.pick [1,0]).repl hs545
    refine ⟨H.pick [1,2,3,5,6,7,8,9] [4,5,6,7,8,9],(xh qh ((meet ⟨_,xs543,F544,uE3,N,H.pick [1,2,3,4,5,6,7,8,9] [0,5,6,7,8,9]⟩)))⟩
   clear H N
   rintro ρ w546 ⟨zx,xs490,F491,rfl,N,H⟩
   refine t_n (zn ?_)
   refine yU rfl H [0,1,2,4,5,6,7,8] fun H=>?_
   have S:=H.jA [0,1,2,4,5,6,7,8] [0,1,2,3,4,5]
   refine rtp 0 (pp b241 0) S ?_
   refine rtp 1 (pp b241 0) S ?_
   refine tF 2 rfl rfl S ?_
   refine tL 3 rfl rfl (fun _ h=>h.cell 1 rfl rfl) S ?_
   refine rtp 4 (yI c) S ?_
   refine tF 5 rfl rfl S ?_
   refine tL 6 rfl rfl (fun _ h=>h.cell 0 rfl rfl) S ?_
   refine ro 7 rfl (zh H underlying24 ti2 s.xk.toNat rfl rfl qf qf qf fun b548 w549 H=>⟨H.pick [1,2,3,5,6,7,8,9] [0,1,2,3,4,5],(tI 8 rfl rfl rfl (H.pick [1,2,3,5,6,7,8,9] [0,1,2,3,4,5]) ?_)⟩)
   refine ro 9 rfl ?_
   obtain ⟨G551,N,hn552,H⟩:=H.zV 0 rfl N (H.yK [0])
   refine jw true H 4 rfl 1 rfl (.slice (aa b548 0) s.xk.toNat s.xk.toNat) 0 rfl rfl sizeOf24 rfl rfl (i:=c.toNat) qf qf qm fun w550 xs553 F554 hs555 H=>?_
   replace N:Fresh w.heap.size [F554]:=(N.pick [1,0]).repl hs555
   refine ⟨H.pick [1,2,3,5,6,7,8,9] [2,3,4,5,6,7],(xh qh (t_n (zl (sps [pp b241 0,pp b241 0] (oF rfl (oL rfl (H.cell 2 rfl rfl) (sp (yI c) ?_)))))))⟩
   obtain ⟨b556,rfl⟩:=H.QQ 3 rfl qf
   refine oI rfl rfl (sw (Qv H 3 rfl false sizeOf4 rfl rfl (i:=c.toNat) qf qf fun w557 H=>zo (ret0 rfl ⟨_,rfl,?_⟩)))
   replace H:=H.erases [1,0]
   dsimp only [Qg,List.eraseIdx] at H
   refine zo (b_n (t_n (zl (sp (yI c) (sw (o_sub c 1 rfl rfl qf (sp (yI (c - 1)) (zo ?_))))))))
   rw [Ql] at H
   refine xn (m' :=((c - 1):Int).toNat) qf ⟨_,c - 1,(((qZ s counts (xf s t counts) j).qC).set c.toNat false),((((qZ s counts (xf s t counts) j).qK).set ((qR s (qZ s counts (xf s t counts) j) c).toNat) (jR (((qZ s counts (xf s t counts) j).qK)[(qR s (qZ s counts (xf s t counts) j) c).toNat]!) (((qZ s counts (xf s t counts) j).qK)[c.toNat]!) 1)).set c.toNat (List.replicate s.xk.toNat (0:Int))),xs553,F554,j+1,uE5,?_,?_,?_,?_,rfl,N,H.pick [0,1,2,3,4,5,6,7] [0,3,4,5,6,7]⟩
   · first | (rw [meltDown_yesL (c:=c) ‹_› qf qf rfl ic];rfl) | rw [meltDown_noL (c:=c) ‹_› qf qf rfl ic]
   · first | (rw [meltDown_yesL (c:=c) ‹_› qf qf rfl ic];rfl) | rw [meltDown_noL (c:=c) ‹_› qf qf rfl ic]
   · omega
   · omega
  refine xw (b_n (t_n (zl (sp (yI c) (sw (o_sub c 1 rfl rfl qf (sp (yI (c - 1)) (zo ?_))))))))
  rw [Ql] at H
  refine xn (m' :=((c - 1):Int).toNat) qf ⟨_,c - 1,((qZ s counts (xf s t counts) j).qC),((qZ s counts (xf s t counts) j).qK),zq,xN,j+1,uE5,?_,?_,?_,?_,rfl,N,H⟩
  · first | (rw [meltDown_yesL (c:=c) ‹_› qf qf rfl ic];rfl) | rw [meltDown_noL (c:=c) ‹_› qf qf rfl ic]
  · first | (rw [meltDown_yesL (c:=c) ‹_› qf qf rfl ic];rfl) | rw [meltDown_noL (c:=c) ‹_› qf qf rfl ic]
  · omega
  · omega
 refine zx4 (zcr (sw (zu (yS s qB qA qJ qI) isAgg27 sizeOf27 rfl (qH (H.cells 7 rfl) 0 3) (sw (zu [.slice ra242 (((xf s t counts).qC).length) rc243,.slice ra244 (((xf s t counts).qK).length) rc245,.slice ra246 (((qZ s counts (xf s t counts) j).qG).length) rc247] isAgg31 sizeOf31 rfl (qH (H.cells 0 rfl) 0 3) ?_)))))
 refine sw (Qb #[.agg #[yI s.xk,.slice qB s.qx.length qA,.slice qJ s.qw.length qI],.agg #[.slice ra242 (((xf s t counts).qC).length) rc243,.slice ra244 (((xf s t counts).qK).length) rc245,.slice ra246 (((qZ s counts (xf s t counts) j).qG).length) rc247]] rfl rfl call108 (en func108 ntmps108 ?_))
 refine zcr (sw (jT H (yS s qB qA qJ qI) fun b558 w559 H=>sw (jT H [.slice ra242 (((xf s t counts).qC).length) rc243,.slice ra244 (((xf s t counts).qK).length) rc245,.slice ra246 (((qZ s counts (xf s t counts) j).qG).length) rc247] fun b560 w561 H=>sw (xu H ti31 [yN,yN,yN] fun b562 w563 H=>sp (yI 0) (zjcc ?_)))))
 refine sw (zu (yS s qB qA qJ qI) isAgg27 sizeOf27 rfl (qH (H.cells 2 rfl) 0 3) (sw (zu [.slice ra242 (((xf s t counts).qC).length) rc243,.slice ra244 (((xf s t counts).qK).length) rc245,.slice ra246 (((qZ s counts (xf s t counts) j).qG).length) rc247] isAgg31 sizeOf31 rfl (qH (H.cells 1 rfl) 0 3) ?_)))
 obtain ⟨G564,hn565,h566⟩:=H.Xw 4 rfl
 obtain ⟨G567,hn568,h569⟩:=H.Qu (α:=yLI) 5 rfl 0 rfl qj
 obtain ⟨G570,hn571,h572⟩:=H.yZ 6 rfl
 refine sw (oq (args_eq (by rw [← hn565,← hn568]) (validState_ok _ s (qZ s counts (xf s t counts) j) (H.get 1 rfl).1 (H.get 2 rfl).1 (hn565▸h566) (hn568▸h569) h572)) H fun w574 H=>sp (.bool (!(dec (jB s∧xW s (qZ s counts (xf s t counts) j))))) (zjn (cQ rfl (fun h576=>?_) (fun h576=>?_))))
 ·skip
  refine zcr (sw (xK [yN,yN,yN] [] (sw (qV H 0 [yN,yN,yN] sizeOf31 fun w577 H=>sp (yI 3) (zjr (t_r (retC2 H 0 rfl (yI 3) rfl isAgg31 sizeOf31 rfl rfl ⟨_,rfl,?_⟩)))))))
  replace H:=H.erases [2,1,0]
  dsimp only [Qg,List.eraseIdx] at H
  refine sps [.agg #[yN,yN,yN],yI 3] (sw (qV H 5 [yN,yN,yN] sizeOf31 fun w578 H=>sp (yI 3) (zjr ?_)))
  replace H:=H.nilRowB 4
  replace H:=H.nilRow 24 1
  replace H:=H.Qz (α:=yLI)
  replace H:=H.nilRowI 2
  refine retC2 H 8 rfl (yI 3) rfl isAgg31 sizeOf31 rfl rfl ⟨_,rfl,?_,H.base⟩
  rw [stepBy_yes p3,stepRes,show vK s - 1=j by omega,told_no (fun h=>‹¬ (jB s∧_)› ⟨p0,h⟩)]
  exact ⟨none,0,0,none,0,0,[],[],none,0,0,rfl,(N.emp.pick [0]),H.pick [2,1,0] [0]⟩
 refine xw (t_n (zcr (sw (zu [.slice ra242 (((xf s t counts).qC).length) rc243,.slice ra244 (((xf s t counts).qK).length) rc245,.slice ra246 (((qZ s counts (xf s t counts) j).qG).length) rc247] isAgg31 sizeOf31 rfl (qH (H.cells 1 rfl) 0 3) (sw (qV H 0 [.slice ra242 (((xf s t counts).qC).length) rc243,.slice ra244 (((xf s t counts).qK).length) rc245,.slice ra246 (((qZ s counts (xf s t counts) j).qG).length) rc247] sizeOf31 fun w579 H=>sp (yI 0) (zjr (retC2 H 0 rfl (yI 0) rfl isAgg31 sizeOf31 rfl rfl ⟨_,rfl,?_⟩))))))))
 replace H:=H.erases [2,1,0]
 dsimp only [Qg,List.eraseIdx] at H
 refine sps [.agg #[.slice ra242 (((xf s t counts).qC).length) rc243,.slice ra244 (((xf s t counts).qK).length) rc245,.slice ra246 (((qZ s counts (xf s t counts) j).qG).length) rc247],yI 0] (sw (qV H 5 [.slice ra242 (((xf s t counts).qC).length) rc243,.slice ra244 (((xf s t counts).qK).length) rc245,.slice ra246 (((qZ s counts (xf s t counts) j).qG).length) rc247] sizeOf31 fun w580 H=>sp (yI 0) (zjr (retC2 H 5 rfl (yI 0) rfl isAgg31 sizeOf31 rfl rfl ⟨_,rfl,?_,H.base⟩))))
 rw [stepBy_yes p3,stepRes,show vK s - 1=j by omega,told_yes (‹jB s∧_›:jB s∧_).2]
 exact ⟨ra242,((xf s t counts).qC).length,rc243,ra244,((xf s t counts).qK).length,rc245,zq,xN,ra246,((qZ s counts (xf s t counts) j).qG).length,rc247,rfl,N,H.pick [1,2,3] [0]⟩
theorem implRun_ok (w:World) (s:qy) (t:qF) (steps:Int) {qB:yOA} {qX:yLN} {qJ:yOA} {xG:yLN} {qY:yOA} {x9:yLN} {xH:yOA} {zN:yLN} {qO:yOA} {xM:yLN} (qP:qW.rep w qX [.slice qB s.qx.length qA] s.qx) (xx:qW.rep w xG [.slice qJ s.qw.length qI] s.qw) (xY:qW.rep w x9 [.slice qY t.qC.length qU] t.qC) (zG:qW.rep w zN [.slice xH t.qK.length xB] t.qK) (xJ:qW.rep w xM [.slice qO t.qG.length qN] t.qG):Calls Tryz.prog 10 #[.agg #[yI s.xk,.slice qB s.qx.length qA,.slice qJ s.qw.length qI],.agg #[.slice qY t.qC.length qU,.slice xH t.qK.length xB,.slice qO t.qG.length qN],yI steps] w (Ret (fun v w' =>∃ (ra0Alive:yOA) (rn0Alive:Nat) (rc0Alive:Nat) (ra0Bags:yOA) (rn0Bags:Nat) (rc0Bags:Nat) (rx0Bags:List Value) (rF0Bags:yLN) (Xe:yOA) (Xc:Nat) (Xd:Nat),v=.tuple #[.agg #[.slice ra0Alive rn0Alive rc0Alive,.slice ra0Bags rn0Bags rc0Bags,.slice Xe Xc Xd],yI ((xA s t steps).2.1),yI ((xA s t steps).2.2)]∧Fresh w.heap.size [rF0Bags]∧St w w' [rr ra0Alive rn0Alive rc0Alive 4 1 ((((xA s t steps).1).qC).map (Value.bool)),rr ra0Bags rn0Bags rc0Bags 24 1 rx0Bags,rr Xe Xc Xd 2 1 ((((xA s t steps).1).qG).map (Value.int .i64))] [xe true rF0Bags rx0Bags (((xA s t steps).1).qK)]) w):=by
 refine en func10 ntmps10 ?_
 have H:=(((((St.start w).arg xJ).arg zG).arg xY).arg xx).arg qP
 have zS:=qQ qP
 have jv:=qQ xx
 have Qe:=qQ xY
 have QI:=qQ zG
 have yg:=qQ xJ
 clear qP xx xY zG xJ
 have N:=Fresh.nil w.heap.size
 refine zcr (sw (jT H (yS s qB qA qJ qI) fun b1 w2 H=>sw (jT H (yT t qY qU xH xB qO qN) fun b3 w4 H=>sw (xu H ti31 [yN,yN,yN] fun b5 w6 H=>sps [yI 0,yI 0] (zjcc (sw (zu (yS s qB qA qJ qI) isAgg27 sizeOf27 rfl (qH (H.cells 2 rfl) 0 3) ?_)))))))
 refine sw (zu (yT t qY qU xH xB qO qN) isAgg31 sizeOf31 rfl (qH (H.cells 1 rfl) 0 3) (sw (oq (validState_ok _ s t (H.get 0 rfl).1 (H.get 1 rfl).1 (H.get 2 rfl).1 (H.get 3 rfl).1 (H.get 4 rfl).1) H fun w8 H=>sp (.bool (!(dec (jB s∧xW s t)))) (zjn (cQ rfl (fun h10=>?_) (fun h10=>?_))))))
 ·skip
  refine zcr (sw (xK [yN,yN,yN] [] (sw (qV H 0 [yN,yN,yN] sizeOf31 fun w11 H=>sps [yI 0,yI 1] (zjr (t_r ?_))))))
  replace H:=H.nilRowB 4
  replace H:=H.nilRow 24 1
  replace H:=H.Qz (α:=yLI)
  replace H:=H.nilRowI 2
  refine retC3 H 3 rfl (yI 0) (yI 1) rfl isAgg31 sizeOf31 rfl rfl rfl ⟨_,rfl,?_,H.base⟩
  rw [run_1 ‹_›]
  exact ⟨none,0,0,none,0,0,[],[],none,0,0,rfl,N.emp,H.pick [2,1,0] [0]⟩
 have k0:=(‹jB s∧xW s t›:jB s∧xW s t)
 have k1:=k0.1
 have k2:=k0.2
 obtain ⟨q7,q8,q9,q10⟩:=k2.sizes k1.1
 have q13:=fun k hk=>Nat.le_trans (q10 k hk) (by decide:8≤1000000)
 refine xw (t_n (zcc (sp (yI steps) (sw (oq (XH w8 steps 0 200) H fun w12 H=>sp (.bool (!(inR steps 0 200))) (zjn (xO (!(inR steps 0 200)) rfl (fun h14=>?_) (fun h14=>?_))))))))
 ·skip
  replace h14:=xy h14
  replace h14:=QS h14
  refine zcr (sw (xK [yN,yN,yN] [] (sw (qV H 0 [yN,yN,yN] sizeOf31 fun w15 H=>sps [yI 0,yI 2] (zjr (t_r ?_))))))
  replace H:=H.nilRowB 4
  replace H:=H.nilRow 24 1
  replace H:=H.Qz (α:=yLI)
  replace H:=H.nilRowI 2
  refine retC3 H 3 rfl (yI 0) (yI 2) rfl isAgg31 sizeOf31 rfl rfl rfl ⟨_,rfl,?_,H.base⟩
  rw [run_2 ‹_› ‹_›]
  exact ⟨none,0,0,none,0,0,[],[],none,0,0,rfl,N.emp,H.pick [2,1,0] [0]⟩
 replace h14:=xm h14
 replace h14:=Qp.1 h14
 refine xw (t_n (zcr (sw (zu (yT t qY qU xH xB qO qN) isAgg31 sizeOf31 rfl (qH (H.cells 1 rfl) 0 3) ?_))))
 have sz19:=H.base.size
 refine sw (oc (Xx _ t (H.get 2 rfl).1 (H.get 3 rfl).1 (H.get 4 rfl).1 qg qg qg qg) ?_)
 rintro _ w17 ⟨ra16Alive,rn16Alive,rc16Alive,ra16Bags,rn16Bags,rc16Bags,rx16Bags,rF16Bags,ra16Around,rn16Around,rc16Around,rfl,M,K⟩ _
 replace N:=N.merge sz19 qm M
 replace H:=H.merge K M
 obtain rfl:=H.QY 0 rfl
 obtain rfl:=H.zi (α:=yLI) 1 rfl 0 rfl qj
 obtain rfl:=H.zO 2 rfl
 refine sw (xu H ti31 [yN,yN,yN] fun b24 w25 H=>sw (qV H 0 (yT t ra16Alive rc16Alive ra16Bags rc16Bags ra16Around rc16Around) sizeOf31 fun w26 H=>zjc (sp (yI 0) (zjn (xq ?_)))))
 refine vJ (fun m' ρ w27=>∃ (zx:Env) (n:Nat) (ve:yOA) (zY:Nat) (zZ:Nat) (now_Alive:List Bool) (vV:yOA) (vT:Nat) (vU:Nat) (now_Bags:yLL) (Qs:List Value) (yG:yLN) (zM:yOA) (zK:Nat) (zL:Nat) (now_Around:yLI) (u:qF),ρ=upd (upd (upd (upd (upd zx 2 (yI steps)) 3 (pp b1 0)) 6 (pp b5 0)) 9 (pp b24 0)) 10 (yI n)∧now_Alive=u.qC∧now_Bags=u.qK∧now_Around=u.qG∧(xW s u)∧(0≤(n:Int)∧(n:Int)≤steps)∧(xA s t steps=runGo s (steps - n).toNat n u)∧m' =(steps - n).toNat∧Fresh w.heap.size [yG]∧St w w27 [.box b24 [.slice ve zY zZ,.slice vV vT vU,.slice zM zK zL] 31,rr ve zY zZ 4 1 (now_Alive.map (Value.bool)),rr vV vT vU 24 1 Qs,rr zM zK zL 2 1 (now_Around.map (Value.int .i64)),.box b5 [yN,yN,yN] 31,.box b3 (yT t qY qU xH xB qO qN) 31,.box b1 (yS s qB qA qJ qI) 27] [xe true yG Qs now_Bags,sF false qX qB qA s.qx,sF false xG qJ qI s.qw,sF false x9 qY qU t.qC,sF false zN xH xB t.qK,sF false xM qO qN t.qG]) ((steps - 0).toNat) ⟨_,0,ra16Alive,t.qC.length,rc16Alive,t.qC,ra16Bags,t.qK.length,rc16Bags,t.qK,rx16Bags,rF16Bags,ra16Around,t.qG.length,rc16Around,t.qG,t,uE5,(by rfl),(by rfl),(by rfl),(by exact k2),qf,(by rw [run_0 ‹jB s∧xW s t› qf,show (steps - (0:Nat)).toNat=steps.toNat by omega];rfl),rfl,N,H⟩ ?_
 clear H N
 rintro m' ρ w28 ⟨zx,n,ve,zY,zZ,now_Alive,vV,vT,vU,now_Bags,Qs,yG,zM,zK,zL,now_Around,u,rfl,rfl,rfl,rfl,ku,km,kr,rfl,N,H⟩
 have hn_now_Alive:=H.QY 1 rfl
 have hn_now_Bags:=H.zi (α:=yLI) 2 rfl 0 rfl qj
 have hn_now_Around:=H.zO 3 rfl
 refine zn (xq (zcc (sps [yI n,yI steps,.bool ((n:Int) == steps),.bool ((n:Int) == steps)] ?_)))
 cases h29:((n:Int) == steps)
 ·skip
  replace h29:=ne_of_beq_false h29
  refine qL 29 rfl rfl (sw (zu (yS s qB qA qJ qI) isAgg27 sizeOf27 rfl (qH (H.cells 6 rfl) 0 3) (qL 29 rfl rfl (sw (zu [.slice ve zY zZ,.slice vV vT vU,.slice zM zK zL] isAgg31 sizeOf31 rfl (qH (H.cells 0 rfl) 0 3) (qL 29 rfl rfl ?_))))))
  obtain ⟨G30,hn31,h32⟩:=H.Xw 1 rfl
  obtain ⟨G33,hn34,h35⟩:=H.Qu (α:=yLI) 2 rfl 0 rfl qj
  obtain ⟨G36,hn37,h38⟩:=H.yZ 3 rfl
  have sz42:=H.base.size
  refine sw (oc (args_eq (by rw [← hn31,← hn34,← hn37]) (applicable_ok _ s u (H.get 1 rfl).1 (H.get 2 rfl).1 (hn31▸h32) (hn34▸h35) (hn37▸h38) qg qg)) ?_)
  rintro _ w40 ⟨ra39,rn39,rc39,rfl,M,K⟩ _
  replace H:=H.merge K M
  obtain rfl:=H.zO 0 rfl
  refine qL 29 rfl rfl (oN rfl (qL 29 rfl rfl (sps [.bool (((appls s u).length:Int) == 0),.bool (((appls s u).length:Int) == 0)] (zjn (cE rfl (fun h45=>?_) (fun h45=>?_))))))
  ·skip
   refine zcr (sw (zu [.slice ve zY zZ,.slice vV vT vU,.slice zM zK zL] isAgg31 sizeOf31 rfl (qH (H.cells 1 rfl) 0 3) (sp (yI n) (sw (qV H 5 [.slice ve zY zZ,.slice vV vT vU,.slice zM zK zL] sizeOf31 fun w46 H=>sps [yI n,yI 0] (zjr (t_r (b_r (t_r (t_r (b_r (retC3 H 5 rfl (yI n) (yI 0) rfl isAgg31 sizeOf31 rfl rfl rfl ⟨_,rfl,?_,H.base⟩))))))))))))
   first | rw [kr,runGo_end qf] | rw [kr,runGo_halt (appls_halt.1 qf)]
   exact ⟨ve,zY,zZ,vV,vT,vU,Qs,yG,zM,zK,zL,rfl,N,H.pick [2,3,4] [0]⟩
  refine xw (t_n (zn ?_))
  refine c_cut (fun ρ w56=>∃ (zx:Env) (b47:Nat) (ra48:yOA) (rc49:Nat) (ra50:yOA) (rc51:Nat) (ra52:yOA) (rc53:Nat) (rx54:List Value) (rF55:yLN),ρ=upd (upd (upd (upd (upd (upd (upd (upd (upd (upd (upd (upd zx 2 (yI steps)) 3 (pp b1 0)) 6 (pp b5 0)) 9 (pp b24 0)) 10 (yI n)) 11 (pp b47 0)) 12 (yI ((xU s u (xX s u)).2))) 30 (.agg #[yI s.xk,.slice qB s.qx.length qA,.slice qJ s.qw.length qI])) 31 (.agg #[.slice ve zY zZ,.slice vV vT vU,.slice zM zK zL])) 32 (.slice ra39 ((appls s u).length) rc39)) 33 (yI ((appls s u).length))) 34 (.bool (((appls s u).length:Int) == 0))∧Fresh w.heap.size [rF55,yG]∧St w w56 [.box b47 [.slice ra48 ((((xU s u (xX s u)).1).qC).length) rc49,.slice ra50 ((((xU s u (xX s u)).1).qK).length) rc51,.slice ra52 ((((xU s u (xX s u)).1).qG).length) rc53] 31,rr ra48 ((((xU s u (xX s u)).1).qC).length) rc49 4 1 ((((xU s u (xX s u)).1).qC).map (Value.bool)),rr ra50 ((((xU s u (xX s u)).1).qK).length) rc51 24 1 rx54,rr ra52 ((((xU s u (xX s u)).1).qG).length) rc53 2 1 ((((xU s u (xX s u)).1).qG).map (Value.int .i64)),rr ra39 ((appls s u).length) rc39 2 1 ((appls s u).map (Value.int .i64)),.box b24 [.slice ve zY zZ,.slice vV vT vU,.slice zM zK zL] 31,rr ve zY zZ 4 1 (u.qC.map (Value.bool)),rr vV vT vU 24 1 Qs,rr zM zK zL 2 1 (u.qG.map (Value.int .i64)),.box b5 [yN,yN,yN] 31,.box b3 (yT t qY qU xH xB qO qN) 31,.box b1 (yS s qB qA qJ qI) 27] [xe true rF55 rx54 (((xU s u (xX s u)).1).qK),xe true yG Qs u.qK,sF false qX qB qA s.qx,sF false xG qJ qI s.qw,sF false x9 qY qU t.qC,sF false zN xH xB t.qK,sF false xM qO qN t.qG]) ?_ ?_
  ·skip
   refine y9 rfl H fun H=>rt 0 (.agg #[yI s.xk,.slice qB s.qx.length qA,.slice qJ s.qw.length qI]) (Qn (cs:=(yS s qB qA qJ qI)) isAgg27 sizeOf27 rfl (fun _ h=>qH (h.cells 7 rfl) 0 3)) H ?_
   refine rt 1 (.agg #[.slice ve zY zZ,.slice vV vT vU,.slice zM zK zL]) (Qn (cs:=[.slice ve zY zZ,.slice vV vT vU,.slice zM zK zL]) isAgg31 sizeOf31 rfl (fun _ h=>qH (h.cells 1 rfl) 0 3)) H ?_
   refine rt 2 (.agg #[yI s.xk,.slice qB s.qx.length qA,.slice qJ s.qw.length qI]) (Qn (cs:=(yS s qB qA qJ qI)) isAgg27 sizeOf27 rfl (fun _ h=>qH (h.cells 7 rfl) 0 3)) H ?_
   refine rt 3 (.agg #[.slice ve zY zZ,.slice vV vT vU,.slice zM zK zL]) (Qn (cs:=[.slice ve zY zZ,.slice vV vT vU,.slice zM zK zL]) isAgg31 sizeOf31 rfl (fun _ h=>qH (h.cells 1 rfl) 0 3)) H ?_
   refine zI [4,9] qh qm (vk rfl ?_ (vk rfl ?_ zJ))
   ·skip
    obtain ⟨G58,hn59,h60⟩:=H.Xw 2 rfl
    obtain ⟨G61,hn62,h63⟩:=H.Qu (α:=yLI) 3 rfl 0 rfl qj
    obtain ⟨G64,hn65,h66⟩:=H.yZ 4 rfl
    have sz70:=H.base.size
    refine oc (args_eq (by rw [← hn59,← hn62,← hn65]) (firstChoice_ok _ s u (H.get 1 rfl).1 (H.get 2 rfl).1 (hn59▸h60) (hn62▸h63) (hn65▸h66) qg qg)) ?_
    rintro _ w68 ⟨ra67,rn67,rc67,rfl,M,K⟩ _
    replace H:=H.merge K M
    obtain rfl:=H.zO 0 rfl
    refine ⟨H.pick [1,2,3,4,5,6,7,8] [0,1,2,3,4,5],(zI [5,9] qh qm (vk rfl ?_ (vk rfl ?_ zJ)))⟩
    ·skip
     obtain ⟨G73,hn74,h75⟩:=H.Xw 3 rfl
     obtain ⟨G76,hn77,h78⟩:=H.Qu (α:=yLI) 4 rfl 0 rfl qj
     obtain ⟨G79,hn80,h81⟩:=H.yZ 5 rfl
     obtain ⟨G82,hn83,h84⟩:=H.yZ 0 rfl
     have k3:=first_cnt k1 ku
     have k4:=first_isCh k1 ku
     have sz88:=H.base.size
     have lt89:=H.ltN (L:=[yG]) [0]
     refine oc (args_eq (by rw [← hn74,← hn77,← hn80]) (step_ok _ s u (xX s u) (H.get 1 rfl).1 (H.get 2 rfl).1 (hn74▸h75) (hn77▸h78) (hn80▸h81) h84 qg qg qg qg)) ?_
     rintro _ w86 ⟨ra85aAlive,rn85aAlive,rc85aAlive,ra85aBags,rn85aBags,rc85aBags,rx85aBags,rF85aBags,ra85aAround,rn85aAround,rc85aAround,rfl,M,K⟩ _
     replace N:=N.merge sz88 lt89 M
     replace H:=H.merge K M
     obtain rfl:=H.QY 0 rfl
     obtain rfl:=H.zi (α:=yLI) 1 rfl 0 rfl qj
     obtain rfl:=H.zO 2 rfl
     refine ⟨H.pick [4,5,6,7,8,9,10,11] [1,2,3,4,5,6],?_⟩
     have S:=H.jA [4,5,6,7,8,9,10,11] [1,2,3,4,5,6]
     refine rtp 6 (.tuple #[.agg #[.slice ra85aAlive ((((xU s u (xX s u)).1).qC).length) rc85aAlive,.slice ra85aBags ((((xU s u (xX s u)).1).qK).length) rc85aBags,.slice ra85aAround ((((xU s u (xX s u)).1).qG).length) rc85aAround],yI ((xU s u (xX s u)).2)]) S ?_
     refine rtp 7 (.agg #[.slice ra85aAlive ((((xU s u (xX s u)).1).qC).length) rc85aAlive,.slice ra85aBags ((((xU s u (xX s u)).1).qK).length) rc85aBags,.slice ra85aAround ((((xU s u (xX s u)).1).qG).length) rc85aAround]) S ?_
     refine rtp 8 (yI ((xU s u (xX s u)).2)) S ?_
     refine ro 9 rfl (xu H ti31 [yN,yN,yN] fun b93 w94 H=>⟨H.pick [5,6,7,8,9,10,11,12] [1,2,3,4,5,6],(ro 10 rfl (qV H 0 [.slice ra85aAlive ((((xU s u (xX s u)).1).qC).length) rc85aAlive,.slice ra85aBags ((((xU s u (xX s u)).1).qK).length) rc85aBags,.slice ra85aAround ((((xU s u (xX s u)).1).qG).length) rc85aAround] sizeOf31 fun w95 H=>⟨H.pick [5,6,7,8,9,10,11,12] [1,2,3,4,5,6],(rtp 11 (yI ((xU s u (xX s u)).2)) (H.pick [5,6,7,8,9,10,11,12] [1,2,3,4,5,6]) ?_)⟩))⟩)
     refine xh qh ((meet ⟨_,b93,ra85aAlive,rc85aAlive,ra85aBags,rc85aBags,ra85aAround,rc85aAround,rx85aBags,rF85aBags,uE12,N,H.pick [0,1,2,3,5,6,7,8,9,10,11,12] [0,1,2,3,4,5,6]⟩))
    refine xu H ti31 [yN,yN,yN] fun b96 w97 H=>⟨H.pick [2,3,4,5,6,7,8,9] [0,1,2,3,4,5],(ro 5 rfl ?_)⟩
    obtain ⟨G98,hn99,h100⟩:=H.Xw 4 rfl
    obtain ⟨G101,hn102,h103⟩:=H.Qu (α:=yLI) 5 rfl 0 rfl qj
    obtain ⟨G104,hn105,h106⟩:=H.yZ 6 rfl
    obtain ⟨G107,hn108,h109⟩:=H.yZ 1 rfl
    have k3:=first_cnt k1 ku
    have k4:=first_isCh k1 ku
    have sz113:=H.base.size
    have lt114:=H.ltN (L:=[yG]) [0]
    refine oc (args_eq (by rw [← hn99,← hn102,← hn105]) (step_ok _ s u (xX s u) (H.get 1 rfl).1 (H.get 2 rfl).1 (hn99▸h100) (hn102▸h103) (hn105▸h106) h109 qg qg qg qg)) ?_
    rintro _ w111 ⟨ra110aAlive,rn110aAlive,rc110aAlive,ra110aBags,rn110aBags,rc110aBags,rx110aBags,rF110aBags,ra110aAround,rn110aAround,rc110aAround,rfl,M,K⟩ _
    replace N:=N.merge sz113 lt114 M
    replace H:=H.merge K M
    obtain rfl:=H.QY 0 rfl
    obtain rfl:=H.zi (α:=yLI) 1 rfl 0 rfl qj
    obtain rfl:=H.zO 2 rfl
    refine ⟨H.pick [5,6,7,8,9,10,11,12] [1,2,3,4,5,6],?_⟩
    have S:=H.jA [5,6,7,8,9,10,11,12] [1,2,3,4,5,6]
    refine rtp 6 (.tuple #[.agg #[.slice ra110aAlive ((((xU s u (xX s u)).1).qC).length) rc110aAlive,.slice ra110aBags ((((xU s u (xX s u)).1).qK).length) rc110aBags,.slice ra110aAround ((((xU s u (xX s u)).1).qG).length) rc110aAround],yI ((xU s u (xX s u)).2)]) S ?_
    refine rtp 7 (.agg #[.slice ra110aAlive ((((xU s u (xX s u)).1).qC).length) rc110aAlive,.slice ra110aBags ((((xU s u (xX s u)).1).qK).length) rc110aBags,.slice ra110aAround ((((xU s u (xX s u)).1).qG).length) rc110aAround]) S ?_
    refine rtp 8 (yI ((xU s u (xX s u)).2)) S ?_
    refine ro 10 rfl (qV H 3 [.slice ra110aAlive ((((xU s u (xX s u)).1).qC).length) rc110aAlive,.slice ra110aBags ((((xU s u (xX s u)).1).qK).length) rc110aBags,.slice ra110aAround ((((xU s u (xX s u)).1).qG).length) rc110aAround] sizeOf31 fun w118 H=>⟨H.pick [5,6,7,8,9,10,11,12] [1,2,3,4,5,6],(rtp 11 (yI ((xU s u (xX s u)).2)) (H.pick [5,6,7,8,9,10,11,12] [1,2,3,4,5,6]) ?_)⟩)
    refine xh qh ((meet ⟨_,b96,ra110aAlive,rc110aAlive,ra110aBags,rc110aBags,ra110aAround,rc110aAround,rx110aBags,rF110aBags,uE12,N,H.pick [3,0,1,2,5,6,7,8,9,10,11,12] [0,1,2,3,4,5,6]⟩))
   refine xu H ti31 [yN,yN,yN] fun b119 w120 H=>⟨H.pick [1,2,3,4,5,6,7,8] [0,1,2,3,4,5],(ro 4 rfl ?_)⟩
   obtain ⟨G121,hn122,h123⟩:=H.Xw 3 rfl
   obtain ⟨G124,hn125,h126⟩:=H.Qu (α:=yLI) 4 rfl 0 rfl qj
   obtain ⟨G127,hn128,h129⟩:=H.yZ 5 rfl
   have sz133:=H.base.size
   refine oc (args_eq (by rw [← hn122,← hn125,← hn128]) (firstChoice_ok _ s u (H.get 1 rfl).1 (H.get 2 rfl).1 (hn122▸h123) (hn125▸h126) (hn128▸h129) qg qg)) ?_
   rintro _ w131 ⟨ra130,rn130,rc130,rfl,M,K⟩ _
   replace H:=H.merge K M
   obtain rfl:=H.zO 0 rfl
   refine ⟨H.pick [2,3,4,5,6,7,8,9] [0,1,2,3,4,5],(ro 5 rfl ?_)⟩
   obtain ⟨G136,hn137,h138⟩:=H.Xw 4 rfl
   obtain ⟨G139,hn140,h141⟩:=H.Qu (α:=yLI) 5 rfl 0 rfl qj
   obtain ⟨G142,hn143,h144⟩:=H.yZ 6 rfl
   obtain ⟨G145,hn146,h147⟩:=H.yZ 0 rfl
   have k3:=first_cnt k1 ku
   have k4:=first_isCh k1 ku
   have sz151:=H.base.size
   have lt152:=H.ltN (L:=[yG]) [0]
   refine oc (args_eq (by rw [← hn137,← hn140,← hn143]) (step_ok _ s u (xX s u) (H.get 1 rfl).1 (H.get 2 rfl).1 (hn137▸h138) (hn140▸h141) (hn143▸h144) h147 qg qg qg qg)) ?_
   rintro _ w149 ⟨ra148aAlive,rn148aAlive,rc148aAlive,ra148aBags,rn148aBags,rc148aBags,rx148aBags,rF148aBags,ra148aAround,rn148aAround,rc148aAround,rfl,M,K⟩ _
   replace N:=N.merge sz151 lt152 M
   replace H:=H.merge K M
   obtain rfl:=H.QY 0 rfl
   obtain rfl:=H.zi (α:=yLI) 1 rfl 0 rfl qj
   obtain rfl:=H.zO 2 rfl
   refine ⟨H.pick [5,6,7,8,9,10,11,12] [1,2,3,4,5,6],?_⟩
   have S:=H.jA [5,6,7,8,9,10,11,12] [1,2,3,4,5,6]
   refine rtp 6 (.tuple #[.agg #[.slice ra148aAlive ((((xU s u (xX s u)).1).qC).length) rc148aAlive,.slice ra148aBags ((((xU s u (xX s u)).1).qK).length) rc148aBags,.slice ra148aAround ((((xU s u (xX s u)).1).qG).length) rc148aAround],yI ((xU s u (xX s u)).2)]) S ?_
   refine rtp 7 (.agg #[.slice ra148aAlive ((((xU s u (xX s u)).1).qC).length) rc148aAlive,.slice ra148aBags ((((xU s u (xX s u)).1).qK).length) rc148aBags,.slice ra148aAround ((((xU s u (xX s u)).1).qG).length) rc148aAround]) S ?_
   refine rtp 8 (yI ((xU s u (xX s u)).2)) S ?_
   refine ro 10 rfl (qV H 4 [.slice ra148aAlive ((((xU s u (xX s u)).1).qC).length) rc148aAlive,.slice ra148aBags ((((xU s u (xX s u)).1).qK).length) rc148aBags,.slice ra148aAround ((((xU s u (xX s u)).1).qG).length) rc148aAround] sizeOf31 fun w156 H=>⟨H.pick [5,6,7,8,9,10,11,12] [1,2,3,4,5,6],(rtp 11 (yI ((xU s u (xX s u)).2)) (H.pick [5,6,7,8,9,10,11,12] [1,2,3,4,5,6]) ?_)⟩)
   refine xh qh ((meet ⟨_,b119,ra148aAlive,rc148aAlive,ra148aBags,rc148aBags,ra148aAround,rc148aAround,rx148aBags,rF148aBags,uE12,N,H.pick [4,0,1,2,5,6,7,8,9,10,11,12] [0,1,2,3,4,5,6]⟩))
  clear H N
  rintro ρ w157 ⟨zx,b47,ra48,rc49,ra50,rc51,ra52,rc53,rx54,rF55,rfl,N,H⟩
  refine t_n (zcc (sps [yI ((xU s u (xX s u)).2),.bool (((xU s u (xX s u)).2:Int) != 0)] (zjn (xO (((xU s u (xX s u)).2:Int) != 0) rfl (fun h158=>?_) (fun h158=>?_)))))
  ·skip
   replace h158:=bne_iff_ne.1 h158
   refine zcr (sw (xK [yN,yN,yN] [] (sp (yI ((xU s u (xX s u)).2)) (sw (qV H 9 [yN,yN,yN] sizeOf31 fun w159 H=>sps [yI 0,yI ((xU s u (xX s u)).2)] (zjr (t_r (b_r (t_r (t_r (b_r ?_)))))))))))
   replace H:=H.nilRowB 4
   replace H:=H.nilRow 24 1
   replace H:=H.Qz (α:=yLI)
   replace H:=H.nilRowI 2
   refine retC3 H 12 rfl (yI 0) (yI ((xU s u (xX s u)).2)) rfl isAgg31 sizeOf31 rfl rfl rfl ⟨_,rfl,?_,H.base⟩
   rw [kr,runGo_bad qf (fun h=>by have:=appls_halt.2 h;omega) ‹_›]
   exact ⟨none,0,0,none,0,0,[],[],none,0,0,rfl,(N.emp.pick [0]),H.pick [2,1,0] [0]⟩
  replace h158:=vW h158
  refine xw (t_n (zl (sw (zu [.slice ra48 ((((xU s u (xX s u)).1).qC).length) rc49,.slice ra50 ((((xU s u (xX s u)).1).qK).length) rc51,.slice ra52 ((((xU s u (xX s u)).1).qG).length) rc53] isAgg31 sizeOf31 rfl (qH (H.cells 0 rfl) 0 3) (sw (qV H 5 [.slice ra48 ((((xU s u (xX s u)).1).qC).length) rc49,.slice ra50 ((((xU s u (xX s u)).1).qK).length) rc51,.slice ra52 ((((xU s u (xX s u)).1).qG).length) rc53] sizeOf31 fun w160 H=>zo (b_n (t_n (zl (sp (yI n) (sw (vg n 1 rfl rfl qf (sp (yI (n+1)) (zo ?_))))))))))))))
  refine xn (m' :=(steps - (n+1)).toNat) qf ⟨_,n+1,ra48,(((xU s u (xX s u)).1).qC).length,rc49,((xU s u (xX s u)).1).qC,ra50,(((xU s u (xX s u)).1).qK).length,rc51,((xU s u (xX s u)).1).qK,rx54,rF55,ra52,(((xU s u (xX s u)).1).qG).length,rc53,((xU s u (xX s u)).1).qG,(xU s u (xX s u)).1,uE5,?_,?_,?_,?_,?_,?_,rfl,(N.pick [0]),H.pick [5,1,2,3,9,10,11] [0,2,3,4,5,6]⟩
  · rfl
  · rfl
  · rfl
  · exact stepBy_ok ‹_›
  · omega
  · exact kr.trans (runGo_go qf (fun h=>by have:=appls_halt.2 h;omega) ‹_›)
 replace h29:=eq_of_beq h29
 refine xR [30,31,32,33,34] (sp (.bool true) (zjn (xO true rfl (fun _=>zcr (sw (zu [.slice ve zY zZ,.slice vV vT vU,.slice zM zK zL] isAgg31 sizeOf31 rfl (qH (H.cells 0 rfl) 0 3) (sp (yI n) (sw (qV H 4 [.slice ve zY zZ,.slice vV vT vU,.slice zM zK zL] sizeOf31 fun w161 H=>sps [yI n,yI 0] (zjr (t_r (b_r (t_r (t_r (b_r ?_)))))))))))) (fun h=>absurd h qj))))
 refine retC3 H 4 rfl (yI n) (yI 0) rfl isAgg31 sizeOf31 rfl rfl rfl ⟨_,rfl,?_,H.base⟩
 first | rw [kr,runGo_end qf] | rw [kr,runGo_halt (appls_halt.1 qf)]
 exact ⟨ve,zY,zZ,vV,vT,vU,Qs,yG,zM,zK,zL,rfl,N,H.pick [1,2,3] [0]⟩
end
section
open Go.RowKit
set_option linter.unusedVariables false
set_option linter.unusedSimpArgs false
set_option maxRecDepth 100000
set_option maxHeartbeats 4000000
theorem dNext_ok {W0 w:World} {ps:List Prv} {Γ:List Fact} {Ns:List yLN} (code:List UInt8) (ip:Int) (sd:Int) (bs:Nat) (ac:yOA) (cc:Nat) (Fc:yLN) (H:St W0 w ((.box bs [.slice ac code.length cc,.int .i64 ip,.int .u64 sd] 127) :: ps) ((sF false Fc ac cc code) :: Γ)) (N:Fresh W0.heap.size (Ns)) (K0:Kept Ns Γ) (q0:0≤ip∧ip≤100000):Calls Tryz.prog 126 #[.pointer (some ⟨bs,0,none⟩)] w (fun e w' =>∃ v,e=.returned v∧∃ (ip_:Int) (sd_:Int) (v_:Int),(ip≤ip_∧ip_≤ip+1)∧(0≤v_∧v_≤255)∧v=.int .i64 v_∧Fresh W0.heap.size (Ns)∧St W0 w' ((.box bs [.slice ac code.length cc,.int .i64 ip_,.int .u64 sd_] 127) :: ps) ((sF false Fc ac cc code) :: Γ)):=by
 refine en Tryz.func126 Tryz.ntmps126 ?_
 have ncode:=qQ (H.get 0 rfl).1
 refine zcr (sp (.int .i64 0) (zjc (sp (.int .i64 0) (zjn (zn (zn ?_))))))
 refine c_drawK2 rfl H [0] [0] fun H=>?_
 have S:=H.jA [0] [0]
 refine rtp 0 (.pointer (some ⟨bs,0,none⟩)) S ?_
 refine rtp 1 (.pointer (some ⟨bs,0,none⟩)) S ?_
 refine tF 2 rfl rfl S ?_
 refine tL 3 rfl rfl (fun _ h=>h.cell 0 rfl rfl) S ?_
 refine rtp 4 (.pointer (some ⟨bs,0,none⟩)) S ?_
 refine rtp 5 (.pointer (some ⟨bs,0,none⟩)) S ?_
 refine tF 6 rfl rfl S ?_
 refine tL 7 rfl rfl (fun _ h=>h.cell 0 rfl rfl) S ?_
 refine tN 8 rfl rfl S ?_
 refine rtp 9 (.bool (decide ((ip:Int) < code.length))) S ?_
 refine xh qh (t_n (cD rfl (fun h2=>?_) (fun h2=>?_)))
 ·skip
  refine c_drawK2 rfl H [0] [0] fun H=>?_
  have S:=H.jA [0] [0]
  refine rtp 0 (.pointer (some ⟨bs,0,none⟩)) S ?_
  refine rtp 1 (.pointer (some ⟨bs,0,none⟩)) S ?_
  refine tF 2 rfl rfl S ?_
  refine tL 3 rfl rfl (fun _ h=>h.cell 0 rfl rfl) S ?_
  refine rtp 4 (.pointer (some ⟨bs,0,none⟩)) S ?_
  refine rtp 5 (.pointer (some ⟨bs,0,none⟩)) S ?_
  refine tF 6 rfl rfl S ?_
  refine tL 7 rfl rfl (fun _ h=>h.cell 0 rfl rfl) S ?_
  obtain ⟨b4,o5,rfl⟩:=H.addr 0 rfl qf
  refine tI 8 rfl rfl rfl (H.pick [0] [0]) ?_
  refine ro 9 rfl ?_
  have hb7:=byte_lt (code[ip.toNat]!)
  refine zk (.int .u8 (((code[ip.toNat]!).toNat:Nat):Int)) Tryz.isAgg5 rfl (H.elemByte 0 rfl ip ip.toNat qf qf qf) (⟨H.pick [0] [0],(ro 10 rfl (o_convI (((code[ip.toNat]!).toNat:Nat):Int) Tryz.underlying5 Tryz.underlying3 rfl qf (⟨H.pick [0] [0],(rtp 11 (.int .i64 (((code[ip.toNat]!).toNat:Nat):Int)) (H.pick [0] [0]) ?_)⟩)))⟩)
  refine xh qh (t_n (zcr (sps [.pointer (some ⟨bs,0,none⟩),.pointer (some ⟨bs,0,none⟩)] (oF rfl (oL rfl (H.cell 0 rfl rfl) (sw (vg ip 1 rfl rfl qf (sp (.pointer (some ⟨bs,0,none⟩)) (oF rfl (sw (zU H 0 [.slice (some ⟨b4,o5,none⟩) code.length cc,.int .i64 (ip+1),.int .u64 sd] Tryz.sizeOf3 fun w8 H=>?_)))))))))))
  try dsimp only [List.set] at H
  refine zjc (sps [.pointer (some ⟨bs,0,none⟩),.pointer (some ⟨bs,0,none⟩),.pointer (some ⟨bs,0,none⟩)] (oF rfl (oL rfl (H.cell 0 rfl rfl) (sw (o_mulU sd 6364136223846793005 rfl rfl fun r9=>sp (.int .i64 (((code[ip.toNat]!).toNat:Nat):Int)) (sw (o_convU (((code[ip.toNat]!).toNat:Nat):Int) Tryz.underlying3 Tryz.underlying125 rfl fun r10=>sw (o_addU r9 r10 rfl rfl fun r11=>sw (o_addU r11 1442695040888963407 rfl rfl fun r12=>sp (.pointer (some ⟨bs,0,none⟩)) (oF rfl (sw (zU H 0 [.slice (some ⟨b4,o5,none⟩) code.length cc,.int .i64 (ip+1),.int .u64 r12] Tryz.sizeOf125 fun w13 H=>?_))))))))))))
  try dsimp only [List.set] at H
  refine zjn (zn (zn ?_))
  refine c_drawK2 rfl H [0] [0] fun H=>?_
  have S:=H.jA [0] [0]
  refine rtp 0 (.pointer (some ⟨bs,0,none⟩)) S ?_
  refine rtp 1 (.pointer (some ⟨bs,0,none⟩)) S ?_
  refine tF 2 rfl rfl S ?_
  refine tL 3 rfl rfl (fun _ h=>h.cell 0 rfl rfl) S ?_
  refine rtp 4 (.pointer (some ⟨bs,0,none⟩)) S ?_
  refine rtp 5 (.pointer (some ⟨bs,0,none⟩)) S ?_
  refine tF 6 rfl rfl S ?_
  refine tL 7 rfl rfl (fun _ h=>h.cell 0 rfl rfl) S ?_
  refine tN 8 rfl rfl S ?_
  refine rtp 9 (.bool (decide ((ip+1:Int)≤code.length))) S ?_
  refine xh qh (t_n (cD rfl (fun h15=>?_) (fun h15=>?_)))
  ·skip
   refine zcr (sps [.int .i64 (((code[ip.toNat]!).toNat:Nat):Int),.int .i64 (((code[ip.toNat]!).toNat:Nat):Int)] (zjr (t_r (ret1 (.int .i64 (((code[ip.toNat]!).toNat:Nat):Int)) rfl rfl ⟨_,rfl,(⟨ip+1,r12,(((code[ip.toNat]!).toNat:Nat):Int),qf,qf,rfl,N,H.xE 1 1 [0] [0] qo qo⟩)⟩))))
  ·skip
   refine xw (t_n (zcr (sps [.pointer (some ⟨bs,0,none⟩),.pointer (some ⟨bs,0,none⟩)] (oF rfl (oL rfl (H.cell 0 rfl rfl) (sw (o_shrU r12 40 qj rfl rfl fun r16=>sw (o_andU r16 rfl rfl fun r17 hr17=>sw (o_convI r17 Tryz.underlying125 Tryz.underlying2 rfl qf (sp (.int .i64 r17) (zjr (ret1 (.int .i64 r17) rfl rfl ⟨_,rfl,(⟨ip+1,r12,r17,qf,qf,rfl,N,H.xE 1 1 [0] [0] qo qo⟩)⟩))))))))))))
 ·skip
  refine xw (t_n (zcr (sps [.pointer (some ⟨bs,0,none⟩),.pointer (some ⟨bs,0,none⟩)] (oF rfl (oL rfl (H.cell 0 rfl rfl) (sw (vg ip 1 rfl rfl qf (sp (.pointer (some ⟨bs,0,none⟩)) (oF rfl (sw (zU H 0 [.slice ac code.length cc,.int .i64 (ip+1),.int .u64 sd] Tryz.sizeOf3 fun w18 H=>?_)))))))))))
  try dsimp only [List.set] at H
  refine zjc (sps [.pointer (some ⟨bs,0,none⟩),.pointer (some ⟨bs,0,none⟩),.pointer (some ⟨bs,0,none⟩)] (oF rfl (oL rfl (H.cell 0 rfl rfl) (sw (o_mulU sd 6364136223846793005 rfl rfl fun r19=>sp (.int .i64 0) (sw (o_convU 0 Tryz.underlying3 Tryz.underlying125 rfl fun r20=>sw (o_addU r19 r20 rfl rfl fun r21=>sw (o_addU r21 1442695040888963407 rfl rfl fun r22=>sp (.pointer (some ⟨bs,0,none⟩)) (oF rfl (sw (zU H 0 [.slice ac code.length cc,.int .i64 (ip+1),.int .u64 r22] Tryz.sizeOf125 fun w23 H=>?_))))))))))))
  try dsimp only [List.set] at H
  refine zjn (zn (zn ?_))
  refine c_drawK2 rfl H [0] [0] fun H=>?_
  have S:=H.jA [0] [0]
  refine rtp 0 (.pointer (some ⟨bs,0,none⟩)) S ?_
  refine rtp 1 (.pointer (some ⟨bs,0,none⟩)) S ?_
  refine tF 2 rfl rfl S ?_
  refine tL 3 rfl rfl (fun _ h=>h.cell 0 rfl rfl) S ?_
  refine rtp 4 (.pointer (some ⟨bs,0,none⟩)) S ?_
  refine rtp 5 (.pointer (some ⟨bs,0,none⟩)) S ?_
  refine tF 6 rfl rfl S ?_
  refine tL 7 rfl rfl (fun _ h=>h.cell 0 rfl rfl) S ?_
  refine tN 8 rfl rfl S ?_
  refine rtp 9 (.bool (decide ((ip+1:Int)≤code.length))) S ?_
  refine xh qh (t_n (cD rfl (fun h25=>?_) (fun h25=>?_)))
  ·skip
   refine zcr (sps [.int .i64 0,.int .i64 0] (zjr (t_r (ret1 (.int .i64 0) rfl rfl ⟨_,rfl,(⟨ip+1,r22,0,qf,qf,rfl,N,H.xE 1 1 [0] [0] qo qo⟩)⟩))))
  ·skip
   refine xw (t_n (zcr (sps [.pointer (some ⟨bs,0,none⟩),.pointer (some ⟨bs,0,none⟩)] (oF rfl (oL rfl (H.cell 0 rfl rfl) (sw (o_shrU r22 40 qj rfl rfl fun r26=>sw (o_andU r26 rfl rfl fun r27 hr27=>sw (o_convI r27 Tryz.underlying125 Tryz.underlying2 rfl qf (sp (.int .i64 r27) (zjr (ret1 (.int .i64 r27) rfl rfl ⟨_,rfl,(⟨ip+1,r22,r27,qf,qf,rfl,N,H.xE 1 1 [0] [0] qo qo⟩)⟩))))))))))))

theorem jK {W0 w:World} {ps:List Prv} {Γ:List Fact} {Ns:List yLN} (code:List UInt8) (ip:Int) (sd:Int) (bs:Nat) (ac:yOA) (cc:Nat) (Fc:yLN) (nn:Int) (H:St W0 w ((.box bs [.slice ac code.length cc,.int .i64 ip,.int .u64 sd] 127) :: ps) ((sF false Fc ac cc code) :: Γ)) (N:Fresh W0.heap.size (Ns)) (K0:Kept Ns Γ) (q0:0≤ip∧ip≤90000):Calls Tryz.prog 68 #[.pointer (some ⟨bs,0,none⟩),.int .i64 nn] w (fun e w' =>∃ v,e=.returned v∧∃ (ip_:Int) (sd_:Int) (v_:Int),(ip≤ip_∧ip_≤ip+2)∧(0≤v_∧(v_ < nn∨v_=0))∧v=.int .i64 v_∧Fresh W0.heap.size (Ns)∧St W0 w' ((.box bs [.slice ac code.length cc,.int .i64 ip_,.int .u64 sd_] 127) :: ps) ((sF false Fc ac cc code) :: Γ)):=by
 refine en Tryz.func68 Tryz.ntmps68 ?_
 have ncode:=qQ (H.get 0 rfl).1
 refine zcr (sp (.int .i64 0) (zjcc (sps [.int .i64 nn,.bool (decide ((nn:Int)≤1))] (zjn (cD rfl (fun h1=>?_) (fun h1=>?_))))))
 ·skip
  refine zcr (sp (.int .i64 0) (zjr (t_r (ret1 (.int .i64 0) rfl rfl ⟨_,rfl,(⟨ip,sd,0,qf,(by first | omega | exact ⟨hm _,.inl (hm2 _)⟩),rfl,N,H.xE 1 1 [0] [0] qo qo⟩)⟩))))
 ·skip
  refine xw (t_n (zcr (sp (.pointer (some ⟨bs,0,none⟩)) ?_)))
  have H1:St W0 w ((.box bs [.slice ac code.length cc,.int .i64 ip,.int .u64 sd] 127) :: ps) ((sF false Fc ac cc code) :: Γ):=H.xE 1 1 [0] [0] qo qo
  have N1:Fresh _ (Ns):=N
  have K1:Kept (Ns) (Γ):=K0.behind 0 rfl
  refine sw (xI #[.pointer (some ⟨bs,0,none⟩)] rfl rfl Tryz.call126 (dNext_ok code ip sd bs ac cc Fc H1 N1 K1 qg) ?_)
  clear H H1 N1 K1
  rintro _ w2 ⟨zi6,zi7,zi8,hx4,hx5,rfl,N,H⟩
  refine sp (.int .i64 zi8) (zjcc (sps [.int .i64 nn,.bool (decide ((nn:Int) > 200))] (zjn (cD rfl (fun h9=>?_) (fun h9=>?_)))))
  ·skip
   refine zl (sp (.int .i64 zi8) (sw (o_mul zi8 256 rfl rfl qf (sp (.pointer (some ⟨bs,0,none⟩)) ?_))))
   have H1:St W0 w2 ((.box bs [.slice ac code.length cc,.int .i64 zi6,.int .u64 zi7] 127) :: ps) ((sF false Fc ac cc code) :: Γ):=H.xE 1 1 [0] [0] qo qo
   have N1:Fresh _ (Ns):=N
   have K1:Kept (Ns) (Γ):=K0.behind 0 rfl
   refine sw (xI #[.pointer (some ⟨bs,0,none⟩)] rfl rfl Tryz.call126 (dNext_ok code zi6 zi7 bs ac cc Fc H1 N1 K1 qg) ?_)
   clear H H1 N1 K1
   rintro _ w10 ⟨zi14,zi15,zi16,hx12,hx13,rfl,N,H⟩
   refine sw (vg (zi8 * 256) zi16 rfl rfl qf (sp (.int .i64 ((zi8 * 256)+zi16)) (zjc (sps [.int .i64 ((zi8 * 256)+zi16),.int .i64 nn] (sw (o_rem ((zi8 * 256)+zi16) nn rfl rfl qf qf qf (sp (.int .i64 (((zi8 * 256)+zi16) % nn)) (zjr (ret1 (.int .i64 (((zi8 * 256)+zi16) % nn)) rfl rfl ⟨_,rfl,?_⟩)))))))))
   have hm:=fun (x:Int)=>Int.emod_nonneg x (show nn≠0 by omega)
   have hm2:=fun (x:Int)=>Int.emod_lt_of_pos x (show 0 < nn by omega)
   exact ⟨zi14,zi15,((zi8 * 256)+zi16) % nn,qf,(by first | omega | exact ⟨hm _,.inl (hm2 _)⟩),rfl,N,H.xE 1 1 [0] [0] qo qo⟩
  ·skip
   refine xw (t_n (zcr (sps [.int .i64 zi8,.int .i64 nn] (sw (o_rem zi8 nn rfl rfl qf qf qf (sp (.int .i64 (zi8 % nn)) (zjr (ret1 (.int .i64 (zi8 % nn)) rfl rfl ⟨_,rfl,?_⟩))))))))
   have hm:=fun (x:Int)=>Int.emod_nonneg x (show nn≠0 by omega)
   have hm2:=fun (x:Int)=>Int.emod_lt_of_pos x (show 0 < nn by omega)
   exact ⟨zi6,zi7,zi8 % nn,qf,(by first | omega | exact ⟨hm _,.inl (hm2 _)⟩),rfl,N,H.xE 1 1 [0] [0] qo qo⟩

theorem dOne_ok {W0 w:World} {ps:List Prv} {Γ:List Fact} {Ns:List yLN} (code:List UInt8) (ip:Int) (sd:Int) (bs:Nat) (ac:yOA) (cc:Nat) (Fc:yLN) (nn:Int) (H:St W0 w ((.box bs [.slice ac code.length cc,.int .i64 ip,.int .u64 sd] 127) :: ps) ((sF false Fc ac cc code) :: Γ)) (N:Fresh W0.heap.size (Ns)) (K0:Kept Ns Γ) (q0:0≤ip∧ip≤90000):Calls Tryz.prog 66 #[.pointer (some ⟨bs,0,none⟩),.int .i64 nn] w (fun e w' =>∃ v,e=.returned v∧∃ (ip_:Int) (sd_:Int) (v_:Bool),(ip≤ip_∧ip_≤ip+2)∧v=.bool v_∧Fresh W0.heap.size (Ns)∧St W0 w' ((.box bs [.slice ac code.length cc,.int .i64 ip_,.int .u64 sd_] 127) :: ps) ((sF false Fc ac cc code) :: Γ)):=by
 refine en Tryz.func66 Tryz.ntmps66 ?_
 have ncode:=qQ (H.get 0 rfl).1
 refine zcr (sp (.bool false) (zjc (sps [.pointer (some ⟨bs,0,none⟩),.int .i64 nn] ?_)))
 have H1:St W0 w ((.box bs [.slice ac code.length cc,.int .i64 ip,.int .u64 sd] 127) :: ps) ((sF false Fc ac cc code) :: Γ):=H.xE 1 1 [0] [0] qo qo
 have N1:Fresh _ (Ns):=N
 have K1:Kept (Ns) (Γ):=K0.behind 0 rfl
 refine sw (xI #[.pointer (some ⟨bs,0,none⟩),.int .i64 nn] rfl rfl Tryz.call68 (jK code ip sd bs ac cc Fc nn H1 N1 K1 qg) ?_)
 clear H H1 N1 K1
 rintro _ w1 ⟨zi5,zi6,zi7,hx3,hx4,rfl,N,H⟩
 refine sps [.bool ((zi7:Int) == 0),.bool ((zi7:Int) == 0)] (zjr (ret1 (.bool ((zi7:Int) == 0)) rfl rfl ⟨_,rfl,(⟨zi5,zi6,(zi7:Int) == 0,qf,rfl,N,H.xE 1 1 [0] [0] qo qo⟩)⟩))

theorem dFew_ok {W0 w:World} {ps:List Prv} {Γ:List Fact} {Ns:List yLN} (code:List UInt8) (ip:Int) (sd:Int) (bs:Nat) (ac:yOA) (cc:Nat) (Fc:yLN) (kk:Int) (most:Int) (H:St W0 w ((.box bs [.slice ac code.length cc,.int .i64 ip,.int .u64 sd] 127) :: ps) ((sF false Fc ac cc code) :: Γ)) (N:Fresh W0.heap.size (Ns)) (K0:Kept Ns Γ) (q0:0≤ip∧ip≤80000) (q1:1≤kk∧kk≤8) (q2:1≤most∧most≤6):Calls Tryz.prog 145 #[.pointer (some ⟨bs,0,none⟩),.int .i64 kk,.int .i64 most] w (fun e w' =>∃ v,e=.returned v∧∃ (ip_:Int) (sd_:Int) (out_:yLI) (rao:yOA) (rno:Nat) (rco:Nat),(ip≤ip_∧ip_≤ip+20)∧(zX kk most out_)∧v=.slice rao rno rco∧Fresh W0.heap.size (Ns)∧St W0 w' ((.box bs [.slice ac code.length cc,.int .i64 ip_,.int .u64 sd_] 127) :: (rr rao rno rco 2 1 (out_.map (Value.int .i64))) :: ps) ((sF false Fc ac cc code) :: Γ)):=by
 refine en Tryz.func145 Tryz.ntmps145 ?_
 have ncode:=qQ (H.get 0 rfl).1
 refine zcr (sp (.slice none 0 0) (zjc (sp (.int .i64 kk) (sw (zh H Tryz.underlying24 ti2 kk.toNat rfl rfl qf qf qf fun b1 w2 H=>sp (.slice (some ⟨b1,0,none⟩) kk.toNat kk.toNat) (zjcc (sps [.pointer (some ⟨bs,0,none⟩),.int .i64 most] (sw (vg most 1 rfl rfl qf ?_)))))))))
 have H1:St W0 w2 ((.box bs [.slice ac code.length cc,.int .i64 ip,.int .u64 sd] 127) :: (rr (some ⟨b1,0,none⟩) kk.toNat kk.toNat 2 1 ((List.replicate kk.toNat (0:Int)).map (Value.int .i64))) :: ps) ((sF false Fc ac cc code) :: Γ):=H.xE 2 1 [1,0] [0] qo qo
 have N1:Fresh _ (Ns):=N
 have K1:Kept (Ns) (Γ):=K0.behind 0 rfl
 refine sw (xI #[.pointer (some ⟨bs,0,none⟩),.int .i64 (most+1)] rfl rfl Tryz.call68 (jK code ip sd bs ac cc Fc (most+1) H1 N1 K1 qg) ?_)
 clear H H1 N1 K1
 rintro _ w3 ⟨zi7,zi8,zi9,hx5,hx6,rfl,N,H⟩
 refine sp (.int .i64 zi9) (zjn (xq ?_))
 refine vJ (fun m' ρ w10=>∃ (zx:Env) (k:Int) (s_at:Int) (s_seed:Int) (out:yLI),ρ=upd (upd (upd (upd zx 0 (.pointer (some ⟨bs,0,none⟩))) 1 (.int .i64 kk)) 7 (.slice (some ⟨b1,0,none⟩) kk.toNat kk.toNat)) 8 (.int .i64 k)∧(0≤k∧k≤most)∧(ip≤s_at∧s_at+2 * k≤ip+20)∧(zX kk (most - k) out)∧m' =k.toNat∧Fresh W0.heap.size (Ns)∧St W0 w10 ((.box bs [.slice ac code.length cc,.int .i64 s_at,.int .u64 s_seed] 127) :: (rr (some ⟨b1,0,none⟩) kk.toNat kk.toNat 2 1 (out.map (Value.int .i64))) :: ps) ((sF false Fc ac cc code) :: Γ)) (zi9.toNat) ⟨_,zi9,zi7,zi8,(List.replicate kk.toNat (0:Int)),uE4,qf,qf,(by exact zX.zero qf qf),rfl,N,H⟩ ?_
 clear H N
 rintro m' ρ w11 ⟨zx,k,s_at,s_seed,out,rfl,i1,i2,i3,rfl,N,H⟩
 have hn_out:=H.zO 1 rfl
 have i4:=i3.len qf
 refine zcc (sps [.int .i64 k,.bool (decide ((k:Int) > 0))] (zjn (cD rfl (fun h12=>?_) (fun h12=>?_))))
 ·skip
  refine xw (t_n (zn (xq (zl (sps [.slice (some ⟨b1,0,none⟩) kk.toNat kk.toNat,.pointer (some ⟨bs,0,none⟩),.int .i64 kk] ?_)))))
  have H1:St W0 w11 ((.box bs [.slice ac code.length cc,.int .i64 s_at,.int .u64 s_seed] 127) :: (rr (some ⟨b1,0,none⟩) kk.toNat kk.toNat 2 1 (out.map (Value.int .i64))) :: ps) ((sF false Fc ac cc code) :: Γ):=H.xE 2 1 [0,1] [0] qo qo
  have N1:Fresh _ (Ns):=N
  have K1:Kept (Ns) (Γ):=K0.behind 0 rfl
  refine sw (xI #[.pointer (some ⟨bs,0,none⟩),.int .i64 kk] rfl rfl Tryz.call68 (jK code s_at s_seed bs ac cc Fc kk H1 N1 K1 qg) ?_)
  clear H H1 N1 K1
  rintro _ w13 ⟨zi17,zi18,zi19,hx15,hx16,rfl,N,H⟩
  have i5:=i3.2 zi19.toNat qf
  refine oI rfl rfl (oL rfl (H.rowInt 1 rfl (iv:=zi19) (i:=zi19.toNat) qf qf) (sw (vg (out[zi19.toNat]!) 1 rfl rfl qf (oI rfl rfl (sw (o_storeInt H 1 rfl ((out[zi19.toNat]!)+1) Tryz.sizeOf2 rfl rfl (i:=zi19.toNat) qf qf fun w20 H=>?_))))))
  try dsimp only [List.set] at H
  refine zo (b_n (t_n (zl (sp (.int .i64 k) (sw (o_sub k 1 rfl rfl qf (sp (.int .i64 (k - 1)) (zo (xn (m' :=(k - 1).toNat) qf ⟨_,k - 1,zi17,zi18,(out.set zi19.toNat ((out[zi19.toNat]!)+1)),uE4,?_,?_,?_,rfl,N,H⟩)))))))))
  · omega
  · omega
  · exact i3.up qf qf
 ·skip
  refine zx4 (zcr (sps [.slice (some ⟨b1,0,none⟩) kk.toNat kk.toNat,.slice (some ⟨b1,0,none⟩) kk.toNat kk.toNat] (zjr (ret1 (.slice (some ⟨b1,0,none⟩) kk.toNat kk.toNat) rfl rfl ⟨_,rfl,(⟨s_at,s_seed,out,(some ⟨b1,0,none⟩),kk.toNat,kk.toNat,qf,(by rw [show most=most - k by omega];exact i3),rfl,N,H.xE 2 1 [0,1] [0] qo qo⟩)⟩))))

theorem zC {W0 w:World} {ps:List Prv} {Γ:List Fact} {Ns:List yLN} (code:List UInt8) (ip:Int) (sd:Int) (bs:Nat) (ac:yOA) (cc:Nat) (Fc:yLN) (kk:Int) (most:Int) (H:St W0 w ((.box bs [.slice ac code.length cc,.int .i64 ip,.int .u64 sd] 127) :: ps) ((sF false Fc ac cc code) :: Γ)) (N:Fresh W0.heap.size (Ns)) (K0:Kept Ns Γ) (q0:0≤ip∧ip≤70000) (q1:1≤kk∧kk≤8) (q2:1≤most∧most≤6):Calls Tryz.prog 188 #[.pointer (some ⟨bs,0,none⟩),.int .i64 kk,.int .i64 most] w (fun e w' =>∃ v,e=.returned v∧∃ (ip_:Int) (sd_:Int) (out_:yLI) (rao:yOA) (rno:Nat) (rco:Nat),(ip≤ip_∧ip_≤ip+24)∧(zX kk most out_∧sumL out_≠0)∧v=.slice rao rno rco∧Fresh W0.heap.size (Ns)∧St W0 w' ((.box bs [.slice ac code.length cc,.int .i64 ip_,.int .u64 sd_] 127) :: (rr rao rno rco 2 1 (out_.map (Value.int .i64))) :: ps) ((sF false Fc ac cc code) :: Γ)):=by
 refine en Tryz.func188 Tryz.ntmps188 ?_
 have ncode:=qQ (H.get 0 rfl).1
 refine zcr (sp (.slice none 0 0) (zjc (sps [.pointer (some ⟨bs,0,none⟩),.int .i64 kk,.int .i64 most] ?_)))
 have H1:St W0 w ((.box bs [.slice ac code.length cc,.int .i64 ip,.int .u64 sd] 127) :: ps) ((sF false Fc ac cc code) :: Γ):=H.xE 1 1 [0] [0] qo qo
 have N1:Fresh _ (Ns):=N
 have K1:Kept (Ns) (Γ):=K0.behind 0 rfl
 refine sw (xI #[.pointer (some ⟨bs,0,none⟩),.int .i64 kk,.int .i64 most] rfl rfl Tryz.call145 (dFew_ok code ip sd bs ac cc Fc kk most H1 N1 K1 qg qg qg) ?_)
 clear H H1 N1 K1
 rintro _ w1 ⟨zi5,zi6,zl7,ra8,rn9,rc10,hx3,hx4,rfl,N,H⟩
 obtain rfl:=H.zO 1 rfl
 have j1:=(‹zX kk most _›:zX kk most zl7)
 have j2:=j1.small q1 qf
 have j3:=j1.len qf
 refine sp (.slice ra8 zl7.length rc10) (zjcc (sp (.slice ra8 zl7.length rc10) ?_))
 obtain ⟨G11,hn12,h13⟩:=H.yZ 1 rfl
 refine sw (oq (l01Size_ok _ zl7 h13 (by first | assumption | exact jf ql | exact QF ql)) H fun w14 H=>sp (.bool ((sumL zl7:Int) == 0)) (zjn (cE rfl (fun h16=>?_) (fun h16=>?_))))
 ·skip
  refine zl (sps [.slice ra8 zl7.length rc10,.pointer (some ⟨bs,0,none⟩),.int .i64 kk] ?_)
  have H1:St W0 w14 ((.box bs [.slice ac code.length cc,.int .i64 zi5,.int .u64 zi6] 127) :: (rr ra8 zl7.length rc10 2 1 (zl7.map (Value.int .i64))) :: ps) ((sF false Fc ac cc code) :: Γ):=H.xE 2 1 [0,1] [0] qo qo
  have N1:Fresh _ (Ns):=N
  have K1:Kept (Ns) (Γ):=K0.behind 0 rfl
  refine sw (xI #[.pointer (some ⟨bs,0,none⟩),.int .i64 kk] rfl rfl Tryz.call68 (jK code zi5 zi6 bs ac cc Fc kk H1 N1 K1 qg) ?_)
  clear H H1 N1 K1
  rintro _ w17 ⟨zi21,zi22,zi23,hx19,hx20,rfl,N,H⟩
  obtain ⟨b24,rfl⟩:=H.QQ 1 rfl qf
  refine oI rfl rfl (sw (o_storeInt H 1 rfl 1 Tryz.sizeOf2 rfl rfl (i:=zi23.toNat) qf qf fun w25 H=>?_))
  try dsimp only [List.set] at H
  refine zjc (sps [.slice (some ⟨b24,0,none⟩) zl7.length rc10,.slice (some ⟨b24,0,none⟩) zl7.length rc10] (zjr (ret1 (.slice (some ⟨b24,0,none⟩) zl7.length rc10) rfl rfl ⟨_,rfl,(⟨zi21,zi22,(zl7.set zi23.toNat 1),(some ⟨b24,0,none⟩),zl7.length,rc10,qf,(by first | exact ⟨j1,by assumption⟩ | exact ⟨j1.put qf,j1.one q1 qf ‹_› qf⟩),rfl,N,H.xE 2 1 [0,1] [0] qo qo⟩)⟩)))
 ·skip
  refine xw (t_n (zcr (sps [.slice ra8 zl7.length rc10,.slice ra8 zl7.length rc10] (zjr (ret1 (.slice ra8 zl7.length rc10) rfl rfl ⟨_,rfl,(⟨zi5,zi6,zl7,ra8,zl7.length,rc10,qf,(by first | exact ⟨j1,by assumption⟩ | exact ⟨j1.put qf,j1.one q1 qf ‹_› qf⟩),rfl,N,H.xE 2 1 [0,1] [0] qo qo⟩)⟩)))))
end
end Go.Proofs.YtcpnclokildllaaGreat
