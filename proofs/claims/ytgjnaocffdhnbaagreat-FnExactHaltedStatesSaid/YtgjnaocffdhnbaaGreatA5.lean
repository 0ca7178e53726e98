/- Walks and laws, printed by program and by hand: what each function comes to, for all arguments, part 5. -/
import Derived.Test.YtgjnaocffdhnbaaGreatA4
namespace Go.Proofs.YtgjnaocffdhnbaaGreat
set_option linter.unusedVariables false
set_option linter.unusedSimpArgs false
open Go.Proofs.YtgjnaocffdhnbaaGreat.Tot (tot)
open Go.Proofs.YtgjnaocffdhnbaaGreat.Mark (cnt mrk mkd mkd_mark cnt_mark)
section
open Go.Proofs.Tryz
open Go.RowKit
set_option linter.unusedVariables false
set_option linter.unusedSimpArgs false
set_option maxRecDepth 100000
set_option maxHeartbeats 4000000
variable {qB qJ qP xh qL cx ca cb caAlive caBags Ve cbAlive cbBags Vd bs os bt ot ccs : Nat}
theorem around_ok (w:World) (s:qI) {qC:yOA} {qY:yLN} {qN:yOA} {xF:yLN} (xf:qO.rep w qY [.slice qC s.qw.length qB] s.qw) (xI:qO.rep w xF [.slice qN s.qx.length qJ] s.qx):Calls Tryz.prog 154 #[.agg #[yI s.xA,.slice qC s.qw.length qB,.slice qN s.qx.length qJ]] w (Ret (fun v w' =>v=yI s.qw.length) w):=by
 refine en func154 ntmps154 ?_
 have H:=((St.start w).arg xI).arg xf
 have vk:=qK xf
 have jl:=qK xI
 clear xf xI
 have N:=Fresh.nil w.heap.size
 refine zcr (sw (vG H (yS s qC qB qN qJ) fun b1 w2 H=>sp (yI 0) (zjc (oF rfl (oL rfl (H.cell 0 rfl rfl) (oN rfl (sp (yI s.qw.length) (zjr (ret1 (yI s.qw.length) rfl rfl ⟨_,rfl,?_,H.base⟩)))))))))
 rfl

theorem step_ok (w:World) (s:qI) (t:qH) (counts:yLI) {qC:yOA} {qY:yLN} {qN:yOA} {xF:yLN} {qU:yOA} {xN:yLN} {xm:yOA} {zq:yLN} {qM:yOA} {xE:yLN} {acounts:yOA} {ccounts:Nat} {Fcounts:yLN} (xf:qO.rep w qY [.slice qC s.qw.length qB] s.qw) (xI:qO.rep w xF [.slice qN s.qx.length qJ] s.qx) (zg:qO.rep w xN [.slice qU t.qy.length qP] t.qy) (zI:qO.rep w zq [.slice xm t.qE.length xh] t.qE) (xK:qO.rep w xE [.slice qM t.qA.length qL] t.qA) (hcounts:qO.rep w Fcounts [.slice acounts counts.length ccounts] counts) (p0:yj s) (p1:zH s t) (p2:CntOk s counts) (p3:IsCh s t counts):Calls Tryz.prog 125 #[.agg #[yI s.xA,.slice qC s.qw.length qB,.slice qN s.qx.length qJ],.agg #[.slice qU t.qy.length qP,.slice xm t.qE.length xh,.slice qM t.qA.length qL],.slice acounts counts.length ccounts] w (Ret (fun v w' =>∃ (ra0Alive:yOA) (rn0Alive:Nat) (rc0Alive:Nat) (ra0Bags:yOA) (rn0Bags:Nat) (rc0Bags:Nat) (rx0Bags:List Value) (rF0Bags:yLN) (ra0Around:yOA) (rn0Around:Nat) (rc0Around:Nat),v=.tuple #[.agg #[.slice ra0Alive rn0Alive rc0Alive,.slice ra0Bags rn0Bags rc0Bags,.slice ra0Around rn0Around rc0Around],yI ((zA s t counts).2)]∧Fresh w.heap.size [rF0Bags]∧St w w' [rr ra0Alive rn0Alive rc0Alive 4 1 ((((zA s t counts).1).qy).map (Value.bool)),rr ra0Bags rn0Bags rc0Bags 22 1 rx0Bags,rr ra0Around rn0Around rc0Around 2 1 ((((zA s t counts).1).qA).map (Value.int .i64))] [zh true rF0Bags rx0Bags (((zA s t counts).1).qE)]) w):=by
 refine en func125 ntmps125 ?_
 have H:=((((((St.start w).arg hcounts).arg xK).arg zI).arg zg).arg xI).arg xf
 have vk:=qK xf
 have jl:=qK xI
 have Qh:=qK zg
 have QW:=qK zI
 have jL:=qK xK
 have nhcounts:=qK hcounts
 clear xf xI zg zI xK hcounts
 have N:=Fresh.nil w.heap.size
 have p5:=p0.2.1
 have p6:=p2.1
 have p7:=p1.2.1
 have p8:=kinds_le p0
 have p9:=p0.1.2.1
 have p11:jg s=s.qw.length:=rfl
 have p12:=p1.1
 have p15:=p0.1
 have p16:=p0.1.1
 have p17:=p1.around.1
 refine zcr (sw (vG H (yS s qC qB qN qJ) fun b1 w2 H=>sw (vG H (yT t qU qP xm xh qM qL) fun b3 w4 H=>sw (xX H ti38 [yN,yN,yN] fun b5 w6 H=>sp (yI 0) (zjn (xO ?_))))))
 refine c_cut (fun ρ w11=>∃ (xP:Env) (a7:yOA) (c8:Nat) (rx9:List Value) (rF10:yLN),ρ=upd (upd (upd (upd (upd xP 2 (.slice acounts counts.length ccounts)) 3 (pp b1 0)) 4 (pp b3 0)) 6 (pp b5 0)) 8 (.slice a7 (t.qE.length+1) c8)∧Fresh w.heap.size []∧St w w11 [rr a7 (t.qE.length+1) c8 22 1 (rx9++[.slice qM t.qA.length qL]),.box b5 [yN,yN,yN] 38,.box b3 (yT t qU qP xm xh qM qL) 38,.box b1 (yS s qC qB qN qJ) 36] [zh false (rF10++xE) (rx9++[.slice qM t.qA.length qL]) (t.qE++[t.qA]),sF false qY qC qB s.qw,sF false xF qN qJ s.qx,sF false xN qU qP t.qy,sF false zq xm xh t.qE,sF false xE qM qL t.qA,sF false Fcounts acounts ccounts counts]) ?_ ?_
 ·skip
  refine jd rfl H fun H=>tF 0 rfl rfl H ?_
  refine tL 1 rfl rfl (fun _ h=>h.cell 1 rfl rfl) H ?_
  refine tF 3 rfl rfl H ?_
  refine tL 4 rfl rfl (fun _ h=>h.cell 1 rfl rfl) H ?_
  refine jo [2,5] qh qm (Qj rfl ?_ (Qj rfl ?_ jq))
  ·skip
   have sz16:=H.base.size
   refine oc (cloneSS_ok _ t.qE (H.get 3 rfl).1 qg) ?_
   rintro _ w14 ⟨ra13,rn13,rc13,rx13,rF13,rfl,hG18,K⟩ _
   replace H:=H.mergeIn K 3 rfl hG18
   obtain rfl:=H.zl (α:=yLI) 0 rfl 0 rfl qj
   refine ⟨H.pick [1,2,3] [1,2,3,4,5,6],(ro 5 rfl (zG H underlying27 ti22 [.slice qM t.qA.length qL] fun b19 w20 H=>⟨H.pick [2,3,4] [1,2,3,4,5,6],(ro 6 rfl (zN H 1 rfl 0 rfl underlying27 ti22 rfl qj rfl rfl rfl (by simp [Value.oneCell',Value.cells]) qp qf fun a21 c22 w23 H=>?_))⟩))⟩
   replace H:=H.yB 0 rfl 5 rfl
   refine ⟨H.pick [2,3,4] [2,3,4,5,6,7],(rtp 7 (.slice a21 (t.qE.length+1) c22) (H.pick [2,3,4] [2,3,4,5,6,7]) ?_)⟩
   refine xM qh ((meet ⟨_,a21,c22,rx13,rF13,uE5,N,H.pick [1,2,3,4] [0,2,3,4,5,6,7]⟩))
  refine zG H underlying27 ti22 [.slice qM t.qA.length qL] fun b24 w25 H=>⟨H.pick [1,2,3] [0,1,2,3,4,5],(ro 2 rfl ?_)⟩
  have sz29:=H.base.size
  refine oc (cloneSS_ok _ t.qE (H.get 3 rfl).1 qg) ?_
  rintro _ w27 ⟨ra26,rn26,rc26,rx26,rF26,rfl,hG31,K⟩ _
  replace H:=H.mergeIn K 3 rfl hG31
  obtain rfl:=H.zl (α:=yLI) 0 rfl 0 rfl qj
  refine ⟨H.pick [2,3,4] [1,2,3,4,5,6],(ro 6 rfl (zN H 0 rfl 1 rfl underlying27 ti22 rfl qj rfl rfl rfl (by simp [Value.oneCell',Value.cells]) qp qf fun a32 c33 w34 H=>?_))⟩
  replace H:=H.yB 0 rfl 5 rfl
  refine ⟨H.pick [2,3,4] [2,3,4,5,6,7],(rtp 7 (.slice a32 (t.qE.length+1) c33) (H.pick [2,3,4] [2,3,4,5,6,7]) ?_)⟩
  refine xM qh ((meet ⟨_,a32,c33,rx26,rF26,uE5,N,H.pick [0,2,3,4] [0,2,3,4,5,6,7]⟩))
 clear H N
 rintro ρ w35 ⟨xP,a7,c8,rx9,rF10,rfl,N,H⟩
 refine t_n (zcr (oF rfl (oL rfl (H.cell 3 rfl rfl) (oN rfl (sw (o_makeB H underlying26 ti4 s.qw.length rfl rfl qf qf qf fun b36 w37 H=>sp (.slice (aa b36 0) s.qw.length s.qw.length) (zjcc (sp (.slice acounts counts.length ccounts) (oN rfl (sp (yI 0) (zjn (qW ?_))))))))))))
 refine zo (fun m' ρ w38=>∃ (xP:Env) (i:Nat) (melts:List Bool) (bags:yLL) (x_bags:List Value) (F_bags:yLN),ρ=upd (upd (upd (upd (upd (upd (upd (upd xP 3 (pp b1 0)) 4 (pp b3 0)) 6 (pp b5 0)) 8 (.slice a7 (t.qE.length+1) c8)) 9 (.slice (aa b36 0) s.qw.length s.qw.length)) 26 (.slice acounts counts.length ccounts)) 27 (yI counts.length)) 28 (yI i)∧melts=yE s counts s.qw.length i∧((i:Int)≤counts.length)∧(Ent (s.qw.length+1) (QL s) (fun p q=>base0 s t p q+allS s t counts i p q) (20000000+6000000 * i) bags)∧(bags.length=s.qw.length+1)∧m' =(counts.length - (i:Int)).toNat∧Fresh w.heap.size []∧St w w38 [rr (aa b36 0) s.qw.length s.qw.length 4 1 (melts.map (Value.bool)),rr a7 (t.qE.length+1) c8 22 1 x_bags,.box b5 [yN,yN,yN] 38,.box b3 (yT t qU qP xm xh qM qL) 38,.box b1 (yS s qC qB qN qJ) 36] [zh false F_bags x_bags bags,sF false qY qC qB s.qw,sF false xF qN qJ s.qx,sF false xN qU qP t.qy,sF false zq xm xh t.qE,sF false xE qM qL t.qA,sF false Fcounts acounts ccounts counts]) ((counts.length - (0:Int)).toNat) ⟨_,0,(List.replicate s.qw.length (false)),(t.qE++[t.qA]),rx9++[.slice qM t.qA.length qL],(rF10++xE),uE8,(by exact meltsL_zero s counts _),qf,(by exact (start_ent p1).to (fun _ _=>rfl) qf),(by simp;omega),rfl,N,H⟩ ?_
 clear H N
 rintro m' ρ w39 ⟨xP,i,melts,bags,x_bags,F_bags,rfl,rfl,i0,E_bags,z_bags,rfl,N,H⟩
 have hn_melts:=H.rowNB 0 rfl
 have hn_bags:=H.zl (α:=yLI) 1 rfl 0 rfl qj
 refine zcr (sp (.bool (decide ((i:Int) < counts.length))) (zjn (xO (cD rfl (fun h40=>?_) (fun h40=>?_)))))
 ·skip
  have q:=p0.rule (i:=i) qf
  have qc:=q.1
  have qk:=q.cell
  have qr:=q.2.1
  have bn1:=q.2.2.2.2.1
  have bn2:=q.2.2.2.2.2.2.2.1
  have bn3:=q.2.2.2.2.2.2.2.2.1
  have ln1:=bn1.len
  have ln2:=bn2.len
  have ln3:=bn3.len
  have p10:=p2.bd (i:=i) qf
  have qn:=q.2.2.2.1
  have ml:=meltsL_len s counts s.qw.length i
  refine qV (t_n (xO (qW (zcr (sp (yI i) ?_)))))
  obtain ⟨b41,o42,rfl⟩:=H.addr 6 rfl qf
  refine oI rfl rfl (oL rfl (H.jI 6 rfl i qf qf) (sps [yI i,yI (counts[i]!)] (zjc (oF rfl (oL rfl (H.cell 4 rfl rfl) (sp (yI i) ?_))))))
  obtain ⟨b44,o45,rfl⟩:=H.addr 2 rfl qf
  obtain ⟨VL,VF,Fe47Need,VN,VH,Fe47Have,VM,VG,Fe47Lack,XX,XV,Fe47Here,Vw,Vt,Fe47Out,XW,XU,Fe47Into,H⟩:=H.yl 2 rfl i i qf qf qf
  refine oI rfl rfl (sw (xY [yI ((s.qx[i]!).qG),yI ((s.qx[i]!).zJ),.slice VL (((s.qx[i]!).xk).length) VF,.slice VN (((s.qx[i]!).xB).length) VH,.slice VM (((s.qx[i]!).xG).length) VG,.slice XX (((s.qx[i]!).xJ).length) XV,.slice Vw (((s.qx[i]!).zT).length) Vt,.slice XW (((s.qx[i]!).qR).length) XU,.bool ((s.qx[i]!).zy)] isAgg121 sizeOf121 rfl (qF (H.get 6 rfl) 0 9) ?_))
  refine sw (xX H ti121 [yI 0,yI 0,yN,yN,yN,yN,yN,yN,.bool false] fun b48 w49 H=>sw (zt H 0 [yI ((s.qx[i]!).qG),yI ((s.qx[i]!).zJ),.slice VL (((s.qx[i]!).xk).length) VF,.slice VN (((s.qx[i]!).xB).length) VH,.slice VM (((s.qx[i]!).xG).length) VG,.slice XX (((s.qx[i]!).xJ).length) XV,.slice Vw (((s.qx[i]!).zT).length) Vt,.slice XW (((s.qx[i]!).qR).length) XU,.bool ((s.qx[i]!).zy)] sizeOf121 fun w50 H=>?_))
  refine zjn (xO ?_)
  refine Qu rfl H [0,1,3,4,5] fun H=>?_
  have S:=H.yD [0,1,3,4,5] [0,1,2,3,4,5,6,7,8,9,10,11,12,13]
  refine rtp 0 (.slice a7 (t.qE.length+1) c8) S ?_
  refine tF 1 rfl rfl S ?_
  refine tL 2 rfl rfl (fun _ h=>h.cell 0 rfl rfl) S ?_
  refine rtp 3 (.slice a7 (t.qE.length+1) c8) S ?_
  refine tF 4 rfl rfl S ?_
  refine tL 5 rfl rfl (fun _ h=>h.cell 0 rfl rfl) S ?_
  obtain ⟨b52,rfl⟩:=H.Qz 2 rfl qf
  have S:=H.yD [0,1,3,4,5] [0,1,2,3,4,5,6,7,8,9,10,11,12,13]
  refine tI 6 rfl rfl rfl S ?_
  refine tF 8 rfl rfl S ?_
  refine tL 9 rfl rfl (fun _ h=>h.cell 0 rfl rfl) S ?_
  refine rtp 10 (yI (counts[i]!)) S ?_
  refine rt 11 (yI (-(counts[i]!))) (y_neg (counts[i]!) rfl qf) S ?_
  refine ro 7 rfl ?_
  obtain ⟨a53,c54,G55,s56,h57,H⟩:=H.jW 2 rfl 7 rfl (iv:=(s.qx[i]!).qG) (((s.qx[i]!).qG).toNat) qf qf
  refine zK (.slice a53 ((bags[((s.qx[i]!).qG).toNat]!).length) c54) isAgg22 rfl (h57) (⟨H.pick [0,1,3,4,5] [1,2,3,4,5,6,7,8,9,10,11,12,13,14],(ro 12 rfl ?_)⟩)
  obtain ⟨u1,u2⟩:=E_bags.sh.row (c:=((s.qx[i]!).qG).toNat) qf p8 qf
  have u4:=(by first | exact bn1.yY qf | exact bn2.yY qf | exact bn3.yY qf | exact bn4.yY qf:SmallT ((s.qx[i]!).xk) (-(counts[i]!)))
  have sz58:=H.base.size
  refine oc (plus_ok _ (bags[((s.qx[i]!).qG).toNat]!) ((s.qx[i]!).xk) (-(counts[i]!)) (H.get 0 rfl).1 (H.get 1 rfl).1 qg qg qg) ?_
  rintro v63 w61 r63 x62
  replace H:=H.zB x62 r63
  obtain ⟨a64,c65,rfl,hc66,hm67⟩:=H.jm 0 rfl
  refine ⟨H.pick [1,2,4,5,6] [1,2,3,4,5,6,7,8,9,10,11,12,13,14],(tI 13 rfl rfl rfl (H.pick [1,2,4,5,6] [1,2,3,4,5,6,7,8,9,10,11,12,13,14]) ?_)⟩
  refine ro 14 rfl ?_
  obtain ⟨G69,N,hn70,H⟩:=H.vW 0 rfl N (H.jQ [])
  refine jH false H 3 rfl 9 rfl (.slice a64 ((jb (bags[((s.qx[i]!).qG).toNat]!) ((s.qx[i]!).xk) (-(counts[i]!))).length) c65) 0 rfl rfl sizeOf22 rfl rfl (i:=(((s.qx[i]!).qG).toNat)) qf qf qm fun w68 xs71 F72 hs73 H=>⟨H.pick [1,2,4,5,6] [3,4,5,6,7,8,9,10,11,12,13,14,15,16],(xM qh (t_n (zcr (sw (xY [yI s.xA,.slice qC s.qw.length qB,.slice (aa b44 o45) s.qx.length qJ] isAgg36 sizeOf36 rfl (qF (H.cells 6 rfl) 0 3) ?_)))))⟩
  refine sw (xY (yT t qU qP xm xh qM qL) isAgg38 sizeOf38 rfl (qF (H.cells 5 rfl) 0 3) (sp (.slice (aa b52 0) (t.qE.length+1) c8) ?_))
  refine sw (xY [yI ((s.qx[i]!).qG),yI ((s.qx[i]!).zJ),.slice VL (((s.qx[i]!).xk).length) VF,.slice VN (((s.qx[i]!).xB).length) VH,.slice VM (((s.qx[i]!).xG).length) VG,.slice XX (((s.qx[i]!).xJ).length) XV,.slice Vw (((s.qx[i]!).zT).length) Vt,.slice XW (((s.qx[i]!).qR).length) XU,.bool ((s.qx[i]!).zy)] isAgg121 sizeOf121 rfl (qF (H.cells 1 rfl) 0 9) (sp (yI (counts[i]!)) ?_))
  obtain ⟨bg74,e_bg74⟩:∃ z,z=(bags.set (((s.qx[i]!).qG).toNat) (jb (bags[((s.qx[i]!).qG).toNat]!) ((s.qx[i]!).xk) (-(counts[i]!)))):=⟨_,rfl⟩
  rw [← e_bg74] at H
  have E_bg74:=Ent.add (D:=1000000) E_bags e_bg74 qf (by first | exact bn1.mul qf | exact bn2.mul qf | exact bn3.mul qf | exact bn4.mul qf) qf
  have z_bg74:=E_bg74.sh.1
  have E_cur:=E_bg74
  refine sw (vC #[.agg #[yI s.xA,.slice qC s.qw.length qB,.slice (aa b44 o45) s.qx.length qJ],.agg #[.slice qU t.qy.length qP,.slice xm t.qE.length xh,.slice qM t.qA.length qL],.slice (aa b52 0) (t.qE.length+1) c8,.agg #[yI ((s.qx[i]!).qG),yI ((s.qx[i]!).zJ),.slice VL (((s.qx[i]!).xk).length) VF,.slice VN (((s.qx[i]!).xB).length) VH,.slice VM (((s.qx[i]!).xG).length) VG,.slice XX (((s.qx[i]!).xJ).length) XV,.slice Vw (((s.qx[i]!).zT).length) Vt,.slice XW (((s.qx[i]!).qR).length) XU,.bool ((s.qx[i]!).zy)],yI (counts[i]!)] rfl rfl call153 ?_)
  refine en func153 ntmps153 ?_
  refine zcr (sw (vG H [yI s.xA,.slice qC s.qw.length qB,.slice (aa b44 o45) s.qx.length qJ] fun b75 w76 H=>sw (vG H (yT t qU qP xm xh qM qL) fun b77 w78 H=>sw (vG H [.slice (aa b52 0) (t.qE.length+1) c8] fun b79 w80 H=>?_))))
  refine sw (vG H [yI ((s.qx[i]!).qG),yI ((s.qx[i]!).zJ),.slice VL (((s.qx[i]!).xk).length) VF,.slice VN (((s.qx[i]!).xB).length) VH,.slice VM (((s.qx[i]!).xG).length) VG,.slice XX (((s.qx[i]!).xJ).length) XV,.slice Vw (((s.qx[i]!).zT).length) Vt,.slice XW (((s.qx[i]!).qR).length) XU,.bool ((s.qx[i]!).zy)] fun b81 w82 H=>sw (vG H [yI (counts[i]!)] fun b83 w84 H=>zjc ?_))
  refine sps [.func (.func 191) #[] #[pp b79 0,pp b83 0],.func (.func 191) #[] #[pp b79 0,pp b83 0]] (zjc (sp (.func (.func 191) #[] #[pp b79 0,pp b83 0]) (oF rfl (oL rfl (H.cell 1 rfl rfl) (oF rfl (oL rfl (H.cell 1 rfl rfl) (sw (vC #[yI ((s.qx[i]!).qG),.slice XX (((s.qx[i]!).xJ).length) XV,pp b79 0,pp b83 0] rfl rfl call191 (en func191 ntmps191 ?_)))))))))
  refine Qu rfl H [0,1,2,3,4,5,6,7,9,10,11] fun H=>?_
  have S:=H.yD [0,1,2,3,4,5,6,7,9,10,11] [0,1,2,3,4,5,6,7,8,9,10,11,12,13,14,15,16]
  refine tL 0 rfl rfl (fun _ h=>h.cell 2 rfl rfl) S ?_
  refine rtp 1 (yI ((s.qx[i]!).qG)) S ?_
  refine tL 2 rfl rfl (fun _ h=>h.cell 2 rfl rfl) S ?_
  refine rtp 3 (yI ((s.qx[i]!).qG)) S ?_
  refine tI 4 rfl rfl rfl S ?_
  refine rtp 6 (.slice XX (((s.qx[i]!).xJ).length) XV) S ?_
  refine tL 7 rfl rfl (fun _ h=>h.cell 0 rfl rfl) S ?_
  refine ro 5 rfl ?_
  obtain ⟨a86,c87,G88,s89,h90,H⟩:=H.jW 8 rfl 0 rfl (iv:=(s.qx[i]!).qG) (((s.qx[i]!).qG).toNat) qf qf
  refine zK (.slice a86 ((bg74[((s.qx[i]!).qG).toNat]!).length) c87) isAgg22 rfl (h90) (⟨H.pick [0,1,2,3,4,5,6,7,9,10,11] [1,2,3,4,5,6,7,8,9,10,11,12,13,14,15,16,17],(ro 8 rfl ?_)⟩)
  obtain ⟨u1,u2⟩:=E_bg74.sh.row (c:=((s.qx[i]!).qG).toNat) qf p8 qf
  have u4:=(by first | exact bn1.yY qf | exact bn2.yY qf | exact bn3.yY qf | exact bn4.yY qf:SmallT ((s.qx[i]!).xJ) (counts[i]!))
  have sz91:=H.base.size
  have lt92:=H.ltN (L:=[G69]) [2]
  refine oc (plus_ok _ (bg74[((s.qx[i]!).qG).toNat]!) ((s.qx[i]!).xJ) (counts[i]!) (H.get 0 rfl).1 (H.get 7 rfl).1 qg qg qg) ?_
  rintro v96 w94 r96 x95
  replace H:=H.zB x95 r96
  obtain ⟨a97,c98,rfl,hc99,hm100⟩:=H.jm 0 rfl
  refine ⟨H.pick [1,2,3,4,5,6,7,8,10,11,12] [1,2,3,4,5,6,7,8,9,10,11,12,13,14,15,16,17],(tI 9 rfl rfl rfl (H.pick [1,2,3,4,5,6,7,8,10,11,12] [1,2,3,4,5,6,7,8,9,10,11,12,13,14,15,16,17]) ?_)⟩
  refine ro 10 rfl ?_
  obtain ⟨G102,N,hn103,H⟩:=H.vW 0 rfl N (H.jQ [2])
  refine jH false H 9 rfl 2 rfl (.slice a97 ((jb (bg74[((s.qx[i]!).qG).toNat]!) ((s.qx[i]!).xJ) (counts[i]!)).length) c98) 0 rfl rfl sizeOf22 rfl rfl (i:=(((s.qx[i]!).qG).toNat)) qf qf qm fun w101 xs104 F105 hs106 H=>⟨H.pick [1,2,3,4,5,6,7,8,10,11,12] [3,4,5,6,7,8,9,10,11,12,13,14,15,16,17,18,19],(xM qh ((ret0 rfl ⟨_,rfl,?_⟩)))⟩
  replace H:=H.erases [6,0]
  dsimp only [vX,List.eraseIdx] at H
  obtain ⟨bg107,e_bg107⟩:∃ z,z=(bg74.set (((s.qx[i]!).qG).toNat) (jb (bg74[((s.qx[i]!).qG).toNat]!) ((s.qx[i]!).xJ) (counts[i]!))):=⟨_,rfl⟩
  rw [← e_bg107] at H
  have E_bg107:=Ent.add (D:=1000000) E_bg74 e_bg107 qf (by first | exact bn1.mul qf | exact bn2.mul qf | exact bn3.mul qf | exact bn4.mul qf) qf
  have z_bg107:=E_bg107.sh.1
  have E_cur:=E_bg107
  refine zjcc (sw (xY [yI s.xA,.slice qC s.qw.length qB,.slice (aa b44 o45) s.qx.length qJ] isAgg36 sizeOf36 rfl (qF (H.cells 4 rfl) 0 3) (sw (xY (yT t qU qP xm xh qM qL) isAgg38 sizeOf38 rfl (qF (H.cells 3 rfl) 0 3) (oF rfl (oL rfl (H.cell 1 rfl rfl) ?_))))))
  have qc' :=qc
  refine sw (oq (parentNow_ok _ s t ((s.qx[i]!).qG) (H.get 14 rfl).1 (H.get 15 rfl).1 (H.get 16 rfl).1 (H.get 17 rfl).1 (H.get 18 rfl).1 qg qg qg) H fun w109 H=>?_)
  have pl:=parentNow_lt p15 p1.2.2.1 qc
  refine sp (yI (xy s t ((s.qx[i]!).qG))) (zjc (sps [yI (xy s t ((s.qx[i]!).qG)),.bool (decide ((xy s t ((s.qx[i]!).qG):Int)≥0))] (zjn (cD rfl (fun h111=>?_) (fun h111=>?_)))))
  ·skip
   have po:=outPl_in (r:=s.qx[i]!) p15 ‹_›
   refine xR (sps [.func (.func 191) #[] #[pp b79 0,pp b83 0],yI (xy s t ((s.qx[i]!).qG))] (oF rfl (oL rfl (H.cell 1 rfl rfl) (sw (vC #[yI (xy s t ((s.qx[i]!).qG)),.slice Vw (((s.qx[i]!).zT).length) Vt,pp b79 0,pp b83 0] rfl rfl call191 (en func191 ntmps191 ?_))))))
   refine Qu rfl H [0,1,2,3,4,5,6,8,9,10] fun H=>?_
   have S:=H.yD [0,1,2,3,4,5,6,8,9,10] [0,1,2,3,4,5,6,7,8,9,10,11,12,13,14,15,16,17,18,19]
   refine tL 0 rfl rfl (fun _ h=>h.cell 2 rfl rfl) S ?_
   refine rtp 1 (yI (xy s t ((s.qx[i]!).qG))) S ?_
   refine tL 2 rfl rfl (fun _ h=>h.cell 2 rfl rfl) S ?_
   refine rtp 3 (yI (xy s t ((s.qx[i]!).qG))) S ?_
   refine tI 4 rfl rfl rfl S ?_
   refine rtp 6 (.slice Vw (((s.qx[i]!).zT).length) Vt) S ?_
   refine tL 7 rfl rfl (fun _ h=>h.cell 0 rfl rfl) S ?_
   refine ro 5 rfl ?_
   obtain ⟨a113,c114,G115,s116,h117,H⟩:=H.jW 7 rfl 0 rfl (iv:=xy s t ((s.qx[i]!).qG)) ((xy s t ((s.qx[i]!).qG)).toNat) qf qf
   refine zK (.slice a113 ((bg107[(xy s t ((s.qx[i]!).qG)).toNat]!).length) c114) isAgg22 rfl (h117) (⟨H.pick [0,1,2,3,4,5,6,8,9,10] [1,2,3,4,5,6,7,8,9,10,11,12,13,14,15,16,17,18,19,20],(ro 8 rfl ?_)⟩)
   obtain ⟨u1,u2⟩:=E_bg107.sh.row (c:=(xy s t ((s.qx[i]!).qG)).toNat) qf p8 qf
   have u4:=(by first | exact bn1.yY qf | exact bn2.yY qf | exact bn3.yY qf | exact bn4.yY qf:SmallT ((s.qx[i]!).zT) (counts[i]!))
   have sz118:=H.base.size
   have lt119:=H.ltN (L:=[G102,G69]) [2,5]
   refine oc (plus_ok _ (bg107[(xy s t ((s.qx[i]!).qG)).toNat]!) ((s.qx[i]!).zT) (counts[i]!) (H.get 0 rfl).1 (H.get 11 rfl).1 qg qg qg) ?_
   rintro v123 w121 r123 x122
   replace H:=H.zB x122 r123
   obtain ⟨a124,c125,rfl,hc126,hm127⟩:=H.jm 0 rfl
   refine ⟨H.pick [1,2,3,4,5,6,7,9,10,11] [1,2,3,4,5,6,7,8,9,10,11,12,13,14,15,16,17,18,19,20],(tI 9 rfl rfl rfl (H.pick [1,2,3,4,5,6,7,9,10,11] [1,2,3,4,5,6,7,8,9,10,11,12,13,14,15,16,17,18,19,20]) ?_)⟩
   refine ro 10 rfl ?_
   obtain ⟨G129,N,hn130,H⟩:=H.vW 0 rfl N (H.jQ [2,5])
   refine jH false H 8 rfl 2 rfl (.slice a124 ((jb (bg107[(xy s t ((s.qx[i]!).qG)).toNat]!) ((s.qx[i]!).zT) (counts[i]!)).length) c125) 0 rfl rfl sizeOf22 rfl rfl (i:=((xy s t ((s.qx[i]!).qG)).toNat)) qf qf qm fun w128 xs131 F132 hs133 H=>⟨H.pick [1,2,3,4,5,6,7,9,10,11] [3,4,5,6,7,8,9,10,11,12,13,14,15,16,17,18,19,20,21,22],(xM qh ((ret0 rfl ⟨_,rfl,?_⟩)))⟩
   replace H:=H.erases [0]
   dsimp only [vX,List.eraseIdx] at H
   obtain ⟨bg134,e_bg134⟩:∃ z,z=(bg107.set ((xy s t ((s.qx[i]!).qG)).toNat) (jb (bg107[(xy s t ((s.qx[i]!).qG)).toNat]!) ((s.qx[i]!).zT) (counts[i]!))):=⟨_,rfl⟩
   rw [← e_bg134] at H
   have E_bg134:=Ent.add (D:=1000000) E_bg107 e_bg134 qf (by first | exact bn1.mul qf | exact bn2.mul qf | exact bn3.mul qf | exact bn4.mul qf) qf
   have z_bg134:=E_bg134.sh.1
   have E_cur:=E_bg134
   refine zjc (oF rfl (oL rfl (H.cell 1 rfl rfl) (oN rfl (sp (yI 0) (zjn (qW ?_))))))
   refine zo (fun m' ρ w135=>∃ (xP:Env) (k:Nat) (bags_1:yLL) (VA:List Value) (F_bags_1:yLN),ρ=upd (upd (upd (upd xP 10 (.func (.func 191) #[] #[pp b79 0,pp b83 0])) 40 (.slice XW (((s.qx[i]!).qR).length) XU)) 41 (yI (((s.qx[i]!).qR).length))) 42 (yI k)∧((k:Int)≤(((s.qx[i]!).qR).length))∧(Ent (s.qw.length+1) (QL s) (fun p q=>base0 s t p q+allS s t counts i p q+at' p (s.qx[i]!).qG.toNat (-(counts[i]!) * ((s.qx[i]!).xk)[q]!)+at' p (s.qx[i]!).qG.toNat ((counts[i]!) * ((s.qx[i]!).xJ)[q]!)+at' p (outPl s t (s.qx[i]!)) ((counts[i]!) * ((s.qx[i]!).zT)[q]!)+intoF (s.qx[i]!) (counts[i]!) k p q) (23000000+6000000 * i+1000000 * k) bags_1)∧(bags_1.length=s.qw.length+1)∧m' =((((s.qx[i]!).qR).length) - (k:Int)).toNat∧Fresh w.heap.size [G69]∧St w w135 [.box b83 [yI (counts[i]!)] 2,.box b81 [yI ((s.qx[i]!).qG),yI ((s.qx[i]!).zJ),.slice VL (((s.qx[i]!).xk).length) VF,.slice VN (((s.qx[i]!).xB).length) VH,.slice VM (((s.qx[i]!).xG).length) VG,.slice XX (((s.qx[i]!).xJ).length) XV,.slice Vw (((s.qx[i]!).zT).length) Vt,.slice XW (((s.qx[i]!).qR).length) XU,.bool ((s.qx[i]!).zy)] 121,.box b79 [.slice (aa b52 0) (t.qE.length+1) c8] 27,.box b77 (yT t qU qP xm xh qM qL) 38,.box b75 [yI s.xA,.slice qC s.qw.length qB,.slice (aa b44 o45) s.qx.length qJ] 36,.box b48 [yI ((s.qx[i]!).qG),yI ((s.qx[i]!).zJ),.slice VL (((s.qx[i]!).xk).length) VF,.slice VN (((s.qx[i]!).xB).length) VH,.slice VM (((s.qx[i]!).xG).length) VG,.slice XX (((s.qx[i]!).xJ).length) XV,.slice Vw (((s.qx[i]!).zT).length) Vt,.slice XW (((s.qx[i]!).qR).length) XU,.bool ((s.qx[i]!).zy)] 121,rr (aa b36 0) s.qw.length s.qw.length 4 1 ((yE s counts s.qw.length i).map (Value.bool)),rr (aa b52 0) (t.qE.length+1) c8 22 1 VA,.box b5 [yN,yN,yN] 38,.box b3 (yT t qU qP xm xh qM qL) 38,.box b1 [yI s.xA,.slice qC s.qw.length qB,.slice (aa b44 o45) s.qx.length qJ] 36] [zh false F_bags_1 VA bags_1,sF true G69 a64 c65 (jb (bags[((s.qx[i]!).qG).toNat]!) ((s.qx[i]!).xk) (-(counts[i]!))),sF false G55 a53 c54 (bags[((s.qx[i]!).qG).toNat]!),sF false Fe47Need VL VF ((s.qx[i]!).xk),sF false Fe47Have VN VH ((s.qx[i]!).xB),sF false Fe47Lack VM VG ((s.qx[i]!).xG),sF false Fe47Here XX XV ((s.qx[i]!).xJ),sF false Fe47Out Vw Vt ((s.qx[i]!).zT),sF false Fe47Into XW XU ((s.qx[i]!).qR),atF b44 (o45+(i:Int).toNat * 9) [yI ((s.qx[i]!).qG),yI ((s.qx[i]!).zJ),.slice VL (((s.qx[i]!).xk).length) VF,.slice VN (((s.qx[i]!).xB).length) VH,.slice VM (((s.qx[i]!).xG).length) VG,.slice XX (((s.qx[i]!).xJ).length) XV,.slice Vw (((s.qx[i]!).zT).length) Vt,.slice XW (((s.qx[i]!).qR).length) XU,.bool ((s.qx[i]!).zy)],sF false qY qC qB s.qw,sF false xF (aa b44 o45) qJ s.qx,sF false xN qU qP t.qy,sF false zq xm xh t.qE,sF false xE qM qL t.qA,sF false Fcounts (aa b41 o42) ccounts counts]) (((((s.qx[i]!).qR).length) - (0:Int)).toNat) ⟨_,0,bg134,xs131,F132,uE4,qf,(by exact E_cur.to (fun p q=>by rw [po];simp only [intoF];first | omega | (simp only [Int.toNat_natCast];omega)) qf),qf,rfl,(N.pick [2]),H.pick [0,1,2,3,4,5,6,7,8,9,10] [0,7,8,9,10,11,12,13,14,15,17,18,19,20,21,22]⟩ ?_
   clear H N
   rintro m' ρ w136 ⟨xP,k,bags_1,VA,F_bags_1,rfl,i0,E_bags_1,z_bags_1,rfl,N,H⟩
   have hn_bags:=H.zl (α:=yLI) 7 rfl 0 rfl qj
   refine zcr (sp (.bool (decide ((k:Int) < (((s.qx[i]!).qR).length)))) (zjn (xO (cD rfl (fun h137=>?_) (fun h137=>?_)))))
   ·skip
    have qi:=q.2.2.2.2.2.2.2.2.2.2 k qf
    have qi1:=qi.1
    have bn4:=qi.2.2.1
    have ln4:=bn4.len
    refine qV (t_n (xO (qW (zcr ?_))))
    obtain ⟨b138,o139,rfl⟩:=H.addr 8 rfl qf
    obtain ⟨ae141Bag,ce141Bag,Fe141Bag,H⟩:=H.jR 8 rfl k k qf qf qf
    refine oI rfl rfl (sw (xY [yI ((((s.qx[i]!).qR)[k]!).qG),.slice ae141Bag (((((s.qx[i]!).qR)[k]!).jw).length) ce141Bag] isAgg164 sizeOf164 rfl (qF (H.get 1 rfl) 0 2) (sw (xX H ti164 [yI 0,yN] fun b142 w143 H=>sw (zt H 0 [yI ((((s.qx[i]!).qR)[k]!).qG),.slice ae141Bag (((((s.qx[i]!).qR)[k]!).jw).length) ce141Bag] sizeOf164 fun w144 H=>zjn (xR (sp (.func (.func 191) #[] #[pp b79 0,pp b83 0]) (oF rfl (oL rfl (H.cell 0 rfl rfl) (oF rfl (oL rfl (H.cell 0 rfl rfl) ?_)))))))))))
    refine sw (vC #[yI ((((s.qx[i]!).qR)[k]!).qG),.slice ae141Bag (((((s.qx[i]!).qR)[k]!).jw).length) ce141Bag,pp b79 0,pp b83 0] rfl rfl call191 (en func191 ntmps191 ?_))
    refine Qu rfl H [0,1,2,3,4,5,6,7,9,10,11] fun H=>?_
    have S:=H.yD [0,1,2,3,4,5,6,7,9,10,11] [0,1,2,3,4,5,6,7,8,9,10,11,12,13,14,15,16,17]
    refine tL 0 rfl rfl (fun _ h=>h.cell 3 rfl rfl) S ?_
    refine rtp 1 (yI ((((s.qx[i]!).qR)[k]!).qG)) S ?_
    refine tL 2 rfl rfl (fun _ h=>h.cell 3 rfl rfl) S ?_
    refine rtp 3 (yI ((((s.qx[i]!).qR)[k]!).qG)) S ?_
    refine tI 4 rfl rfl rfl S ?_
    refine rtp 6 (.slice ae141Bag (((((s.qx[i]!).qR)[k]!).jw).length) ce141Bag) S ?_
    refine tL 7 rfl rfl (fun _ h=>h.cell 1 rfl rfl) S ?_
    refine ro 5 rfl ?_
    obtain ⟨a146,c147,G148,s149,h150,H⟩:=H.jW 8 rfl 2 rfl (iv:=(((s.qx[i]!).qR)[k]!).qG) (((((s.qx[i]!).qR)[k]!).qG).toNat) qf qf
    refine zK (.slice a146 ((bags_1[((((s.qx[i]!).qR)[k]!).qG).toNat]!).length) c147) isAgg22 rfl (h150) (⟨H.pick [0,1,2,3,4,5,6,7,9,10,11] [1,2,3,4,5,6,7,8,9,10,11,12,13,14,15,16,17,18],(ro 8 rfl ?_)⟩)
    obtain ⟨u1,u2⟩:=E_bags_1.sh.row (c:=((((s.qx[i]!).qR)[k]!).qG).toNat) qf p8 qf
    have u4:=(by first | exact bn1.yY qf | exact bn2.yY qf | exact bn3.yY qf | exact bn4.yY qf:SmallT ((((s.qx[i]!).qR)[k]!).jw) (counts[i]!))
    have sz151:=H.base.size
    have lt152:=H.ltN (L:=[G69]) [4]
    refine oc (plus_ok _ (bags_1[((((s.qx[i]!).qR)[k]!).qG).toNat]!) ((((s.qx[i]!).qR)[k]!).jw) (counts[i]!) (H.get 0 rfl).1 (H.get 1 rfl).1 qg qg qg) ?_
    rintro v156 w154 r156 x155
    replace H:=H.zB x155 r156
    obtain ⟨a157,c158,rfl,hc159,hm160⟩:=H.jm 0 rfl
    refine ⟨H.pick [1,2,3,4,5,6,7,8,10,11,12] [1,2,3,4,5,6,7,8,9,10,11,12,13,14,15,16,17,18],(tI 9 rfl rfl rfl (H.pick [1,2,3,4,5,6,7,8,10,11,12] [1,2,3,4,5,6,7,8,9,10,11,12,13,14,15,16,17,18]) ?_)⟩
    refine ro 10 rfl ?_
    obtain ⟨G162,N,hn163,H⟩:=H.vW 0 rfl N (H.jQ [4])
    refine jH false H 9 rfl 4 rfl (.slice a157 ((jb (bags_1[((((s.qx[i]!).qR)[k]!).qG).toNat]!) ((((s.qx[i]!).qR)[k]!).jw) (counts[i]!)).length) c158) 0 rfl rfl sizeOf22 rfl rfl (i:=(((((s.qx[i]!).qR)[k]!).qG).toNat)) qf qf qm fun w161 xs164 F165 hs166 H=>⟨H.pick [1,2,3,4,5,6,7,8,10,11,12] [3,4,5,6,7,8,9,10,11,12,13,14,15,16,17,18,19,20],(xM qh ((ret0 rfl ⟨_,rfl,?_⟩)))⟩
    replace H:=H.erases [0]
    dsimp only [vX,List.eraseIdx] at H
    obtain ⟨bg167,e_bg167⟩:∃ z,z=(bags_1.set (((((s.qx[i]!).qR)[k]!).qG).toNat) (jb (bags_1[((((s.qx[i]!).qR)[k]!).qG).toNat]!) ((((s.qx[i]!).qR)[k]!).jw) (counts[i]!))):=⟨_,rfl⟩
    rw [← e_bg167] at H
    have E_bg167:=Ent.add (D:=1000000) E_bags_1 e_bg167 qf (by first | exact bn1.mul qf | exact bn2.mul qf | exact bn3.mul qf | exact bn4.mul qf) qf
    have z_bg167:=E_bg167.sh.1
    have E_cur:=E_bg167
    refine xU (b_n (t_n (xR (sw (zu k 1 rfl rfl qf (sp (yI (k+1)) (xU (qZ (m' :=((((s.qx[i]!).qR).length) - ((k+1):Int)).toNat) qf ⟨_,k+1,bg167,xs164,F165,uE4,?_,?_,?_,rfl,(N.pick [1]),H.pick [1,2,3,4,5,6,7,8,9,10,11] [0,6,7,8,9,10,11,12,13,14,15,16,17,18,19,20]⟩))))))))
    · omega
    · exact E_cur.to (fun p q=>by simp only [intoF];omega) qf
    · omega
   refine c_exit (t_x (t_x (b_x (ret0 rfl ⟨_,rfl,?_⟩))))
   replace H:=H.erases [4,3,2,1,0]
   dsimp only [vX,List.eraseIdx] at H
   refine zjn ?_
   refine Qu rfl H [0,2,3,4,5] fun H=>?_
   have S:=H.yD [0,2,3,4,5] [0,1,2,3,4,5,6,7,8,9,10,11,12,13,14,15]
   refine rtp 0 (.slice (aa b36 0) s.qw.length s.qw.length) S ?_
   refine tF 1 rfl rfl S ?_
   refine tL 2 rfl rfl (fun _ h=>h.cell 0 rfl rfl) S ?_
   refine rtp 3 (.slice (aa b36 0) s.qw.length s.qw.length) S ?_
   refine tF 4 rfl rfl S ?_
   refine tL 5 rfl rfl (fun _ h=>h.cell 0 rfl rfl) S ?_
   refine tI 6 rfl rfl rfl S ?_
   refine ro 7 rfl (zK (.bool ((yE s counts s.qw.length i)[((s.qx[i]!).qG).toNat]!)) isAgg4 rfl (H.rowBool 1 rfl (iv:=(s.qx[i]!).qG) (i:=(((s.qx[i]!).qG).toNat)) qf qf) (⟨H.pick [0,2,3,4,5] [0,1,2,3,4,5,6,7,8,9,10,11,12,13,14,15],(rtp 8 (.bool ((yE s counts s.qw.length i)[((s.qx[i]!).qG).toNat]!)) (H.pick [0,2,3,4,5] [0,1,2,3,4,5,6,7,8,9,10,11,12,13,14,15]) ?_)⟩))
   cases h169:((yE s counts s.qw.length i)[((s.qx[i]!).qG).toNat]!)
   ·skip
    have S:=H.yD [0,2,3,4,5] [0,1,2,3,4,5,6,7,8,9,10,11,12,13,14,15]
    refine rgp 9 (yI (counts[i]!)) 66 S ?_
    refine rgp 10 (.bool (decide ((counts[i]! :Int) > 0))) 66 S ?_
    refine rgp 11 (.bool (decide ((counts[i]! :Int) > 0))) 66 S ?_
    cases h170:(decide ((counts[i]! :Int) > 0))
    ·skip
     replace h170:=of_decide_eq_false h170
     refine zS [12,13] 2 (H.pick [0,2,3,4,5] [0,1,2,3,4,5,6,7,8,9,10,11,12,13,14,15]) ?_
     have S:=H.yD [0,2,3,4,5] [0,1,2,3,4,5,6,7,8,9,10,11,12,13,14,15]
     refine rgp 14 (.bool false) 66 S ?_
     refine rtp 15 (.bool false) S ?_
     refine tI 16 rfl rfl rfl S ?_
     refine ro 17 rfl (Q9 H 1 rfl false sizeOf4 rfl rfl (i:=(((s.qx[i]!).qG).toNat)) qf qf fun w171 H=>⟨H.pick [0,2,3,4,5] [0,1,2,3,4,5,6,7,8,9,10,11,12,13,14,15],(xM qh (b_n (t_n (xR (sw (zu i 1 rfl rfl qf (sp (yI (i+1)) (xU (qZ (m' :=(counts.length - ((i+1):Int)).toNat) qf ⟨_,i+1,((yE s counts s.qw.length i).set (((s.qx[i]!).qG).toNat) false),bags_1,VA,F_bags_1,uE8,?_,?_,?_,?_,rfl,(N.pick []),H.pick [1,2,3,4,5] [0,10,11,12,13,14,15]⟩)))))))))⟩)
     · first | exact meltsL_1 qf qf ‹_› | exact meltsL_2 qf qf ‹_› qf | exact meltsL_3 qf qf ‹_› qf
     · omega
     · exact E_bags_1.to (fun p q=>by rw [show k=((s.qx[i]!).qR).length by omega];simp only [allS,needF,putF];omega) qf
     · omega
    replace h170:=of_decide_eq_true h170
    have S:=H.yD [0,2,3,4,5] [0,1,2,3,4,5,6,7,8,9,10,11,12,13,14,15]
    refine gF 12 rfl rfl S ?_
    refine gL 13 rfl rfl (fun _ h=>h.cell 0 rfl rfl) S ?_
    refine rgp 14 (.bool ((s.qx[i]!).zy)) 66 S ?_
    refine rtp 15 (.bool ((s.qx[i]!).zy)) S ?_
    refine tI 16 rfl rfl rfl S ?_
    refine ro 17 rfl (Q9 H 1 rfl ((s.qx[i]!).zy) sizeOf4 rfl rfl (i:=(((s.qx[i]!).qG).toNat)) qf qf fun w172 H=>⟨H.pick [0,2,3,4,5] [0,1,2,3,4,5,6,7,8,9,10,11,12,13,14,15],(xM qh (b_n (t_n (xR (sw (zu i 1 rfl rfl qf (sp (yI (i+1)) (xU (qZ (m' :=(counts.length - ((i+1):Int)).toNat) qf ⟨_,i+1,((yE s counts s.qw.length i).set (((s.qx[i]!).qG).toNat) ((s.qx[i]!).zy)),bags_1,VA,F_bags_1,uE8,?_,?_,?_,?_,rfl,(N.pick []),H.pick [1,2,3,4,5] [0,10,11,12,13,14,15]⟩)))))))))⟩)
    · first | exact meltsL_1 qf qf ‹_› | exact meltsL_2 qf qf ‹_› qf | exact meltsL_3 qf qf ‹_› qf
    · omega
    · exact E_bags_1.to (fun p q=>by rw [show k=((s.qx[i]!).qR).length by omega];simp only [allS,needF,putF];omega) qf
    · omega
   refine zS [9,10,11,12,13,14] 6 (H.pick [0,2,3,4,5] [0,1,2,3,4,5,6,7,8,9,10,11,12,13,14,15]) ?_
   have S:=H.yD [0,2,3,4,5] [0,1,2,3,4,5,6,7,8,9,10,11,12,13,14,15]
   refine rtp 15 (.bool true) S ?_
   refine tI 16 rfl rfl rfl S ?_
   refine ro 17 rfl (Q9 H 1 rfl true sizeOf4 rfl rfl (i:=(((s.qx[i]!).qG).toNat)) qf qf fun w173 H=>⟨H.pick [0,2,3,4,5] [0,1,2,3,4,5,6,7,8,9,10,11,12,13,14,15],(xM qh (b_n (t_n (xR (sw (zu i 1 rfl rfl qf (sp (yI (i+1)) (xU (qZ (m' :=(counts.length - ((i+1):Int)).toNat) qf ⟨_,i+1,((yE s counts s.qw.length i).set (((s.qx[i]!).qG).toNat) true),bags_1,VA,F_bags_1,uE8,?_,?_,?_,?_,rfl,(N.pick []),H.pick [1,2,3,4,5] [0,10,11,12,13,14,15]⟩)))))))))⟩)
   · first | exact meltsL_1 qf qf ‹_› | exact meltsL_2 qf qf ‹_› qf | exact meltsL_3 qf qf ‹_› qf
   · omega
   · exact E_bags_1.to (fun p q=>by rw [show k=((s.qx[i]!).qR).length by omega];simp only [allS,needF,putF];omega) qf
   · omega
  have po:=outPl_out (r:=s.qx[i]!) p15 p1.2.2.1 qc qf
  refine Qu rfl H [0,1,2,3,4,5,6,8,9,10] fun H=>?_
  have S:=H.yD [0,1,2,3,4,5,6,8,9,10] [0,1,2,3,4,5,6,7,8,9,10,11,12,13,14,15,16,17,18,19]
  refine rtp 0 (.func (.func 191) #[] #[pp b79 0,pp b83 0]) S ?_
  refine rt 1 (.agg #[yI s.xA,.slice qC s.qw.length qB,.slice (aa b44 o45) s.qx.length qJ]) (Qy (cs:=[yI s.xA,.slice qC s.qw.length qB,.slice (aa b44 o45) s.qx.length qJ]) isAgg36 sizeOf36 rfl (fun _ h=>qF (h.cells 4 rfl) 0 3)) S ?_
  refine tF 3 rfl rfl S ?_
  refine tL 4 rfl rfl (fun _ h=>h.cell 1 rfl rfl) S ?_
  refine ro 2 rfl (oq (around_ok _ s (H.get 14 rfl).1 (H.get 15 rfl).1) H fun w176 H=>⟨H.pick [0,1,2,3,4,5,6,8,9,10] [0,1,2,3,4,5,6,7,8,9,10,11,12,13,14,15,16,17,18,19],(ro 5 rfl (vC #[yI s.qw.length,.slice Vw (((s.qx[i]!).zT).length) Vt,pp b79 0,pp b83 0] rfl rfl call191 (en func191 ntmps191 ?_)))⟩)
  refine Qu rfl H [0,1,2,3,4,5,6,8,9,10] fun H=>?_
  have S:=H.yD [0,1,2,3,4,5,6,8,9,10] [0,1,2,3,4,5,6,7,8,9,10,11,12,13,14,15,16,17,18,19]
  refine tL 0 rfl rfl (fun _ h=>h.cell 2 rfl rfl) S ?_
  refine rtp 1 (yI s.qw.length) S ?_
  refine tL 2 rfl rfl (fun _ h=>h.cell 2 rfl rfl) S ?_
  refine rtp 3 (yI s.qw.length) S ?_
  refine tI 4 rfl rfl rfl S ?_
  refine rtp 6 (.slice Vw (((s.qx[i]!).zT).length) Vt) S ?_
  refine tL 7 rfl rfl (fun _ h=>h.cell 0 rfl rfl) S ?_
  refine ro 5 rfl ?_
  obtain ⟨a179,c180,G181,s182,h183,H⟩:=H.jW 7 rfl 0 rfl (iv:=s.qw.length) s.qw.length qf qf
  refine zK (.slice a179 ((bg107[s.qw.length]!).length) c180) isAgg22 rfl (h183) (⟨H.pick [0,1,2,3,4,5,6,8,9,10] [1,2,3,4,5,6,7,8,9,10,11,12,13,14,15,16,17,18,19,20],(ro 8 rfl ?_)⟩)
  obtain ⟨u1,u2⟩:=E_bg107.sh.row (c:=s.qw.length) qf p8 qf
  have u4:=(by first | exact bn1.yY qf | exact bn2.yY qf | exact bn3.yY qf | exact bn4.yY qf:SmallT ((s.qx[i]!).zT) (counts[i]!))
  have sz184:=H.base.size
  have lt185:=H.ltN (L:=[G102,G69]) [2,5]
  refine oc (plus_ok _ (bg107[s.qw.length]!) ((s.qx[i]!).zT) (counts[i]!) (H.get 0 rfl).1 (H.get 11 rfl).1 qg qg qg) ?_
  rintro v189 w187 r189 x188
  replace H:=H.zB x188 r189
  obtain ⟨a190,c191,rfl,hc192,hm193⟩:=H.jm 0 rfl
  refine ⟨H.pick [1,2,3,4,5,6,7,9,10,11] [1,2,3,4,5,6,7,8,9,10,11,12,13,14,15,16,17,18,19,20],(tI 9 rfl rfl rfl (H.pick [1,2,3,4,5,6,7,9,10,11] [1,2,3,4,5,6,7,8,9,10,11,12,13,14,15,16,17,18,19,20]) ?_)⟩
  refine ro 10 rfl ?_
  obtain ⟨G195,N,hn196,H⟩:=H.vW 0 rfl N (H.jQ [2,5])
  refine jH false H 8 rfl 2 rfl (.slice a190 ((jb (bg107[s.qw.length]!) ((s.qx[i]!).zT) (counts[i]!)).length) c191) 0 rfl rfl sizeOf22 rfl rfl (i:=s.qw.length) qf qf qm fun w194 xs197 F198 hs199 H=>⟨H.pick [1,2,3,4,5,6,7,9,10,11] [3,4,5,6,7,8,9,10,11,12,13,14,15,16,17,18,19,20,21,22],(xM qh ((ret0 rfl ⟨_,rfl,?_⟩)))⟩
  replace H:=H.erases [0]
  dsimp only [vX,List.eraseIdx] at H
  obtain ⟨bg200,e_bg200⟩:∃ z,z=(bg107.set s.qw.length (jb (bg107[s.qw.length]!) ((s.qx[i]!).zT) (counts[i]!))):=⟨_,rfl⟩
  rw [← e_bg200] at H
  have E_bg200:=Ent.add (D:=1000000) E_bg107 e_bg200 qf (by first | exact bn1.mul qf | exact bn2.mul qf | exact bn3.mul qf | exact bn4.mul qf) qf
  have z_bg200:=E_bg200.sh.1
  have E_cur:=E_bg200
  refine ⟨H.pick [0,1,2,3,4,5,6,8,9,10] [3,4,5,6,7,8,9,10,11,12,13,14,15,16,17,18,19,20,21,22],(xM qh (t_n (zcr (oF rfl (oL rfl (H.cell 1 rfl rfl) (oN rfl (sp (yI 0) (zjn (qW ?_)))))))))⟩
  refine zo (fun m' ρ w201=>∃ (xP:Env) (k:Nat) (bags_1:yLL) (VA:List Value) (F_bags_1:yLN),ρ=upd (upd (upd (upd xP 10 (.func (.func 191) #[] #[pp b79 0,pp b83 0])) 40 (.slice XW (((s.qx[i]!).qR).length) XU)) 41 (yI (((s.qx[i]!).qR).length))) 42 (yI k)∧((k:Int)≤(((s.qx[i]!).qR).length))∧(Ent (s.qw.length+1) (QL s) (fun p q=>base0 s t p q+allS s t counts i p q+at' p (s.qx[i]!).qG.toNat (-(counts[i]!) * ((s.qx[i]!).xk)[q]!)+at' p (s.qx[i]!).qG.toNat ((counts[i]!) * ((s.qx[i]!).xJ)[q]!)+at' p (outPl s t (s.qx[i]!)) ((counts[i]!) * ((s.qx[i]!).zT)[q]!)+intoF (s.qx[i]!) (counts[i]!) k p q) (23000000+6000000 * i+1000000 * k) bags_1)∧(bags_1.length=s.qw.length+1)∧m' =((((s.qx[i]!).qR).length) - (k:Int)).toNat∧Fresh w.heap.size [G69]∧St w w201 [.box b83 [yI (counts[i]!)] 2,.box b81 [yI ((s.qx[i]!).qG),yI ((s.qx[i]!).zJ),.slice VL (((s.qx[i]!).xk).length) VF,.slice VN (((s.qx[i]!).xB).length) VH,.slice VM (((s.qx[i]!).xG).length) VG,.slice XX (((s.qx[i]!).xJ).length) XV,.slice Vw (((s.qx[i]!).zT).length) Vt,.slice XW (((s.qx[i]!).qR).length) XU,.bool ((s.qx[i]!).zy)] 121,.box b79 [.slice (aa b52 0) (t.qE.length+1) c8] 27,.box b77 (yT t qU qP xm xh qM qL) 38,.box b75 [yI s.xA,.slice qC s.qw.length qB,.slice (aa b44 o45) s.qx.length qJ] 36,.box b48 [yI ((s.qx[i]!).qG),yI ((s.qx[i]!).zJ),.slice VL (((s.qx[i]!).xk).length) VF,.slice VN (((s.qx[i]!).xB).length) VH,.slice VM (((s.qx[i]!).xG).length) VG,.slice XX (((s.qx[i]!).xJ).length) XV,.slice Vw (((s.qx[i]!).zT).length) Vt,.slice XW (((s.qx[i]!).qR).length) XU,.bool ((s.qx[i]!).zy)] 121,rr (aa b36 0) s.qw.length s.qw.length 4 1 ((yE s counts s.qw.length i).map (Value.bool)),rr (aa b52 0) (t.qE.length+1) c8 22 1 VA,.box b5 [yN,yN,yN] 38,.box b3 (yT t qU qP xm xh qM qL) 38,.box b1 [yI s.xA,.slice qC s.qw.length qB,.slice (aa b44 o45) s.qx.length qJ] 36] [zh false F_bags_1 VA bags_1,sF true G69 a64 c65 (jb (bags[((s.qx[i]!).qG).toNat]!) ((s.qx[i]!).xk) (-(counts[i]!))),sF false G55 a53 c54 (bags[((s.qx[i]!).qG).toNat]!),sF false Fe47Need VL VF ((s.qx[i]!).xk),sF false Fe47Have VN VH ((s.qx[i]!).xB),sF false Fe47Lack VM VG ((s.qx[i]!).xG),sF false Fe47Here XX XV ((s.qx[i]!).xJ),sF false Fe47Out Vw Vt ((s.qx[i]!).zT),sF false Fe47Into XW XU ((s.qx[i]!).qR),atF b44 (o45+(i:Int).toNat * 9) [yI ((s.qx[i]!).qG),yI ((s.qx[i]!).zJ),.slice VL (((s.qx[i]!).xk).length) VF,.slice VN (((s.qx[i]!).xB).length) VH,.slice VM (((s.qx[i]!).xG).length) VG,.slice XX (((s.qx[i]!).xJ).length) XV,.slice Vw (((s.qx[i]!).zT).length) Vt,.slice XW (((s.qx[i]!).qR).length) XU,.bool ((s.qx[i]!).zy)],sF false qY qC qB s.qw,sF false xF (aa b44 o45) qJ s.qx,sF false xN qU qP t.qy,sF false zq xm xh t.qE,sF false xE qM qL t.qA,sF false Fcounts (aa b41 o42) ccounts counts]) (((((s.qx[i]!).qR).length) - (0:Int)).toNat) ⟨_,0,bg200,xs197,F198,uE4,qf,(by exact E_cur.to (fun p q=>by rw [po];simp only [intoF];first | omega | (simp only [Int.toNat_natCast];omega)) qf),qf,rfl,(N.pick [2]),H.pick [0,1,2,3,4,5,6,7,8,9,10] [0,7,8,9,10,11,12,13,14,15,17,18,19,20,21,22]⟩ ?_
  clear H N
  rintro m' ρ w202 ⟨xP,k,bags_1,VA,F_bags_1,rfl,i0,E_bags_1,z_bags_1,rfl,N,H⟩
  have hn_bags:=H.zl (α:=yLI) 7 rfl 0 rfl qj
  refine zcr (sp (.bool (decide ((k:Int) < (((s.qx[i]!).qR).length)))) (zjn (xO (cD rfl (fun h203=>?_) (fun h203=>?_)))))
  ·skip
   have qi:=q.2.2.2.2.2.2.2.2.2.2 k qf
   have qi1:=qi.1
   have bn4:=qi.2.2.1
   have ln4:=bn4.len
   refine qV (t_n (xO (qW (zcr ?_))))
   obtain ⟨b204,o205,rfl⟩:=H.addr 8 rfl qf
   obtain ⟨ae207Bag,ce207Bag,Fe207Bag,H⟩:=H.jR 8 rfl k k qf qf qf
   refine oI rfl rfl (sw (xY [yI ((((s.qx[i]!).qR)[k]!).qG),.slice ae207Bag (((((s.qx[i]!).qR)[k]!).jw).length) ce207Bag] isAgg164 sizeOf164 rfl (qF (H.get 1 rfl) 0 2) (sw (xX H ti164 [yI 0,yN] fun b208 w209 H=>sw (zt H 0 [yI ((((s.qx[i]!).qR)[k]!).qG),.slice ae207Bag (((((s.qx[i]!).qR)[k]!).jw).length) ce207Bag] sizeOf164 fun w210 H=>zjn (xR (sp (.func (.func 191) #[] #[pp b79 0,pp b83 0]) (oF rfl (oL rfl (H.cell 0 rfl rfl) (oF rfl (oL rfl (H.cell 0 rfl rfl) ?_)))))))))))
   refine sw (vC #[yI ((((s.qx[i]!).qR)[k]!).qG),.slice ae207Bag (((((s.qx[i]!).qR)[k]!).jw).length) ce207Bag,pp b79 0,pp b83 0] rfl rfl call191 (en func191 ntmps191 ?_))
   refine Qu rfl H [0,1,2,3,4,5,6,7,9,10,11] fun H=>?_
   have S:=H.yD [0,1,2,3,4,5,6,7,9,10,11] [0,1,2,3,4,5,6,7,8,9,10,11,12,13,14,15,16,17]
   refine tL 0 rfl rfl (fun _ h=>h.cell 3 rfl rfl) S ?_
   refine rtp 1 (yI ((((s.qx[i]!).qR)[k]!).qG)) S ?_
   refine tL 2 rfl rfl (fun _ h=>h.cell 3 rfl rfl) S ?_
   refine rtp 3 (yI ((((s.qx[i]!).qR)[k]!).qG)) S ?_
   refine tI 4 rfl rfl rfl S ?_
   refine rtp 6 (.slice ae207Bag (((((s.qx[i]!).qR)[k]!).jw).length) ce207Bag) S ?_
   refine tL 7 rfl rfl (fun _ h=>h.cell 1 rfl rfl) S ?_
   refine ro 5 rfl ?_
   obtain ⟨a212,c213,G214,s215,h216,H⟩:=H.jW 8 rfl 2 rfl (iv:=(((s.qx[i]!).qR)[k]!).qG) (((((s.qx[i]!).qR)[k]!).qG).toNat) qf qf
   refine zK (.slice a212 ((bags_1[((((s.qx[i]!).qR)[k]!).qG).toNat]!).length) c213) isAgg22 rfl (h216) (⟨H.pick [0,1,2,3,4,5,6,7,9,10,11] [1,2,3,4,5,6,7,8,9,10,11,12,13,14,15,16,17,18],(ro 8 rfl ?_)⟩)
   obtain ⟨u1,u2⟩:=E_bags_1.sh.row (c:=((((s.qx[i]!).qR)[k]!).qG).toNat) qf p8 qf
   have u4:=(by first | exact bn1.yY qf | exact bn2.yY qf | exact bn3.yY qf | exact bn4.yY qf:SmallT ((((s.qx[i]!).qR)[k]!).jw) (counts[i]!))
   have sz217:=H.base.size
   have lt218:=H.ltN (L:=[G69]) [4]
   refine oc (plus_ok _ (bags_1[((((s.qx[i]!).qR)[k]!).qG).toNat]!) ((((s.qx[i]!).qR)[k]!).jw) (counts[i]!) (H.get 0 rfl).1 (H.get 1 rfl).1 qg qg qg) ?_
   rintro v222 w220 r222 x221
   replace H:=H.zB x221 r222
   obtain ⟨a223,c224,rfl,hc225,hm226⟩:=H.jm 0 rfl
   refine ⟨H.pick [1,2,3,4,5,6,7,8,10,11,12] [1,2,3,4,5,6,7,8,9,10,11,12,13,14,15,16,17,18],(tI 9 rfl rfl rfl (H.pick [1,2,3,4,5,6,7,8,10,11,12] [1,2,3,4,5,6,7,8,9,10,11,12,13,14,15,16,17,18]) ?_)⟩
   refine ro 10 rfl ?_
   obtain ⟨G228,N,hn229,H⟩:=H.vW 0 rfl N (H.jQ [4])
   refine jH false H 9 rfl 4 rfl (.slice a223 ((jb (bags_1[((((s.qx[i]!).qR)[k]!).qG).toNat]!) ((((s.qx[i]!).qR)[k]!).jw) (counts[i]!)).length) c224) 0 rfl rfl sizeOf22 rfl rfl (i:=(((((s.qx[i]!).qR)[k]!).qG).toNat)) qf qf qm fun w227 xs230 F231 hs232 H=>⟨H.pick [1,2,3,4,5,6,7,8,10,11,12] [3,4,5,6,7,8,9,10,11,12,13,14,15,16,17,18,19,20],(xM qh ((ret0 rfl ⟨_,rfl,?_⟩)))⟩
   replace H:=H.erases [0]
   dsimp only [vX,List.eraseIdx] at H
   obtain ⟨bg233,e_bg233⟩:∃ z,z=(bags_1.set (((((s.qx[i]!).qR)[k]!).qG).toNat) (jb (bags_1[((((s.qx[i]!).qR)[k]!).qG).toNat]!) ((((s.qx[i]!).qR)[k]!).jw) (counts[i]!))):=⟨_,rfl⟩
   rw [← e_bg233] at H
   have E_bg233:=Ent.add (D:=1000000) E_bags_1 e_bg233 qf (by first | exact bn1.mul qf | exact bn2.mul qf | exact bn3.mul qf | exact bn4.mul qf) qf
   have z_bg233:=E_bg233.sh.1
   have E_cur:=E_bg233
   refine xU (b_n (t_n (xR (sw (zu k 1 rfl rfl qf (sp (yI (k+1)) (xU (qZ (m' :=((((s.qx[i]!).qR).length) - ((k+1):Int)).toNat) qf ⟨_,k+1,bg233,xs230,F231,uE4,?_,?_,?_,rfl,(N.pick [1]),H.pick [1,2,3,4,5,6,7,8,9,10,11] [0,6,7,8,9,10,11,12,13,14,15,16,17,18,19,20]⟩))))))))
   · omega
   · exact E_cur.to (fun p q=>by simp only [intoF];omega) qf
   · omega
  refine c_exit (t_x (t_x (b_x (ret0 rfl ⟨_,rfl,?_⟩))))
  replace H:=H.erases [4,3,2,1,0]
  dsimp only [vX,List.eraseIdx] at H
  refine zjn ?_
  refine Qu rfl H [0,2,3,4,5] fun H=>?_
  have S:=H.yD [0,2,3,4,5] [0,1,2,3,4,5,6,7,8,9,10,11,12,13,14,15]
  refine rtp 0 (.slice (aa b36 0) s.qw.length s.qw.length) S ?_
  refine tF 1 rfl rfl S ?_
  refine tL 2 rfl rfl (fun _ h=>h.cell 0 rfl rfl) S ?_
  refine rtp 3 (.slice (aa b36 0) s.qw.length s.qw.length) S ?_
  refine tF 4 rfl rfl S ?_
  refine tL 5 rfl rfl (fun _ h=>h.cell 0 rfl rfl) S ?_
  refine tI 6 rfl rfl rfl S ?_
  refine ro 7 rfl (zK (.bool ((yE s counts s.qw.length i)[((s.qx[i]!).qG).toNat]!)) isAgg4 rfl (H.rowBool 1 rfl (iv:=(s.qx[i]!).qG) (i:=(((s.qx[i]!).qG).toNat)) qf qf) (⟨H.pick [0,2,3,4,5] [0,1,2,3,4,5,6,7,8,9,10,11,12,13,14,15],(rtp 8 (.bool ((yE s counts s.qw.length i)[((s.qx[i]!).qG).toNat]!)) (H.pick [0,2,3,4,5] [0,1,2,3,4,5,6,7,8,9,10,11,12,13,14,15]) ?_)⟩))
  cases h235:((yE s counts s.qw.length i)[((s.qx[i]!).qG).toNat]!)
  ·skip
   have S:=H.yD [0,2,3,4,5] [0,1,2,3,4,5,6,7,8,9,10,11,12,13,14,15]
   refine rgp 9 (yI (counts[i]!)) 66 S ?_
   refine rgp 10 (.bool (decide ((counts[i]! :Int) > 0))) 66 S ?_
   refine rgp 11 (.bool (decide ((counts[i]! :Int) > 0))) 66 S ?_
   cases h236:(decide ((counts[i]! :Int) > 0))
   ·skip
    replace h236:=of_decide_eq_false h236
    refine zS [12,13] 2 (H.pick [0,2,3,4,5] [0,1,2,3,4,5,6,7,8,9,10,11,12,13,14,15]) ?_
    have S:=H.yD [0,2,3,4,5] [0,1,2,3,4,5,6,7,8,9,10,11,12,13,14,15]
    refine rgp 14 (.bool false) 66 S ?_
    refine rtp 15 (.bool false) S ?_
    refine tI 16 rfl rfl rfl S ?_
    refine ro 17 rfl (Q9 H 1 rfl false sizeOf4 rfl rfl (i:=(((s.qx[i]!).qG).toNat)) qf qf fun w237 H=>⟨H.pick [0,2,3,4,5] [0,1,2,3,4,5,6,7,8,9,10,11,12,13,14,15],(xM qh (b_n (t_n (xR (sw (zu i 1 rfl rfl qf (sp (yI (i+1)) (xU (qZ (m' :=(counts.length - ((i+1):Int)).toNat) qf ⟨_,i+1,((yE s counts s.qw.length i).set (((s.qx[i]!).qG).toNat) false),bags_1,VA,F_bags_1,uE8,?_,?_,?_,?_,rfl,(N.pick []),H.pick [1,2,3,4,5] [0,10,11,12,13,14,15]⟩)))))))))⟩)
    · first | exact meltsL_1 qf qf ‹_› | exact meltsL_2 qf qf ‹_› qf | exact meltsL_3 qf qf ‹_› qf
    · omega
    · exact E_bags_1.to (fun p q=>by rw [show k=((s.qx[i]!).qR).length by omega];simp only [allS,needF,putF];omega) qf
    · omega
   replace h236:=of_decide_eq_true h236
   have S:=H.yD [0,2,3,4,5] [0,1,2,3,4,5,6,7,8,9,10,11,12,13,14,15]
   refine gF 12 rfl rfl S ?_
   refine gL 13 rfl rfl (fun _ h=>h.cell 0 rfl rfl) S ?_
   refine rgp 14 (.bool ((s.qx[i]!).zy)) 66 S ?_
   refine rtp 15 (.bool ((s.qx[i]!).zy)) S ?_
   refine tI 16 rfl rfl rfl S ?_
   refine ro 17 rfl (Q9 H 1 rfl ((s.qx[i]!).zy) sizeOf4 rfl rfl (i:=(((s.qx[i]!).qG).toNat)) qf qf fun w238 H=>⟨H.pick [0,2,3,4,5] [0,1,2,3,4,5,6,7,8,9,10,11,12,13,14,15],(xM qh (b_n (t_n (xR (sw (zu i 1 rfl rfl qf (sp (yI (i+1)) (xU (qZ (m' :=(counts.length - ((i+1):Int)).toNat) qf ⟨_,i+1,((yE s counts s.qw.length i).set (((s.qx[i]!).qG).toNat) ((s.qx[i]!).zy)),bags_1,VA,F_bags_1,uE8,?_,?_,?_,?_,rfl,(N.pick []),H.pick [1,2,3,4,5] [0,10,11,12,13,14,15]⟩)))))))))⟩)
   · first | exact meltsL_1 qf qf ‹_› | exact meltsL_2 qf qf ‹_› qf | exact meltsL_3 qf qf ‹_› qf
   · omega
   · exact E_bags_1.to (fun p q=>by rw [show k=((s.qx[i]!).qR).length by omega];simp only [allS,needF,putF];omega) qf
   · omega
  refine zS [9,10,11,12,13,14] 6 (H.pick [0,2,3,4,5] [0,1,2,3,4,5,6,7,8,9,10,11,12,13,14,15]) ?_
  have S:=H.yD [0,2,3,4,5] [0,1,2,3,4,5,6,7,8,9,10,11,12,13,14,15]
  refine rtp 15 (.bool true) S ?_
  refine tI 16 rfl rfl rfl S ?_
  refine ro 17 rfl (Q9 H 1 rfl true sizeOf4 rfl rfl (i:=(((s.qx[i]!).qG).toNat)) qf qf fun w239 H=>⟨H.pick [0,2,3,4,5] [0,1,2,3,4,5,6,7,8,9,10,11,12,13,14,15],(xM qh (b_n (t_n (xR (sw (zu i 1 rfl rfl qf (sp (yI (i+1)) (xU (qZ (m' :=(counts.length - ((i+1):Int)).toNat) qf ⟨_,i+1,((yE s counts s.qw.length i).set (((s.qx[i]!).qG).toNat) true),bags_1,VA,F_bags_1,uE8,?_,?_,?_,?_,rfl,(N.pick []),H.pick [1,2,3,4,5] [0,10,11,12,13,14,15]⟩)))))))))⟩)
  · first | exact meltsL_1 qf qf ‹_› | exact meltsL_2 qf qf ‹_› qf | exact meltsL_3 qf qf ‹_› qf
  · omega
  · exact E_bags_1.to (fun p q=>by rw [show k=((s.qx[i]!).qR).length by omega];simp only [allS,needF,putF];omega) qf
  · omega
 refine zx4 (xO ?_)
 obtain ⟨b240,rfl⟩:=H.Qz 1 rfl qf
 refine c_cut (fun ρ w250=>∃ (xP:Env) (b241:Nat) (ra242:yOA) (rc243:Nat) (ra244:yOA) (rc245:Nat) (ra246:yOA) (rc247:Nat) (rx248:List Value) (rF249:yLN),ρ=upd (upd (upd (upd xP 3 (pp b1 0)) 6 (pp b5 0)) 9 (.slice (aa b36 0) s.qw.length s.qw.length)) 13 (pp b241 0)∧Fresh w.heap.size [rF249]∧St w w250 [.box b241 [.slice ra242 (((⟨t.qy,(bags.take s.qw.length),bags[s.qw.length]!⟩:qH).qy).length) rc243,.slice ra244 (((⟨t.qy,(bags.take s.qw.length),bags[s.qw.length]!⟩:qH).qE).length) rc245,.slice ra246 (((⟨t.qy,(bags.take s.qw.length),bags[s.qw.length]!⟩:qH).qA).length) rc247] 38,rr ra242 (((⟨t.qy,(bags.take s.qw.length),bags[s.qw.length]!⟩:qH).qy).length) rc243 4 1 (((⟨t.qy,(bags.take s.qw.length),bags[s.qw.length]!⟩:qH).qy).map (Value.bool)),rr ra244 (((⟨t.qy,(bags.take s.qw.length),bags[s.qw.length]!⟩:qH).qE).length) rc245 22 1 rx248,rr ra246 (((⟨t.qy,(bags.take s.qw.length),bags[s.qw.length]!⟩:qH).qA).length) rc247 2 1 (((⟨t.qy,(bags.take s.qw.length),bags[s.qw.length]!⟩:qH).qA).map (Value.int .i64)),rr (aa b36 0) s.qw.length s.qw.length 4 1 ((yE s counts s.qw.length i).map (Value.bool)),rr none 0 0 0 1 [],.box b5 [yN,yN,yN] 38,.box b3 (yT t qU qP xm xh qM qL) 38,.box b1 (yS s qC qB qN qJ) 36] [zh true rF249 rx248 ((⟨t.qy,(bags.take s.qw.length),bags[s.qw.length]!⟩:qH).qE),sF false qY qC qB s.qw,sF false xF qN qJ s.qx,sF false xN qU qP t.qy,sF false zq xm xh t.qE,sF false xE qM qL t.qA]) ?_ ?_
 ·skip
  refine Qu rfl H [0,2,3,4] fun H=>?_
  refine r_have (fun ρ w258=>∃ (xP:Env) (a252:yOA) (c253:Nat) (a254:yOA) (G255:yLN) (G256:yLN),ρ=upd (upd (upd (upd (upd (upd xP 3 (pp b1 0)) 6 (pp b5 0)) 9 (.slice (aa b36 0) s.qw.length s.qw.length)) 77 (.slice qU t.qy.length qP)) 81 (.slice a254 ((bags.take s.qw.length).length) c8)) 86 (.slice a252 ((bags[s.qw.length]!).length) c253)∧Fresh w.heap.size []∧St w w258 [rr (aa b36 0) s.qw.length s.qw.length 4 1 ((yE s counts s.qw.length i).map (Value.bool)),rr none 0 0 0 1 [],.box b5 [yN,yN,yN] 38,.box b3 (yT t qU qP xm xh qM qL) 38,.box b1 (yS s qC qB qN qJ) 36] [sF false G255 a254 c8 (bags.take s.qw.length),sF false G256 a252 c253 (bags[s.qw.length]!),zh false F_bags x_bags bags,sF false qY qC qB s.qw,sF false xF qN qJ s.qx,sF false xN qU qP t.qy,sF false zq xm xh t.qE,sF false xE qM qL t.qA,sF false Fcounts acounts ccounts counts]) 4 #[true,true,true,true,true,true,true,true,true,true,true,false,false,false,false] ?_ fun L257=>?_
  ·skip
   rintro ρ w259 ⟨xP,a252,c253,a254,G255,G256,rfl,N,H⟩
   refine jo [11,13] qh qm (Qj rfl ?_ (Qj rfl ?_ jq))
   ·skip
    refine jr [.slice qU t.qy.length qP,.slice a254 ((bags.take s.qw.length).length) c8,.slice a252 ((bags[s.qw.length]!).length) c253] [(0,.slice qU t.qy.length qP),(1,.slice a254 ((bags.take s.qw.length).length) c8),(2,.slice a252 ((bags[s.qw.length]!).length) c253)] (⟨H.pick [0,2,3,4] [2,3,4,5,6,7,8],(jo [12,13] qh qm (Qj rfl ?_ (Qj rfl ?_ jq)))⟩)
    ·skip
     obtain ⟨cp0,cp1,cp2,cp3⟩:=copy_pre (al:=t.qy) E_bags p8 p9.2 p12
     have sz263:=H.base.size
     refine oc (Yc _ (⟨t.qy,(bags.take s.qw.length),bags[s.qw.length]!⟩:qH) (H.get 5 rfl).1 (H.get 0 rfl).1 (H.get 1 rfl).1 qg qg qg qg) ?_
     rintro _ w261 ⟨ra260Alive,rn260Alive,rc260Alive,ra260Bags,rn260Bags,rc260Bags,rx260Bags,rF260Bags,ra260Around,rn260Around,rc260Around,rfl,M,K⟩ _
     replace N:=N.merge sz263 qm M
     replace H:=H.merge K M
     obtain rfl:=H.rowNB 0 rfl
     obtain rfl:=H.zl (α:=yLI) 1 rfl 0 rfl qj
     obtain rfl:=H.YG 2 rfl
     refine ⟨H.pick [3,5,6,7] [3,4,5,6,7,8,9],(ro 13 rfl (xX H ti38 [yN,yN,yN] fun b268 w269 H=>⟨H.pick [4,6,7,8] [3,4,5,6,7,8,9],(ro 14 rfl (zt H 0 [.slice ra260Alive (((⟨t.qy,(bags.take s.qw.length),bags[s.qw.length]!⟩:qH).qy).length) rc260Alive,.slice ra260Bags (((⟨t.qy,(bags.take s.qw.length),bags[s.qw.length]!⟩:qH).qE).length) rc260Bags,.slice ra260Around (((⟨t.qy,(bags.take s.qw.length),bags[s.qw.length]!⟩:qH).qA).length) rc260Around] sizeOf38 fun w270 H=>⟨H.pick [4,6,7,8] [3,4,5,6,7,8,9],?_⟩))⟩))⟩
     refine xM qh ((meet ⟨_,b268,ra260Alive,rc260Alive,ra260Bags,rc260Bags,ra260Around,rc260Around,rx260Bags,rF260Bags,uE4,N,H.pick [0,1,2,3,4,5,6,7,8] [0,4,5,6,7,8]⟩))
    refine xX H ti38 [yN,yN,yN] fun b271 w272 H=>⟨H.pick [1,3,4,5] [2,3,4,5,6,7,8],(ro 12 rfl ?_)⟩
    obtain ⟨cp0,cp1,cp2,cp3⟩:=copy_pre (al:=t.qy) E_bags p8 p9.2 p12
    have sz276:=H.base.size
    refine oc (Yc _ (⟨t.qy,(bags.take s.qw.length),bags[s.qw.length]!⟩:qH) (H.get 5 rfl).1 (H.get 0 rfl).1 (H.get 1 rfl).1 qg qg qg qg) ?_
    rintro _ w274 ⟨ra273Alive,rn273Alive,rc273Alive,ra273Bags,rn273Bags,rc273Bags,rx273Bags,rF273Bags,ra273Around,rn273Around,rc273Around,rfl,M,K⟩ _
    replace N:=N.merge sz276 qm M
    replace H:=H.merge K M
    obtain rfl:=H.rowNB 0 rfl
    obtain rfl:=H.zl (α:=yLI) 1 rfl 0 rfl qj
    obtain rfl:=H.YG 2 rfl
    refine ⟨H.pick [4,6,7,8] [3,4,5,6,7,8,9],(ro 14 rfl (zt H 3 [.slice ra273Alive (((⟨t.qy,(bags.take s.qw.length),bags[s.qw.length]!⟩:qH).qy).length) rc273Alive,.slice ra273Bags (((⟨t.qy,(bags.take s.qw.length),bags[s.qw.length]!⟩:qH).qE).length) rc273Bags,.slice ra273Around (((⟨t.qy,(bags.take s.qw.length),bags[s.qw.length]!⟩:qH).qA).length) rc273Around] sizeOf38 fun w281 H=>⟨H.pick [4,6,7,8] [3,4,5,6,7,8,9],(xM qh (?_))⟩))⟩
    exact meet ⟨_,b271,ra273Alive,rc273Alive,ra273Bags,rc273Bags,ra273Around,rc273Around,rx273Bags,rF273Bags,uE4,N,H.pick [3,0,1,2,4,5,6,7,8] [0,4,5,6,7,8]⟩
   refine xX H ti38 [yN,yN,yN] fun b282 w283 H=>⟨H.pick [1,3,4,5] [2,3,4,5,6,7,8],(ro 11 rfl (jr [.slice qU t.qy.length qP,.slice a254 ((bags.take s.qw.length).length) c8,.slice a252 ((bags[s.qw.length]!).length) c253] [(0,.slice qU t.qy.length qP),(1,.slice a254 ((bags.take s.qw.length).length) c8),(2,.slice a252 ((bags[s.qw.length]!).length) c253)] (⟨H.pick [1,3,4,5] [2,3,4,5,6,7,8],(ro 12 rfl ?_)⟩)))⟩
   obtain ⟨cp0,cp1,cp2,cp3⟩:=copy_pre (al:=t.qy) E_bags p8 p9.2 p12
   have sz287:=H.base.size
   refine oc (Yc _ (⟨t.qy,(bags.take s.qw.length),bags[s.qw.length]!⟩:qH) (H.get 5 rfl).1 (H.get 0 rfl).1 (H.get 1 rfl).1 qg qg qg qg) ?_
   rintro _ w285 ⟨ra284Alive,rn284Alive,rc284Alive,ra284Bags,rn284Bags,rc284Bags,rx284Bags,rF284Bags,ra284Around,rn284Around,rc284Around,rfl,M,K⟩ _
   replace N:=N.merge sz287 qm M
   replace H:=H.merge K M
   obtain rfl:=H.rowNB 0 rfl
   obtain rfl:=H.zl (α:=yLI) 1 rfl 0 rfl qj
   obtain rfl:=H.YG 2 rfl
   refine ⟨H.pick [4,6,7,8] [3,4,5,6,7,8,9],(ro 14 rfl (zt H 3 [.slice ra284Alive (((⟨t.qy,(bags.take s.qw.length),bags[s.qw.length]!⟩:qH).qy).length) rc284Alive,.slice ra284Bags (((⟨t.qy,(bags.take s.qw.length),bags[s.qw.length]!⟩:qH).qE).length) rc284Bags,.slice ra284Around (((⟨t.qy,(bags.take s.qw.length),bags[s.qw.length]!⟩:qH).qA).length) rc284Around] sizeOf38 fun w292 H=>⟨H.pick [4,6,7,8] [3,4,5,6,7,8,9],(xM qh (?_))⟩))⟩
   exact meet ⟨_,b282,ra284Alive,rc284Alive,ra284Bags,rc284Bags,ra284Around,rc284Around,rx284Bags,rF284Bags,uE4,N,H.pick [3,0,1,2,4,5,6,7,8] [0,4,5,6,7,8]⟩
  refine r_have (fun ρ w297=>∃ (xP:Env) (a293:yOA) (G294:yLN) (G295:yLN),ρ=upd (upd (upd (upd (upd (upd xP 3 (pp b1 0)) 6 (pp b5 0)) 9 (.slice (aa b36 0) s.qw.length s.qw.length)) 77 (.slice qU t.qy.length qP)) 81 (.slice a293 ((bags.take s.qw.length).length) c8)) 85 (pp b240 (0+(s.qw.length:Int).toNat * 1))∧Fresh w.heap.size []∧St w w297 [rr (aa b36 0) s.qw.length s.qw.length 4 1 ((yE s counts s.qw.length i).map (Value.bool)),rr none 0 0 0 1 [],.box b5 [yN,yN,yN] 38,.box b3 (yT t qU qP xm xh qM qL) 38,.box b1 (yS s qC qB qN qJ) 36] [sF false G294 a293 c8 (bags.take s.qw.length),isF false G295 (.slice (aa b240 0) (t.qE.length+1) c8) bags,zh false F_bags x_bags bags,sF false qY qC qB s.qw,sF false xF qN qJ s.qx,sF false xN qU qP t.qy,sF false zq xm xh t.qE,sF false xE qM qL t.qA,sF false Fcounts acounts ccounts counts]) 5 #[true,true,true,true,true,true,true,true,true,true,false,false,false,false,false] ?_ fun L296=>?_
  ·skip
   rintro ρ w298 ⟨xP,a293,G294,G295,rfl,N,H⟩
   refine jo [10,13] qh qm (Qj rfl ?_ (Qj rfl ?_ jq))
   ·skip
    have hl299:=H.isLen 1 rfl
    obtain ⟨ae300,ce300,Fe300,H⟩:=H.vN 1 rfl s.qw.length s.qw.length qf qf qf
    refine zK (.slice ae300 ((bags[s.qw.length]!).length) ce300) isAgg22 rfl (H.xQ 1 rfl 0 rfl) (⟨H.pick [0,2,3,4] [4,5,6,7,8,9,10],(XZ L257 ⟨_,ae300,ce300,a293,G294,Fe300,uE6,N,H.pick [0,1,2,3,4] [2,0,4,5,6,7,8,9,10]⟩)⟩)
   refine xX H ti38 [yN,yN,yN] fun b301 w302 H=>⟨H.pick [1,3,4,5] [2,3,4,5,6,7,8],(ro 10 rfl ?_)⟩
   have hl303:=H.isLen 1 rfl
   obtain ⟨ae304,ce304,Fe304,H⟩:=H.vN 1 rfl s.qw.length s.qw.length qf qf qf
   refine zK (.slice ae304 ((bags[s.qw.length]!).length) ce304) isAgg22 rfl (H.xQ 1 rfl 0 rfl) (⟨H.pick [1,3,4,5] [4,5,6,7,8,9,10],(ro 11 rfl (jr [.slice qU t.qy.length qP,.slice a293 ((bags.take s.qw.length).length) c8,.slice ae304 ((bags[s.qw.length]!).length) ce304] [(0,.slice qU t.qy.length qP),(1,.slice a293 ((bags.take s.qw.length).length) c8),(2,.slice ae304 ((bags[s.qw.length]!).length) ce304)] (⟨H.pick [1,3,4,5] [4,5,6,7,8,9,10],(ro 12 rfl ?_)⟩)))⟩)
   obtain ⟨cp0,cp1,cp2,cp3⟩:=copy_pre (al:=t.qy) E_bags p8 p9.2 p12
   have sz308:=H.base.size
   refine oc (Yc _ (⟨t.qy,(bags.take s.qw.length),bags[s.qw.length]!⟩:qH) (H.get 7 rfl).1 (H.get 2 rfl).1 (H.get 0 rfl).1 qg qg qg qg) ?_
   rintro _ w306 ⟨ra305Alive,rn305Alive,rc305Alive,ra305Bags,rn305Bags,rc305Bags,rx305Bags,rF305Bags,ra305Around,rn305Around,rc305Around,rfl,M,K⟩ _
   replace N:=N.merge sz308 qm M
   replace H:=H.merge K M
   obtain rfl:=H.rowNB 0 rfl
   obtain rfl:=H.zl (α:=yLI) 1 rfl 0 rfl qj
   obtain rfl:=H.YG 2 rfl
   refine ⟨H.pick [4,6,7,8] [5,6,7,8,9,10,11],(ro 14 rfl (zt H 3 [.slice ra305Alive (((⟨t.qy,(bags.take s.qw.length),bags[s.qw.length]!⟩:qH).qy).length) rc305Alive,.slice ra305Bags (((⟨t.qy,(bags.take s.qw.length),bags[s.qw.length]!⟩:qH).qE).length) rc305Bags,.slice ra305Around (((⟨t.qy,(bags.take s.qw.length),bags[s.qw.length]!⟩:qH).qA).length) rc305Around] sizeOf38 fun w313 H=>⟨H.pick [4,6,7,8] [5,6,7,8,9,10,11],(xM qh (?_))⟩))⟩
   exact meet ⟨_,b301,ra305Alive,rc305Alive,ra305Bags,rc305Bags,ra305Around,rc305Around,rx305Bags,rF305Bags,uE4,N,H.pick [3,0,1,2,4,5,6,7,8] [0,6,7,8,9,10]⟩
  refine r_have (fun ρ w316=>∃ (xP:Env) (b314:Nat),ρ=upd (upd (upd (upd (upd (upd (upd (upd xP 3 (pp b1 0)) 6 (pp b5 0)) 9 (.slice (aa b36 0) s.qw.length s.qw.length)) 13 (pp b314 0)) 77 (.slice qU t.qy.length qP)) 78 (.slice (aa b240 0) (t.qE.length+1) c8)) 80 (yI s.qw.length)) 85 (pp b240 (0+(s.qw.length:Int).toNat * 1))∧Fresh w.heap.size []∧St w w316 [.box b314 [yN,yN,yN] 38,rr (aa b36 0) s.qw.length s.qw.length 4 1 ((yE s counts s.qw.length i).map (Value.bool)),rr (aa b240 0) (t.qE.length+1) c8 22 1 x_bags,.box b5 [yN,yN,yN] 38,.box b3 (yT t qU qP xm xh qM qL) 38,.box b1 (yS s qC qB qN qJ) 36] [zh false F_bags x_bags bags,sF false qY qC qB s.qw,sF false xF qN qJ s.qx,sF false xN qU qP t.qy,sF false zq xm xh t.qE,sF false xE qM qL t.qA,sF false Fcounts acounts ccounts counts]) 5 #[true,true,true,true,true,false,true,true,true,true,false,false,false,true,false] ?_ fun L315=>?_
  ·skip
   rintro ρ w317 ⟨xP,b314,rfl,N,H⟩
   refine jo [5,10] qh qm (Qj rfl ?_ (Qj rfl ?_ jq))
   ·skip
    obtain ⟨G318,hg320,hn319,H⟩:=H.QI (α:=yLI) 2 rfl 0 rfl qj
    have hl325:=H.isLen 0 rfl
    refine o_head H 0 rfl s.qw.length underlying27 ti22 rfl rfl qf qf fun a321 G322 hG323 H=>?_
    have hl324:(bags.take s.qw.length).length=s.qw.length:=List.length_take_of_le qf
    refine ⟨H.pick [1,3,4,5] [2,3,4,5,6,7,8],(ro 10 rfl ?_)⟩
    have hl326:=H.isLen 1 rfl
    obtain ⟨ae327,ce327,Fe327,H⟩:=H.vN 1 rfl s.qw.length s.qw.length qf qf qf
    refine zK (.slice ae327 ((bags[s.qw.length]!).length) ce327) isAgg22 rfl (H.xQ 1 rfl 0 rfl) (⟨H.pick [1,3,4,5] [4,5,6,7,8,9,10],(ro 11 rfl (jr [.slice qU t.qy.length qP,.slice a321 ((bags.take s.qw.length).length) c8,.slice ae327 ((bags[s.qw.length]!).length) ce327] [(0,.slice qU t.qy.length qP),(1,.slice a321 ((bags.take s.qw.length).length) c8),(2,.slice ae327 ((bags[s.qw.length]!).length) ce327)] (⟨H.pick [1,3,4,5] [4,5,6,7,8,9,10],(ro 12 rfl ?_)⟩)))⟩)
    obtain ⟨cp0,cp1,cp2,cp3⟩:=copy_pre (al:=t.qy) E_bags p8 p9.2 p12
    have sz331:=H.base.size
    refine oc (Yc _ (⟨t.qy,(bags.take s.qw.length),bags[s.qw.length]!⟩:qH) (H.get 7 rfl).1 (H.get 2 rfl).1 (H.get 0 rfl).1 qg qg qg qg) ?_
    rintro _ w329 ⟨ra328Alive,rn328Alive,rc328Alive,ra328Bags,rn328Bags,rc328Bags,rx328Bags,rF328Bags,ra328Around,rn328Around,rc328Around,rfl,M,K⟩ _
    replace N:=N.merge sz331 qm M
    replace H:=H.merge K M
    obtain rfl:=H.rowNB 0 rfl
    obtain rfl:=H.zl (α:=yLI) 1 rfl 0 rfl qj
    obtain rfl:=H.YG 2 rfl
    refine ⟨H.pick [4,6,7,8] [5,6,7,8,9,10,11],(ro 14 rfl (zt H 3 [.slice ra328Alive (((⟨t.qy,(bags.take s.qw.length),bags[s.qw.length]!⟩:qH).qy).length) rc328Alive,.slice ra328Bags (((⟨t.qy,(bags.take s.qw.length),bags[s.qw.length]!⟩:qH).qE).length) rc328Bags,.slice ra328Around (((⟨t.qy,(bags.take s.qw.length),bags[s.qw.length]!⟩:qH).qA).length) rc328Around] sizeOf38 fun w336 H=>⟨H.pick [4,6,7,8] [5,6,7,8,9,10,11],(xM qh (?_))⟩))⟩
    exact meet ⟨_,b314,ra328Alive,rc328Alive,ra328Bags,rc328Bags,ra328Around,rc328Around,rx328Bags,rF328Bags,uE4,N,H.pick [3,0,1,2,4,5,6,7,8] [0,6,7,8,9,10]⟩
   obtain ⟨a337,c338,G339,s340,h341,H⟩:=H.jW 2 rfl 0 rfl (iv:=s.qw.length) s.qw.length qf qf
   refine zK (.slice a337 ((bags[s.qw.length]!).length) c338) isAgg22 rfl (h341) (⟨H.pick [1,3,4,5] [1,2,3,4,5,6,7],(ro 5 rfl ?_)⟩)
   obtain ⟨G342,hg344,hn343,H⟩:=H.QI (α:=yLI) 2 rfl 1 rfl qj
   have hl349:=H.isLen 0 rfl
   refine o_head H 0 rfl s.qw.length underlying27 ti22 rfl rfl qf qf fun a345 G346 hG347 H=>?_
   have hl348:(bags.take s.qw.length).length=s.qw.length:=List.length_take_of_le qf
   refine ⟨H.pick [1,3,4,5] [3,4,5,6,7,8,9],(ro 11 rfl (jr [.slice qU t.qy.length qP,.slice a345 ((bags.take s.qw.length).length) c8,.slice a337 ((bags[s.qw.length]!).length) c338] [(0,.slice qU t.qy.length qP),(1,.slice a345 ((bags.take s.qw.length).length) c8),(2,.slice a337 ((bags[s.qw.length]!).length) c338)] (⟨H.pick [1,3,4,5] [3,4,5,6,7,8,9],(ro 12 rfl ?_)⟩)))⟩
   obtain ⟨cp0,cp1,cp2,cp3⟩:=copy_pre (al:=t.qy) E_bags p8 p9.2 p12
   have sz353:=H.base.size
   refine oc (Yc _ (⟨t.qy,(bags.take s.qw.length),bags[s.qw.length]!⟩:qH) (H.get 6 rfl).1 (H.get 0 rfl).1 (H.get 2 rfl).1 qg qg qg qg) ?_
   rintro _ w351 ⟨ra350Alive,rn350Alive,rc350Alive,ra350Bags,rn350Bags,rc350Bags,rx350Bags,rF350Bags,ra350Around,rn350Around,rc350Around,rfl,M,K⟩ _
   replace N:=N.merge sz353 qm M
   replace H:=H.merge K M
   obtain rfl:=H.rowNB 0 rfl
   obtain rfl:=H.zl (α:=yLI) 1 rfl 0 rfl qj
   obtain rfl:=H.YG 2 rfl
   refine ⟨H.pick [4,6,7,8] [4,5,6,7,8,9,10],(ro 14 rfl (zt H 3 [.slice ra350Alive (((⟨t.qy,(bags.take s.qw.length),bags[s.qw.length]!⟩:qH).qy).length) rc350Alive,.slice ra350Bags (((⟨t.qy,(bags.take s.qw.length),bags[s.qw.length]!⟩:qH).qE).length) rc350Bags,.slice ra350Around (((⟨t.qy,(bags.take s.qw.length),bags[s.qw.length]!⟩:qH).qA).length) rc350Around] sizeOf38 fun w358 H=>⟨H.pick [4,6,7,8] [4,5,6,7,8,9,10],(xM qh (?_))⟩))⟩
   exact meet ⟨_,b314,ra350Alive,rc350Alive,ra350Bags,rc350Bags,ra350Around,rc350Around,rx350Bags,rF350Bags,uE4,N,H.pick [3,0,1,2,4,5,6,7,8] [0,5,6,7,8,9]⟩
  refine r_have (fun ρ w361=>∃ (xP:Env) (b359:Nat),ρ=upd (upd (upd (upd (upd (upd (upd (upd (upd xP 3 (pp b1 0)) 6 (pp b5 0)) 9 (.slice (aa b36 0) s.qw.length s.qw.length)) 13 (pp b359 0)) 77 (.slice qU t.qy.length qP)) 78 (.slice (aa b240 0) (t.qE.length+1) c8)) 80 (yI s.qw.length)) 82 (.slice (aa b240 0) (t.qE.length+1) c8)) 83 (.agg #[yI s.xA,.slice qC s.qw.length qB,.slice qN s.qx.length qJ])∧Fresh w.heap.size []∧St w w361 [.box b359 [yN,yN,yN] 38,rr (aa b36 0) s.qw.length s.qw.length 4 1 ((yE s counts s.qw.length i).map (Value.bool)),rr (aa b240 0) (t.qE.length+1) c8 22 1 x_bags,.box b5 [yN,yN,yN] 38,.box b3 (yT t qU qP xm xh qM qL) 38,.box b1 (yS s qC qB qN qJ) 36] [zh false F_bags x_bags bags,sF false qY qC qB s.qw,sF false xF qN qJ s.qx,sF false xN qU qP t.qy,sF false zq xm xh t.qE,sF false xE qM qL t.qA,sF false Fcounts acounts ccounts counts]) 7 #[true,true,true,true,true,false,true,true,false,false,false,false,false,true,false] ?_ fun L360=>?_
  ·skip
   rintro ρ w362 ⟨xP,b359,rfl,N,H⟩
   refine jo [5,8] qh qm (Qj rfl ?_ (Qj rfl ?_ jq))
   ·skip
    obtain ⟨G363,hg365,hn364,H⟩:=H.QI (α:=yLI) 2 rfl 0 rfl qj
    have hl370:=H.isLen 0 rfl
    refine o_head H 0 rfl s.qw.length underlying27 ti22 rfl rfl qf qf fun a366 G367 hG368 H=>?_
    have hl369:(bags.take s.qw.length).length=s.qw.length:=List.length_take_of_le qf
    refine ⟨H.pick [1,3,4,5] [2,3,4,5,6,7,8],(ro 8 rfl (oq (around_ok _ s (H.get 3 rfl).1 (H.get 4 rfl).1) H fun w372 H=>⟨H.pick [1,3,4,5] [2,3,4,5,6,7,8],?_⟩))⟩
    obtain ⟨ae374,ce374,Fe374,H⟩:=H.vN 1 rfl s.qw.length s.qw.length qf qf qf
    refine tI 9 rfl rfl rfl (H.pick [1,3,4,5] [4,5,6,7,8,9,10]) ?_
    refine ro 10 rfl (zK (.slice ae374 ((bags[s.qw.length]!).length) ce374) isAgg22 rfl (H.xQ 1 rfl 0 rfl) (⟨H.pick [1,3,4,5] [4,5,6,7,8,9,10],(ro 11 rfl (jr [.slice qU t.qy.length qP,.slice a366 ((bags.take s.qw.length).length) c8,.slice ae374 ((bags[s.qw.length]!).length) ce374] [(0,.slice qU t.qy.length qP),(1,.slice a366 ((bags.take s.qw.length).length) c8),(2,.slice ae374 ((bags[s.qw.length]!).length) ce374)] (⟨H.pick [1,3,4,5] [4,5,6,7,8,9,10],(ro 12 rfl ?_)⟩)))⟩))
    obtain ⟨cp0,cp1,cp2,cp3⟩:=copy_pre (al:=t.qy) E_bags p8 p9.2 p12
    have sz378:=H.base.size
    refine oc (Yc _ (⟨t.qy,(bags.take s.qw.length),bags[s.qw.length]!⟩:qH) (H.get 7 rfl).1 (H.get 2 rfl).1 (H.get 0 rfl).1 qg qg qg qg) ?_
    rintro _ w376 ⟨ra375Alive,rn375Alive,rc375Alive,ra375Bags,rn375Bags,rc375Bags,rx375Bags,rF375Bags,ra375Around,rn375Around,rc375Around,rfl,M,K⟩ _
    replace N:=N.merge sz378 qm M
    replace H:=H.merge K M
    obtain rfl:=H.rowNB 0 rfl
    obtain rfl:=H.zl (α:=yLI) 1 rfl 0 rfl qj
    obtain rfl:=H.YG 2 rfl
    refine ⟨H.pick [4,6,7,8] [5,6,7,8,9,10,11],(ro 14 rfl (zt H 3 [.slice ra375Alive (((⟨t.qy,(bags.take s.qw.length),bags[s.qw.length]!⟩:qH).qy).length) rc375Alive,.slice ra375Bags (((⟨t.qy,(bags.take s.qw.length),bags[s.qw.length]!⟩:qH).qE).length) rc375Bags,.slice ra375Around (((⟨t.qy,(bags.take s.qw.length),bags[s.qw.length]!⟩:qH).qA).length) rc375Around] sizeOf38 fun w383 H=>⟨H.pick [4,6,7,8] [5,6,7,8,9,10,11],(xM qh (?_))⟩))⟩
    exact meet ⟨_,b359,ra375Alive,rc375Alive,ra375Bags,rc375Bags,ra375Around,rc375Around,rx375Bags,rF375Bags,uE4,N,H.pick [3,0,1,2,4,5,6,7,8] [0,6,7,8,9,10]⟩
   refine oq (around_ok _ s (H.get 1 rfl).1 (H.get 2 rfl).1) H fun w385 H=>⟨H.pick [1,3,4,5] [0,1,2,3,4,5,6],(tI 9 rfl rfl rfl (H.pick [1,3,4,5] [0,1,2,3,4,5,6]) ?_)⟩
   exact XZ L315 ⟨_,b359,uE8,N,H⟩
  have S:=H.yD [0,2,3,4] [0,1,2,3,4,5,6]
  refine tF 0 rfl rfl S ?_
  refine tL 1 rfl rfl (fun _ h=>h.cell 2 rfl rfl) S ?_
  refine rtp 2 (.slice (aa b240 0) (t.qE.length+1) c8) S ?_
  refine rt 3 (.agg #[yI s.xA,.slice qC s.qw.length qB,.slice qN s.qx.length qJ]) (Qy (cs:=(yS s qC qB qN qJ)) isAgg36 sizeOf36 rfl (fun _ h=>qF (h.cells 3 rfl) 0 3)) S ?_
  refine rtp 6 (.slice (aa b240 0) (t.qE.length+1) c8) S ?_
  refine rt 7 (.agg #[yI s.xA,.slice qC s.qw.length qB,.slice qN s.qx.length qJ]) (Qy (cs:=(yS s qC qB qN qJ)) isAgg36 sizeOf36 rfl (fun _ h=>qF (h.cells 3 rfl) 0 3)) S ?_
  refine jo [4,13] qh qm (Qj rfl ?_ (Qj rfl ?_ jq))
  ·skip
   refine oq (around_ok _ s (H.get 1 rfl).1 (H.get 2 rfl).1) H fun w388 H=>⟨H.pick [0,2,3,4] [0,1,2,3,4,5,6],(jo [5,8,13] qh qm (Qj rfl ?_ (Qj rfl ?_ (Qj rfl ?_ jq))))⟩
   ·skip
    obtain ⟨G390,hg392,hn391,H⟩:=H.QI (α:=yLI) 1 rfl 0 rfl qj
    have hl397:=H.isLen 0 rfl
    refine o_head H 0 rfl s.qw.length underlying27 ti22 rfl rfl qf qf fun a393 G394 hG395 H=>?_
    have hl396:(bags.take s.qw.length).length=s.qw.length:=List.length_take_of_le qf
    refine ⟨H.pick [0,2,3,4] [2,3,4,5,6,7,8],(jo [8,13] qh qm (Qj rfl ?_ (Qj rfl ?_ jq)))⟩
    ·skip
     refine oq (around_ok _ s (H.get 3 rfl).1 (H.get 4 rfl).1) H fun w399 H=>⟨H.pick [0,2,3,4] [2,3,4,5,6,7,8],?_⟩
     obtain ⟨ae401,ce401,Fe401,H⟩:=H.vN 1 rfl s.qw.length s.qw.length qf qf qf
     refine tI 9 rfl rfl rfl (H.pick [0,2,3,4] [4,5,6,7,8,9,10]) ?_
     exact XZ L296 ⟨_,a393,G394,G390,uE6,N,H.pick [0,1,2,3,4] [2,3,4,5,6,7,8,9,10]⟩
    refine xX H ti38 [yN,yN,yN] fun b402 w403 H=>⟨H.pick [1,3,4,5] [2,3,4,5,6,7,8],(ro 8 rfl (oq (around_ok _ s (H.get 3 rfl).1 (H.get 4 rfl).1) H fun w405 H=>⟨H.pick [1,3,4,5] [2,3,4,5,6,7,8],?_⟩))⟩
    obtain ⟨ae407,ce407,Fe407,H⟩:=H.vN 1 rfl s.qw.length s.qw.length qf qf qf
    refine tI 9 rfl rfl rfl (H.pick [1,3,4,5] [4,5,6,7,8,9,10]) ?_
    refine ro 10 rfl (zK (.slice ae407 ((bags[s.qw.length]!).length) ce407) isAgg22 rfl (H.xQ 1 rfl 0 rfl) (⟨H.pick [1,3,4,5] [4,5,6,7,8,9,10],(ro 11 rfl (jr [.slice qU t.qy.length qP,.slice a393 ((bags.take s.qw.length).length) c8,.slice ae407 ((bags[s.qw.length]!).length) ce407] [(0,.slice qU t.qy.length qP),(1,.slice a393 ((bags.take s.qw.length).length) c8),(2,.slice ae407 ((bags[s.qw.length]!).length) ce407)] (⟨H.pick [1,3,4,5] [4,5,6,7,8,9,10],(ro 12 rfl ?_)⟩)))⟩))
    obtain ⟨cp0,cp1,cp2,cp3⟩:=copy_pre (al:=t.qy) E_bags p8 p9.2 p12
    have sz411:=H.base.size
    refine oc (Yc _ (⟨t.qy,(bags.take s.qw.length),bags[s.qw.length]!⟩:qH) (H.get 7 rfl).1 (H.get 2 rfl).1 (H.get 0 rfl).1 qg qg qg qg) ?_
    rintro _ w409 ⟨ra408Alive,rn408Alive,rc408Alive,ra408Bags,rn408Bags,rc408Bags,rx408Bags,rF408Bags,ra408Around,rn408Around,rc408Around,rfl,M,K⟩ _
    replace N:=N.merge sz411 qm M
    replace H:=H.merge K M
    obtain rfl:=H.rowNB 0 rfl
    obtain rfl:=H.zl (α:=yLI) 1 rfl 0 rfl qj
    obtain rfl:=H.YG 2 rfl
    refine ⟨H.pick [4,6,7,8] [5,6,7,8,9,10,11],(ro 14 rfl (zt H 3 [.slice ra408Alive (((⟨t.qy,(bags.take s.qw.length),bags[s.qw.length]!⟩:qH).qy).length) rc408Alive,.slice ra408Bags (((⟨t.qy,(bags.take s.qw.length),bags[s.qw.length]!⟩:qH).qE).length) rc408Bags,.slice ra408Around (((⟨t.qy,(bags.take s.qw.length),bags[s.qw.length]!⟩:qH).qA).length) rc408Around] sizeOf38 fun w416 H=>⟨H.pick [4,6,7,8] [5,6,7,8,9,10,11],(xM qh (?_))⟩))⟩
    exact meet ⟨_,b402,ra408Alive,rc408Alive,ra408Bags,rc408Bags,ra408Around,rc408Around,rx408Bags,rF408Bags,uE4,N,H.pick [3,0,1,2,4,5,6,7,8] [0,6,7,8,9,10]⟩
   ·skip
    refine oq (around_ok _ s (H.get 1 rfl).1 (H.get 2 rfl).1) H fun w418 H=>⟨H.pick [0,2,3,4] [0,1,2,3,4,5,6],(tI 9 rfl rfl rfl (H.pick [0,2,3,4] [0,1,2,3,4,5,6]) ?_)⟩
    refine jo [5,10,13] qh qm (Qj rfl ?_ (Qj rfl ?_ (Qj rfl ?_ jq)))
    ·skip
     obtain ⟨G420,hg422,hn421,H⟩:=H.QI (α:=yLI) 1 rfl 0 rfl qj
     have hl427:=H.isLen 0 rfl
     refine o_head H 0 rfl s.qw.length underlying27 ti22 rfl rfl qf qf fun a423 G424 hG425 H=>?_
     have hl426:(bags.take s.qw.length).length=s.qw.length:=List.length_take_of_le qf
     refine ⟨H.pick [0,2,3,4] [2,3,4,5,6,7,8],(XZ L296 ⟨_,a423,G424,G420,uE6,N,H⟩)⟩
    ·skip
     obtain ⟨a428,c429,G430,s431,h432,H⟩:=H.jW 1 rfl 0 rfl (iv:=s.qw.length) s.qw.length qf qf
     refine zK (.slice a428 ((bags[s.qw.length]!).length) c429) isAgg22 rfl (h432) (⟨H.pick [0,2,3,4] [1,2,3,4,5,6,7],(jo [5,13] qh qm (Qj rfl ?_ (Qj rfl ?_ jq)))⟩)
     ·skip
      obtain ⟨G433,hg435,hn434,H⟩:=H.QI (α:=yLI) 1 rfl 1 rfl qj
      have hl440:=H.isLen 0 rfl
      refine o_head H 0 rfl s.qw.length underlying27 ti22 rfl rfl qf qf fun a436 G437 hG438 H=>?_
      have hl439:(bags.take s.qw.length).length=s.qw.length:=List.length_take_of_le qf
      refine ⟨H.pick [0,2,3,4] [3,4,5,6,7,8,9],(XZ L257 ⟨_,a428,c429,a436,G437,G430,uE6,N,H.pick [0,1,2,3,4] [0,2,3,4,5,6,7,8,9]⟩)⟩
     refine xX H ti38 [yN,yN,yN] fun b441 w442 H=>⟨H.pick [1,3,4,5] [1,2,3,4,5,6,7],(ro 5 rfl ?_)⟩
     obtain ⟨G443,hg445,hn444,H⟩:=H.QI (α:=yLI) 2 rfl 1 rfl qj
     have hl450:=H.isLen 0 rfl
     refine o_head H 0 rfl s.qw.length underlying27 ti22 rfl rfl qf qf fun a446 G447 hG448 H=>?_
     have hl449:(bags.take s.qw.length).length=s.qw.length:=List.length_take_of_le qf
     refine ⟨H.pick [1,3,4,5] [3,4,5,6,7,8,9],(ro 11 rfl (jr [.slice qU t.qy.length qP,.slice a446 ((bags.take s.qw.length).length) c8,.slice a428 ((bags[s.qw.length]!).length) c429] [(0,.slice qU t.qy.length qP),(1,.slice a446 ((bags.take s.qw.length).length) c8),(2,.slice a428 ((bags[s.qw.length]!).length) c429)] (⟨H.pick [1,3,4,5] [3,4,5,6,7,8,9],(ro 12 rfl ?_)⟩)))⟩
     obtain ⟨cp0,cp1,cp2,cp3⟩:=copy_pre (al:=t.qy) E_bags p8 p9.2 p12
     have sz454:=H.base.size
     refine oc (Yc _ (⟨t.qy,(bags.take s.qw.length),bags[s.qw.length]!⟩:qH) (H.get 6 rfl).1 (H.get 0 rfl).1 (H.get 2 rfl).1 qg qg qg qg) ?_
     rintro _ w452 ⟨ra451Alive,rn451Alive,rc451Alive,ra451Bags,rn451Bags,rc451Bags,rx451Bags,rF451Bags,ra451Around,rn451Around,rc451Around,rfl,M,K⟩ _
     replace N:=N.merge sz454 qm M
     replace H:=H.merge K M
     obtain rfl:=H.rowNB 0 rfl
     obtain rfl:=H.zl (α:=yLI) 1 rfl 0 rfl qj
     obtain rfl:=H.YG 2 rfl
     refine ⟨H.pick [4,6,7,8] [4,5,6,7,8,9,10],(ro 14 rfl (zt H 3 [.slice ra451Alive (((⟨t.qy,(bags.take s.qw.length),bags[s.qw.length]!⟩:qH).qy).length) rc451Alive,.slice ra451Bags (((⟨t.qy,(bags.take s.qw.length),bags[s.qw.length]!⟩:qH).qE).length) rc451Bags,.slice ra451Around (((⟨t.qy,(bags.take s.qw.length),bags[s.qw.length]!⟩:qH).qA).length) rc451Around] sizeOf38 fun w459 H=>⟨H.pick [4,6,7,8] [4,5,6,7,8,9,10],(xM qh (?_))⟩))⟩
     exact meet ⟨_,b441,ra451Alive,rc451Alive,ra451Bags,rc451Bags,ra451Around,rc451Around,rx451Bags,rF451Bags,uE4,N,H.pick [3,0,1,2,4,5,6,7,8] [0,5,6,7,8,9]⟩
    refine xX H ti38 [yN,yN,yN] fun b460 w461 H=>⟨H.pick [1,3,4,5] [0,1,2,3,4,5,6],(XZ L315 ⟨_,b460,uE8,N,H⟩)⟩
   refine xX H ti38 [yN,yN,yN] fun b462 w463 H=>⟨H.pick [1,3,4,5] [0,1,2,3,4,5,6],(XZ L360 ⟨_,b462,uE9,N,H⟩)⟩
  refine xX H ti38 [yN,yN,yN] fun b464 w465 H=>⟨H.pick [1,3,4,5] [0,1,2,3,4,5,6],(ro 4 rfl (oq (around_ok _ s (H.get 1 rfl).1 (H.get 2 rfl).1) H fun w467 H=>⟨H.pick [1,3,4,5] [0,1,2,3,4,5,6],(XZ L360 ⟨_,b464,uE9,N,H⟩)⟩))⟩
 clear H N
 rintro ρ w469 ⟨xP,b241,ra242,rc243,ra244,rc245,ra246,rc247,rx248,rF249,rfl,N,H⟩
 refine t_n (zcc (sp (.slice (aa b36 0) s.qw.length s.qw.length) (oN rfl (sw (o_sub s.qw.length 1 rfl rfl qf (sp (yI (s.qw.length - 1)) (zjn (qW ?_))))))))
 obtain rfl:i=s.qx.length:=by omega
 have hl:=stepped_live p1 E_bags qf
 obtain ⟨s1,s2⟩:=step_tab E_bags
 rw [show (⟨t.qy,(bags.take s.qw.length),bags[s.qw.length]!⟩:qH)=xx s t counts from by rw [show bags.take s.qw.length=_ from s1,show bags[s.qw.length]! =_ from s2];rfl] at H
 refine zo (fun m' ρ w470=>∃ (xP:Env) (c:Int) (out_Alive:List Bool) (out_Bags:yLL) (zM:List Value) (xZ:yLN) (j:Nat),ρ=upd (upd (upd (upd (upd xP 3 (pp b1 0)) 6 (pp b5 0)) 9 (.slice (aa b36 0) s.qw.length s.qw.length)) 13 (pp b241 0)) 14 (yI c)∧out_Alive=(xu s counts (xx s t counts) j).qy∧out_Bags=(xu s counts (xx s t counts) j).qE∧(c=(s.qw.length:Int) - 1 - j)∧(j+1≤s.qw.length)∧m' =(c:Int).toNat∧Fresh w.heap.size [xZ]∧St w w470 [.box b241 [.slice ra242 (((xx s t counts).qy).length) rc243,.slice ra244 (((xx s t counts).qE).length) rc245,.slice ra246 (((xx s t counts).qA).length) rc247] 38,rr ra242 (((xx s t counts).qy).length) rc243 4 1 (out_Alive.map (Value.bool)),rr ra244 (((xx s t counts).qE).length) rc245 22 1 zM,rr ra246 (((xx s t counts).qA).length) rc247 2 1 (((xx s t counts).qA).map (Value.int .i64)),rr (aa b36 0) s.qw.length s.qw.length 4 1 ((yE s counts s.qw.length s.qx.length).map (Value.bool)),.box b5 [yN,yN,yN] 38,.box b3 (yT t qU qP xm xh qM qL) 38,.box b1 (yS s qC qB qN qJ) 36] [zh true xZ zM out_Bags,sF false qY qC qB s.qw,sF false xF qN qJ s.qx,sF false xN qU qP t.qy,sF false zq xm xh t.qE,sF false xE qM qL t.qA]) (((s.qw.length - 1):Int).toNat) ⟨_,s.qw.length - 1,(xx s t counts).qy,(xx s t counts).qE,rx248,rF249,0,uE5,(by rfl),(by rfl),qf,qf,rfl,N,H.pick [0,1,2,3,4,6,7,8] [0,1,2,3,4,5]⟩ ?_
 clear H N
 rintro m' ρ w471 ⟨xP,c,out_Alive,out_Bags,zM,xZ,j,rfl,rfl,rfl,ic,jc,rfl,N,H⟩
 have hn_out_Alive:=H.rowNB 1 rfl
 have YJ:=H.zl (α:=yLI) 2 rfl 0 rfl qj
 have L:=meltDown_live (counts:=counts) p0 hl j qf
 have L1:=L.alive
 have L2:=L.root
 have L3:=L.bags.1
 rw [← QH s counts (xx s t counts) j] at H
 refine zcc (sps [yI c,.bool (decide ((c:Int) > 0))] (zjn (cD rfl (fun h472=>?_) (fun h472=>?_))))
 ·skip
  refine qV (t_n (xO (qW (zcr (sps [.slice (aa b36 0) s.qw.length s.qw.length,yI c] (oI rfl rfl (oL rfl (H.rowBool 4 rfl (iv:=c) (i:=c.toNat) qf qf) (zjn (xH ((yE s counts s.qw.length s.qx.length)[c.toNat]!) rfl (fun h473=>?_) (fun h473=>?_))))))))))
  ·skip
   refine xR (sw (xY (yS s qC qB qN qJ) isAgg36 sizeOf36 rfl (qF (H.cells 7 rfl) 0 3) (sp (yI c) (sw (vC #[.agg #[yI s.xA,.slice qC s.qw.length qB,.slice qN s.qx.length qJ],pp b241 0,yI c] rfl rfl call155 (en func155 ntmps155 ?_))))))
   refine zcr (sw (vG H (yS s qC qB qN qJ) fun b474 w475 H=>zjn (xO ?_)))
   refine jd rfl H fun H=>rt 0 (.agg #[yI s.xA,.slice qC s.qw.length qB,.slice qN s.qx.length qJ]) (Qy (cs:=(yS s qC qB qN qJ)) isAgg36 sizeOf36 rfl (fun _ h=>qF (h.cells 0 rfl) 0 3)) H ?_
   refine rtp 1 (pp b241 0) H ?_
   refine rtp 2 (pp b241 0) H ?_
   refine rt 3 (.agg #[.slice ra242 (((xx s t counts).qy).length) rc243,.slice ra244 (((xx s t counts).qE).length) rc245,.slice ra246 (((xu s counts (xx s t counts) j).qA).length) rc247]) (Qy (cs:=[.slice ra242 (((xx s t counts).qy).length) rc243,.slice ra244 (((xx s t counts).qE).length) rc245,.slice ra246 (((xu s counts (xx s t counts) j).qA).length) rc247]) isAgg38 sizeOf38 rfl (fun _ h=>qF (h.cells 1 rfl) 0 3)) H ?_
   refine rtp 4 (yI c) H ?_
   refine ro 5 rfl ?_
   obtain ⟨G477,hn478,h479⟩:=H.rowIsB 2 rfl
   obtain ⟨G480,hn481,h482⟩:=H.rowIsR (α:=yLI) 3 rfl 0 rfl qj
   obtain ⟨G483,hn484,h485⟩:=H.rowIsI 4 rfl
   refine oq (args_eq (by rw [← hn478,← hn481]) (parentNow_ok _ s (xu s counts (xx s t counts) j) c (H.get 1 rfl).1 (H.get 2 rfl).1 (hn478▸h479) (hn481▸h482) h485 qg qg qg)) H fun w487 H=>?_
   have pin:=YO (s:=s) (t:=(xu s counts (xx s t counts) j)) (c:=c) p0.1 L2 qf qf
   refine ⟨H,(rtp 6 (yI (xy s (xu s counts (xx s t counts) j) c)) H ?_)⟩
   refine xM qh (t_n (xO ?_))
   obtain ⟨b489,rfl⟩:=H.Qz 3 rfl qf
   refine c_cut (fun ρ w492=>∃ (xP:Env) (xs490:List Value) (F491:yLN),ρ=upd (upd (upd xP 1 (pp b241 0)) 2 (yI c)) 3 (pp b474 0)∧Fresh w.heap.size [F491]∧St w w492 [.box b474 (yS s qC qB qN qJ) 36,.box b241 [.slice ra242 (((xx s t counts).qy).length) rc243,.slice (aa b489 0) (((xx s t counts).qE).length) rc245,.slice ra246 (((xu s counts (xx s t counts) j).qA).length) rc247] 38,rr ra242 (((xx s t counts).qy).length) rc243 4 1 (((xu s counts (xx s t counts) j).qy).map (Value.bool)),rr (aa b489 0) (((xx s t counts).qE).length) rc245 22 1 xs490,rr ra246 (((xu s counts (xx s t counts) j).qA).length) rc247 2 1 (((xu s counts (xx s t counts) j).qA).map (Value.int .i64)),rr (aa b36 0) s.qw.length s.qw.length 4 1 ((yE s counts s.qw.length s.qx.length).map (Value.bool)),.box b5 [yN,yN,yN] 38,.box b3 (yT t qU qP xm xh qM qL) 38,.box b1 (yS s qC qB qN qJ) 36] [zh true F491 xs490 (((xu s counts (xx s t counts) j).qE).set ((xy s (xu s counts (xx s t counts) j) c).toNat) (jb (((xu s counts (xx s t counts) j).qE)[(xy s (xu s counts (xx s t counts) j) c).toNat]!) (((xu s counts (xx s t counts) j).qE)[c.toNat]!) 1)),sF false qY qC qB s.qw,sF false xF qN qJ s.qx,sF false xN qU qP t.qy,sF false zq xm xh t.qE,sF false xE qM qL t.qA]) ?_ ?_
   ·skip
    refine Qu rfl H [0,1,2,4,5,6,7,8] fun H=>?_
    have S:=H.yD [0,1,2,4,5,6,7,8] [0,1,2,3,4,5]
    refine rtp 0 (pp b241 0) S ?_
    refine rtp 1 (pp b241 0) S ?_
    refine tF 2 rfl rfl S ?_
    refine tL 3 rfl rfl (fun _ h=>h.cell 1 rfl rfl) S ?_
    refine rtp 4 (yI (xy s (xu s counts (xx s t counts) j) c)) S ?_
    refine rtp 5 (pp b241 0) S ?_
    refine rtp 6 (pp b241 0) S ?_
    refine tF 7 rfl rfl S ?_
    refine tL 8 rfl rfl (fun _ h=>h.cell 1 rfl rfl) S ?_
    refine rtp 9 (yI (xy s (xu s counts (xx s t counts) j) c)) S ?_
    refine tI 10 rfl rfl rfl S ?_
    refine rtp 12 (pp b241 0) S ?_
    refine rtp 13 (pp b241 0) S ?_
    refine tF 14 rfl rfl S ?_
    refine tL 15 rfl rfl (fun _ h=>h.cell 1 rfl rfl) S ?_
    refine rtp 16 (yI c) S ?_
    refine tI 17 rfl rfl rfl S ?_
    refine jo [11,18] qh qm (Qj rfl ?_ (Qj rfl ?_ jq))
    ·skip
     obtain ⟨a494,c495,G496,s497,h498,H⟩:=H.jW 3 rfl 0 rfl (iv:=xy s (xu s counts (xx s t counts) j) c) ((xy s (xu s counts (xx s t counts) j) c).toNat) qf qf
     refine zK (.slice a494 ((((xu s counts (xx s t counts) j).qE)[(xy s (xu s counts (xx s t counts) j) c).toNat]!).length) c495) isAgg22 rfl (h498) (⟨H.pick [0,1,2,4,5,6,7,8] [1,2,3,4,5,6],(ro 18 rfl ?_)⟩)
     obtain ⟨a499,c500,G501,s502,h503,H⟩:=H.jW 3 rfl 1 rfl (iv:=c) c.toNat qf qf
     refine zK (.slice a499 ((((xu s counts (xx s t counts) j).qE)[c.toNat]!).length) c500) isAgg22 rfl (h503) (⟨H.pick [0,1,2,4,5,6,7,8] [2,3,4,5,6,7],(ro 19 rfl ?_)⟩)
     obtain ⟨u1,u2,u4⟩:=L.rows p0 (bnd_le qf) (p:=(xy s (xu s counts (xx s t counts) j) c).toNat) (c:=c.toNat) qf qf
     have sz504:=H.base.size
     have lt505:=H.ltN (L:=[xZ]) [2]
     refine oc (plus_ok _ (((xu s counts (xx s t counts) j).qE)[(xy s (xu s counts (xx s t counts) j) c).toNat]!) (((xu s counts (xx s t counts) j).qE)[c.toNat]!) 1 (H.get 1 rfl).1 (H.get 0 rfl).1 qg qg qg) ?_
     rintro v509 w507 r509 x508
     replace H:=H.zB x508 r509
     obtain ⟨a510,c511,rfl,hc512,hm513⟩:=H.jm 0 rfl
     refine ⟨H.pick [1,2,3,5,6,7,8,9] [2,3,4,5,6,7],(tI 20 rfl rfl rfl (H.pick [1,2,3,5,6,7,8,9] [2,3,4,5,6,7]) ?_)⟩
     refine ro 21 rfl ?_
     obtain ⟨G515,N,hn516,H⟩:=H.vW 0 rfl N (H.jQ [2])
     refine jH true H 4 rfl 3 rfl (.slice a510 ((jb (((xu s counts (xx s t counts) j).qE)[(xy s (xu s counts (xx s t counts) j) c).toNat]!) (((xu s counts (xx s t counts) j).qE)[c.toNat]!) 1).length) c511) 0 rfl rfl sizeOf22 rfl rfl (i:=((xy s (xu s counts (xx s t counts) j) c).toNat)) qf qf qm fun w514 xs517 F518 hs519 H=>?_
     replace N:Fresh w.heap.size [F518]:=(N.pick [1,0]).repl hs519
     refine ⟨H.pick [1,2,3,5,6,7,8,9] [4,5,6,7,8,9],(xM qh ((meet ⟨_,xs517,F518,uE3,N,H.pick [1,2,3,4,5,6,7,8,9] [0,5,6,7,8,9]⟩)))⟩
    obtain ⟨a520,c521,G522,s523,h524,H⟩:=H.jW 3 rfl 0 rfl (iv:=c) c.toNat qf qf
    refine zK (.slice a520 ((((xu s counts (xx s t counts) j).qE)[c.toNat]!).length) c521) isAgg22 rfl (h524) (⟨H.pick [0,1,2,4,5,6,7,8] [1,2,3,4,5,6],(ro 11 rfl ?_)⟩)
    obtain ⟨a525,c526,G527,s528,h529,H⟩:=H.jW 3 rfl 1 rfl (iv:=xy s (xu s counts (xx s t counts) j) c) ((xy s (xu s counts (xx s t counts) j) c).toNat) qf qf
    refine zK (.slice a525 ((((xu s counts (xx s t counts) j).qE)[(xy s (xu s counts (xx s t counts) j) c).toNat]!).length) c526) isAgg22 rfl (h529) (⟨H.pick [0,1,2,4,5,6,7,8] [2,3,4,5,6,7],(ro 19 rfl ?_)⟩)
    obtain ⟨u1,u2,u4⟩:=L.rows p0 (bnd_le qf) (p:=(xy s (xu s counts (xx s t counts) j) c).toNat) (c:=c.toNat) qf qf
    have sz530:=H.base.size
    have lt531:=H.ltN (L:=[xZ]) [2]
    refine oc (plus_ok _ (((xu s counts (xx s t counts) j).qE)[(xy s (xu s counts (xx s t counts) j) c).toNat]!) (((xu s counts (xx s t counts) j).qE)[c.toNat]!) 1 (H.get 0 rfl).1 (H.get 1 rfl).1 qg qg qg) ?_
    rintro v535 w533 r535 x534
    replace H:=H.zB x534 r535
    obtain ⟨a536,c537,rfl,hc538,hm539⟩:=H.jm 0 rfl
    refine ⟨H.pick [1,2,3,5,6,7,8,9] [2,3,4,5,6,7],(tI 20 rfl rfl rfl (H.pick [1,2,3,5,6,7,8,9] [2,3,4,5,6,7]) ?_)⟩
    refine ro 21 rfl ?_
    obtain ⟨G541,N,hn542,H⟩:=H.vW 0 rfl N (H.jQ [2])
    refine jH true H 4 rfl 3 rfl (.slice a536 ((jb (((xu s counts (xx s t counts) j).qE)[(xy s (xu s counts (xx s t counts) j) c).toNat]!) (((xu s counts (xx s t counts) j).qE)[c.toNat]!) 1).length) c537) 0 rfl rfl sizeOf22 rfl rfl (i:=((xy s (xu s counts (xx s t counts) j) c).toNat)) qf qf qm fun w540 xs543 F544 hs545 H=>?_
    replace N:Fresh w.heap.size [F544]:=(N.pick [1,0]).repl hs545
    refine ⟨H.pick [1,2,3,5,6,7,8,9] [4,5,6,7,8,9],(xM qh ((meet ⟨_,xs543,F544,uE3,N,H.pick [1,2,3,4,5,6,7,8,9] [0,5,6,7,8,9]⟩)))⟩
   clear H N
   rintro ρ w546 ⟨xP,xs490,F491,rfl,N,H⟩
   refine t_n (xO ?_)
   refine Qu rfl H [0,1,2,4,5,6,7,8] fun H=>?_
   have S:=H.yD [0,1,2,4,5,6,7,8] [0,1,2,3,4,5]
   refine rtp 0 (pp b241 0) S ?_
   refine rtp 1 (pp b241 0) S ?_
   refine tF 2 rfl rfl S ?_
   refine tL 3 rfl rfl (fun _ h=>h.cell 1 rfl rfl) S ?_
   refine rtp 4 (yI c) S ?_
   refine tF 5 rfl rfl S ?_
   refine tL 6 rfl rfl (fun _ h=>h.cell 0 rfl rfl) S ?_
   refine ro 7 rfl (XO H underlying22 ti2 s.xA.toNat rfl rfl qf qf qf fun b548 w549 H=>⟨H.pick [1,2,3,5,6,7,8,9] [0,1,2,3,4,5],(tI 8 rfl rfl rfl (H.pick [1,2,3,5,6,7,8,9] [0,1,2,3,4,5]) ?_)⟩)
   refine ro 9 rfl ?_
   obtain ⟨G551,N,hn552,H⟩:=H.vW 0 rfl N (H.jQ [0])
   refine jH true H 4 rfl 1 rfl (.slice (aa b548 0) s.xA.toNat s.xA.toNat) 0 rfl rfl sizeOf22 rfl rfl (i:=c.toNat) qf qf qm fun w550 xs553 F554 hs555 H=>?_
   replace N:Fresh w.heap.size [F554]:=(N.pick [1,0]).repl hs555
   refine ⟨H.pick [1,2,3,5,6,7,8,9] [2,3,4,5,6,7],(xM qh (t_n (xR (sps [pp b241 0,pp b241 0] (oF rfl (oL rfl (H.cell 2 rfl rfl) (sp (yI c) ?_)))))))⟩
   obtain ⟨b556,rfl⟩:=H.Qz 3 rfl qf
   refine oI rfl rfl (sw (Q9 H 3 rfl false sizeOf4 rfl rfl (i:=c.toNat) qf qf fun w557 H=>xU (ret0 rfl ⟨_,rfl,?_⟩)))
   replace H:=H.erases [1,0]
   dsimp only [vX,List.eraseIdx] at H
   refine xU (b_n (t_n (xR (sp (yI c) (sw (o_sub c 1 rfl rfl qf (sp (yI (c - 1)) (xU ?_))))))))
   rw [QH] at H
   refine qZ (m' :=((c - 1):Int).toNat) qf ⟨_,c - 1,(((xu s counts (xx s t counts) j).qy).set c.toNat false),((((xu s counts (xx s t counts) j).qE).set ((xy s (xu s counts (xx s t counts) j) c).toNat) (jb (((xu s counts (xx s t counts) j).qE)[(xy s (xu s counts (xx s t counts) j) c).toNat]!) (((xu s counts (xx s t counts) j).qE)[c.toNat]!) 1)).set c.toNat (List.replicate s.xA.toNat (0:Int))),xs553,F554,j+1,uE5,?_,?_,?_,?_,rfl,N,H.pick [0,1,2,3,4,5,6,7] [0,3,4,5,6,7]⟩
   · first | (rw [meltDown_yesL (c:=c) ‹_› qf qf rfl ic];rfl) | rw [meltDown_noL (c:=c) ‹_› qf qf rfl ic]
   · first | (rw [meltDown_yesL (c:=c) ‹_› qf qf rfl ic];rfl) | rw [meltDown_noL (c:=c) ‹_› qf qf rfl ic]
   · omega
   · omega
  refine qV (b_n (t_n (xR (sp (yI c) (sw (o_sub c 1 rfl rfl qf (sp (yI (c - 1)) (xU ?_))))))))
  rw [QH] at H
  refine qZ (m' :=((c - 1):Int).toNat) qf ⟨_,c - 1,((xu s counts (xx s t counts) j).qy),((xu s counts (xx s t counts) j).qE),zM,xZ,j+1,uE5,?_,?_,?_,?_,rfl,N,H⟩
  · first | (rw [meltDown_yesL (c:=c) ‹_› qf qf rfl ic];rfl) | rw [meltDown_noL (c:=c) ‹_› qf qf rfl ic]
  · first | (rw [meltDown_yesL (c:=c) ‹_› qf qf rfl ic];rfl) | rw [meltDown_noL (c:=c) ‹_› qf qf rfl ic]
  · omega
  · omega
 refine zx4 (zcr (sw (xY (yS s qC qB qN qJ) isAgg36 sizeOf36 rfl (qF (H.cells 7 rfl) 0 3) (sw (xY [.slice ra242 (((xx s t counts).qy).length) rc243,.slice ra244 (((xx s t counts).qE).length) rc245,.slice ra246 (((xu s counts (xx s t counts) j).qA).length) rc247] isAgg38 sizeOf38 rfl (qF (H.cells 0 rfl) 0 3) ?_)))))
 refine sw (vC #[.agg #[yI s.xA,.slice qC s.qw.length qB,.slice qN s.qx.length qJ],.agg #[.slice ra242 (((xx s t counts).qy).length) rc243,.slice ra244 (((xx s t counts).qE).length) rc245,.slice ra246 (((xu s counts (xx s t counts) j).qA).length) rc247]] rfl rfl call156 (en func156 ntmps156 ?_))
 refine zcr (sw (vG H (yS s qC qB qN qJ) fun b558 w559 H=>sw (vG H [.slice ra242 (((xx s t counts).qy).length) rc243,.slice ra244 (((xx s t counts).qE).length) rc245,.slice ra246 (((xu s counts (xx s t counts) j).qA).length) rc247] fun b560 w561 H=>sw (xX H ti38 [yN,yN,yN] fun b562 w563 H=>sp (yI 0) (zjcc ?_)))))
 refine sw (xY (yS s qC qB qN qJ) isAgg36 sizeOf36 rfl (qF (H.cells 2 rfl) 0 3) (sw (xY [.slice ra242 (((xx s t counts).qy).length) rc243,.slice ra244 (((xx s t counts).qE).length) rc245,.slice ra246 (((xu s counts (xx s t counts) j).qA).length) rc247] isAgg38 sizeOf38 rfl (qF (H.cells 1 rfl) 0 3) ?_)))
 obtain ⟨G564,hn565,h566⟩:=H.rowIsB 4 rfl
 obtain ⟨G567,hn568,h569⟩:=H.rowIsR (α:=yLI) 5 rfl 0 rfl qj
 obtain ⟨G570,hn571,h572⟩:=H.rowIsI 6 rfl
 refine sw (oq (args_eq (by rw [← hn565,← hn568]) (validState_ok _ s (xu s counts (xx s t counts) j) (H.get 1 rfl).1 (H.get 2 rfl).1 (hn565▸h566) (hn568▸h569) h572)) H fun w574 H=>sp (.bool (!(dec (yj s∧zH s (xu s counts (xx s t counts) j))))) (zjn (cQ rfl (fun h576=>?_) (fun h576=>?_))))
 ·skip
  refine zcr (sw (jr [yN,yN,yN] [] (sw (zt H 0 [yN,yN,yN] sizeOf38 fun w577 H=>sp (yI 3) (zjr (t_r (retC2 H 0 rfl (yI 3) rfl isAgg38 sizeOf38 rfl rfl ⟨_,rfl,?_⟩)))))))
  replace H:=H.erases [2,1,0]
  dsimp only [vX,List.eraseIdx] at H
  refine sps [.agg #[yN,yN,yN],yI 3] (sw (zt H 5 [yN,yN,yN] sizeOf38 fun w578 H=>sp (yI 3) (zjr ?_)))
  replace H:=H.nilRowB 4
  replace H:=H.nilRow 22 1
  replace H:=H.vP (α:=yLI)
  replace H:=H.nilRowI 2
  refine retC2 H 8 rfl (yI 3) rfl isAgg38 sizeOf38 rfl rfl ⟨_,rfl,?_,H.base⟩
  rw [stepBy_yes p3,stepRes,show jg s - 1=j by omega,told_no (fun h=>‹¬ (yj s∧_)› ⟨p0,h⟩)]
  exact ⟨none,0,0,none,0,0,[],[],none,0,0,rfl,(N.emp.pick [0]),H.pick [2,1,0] [0]⟩
 refine qV (t_n (zcr (sw (xY [.slice ra242 (((xx s t counts).qy).length) rc243,.slice ra244 (((xx s t counts).qE).length) rc245,.slice ra246 (((xu s counts (xx s t counts) j).qA).length) rc247] isAgg38 sizeOf38 rfl (qF (H.cells 1 rfl) 0 3) (sw (zt H 0 [.slice ra242 (((xx s t counts).qy).length) rc243,.slice ra244 (((xx s t counts).qE).length) rc245,.slice ra246 (((xu s counts (xx s t counts) j).qA).length) rc247] sizeOf38 fun w579 H=>sp (yI 0) (zjr (retC2 H 0 rfl (yI 0) rfl isAgg38 sizeOf38 rfl rfl ⟨_,rfl,?_⟩))))))))
 replace H:=H.erases [2,1,0]
 dsimp only [vX,List.eraseIdx] at H
 refine sps [.agg #[.slice ra242 (((xx s t counts).qy).length) rc243,.slice ra244 (((xx s t counts).qE).length) rc245,.slice ra246 (((xu s counts (xx s t counts) j).qA).length) rc247],yI 0] (sw (zt H 5 [.slice ra242 (((xx s t counts).qy).length) rc243,.slice ra244 (((xx s t counts).qE).length) rc245,.slice ra246 (((xu s counts (xx s t counts) j).qA).length) rc247] sizeOf38 fun w580 H=>sp (yI 0) (zjr (retC2 H 5 rfl (yI 0) rfl isAgg38 sizeOf38 rfl rfl ⟨_,rfl,?_,H.base⟩))))
 rw [stepBy_yes p3,stepRes,show jg s - 1=j by omega,told_yes (‹yj s∧_›:yj s∧_).2]
 exact ⟨ra242,((xx s t counts).qy).length,rc243,ra244,((xx s t counts).qE).length,rc245,zM,xZ,ra246,((xu s counts (xx s t counts) j).qA).length,rc247,rfl,N,H.pick [1,2,3] [0]⟩
theorem eqStateS_ok (w:World) (x:List qH) (y:List qH) {ax:yOA} {Fx:yLN} {ay:yOA} {cy:Nat} {Fy:yLN} (hx:qO.rep w Fx [.slice ax x.length cx] x) (hy:qO.rep w Fy [.slice ay y.length cy] y):Calls Tryz.prog 29 #[.slice ax x.length cx,.slice ay y.length cy] w (Ret (fun v w' =>v=.bool (decide (x=y))) w):=by
 refine en func29 ntmps29 ?_
 have H:=((St.start w).arg hy).arg hx
 have nhx:=qK hx
 have nhy:=qK hy
 clear hx hy
 refine zcr (sp (.bool false) (zjcc (sp (.slice ax x.length cx) (oN rfl (sp (.slice ay y.length cy) (oN rfl (sp (.bool ((x.length:Int) != y.length)) (zjn (xH ((x.length:Int) != y.length) rfl (fun h1=>?_) (fun h1=>?_))))))))))
 ·skip
  replace h1:=bne_iff_ne.1 h1
  refine zcr (sp (.bool false) (zjr (t_r (ret1 (.bool false) rfl rfl ⟨_,rfl,?_,H.base⟩))))
  first | rw [decide_eq_false (fun e=>by subst e;omega)] | rw [decide_eq_false (vJ (k:=k) ‹_›)] | rw [decide_eq_true (vS (k:=k) qf qf ‹_›)]
 replace h1:=xq h1
 refine qV (t_n (zcc (sp (yI 0) (zjn (qW ?_)))))
 refine zo (fun m' ρ w2=>∃ (xP:Env) (k:Nat),ρ=upd (upd (upd xP 0 (.slice ax x.length cx)) 1 (.slice ay y.length cy)) 5 (yI k)∧(k≤x.length)∧(x.take k=y.take k)∧m' =x.length - k∧St w w2 [] [sF false Fx ax cx x,sF false Fy ay cy y]) (x.length - 0) ⟨_,0,uE3,qf,(by rfl),rfl,H⟩ ?_
 clear H
 rintro m' ρ w3 ⟨xP,k,rfl,i0,i1,rfl,H⟩
 refine zcc (sps [yI k,.slice ax x.length cx] (oN rfl (sp (.bool (decide ((k:Int) < x.length))) (zjn (cD rfl (fun h4=>?_) (fun h4=>?_))))))
 ·skip
  refine qV (t_n (xO (qW (xO ?_))))
  refine jd rfl H fun H=>rtp 0 (.slice ax x.length cx) H ?_
  refine rtp 1 (yI k) H ?_
  obtain ⟨b6,o7,rfl⟩:=H.addr 0 rfl qf
  obtain ⟨ae8Alive,ce8Alive,Fe8Alive,ae8Bags,ce8Bags,Fe8Bags,ae8Around,ce8Around,Fe8Around,H⟩:=H.elem_StateD 0 rfl k k qf qf qf
  refine tI 2 rfl rfl rfl (H.sel _ (.refl _) _ (fun _ h=>List.mem_cons_of_mem _ (List.mem_cons_of_mem _ (List.mem_cons_of_mem _ (List.mem_cons_of_mem _ (h)))))) ?_
  refine rtp 4 (.slice ay y.length cy) (H.sel _ (.refl _) _ (fun _ h=>List.mem_cons_of_mem _ (List.mem_cons_of_mem _ (List.mem_cons_of_mem _ (List.mem_cons_of_mem _ (h)))))) ?_
  refine rtp 5 (yI k) (H.sel _ (.refl _) _ (fun _ h=>List.mem_cons_of_mem _ (List.mem_cons_of_mem _ (List.mem_cons_of_mem _ (List.mem_cons_of_mem _ (h)))))) ?_
  obtain ⟨b9,o10,rfl⟩:=H.addr 5 rfl qf
  obtain ⟨ae11Alive,ce11Alive,Fe11Alive,ae11Bags,ce11Bags,Fe11Bags,ae11Around,ce11Around,Fe11Around,H⟩:=H.elem_StateD 5 rfl k k qf qf qf
  refine tI 6 rfl rfl rfl (H.sel _ (.refl _) _ (fun _ h=>List.mem_cons_of_mem _ (List.mem_cons_of_mem _ (List.mem_cons_of_mem _ (List.mem_cons_of_mem _ (List.mem_cons_of_mem _ (List.mem_cons_of_mem _ (List.mem_cons_of_mem _ (List.mem_cons_of_mem _ (h)))))))))) ?_
  refine jo [3,7] qh qm (Qj rfl ?_ (Qj rfl ?_ jq))
  ·skip
   refine xY [.slice ae8Alive (((x[k]!).qy).length) ce8Alive,.slice ae8Bags (((x[k]!).qE).length) ce8Bags,.slice ae8Around (((x[k]!).qA).length) ce8Around] isAgg38 sizeOf38 rfl (qF (H.get 7 rfl) 0 3) (⟨H.dF 8,(ro 7 rfl (xY [.slice ae11Alive (((y[k]!).qy).length) ce11Alive,.slice ae11Bags (((y[k]!).qE).length) ce11Bags,.slice ae11Around (((y[k]!).qA).length) ce11Around] isAgg38 sizeOf38 rfl (qF (H.get 3 rfl) 0 3) (⟨H.dF 8,(ro 8 rfl (oq (eqState_ok _ (x[k]!) (y[k]!) (H.get 4 rfl).1 (H.get 5 rfl).1 (H.get 6 rfl).1 (H.get 0 rfl).1 (H.get 1 rfl).1 (H.get 2 rfl).1) H fun w12 H=>⟨H.dF 8,?_⟩))⟩)))⟩)
   refine rtp 9 (.bool (!(decide ((x[k]!)=(y[k]!))))) (H.sel _ (.refl _) _ (fun _ h=>List.mem_cons_of_mem _ (List.mem_cons_of_mem _ (List.mem_cons_of_mem _ (List.mem_cons_of_mem _ (List.mem_cons_of_mem _ (List.mem_cons_of_mem _ (List.mem_cons_of_mem _ (List.mem_cons_of_mem _ (h)))))))))) ?_
   refine xM qh (t_n (xH (!(decide ((x[k]!)=(y[k]!)))) rfl (fun h14=>?_) (fun h14=>?_)))
   ·skip
    replace h14:=xn h14
    replace h14:=of_decide_eq_false h14
    refine zcr (sp (.bool false) (zjr (zr5 (ret1 (.bool false) rfl rfl ⟨_,rfl,?_,H.base⟩))))
    first | rw [decide_eq_false (fun e=>by subst e;omega)] | rw [decide_eq_false (vJ (k:=k) ‹_›)] | rw [decide_eq_true (vS (k:=k) qf qf ‹_›)]
   replace h14:=xg h14
   replace h14:=of_decide_eq_true h14
   refine qV (b_n (t_n (xR (sp (yI k) (sw (zu k 1 rfl rfl qf (sp (yI (k+1)) (xU (qZ (m' :=x.length - (k+1)) qf ⟨_,k+1,uE3,?_,?_,rfl,H.sel _ (.refl _) _ qm⟩)))))))))
   · omega
   · exact QT qf qf ‹_› qg
  refine xY [.slice ae11Alive (((y[k]!).qy).length) ce11Alive,.slice ae11Bags (((y[k]!).qE).length) ce11Bags,.slice ae11Around (((y[k]!).qA).length) ce11Around] isAgg38 sizeOf38 rfl (qF (H.get 3 rfl) 0 3) (⟨H.dF 8,(ro 3 rfl (xY [.slice ae8Alive (((x[k]!).qy).length) ce8Alive,.slice ae8Bags (((x[k]!).qE).length) ce8Bags,.slice ae8Around (((x[k]!).qA).length) ce8Around] isAgg38 sizeOf38 rfl (qF (H.get 7 rfl) 0 3) (⟨H.dF 8,(ro 8 rfl (oq (eqState_ok _ (x[k]!) (y[k]!) (H.get 4 rfl).1 (H.get 5 rfl).1 (H.get 6 rfl).1 (H.get 0 rfl).1 (H.get 1 rfl).1 (H.get 2 rfl).1) H fun w15 H=>⟨H.dF 8,?_⟩))⟩)))⟩)
  refine rtp 9 (.bool (!(decide ((x[k]!)=(y[k]!))))) (H.sel _ (.refl _) _ (fun _ h=>List.mem_cons_of_mem _ (List.mem_cons_of_mem _ (List.mem_cons_of_mem _ (List.mem_cons_of_mem _ (List.mem_cons_of_mem _ (List.mem_cons_of_mem _ (List.mem_cons_of_mem _ (List.mem_cons_of_mem _ (h)))))))))) ?_
  refine xM qh (t_n (xH (!(decide ((x[k]!)=(y[k]!)))) rfl (fun h17=>?_) (fun h17=>?_)))
  ·skip
   replace h17:=xn h17
   replace h17:=of_decide_eq_false h17
   refine zcr (sp (.bool false) (zjr (zr5 (ret1 (.bool false) rfl rfl ⟨_,rfl,?_,H.base⟩))))
   first | rw [decide_eq_false (fun e=>by subst e;omega)] | rw [decide_eq_false (vJ (k:=k) ‹_›)] | rw [decide_eq_true (vS (k:=k) qf qf ‹_›)]
  replace h17:=xg h17
  replace h17:=of_decide_eq_true h17
  refine qV (b_n (t_n (xR (sp (yI k) (sw (zu k 1 rfl rfl qf (sp (yI (k+1)) (xU (qZ (m' :=x.length - (k+1)) qf ⟨_,k+1,uE3,?_,?_,rfl,H.sel _ (.refl _) _ qm⟩)))))))))
  · omega
  · exact QT qf qf ‹_› qg
 refine zx4 (zcr (sp (.bool true) (zjr (ret1 (.bool true) rfl rfl ⟨_,rfl,?_,H.base⟩))))
 first | rw [decide_eq_false (fun e=>by subst e;omega)] | rw [decide_eq_false (vJ (k:=k) ‹_›)] | rw [decide_eq_true (vS (k:=k) qf qf ‹_›)]

theorem markStateS_ok (w:World) (x:List qH) (kk:Int) (ax:yOA) (cx:Nat) (Fx:yLN) (hx:qO.rep w Fx [.slice ax x.length cx] x) (nd:Fx.Nodup) (fr:zU w Fx) (p0:0≤kk) (p1:kk+(cnt x:Nat)≤4611686018427387904):Calls Tryz.prog 30 #[.slice ax x.length cx,yI kk] w (RetM (fun v w' =>v=yI (kk+(cnt x:Nat))∧(isF true Fx (.slice ax x.length cx) (mrk x kk)).φ w') Fx w):=by
 refine en func30 ntmps30 ?_
 have H:=St.start w
 replace H:=H.add (sF true Fx ax cx x) ⟨hx,fun _=>fr.sub (by intro z hz;simp [hz])⟩ (Yv hx)
 have nhx:=qK hx
 clear hx
 have C:Chg Fx w w:=Chg.refl _ _
 have N:([Fx]:List yLN).flatten.Nodup:=by simpa using nd
 refine zcr (sp (yI 0) (zjcc (sp (yI 0) (zjn (qW ?_)))))
 replace H:St w w [] [isF true Fx (.slice ax x.length cx) (vK x kk 0)]:=by rw [markTo_zero];exact H
 refine zo (fun m' ρ w1=>∃ (xP:Env) (k:Nat) (r:Int) (W:World),ρ=upd (upd (upd (upd xP 0 (.slice ax x.length cx)) 1 (yI r)) 4 (yI 0)) 5 (yI k)∧(k≤x.length)∧(r=kk+(VU x k:Nat))∧(Chg Fx w W)∧m' =x.length - k∧St W w1 [] [isF true Fx (.slice ax x.length cx) (vK x kk k)]) (x.length - 0) ⟨_,0,kk,w,uE4,qf,(by exact (Int.add_zero _).symm),(by exact C),rfl,H⟩ ?_
 clear H
 rintro m' ρ w2 ⟨xP,k,r,W,rfl,i0,i1,C,rfl,H⟩
 have hc:=fun h=>cnt_get (l:=x) (k:=k) h
 refine zcc (sps [yI k,.slice ax x.length cx] (oN rfl (sp (.bool (decide ((k:Int) < x.length))) (zjn (cD rfl (fun h3=>?_) (fun h3=>?_))))))
 ·skip
  refine qV (t_n (xO (qW (zcr (sps [.slice ax x.length cx,yI k] ?_)))))
  obtain ⟨b4,o5,rfl⟩:=H.addr 0 rfl (by rw [vV _ _ qf];omega)
  obtain ⟨xs1,xs2,G1,G2,aqAlive,cqAlive,FqAlive,aqBags,cqBags,FqBags,aqAround,cqAround,FqAround,rfl,hx,H,N⟩:=H.open_StateD nd k (by rw [vV _ _ qf];omega) (markTo_get _ _ qf)
  refine oI rfl rfl (oF rfl (oL rfl (H.Yz _ 0 hx rfl) (sp (yI r) (sw (XP #[.slice aqAlive (((x[k]!).qy).length) cqAlive,yI r] rfl rfl call70 (markBoolS_ok w2 ((x[k]!).qy) r aqAlive cqAlive FqAlive (H.get 1 rfl).1 (Qr N 1 rfl) ((H.get 1 rfl).2 rfl) (by (have:=hc qf;have e:=Qb (x[k]!);omega)) (by (have:=hc qf;have e:=Qb (x[k]!);omega))) ?_)))))
  rintro _ w6 ⟨rfl,m10⟩ x8
  obtain ⟨W7,C9,H⟩:=H.chgAt N 1 rfl (isF true FqAlive (.slice aqAlive (((x[k]!).qy).length) cqAlive) (mrk ((x[k]!).qy) r)) rfl x8 m10
  replace C:=C.trans (C9.mono (by intro z hz;have hz:z∈FqAlive:=hz;simp [hz]))
  replace H:St _ _ _ [Vq b4 o5 xs1 [.slice aqAlive (((x[k]!).qy).length) cqAlive,.slice aqBags (((x[k]!).qE).length) cqBags,.slice aqAround (((x[k]!).qA).length) cqAround] xs2 G1 G2 ((vK x kk k).take k) ((vK x kk k).drop (k+1)),isF true FqAlive (.slice aqAlive (((x[k]!).qy).length) cqAlive) (mrk ((x[k]!).qy) r),sF true FqBags aqBags cqBags ((x[k]!).qE),sF true FqAround aqAround cqAround ((x[k]!).qA)]:=H
  refine sp (yI (r+(cnt ((x[k]!).qy):Nat))) (zjc (sps [.slice (aa b4 o5) x.length cx,yI k] (oI rfl rfl (oF rfl (oL rfl (H.Yz _ 1 hx rfl) (sp (yI (r+(cnt ((x[k]!).qy):Nat))) (sw (XP #[.slice aqBags (((x[k]!).qE).length) cqBags,yI (r+(cnt ((x[k]!).qy):Nat))] rfl rfl call25 (markInt64SS_ok w6 ((x[k]!).qE) (r+(cnt ((x[k]!).qy):Nat)) aqBags cqBags FqBags (H.get 2 rfl).1 (Qr N 2 rfl) ((H.get 2 rfl).2 rfl) (by (have:=hc qf;have e:=Qb (x[k]!);omega)) (by (have:=hc qf;have e:=Qb (x[k]!);omega))) ?_))))))))
  rintro _ w11 ⟨rfl,m15⟩ x13
  obtain ⟨W12,C14,H⟩:=H.chgAt N 2 rfl (isF true FqBags (.slice aqBags (((x[k]!).qE).length) cqBags) (mrk ((x[k]!).qE) (r+(cnt ((x[k]!).qy):Nat)))) rfl x13 m15
  replace C:=C.trans (C14.mono (by intro z hz;have hz:z∈FqBags:=hz;simp [hz]))
  replace H:St _ _ _ [Vq b4 o5 xs1 [.slice aqAlive (((x[k]!).qy).length) cqAlive,.slice aqBags (((x[k]!).qE).length) cqBags,.slice aqAround (((x[k]!).qA).length) cqAround] xs2 G1 G2 ((vK x kk k).take k) ((vK x kk k).drop (k+1)),isF true FqAlive (.slice aqAlive (((x[k]!).qy).length) cqAlive) (mrk ((x[k]!).qy) r),isF true FqBags (.slice aqBags (((x[k]!).qE).length) cqBags) (mrk ((x[k]!).qE) (r+(cnt ((x[k]!).qy):Nat))),sF true FqAround aqAround cqAround ((x[k]!).qA)]:=H
  refine sp (yI (r+(cnt ((x[k]!).qy):Nat)+(cnt ((x[k]!).qE):Nat))) (zjn (xR (sps [.slice (aa b4 o5) x.length cx,yI k] (oI rfl rfl (oF rfl (oL rfl (H.Yz _ 2 hx rfl) (sp (yI (r+(cnt ((x[k]!).qy):Nat)+(cnt ((x[k]!).qE):Nat))) ?_)))))))
  refine sw (XP #[.slice aqAround (((x[k]!).qA).length) cqAround,yI (r+(cnt ((x[k]!).qy):Nat)+(cnt ((x[k]!).qE):Nat))] rfl rfl call68 (QF w11 ((x[k]!).qA) (r+(cnt ((x[k]!).qy):Nat)+(cnt ((x[k]!).qE):Nat)) aqAround cqAround FqAround (H.get 3 rfl).1 (Qr N 3 rfl) ((H.get 3 rfl).2 rfl) (by (have:=hc qf;have e:=Qb (x[k]!);omega)) (by (have:=hc qf;have e:=Qb (x[k]!);omega))) ?_)
  rintro _ w16 ⟨rfl,m20⟩ x18
  obtain ⟨W17,C19,H⟩:=H.chgAt N 3 rfl (isF true FqAround (.slice aqAround (((x[k]!).qA).length) cqAround) (mrk ((x[k]!).qA) (r+(cnt ((x[k]!).qy):Nat)+(cnt ((x[k]!).qE):Nat)))) rfl x18 m20
  replace C:=C.trans (C19.mono (by intro z hz;have hz:z∈FqAround:=hz;simp [hz]))
  replace H:St _ _ _ [Vq b4 o5 xs1 [.slice aqAlive (((x[k]!).qy).length) cqAlive,.slice aqBags (((x[k]!).qE).length) cqBags,.slice aqAround (((x[k]!).qA).length) cqAround] xs2 G1 G2 ((vK x kk k).take k) ((vK x kk k).drop (k+1)),isF true FqAlive (.slice aqAlive (((x[k]!).qy).length) cqAlive) (mrk ((x[k]!).qy) r),isF true FqBags (.slice aqBags (((x[k]!).qE).length) cqBags) (mrk ((x[k]!).qE) (r+(cnt ((x[k]!).qy):Nat))),isF true FqAround (.slice aqAround (((x[k]!).qA).length) cqAround) (mrk ((x[k]!).qA) (r+(cnt ((x[k]!).qy):Nat)+(cnt ((x[k]!).qE):Nat)))]:=H
  refine sp (yI (r+(cnt ((x[k]!).qy):Nat)+(cnt ((x[k]!).qE):Nat)+(cnt ((x[k]!).qA):Nat))) (xU (b_n (t_n (xR (sp (yI k) (sw (zu k 1 rfl rfl (by (have:=hc qf;have e:=Qb (x[k]!);omega)) (sp (yI (k+1)) (xU ?_)))))))))
  replace H:=H.closeAt (y:=mrk (x[k]!) r) (m:=x.length) (c:=cx) ⟨_,_,_,_,_,_,rfl,rfl,(H.get 1 rfl).1,(H.get 2 rfl).1,(H.get 3 rfl).1⟩ ((((H.get 1 rfl).2 rfl).app ((H.get 2 rfl).2 rfl)).app ((H.get 3 rfl).2 rfl)) (X9 (X9 (H.ltOwn 1 rfl) (H.ltOwn 2 rfl)) (H.ltOwn 3 rfl)) (vK x kk (k+1)) (by subst i1;exact markTo_step _ _ qf) (vV _ _ qf) (by rw [vV _ _ qf];exact nhx)
  refine qZ (m' :=x.length - (k+1)) qf ⟨_,k+1,r+(cnt ((x[k]!).qy):Nat)+(cnt ((x[k]!).qE):Nat)+(cnt ((x[k]!).qA):Nat),W17,uE4,?_,?_,?_,rfl,H⟩
  · omega
  · rw [Qd];have e:=Qb (x[k]!);omega
  · exact C
 refine zx4 (zcr (sps [yI r,yI r] (zjr ?_)))
 obtain rfl:k=x.length:=by omega
 refine ret1 (yI r) rfl rfl ⟨_,rfl,⟨?_,H.get 0 rfl⟩,C.trans (Chg.ofExt H.base)⟩
 first | rfl | (refine congrArg (Value.int .i64) ?_;rw [VC];omega)

theorem heldStateS_ok (w:World) (x:List qH) (kk:Int) {ax:yOA} {Fx:yLN} (hx:qO.rep w Fx [.slice ax x.length cx] x) (m:mkd x kk) (p0:0≤kk) (p1:kk+(cnt x:Nat)≤4611686018427387904):Calls Tryz.prog 31 #[.slice ax x.length cx,yI kk] w (Ret (fun v w' =>v=yI (kk+(cnt x:Nat))) w):=by
 refine en func31 ntmps31 ?_
 have H:=(St.start w).arg hx
 have nhx:=qK hx
 clear hx
 refine zcr (sp (yI 0) (zjcc (sp (yI 0) (zjn (qW ?_)))))
 refine zo (fun m' ρ w1=>∃ (xP:Env) (k:Nat) (r:Int),ρ=upd (upd (upd xP 0 (.slice ax x.length cx)) 1 (yI r)) 5 (yI k)∧(k≤x.length)∧(r=kk+(VU x k:Nat))∧m' =x.length - k∧St w w1 [] [sF false Fx ax cx x]) (x.length - 0) ⟨_,0,kk,uE3,qf,(by exact (Int.add_zero _).symm),rfl,H⟩ ?_
 clear H
 rintro m' ρ w2 ⟨xP,k,r,rfl,i0,i1,rfl,H⟩
 have hc:=fun h=>cnt_get (l:=x) (k:=k) h
 refine zcc (sps [yI k,.slice ax x.length cx] (oN rfl (sp (.bool (decide ((k:Int) < x.length))) (zjn (cD rfl (fun h3=>?_) (fun h3=>?_))))))
 ·skip
  obtain ⟨m0,m1,m2⟩:=m k qf
  rw [← i1] at m0
  rw [← i1] at m1
  rw [← i1] at m2
  refine qV (t_n (xO (qW (zcr (sps [.slice ax x.length cx,yI k] ?_)))))
  obtain ⟨b4,o5,rfl⟩:=H.addr 0 rfl qf
  obtain ⟨ae6Alive,ce6Alive,Fe6Alive,ae6Bags,ce6Bags,Fe6Bags,ae6Around,ce6Around,Fe6Around,H⟩:=H.elem_StateD 0 rfl k k qf qf qf
  refine oI rfl rfl (oF rfl (oL rfl (H.xQ 3 rfl 0 rfl) (sp (yI r) (sw (oq (heldBoolS_ok _ ((x[k]!).qy) r (H.get 0 rfl).1 ql (by (have:=hc qf;have e:=Qb (x[k]!);omega)) (by (have:=hc qf;have e:=Qb (x[k]!);omega))) H fun w7 H=>sp (yI (r+(cnt ((x[k]!).qy):Nat))) (zjcc (sps [yI (r+(cnt ((x[k]!).qy):Nat)),.bool (decide ((r+(cnt ((x[k]!).qy):Nat):Int) < 0))] (zjn (cD rfl (fun h9=>?_) (fun h9=>?_))))))))))
  ·skip
   refine zcr (sp (yI (-1)) (zjr (t_r (zr5 (ret1 (yI (-1)) rfl rfl ⟨_,rfl,?_,H.base⟩)))))
   exfalso;first | omega | (exact absurd ‹_› ‹¬ _›) | simp_all
  refine qV (t_n (zcr (sps [.slice (aa b4 o5) x.length cx,yI k] (oI rfl rfl (oF rfl (oL rfl (H.xQ 3 rfl 1 rfl) (sp (yI (r+(cnt ((x[k]!).qy):Nat))) (sw (oq (heldInt64SS_ok _ ((x[k]!).qE) (r+(cnt ((x[k]!).qy):Nat)) (H.get 1 rfl).1 ql (by (have:=hc qf;have e:=Qb (x[k]!);omega)) (by (have:=hc qf;have e:=Qb (x[k]!);omega))) H fun w10 H=>sp (yI ((r+(cnt ((x[k]!).qy):Nat))+(cnt ((x[k]!).qE):Nat))) (zjcc ?_))))))))))
  refine sps [yI ((r+(cnt ((x[k]!).qy):Nat))+(cnt ((x[k]!).qE):Nat)),.bool (decide (((r+(cnt ((x[k]!).qy):Nat))+(cnt ((x[k]!).qE):Nat):Int) < 0))] (zjn (cD rfl (fun h12=>?_) (fun h12=>?_)))
  ·skip
   refine zcr (sp (yI (-1)) (zjr (t_r (zr5 (ret1 (yI (-1)) rfl rfl ⟨_,rfl,?_,H.base⟩)))))
   exfalso;first | omega | (exact absurd ‹_› ‹¬ _›) | simp_all
  refine qV (t_n (zcr (sps [.slice (aa b4 o5) x.length cx,yI k] (oI rfl rfl (oF rfl (oL rfl (H.xQ 3 rfl 2 rfl) (sp (yI ((r+(cnt ((x[k]!).qy):Nat))+(cnt ((x[k]!).qE):Nat))) (sw (oq (heldInt64S_ok _ ((x[k]!).qA) ((r+(cnt ((x[k]!).qy):Nat))+(cnt ((x[k]!).qE):Nat)) (H.get 2 rfl).1 ql (by (have:=hc qf;have e:=Qb (x[k]!);omega)) (by (have:=hc qf;have e:=Qb (x[k]!);omega))) H fun w13 H=>sp (yI (((r+(cnt ((x[k]!).qy):Nat))+(cnt ((x[k]!).qE):Nat))+(cnt ((x[k]!).qA):Nat))) (zjc ?_))))))))))
  refine sps [yI (((r+(cnt ((x[k]!).qy):Nat))+(cnt ((x[k]!).qE):Nat))+(cnt ((x[k]!).qA):Nat)),.bool (decide ((((r+(cnt ((x[k]!).qy):Nat))+(cnt ((x[k]!).qE):Nat))+(cnt ((x[k]!).qA):Nat):Int) < 0))] (zjn (cD rfl (fun h15=>?_) (fun h15=>?_)))
  ·skip
   refine zcr (sp (yI (-1)) (zjr (zr5 (ret1 (yI (-1)) rfl rfl ⟨_,rfl,?_,H.base⟩))))
   exfalso;first | omega | (exact absurd ‹_› ‹¬ _›) | simp_all
  refine qV (b_n (t_n (xR (sp (yI k) (sw (zu k 1 rfl rfl (by (have:=hc qf;have e:=Qb (x[k]!);omega)) (sp (yI (k+1)) (xU (qZ (m' :=x.length - (k+1)) qf ⟨_,k+1,((r+(cnt ((x[k]!).qy):Nat))+(cnt ((x[k]!).qE):Nat))+(cnt ((x[k]!).qA):Nat),uE3,?_,?_,rfl,H.sel _ (.refl _) _ qm⟩)))))))))
  · omega
  · rw [Qd];have e:=Qb (x[k]!);omega
 refine zx4 (zcr (sps [yI r,yI r] (zjr (ret1 (yI r) rfl rfl ⟨_,rfl,?_,H.base⟩))))
 first | rfl | (refine congrArg (Value.int .i64) ?_;obtain rfl:k=x.length:=qf;exact i1)
theorem l00Same_ok (w:World) (a:yLI) (b:yLI) {aa:yOA} {Fa:yLN} {ab:yOA} {Fb:yLN} (ha:qO.rep w Fa [.slice aa a.length ca] a) (hb:qO.rep w Fb [.slice ab b.length cb] b):Calls Tryz.prog 128 #[.slice aa a.length ca,.slice ab b.length cb] w (Ret (fun v w' =>v=.bool (decide (a=b))) w):=by
 refine en func128 ntmps128 ?_
 have H:=((St.start w).arg hb).arg ha
 have nha:=qK ha
 have nhb:=qK hb
 clear ha hb
 have N:=Fresh.nil w.heap.size
 refine zcr (sp (.bool false) (zjcc (sp (.slice aa a.length ca) (oN rfl (sp (.slice ab b.length cb) (oN rfl (sp (.bool ((a.length:Int) != b.length)) (zjn (xH ((a.length:Int) != b.length) rfl (fun h1=>?_) (fun h1=>?_))))))))))
 ·skip
  replace h1:=bne_iff_ne.1 h1
  refine zcr (sp (.bool false) (zjr (t_r (ret1 (.bool false) rfl rfl ⟨_,rfl,?_,H.base⟩))))
  first | rw [decide_eq_false (fun e=>by subst e;omega)] | rw [decide_eq_false (vJ (k:=i) ‹_›)] | rw [decide_eq_false (vJ (k:=i) (by simpa using ‹_›))]
 replace h1:=xq h1
 refine qV (t_n (zcc (sp (yI 0) (zjn (qW ?_)))))
 refine zo (fun m' ρ w2=>∃ (xP:Env) (i:Nat),ρ=upd (upd (upd xP 0 (.slice aa a.length ca)) 1 (.slice ab b.length cb)) 5 (yI i)∧((i:Int)≤a.length)∧(a.take i=b.take i)∧m' =(a.length - (i:Int)).toNat∧Fresh w.heap.size []∧St w w2 [] [sF false Fa aa ca a,sF false Fb ab cb b]) ((a.length - (0:Int)).toNat) ⟨_,0,uE3,qf,(by rfl),rfl,N,H⟩ ?_
 clear H N
 rintro m' ρ w3 ⟨xP,i,rfl,i0,i1,rfl,N,H⟩
 refine zcc (sps [yI i,.slice aa a.length ca] (oN rfl (sp (.bool (decide ((i:Int) < a.length))) (zjn (cD rfl (fun h4=>?_) (fun h4=>?_))))))
 ·skip
  refine qV (t_n (xO (qW (xO ?_))))
  refine jd rfl H fun H=>rtp 0 (.slice aa a.length ca) H ?_
  refine rtp 1 (yI i) H ?_
  obtain ⟨b6,o7,rfl⟩:=H.addr 0 rfl qf
  refine tI 2 rfl rfl rfl H ?_
  refine tL 3 rfl rfl (fun _ h=>h.yt 0 rfl i qf) H ?_
  refine rtp 4 (.slice ab b.length cb) H ?_
  refine rtp 5 (yI i) H ?_
  obtain ⟨b9,o10,rfl⟩:=H.addr 1 rfl qf
  refine tI 6 rfl rfl rfl H ?_
  refine tL 7 rfl rfl (fun _ h=>h.yt 1 rfl i qf) H ?_
  refine rtp 8 (.bool ((a[i]! :Int) != (b[i]!))) H ?_
  refine xM qh (t_n (xH ((a[i]! :Int) != (b[i]!)) rfl (fun h12=>?_) (fun h12=>?_)))
  ·skip
   replace h12:=bne_iff_ne.1 h12
   refine zcr (sp (.bool false) (zjr (zr5 (ret1 (.bool false) rfl rfl ⟨_,rfl,?_,H.base⟩))))
   first | rw [decide_eq_false (fun e=>by subst e;omega)] | rw [decide_eq_false (vJ (k:=i) ‹_›)] | rw [decide_eq_false (vJ (k:=i) (by simpa using ‹_›))]
  replace h12:=xq h12
  refine qV (b_n (t_n (xR (sp (yI i) (sw (zu i 1 rfl rfl qf (sp (yI (i+1)) (xU (qZ (m' :=(a.length - ((i+1):Int)).toNat) qf ⟨_,i+1,uE3,?_,?_,rfl,N,H⟩)))))))))
  · omega
  · exact QT qf qf i1 qg
 refine zx4 (zcr (sp (.bool true) (zjr (ret1 (.bool true) rfl rfl ⟨_,rfl,?_,H.base⟩))))
 rw [decide_eq_true (vS (k:=i) qf qf i1)]

theorem equalI_ok (w:World) (a:yLI) (b:yLI) {aa:yOA} {Fa:yLN} {ab:yOA} {Fb:yLN} (ha:qO.rep w Fa [.slice aa a.length ca] a) (hb:qO.rep w Fb [.slice ab b.length cb] b):Calls Tryz.prog 96 #[.slice aa a.length ca,.slice ab b.length cb] w (Ret (fun v w' =>v=.bool (decide (a=b))) w):=by
 refine en func96 ntmps96 ?_
 have H:=((St.start w).arg hb).arg ha
 have nha:=qK ha
 have nhb:=qK hb
 clear ha hb
 have N:=Fresh.nil w.heap.size
 refine zcr (sp (.bool false) (zjcc (sp (.slice aa a.length ca) (oN rfl (sp (.slice ab b.length cb) (oN rfl (sp (.bool ((a.length:Int) != b.length)) (zjn (xH ((a.length:Int) != b.length) rfl (fun h1=>?_) (fun h1=>?_))))))))))
 ·skip
  replace h1:=bne_iff_ne.1 h1
  refine zcr (sp (.bool false) (zjr (t_r (ret1 (.bool false) rfl rfl ⟨_,rfl,?_,H.base⟩))))
  first | rw [decide_eq_false (fun e=>by subst e;omega)] | rw [decide_eq_false (vJ (k:=i) ‹_›)] | rw [decide_eq_false (vJ (k:=i) (by simpa using ‹_›))]
 replace h1:=xq h1
 refine qV (t_n (zcc (sp (.slice aa a.length ca) (oN rfl (sp (yI 0) (zjn (qW ?_)))))))
 refine zo (fun m' ρ w2=>∃ (xP:Env) (i:Nat),ρ=upd (upd (upd (upd xP 0 (.slice aa a.length ca)) 1 (.slice ab b.length cb)) 12 (yI a.length)) 13 (yI i)∧((i:Int)≤a.length)∧(a.take i=b.take i)∧m' =(a.length - (i:Int)).toNat∧Fresh w.heap.size []∧St w w2 [] [sF false Fa aa ca a,sF false Fb ab cb b]) ((a.length - (0:Int)).toNat) ⟨_,0,uE4,qf,(by rfl),rfl,N,H⟩ ?_
 clear H N
 rintro m' ρ w3 ⟨xP,i,rfl,i0,i1,rfl,N,H⟩
 refine zcr (sp (.bool (decide ((i:Int) < a.length))) (zjn (xO (cD rfl (fun h4=>?_) (fun h4=>?_)))))
 ·skip
  refine qV (t_n (xO (qW (zcr (sps [yI i,yI i] (zjn (xO ?_)))))))
  refine jd rfl H fun H=>rtp 0 (.slice aa a.length ca) H ?_
  refine rtp 1 (yI i) H ?_
  obtain ⟨b6,o7,rfl⟩:=H.addr 0 rfl qf
  refine tI 2 rfl rfl rfl H ?_
  refine tL 3 rfl rfl (fun _ h=>h.yt 0 rfl i qf) H ?_
  refine rtp 4 (.slice ab b.length cb) H ?_
  refine rtp 5 (yI i) H ?_
  obtain ⟨b9,o10,rfl⟩:=H.addr 1 rfl qf
  refine tI 6 rfl rfl rfl H ?_
  refine tL 7 rfl rfl (fun _ h=>h.yt 1 rfl i qf) H ?_
  refine rtp 8 (.bool ((a[i]! :Int) != (b[i]!))) H ?_
  refine xM qh (t_n (xH ((a[i]! :Int) != (b[i]!)) rfl (fun h12=>?_) (fun h12=>?_)))
  ·skip
   replace h12:=bne_iff_ne.1 h12
   refine zcr (sp (.bool false) (zjr (zr5 (ret1 (.bool false) rfl rfl ⟨_,rfl,?_,H.base⟩))))
   first | rw [decide_eq_false (fun e=>by subst e;omega)] | rw [decide_eq_false (vJ (k:=i) ‹_›)] | rw [decide_eq_false (vJ (k:=i) (by simpa using ‹_›))]
  replace h12:=xq h12
  refine qV (b_n (t_n (xR (sw (zu i 1 rfl rfl qf (sp (yI (i+1)) (xU (qZ (m' :=(a.length - ((i+1):Int)).toNat) qf ⟨_,i+1,uE4,?_,?_,rfl,N,H⟩))))))))
  · omega
  · exact QT qf qf i1 qg
 refine zx4 (zcr (sp (.bool true) (zjr (ret1 (.bool true) rfl rfl ⟨_,rfl,?_,H.base⟩))))
 rw [decide_eq_true (vS (k:=i) qf qf i1)]

theorem equalB_ok (w:World) (a:List Bool) (b:List Bool) {aa:yOA} {Fa:yLN} {ab:yOA} {Fb:yLN} (ha:qO.rep w Fa [.slice aa a.length ca] a) (hb:qO.rep w Fb [.slice ab b.length cb] b):Calls Tryz.prog 148 #[.slice aa a.length ca,.slice ab b.length cb] w (Ret (fun v w' =>v=.bool (decide (a=b))) w):=by
 refine en func148 ntmps148 ?_
 have H:=((St.start w).arg hb).arg ha
 have nha:=qK ha
 have nhb:=qK hb
 clear ha hb
 have N:=Fresh.nil w.heap.size
 refine zcr (sp (.bool false) (zjcc (sp (.slice aa a.length ca) (oN rfl (sp (.slice ab b.length cb) (oN rfl (sp (.bool ((a.length:Int) != b.length)) (zjn (xH ((a.length:Int) != b.length) rfl (fun h1=>?_) (fun h1=>?_))))))))))
 ·skip
  replace h1:=bne_iff_ne.1 h1
  refine zcr (sp (.bool false) (zjr (t_r (ret1 (.bool false) rfl rfl ⟨_,rfl,?_,H.base⟩))))
  first | rw [decide_eq_false (fun e=>by subst e;omega)] | rw [decide_eq_false (vJ (k:=i) ‹_›)] | rw [decide_eq_false (vJ (k:=i) (by simpa using ‹_›))]
 replace h1:=xq h1
 refine qV (t_n (zcc (sp (.slice aa a.length ca) (oN rfl (sp (yI 0) (zjn (qW ?_)))))))
 refine zo (fun m' ρ w2=>∃ (xP:Env) (i:Nat),ρ=upd (upd (upd (upd xP 0 (.slice aa a.length ca)) 1 (.slice ab b.length cb)) 12 (yI a.length)) 13 (yI i)∧((i:Int)≤a.length)∧(a.take i=b.take i)∧m' =(a.length - (i:Int)).toNat∧Fresh w.heap.size []∧St w w2 [] [sF false Fa aa ca a,sF false Fb ab cb b]) ((a.length - (0:Int)).toNat) ⟨_,0,uE4,qf,(by rfl),rfl,N,H⟩ ?_
 clear H N
 rintro m' ρ w3 ⟨xP,i,rfl,i0,i1,rfl,N,H⟩
 refine zcr (sp (.bool (decide ((i:Int) < a.length))) (zjn (xO (cD rfl (fun h4=>?_) (fun h4=>?_)))))
 ·skip
  refine qV (t_n (xO (qW (zcr (sps [yI i,yI i] (zjn (xO ?_)))))))
  refine jd rfl H fun H=>rtp 0 (.slice aa a.length ca) H ?_
  refine rtp 1 (yI i) H ?_
  obtain ⟨b6,o7,rfl⟩:=H.addr 0 rfl qf
  refine tI 2 rfl rfl rfl H ?_
  refine tL 3 rfl rfl (fun _ h=>h.elemBoolN 0 rfl i qf) H ?_
  refine rtp 4 (.slice ab b.length cb) H ?_
  refine rtp 5 (yI i) H ?_
  obtain ⟨b9,o10,rfl⟩:=H.addr 1 rfl qf
  refine tI 6 rfl rfl rfl H ?_
  refine tL 7 rfl rfl (fun _ h=>h.elemBoolN 1 rfl i qf) H ?_
  refine rt 8 (.bool ((a[i]!) != (b[i]!))) (y_neB underlying4 (a[i]!) (b[i]!) rfl rfl) H ?_
  refine xM qh (t_n (xH ((a[i]!) != (b[i]!)) rfl (fun h12=>?_) (fun h12=>?_)))
  ·skip
   replace h12:=bne_iff_ne.1 h12
   refine zcr (sp (.bool false) (zjr (zr5 (ret1 (.bool false) rfl rfl ⟨_,rfl,?_,H.base⟩))))
   first | rw [decide_eq_false (fun e=>by subst e;omega)] | rw [decide_eq_false (vJ (k:=i) ‹_›)] | rw [decide_eq_false (vJ (k:=i) (by simpa using ‹_›))]
  replace h12:=xq h12
  refine qV (b_n (t_n (xR (sw (zu i 1 rfl rfl qf (sp (yI (i+1)) (xU (qZ (m' :=(a.length - ((i+1):Int)).toNat) qf ⟨_,i+1,uE4,?_,?_,rfl,N,H⟩))))))))
  · omega
  · exact QT qf qf i1 qg
 refine zx4 (zcr (sp (.bool true) (zjr (ret1 (.bool true) rfl rfl ⟨_,rfl,?_,H.base⟩))))
 rw [decide_eq_true (vS (k:=i) qf qf i1)]

theorem l02Same_ok (w:World) (a:qH) (b:qH) {ba oa:Nat} {aaAlive:yOA} {FaAlive:yLN} {aaBags:yOA} {FaBags:yLN} {Vk:yOA} {FaAround:yLN} {bb ob:Nat} {abAlive:yOA} {FbAlive:yLN} {abBags:yOA} {FbBags:yLN} {Vj:yOA} {FbAround:yLN} (ha:vz w ba oa (yT a aaAlive caAlive aaBags caBags Vk Ve)) (haAlive:qO.rep w FaAlive [.slice aaAlive a.qy.length caAlive] a.qy) (haBags:qO.rep w FaBags [.slice aaBags a.qE.length caBags] a.qE) (haAround:qO.rep w FaAround [.slice Vk a.qA.length Ve] a.qA) (hb:vz w bb ob (yT b abAlive cbAlive abBags cbBags Vj Vd)) (hbAlive:qO.rep w FbAlive [.slice abAlive b.qy.length cbAlive] b.qy) (hbBags:qO.rep w FbBags [.slice abBags b.qE.length cbBags] b.qE) (hbAround:qO.rep w FbAround [.slice Vj b.qA.length Vd] b.qA):Calls Tryz.prog 114 #[pp ba oa,pp bb ob] w (Ret (fun v w' =>v=.bool (decide (a=b))) w):=by
 refine en func114 ntmps114 ?_
 have H:=((((((((St.start w).arg hbAround).arg hbBags).arg hbAlive).VJ hb).arg haAround).arg haBags).arg haAlive).VJ ha
 have nhaAlive:=qK haAlive
 have nhaBags:=qK haBags
 have nhaAround:=qK haAround
 have nhbAlive:=qK hbAlive
 have nhbBags:=qK hbBags
 have nhbAround:=qK hbAround
 clear ha haAlive haBags haAround hb hbAlive hbBags hbAround
 have N:=Fresh.nil w.heap.size
 refine zcr (sp (.bool false) (zjn (xO (xO ?_))))
 refine jd rfl H fun H=>rtp 0 (pp ba oa) H ?_
 refine rtp 1 (pp ba oa) H ?_
 refine tF 2 rfl rfl H ?_
 refine tL 3 rfl rfl (fun _ h=>h.xQ 0 rfl 0 rfl) H ?_
 refine tN 4 rfl rfl H ?_
 refine rtp 5 (pp bb ob) H ?_
 refine rtp 6 (pp bb ob) H ?_
 refine tF 7 rfl rfl H ?_
 refine tL 8 rfl rfl (fun _ h=>h.xQ 4 rfl 0 rfl) H ?_
 refine tN 9 rfl rfl H ?_
 refine rtp 10 (.bool ((a.qy.length:Int) != b.qy.length)) H ?_
 refine rtp 11 (.bool ((a.qy.length:Int) != b.qy.length)) H ?_
 cases h2:((a.qy.length:Int) != b.qy.length)
 ·skip
  replace h2:=xq h2
  refine rgp 12 (pp ba oa) 18 H ?_
  refine rgp 13 (pp ba oa) 18 H ?_
  refine gF 14 rfl rfl H ?_
  refine gL 15 rfl rfl (fun _ h=>h.xQ 0 rfl 1 rfl) H ?_
  refine gN 16 rfl rfl H ?_
  refine rgp 17 (pp bb ob) 18 H ?_
  refine rgp 18 (pp bb ob) 18 H ?_
  refine gF 19 rfl rfl H ?_
  refine gL 20 rfl rfl (fun _ h=>h.xQ 4 rfl 1 rfl) H ?_
  refine gN 21 rfl rfl H ?_
  refine rgp 22 (.bool ((a.qE.length:Int) != b.qE.length)) 18 H ?_
  refine rtp 23 (.bool ((a.qE.length:Int) != b.qE.length)) H ?_
  refine rtp 24 (.bool ((a.qE.length:Int) != b.qE.length)) H ?_
  cases h3:((a.qE.length:Int) != b.qE.length)
  ·skip
   replace h3:=xq h3
   refine rgp 25 (pp ba oa) 31 H ?_
   refine rgp 26 (pp ba oa) 31 H ?_
   refine gF 27 rfl rfl H ?_
   refine gL 28 rfl rfl (fun _ h=>h.xQ 0 rfl 2 rfl) H ?_
   refine rgp 29 (pp bb ob) 31 H ?_
   refine rgp 30 (pp bb ob) 31 H ?_
   refine gF 31 rfl rfl H ?_
   refine gL 32 rfl rfl (fun _ h=>h.xQ 4 rfl 2 rfl) H ?_
   refine jo [33] qh qm (r_opG rfl (e:=31) rfl rfl (oq (l00Same_ok _ a.qA b.qA (H.get 3 rfl).1 (H.get 7 rfl).1) H fun w5 H=>⟨H,(rgp 34 (.bool (!(decide (a.qA=b.qA)))) 31 H ?_)⟩) jq)
   refine rtp 35 (.bool (!(decide (a.qA=b.qA)))) H ?_
   refine xM qh (t_n (xH (!(decide (a.qA=b.qA))) rfl (fun h7=>?_) (fun h7=>?_)))
   ·skip
    replace h7:=xn h7
    replace h7:=of_decide_eq_false h7
    refine zcr (sp (.bool false) (zjr (t_r (ret1 (.bool false) rfl rfl ⟨_,rfl,?_,H.base⟩))))
    rw [decide_eq_false (fun e=>by subst e;first | omega | exact absurd rfl ql | simp_all)]
   replace h7:=xg h7
   replace h7:=of_decide_eq_true h7
   refine qV (t_n (zcc (sp (yI 0) (zjn (qW ?_)))))
   refine zo (fun m' ρ w8=>∃ (xP:Env) (c:Nat),ρ=upd (upd (upd xP 0 (pp ba oa)) 1 (pp bb ob)) 5 (yI c)∧((c:Int)≤a.qy.length)∧(a.qy.take c=b.qy.take c)∧m' =(a.qy.length - (c:Int)).toNat∧Fresh w.heap.size []∧St w w8 [] [atF ba oa (yT a aaAlive caAlive aaBags caBags Vk Ve),sF false FaAlive aaAlive caAlive a.qy,sF false FaBags aaBags caBags a.qE,sF false FaAround Vk Ve a.qA,atF bb ob (yT b abAlive cbAlive abBags cbBags Vj Vd),sF false FbAlive abAlive cbAlive b.qy,sF false FbBags abBags cbBags b.qE,sF false FbAround Vj Vd b.qA]) ((a.qy.length - (0:Int)).toNat) ⟨_,0,uE3,qf,(by rfl),rfl,N,H⟩ ?_
   clear H N
   rintro m' ρ w9 ⟨xP,c,rfl,i0,i1,rfl,N,H⟩
   refine zcc (sps [yI c,pp ba oa,pp ba oa] (oF rfl (oL rfl (H.xQ 0 rfl 0 rfl) (oN rfl (sp (.bool (decide ((c:Int) < a.qy.length))) (zjn (cD rfl (fun h10=>?_) (fun h10=>?_))))))))
   ·skip
    refine qV (t_n (xO (qW (xO ?_))))
    refine jd rfl H fun H=>rtp 0 (pp ba oa) H ?_
    refine rtp 1 (pp ba oa) H ?_
    refine tF 2 rfl rfl H ?_
    refine tL 3 rfl rfl (fun _ h=>h.xQ 0 rfl 0 rfl) H ?_
    refine rtp 4 (yI c) H ?_
    obtain ⟨b12,o13,rfl⟩:=H.addr 1 rfl qf
    refine tI 5 rfl rfl rfl H ?_
    refine tL 6 rfl rfl (fun _ h=>h.elemBoolN 1 rfl c qf) H ?_
    refine rtp 7 (pp bb ob) H ?_
    refine rtp 8 (pp bb ob) H ?_
    refine tF 9 rfl rfl H ?_
    refine tL 10 rfl rfl (fun _ h=>h.xQ 4 rfl 0 rfl) H ?_
    refine rtp 11 (yI c) H ?_
    obtain ⟨b15,o16,rfl⟩:=H.addr 5 rfl qf
    refine tI 12 rfl rfl rfl H ?_
    refine tL 13 rfl rfl (fun _ h=>h.elemBoolN 5 rfl c qf) H ?_
    refine rt 14 (.bool ((a.qy[c]!) != (b.qy[c]!))) (y_neB underlying4 (a.qy[c]!) (b.qy[c]!) rfl rfl) H ?_
    refine xM qh (t_n (xH ((a.qy[c]!) != (b.qy[c]!)) rfl (fun h18=>?_) (fun h18=>?_)))
    ·skip
     replace h18:=bne_iff_ne.1 h18
     refine zcr (sp (.bool false) (zjr (zr5 (ret1 (.bool false) rfl rfl ⟨_,rfl,?_,H.base⟩))))
     rw [decide_eq_false (fun e=>by subst e;first | omega | exact absurd rfl ql | simp_all)]
    replace h18:=xq h18
    refine qV (b_n (t_n (xR (sp (yI c) (sw (zu c 1 rfl rfl qf (sp (yI (c+1)) (xU (qZ (m' :=(a.qy.length - ((c+1):Int)).toNat) qf ⟨_,c+1,uE3,?_,?_,rfl,N,H⟩)))))))))
    · omega
    · exact QT qf qf i1 qg
   refine zx4 (zcc (sp (yI 0) (zjn (qW ?_))))
   refine zo (fun m' ρ w19=>∃ (xP:Env) (c_1:Nat),ρ=upd (upd (upd xP 0 (pp ba oa)) 1 (pp bb ob)) 6 (yI c_1)∧((c_1:Int)≤a.qE.length)∧(a.qE.take c_1=b.qE.take c_1)∧m' =(a.qE.length - (c_1:Int)).toNat∧Fresh w.heap.size []∧St w w19 [] [atF ba oa (yT a aaAlive caAlive aaBags caBags Vk Ve),sF false FaAlive aaAlive caAlive a.qy,sF false FaBags aaBags caBags a.qE,sF false FaAround Vk Ve a.qA,atF bb ob (yT b abAlive cbAlive abBags cbBags Vj Vd),sF false FbAlive abAlive cbAlive b.qy,sF false FbBags abBags cbBags b.qE,sF false FbAround Vj Vd b.qA]) ((a.qE.length - (0:Int)).toNat) ⟨_,0,uE3,qf,(by rfl),rfl,N,H⟩ ?_
   clear H N
   rintro m' ρ w20 ⟨xP,c_1,rfl,i0,i2,rfl,N,H⟩
   refine zcc (sps [yI c_1,pp ba oa,pp ba oa] (oF rfl (oL rfl (H.xQ 0 rfl 1 rfl) (oN rfl (sp (.bool (decide ((c_1:Int) < a.qE.length))) (zjn (cD rfl (fun h21=>?_) (fun h21=>?_))))))))
   ·skip
    refine qV (t_n (xO (qW (xO ?_))))
    obtain ⟨b22,o23,rfl⟩:=H.addr 2 rfl qf
    obtain ⟨b25,o26,rfl⟩:=H.addr 6 rfl qf
    refine c_cut (fun ρ w34=>∃ (xP:Env) (F28:yLN) (a29:yOA) (c30:Nat) (F31:yLN) (a32:yOA) (c33:Nat),ρ=upd (upd (upd (upd xP 0 (pp ba oa)) 1 (pp bb ob)) 6 (yI c_1)) 91 (.bool (!(decide ((a.qE[c_1]!)=(b.qE[c_1]!)))))∧Fresh w.heap.size []∧St w w34 [] [sF false F28 a29 c30 (b.qE[c_1]!),atF b25 (o26+(c_1:Int).toNat * 1) [.slice a29 ((b.qE[c_1]!).length) c30],sF false F31 a32 c33 (a.qE[c_1]!),atF b22 (o23+(c_1:Int).toNat * 1) [.slice a32 ((a.qE[c_1]!).length) c33],atF ba oa [.slice aaAlive a.qy.length caAlive,.slice (aa b22 o23) a.qE.length caBags,.slice Vk a.qA.length Ve],sF false FaAlive aaAlive caAlive a.qy,sF false FaBags (aa b22 o23) caBags a.qE,sF false FaAround Vk Ve a.qA,atF bb ob [.slice abAlive b.qy.length cbAlive,.slice (aa b25 o26) b.qE.length cbBags,.slice Vj b.qA.length Vd],sF false FbAlive abAlive cbAlive b.qy,sF false FbBags (aa b25 o26) cbBags b.qE,sF false FbAround Vj Vd b.qA]) ?_ ?_
    ·skip
     refine jd rfl H fun H=>rtp 0 (pp ba oa) H ?_
     refine rtp 1 (pp ba oa) H ?_
     refine tF 2 rfl rfl H ?_
     refine tL 3 rfl rfl (fun _ h=>h.xQ 0 rfl 1 rfl) H ?_
     refine rtp 4 (yI c_1) H ?_
     obtain ⟨ae36,ce36,Fe36,H⟩:=H.vN 2 rfl c_1 c_1 qf qf qf
     have S:=H.yD [] [2,3,4,5,6,7,8,9]
     refine tI 5 rfl rfl rfl S ?_
     refine rtp 7 (pp bb ob) S ?_
     refine rtp 8 (pp bb ob) S ?_
     refine tF 9 rfl rfl S ?_
     refine tL 10 rfl rfl (fun _ h=>h.xQ 4 rfl 1 rfl) S ?_
     refine rtp 11 (yI c_1) S ?_
     obtain ⟨ae37,ce37,Fe37,H⟩:=H.vN 8 rfl c_1 c_1 qf qf qf
     refine tI 12 rfl rfl rfl (H.pick [] [4,5,6,7,8,9,10,11]) ?_
     refine jo [6,13] qh qm (Qj rfl ?_ (Qj rfl ?_ jq))
     ·skip
      refine zK (.slice ae36 ((a.qE[c_1]!).length) ce36) isAgg22 rfl (H.xQ 3 rfl 0 rfl) (⟨H.pick [] [4,5,6,7,8,9,10,11],(ro 13 rfl (zK (.slice ae37 ((b.qE[c_1]!).length) ce37) isAgg22 rfl (H.xQ 1 rfl 0 rfl) (⟨H.pick [] [4,5,6,7,8,9,10,11],(ro 14 rfl (oq (l00Same_ok _ (a.qE[c_1]!) (b.qE[c_1]!) (H.get 2 rfl).1 (H.get 0 rfl).1) H fun w39 H=>⟨H.pick [] [4,5,6,7,8,9,10,11],(rtp 15 (.bool (!(decide ((a.qE[c_1]!)=(b.qE[c_1]!))))) (H.pick [] [4,5,6,7,8,9,10,11]) ?_)⟩))⟩)))⟩)
      refine xM qh ((meet ⟨_,Fe37,ae37,ce37,Fe36,ae36,ce36,uE4,N,H⟩))
     refine zK (.slice ae37 ((b.qE[c_1]!).length) ce37) isAgg22 rfl (H.xQ 1 rfl 0 rfl) (⟨H.pick [] [4,5,6,7,8,9,10,11],(ro 6 rfl (zK (.slice ae36 ((a.qE[c_1]!).length) ce36) isAgg22 rfl (H.xQ 3 rfl 0 rfl) (⟨H.pick [] [4,5,6,7,8,9,10,11],(ro 14 rfl (oq (l00Same_ok _ (a.qE[c_1]!) (b.qE[c_1]!) (H.get 2 rfl).1 (H.get 0 rfl).1) H fun w42 H=>⟨H.pick [] [4,5,6,7,8,9,10,11],(rtp 15 (.bool (!(decide ((a.qE[c_1]!)=(b.qE[c_1]!))))) (H.pick [] [4,5,6,7,8,9,10,11]) ?_)⟩))⟩)))⟩)
     refine xM qh ((meet ⟨_,Fe37,ae37,ce37,Fe36,ae36,ce36,uE4,N,H⟩))
    clear H N
    rintro ρ w44 ⟨xP,F28,a29,c30,F31,a32,c33,rfl,N,H⟩
    refine t_n (xH (!(decide ((a.qE[c_1]!)=(b.qE[c_1]!)))) rfl (fun h45=>?_) (fun h45=>?_))
    ·skip
     replace h45:=xn h45
     replace h45:=of_decide_eq_false h45
     refine zcr (sp (.bool false) (zjr (zr5 (ret1 (.bool false) rfl rfl ⟨_,rfl,?_,H.base⟩))))
     rw [decide_eq_false (fun e=>by subst e;first | omega | exact absurd rfl ql | simp_all)]
    replace h45:=xg h45
    replace h45:=of_decide_eq_true h45
    refine qV (b_n (t_n (xR (sp (yI c_1) (sw (zu c_1 1 rfl rfl qf (sp (yI (c_1+1)) (xU (qZ (m' :=(a.qE.length - ((c_1+1):Int)).toNat) qf ⟨_,c_1+1,uE3,?_,?_,rfl,N,H.pick [] [4,5,6,7,8,9,10,11]⟩)))))))))
    · omega
    · exact QT qf qf i2 ql
   refine zx4 (zcr (sp (.bool true) (zjr (ret1 (.bool true) rfl rfl ⟨_,rfl,?_,H.base⟩))))
   rw [decide_eq_true (state_eq (vS (k:=c) qf qf i1) (vS (k:=c_1) qf qf i2) ql)]
  replace h3:=bne_iff_ne.1 h3
  refine zS [25,26,27,28,29,30,31,32,33,34] 10 (H) (rtp 35 (.bool true) H ?_)
  refine xM qh (t_n (xH true rfl (fun _=>zcr (sp (.bool false) (zjr (t_r (ret1 (.bool false) rfl rfl ⟨_,rfl,?_,H.base⟩))))) (fun h=>absurd h qj)))
  rw [decide_eq_false (fun e=>by subst e;first | omega | exact absurd rfl ql | simp_all)]
 replace h2:=bne_iff_ne.1 h2
 refine zS [12,13,14,15,16,17,18,19,20,21,22] 11 (H) (rtp 23 (.bool true) H ?_)
 refine rtp 24 (.bool true) H ?_
 refine zS [25,26,27,28,29,30,31,32,33,34] 10 (H) (rtp 35 (.bool true) H ?_)
 refine xM qh (t_n (xH true rfl (fun _=>zcr (sp (.bool false) (zjr (t_r (ret1 (.bool false) rfl rfl ⟨_,rfl,?_,H.base⟩))))) (fun h=>absurd h qj)))
 rw [decide_eq_false (fun e=>by subst e;first | omega | exact absurd rfl ql | simp_all)]

theorem l03Find_ok (w:World) (l:List qH) (u:qH) {al:yOA} {cl:Nat} {Fl:yLN} {bu ou:Nat} {auAlive:yOA} {cuAlive:Nat} {FuAlive:yLN} {auBags:yOA} {cuBags:Nat} {FuBags:yLN} {auAround:yOA} {cuAround:Nat} {FuAround:yLN} (hl:qO.rep w Fl [.slice al l.length cl] l) (hu:vz w bu ou (yT u auAlive cuAlive auBags cuBags auAround cuAround)) (huAlive:qO.rep w FuAlive [.slice auAlive u.qy.length cuAlive] u.qy) (huBags:qO.rep w FuBags [.slice auBags u.qE.length cuBags] u.qE) (huAround:qO.rep w FuAround [.slice auAround u.qA.length cuAround] u.qA):Calls Tryz.prog 77 #[.slice al l.length cl,pp bu ou] w (Ret (fun v w' =>v=yI (firstIdx (fun zz=>decide (l[zz]! =u)) l.length)) w):=by
 refine en func77 ntmps77 ?_
 have H:=(((((St.start w).arg huAround).arg huBags).arg huAlive).VJ hu).arg hl
 have nhl:=qK hl
 have nhuAlive:=qK huAlive
 have nhuBags:=qK huBags
 have nhuAround:=qK huAround
 clear hl hu huAlive huBags huAround
 have N:=Fresh.nil w.heap.size
 refine zcr (sp (yI 0) (zjcc (sp (yI 0) (zjn (qW ?_)))))
 refine zo (fun m' ρ w1=>∃ (xP:Env) (i:Nat),ρ=upd (upd (upd xP 0 (.slice al l.length cl)) 1 (pp bu ou)) 5 (yI i)∧((i:Int)≤l.length)∧(noneTo (fun zz=>decide (l[zz]! =u)) i)∧m' =(l.length - (i:Int)).toNat∧Fresh w.heap.size []∧St w w1 [] [sF false Fl al cl l,atF bu ou (yT u auAlive cuAlive auBags cuBags auAround cuAround),sF false FuAlive auAlive cuAlive u.qy,sF false FuBags auBags cuBags u.qE,sF false FuAround auAround cuAround u.qA]) ((l.length - (0:Int)).toNat) ⟨_,0,uE3,qf,(by exact fun j hj=>by omega),rfl,N,H⟩ ?_
 clear H N
 rintro m' ρ w2 ⟨xP,i,rfl,i0,i1,rfl,N,H⟩
 refine zcc (sps [yI i,.slice al l.length cl] (oN rfl (sp (.bool (decide ((i:Int) < l.length))) (zjn (cD rfl (fun h3=>?_) (fun h3=>?_))))))
 ·skip
  refine qV (t_n (xO (qW (zcr (sps [.slice al l.length cl,yI i] ?_)))))
  obtain ⟨b4,o5,rfl⟩:=H.addr 0 rfl qf
  obtain ⟨ae7Alive,ce7Alive,Fe7Alive,ae7Bags,ce7Bags,Fe7Bags,ae7Around,ce7Around,Fe7Around,H⟩:=H.elem_StateD 0 rfl i i qf qf qf
  refine oI rfl rfl (sp (pp bu ou) (sw (oq (l02Same_ok _ (l[i]!) u (qF (H.get 3 rfl) 0 3) (H.get 0 rfl).1 (H.get 1 rfl).1 (H.get 2 rfl).1 (qF (H.get 5 rfl) 0 3) (H.get 6 rfl).1 (H.get 7 rfl).1 (H.get 8 rfl).1) H fun w9 H=>zjn (cD rfl (fun h11=>?_) (fun h11=>?_)))))
  ·skip
   refine zcr (sps [yI i,yI i] (zjr (zr5 (ret1 (yI i) rfl rfl ⟨_,rfl,?_,H.base⟩))))
   rw [firstIdx_some (k:=i) qf i1 (decide_eq_true ‹_›)]
  refine qV (b_n (t_n (xR (sp (yI i) (sw (zu i 1 rfl rfl qf (sp (yI (i+1)) (xU (qZ (m' :=(l.length - ((i+1):Int)).toNat) qf ⟨_,i+1,uE3,?_,?_,rfl,N,H.pick [] [4,5,6,7,8]⟩)))))))))
  · omega
  · exact noneTo_succ i1 (decide_eq_false ‹_›)
 refine zx4 (zcr (sp (yI (-1)) (zjr (ret1 (yI (-1)) rfl rfl ⟨_,rfl,?_,H.base⟩))))
 rw [firstIdx_none (fun j hj=>i1 j qf)]

theorem l03Next_ok (w:World) (s:qI) (t:qH) (cs:yLL) {qC:yOA} {qY:yLN} {qN:yOA} {xF:yLN} {qU:yOA} {xN:yLN} {xm:yOA} {zq:yLN} {qM:yOA} {xE:yLN} {acs:yOA} {Fcs:yLN} (hs:vz w bs os (yS s qC qB qN qJ)) (xf:qO.rep w qY [.slice qC s.qw.length qB] s.qw) (xI:qO.rep w xF [.slice qN s.qx.length qJ] s.qx) (ht:vz w bt ot (yT t qU qP xm xh qM qL)) (zg:qO.rep w xN [.slice qU t.qy.length qP] t.qy) (zI:qO.rep w zq [.slice xm t.qE.length xh] t.qE) (xK:qO.rep w xE [.slice qM t.qA.length qL] t.qA) (hcs:qO.rep w Fcs [.slice acs cs.length ccs] cs) (p0:yj s) (p1:zH s t) (p2:cs.length≤1000) (p3:∀ q,q < cs.length→CntOk s (cs[q]!)):Calls Tryz.prog 111 #[pp bs os,pp bt ot,.slice acs cs.length ccs] w (Ret (fun v w' =>∃ (ra0:yOA) (rn0:Nat) (rc0:Nat) (rx0:List Value) (rF0:yLN),v=.tuple #[.slice ra0 rn0 rc0,yI ((Qs s t cs).2)]∧Fresh w.heap.size [rF0]∧St w w' [rr ra0 rn0 rc0 38 3 rx0] [zh true rF0 rx0 ((Qs s t cs).1)]) w):=by
 refine en func111 ntmps111 ?_
 have H:=((((((((St.start w).arg hcs).arg xK).arg zI).arg zg).VJ ht).arg xI).arg xf).VJ hs
 have vk:=qK xf
 have jl:=qK xI
 have Qh:=qK zg
 have QW:=qK zI
 have jL:=qK xK
 have nhcs:=qK hcs
 clear hs xf xI ht zg zI xK hcs
 have N:=Fresh.nil w.heap.size
 refine zcr (sps [yN,yI 0] (zjc (sw (vT H underlying47 ti38 fun b1 w2 H=>sp (.slice (aa b1 0) 0 0) (zjcc (sp (yI 0) (zjn (qW ?_))))))))
 replace H:=H.boxRow 0 rfl 3 0 rfl qj
 replace H:=H.vP (α:=qH)
 replace H:St _ _ [rr (aa b1 0) 0 0 38 3 []] [zh true [] [] ([]:List qH),atF bs os (yS s qC qB qN qJ),sF false qY qC qB s.qw,sF false xF qN qJ s.qx,atF bt ot (yT t qU qP xm xh qM qL),sF false xN qU qP t.qy,sF false zq xm xh t.qE,sF false xE qM qL t.qA,sF false Fcs acs ccs cs]:=H
 refine zo (fun m' ρ w3=>∃ (xP:Env) (zY:yOA) (zn:Nat) (zO:Nat) (out:List qH) (Qv:List Value) (jV:yLN) (i:Nat),ρ=upd (upd (upd (upd (upd xP 0 (pp bs os)) 1 (pp bt ot)) 2 (.slice acs cs.length ccs)) 8 (.slice zY zn zO)) 9 (yI i)∧out=jM s t cs i∧((i:Int)≤cs.length)∧(NoBad s t cs i)∧m' =(cs.length - (i:Int)).toNat∧Fresh w.heap.size [jV]∧St w w3 [rr zY zn zO 38 3 Qv] [zh true jV Qv out,atF bs os (yS s qC qB qN qJ),sF false qY qC qB s.qw,sF false xF qN qJ s.qx,atF bt ot (yT t qU qP xm xh qM qL),sF false xN qU qP t.qy,sF false zq xm xh t.qE,sF false xE qM qL t.qA,sF false Fcs acs ccs cs]) ((cs.length - (0:Int)).toNat) ⟨_,(aa b1 0),0,0,([]:List qH),[],[],0,uE5,(by rfl),qf,(by exact fun j hj=>by omega),rfl,N.emp,H⟩ ?_
 clear H N
 rintro m' ρ w4 ⟨xP,zY,zn,zO,out,Qv,jV,i,rfl,rfl,i0,i1,rfl,N,H⟩
 have hn_out:=H.zl (α:=qH) 0 rfl 0 rfl qj
 have nl:=nextTo_len (s:=s) (t:=t) (cs:=cs) i
 refine zcc (sps [yI i,.slice acs cs.length ccs] (oN rfl (sp (.bool (decide ((i:Int) < cs.length))) (zjn (cD rfl (fun h5=>?_) (fun h5=>?_))))))
 ·skip
  refine qV (t_n (xO (qW (zcr (sps [pp bs os,pp bt ot,.slice acs cs.length ccs,yI i] ?_)))))
  obtain ⟨b6,o7,rfl⟩:=H.addr 8 rfl qf
  obtain ⟨ae9,ce9,Fe9,H⟩:=H.vN 8 rfl i i qf qf qf
  refine oI rfl rfl (oL rfl (H.xQ 1 rfl 0 rfl) ?_)
  have k3:=p3 i qf
  have sz13:=H.base.size
  have lt14:=H.ltN (L:=[jV]) [2]
  refine sw (oc (l03Step_ok _ s t (cs[i]!) (qF (H.get 3 rfl) 0 3) (H.get 4 rfl).1 (H.get 5 rfl).1 (qF (H.get 6 rfl) 0 3) (H.get 7 rfl).1 (H.get 8 rfl).1 (H.get 9 rfl).1 (H.get 0 rfl).1 qg qg qg) ?_)
  rintro _ w11 ⟨ra10aAlive,rn10aAlive,rc10aAlive,ra10aBags,rn10aBags,rc10aBags,rx10aBags,rF10aBags,ra10aAround,rn10aAround,rc10aAround,rfl,M,K⟩ _
  replace N:=N.merge sz13 lt14 M
  replace H:=H.merge K M
  obtain rfl:=H.rowNB 0 rfl
  obtain rfl:=H.zl (α:=yLI) 1 rfl 0 rfl qj
  obtain rfl:=H.YG 2 rfl
  refine sps [.tuple #[.agg #[.slice ra10aAlive ((((zA s t (cs[i]!)).1).qy).length) rc10aAlive,.slice ra10aBags ((((zA s t (cs[i]!)).1).qE).length) rc10aBags,.slice ra10aAround ((((zA s t (cs[i]!)).1).qA).length) rc10aAround],yI ((zA s t (cs[i]!)).2)],.agg #[.slice ra10aAlive ((((zA s t (cs[i]!)).1).qy).length) rc10aAlive,.slice ra10aBags ((((zA s t (cs[i]!)).1).qE).length) rc10aBags,.slice ra10aAround ((((zA s t (cs[i]!)).1).qA).length) rc10aAround],yI ((zA s t (cs[i]!)).2)] (sw (xX H ti38 [yN,yN,yN] fun b18 w19 H=>?_))
  refine sw (zt H 0 [.slice ra10aAlive ((((zA s t (cs[i]!)).1).qy).length) rc10aAlive,.slice ra10aBags ((((zA s t (cs[i]!)).1).qE).length) rc10aBags,.slice ra10aAround ((((zA s t (cs[i]!)).1).qA).length) rc10aAround] sizeOf38 fun w20 H=>sp (yI ((zA s t (cs[i]!)).2)) (zjcc (sps [yI ((zA s t (cs[i]!)).2),.bool (((zA s t (cs[i]!)).2:Int) != 0)] (zjn (xH (((zA s t (cs[i]!)).2:Int) != 0) rfl (fun h21=>?_) (fun h21=>?_))))))
  ·skip
   replace h21:=bne_iff_ne.1 h21
   refine zcr (sw (vT H underlying47 ti38 fun b22 w23 H=>sps [yI ((zA s t (cs[i]!)).2),.slice (aa b22 0) 0 0,yI ((zA s t (cs[i]!)).2)] (zjr (t_r (zr5 ?_)))))
   replace H:=H.boxRow 0 rfl 3 0 rfl qj
   replace H:=H.vP (α:=qH)
   replace H:St _ _ [rr (aa b22 0) 0 0 38 3 [],.box b18 [.slice ra10aAlive ((((zA s t (cs[i]!)).1).qy).length) rc10aAlive,.slice ra10aBags ((((zA s t (cs[i]!)).1).qE).length) rc10aBags,.slice ra10aAround ((((zA s t (cs[i]!)).1).qA).length) rc10aAround] 38,rr ra10aAlive ((((zA s t (cs[i]!)).1).qy).length) rc10aAlive 4 1 ((((zA s t (cs[i]!)).1).qy).map (Value.bool)),rr ra10aBags ((((zA s t (cs[i]!)).1).qE).length) rc10aBags 22 1 rx10aBags,rr ra10aAround ((((zA s t (cs[i]!)).1).qA).length) rc10aAround 2 1 ((((zA s t (cs[i]!)).1).qA).map (Value.int .i64)),rr zY zn zO 38 3 Qv] [zh true [] [] ([]:List qH),zh true rF10aBags rx10aBags (((zA s t (cs[i]!)).1).qE),sF false Fe9 ae9 ce9 (cs[i]!),atF b6 (o7+(i:Int).toNat * 1) [.slice ae9 ((cs[i]!).length) ce9],zh true jV Qv (jM s t cs i),atF bs os (yS s qC qB qN qJ),sF false qY qC qB s.qw,sF false xF qN qJ s.qx,atF bt ot (yT t qU qP xm xh qM qL),sF false xN qU qP t.qy,sF false zq xm xh t.qE,sF false xE qM qL t.qA,sF false Fcs (aa b6 o7) ccs cs]:=H
   refine ret2 (.slice (aa b22 0) 0 0) (yI ((zA s t (cs[i]!)).2)) rfl rfl rfl ⟨_,rfl,?_,H.base⟩
   rw [next_bad i1 qf ‹_›]
   exact ⟨(aa b22 0),0,0,[],[],rfl,(N.emp.pick [0]),H.pick [0] [0]⟩
  replace h21:=xq h21
  refine qV (t_n (zcr (sp (.slice zY zn zO) ?_)))
  obtain ⟨G24,hn25,h26⟩:=H.rowIsR (α:=qH) 4 rfl 3 rfl qj
  obtain ⟨G27,hn28,h29⟩:=H.rowIsB 1 rfl
  obtain ⟨G30,hn31,h32⟩:=H.rowIsR (α:=yLI) 2 rfl 0 rfl qj
  obtain ⟨G33,hn34,h35⟩:=H.rowIsI 3 rfl
  refine sw (oq (args_eq (by rw [← hn25]) (l03Find_ok _ (jM s t cs i) ((zA s t (cs[i]!)).1) (hn25▸h26) (qF (H.cells 0 rfl) 0 3) h29 h32 h35)) H fun w37 H=>sp (.bool (decide ((firstIdx (fun zz=>decide ((jM s t cs i)[zz]! =((zA s t (cs[i]!)).1))) (jM s t cs i).length:Int) < 0))) (zjn (cD rfl (fun h39=>?_) (fun h39=>?_))))
  ·skip
   refine xR (sp (.slice zY zn zO) (sw (xY [.slice ra10aAlive ((((zA s t (cs[i]!)).1).qy).length) rc10aAlive,.slice ra10aBags ((((zA s t (cs[i]!)).1).qE).length) rc10aBags,.slice ra10aAround ((((zA s t (cs[i]!)).1).qA).length) rc10aAround] isAgg38 sizeOf38 rfl (qF (H.cells 0 rfl) 0 3) (sw (zG H underlying47 ti38 [.slice ra10aAlive ((((zA s t (cs[i]!)).1).qy).length) rc10aAlive,.slice ra10aBags ((((zA s t (cs[i]!)).1).qE).length) rc10aBags,.slice ra10aAround ((((zA s t (cs[i]!)).1).qA).length) rc10aAround] fun b40 w41 H=>?_)))))
   obtain ⟨G45,N,hn46,H⟩:=H.freezeB 2 rfl N (H.jQ [0,3])
   have H0:=H
   obtain ⟨G47,hg49,hn48,H⟩:=H.QI (α:=yLI) 3 rfl 1 rfl qj
   replace N:Fresh w.heap.size [G47,G45,jV]:=Fresh.ice (N.pick [1,0,2]) H0 3 hg49.1 hg49.2 (H0.jQ [0,4])
   clear H0
   obtain ⟨G50,N,hn51,H⟩:=H.vW 4 rfl N (H.jQ [0,1,5])
   refine sw (zN H 5 rfl 0 rfl underlying47 ti38 rfl qj rfl rfl rfl (by simp [Value.oneCell',Value.cells]) qp qf fun a42 c43 w44 H=>?_)
   replace H:=H.XN 6 rfl 2 rfl 1 rfl 0 rfl
   replace N:Fresh w.heap.size [(jV++(G45++G47++G50))]:=(N.pick [2,1,0,3]).join.join.swap.join
   refine sp (.slice a42 (zn+1) c43) (xU (b_n (t_n (xR (sp (yI i) (sw (zu i 1 rfl rfl qf (sp (yI (i+1)) (xU ?_)))))))))
   refine qZ (m' :=(cs.length - ((i+1):Int)).toNat) qf ⟨_,a42,zn+1,c43,((jM s t cs i)++[⟨((zA s t (cs[i]!)).1).qy,((zA s t (cs[i]!)).1).qE,((zA s t (cs[i]!)).1).qA⟩]),Qv++[.slice ra10aAlive ((((zA s t (cs[i]!)).1).qy).length) rc10aAlive,.slice ra10aBags ((((zA s t (cs[i]!)).1).qE).length) rc10aBags,.slice ra10aAround ((((zA s t (cs[i]!)).1).qA).length) rc10aAround],(jV++(G45++G47++G50)),i+1,uE5,?_,?_,?_,rfl,N,H.pick [5] [0,8,9,10,11,12,13,14,15]⟩
   · first | exact nextTo_new (find_mem.1 ql) | exact nextTo_in (Classical.byContradiction fun h=>absurd (find_mem.2 h) ql)
   · omega
   · exact i1.succ ‹_›
  refine qV (b_n (t_n (xR (sp (yI i) (sw (zu i 1 rfl rfl qf (sp (yI (i+1)) (xU (qZ (m' :=(cs.length - ((i+1):Int)).toNat) qf ⟨_,zY,zn,zO,(jM s t cs i),Qv,jV,i+1,uE5,?_,?_,?_,rfl,(N.pick [1]),H.pick [4] [3,4,5,6,7,8,9,10,11]⟩)))))))))
  · first | exact nextTo_new (find_mem.1 ql) | exact nextTo_in (Classical.byContradiction fun h=>absurd (find_mem.2 h) ql)
  · omega
  · exact i1.succ ‹_›
 refine zx4 (zcr (sps [.slice zY zn zO,.slice zY zn zO,yI 0] (zjr (ret2 (.slice zY zn zO) (yI 0) rfl rfl rfl ⟨_,rfl,?_,H.base⟩))))
 rw [next_ok (fun j hj=>i1 j qf),show cs.length=i by omega]
 exact ⟨zY,zn,zO,Qv,jV,rfl,N,H.pick [0] [0]⟩

theorem sameState_ok (w:World) (a:qH) (b:qH) {aaAlive:yOA} {FaAlive:yLN} {aaBags:yOA} {FaBags:yLN} {Vk:yOA} {FaAround:yLN} {abAlive:yOA} {FbAlive:yLN} {abBags:yOA} {FbBags:yLN} {Vj:yOA} {FbAround:yLN} (haAlive:qO.rep w FaAlive [.slice aaAlive a.qy.length caAlive] a.qy) (haBags:qO.rep w FaBags [.slice aaBags a.qE.length caBags] a.qE) (haAround:qO.rep w FaAround [.slice Vk a.qA.length Ve] a.qA) (hbAlive:qO.rep w FbAlive [.slice abAlive b.qy.length cbAlive] b.qy) (hbBags:qO.rep w FbBags [.slice abBags b.qE.length cbBags] b.qE) (hbAround:qO.rep w FbAround [.slice Vj b.qA.length Vd] b.qA):Calls Tryz.prog 118 #[.agg #[.slice aaAlive a.qy.length caAlive,.slice aaBags a.qE.length caBags,.slice Vk a.qA.length Ve],.agg #[.slice abAlive b.qy.length cbAlive,.slice abBags b.qE.length cbBags,.slice Vj b.qA.length Vd]] w (Ret (fun v w' =>v=.bool (decide (a=b))) w):=by
 refine en func118 ntmps118 ?_
 have H:=((((((St.start w).arg hbAround).arg hbBags).arg hbAlive).arg haAround).arg haBags).arg haAlive
 have nhaAlive:=qK haAlive
 have nhaBags:=qK haBags
 have nhaAround:=qK haAround
 have nhbAlive:=qK hbAlive
 have nhbBags:=qK hbBags
 have nhbAround:=qK hbAround
 clear haAlive haBags haAround hbAlive hbBags hbAround
 have N:=Fresh.nil w.heap.size
 refine zcr (sw (vG H (yT a aaAlive caAlive aaBags caBags Vk Ve) fun b1 w2 H=>sw (vG H (yT b abAlive cbAlive abBags cbBags Vj Vd) fun b3 w4 H=>sp (.bool false) (zjc (oF rfl (oL rfl (H.cell 1 rfl rfl) (oF rfl (oL rfl (H.cell 0 rfl rfl) (sw (oq (equalB_ok _ a.qy b.qy (H.get 0 rfl).1 (H.get 3 rfl).1) H fun w6 H=>sp (.bool (decide (a.qy=b.qy))) ?_))))))))))
 cases h8:(decide (a.qy=b.qy))
 ·skip
  replace h8:=of_decide_eq_false h8
  refine zk [11,12,13,14,15] (sps [.bool false,.bool false] (zk [18,19,20,21,22] (sps [.bool false,.bool false] (zjr (ret1 (.bool false) rfl rfl ⟨_,rfl,?_,H.base⟩)))))
  rw [decide_eq_false (fun e=>by subst e;first | omega | exact absurd rfl ql | simp_all)]
 replace h8:=of_decide_eq_true h8
 refine qQ 10 rfl rfl (oF rfl (qQ 10 rfl rfl (oL rfl (H.cell 1 rfl rfl) (qQ 10 rfl rfl (oF rfl (qQ 10 rfl rfl (oL rfl (H.cell 0 rfl rfl) (qQ 10 rfl rfl (sw (vC #[.slice aaBags a.qE.length caBags,.slice abBags b.qE.length cbBags,.func (.func 96) #[] #[]] rfl rfl call149 (en func149 ntmps149 ?_)))))))))))
 refine zcr (sp (.bool false) (zjcc (sp (.slice aaBags a.qE.length caBags) (oN rfl (sp (.slice abBags b.qE.length cbBags) (oN rfl (sp (.bool ((a.qE.length:Int) != b.qE.length)) (zjn (xH ((a.qE.length:Int) != b.qE.length) rfl (fun h9=>?_) (fun h9=>?_))))))))))
 ·skip
  replace h9:=bne_iff_ne.1 h9
  refine zcr (sp (.bool false) (zjr (t_r (ret1 (.bool false) rfl rfl ⟨_,rfl,(sps [.bool false,.bool false] (zk [18,19,20,21,22] (sps [.bool false,.bool false] (zjr (ret1 (.bool false) rfl rfl ⟨_,rfl,?_,H.base⟩)))))⟩))))
  rw [decide_eq_false (fun e=>by subst e;first | omega | exact absurd rfl ql | simp_all)]
 replace h9:=xq h9
 refine qV (t_n (zcc (sp (.slice aaBags a.qE.length caBags) (oN rfl (sp (yI 0) (zjn (qW ?_)))))))
 refine zo (fun m' ρ w10=>∃ (xP:Env) (i:Nat),ρ=upd (upd (upd (upd (upd xP 1 (.slice abBags b.qE.length cbBags)) 2 (.func (.func 96) #[] #[])) 15 (.slice aaBags a.qE.length caBags)) 16 (yI a.qE.length)) 17 (yI i)∧((i:Int)≤a.qE.length)∧(a.qE.take i=b.qE.take i)∧m' =(a.qE.length - (i:Int)).toNat∧Fresh w.heap.size []∧St w w10 [.box b3 (yT b abAlive cbAlive abBags cbBags Vj Vd) 38,.box b1 (yT a aaAlive caAlive aaBags caBags Vk Ve) 38] [sF false FaAlive aaAlive caAlive a.qy,sF false FaBags aaBags caBags a.qE,sF false FaAround Vk Ve a.qA,sF false FbAlive abAlive cbAlive b.qy,sF false FbBags abBags cbBags b.qE,sF false FbAround Vj Vd b.qA]) ((a.qE.length - (0:Int)).toNat) ⟨_,0,uE5,qf,(by rfl),rfl,N,H⟩ ?_
 clear H N
 rintro m' ρ w11 ⟨xP,i,rfl,i0,i2,rfl,N,H⟩
 refine zcr (sp (.bool (decide ((i:Int) < a.qE.length))) (zjn (xO (cD rfl (fun h12=>?_) (fun h12=>?_)))))
 ·skip
  refine qV (t_n (xO (qW (zcr (sp (yI i) ?_)))))
  obtain ⟨b13,o14,rfl⟩:=H.addr 1 rfl qf
  obtain ⟨ae16,ce16,Fe16,H⟩:=H.vN 1 rfl i i qf qf qf
  refine oI rfl rfl (oL rfl (H.xQ 1 rfl 0 rfl) (sps [yI i,.slice ae16 ((a.qE[i]!).length) ce16] (zjc (sps [.slice abBags b.qE.length cbBags,yI i] ?_))))
  obtain ⟨b17,o18,rfl⟩:=H.addr 6 rfl qf
  obtain ⟨ae20,ce20,Fe20,H⟩:=H.vN 6 rfl i i qf qf qf
  refine oI rfl rfl (oL rfl (H.xQ 1 rfl 0 rfl) (sp (.slice ae20 ((b.qE[i]!).length) ce20) (zjc (sps [.func (.func 96) #[] #[],.slice ae16 ((a.qE[i]!).length) ce16,.slice ae20 ((b.qE[i]!).length) ce20] (sw (oq (equalI_ok _ (a.qE[i]!) (b.qE[i]!) (H.get 2 rfl).1 (H.get 0 rfl).1) H fun w22 H=>sp (.bool (!(decide ((a.qE[i]!)=(b.qE[i]!))))) (zjn (xH (!(decide ((a.qE[i]!)=(b.qE[i]!)))) rfl (fun h24=>?_) (fun h24=>?_)))))))))
  ·skip
   replace h24:=xn h24
   replace h24:=of_decide_eq_false h24
   refine zcr (sp (.bool false) (zjr (zr5 (ret1 (.bool false) rfl rfl ⟨_,rfl,(sps [.bool false,.bool false] (zk [18,19,20,21,22] (sps [.bool false,.bool false] (zjr (ret1 (.bool false) rfl rfl ⟨_,rfl,?_,H.base⟩)))))⟩))))
   rw [decide_eq_false (fun e=>by subst e;first | omega | exact absurd rfl ql | simp_all)]
  replace h24:=xg h24
  replace h24:=of_decide_eq_true h24
  refine qV (b_n (t_n (xR (sw (zu i 1 rfl rfl qf (sp (yI (i+1)) (xU (qZ (m' :=(a.qE.length - ((i+1):Int)).toNat) qf ⟨_,i+1,uE5,?_,?_,rfl,N,H.pick [0,1] [4,5,6,7,8,9]⟩))))))))
  · omega
  · exact QT qf qf i2 ql
 refine zx4 (zcr (sp (.bool true) (zjr (ret1 (.bool true) rfl rfl ⟨_,rfl,(sps [.bool true,.bool true] (qQ 17 rfl rfl (oF rfl (qQ 17 rfl rfl (oL rfl (H.cell 1 rfl rfl) (qQ 17 rfl rfl (oF rfl (qQ 17 rfl rfl (oL rfl (H.cell 0 rfl rfl) (qQ 17 rfl rfl (sw (oq (equalI_ok _ a.qA b.qA (H.get 2 rfl).1 (H.get 5 rfl).1) H fun w26 H=>sps [.bool (decide (a.qA=b.qA)),.bool (decide (a.qA=b.qA))] (zjr (ret1 (.bool (decide (a.qA=b.qA))) rfl rfl ⟨_,rfl,?_,H.base⟩))))))))))))))⟩))))
 rw [show decide (a=b)=decide (a.qA=b.qA) from decide_eq_decide.2 ⟨fun e=>by rw [e],fun e=>state_eq ql (vS (k:=i) qf qf i2) e⟩]

theorem behind_ok (w:World) (s:qI) (t:qH) (cs:yLL) {qC:yOA} {qY:yLN} {qN:yOA} {xF:yLN} {qU:yOA} {xN:yLN} {xm:yOA} {zq:yLN} {qM:yOA} {xE:yLN} {acs:yOA} {Fcs:yLN} (xf:qO.rep w qY [.slice qC s.qw.length qB] s.qw) (xI:qO.rep w xF [.slice qN s.qx.length qJ] s.qx) (zg:qO.rep w xN [.slice qU t.qy.length qP] t.qy) (zI:qO.rep w zq [.slice xm t.qE.length xh] t.qE) (xK:qO.rep w xE [.slice qM t.qA.length qL] t.qA) (hcs:qO.rep w Fcs [.slice acs cs.length ccs] cs) (p0:yj s) (p1:zH s t) (p2:cs.length≤1000) (p3:∀ q,q < cs.length→CntOk s (cs[q]!)) (p4:∀ q,q < cs.length→IsCh s t (cs[q]!)):Calls Tryz.prog 113 #[.agg #[yI s.xA,.slice qC s.qw.length qB,.slice qN s.qx.length qJ],.agg #[.slice qU t.qy.length qP,.slice xm t.qE.length xh,.slice qM t.qA.length qL],.slice acs cs.length ccs] w (Ret (fun v w' =>∃ (ra0:yOA) (rn0:Nat) (rc0:Nat) (rx0:List Value) (rF0:yLN),v=.tuple #[.slice ra0 rn0 rc0,yI ((Qs s t cs).2)]∧Fresh w.heap.size [rF0]∧St w w' [rr ra0 rn0 rc0 38 3 rx0] [zh true rF0 rx0 ((Qs s t cs).1)]) w):=by
 refine en func113 ntmps113 ?_
 have H:=((((((St.start w).arg hcs).arg xK).arg zI).arg zg).arg xI).arg xf
 have vk:=qK xf
 have jl:=qK xI
 have Qh:=qK zg
 have QW:=qK zI
 have jL:=qK xK
 have nhcs:=qK hcs
 clear xf xI zg zI xK hcs
 have N:=Fresh.nil w.heap.size
 refine zcr (sw (vG H (yS s qC qB qN qJ) fun b1 w2 H=>sw (vG H (yT t qU qP xm xh qM qL) fun b3 w4 H=>sps [yN,yI 0] (zjc (sw (vT H underlying47 ti38 fun b5 w6 H=>sp (.slice (aa b5 0) 0 0) (zjcc (sp (.slice acs cs.length ccs) (oN rfl (sp (yI 0) (zjn (qW ?_))))))))))))
 replace H:=H.boxRow 0 rfl 3 0 rfl qj
 replace H:=H.vP (α:=qH)
 replace H:St _ _ [rr (aa b5 0) 0 0 38 3 [],.box b3 (yT t qU qP xm xh qM qL) 38,.box b1 (yS s qC qB qN qJ) 36] [zh true [] [] ([]:List qH),sF false qY qC qB s.qw,sF false xF qN qJ s.qx,sF false xN qU qP t.qy,sF false zq xm xh t.qE,sF false xE qM qL t.qA,sF false Fcs acs ccs cs]:=H
 refine zo (fun m' ρ w7=>∃ (xP:Env) (zY:yOA) (zn:Nat) (zO:Nat) (out:List qH) (Qv:List Value) (jV:yLN) (k:Nat),ρ=upd (upd (upd (upd (upd (upd xP 3 (pp b1 0)) 4 (pp b3 0)) 8 (.slice zY zn zO)) 14 (.slice acs cs.length ccs)) 15 (yI cs.length)) 16 (yI k)∧out=jM s t cs k∧((k:Int)≤cs.length)∧(NoBad s t cs k)∧m' =(cs.length - (k:Int)).toNat∧Fresh w.heap.size [jV]∧St w w7 [rr zY zn zO 38 3 Qv,.box b3 (yT t qU qP xm xh qM qL) 38,.box b1 (yS s qC qB qN qJ) 36] [zh true jV Qv out,sF false qY qC qB s.qw,sF false xF qN qJ s.qx,sF false xN qU qP t.qy,sF false zq xm xh t.qE,sF false xE qM qL t.qA,sF false Fcs acs ccs cs]) ((cs.length - (0:Int)).toNat) ⟨_,(aa b5 0),0,0,([]:List qH),[],[],0,uE6,(by rfl),qf,(by exact fun j hj=>by omega),rfl,N.emp,H⟩ ?_
 clear H N
 rintro m' ρ w8 ⟨xP,zY,zn,zO,out,Qv,jV,k,rfl,rfl,i0,i1,rfl,N,H⟩
 have hn_out:=H.zl (α:=qH) 0 rfl 0 rfl qj
 have nl:=nextTo_len (s:=s) (t:=t) (cs:=cs) k
 refine zcr (sp (.bool (decide ((k:Int) < cs.length))) (zjn (xO (cD rfl (fun h9=>?_) (fun h9=>?_)))))
 ·skip
  refine qV (t_n (xO (qW (zcr ?_))))
  obtain ⟨b10,o11,rfl⟩:=H.addr 6 rfl qf
  obtain ⟨ae13,ce13,Fe13,H⟩:=H.vN 6 rfl k k qf qf qf
  refine oI rfl rfl (oL rfl (H.xQ 1 rfl 0 rfl) (sp (.slice ae13 ((cs[k]!).length) ce13) (zjc (sw (xY (yS s qC qB qN qJ) isAgg36 sizeOf36 rfl (qF (H.cells 2 rfl) 0 3) (sw (xY (yT t qU qP xm xh qM qL) isAgg38 sizeOf38 rfl (qF (H.cells 1 rfl) 0 3) (sp (.slice ae13 ((cs[k]!).length) ce13) ?_))))))))
  have k3:=p3 k qf
  have k5:=p4 k qf
  have sz17:=H.base.size
  have lt18:=H.ltN (L:=[jV]) [2]
  refine sw (oc (step_ok _ s t (cs[k]!) (H.get 3 rfl).1 (H.get 4 rfl).1 (H.get 5 rfl).1 (H.get 6 rfl).1 (H.get 7 rfl).1 (H.get 0 rfl).1 qg qg qg qg) ?_)
  rintro _ w15 ⟨ra14aAlive,rn14aAlive,rc14aAlive,ra14aBags,rn14aBags,rc14aBags,rx14aBags,rF14aBags,ra14aAround,rn14aAround,rc14aAround,rfl,M,K⟩ _
  replace N:=N.merge sz17 lt18 M
  replace H:=H.merge K M
  obtain rfl:=H.rowNB 0 rfl
  obtain rfl:=H.zl (α:=yLI) 1 rfl 0 rfl qj
  obtain rfl:=H.YG 2 rfl
  refine sps [.tuple #[.agg #[.slice ra14aAlive ((((zA s t (cs[k]!)).1).qy).length) rc14aAlive,.slice ra14aBags ((((zA s t (cs[k]!)).1).qE).length) rc14aBags,.slice ra14aAround ((((zA s t (cs[k]!)).1).qA).length) rc14aAround],yI ((zA s t (cs[k]!)).2)],.agg #[.slice ra14aAlive ((((zA s t (cs[k]!)).1).qy).length) rc14aAlive,.slice ra14aBags ((((zA s t (cs[k]!)).1).qE).length) rc14aBags,.slice ra14aAround ((((zA s t (cs[k]!)).1).qA).length) rc14aAround],yI ((zA s t (cs[k]!)).2)] (sw (xX H ti38 [yN,yN,yN] fun b22 w23 H=>?_))
  refine sw (zt H 0 [.slice ra14aAlive ((((zA s t (cs[k]!)).1).qy).length) rc14aAlive,.slice ra14aBags ((((zA s t (cs[k]!)).1).qE).length) rc14aBags,.slice ra14aAround ((((zA s t (cs[k]!)).1).qA).length) rc14aAround] sizeOf38 fun w24 H=>sp (yI ((zA s t (cs[k]!)).2)) (zjcc (sps [yI ((zA s t (cs[k]!)).2),.bool (((zA s t (cs[k]!)).2:Int) != 0)] (zjn (xH (((zA s t (cs[k]!)).2:Int) != 0) rfl (fun h25=>?_) (fun h25=>?_))))))
  ·skip
   replace h25:=bne_iff_ne.1 h25
   refine zcr (sps [yI ((zA s t (cs[k]!)).2),yN,yI ((zA s t (cs[k]!)).2)] (zjr (t_r (zr5 ?_))))
   replace H:=H.nilRow 38 3
   replace H:=H.vP (α:=qH)
   refine ret2 yN (yI ((zA s t (cs[k]!)).2)) rfl rfl rfl ⟨_,rfl,?_,H.base⟩
   rw [next_bad i1 qf ‹_›]
   exact ⟨none,0,0,[],[],rfl,(N.emp.pick [0]),H.pick [0] [0]⟩
  replace h25:=xq h25
  refine qV (t_n (zcr (sps [.slice zY zn zO,.func (.func 147) #[] #[pp b22 0]] (sw (vC #[.slice zY zn zO,.func (.func 147) #[] #[pp b22 0]] rfl rfl call146 (en func146 ntmps146 ?_))))))
  refine zcr (sp (.bool false) (zjc (sps [.slice zY zn zO,.func (.func 147) #[] #[pp b22 0]] (sw (vC #[.slice zY zn zO,.func (.func 147) #[] #[pp b22 0]] rfl rfl call116 (en func116 ntmps116 ?_))))))
  refine zcr (sp (yI 0) (zjcc (sp (.slice zY zn zO) (oN rfl (sp (yI 0) (zjn (qW ?_)))))))
  refine zo (fun m' ρ w26=>∃ (xP:Env) (i:Nat),ρ=upd (upd (upd (upd xP 0 (.slice zY zn zO)) 1 (.func (.func 147) #[] #[pp b22 0])) 7 (yI zn)) 8 (yI i)∧((i:Int)≤zn)∧(NotIn (jM s t cs k) (zA s t (cs[k]!)).1 i)∧m' =(zn - (i:Int)).toNat∧Fresh w.heap.size [rF14aBags,jV]∧St w w26 [.box b22 [.slice ra14aAlive ((((zA s t (cs[k]!)).1).qy).length) rc14aAlive,.slice ra14aBags ((((zA s t (cs[k]!)).1).qE).length) rc14aBags,.slice ra14aAround ((((zA s t (cs[k]!)).1).qA).length) rc14aAround] 38,rr ra14aAlive ((((zA s t (cs[k]!)).1).qy).length) rc14aAlive 4 1 ((((zA s t (cs[k]!)).1).qy).map (Value.bool)),rr ra14aBags ((((zA s t (cs[k]!)).1).qE).length) rc14aBags 22 1 rx14aBags,rr ra14aAround ((((zA s t (cs[k]!)).1).qA).length) rc14aAround 2 1 ((((zA s t (cs[k]!)).1).qA).map (Value.int .i64)),rr zY zn zO 38 3 Qv,.box b3 (yT t qU qP xm xh qM qL) 38,.box b1 (yS s qC qB qN qJ) 36] [zh true rF14aBags rx14aBags (((zA s t (cs[k]!)).1).qE),sF false Fe13 ae13 ce13 (cs[k]!),atF b10 (o11+(k:Int).toNat * 1) [.slice ae13 ((cs[k]!).length) ce13],zh true jV Qv (jM s t cs k),sF false qY qC qB s.qw,sF false xF qN qJ s.qx,sF false xN qU qP t.qy,sF false zq xm xh t.qE,sF false xE qM qL t.qA,sF false Fcs (aa b10 o11) ccs cs]) ((zn - (0:Int)).toNat) ⟨_,0,uE4,qf,(by exact fun j hj=>by omega),rfl,N,H⟩ ?_
  clear H N
  rintro m' ρ w27 ⟨xP,i,rfl,i0,i2,rfl,N,H⟩
  refine zcr (sp (.bool (decide ((i:Int) < zn))) (zjn (xO (cD rfl (fun h28=>?_) (fun h28=>?_)))))
  ·skip
   refine qV (t_n (xO (qW (zcr (sps [yI i,yI i] (zjc (sps [.func (.func 147) #[] #[pp b22 0],.slice zY zn zO,yI i] ?_)))))))
   obtain ⟨b29,rfl⟩:=H.Qz 4 rfl qf
   obtain ⟨ae30Alive,ce30Alive,Fe30Alive,ae30Bags,ce30Bags,Fe30Bags,ae30Around,ce30Around,Fe30Around,hx31,H⟩:=H.rowel_StateD 4 rfl 3 rfl (iv:=i) i qf qf
   refine oI rfl rfl (sw (xY [.slice ae30Alive ((((jM s t cs k)[i]!).qy).length) ce30Alive,.slice ae30Bags ((((jM s t cs k)[i]!).qE).length) ce30Bags,.slice ae30Around ((((jM s t cs k)[i]!).qA).length) ce30Around] isAgg38 sizeOf38 rfl (qF (fun j v hj=>H.rowGet 4 rfl (hx31 j v hj)) 0 3) (sw (vC #[.agg #[.slice ae30Alive ((((jM s t cs k)[i]!).qy).length) ce30Alive,.slice ae30Bags ((((jM s t cs k)[i]!).qE).length) ce30Bags,.slice ae30Around ((((jM s t cs k)[i]!).qA).length) ce30Around],pp b22 0] rfl rfl call147 (en func147 ntmps147 ?_)))))
   refine zcr (sw (vG H [.slice ae30Alive ((((jM s t cs k)[i]!).qy).length) ce30Alive,.slice ae30Bags ((((jM s t cs k)[i]!).qE).length) ce30Bags,.slice ae30Around ((((jM s t cs k)[i]!).qA).length) ce30Around] fun b32 w33 H=>sp (.bool false) (zjc (sw (xY [.slice ae30Alive ((((jM s t cs k)[i]!).qy).length) ce30Alive,.slice ae30Bags ((((jM s t cs k)[i]!).qE).length) ce30Bags,.slice ae30Around ((((jM s t cs k)[i]!).qA).length) ce30Around] isAgg38 sizeOf38 rfl (qF (H.cells 0 rfl) 0 3) ?_)))))
   refine sw (xY [.slice ra14aAlive ((((zA s t (cs[k]!)).1).qy).length) rc14aAlive,.slice ra14aBags ((((zA s t (cs[k]!)).1).qE).length) rc14aBags,.slice ra14aAround ((((zA s t (cs[k]!)).1).qA).length) rc14aAround] isAgg38 sizeOf38 rfl (qF (H.cells 1 rfl) 0 3) ?_)
   obtain ⟨G34,hn35,h36⟩:=H.rowIsB 2 rfl
   obtain ⟨G37,hn38,h39⟩:=H.rowIsR (α:=yLI) 3 rfl 3 rfl qj
   obtain ⟨G40,hn41,h42⟩:=H.rowIsI 4 rfl
   refine sw (oq (sameState_ok _ ((jM s t cs k)[i]!) ((zA s t (cs[k]!)).1) (H.get 0 rfl).1 (H.get 1 rfl).1 (H.get 2 rfl).1 h36 h39 h42) H fun w44 H=>sp (.bool (decide (((jM s t cs k)[i]!)=((zA s t (cs[k]!)).1)))) (zjr (ret1 (.bool (decide (((jM s t cs k)[i]!)=((zA s t (cs[k]!)).1)))) rfl rfl ⟨_,rfl,?_⟩)))
   replace H:=H.erases [0]
   dsimp only [vX,List.eraseIdx] at H
   refine zjn (cD rfl (fun h46=>?_) (fun h46=>?_))
   ·skip
    refine zcr (sps [yI i,yI i] (zjr (zr5 (ret1 (yI i) rfl rfl ⟨_,rfl,(sw (o_pure (.bool true) (by show some (Value.bool (decide ((i:Int)≥0)))=some (Value.bool true);rw [decide_eq_true qf]) (sp (.bool true) (zjr (ret1 (.bool true) rfl rfl ⟨_,rfl,(sp (.bool false) (zjn (xH false rfl (fun h=>absurd h qj) (fun _=>qV (b_n (t_n (xR (sw (zu k 1 rfl rfl qf (sp (yI (k+1)) (xU ?_)))))))))))⟩)))))⟩))))
    refine qZ (m' :=(cs.length - ((k+1):Int)).toNat) qf ⟨_,(aa b29 0),zn,zO,(jM s t cs k),Qv,jV,k+1,uE6,?_,?_,?_,rfl,(N.pick [1]),H.pick [4,5,6] [6,7,8,9,10,11,12]⟩
    · first | exact nextTo_new (NotIn.out (fun j hj=>i2 j qf)) | exact nextTo_in (mem_at (k:=i) qf ql)
    · omega
    · exact i1.succ ‹_›
   refine qV (b_n (t_n (xR (sw (zu i 1 rfl rfl qf (sp (yI (i+1)) (xU (qZ (m' :=(zn - ((i+1):Int)).toNat) qf ⟨_,i+1,uE4,?_,?_,rfl,N,H.pick [0,1,2,3,4,5,6] [3,4,5,6,7,8,9,10,11,12]⟩))))))))
   · omega
   · exact i2.succ ‹_›
  refine zx4 (zcr (sp (yI (-1)) (zjr (ret1 (yI (-1)) rfl rfl ⟨_,rfl,(sps [.bool false,.bool false] (zjr (ret1 (.bool false) rfl rfl ⟨_,rfl,(sp (.bool true) (zjn (xH true rfl (fun _=>xR (sp (.slice zY zn zO) (sw (xY [.slice ra14aAlive ((((zA s t (cs[k]!)).1).qy).length) rc14aAlive,.slice ra14aBags ((((zA s t (cs[k]!)).1).qE).length) rc14aBags,.slice ra14aAround ((((zA s t (cs[k]!)).1).qA).length) rc14aAround] isAgg38 sizeOf38 rfl (qF (H.cells 0 rfl) 0 3) ?_)))) (fun h=>absurd h qj))))⟩)))⟩))))
  refine sw (zG H underlying47 ti38 [.slice ra14aAlive ((((zA s t (cs[k]!)).1).qy).length) rc14aAlive,.slice ra14aBags ((((zA s t (cs[k]!)).1).qE).length) rc14aBags,.slice ra14aAround ((((zA s t (cs[k]!)).1).qA).length) rc14aAround] fun b47 w48 H=>?_)
  obtain ⟨G52,N,hn53,H⟩:=H.freezeB 2 rfl N (H.jQ [0,3])
  have H0:=H
  obtain ⟨G54,hg56,hn55,H⟩:=H.QI (α:=yLI) 3 rfl 1 rfl qj
  replace N:Fresh w.heap.size [G54,G52,jV]:=Fresh.ice (N.pick [1,0,2]) H0 3 hg56.1 hg56.2 (H0.jQ [0,4])
  clear H0
  obtain ⟨G57,N,hn58,H⟩:=H.vW 4 rfl N (H.jQ [0,1,5])
  refine sw (zN H 5 rfl 0 rfl underlying47 ti38 rfl qj rfl rfl rfl (by simp [Value.oneCell',Value.cells]) qp qf fun a49 c50 w51 H=>?_)
  replace H:=H.XN 6 rfl 2 rfl 1 rfl 0 rfl
  replace N:Fresh w.heap.size [(jV++(G52++G54++G57))]:=(N.pick [2,1,0,3]).join.join.swap.join
  refine sp (.slice a49 (zn+1) c50) (xU (b_n (t_n (xR (sw (zu k 1 rfl rfl qf (sp (yI (k+1)) (xU ?_))))))))
  refine qZ (m' :=(cs.length - ((k+1):Int)).toNat) qf ⟨_,a49,zn+1,c50,((jM s t cs k)++[⟨((zA s t (cs[k]!)).1).qy,((zA s t (cs[k]!)).1).qE,((zA s t (cs[k]!)).1).qA⟩]),Qv++[.slice ra14aAlive ((((zA s t (cs[k]!)).1).qy).length) rc14aAlive,.slice ra14aBags ((((zA s t (cs[k]!)).1).qE).length) rc14aBags,.slice ra14aAround ((((zA s t (cs[k]!)).1).qA).length) rc14aAround],(jV++(G52++G54++G57)),k+1,uE6,?_,?_,?_,rfl,N,H.pick [5,6,7] [0,8,9,10,11,12,13]⟩
  · first | exact nextTo_new (NotIn.out (fun j hj=>i2 j qf)) | exact nextTo_in (mem_at (k:=i) qf ql)
  · omega
  · exact i1.succ ‹_›
 refine zx4 (zcr (sps [.slice zY zn zO,.slice zY zn zO,yI 0] (zjr (ret2 (.slice zY zn zO) (yI 0) rfl rfl rfl ⟨_,rfl,?_,H.base⟩))))
 rw [next_ok (fun j hj=>i1 j qf),show cs.length=k by omega]
 exact ⟨zY,zn,zO,Qv,jV,rfl,N,H.pick [0] [0]⟩
theorem l01Full_ok (w:World) (rest:yLI) (parts:yLL) {arest:yOA} {crest:Nat} {Frest:yLN} {zf:yOA} {xW:Nat} {Fparts:yLN} (hrest:qO.rep w Frest [.slice arest rest.length crest] rest) (hparts:qO.rep w Fparts [.slice zf parts.length xW] parts) (p0:Yp parts rest):Calls Tryz.prog 198 #[.slice arest rest.length crest,.slice zf parts.length xW] w (Ret (fun v w' =>v=.bool (dec (FullOk parts rest))) w):=by
 refine en func198 ntmps198 ?_
 have H:=((St.start w).arg hparts).arg hrest
 have nhrest:=qK hrest
 have nhparts:=qK hparts
 clear hrest hparts
 have N:=Fresh.nil w.heap.size
 refine zcr (sp (.bool false) (zjcc (sp (yI 0) (zjn (qW ?_)))))
 refine zo (fun m' ρ w1=>∃ (xP:Env) (i:Nat),ρ=upd (upd (upd xP 0 (.slice arest rest.length crest)) 1 (.slice zf parts.length xW)) 5 (yI i)∧((i:Int)≤parts.length)∧(FullTo parts rest i)∧m' =(parts.length - (i:Int)).toNat∧Fresh w.heap.size []∧St w w1 [] [sF false Frest arest crest rest,sF false Fparts zf xW parts]) ((parts.length - (0:Int)).toNat) ⟨_,0,uE3,qf,(by exact fun j hj=>by omega),rfl,N,H⟩ ?_
 clear H N
 rintro m' ρ w2 ⟨xP,i,rfl,i0,i1,rfl,N,H⟩
 refine zcc (sps [yI i,.slice zf parts.length xW] (oN rfl (sp (.bool (decide ((i:Int) < parts.length))) (zjn (cD rfl (fun h3=>?_) (fun h3=>?_))))))
 ·skip
  refine qV (t_n (xO (qW (zcr (sps [.slice zf parts.length xW,yI i] ?_)))))
  obtain ⟨b4,o5,rfl⟩:=H.addr 1 rfl qf
  obtain ⟨ae7,ce7,Fe7,H⟩:=H.vN 1 rfl i i qf qf qf
  refine oI rfl rfl (oL rfl (H.xQ 1 rfl 0 rfl) (sp (.slice arest rest.length crest) ?_))
  obtain ⟨t1,t2⟩:=p0.times (k:=i) qf
  refine sw (oq (l01Within_ok _ (parts[i]!) rest (H.get 0 rfl).1 (H.get 2 rfl).1 qg) H fun w9 H=>zjn (xH (within (parts[i]!) rest) rfl (fun h11=>?_) (fun h11=>?_)))
  ·skip
   refine zcr (sp (.bool false) (zjr (zr5 (ret1 (.bool false) rfl rfl ⟨_,rfl,?_,H.base⟩))))
   rw [xw (fun h=>by have:=h i qf;simp_all)]
  refine qV (b_n (t_n (xR (sp (yI i) (sw (zu i 1 rfl rfl qf (sp (yI (i+1)) (xU (qZ (m' :=(parts.length - ((i+1):Int)).toNat) qf ⟨_,i+1,uE3,?_,?_,rfl,N,H.pick [] [2,3]⟩)))))))))
  · omega
  · exact i1.succ ‹_›
 refine zx4 (zcr (sp (.bool true) (zjr (ret1 (.bool true) rfl rfl ⟨_,rfl,?_,H.base⟩))))
 rw [yu (show FullOk parts rest from fun j hj=>i1 j qf)]

def l01Pack_ok_S (f:Nat):Prop:=∀ {W0 w:World} {ps:List Prv} {Γ:List Fact} {Ns:List yLN} (rest:yLI) (parts:yLL) (vI:yLI) (out:yLL) (arest:yOA) (crest:Nat) (Frest:yLN) (zf:yOA) (xW:Nat) (Fparts:yLN) (abegin:yOA) (cbegin:Nat) (Fbegin:yLN) (bout:Nat) (raout:yOA) (rnout:Nat) (rcout:Nat) (rxout:List Value) (rFout:yLN) (H:St W0 w ((.box bout [.slice raout rnout rcout] 27) :: (rr raout rnout rcout 22 1 rxout) :: ps) ((sF false Frest arest crest rest) :: (sF false Fparts zf xW parts) :: (sF false Fbegin abegin cbegin vI) :: (zh true rFout rxout out) :: Γ)) (N:Fresh W0.heap.size (rFout :: Ns)) (K0:Kept Ns Γ) (p0:vI.length+f=parts.length) (p1:Yp parts rest) (p2:out.length≤2000),Calls Tryz.prog 171 #[.slice arest rest.length crest,.slice zf parts.length xW,.slice abegin vI.length cbegin,pp bout 0] w (fun e w' =>∃ v,e=.returned v∧∃ (raout_:yOA) (rnout_:Nat) (rcout_:Nat) (rxout_:List Value) (rFout_:yLN),v=.tuple #[]∧Fresh W0.heap.size (rFout_ :: Ns)∧St W0 w' ((.box bout [.slice raout_ rnout_ rcout_] 27) :: (rr raout_ rnout_ rcout_ 22 1 rxout_) :: ps) ((sF false Frest arest crest rest) :: (sF false Fparts zf xW parts) :: (sF false Fbegin abegin cbegin vI) :: (zh true rFout_ rxout_ (gath out (begins vI (packs parts (parts.length - vI.length) vI.length rest)))) :: Γ))
theorem l01Pack_ok_step (f:Nat) (IH:∀ k,k < f→l01Pack_ok_S k) {W0 w:World} {ps:List Prv} {Γ:List Fact} {Ns:List yLN} (rest:yLI) (parts:yLL) (vI:yLI) (out:yLL) (arest:yOA) (crest:Nat) (Frest:yLN) (zf:yOA) (xW:Nat) (Fparts:yLN) (abegin:yOA) (cbegin:Nat) (Fbegin:yLN) (bout:Nat) (raout:yOA) (rnout:Nat) (rcout:Nat) (rxout:List Value) (rFout:yLN) (H:St W0 w ((.box bout [.slice raout rnout rcout] 27) :: (rr raout rnout rcout 22 1 rxout) :: ps) ((sF false Frest arest crest rest) :: (sF false Fparts zf xW parts) :: (sF false Fbegin abegin cbegin vI) :: (zh true rFout rxout out) :: Γ)) (N:Fresh W0.heap.size (rFout :: Ns)) (K0:Kept Ns Γ) (p0:vI.length+f=parts.length) (p1:Yp parts rest) (p2:out.length≤2000):Calls Tryz.prog 171 #[.slice arest rest.length crest,.slice zf parts.length xW,.slice abegin vI.length cbegin,pp bout 0] w (fun e w' =>∃ v,e=.returned v∧∃ (raout_:yOA) (rnout_:Nat) (rcout_:Nat) (rxout_:List Value) (rFout_:yLN),v=.tuple #[]∧Fresh W0.heap.size (rFout_ :: Ns)∧St W0 w' ((.box bout [.slice raout_ rnout_ rcout_] 27) :: (rr raout_ rnout_ rcout_ 22 1 rxout_) :: ps) ((sF false Frest arest crest rest) :: (sF false Fparts zf xW parts) :: (sF false Fbegin abegin cbegin vI) :: (zh true rFout_ rxout_ (gath out (begins vI (packs parts (parts.length - vI.length) vI.length rest)))) :: Γ)):=by
 refine en func171 ntmps171 ?_
 have nhrest:=qK (H.get 0 rfl).1
 have nhparts:=qK (H.get 1 rfl).1
 have nhbegin:=qK (H.get 2 rfl).1
 obtain rfl:=H.zl (α:=yLI) 1 rfl 3 rfl qj
 have p3:=p1.small
 refine zcr (sp (.slice abegin vI.length cbegin) (oN rfl (sp (yI vI.length) (zjcc (sps [yI vI.length,.slice zf parts.length xW] (oN rfl (sp (.bool ((vI.length:Int) == parts.length)) (zjn (cE rfl (fun h1=>?_) (fun h1=>?_))))))))))
 ·skip
  refine zcc (sps [.slice arest rest.length crest,.slice zf parts.length xW] (sw (oq (l01Full_ok _ rest parts (H.get 0 rfl).1 (H.get 1 rfl).1 qg) H fun w3 H=>zjn (cP rfl (fun h5=>?_) (fun h5=>?_)))))
  ·skip
   refine c_cut (fun ρ w11=>∃ (xP:Env) (a6:yOA) (c7:Nat) (a8:yOA) (c9:Nat) (G10:yLN),ρ=xP∧Fresh W0.heap.size ((rFout++G10) :: Ns)∧St W0 w11 ((.box bout [.slice a6 (out.length+1) c7] 27) :: (rr a6 (out.length+1) c7 22 1 (rxout++[.slice a8 vI.length c9])) :: ps) ((zh true (rFout++G10) (rxout++[.slice a8 vI.length c9]) (out++[vI])) :: (sF true G10 a8 c9 vI) :: (sF false Frest arest crest rest) :: (sF false Fparts zf xW parts) :: (sF false Fbegin abegin cbegin vI) :: Γ)) ?_ ?_
   ·skip
    refine c_drawK2 rfl H [] [0,1,2,3] fun H=>?_
    have S:=H.yD [] [0,1,2,3]
    refine rtp 0 (pp bout 0) S ?_
    refine rtp 1 (pp bout 0) S ?_
    refine rtp 2 (pp bout 0) S ?_
    refine rtp 4 (.slice abegin vI.length cbegin) S ?_
    refine jo [3,5] qh qm (Qj rfl ?_ (Qj rfl ?_ jq))
    ·skip
     refine zK (.slice raout out.length rcout) isAgg27 rfl (H.cell 0 rfl rfl) (⟨H.pick [] [0,1,2,3],(ro 5 rfl ?_)⟩)
     have sz13:=H.base.size
     have lt14:=all_two (H.ltN (L:=[rFout]) [3]) (H.ltK (K0.behind 4 rfl))
     refine oc (X0 _ vI (H.get 2 rfl).1 qg) ?_
     rintro v18 w16 r18 x17
     replace H:=H.zB x17 r18
     obtain ⟨a19,c20,rfl,hc21,hm22⟩:=H.jm 0 rfl
     refine ⟨H.pick [] [0,1,2,3],(ro 6 rfl (zG H underlying27 ti22 [.slice a19 vI.length c20] fun b23 w24 H=>⟨H.pick [] [0,1,2,3],(ro 7 rfl ?_)⟩))⟩
     obtain ⟨G28,N,hn29,H⟩:=H.vW 1 rfl N (fun F hF b hb=>(List.mem_append.1 (show F∈[rFout]++Ns from hF)).elim (fun h=>(H.jQ (L:=[rFout]) [3]) F h b hb) fun h=>H.awayK (K0.behind 4 rfl) F h b hb)
     try dsimp only [List.set] at H
     refine zN H 3 rfl 0 rfl underlying27 ti22 rfl qj rfl rfl rfl (by simp [Value.oneCell',Value.cells]) qp qf fun a25 c26 w27 H=>?_
     try dsimp only [List.set] at H
     replace H:=H.yB 4 rfl 0 rfl
     replace N:Fresh W0.heap.size ((rFout++G28) :: Ns):=(N.YU 2 [1,0] qo).join
     refine ⟨H.pick [] [2,3,4,5],(rtp 8 (pp bout 0) (H.pick [] [2,3,4,5]) ?_)⟩
     refine ro 9 rfl (zF H 2 [.slice a25 (out.length+1) c26] sizeOf27 fun w30 H=>?_)
     try dsimp only [List.set] at H
     refine ⟨H.pick [] [2,3,4,5],(xM qh ((meet ⟨_,a25,c26,a19,c20,G28,(by exact rfl),N,H.YU 4 6 [2,3] [0,1,2,3,4] qo qo⟩)))⟩
    have sz31:=H.base.size
    have lt32:=all_two (H.ltN (L:=[rFout]) [3]) (H.ltK (K0.behind 4 rfl))
    refine oc (X0 _ vI (H.get 2 rfl).1 qg) ?_
    rintro v36 w34 r36 x35
    replace H:=H.zB x35 r36
    obtain ⟨a37,c38,rfl,hc39,hm40⟩:=H.jm 0 rfl
    refine ⟨H.pick [] [0,1,2,3],(jo [3,6] qh qm (Qj rfl ?_ (Qj rfl ?_ jq)))⟩
    ·skip
     refine zK (.slice raout out.length rcout) isAgg27 rfl (H.cell 1 rfl rfl) (⟨H.pick [] [0,1,2,3],(ro 6 rfl (zG H underlying27 ti22 [.slice a37 vI.length c38] fun b41 w42 H=>⟨H.pick [] [0,1,2,3],(ro 7 rfl ?_)⟩))⟩)
     obtain ⟨G46,N,hn47,H⟩:=H.vW 1 rfl N (fun F hF b hb=>(List.mem_append.1 (show F∈[rFout]++Ns from hF)).elim (fun h=>(H.jQ (L:=[rFout]) [3]) F h b hb) fun h=>H.awayK (K0.behind 4 rfl) F h b hb)
     try dsimp only [List.set] at H
     refine zN H 3 rfl 0 rfl underlying27 ti22 rfl qj rfl rfl rfl (by simp [Value.oneCell',Value.cells]) qp qf fun a43 c44 w45 H=>?_
     try dsimp only [List.set] at H
     replace H:=H.yB 4 rfl 0 rfl
     replace N:Fresh W0.heap.size ((rFout++G46) :: Ns):=(N.YU 2 [1,0] qo).join
     refine ⟨H.pick [] [2,3,4,5],(rtp 8 (pp bout 0) (H.pick [] [2,3,4,5]) ?_)⟩
     refine ro 9 rfl (zF H 2 [.slice a43 (out.length+1) c44] sizeOf27 fun w48 H=>?_)
     try dsimp only [List.set] at H
     refine ⟨H.pick [] [2,3,4,5],(xM qh ((meet ⟨_,a43,c44,a37,c38,G46,(by exact rfl),N,H.YU 4 6 [2,3] [0,1,2,3,4] qo qo⟩)))⟩
    refine zG H underlying27 ti22 [.slice a37 vI.length c38] fun b49 w50 H=>⟨H.pick [] [0,1,2,3],(ro 3 rfl (zK (.slice raout out.length rcout) isAgg27 rfl (H.cell 2 rfl rfl) (⟨H.pick [] [0,1,2,3],(ro 7 rfl ?_)⟩)))⟩
    obtain ⟨G54,N,hn55,H⟩:=H.vW 1 rfl N (fun F hF b hb=>(List.mem_append.1 (show F∈[rFout]++Ns from hF)).elim (fun h=>(H.jQ (L:=[rFout]) [3]) F h b hb) fun h=>H.awayK (K0.behind 4 rfl) F h b hb)
    try dsimp only [List.set] at H
    refine zN H 3 rfl 0 rfl underlying27 ti22 rfl qj rfl rfl rfl (by simp [Value.oneCell',Value.cells]) qp qf fun a51 c52 w53 H=>?_
    try dsimp only [List.set] at H
    replace H:=H.yB 4 rfl 0 rfl
    replace N:Fresh W0.heap.size ((rFout++G54) :: Ns):=(N.YU 2 [1,0] qo).join
    refine ⟨H.pick [] [2,3,4,5],(rtp 8 (pp bout 0) (H.pick [] [2,3,4,5]) ?_)⟩
    refine ro 9 rfl (zF H 2 [.slice a51 (out.length+1) c52] sizeOf27 fun w56 H=>?_)
    try dsimp only [List.set] at H
    refine ⟨H.pick [] [2,3,4,5],(xM qh ((meet ⟨_,a51,c52,a37,c38,G54,(by exact rfl),N,H.YU 4 6 [2,3] [0,1,2,3,4] qo qo⟩)))⟩
   clear H N
   rintro ρ w57 ⟨xP,a6,c7,a8,c9,G10,rfl,N,H⟩
   refine t_n (c_ret (t_r (ret0' rfl ⟨_,rfl,?_⟩)))
   rw [pack_full qf ‹_› p2]
   exact ⟨a6,out.length+1,c7,rxout++[Value.slice a8 vI.length c9],(rFout++G10),rfl,N,H.YU 2 5 [0,1] [2,3,4,0] qo qo⟩
  refine qV (t_n (c_ret (t_r (ret0' rfl ⟨_,rfl,?_⟩))))
  rw [pack_none qf ‹_› p2]
  exact ⟨raout,out.length,rcout,rxout,rFout,rfl,N,H.YU 2 4 [0,1] [0,1,2,3] qo qo⟩
 refine qV (t_n (zcr (sp (yI 0) (zjn (qW ?_)))))
 obtain ⟨t1,t2,t3,t4,t5,t6⟩:=p1.times (k:=vI.length) qf
 refine zo (fun m' ρ w58=>∃ (xP:Env) (n:Nat) (zY:yOA) (zn:Nat) (zO:Nat) (out_1:yLL) (Qv:List Value) (jV:yLN),ρ=upd (upd (upd (upd (upd (upd xP 0 (.slice arest rest.length crest)) 1 (.slice zf parts.length xW)) 2 (.slice abegin vI.length cbegin)) 3 (pp bout 0)) 8 (yI vI.length)) 9 (yI n)∧out_1=gath out (begins vI (jy parts (f - 1) vI.length rest n))∧((n:Int)≤jk (parts[vI.length]!) rest+1)∧m' =(jk (parts[vI.length]!) rest+1 - (n:Int)).toNat∧Fresh W0.heap.size (jV :: Ns)∧St W0 w58 ((.box bout [.slice zY zn zO] 27) :: (rr zY zn zO 22 1 Qv) :: ps) ((sF false Frest arest crest rest) :: (sF false Fparts zf xW parts) :: (sF false Fbegin abegin cbegin vI) :: (zh true jV Qv out_1) :: Γ)) ((jk (parts[vI.length]!) rest+1 - (0:Int)).toNat) ⟨_,0,raout,out.length,rcout,out,rxout,rFout,uE6,(by exact pack_start p2),qf,rfl,N,H⟩ ?_
 clear H N
 rintro m' ρ w59 ⟨xP,n,zY,zn,zO,out_1,Qv,jV,rfl,rfl,i0,rfl,N,H⟩
 have hn_out:=H.zl (α:=yLI) 1 rfl 3 rfl qj
 have gl:=gath_len out (begins vI (jy parts (f - 1) vI.length rest n))
 refine zcc (sps [yI n,.slice zf parts.length xW,yI vI.length] ?_)
 obtain ⟨b60,o61,rfl⟩:=H.addr 1 rfl qf
 obtain ⟨ae63,ce63,Fe63,H⟩:=H.vN 1 rfl vI.length vI.length qf qf qf
 refine oI rfl rfl (oL rfl (H.xQ 1 rfl 0 rfl) (sp (.slice arest rest.length crest) ?_))
 obtain ⟨t1,t2,t3,t4,t5,t6⟩:=p1.times (k:=vI.length) qf
 refine sw (oq (l01Times_ok _ (parts[vI.length]!) rest (H.get 0 rfl).1 (H.get 2 rfl).1 qg qg qg) H fun w65 H=>sps [.bool (decide ((n:Int)≤(jk (parts[vI.length]!) rest))),.bool (decide ((n:Int)≤(jk (parts[vI.length]!) rest)))] ?_)
 cases h67:(decide ((n:Int)≤(jk (parts[vI.length]!) rest)))
 ·skip
  replace h67:=of_decide_eq_false h67
  refine zk [37,38,39,40,41] (sp (.bool false) (zjn (xH false rfl (fun h=>absurd h qj) (fun _=>c_exit (t_x (t_x (b_x (ret0 rfl ⟨_,rfl,?_⟩))))))))
  rw [pack_end p0 qf qf qf (by first | (left;omega) | (right;omega))]
  exact ⟨zY,zn,zO,Qv,jV,rfl,N,H.YU 2 6 [0,1] [2,3,4,5] qo qo⟩
 replace h67:=of_decide_eq_true h67
 refine qQ 36 rfl rfl (sp (pp bout 0) (qQ 36 rfl rfl (sp (pp bout 0) (qQ 36 rfl rfl (oL rfl (H.cell 0 rfl rfl) (qQ 36 rfl rfl (oN rfl (qQ 36 rfl rfl (sps [.bool (decide ((zn:Int)≤2000)),.bool (decide ((zn:Int)≤2000))] (zjn (cD rfl (fun h68=>?_) (fun h68=>?_))))))))))))
 ·skip
  refine qV (t_n (xO (qW (xR (sps [.slice arest rest.length crest,.slice (aa b60 o61) parts.length xW,yI vI.length] (oI rfl rfl (oL rfl (H.xQ 1 rfl 0 rfl) (sp (yI n) (sw (o_neg n rfl qf ?_))))))))))
  obtain ⟨u1,u2,u3,u4⟩:=p1.plus (k:=vI.length) qf (n:=(n:Int)) qf qf
  have sz69:=H.base.size
  have lt70:=all_two (H.ltN (L:=[jV]) [5]) (H.ltK (K0.behind 6 rfl))
  refine sw (oc (X5 _ rest (parts[vI.length]!) (-n) (H.get 2 rfl).1 (H.get 0 rfl).1 qg qg qg) ?_)
  rintro v74 w72 r74 x73
  replace H:=H.zB x73 r74
  obtain ⟨a75,c76,rfl,hc77,hm78⟩:=H.jm 0 rfl
  refine sps [.slice (aa b60 o61) parts.length xW,.slice abegin vI.length cbegin] ?_
  have sz79:=H.base.size
  have lt80:=all_two (H.ltN (L:=[jV]) [5]) (H.ltK (K0.behind 6 rfl))
  refine sw (oc (X0 _ vI (H.get 4 rfl).1 qg) ?_)
  rintro v84 w82 r84 x83
  replace H:=H.zB x83 r84
  obtain ⟨a85,c86,rfl,hc87,hm88⟩:=H.jm 0 rfl
  refine sp (yI n) (sw (zG H underlying22 ti2 [yI n] fun b89 w90 H=>sw (zN H 1 rfl 0 rfl underlying22 ti2 rfl qj rfl rfl rfl (by simp [Value.oneCell',Value.cells]) qp qf fun a91 c92 w93 H=>?_)))
  rw [snocI] at H
  try dsimp only [List.set] at H
  refine sp (pp bout 0) ?_
  obtain ⟨G94,N,hn95,H⟩:=H.vW 2 rfl N (fun F hF b hb=>(List.mem_append.1 (show F∈[jV]++Ns from hF)).elim (fun h=>(H.jQ (L:=[jV]) [5]) F h b hb) fun h=>H.awayK (K0.behind 6 rfl) F h b hb)
  try dsimp only [List.set] at H
  replace H:=H.unfreeI 0 rfl
  obtain ⟨G96,N,hn97,H⟩:=H.vW 1 rfl N (fun F hF b hb=>(List.mem_append.1 (show F∈[G94,jV]++Ns from hF)).elim (fun h=>(H.jQ (L:=[G94,jV]) [0,7]) F h b hb) fun h=>H.awayK (K0.behind 8 rfl) F h b hb)
  try dsimp only [List.set] at H
  replace H:=H.unfreeI 0 rfl
  have hn98:=H.isLen 0 rfl
  have H1:St W0 w93 ((.box bout [.slice zY zn zO] 27) :: (.row (.slice zY zn zO) 22 1 zn Qv) :: (.box b89 [yI n] 2) :: (.row yN 0 1 0 []) :: (.row yN 0 1 0 []) :: ps) ((isF false G94 (.slice a75 ((jb rest (parts[vI.length]!) (-n)).length) c76) (jb rest (parts[vI.length]!) (-n))) :: (isF false Fparts (.slice (aa b60 o61) parts.length xW) parts) :: (isF false G96 (.slice a91 ((vI++[(n:Int)]).length) c92) (vI++[(n:Int)])) :: (zh true jV Qv (gath out (begins vI (jy parts (f - 1) vI.length rest n)))) :: (isF false G96 (.slice a91 (vI.length+1) c92) (vI++[(n:Int)])) :: (isF true G96 (.slice a91 (vI.length+1) c92) (vI++[(n:Int)])) :: (isF false G94 (.slice a75 ((jb rest (parts[vI.length]!) (-n)).length) c76) (jb rest (parts[vI.length]!) (-n))) :: (isF true G94 (.slice a75 ((jb rest (parts[vI.length]!) (-n)).length) c76) (jb rest (parts[vI.length]!) (-n))) :: (isF false Fe63 (.slice ae63 ((parts[vI.length]!).length) ce63) (parts[vI.length]!)) :: (atF b60 (o61+(vI.length:Int).toNat * 1) [.slice ae63 ((parts[vI.length]!).length) ce63]) :: (isF false Frest (.slice arest rest.length crest) rest) :: (isF false Fparts (.slice (aa b60 o61) parts.length xW) parts) :: (isF false Fbegin (.slice abegin vI.length cbegin) vI) :: Γ):=by (try rw [← hn98]);exact H.YU 5 10 [3,4,0,1,2] [2,7,0,9,0,1,2,3,4,5,6,7,8] qo qo
  have N1:Fresh _ (jV :: G96 :: G94 :: Ns):=(N.YU 3 [2,0,1] qo)
  have K1:Kept (Ns) ((isF false G96 (.slice a91 (vI.length+1) c92) (vI++[(n:Int)])) :: (isF true G96 (.slice a91 (vI.length+1) c92) (vI++[(n:Int)])) :: (sF false G94 a75 c76 (jb rest (parts[vI.length]!) (-n))) :: (sF true G94 a75 c76 (jb rest (parts[vI.length]!) (-n))) :: (sF false Fe63 ae63 ce63 (parts[vI.length]!)) :: (atF b60 (o61+(vI.length:Int).toNat * 1) [.slice ae63 ((parts[vI.length]!).length) ce63]) :: (sF false Frest arest crest rest) :: (sF false Fparts (aa b60 o61) xW parts) :: (sF false Fbegin abegin cbegin vI) :: Γ):=K0.behind 9 rfl
  replace K1:=K1.cons (F:=G94) 2 rfl rfl
  replace K1:=K1.cons (F:=G96) 0 rfl rfl
  refine sw (o_callF #[.slice a75 ((jb rest (parts[vI.length]!) (-n)).length) c76,.slice (aa b60 o61) parts.length xW,.slice a91 (vI.length+1) c92,pp bout 0] rfl rfl call171 (args_eq (by first | rfl | rw [hn98]) (IH (f - 1) qf (jb rest (parts[vI.length]!) (-n)) parts (vI++[(n:Int)]) (gath out (begins vI (jy parts (f - 1) vI.length rest n))) a75 c76 G94 (aa b60 o61) xW Fparts a91 c92 G96 bout zY zn zO Qv jV H1 N1 K1 (by simp only [List.length_append,List.length_cons,List.length_nil];omega) (by first | assumption | exact u4) (by first | assumption | (simp only [List.length_nil];omega) | omega))) ?_)
  clear H H1 N1 K1
  rintro _ w99 ⟨ra100,rn100,rc100,rx100,rF100,rfl,N,H⟩
  obtain rfl:=H.zl (α:=yLI) 1 rfl 3 rfl qj
  refine xU (b_n (t_n (xR (sp (yI n) (sw (zu n 1 rfl rfl qf (sp (yI (n+1)) (xU ?_))))))))
  refine qZ (m' :=(jk (parts[vI.length]!) rest+1 - ((n+1):Int)).toNat) qf ⟨_,n+1,ra100,(gath (gath out (begins vI (jy parts (f - 1) vI.length rest n))) (begins (vI++[(n:Int)]) (packs parts (parts.length - (vI++[(n:Int)]).length) (vI++[(n:Int)]).length (jb rest (parts[vI.length]!) (-n))))).length,rc100,(gath (gath out (begins vI (jy parts (f - 1) vI.length rest n))) (begins (vI++[(n:Int)]) (packs parts (parts.length - (vI++[(n:Int)]).length) (vI++[(n:Int)]).length (jb rest (parts[vI.length]!) (-n))))),rx100,rF100,uE6,?_,?_,rfl,(N.YU 3 [0] qo),H.YU 5 13 [0,1] [10,11,12,3] qo qo⟩
  · exact pack_step p0 qf qf
  · omega
 refine c_exit (t_x (t_x (b_x (ret0 rfl ⟨_,rfl,?_⟩))))
 rw [pack_end p0 qf qf qf (by first | (left;omega) | (right;omega))]
 exact ⟨zY,zn,zO,Qv,jV,rfl,N,H.YU 2 6 [0,1] [2,3,4,5] qo qo⟩

theorem l01Pack_ok (f:Nat):l01Pack_ok_S f:=Nat.strongRecOn (motive:=l01Pack_ok_S) f fun f IH=>by unfold l01Pack_ok_S;intros;apply l01Pack_ok_step f IH <;> assumption

theorem l01All_ok (w:World) (b:yLI) (parts:yLL) {ab:yOA} {Fb:yLN} {zf:yOA} {xW:Nat} {Fparts:yLN} (hb:qO.rep w Fb [.slice ab b.length cb] b) (hparts:qO.rep w Fparts [.slice zf parts.length xW] parts) (p0:Yp parts b):Calls Tryz.prog 136 #[.slice ab b.length cb,.slice zf parts.length xW] w (Ret (fun v w' =>∃ (ra0:yOA) (rn0:Nat) (rc0:Nat) (rx0:List Value) (rF0:yLN),v=.tuple #[.slice ra0 rn0 rc0,yI ((zW b parts).2)]∧Fresh w.heap.size [rF0]∧St w w' [rr ra0 rn0 rc0 22 1 rx0] [zh true rF0 rx0 ((zW b parts).1)]) w):=by
 refine en func136 ntmps136 ?_
 have H:=((St.start w).arg hparts).arg hb
 have nhb:=qK hb
 have nhparts:=qK hparts
 clear hb hparts
 have N:=Fresh.nil w.heap.size
 have p3:=p0.small
 have p4:=p0.smallB
 refine zcr (sps [yN,yI 0] (zjcc (sp (.slice ab b.length cb) (sw (oq (YP _ b (H.get 0 rfl).1 (by first | assumption | exact vH ql | exact Qo ql)) H fun w1 H=>sp (.bool (decide ((VP b:Int) > 16))) (zjn (cD rfl (fun h3=>?_) (fun h3=>?_))))))))
 ·skip
  refine zcr (sw (vT H underlying27 ti22 fun b4 w5 H=>sps [.slice (aa b4 0) 0 0,yI 3] (zjr (t_r ?_))))
  replace H:=H.boxRow 0 rfl 1 0 rfl qj
  replace H:=H.vP (α:=yLI)
  refine ret2 (.slice (aa b4 0) 0 0) (yI 3) rfl rfl rfl ⟨_,rfl,?_,H.base⟩
  first | rw [all_a ql] | rw [all_b ql ql]
  exact ⟨(aa b4 0),0,0,[],[],rfl,N.emp,H.pick [0] [0]⟩
 refine qV (t_n (zcr (sw (vT H underlying27 ti22 fun b6 w7 H=>sw (xX H ti27 [yN] fun b8 w9 H=>sw (zF H 0 [.slice (aa b6 0) 0 0] sizeOf27 fun w10 H=>zjc (sps [.slice ab b.length cb,.slice zf parts.length xW] (sw (vT H underlying22 ti2 fun b11 w12 H=>?_)))))))))
 replace H:=H.boxRowI 0 [] 0
 obtain ⟨G13,N,hn14,H⟩:=H.vW 0 rfl N (H.jQ [])
 replace H:=H.unfreeI 0 rfl
 have hn15:=H.isLen 0 rfl
 replace H:=H.boxRow 2 rfl 1 0 rfl qj
 replace H:=H.vP (α:=yLI)
 have H1:St w w12 [.box b8 [.slice (aa b6 0) 0 0] 27,.row (.slice (aa b6 0) 0 0) 22 1 0 [],.row yN 0 1 0 []] [isF false Fb (.slice ab b.length cb) b,isF false Fparts (.slice zf parts.length xW) parts,isF false G13 (.slice (aa b11 0) (([]:yLI).length) 0) ([]:yLI),zh true [] [] ([]:yLL),isF false G13 (.slice (aa b11 0) 0 0) ([]:yLI),isF true G13 (.slice (aa b11 0) 0 0) ([]:yLI),isF false Fb (.slice ab b.length cb) b,isF false Fparts (.slice zf parts.length xW) parts]:=by (try rw [← hn15]);exact H.pick [1,2,0] [3,4,1,0,1,2,3,4]
 have N1:Fresh _ [[],G13]:=N.emp
 have K1:Kept [] [isF false G13 (.slice (aa b11 0) 0 0) ([]:yLI),isF true G13 (.slice (aa b11 0) 0 0) ([]:yLI),sF false Fb ab cb b,sF false Fparts zf xW parts]:=Kept.nil _
 replace K1:=K1.cons (F:=G13) 0 rfl rfl
 refine sw (o_callF #[.slice ab b.length cb,.slice zf parts.length xW,.slice (aa b11 0) 0 0,pp b8 0] rfl rfl call171 (args_eq (by first | rfl | rw [hn15]) (l01Pack_ok (parts.length - ([]:yLI).length) b parts ([]:yLI) ([]:yLL) ab cb Fb zf xW Fparts (aa b11 0) 0 G13 b8 (aa b6 0) 0 0 [] [] H1 N1 K1 (by simp only [List.length_append,List.length_cons,List.length_nil];omega) (by first | assumption | exact u4) (by first | assumption | (simp only [List.length_nil];omega) | omega))) ?_)
 clear H H1 N1 K1
 rintro _ w16 ⟨ra17,rn17,rc17,rx17,rF17,rfl,N,H⟩
 obtain rfl:=H.zl (α:=yLI) 1 rfl 3 rfl qj
 refine zjcc (oL rfl (H.cell 0 rfl rfl) (oN rfl (sp (.bool (decide (((gath ([]:yLL) (begins ([]:yLI) (packs parts (parts.length - ([]:yLI).length) ([]:yLI).length b))).length:Int) > 2000))) (zjn (cD rfl (fun h18=>?_) (fun h18=>?_))))))
 ·skip
  refine zcr (sw (vT H underlying27 ti22 fun b19 w20 H=>sps [.slice (aa b19 0) 0 0,yI 3] (zjr (t_r ?_))))
  replace H:=H.boxRow 0 rfl 1 0 rfl qj
  replace H:=H.vP (α:=yLI)
  refine ret2 (.slice (aa b19 0) 0 0) (yI 3) rfl rfl rfl ⟨_,rfl,?_,H.base⟩
  first | rw [all_a ql] | rw [all_b ql ql]
  exact ⟨(aa b19 0),0,0,[],[],rfl,(N.emp.pick [0]),H.pick [0] [0]⟩
 refine qV (t_n (zcr (oL rfl (H.cell 0 rfl rfl) (sps [.slice ra17 ((gath ([]:yLL) (begins ([]:yLI) (packs parts (parts.length - ([]:yLI).length) ([]:yLI).length b))).length) rc17,yI 0] (zjr (ret2 (.slice ra17 ((gath ([]:yLL) (begins ([]:yLI) (packs parts (parts.length - ([]:yLI).length) ([]:yLI).length b))).length) rc17) (yI 0) rfl rfl rfl ⟨_,rfl,?_,H.base⟩))))))
 rw [all_0 ql ql]
 exact ⟨ra17,(gath ([]:yLL) (begins ([]:yLI) (packs parts (parts.length - ([]:yLI).length) ([]:yLI).length b))).length,rc17,rx17,rF17,rfl,(N.pick [0]),H.pick [1] [3]⟩
theorem l03Before_ok (w:World) (a:yLI) (b:yLI) {aa:yOA} {Fa:yLN} {ab:yOA} {Fb:yLN} (ha:qO.rep w Fa [.slice aa a.length ca] a) (hb:qO.rep w Fb [.slice ab b.length cb] b) (p0:a.length=b.length):Calls Tryz.prog 102 #[.slice aa a.length ca,.slice ab b.length cb] w (Ret (fun v w' =>v=.bool (dec (ahead a b))) w):=by
 refine en func102 ntmps102 ?_
 have H:=((St.start w).arg hb).arg ha
 have nha:=qK ha
 have nhb:=qK hb
 clear ha hb
 have N:=Fresh.nil w.heap.size
 refine zcr (sp (.bool false) (zjcc (sp (yI 0) (zjn (qW ?_)))))
 refine zo (fun m' ρ w1=>∃ (xP:Env) (i:Nat),ρ=upd (upd (upd xP 0 (.slice aa a.length ca)) 1 (.slice ab b.length cb)) 5 (yI i)∧((i:Int)≤a.length)∧(SameTo a b i)∧m' =(a.length - (i:Int)).toNat∧Fresh w.heap.size []∧St w w1 [] [sF false Fa aa ca a,sF false Fb ab cb b]) ((a.length - (0:Int)).toNat) ⟨_,0,uE3,qf,(by exact fun j hj=>by omega),rfl,N,H⟩ ?_
 clear H N
 rintro m' ρ w2 ⟨xP,i,rfl,i0,i1,rfl,N,H⟩
 refine zcc (sps [yI i,.slice aa a.length ca] (oN rfl (sp (.bool (decide ((i:Int) < a.length))) (zjn (cD rfl (fun h3=>?_) (fun h3=>?_))))))
 ·skip
  refine qV (t_n (xO (qW (xO ?_))))
  refine jd rfl H fun H=>rtp 0 (.slice aa a.length ca) H ?_
  refine rtp 1 (yI i) H ?_
  obtain ⟨b5,o6,rfl⟩:=H.addr 0 rfl qf
  refine tI 2 rfl rfl rfl H ?_
  refine tL 3 rfl rfl (fun _ h=>h.yt 0 rfl i qf) H ?_
  refine rtp 4 (.slice ab b.length cb) H ?_
  refine rtp 5 (yI i) H ?_
  obtain ⟨b8,o9,rfl⟩:=H.addr 1 rfl qf
  refine tI 6 rfl rfl rfl H ?_
  refine tL 7 rfl rfl (fun _ h=>h.yt 1 rfl i qf) H ?_
  refine rtp 8 (.bool ((a[i]! :Int) != (b[i]!))) H ?_
  refine xM qh (t_n (xH ((a[i]! :Int) != (b[i]!)) rfl (fun h11=>?_) (fun h11=>?_)))
  ·skip
   replace h11:=bne_iff_ne.1 h11
   refine xO ?_
   refine jd rfl H fun H=>rtp 0 (.slice (aa b5 o6) a.length ca) H ?_
   refine rtp 1 (yI i) H ?_
   refine tI 2 rfl rfl rfl H ?_
   refine tL 3 rfl rfl (fun _ h=>h.yt 0 rfl i qf) H ?_
   refine rtp 4 (.slice (aa b8 o9) b.length cb) H ?_
   refine rtp 5 (yI i) H ?_
   refine tI 6 rfl rfl rfl H ?_
   refine tL 7 rfl rfl (fun _ h=>h.yt 1 rfl i qf) H ?_
   refine rtp 8 (.bool (decide ((a[i]! :Int) < (b[i]!)))) H ?_
   refine rtp 9 (.bool (decide ((a[i]! :Int) < (b[i]!)))) H ?_
   refine xM qh (t_n (c_ret (zr5 (ret1 (.bool (decide ((a[i]! :Int) < (b[i]!)))) rfl rfl ⟨_,rfl,?_,H.base⟩))))
   first | rw [xw (ahead_same (show SameTo a b a.length from fun j hj=>i1 j qf))] | rw [show decide (a[i]! < b[i]!)=dec (ahead a b) from dec_eq ⟨fun h=>ahead_yes i1 qf (of_decide_eq_true h),fun h=>decide_eq_true (Classical.byContradiction fun h1=>ahead_no i1 h1 ‹_› h)⟩]
  replace h11:=xq h11
  refine qV (b_n (t_n (xR (sp (yI i) (sw (zu i 1 rfl rfl qf (sp (yI (i+1)) (xU (qZ (m' :=(a.length - ((i+1):Int)).toNat) qf ⟨_,i+1,uE3,?_,?_,rfl,N,H⟩)))))))))
  · omega
  · exact i1.succ qg
 refine zx4 (zcr (sp (.bool false) (zjr (ret1 (.bool false) rfl rfl ⟨_,rfl,?_,H.base⟩))))
 first | rw [xw (ahead_same (show SameTo a b a.length from fun j hj=>i1 j qf))] | rw [show decide (a[i]! < b[i]!)=dec (ahead a b) from dec_eq ⟨fun h=>ahead_yes i1 qf (of_decide_eq_true h),fun h=>decide_eq_true (Classical.byContradiction fun h1=>ahead_no i1 h1 ‹_› h)⟩]

theorem l03Count_ok (w:World) (all:List yLL) {aall:yOA} {call:Nat} {Fall:yLN} (hall:qO.rep w Fall [.slice aall all.length call] all) (p0:∀ j,j≤all.length→((Xh all j:Nat):Int)≤2862423051509815793):Calls Tryz.prog 100 #[.slice aall all.length call] w (Ret (fun v w' =>v=yI ((Xh all all.length:Nat):Int)) w):=by
 refine en func100 ntmps100 ?_
 have H:=(St.start w).arg hall
 have nhall:=qK hall
 clear hall
 have N:=Fresh.nil w.heap.size
 refine zcr (sp (yI 0) (zjc (sp (yI 1) (zjcc (sp (yI 0) (zjn (qW ?_)))))))
 refine zo (fun m' ρ w1=>∃ (xP:Env) (n:Int) (i:Nat),ρ=upd (upd (upd xP 0 (.slice aall all.length call)) 3 (yI n)) 4 (yI i)∧n=((Xh all i:Nat):Int)∧((i:Int)≤all.length)∧m' =(all.length - (i:Int)).toNat∧Fresh w.heap.size []∧St w w1 [] [sF false Fall aall call all]) ((all.length - (0:Int)).toNat) ⟨_,1,0,uE3,(by rfl),qf,rfl,N,H⟩ ?_
 clear H N
 rintro m' ρ w2 ⟨xP,n,i,rfl,rfl,i0,rfl,N,H⟩
 have pm:=prod_mul all i
 have pb:=fun h=>p0 (i+1) h
 have pn:=Int.natCast_nonneg (Xh all (i+1))
 refine zcc (sps [yI i,.slice aall all.length call] (oN rfl (sp (.bool (decide ((i:Int) < all.length))) (zjn (cD rfl (fun h3=>?_) (fun h3=>?_))))))
 ·skip
  refine qV (t_n (xO (qW (xR (sps [yI ((Xh all i:Nat):Int),.slice aall all.length call,yI i] ?_)))))
  obtain ⟨b4,o5,rfl⟩:=H.addr 0 rfl qf
  obtain ⟨ae7,ce7,Fe7,H⟩:=H.vN 0 rfl i i qf qf qf
  refine oI rfl rfl (oL rfl (H.xQ 1 rfl 0 rfl) (oN rfl (sw (o_mul ((Xh all i:Nat):Int) ((all[i]!).length) rfl rfl qf (sp (yI (((Xh all i:Nat):Int) * ((all[i]!).length))) (xU (b_n (t_n (xR (sp (yI i) (sw (zu i 1 rfl rfl qf (sp (yI (i+1)) (xU (qZ (m' :=(all.length - ((i+1):Int)).toNat) qf ⟨_,((Xh all i:Nat):Int) * ((all[i]!).length),i+1,uE3,?_,?_,rfl,N,H.pick [] [2]⟩)))))))))))))))
  · exact prod_mul all i
  · omega
 refine zx4 (zcr (sps [yI ((Xh all i:Nat):Int),yI ((Xh all i:Nat):Int)] (zjr (ret1 (yI ((Xh all i:Nat):Int)) rfl rfl ⟨_,rfl,?_,H.base⟩))))
 rw [show i=all.length by omega]

theorem l03Choices_ok (w:World) (s:qI) (t:qH) {qC:yOA} {qY:yLN} {qN:yOA} {xF:yLN} {qU:yOA} {xN:yLN} {xm:yOA} {zq:yLN} {qM:yOA} {xE:yLN} (hs:vz w bs os (yS s qC qB qN qJ)) (xf:qO.rep w qY [.slice qC s.qw.length qB] s.qw) (xI:qO.rep w xF [.slice qN s.qx.length qJ] s.qx) (ht:vz w bt ot (yT t qU qP xm xh qM qL)) (zg:qO.rep w xN [.slice qU t.qy.length qP] t.qy) (zI:qO.rep w zq [.slice xm t.qE.length xh] t.qE) (xK:qO.rep w xE [.slice qM t.qA.length qL] t.qA) (p0:yj s) (p1:zH s t):Calls Tryz.prog 58 #[pp bs os,pp bt ot] w (Ret (fun v w' =>∃ (ra0:yOA) (rn0:Nat) (rc0:Nat) (rx0:List Value) (rF0:yLN),v=.tuple #[.slice ra0 rn0 rc0,yI ((zX s t).2)]∧Fresh w.heap.size [rF0]∧St w w' [rr ra0 rn0 rc0 22 1 rx0] [zh true rF0 rx0 ((zX s t).1)]) w):=by
 refine en func58 ntmps58 ?_
 have H:=(((((((St.start w).arg xK).arg zI).arg zg).VJ ht).arg xI).arg xf).VJ hs
 have vk:=qK xf
 have jl:=qK xI
 have Qh:=qK zg
 have QW:=qK zI
 have jL:=qK xK
 clear hs xf xI ht zg zI xK
 have N:=Fresh.nil w.heap.size
 have p2:=p0.2.1
 have p3:=p0.1.2.1
 have p4:=p1.1
 have p5:=p1.2.1
 refine zcr (sps [yN,yI 0] (zjc (sps [pp bs os,pp bt ot] (sw (vC #[pp bs os,pp bt ot] rfl rfl call99 (en func99 ntmps99 ?_))))))
 refine zcr (sps [yN,yN,yI 0] (zjc (sps [pp bs os,pp bt ot] ?_)))
 have sz4:=H.base.size
 refine sw (oc (l03Applicable_ok _ s t (qF (H.get 0 rfl) 0 3) (H.get 1 rfl).1 (H.get 2 rfl).1 (qF (H.get 3 rfl) 0 3) (H.get 4 rfl).1 (H.get 5 rfl).1 (H.get 6 rfl).1 qg qg) ?_)
 rintro _ w2 ⟨ra1,rn1,rc1,rfl,M,K⟩ _
 replace H:=H.merge K M
 obtain rfl:=H.rowNB 0 rfl
 have al:=appl_len s t
 refine sp (.slice ra1 ((appl s t).length) rc1) (zjc (sw (vT H underlying113 ti118 fun b7 w8 H=>sp (.slice (aa b7 0) 0 0) (zjc (sw (vT H underlying114 ti27 fun b9 w10 H=>sp (.slice (aa b9 0) 0 0) (zjcc (sp (yI 0) (zjn (qW ?_))))))))))
 refine zo (fun m' ρ w11=>∃ (xP:Env) (c:Nat),ρ=upd (upd (upd (upd (upd (upd xP 0 (pp bs os)) 1 (pp bt ot)) 7 (.slice ra1 ((appl s t).length) rc1)) 8 (.slice (aa b7 0) 0 0)) 9 (.slice (aa b9 0) 0 0)) 10 (yI c)∧((c:Int)≤s.qw.length)∧m' =(s.qw.length - (c:Int)).toNat∧Fresh w.heap.size []∧St w w11 [.box b9 [] 27,.box b7 [] 118,rr ra1 ((appl s t).length) rc1 4 1 ((appl s t).map (Value.bool))] [atF bs os (yS s qC qB qN qJ),sF false qY qC qB s.qw,sF false xF qN qJ s.qx,atF bt ot (yT t qU qP xm xh qM qL),sF false xN qU qP t.qy,sF false zq xm xh t.qE,sF false xE qM qL t.qA]) ((s.qw.length - (0:Int)).toNat) ⟨_,0,uE6,qf,rfl,N,H⟩ ?_
 clear H N
 rintro m' ρ w12 ⟨xP,c,rfl,i0,rfl,N,H⟩
 refine zcc (sps [yI c,pp bs os,pp bs os] (oF rfl (oL rfl (H.xQ 0 rfl 1 rfl) (oN rfl (sp (.bool (decide ((c:Int) < s.qw.length))) (zjn (cD rfl (fun h13=>?_) (fun h13=>?_))))))))
 ·skip
  refine qV (t_n (xO (qW (zcr (sps [pp bs os,.slice ra1 ((appl s t).length) rc1,yI c] (sw (vC #[pp bs os,.slice ra1 ((appl s t).length) rc1,yI c] rfl rfl call135 (en func135 ntmps135 ?_))))))))
  refine zcr (sps [yN,yN] (zjc (sw (vT H underlying118 ti3 fun b14 w15 H=>sp (.slice (aa b14 0) 0 0) (zjc (sw (vT H underlying27 ti22 fun b16 w17 H=>sp (.slice (aa b16 0) 0 0) (zjcc (sp (yI 0) (zjn (qW ?_)))))))))))
  replace H:=H.boxRowI 1 [] 0
  replace H:=H.boxRow 0 rfl 1 0 rfl qj
  replace H:=H.vP (α:=yLI)
  replace H:=H.unfree 0 rfl
  refine zo (fun m' ρ w18=>∃ (xP:Env) (jv:yOA) (vU:Nat) (ji:Nat) (rules:yLI) (yQ:yOA) (jG:Nat) (yK:Nat) (needs:yLL) (X6:List Value) (YN:yLN) (i:Nat),ρ=upd (upd (upd (upd (upd (upd xP 0 (pp bs os)) 1 (.slice ra1 ((appl s t).length) rc1)) 2 (yI c)) 8 (.slice jv vU ji)) 9 (.slice yQ jG yK)) 10 (yI i)∧rules=(cellT s t i c)∧needs=(zi s (cellT s t i c))∧((i:Int)≤((appl s t).length))∧m' =(((appl s t).length) - (i:Int)).toNat∧Fresh w.heap.size []∧St w w18 [rr yQ jG yK 22 1 X6,rr jv vU ji 3 1 (rules.map (Value.int .i64)),.box b9 [] 27,.box b7 [] 118,rr ra1 ((appl s t).length) rc1 4 1 ((appl s t).map (Value.bool))] [zh false YN X6 needs,atF bs os (yS s qC qB qN qJ),sF false qY qC qB s.qw,sF false xF qN qJ s.qx,atF bt ot (yT t qU qP xm xh qM qL),sF false xN qU qP t.qy,sF false zq xm xh t.qE,sF false xE qM qL t.qA]) ((((appl s t).length) - (0:Int)).toNat) ⟨_,(aa b14 0),0,0,([]:yLI),(aa b16 0),0,0,([]:yLL),[],[],0,uE6,(by rfl),(by rfl),qf,rfl,N,H.pick [0,1,2,3,4] [0,2,3,4,5,6,7,8]⟩ ?_
  clear H N
  rintro m' ρ w19 ⟨xP,jv,vU,ji,rules,yQ,jG,yK,needs,X6,YN,i,rfl,rfl,rfl,i0,rfl,N,H⟩
  have hn_rules:=H.YG 1 rfl
  have hn_needs:=H.zl (α:=yLI) 0 rfl 0 rfl qj
  have tl:=cellT_le s t i c
  have nl:=Vr s (cellT s t i c)
  refine zcc (sps [yI i,.slice ra1 ((appl s t).length) rc1] (oN rfl (sp (.bool (decide ((i:Int) < ((appl s t).length)))) (zjn (cD rfl (fun h20=>?_) (fun h20=>?_))))))
  ·skip
   refine qV (t_n (xO (qW (zcr (sps [.slice ra1 ((appl s t).length) rc1,yI i] ?_)))))
   obtain ⟨b21,rfl⟩:=H.Qz 4 rfl qf
   refine oI rfl rfl (oL rfl (H.rowBool 4 rfl (iv:=i) (i:=i) qf qf) (sp (.bool ((appl s t)[i]!)) ?_))
   cases h22:((appl s t)[i]!)
   ·skip
    refine zk [24,25,26,27,28,29,30,31,32,33] (sp (.bool false) (zjn (xH false rfl (fun h=>absurd h qj) (fun _=>qV (b_n (t_n (xR (sp (yI i) (sw (zu i 1 rfl rfl qf (sp (yI (i+1)) (xU (qZ (m' :=(((appl s t).length) - ((i+1):Int)).toNat) qf ⟨_,jv,vU,ji,(cellT s t i c),yQ,jG,yK,(zi s (cellT s t i c)),X6,YN,i+1,uE6,?_,?_,?_,rfl,N,H⟩)))))))))))))
    · first | exact cellT_yes (Xc qf ‹_›) ‹_› | exact XT (QC qf ‹_›) | exact Xk ‹_›
    · first | exact needs_yes (Xc qf ‹_›) ‹_› | exact congrArg (zi s) (XT (QC qf ‹_›)) | exact congrArg (zi s) (Xk ‹_›)
    · omega
   refine qQ 23 rfl rfl (sp (pp bs os) (qQ 23 rfl rfl (sp (pp bs os) (qQ 23 rfl rfl (oF rfl (qQ 23 rfl rfl (oL rfl (H.xQ 1 rfl 2 rfl) (qQ 23 rfl rfl (sp (yI i) (qQ 23 rfl rfl ?_))))))))))
   obtain ⟨b23,o24,rfl⟩:=H.addr 3 rfl qf
   obtain ⟨ae26Need,ce26Need,Fe26Need,ae26Have,ce26Have,Fe26Have,ae26Lack,ce26Lack,Fe26Lack,ae26Here,ce26Here,Fe26Here,ae26Out,ce26Out,Fe26Out,ae26Into,ce26Into,Fe26Into,H⟩:=H.yl 3 rfl i i qf qf qf
   refine oI rfl rfl (qQ 23 rfl rfl (oF rfl (qQ 23 rfl rfl (oL rfl (H.xQ 6 rfl 0 rfl) (qQ 23 rfl rfl (sp (yI c) (qQ 23 rfl rfl (sps [.bool (((s.qx[i]!).qG:Int) == c),.bool (((s.qx[i]!).qG:Int) == c)] (zjn (cE rfl (fun h27=>?_) (fun h27=>?_)))))))))))
   ·skip
    refine zcr (sps [.slice jv vU ji,yI i] (sw (zG H underlying118 ti3 [yI i] fun b28 w29 H=>sw (zN H 2 rfl 0 rfl underlying118 ti3 rfl qj rfl rfl rfl (by simp [Value.oneCell',Value.cells]) qp qf fun a30 c31 w32 H=>?_))))
    rw [snocI] at H
    refine sp (.slice a30 (vU+1) c31) (zjn (xR (sps [.slice yQ jG yK,pp bs os,pp bs os] (oF rfl (oL rfl (H.xQ 8 rfl 2 rfl) (sp (yI i) (oI rfl rfl (oF rfl (oL rfl (H.xQ 6 rfl 2 rfl) (sw (zG H underlying27 ti22 [.slice ae26Need (((s.qx[i]!).xk).length) ce26Need] fun b33 w34 H=>sw (zN H 2 rfl 0 rfl underlying27 ti22 rfl qj rfl rfl rfl (by simp [Value.oneCell',Value.cells]) qp qf fun a35 c36 w37 H=>?_))))))))))))
    replace H:=H.yB 7 rfl 0 rfl
    refine sp (.slice a35 (jG+1) c36) (xU (b_n (t_n (xR (sp (yI i) (sw (zu i 1 rfl rfl qf (sp (yI (i+1)) (xU (qZ (m' :=(((appl s t).length) - ((i+1):Int)).toNat) qf ⟨_,a30,vU+1,c31,((cellT s t i c)++[(i:Int)]),a35,jG+1,c36,((zi s (cellT s t i c))++[(s.qx[i]!).xk]),X6++[.slice ae26Need (((s.qx[i]!).xk).length) ce26Need],(YN++Fe26Need),i+1,uE6,?_,?_,?_,rfl,N,H.pick [2,3,4,5,6] [0,9,10,11,12,13,14,15]⟩))))))))))
    · first | exact cellT_yes (Xc qf ‹_›) ‹_› | exact XT (QC qf ‹_›) | exact Xk ‹_›
    · first | exact needs_yes (Xc qf ‹_›) ‹_› | exact congrArg (zi s) (XT (QC qf ‹_›)) | exact congrArg (zi s) (Xk ‹_›)
    · omega
   refine qV (b_n (t_n (xR (sp (yI i) (sw (zu i 1 rfl rfl qf (sp (yI (i+1)) (xU (qZ (m' :=(((appl s t).length) - ((i+1):Int)).toNat) qf ⟨_,jv,vU,ji,(cellT s t i c),yQ,jG,yK,(zi s (cellT s t i c)),X6,YN,i+1,uE6,?_,?_,?_,rfl,N,H.pick [0,1,2,3,4] [7,8,9,10,11,12,13,14]⟩)))))))))
   · first | exact cellT_yes (Xc qf ‹_›) ‹_› | exact XT (QC qf ‹_›) | exact Xk ‹_›
   · first | exact needs_yes (Xc qf ‹_›) ‹_› | exact congrArg (zi s) (XT (QC qf ‹_›)) | exact congrArg (zi s) (Xk ‹_›)
   · omega
  refine zx4 (zcr (sps [.slice jv vU ji,.slice yQ jG yK,.slice jv vU ji,.slice yQ jG yK] (zjr (ret2 (.slice jv vU ji) (.slice yQ jG yK) rfl rfl rfl ⟨_,rfl,?_⟩))))
  obtain rfl:i=s.qx.length:=by omega
  rw [show cellT s t s.qx.length c=zD s t c from rfl] at H hn_rules hn_needs
  refine sps [.tuple #[.slice jv vU ji,.slice yQ jG yK],.slice jv vU ji,.slice yQ jG yK,.slice jv vU ji,.slice yQ jG yK] (zjc (sp (.slice jv vU ji) (oN rfl (sps [.bool (decide ((vU:Int) > 0)),.bool (decide ((vU:Int) > 0))] ?_))))
  cases h38:(decide ((vU:Int) > 0))
  ·skip
   replace h38:=of_decide_eq_false h38
   refine zk [43,44,45,46,47,48,49,50,51] (sp (.bool false) (zjn (xH false rfl (fun h=>absurd h qj) (fun _=>qV (b_n (t_n (xR (sp (yI c) (sw (zu c 1 rfl rfl qf (sp (yI (c+1)) (xU (qZ (m' :=(s.qw.length - ((c+1):Int)).toNat) qf ⟨_,c+1,uE6,?_,rfl,N,H.pick [2,3,4] [1,2,3,4,5,6,7]⟩)))))))))))))
   · omega
  replace h38:=of_decide_eq_true h38
  refine qQ 42 rfl rfl (sp (pp bt ot) (qQ 42 rfl rfl (sp (pp bt ot) (qQ 42 rfl rfl (oF rfl (qQ 42 rfl rfl (oL rfl (H.xQ 4 rfl 1 rfl) (qQ 42 rfl rfl (sp (yI c) (qQ 42 rfl rfl ?_))))))))))
  obtain ⟨b39,o40,rfl⟩:=H.addr 6 rfl qf
  obtain ⟨ae42,ce42,Fe42,H⟩:=H.vN 6 rfl c c qf qf qf
  refine oI rfl rfl (qQ 42 rfl rfl (oL rfl (H.xQ 1 rfl 0 rfl) (qQ 42 rfl rfl ?_)))
  have sm:=vH (p1.2.2.2.2 c qf).1
  refine sw (oq (YP _ (t.qE[c]!) (H.get 0 rfl).1 (by first | assumption | exact vH ql | exact Qo ql)) H fun w43 H=>qQ 42 rfl rfl (sps [.bool (decide ((VP (t.qE[c]!):Int) > 16)),.bool (decide ((VP (t.qE[c]!):Int) > 16))] (zjn (cD rfl (fun h45=>?_) (fun h45=>?_)))))
  ·skip
   refine zcr (sps [.slice (aa b7 0) 0 0,.slice (aa b9 0) 0 0,.slice (aa b7 0) 0 0,.slice (aa b9 0) 0 0,yI 3] (zjr (zr5 (ret3 (.slice (aa b7 0) 0 0) (.slice (aa b9 0) 0 0) (yI 3) rfl rfl rfl rfl ⟨_,rfl,?_⟩))))
   replace H:=H.erases [4,1,0]
   dsimp only [vX,List.eraseIdx] at H
   refine sps [.tuple #[.slice (aa b7 0) 0 0,.slice (aa b9 0) 0 0,yI 3],.slice (aa b7 0) 0 0,.slice (aa b9 0) 0 0,yI 3,.slice (aa b7 0) 0 0,.slice (aa b9 0) 0 0,yI 3] (zjcc (sps [yI 3,.bool true] (zjn (xH true rfl (fun _=>zcr (sw (vT H underlying27 ti22 fun b46 w47 H=>sps [yI 3,.slice (aa b46 0) 0 0,yI 3] (zjr (t_r ?_))))) (fun h=>absurd h qj)))))
   replace H:=H.boxRow 0 rfl 1 0 rfl qj
   replace H:=H.vP (α:=yLI)
   refine ret2 (.slice (aa b46 0) 0 0) (yI 3) rfl rfl rfl ⟨_,rfl,?_,H.base⟩
   first | rw [cho_3 (.inl (bad_sum (c:=c) qf qf qf))] | rw [cho_3 (.inr qf)]
   exact ⟨(aa b46 0),0,0,[],[],rfl,N.emp,H.pick [0] [0]⟩
  refine qV (b_n (t_n (xR (sp (yI c) (sw (zu c 1 rfl rfl qf (sp (yI (c+1)) (xU (qZ (m' :=(s.qw.length - ((c+1):Int)).toNat) qf ⟨_,c+1,uE6,?_,rfl,N,H.pick [2,3,4] [3,4,5,6,7,8,9]⟩)))))))))
  · omega
 refine zx4 (zcc (sp (yI 0) (zjn (qW ?_))))
 replace H:=H.boxRow 1 rfl 1 0 rfl qj
 replace H:=H.vP (α:=yLI)
 replace H:=H.boxRow 0 rfl 1 0 rfl qj
 replace H:=H.vP (α:=yLL)
 refine zo (fun m' ρ w48=>∃ (xP:Env) (jv:yOA) (vU:Nat) (ji:Nat) (rules:yLL) (x_rules:List Value) (F_rules:yLN) (a_all:yOA) (X7:Nat) (YV:Nat) (all:List yLL) (x_all:List Value) (F_all:yLN) (c_1:Nat),ρ=upd (upd (upd (upd (upd (upd xP 0 (pp bs os)) 1 (pp bt ot)) 7 (.slice ra1 ((appl s t).length) rc1)) 8 (.slice jv vU ji)) 9 (.slice a_all X7 YV)) 13 (yI c_1)∧rules=(xe s t c_1)∧all=(xC s t c_1)∧((c_1:Int)≤s.qw.length)∧(GoodP s t c_1)∧m' =(s.qw.length - (c_1:Int)).toNat∧Fresh w.heap.size [F_rules,F_all]∧St w w48 [rr a_all X7 YV 27 1 x_all,rr jv vU ji 118 1 x_rules,rr ra1 ((appl s t).length) rc1 4 1 ((appl s t).map (Value.bool))] [zh true F_rules x_rules rules,zh true F_all x_all all,atF bs os (yS s qC qB qN qJ),sF false qY qC qB s.qw,sF false xF qN qJ s.qx,atF bt ot (yT t qU qP xm xh qM qL),sF false xN qU qP t.qy,sF false zq xm xh t.qE,sF false xE qM qL t.qA]) ((s.qw.length - (0:Int)).toNat) ⟨_,(aa b7 0),0,0,([]:yLL),[],[],(aa b9 0),0,0,([]:List yLL),[],[],0,uE6,(by rfl),(by rfl),qf,(by exact fun j hj=>by omega),rfl,N.emp.emp,H⟩ ?_
 clear H N
 rintro m' ρ w49 ⟨xP,jv,vU,ji,rules,x_rules,F_rules,a_all,X7,YV,all,x_all,F_all,c_1,rfl,rfl,rfl,i0,gp,rfl,N,H⟩
 have hn_rules:=H.zl (α:=yLI) 1 rfl 0 rfl qj
 have hn_all:=H.zl (α:=yLL) 0 rfl 1 rfl qj
 have rl:=rules_le s t c_1
 have pl:=packsL_le s t c_1
 refine zcc (sps [yI c_1,pp bs os,pp bs os] (oF rfl (oL rfl (H.xQ 2 rfl 1 rfl) (oN rfl (sp (.bool (decide ((c_1:Int) < s.qw.length))) (zjn (cD rfl (fun h50=>?_) (fun h50=>?_))))))))
 ·skip
  refine qV (t_n (xO (qW (zcr (sps [pp bs os,.slice ra1 ((appl s t).length) rc1,yI c_1] (sw (vC #[pp bs os,.slice ra1 ((appl s t).length) rc1,yI c_1] rfl rfl call135 (en func135 ntmps135 ?_))))))))
  refine zcr (sps [yN,yN] (zjc (sw (vT H underlying118 ti3 fun b51 w52 H=>sp (.slice (aa b51 0) 0 0) (zjc (sw (vT H underlying27 ti22 fun b53 w54 H=>sp (.slice (aa b53 0) 0 0) (zjcc (sp (yI 0) (zjn (qW ?_)))))))))))
  replace H:=H.boxRowI 1 [] 0
  replace H:=H.boxRow 0 rfl 1 0 rfl qj
  replace H:=H.vP (α:=yLI)
  replace H:=H.unfree 0 rfl
  refine zo (fun m' ρ w55=>∃ (xP:Env) (QV:yOA) (Qm:Nat) (QU:Nat) (rules_1:yLI) (yQ:yOA) (jG:Nat) (yK:Nat) (needs:yLL) (X6:List Value) (YN:yLN) (i:Nat),ρ=upd (upd (upd (upd (upd (upd xP 0 (pp bs os)) 1 (.slice ra1 ((appl s t).length) rc1)) 2 (yI c_1)) 8 (.slice QV Qm QU)) 9 (.slice yQ jG yK)) 10 (yI i)∧rules_1=(cellT s t i c_1)∧needs=(zi s (cellT s t i c_1))∧((i:Int)≤((appl s t).length))∧m' =(((appl s t).length) - (i:Int)).toNat∧Fresh w.heap.size [F_rules,F_all]∧St w w55 [rr yQ jG yK 22 1 X6,rr QV Qm QU 3 1 (rules_1.map (Value.int .i64)),rr a_all X7 YV 27 1 x_all,rr jv vU ji 118 1 x_rules,rr ra1 ((appl s t).length) rc1 4 1 ((appl s t).map (Value.bool))] [zh false YN X6 needs,zh true F_rules x_rules (xe s t c_1),zh true F_all x_all (xC s t c_1),atF bs os (yS s qC qB qN qJ),sF false qY qC qB s.qw,sF false xF qN qJ s.qx,atF bt ot (yT t qU qP xm xh qM qL),sF false xN qU qP t.qy,sF false zq xm xh t.qE,sF false xE qM qL t.qA]) ((((appl s t).length) - (0:Int)).toNat) ⟨_,(aa b51 0),0,0,([]:yLI),(aa b53 0),0,0,([]:yLL),[],[],0,uE6,(by rfl),(by rfl),qf,rfl,N,H.pick [0,1,2,3,4] [0,2,3,4,5,6,7,8,9,10]⟩ ?_
  clear H N
  rintro m' ρ w56 ⟨xP,QV,Qm,QU,rules_1,yQ,jG,yK,needs,X6,YN,i,rfl,rfl,rfl,i0,rfl,N,H⟩
  have hn_rules:=H.YG 1 rfl
  have hn_needs:=H.zl (α:=yLI) 0 rfl 0 rfl qj
  have tl:=cellT_le s t i c_1
  have nl:=Vr s (cellT s t i c_1)
  refine zcc (sps [yI i,.slice ra1 ((appl s t).length) rc1] (oN rfl (sp (.bool (decide ((i:Int) < ((appl s t).length)))) (zjn (cD rfl (fun h57=>?_) (fun h57=>?_))))))
  ·skip
   refine qV (t_n (xO (qW (zcr (sps [.slice ra1 ((appl s t).length) rc1,yI i] ?_)))))
   obtain ⟨b58,rfl⟩:=H.Qz 4 rfl qf
   refine oI rfl rfl (oL rfl (H.rowBool 4 rfl (iv:=i) (i:=i) qf qf) (sp (.bool ((appl s t)[i]!)) ?_))
   cases h59:((appl s t)[i]!)
   ·skip
    refine zk [24,25,26,27,28,29,30,31,32,33] (sp (.bool false) (zjn (xH false rfl (fun h=>absurd h qj) (fun _=>qV (b_n (t_n (xR (sp (yI i) (sw (zu i 1 rfl rfl qf (sp (yI (i+1)) (xU (qZ (m' :=(((appl s t).length) - ((i+1):Int)).toNat) qf ⟨_,QV,Qm,QU,(cellT s t i c_1),yQ,jG,yK,(zi s (cellT s t i c_1)),X6,YN,i+1,uE6,?_,?_,?_,rfl,N,H⟩)))))))))))))
    · first | exact cellT_yes (Xc qf ‹_›) ‹_› | exact XT (QC qf ‹_›) | exact Xk ‹_›
    · first | exact needs_yes (Xc qf ‹_›) ‹_› | exact congrArg (zi s) (XT (QC qf ‹_›)) | exact congrArg (zi s) (Xk ‹_›)
    · omega
   refine qQ 23 rfl rfl (sp (pp bs os) (qQ 23 rfl rfl (sp (pp bs os) (qQ 23 rfl rfl (oF rfl (qQ 23 rfl rfl (oL rfl (H.xQ 3 rfl 2 rfl) (qQ 23 rfl rfl (sp (yI i) (qQ 23 rfl rfl ?_))))))))))
   obtain ⟨b60,o61,rfl⟩:=H.addr 5 rfl qf
   obtain ⟨ae63Need,ce63Need,Fe63Need,ae63Have,ce63Have,Fe63Have,ae63Lack,ce63Lack,Fe63Lack,ae63Here,ce63Here,Fe63Here,ae63Out,ce63Out,Fe63Out,ae63Into,ce63Into,Fe63Into,H⟩:=H.yl 5 rfl i i qf qf qf
   refine oI rfl rfl (qQ 23 rfl rfl (oF rfl (qQ 23 rfl rfl (oL rfl (H.xQ 6 rfl 0 rfl) (qQ 23 rfl rfl (sp (yI c_1) (qQ 23 rfl rfl (sps [.bool (((s.qx[i]!).qG:Int) == c_1),.bool (((s.qx[i]!).qG:Int) == c_1)] (zjn (cE rfl (fun h64=>?_) (fun h64=>?_)))))))))))
   ·skip
    refine zcr (sps [.slice QV Qm QU,yI i] (sw (zG H underlying118 ti3 [yI i] fun b65 w66 H=>sw (zN H 2 rfl 0 rfl underlying118 ti3 rfl qj rfl rfl rfl (by simp [Value.oneCell',Value.cells]) qp qf fun a67 c68 w69 H=>?_))))
    rw [snocI] at H
    refine sp (.slice a67 (Qm+1) c68) (zjn (xR (sps [.slice yQ jG yK,pp bs os,pp bs os] (oF rfl (oL rfl (H.xQ 10 rfl 2 rfl) (sp (yI i) (oI rfl rfl (oF rfl (oL rfl (H.xQ 6 rfl 2 rfl) (sw (zG H underlying27 ti22 [.slice ae63Need (((s.qx[i]!).xk).length) ce63Need] fun b70 w71 H=>sw (zN H 2 rfl 0 rfl underlying27 ti22 rfl qj rfl rfl rfl (by simp [Value.oneCell',Value.cells]) qp qf fun a72 c73 w74 H=>?_))))))))))))
    replace H:=H.yB 7 rfl 0 rfl
    refine sp (.slice a72 (jG+1) c73) (xU (b_n (t_n (xR (sp (yI i) (sw (zu i 1 rfl rfl qf (sp (yI (i+1)) (xU (qZ (m' :=(((appl s t).length) - ((i+1):Int)).toNat) qf ⟨_,a67,Qm+1,c68,((cellT s t i c_1)++[(i:Int)]),a72,jG+1,c73,((zi s (cellT s t i c_1))++[(s.qx[i]!).xk]),X6++[.slice ae63Need (((s.qx[i]!).xk).length) ce63Need],(YN++Fe63Need),i+1,uE6,?_,?_,?_,rfl,N,H.pick [2,3,4,5,6] [0,9,10,11,12,13,14,15,16,17]⟩))))))))))
    · first | exact cellT_yes (Xc qf ‹_›) ‹_› | exact XT (QC qf ‹_›) | exact Xk ‹_›
    · first | exact needs_yes (Xc qf ‹_›) ‹_› | exact congrArg (zi s) (XT (QC qf ‹_›)) | exact congrArg (zi s) (Xk ‹_›)
    · omega
   refine qV (b_n (t_n (xR (sp (yI i) (sw (zu i 1 rfl rfl qf (sp (yI (i+1)) (xU (qZ (m' :=(((appl s t).length) - ((i+1):Int)).toNat) qf ⟨_,QV,Qm,QU,(cellT s t i c_1),yQ,jG,yK,(zi s (cellT s t i c_1)),X6,YN,i+1,uE6,?_,?_,?_,rfl,N,H.pick [0,1,2,3,4] [7,8,9,10,11,12,13,14,15,16]⟩)))))))))
   · first | exact cellT_yes (Xc qf ‹_›) ‹_› | exact XT (QC qf ‹_›) | exact Xk ‹_›
   · first | exact needs_yes (Xc qf ‹_›) ‹_› | exact congrArg (zi s) (XT (QC qf ‹_›)) | exact congrArg (zi s) (Xk ‹_›)
   · omega
  refine zx4 (zcr (sps [.slice QV Qm QU,.slice yQ jG yK,.slice QV Qm QU,.slice yQ jG yK] (zjr (ret2 (.slice QV Qm QU) (.slice yQ jG yK) rfl rfl rfl ⟨_,rfl,?_⟩))))
  obtain rfl:i=s.qx.length:=by omega
  rw [show cellT s t s.qx.length c_1=zD s t c_1 from rfl] at H hn_rules hn_needs
  refine sps [.tuple #[.slice QV Qm QU,.slice yQ jG yK],.slice QV Qm QU,.slice yQ jG yK,.slice QV Qm QU,.slice yQ jG yK] (zjcc (sp (.slice QV Qm QU) (oN rfl (sp (.bool ((Qm:Int) == 0)) (zjn (cE rfl (fun h75=>?_) (fun h75=>?_)))))))
  ·skip
   refine c_exit (t_x (b_x (t_n (xR (sp (yI c_1) (sw (zu c_1 1 rfl rfl qf (sp (yI (c_1+1)) (xU (qZ (m' :=(s.qw.length - ((c_1+1):Int)).toNat) qf ⟨_,jv,vU,ji,(xe s t c_1),x_rules,F_rules,a_all,X7,YV,(xC s t c_1),x_all,F_all,c_1+1,uE6,?_,?_,?_,?_,rfl,N,H.pick [2,3,4] [1,2,3,4,5,6,7,8,9]⟩))))))))))
   · first | exact rules_yes qf | exact rules_no qf
   · first | exact packsL_yes qf | exact packsL_no qf
   · omega
   · exact gp.succ (by first | exact .inl qf | exact .inr (show (zW _ _).2=0 from ‹_›))
  refine qV (t_n (zcr (sps [pp bt ot,pp bt ot] (oF rfl (oL rfl (H.xQ 6 rfl 1 rfl) (sp (yI c_1) ?_))))))
  obtain ⟨b76,o77,rfl⟩:=H.addr 8 rfl qf
  obtain ⟨ae79,ce79,Fe79,H⟩:=H.vN 8 rfl c_1 c_1 qf qf qf
  refine oI rfl rfl (oL rfl (H.xQ 1 rfl 0 rfl) (sp (.slice yQ jG yK) ?_))
  obtain ⟨G80,hn81,h82⟩:=H.rowIsR (α:=yLI) 0 rfl 2 rfl qj
  have cp:=cell_pack p0 p1 (c:=c_1) qf
  have sz86:=H.base.size
  have lt87:=H.ltN (L:=[F_rules,F_all]) [3,4]
  refine sw (oc (args_eq (by rw [← hn81]) (l01All_ok _ (t.qE[c_1]!) (zi s (zD s t c_1)) (H.get 0 rfl).1 (hn81▸h82) qg)) ?_)
  rintro _ w84 ⟨ra83a,rn83a,rc83a,rx83a,rF83a,rfl,M,K⟩ _
  replace N:=N.merge sz86 lt87 M
  replace H:=H.merge K M
  obtain rfl:=H.zl (α:=yLI) 0 rfl 0 rfl qj
  refine sps [.tuple #[.slice ra83a (((zW (t.qE[c_1]!) (zi s (zD s t c_1))).1).length) rc83a,yI ((zW (t.qE[c_1]!) (zi s (zD s t c_1))).2)],.slice ra83a (((zW (t.qE[c_1]!) (zi s (zD s t c_1))).1).length) rc83a,yI ((zW (t.qE[c_1]!) (zi s (zD s t c_1))).2),.slice ra83a (((zW (t.qE[c_1]!) (zi s (zD s t c_1))).1).length) rc83a,yI ((zW (t.qE[c_1]!) (zi s (zD s t c_1))).2)] (zjcc (sps [yI ((zW (t.qE[c_1]!) (zi s (zD s t c_1))).2),.bool (((zW (t.qE[c_1]!) (zi s (zD s t c_1))).2:Int) != 0)] (zjn ?_)))
  refine xH (((zW (t.qE[c_1]!) (zi s (zD s t c_1))).2:Int) != 0) rfl (fun h89=>?_) (fun h89=>?_)
  ·skip
   replace h89:=bne_iff_ne.1 h89
   refine zcr (sps [.slice jv vU ji,.slice a_all X7 YV,yI ((zW (t.qE[c_1]!) (zi s (zD s t c_1))).2),.slice jv vU ji,.slice a_all X7 YV,yI ((zW (t.qE[c_1]!) (zi s (zD s t c_1))).2)] (zjr (t_r (zr5 (ret3 (.slice jv vU ji) (.slice a_all X7 YV) (yI ((zW (t.qE[c_1]!) (zi s (zD s t c_1))).2)) rfl rfl rfl rfl ⟨_,rfl,?_⟩)))))
   replace H:=H.erases [5,2,1,0]
   dsimp only [vX,List.eraseIdx] at H
   refine sps [.tuple #[.slice jv vU ji,.slice a_all X7 YV,yI ((zW (t.qE[c_1]!) (zi s (zD s t c_1))).2)],.slice jv vU ji,.slice a_all X7 YV,yI ((zW (t.qE[c_1]!) (zi s (zD s t c_1))).2),.slice jv vU ji,.slice a_all X7 YV,yI ((zW (t.qE[c_1]!) (zi s (zD s t c_1))).2)] (zjcc (sps [yI ((zW (t.qE[c_1]!) (zi s (zD s t c_1))).2),.bool (((zW (t.qE[c_1]!) (zi s (zD s t c_1))).2:Int) != 0)] (zjn ?_)))
   refine xH (((zW (t.qE[c_1]!) (zi s (zD s t c_1))).2:Int) != 0) rfl (fun h90=>?_) (fun h=>absurd (xq h) h89)
   replace h90:=bne_iff_ne.1 h90
   refine zcr (sw (vT H underlying27 ti22 fun b91 w92 H=>sps [yI ((zW (t.qE[c_1]!) (zi s (zD s t c_1))).2),.slice (aa b91 0) 0 0,yI ((zW (t.qE[c_1]!) (zi s (zD s t c_1))).2)] (zjr (t_r ?_))))
   replace H:=H.boxRow 0 rfl 1 0 rfl qj
   replace H:=H.vP (α:=yLI)
   refine ret2 (.slice (aa b91 0) 0 0) (yI ((zW (t.qE[c_1]!) (zi s (zD s t c_1))).2)) rfl rfl rfl ⟨_,rfl,?_,H.base⟩
   rw [cho_code (bad_code (c:=c_1) qf qf ‹_›) ‹_›]
   exact ⟨(aa b91 0),0,0,[],[],rfl,(N.emp.pick [0]),H.pick [0] [0]⟩
  replace h89:=xq h89
  refine qV (t_n (zcr (sps [.slice jv vU ji,.slice QV Qm QU] (sw (zG H underlying113 ti118 [.slice QV Qm QU] fun b93 w94 H=>?_)))))
  obtain ⟨G98,N,hn99,H⟩:=H.vW 3 rfl N (H.jQ [0,4,5])
  refine sw (zN H 5 rfl 0 rfl underlying113 ti118 rfl qj rfl rfl rfl (by simp [Value.oneCell',Value.cells]) qp qf fun a95 c96 w97 H=>?_)
  replace H:=H.yB 5 rfl 0 rfl
  replace N:Fresh w.heap.size [(F_rules++G98),rF83a,F_all]:=(N.pick [2,0,1,3]).join
  refine sp (.slice a95 (vU+1) c96) (zjn (xR (sps [.slice a_all X7 YV,.slice ra83a (((zW (t.qE[c_1]!) (zi s (zD s t c_1))).1).length) rc83a] (sw (zG H underlying114 ti27 [.slice ra83a (((zW (t.qE[c_1]!) (zi s (zD s t c_1))).1).length) rc83a] fun b100 w101 H=>?_)))))
  have H0:=H
  obtain ⟨G105,hg107,hn106,H⟩:=H.QI (α:=yLI) 2 rfl 2 rfl qj
  replace N:Fresh w.heap.size [G105,(F_rules++G98),F_all]:=Fresh.ice (N.pick [1,0,2]) H0 2 hg107.1 hg107.2 (H0.jQ [0,7])
  clear H0
  refine sw (zN H 5 rfl 0 rfl underlying114 ti27 rfl qj rfl rfl rfl (by simp [Value.oneCell',Value.cells]) qp qf fun a102 c103 w104 H=>?_)
  replace H:=H.yB 8 rfl 0 rfl
  replace N:Fresh w.heap.size [(F_all++G105),(F_rules++G98)]:=(N.pick [2,0,1]).join
  refine sp (.slice a102 (X7+1) c103) (xU (b_n (t_n (xR (sp (yI c_1) (sw (zu c_1 1 rfl rfl qf (sp (yI (c_1+1)) (xU ?_)))))))))
  refine qZ (m' :=(s.qw.length - ((c_1+1):Int)).toNat) qf ⟨_,a95,vU+1,c96,((xe s t c_1)++[(zD s t c_1)]),x_rules++[.slice QV Qm QU],(F_rules++G98),a102,X7+1,c103,((xC s t c_1)++[(zW (t.qE[c_1]!) (zi s (zD s t c_1))).1]),x_all++[.slice ra83a (((zW (t.qE[c_1]!) (zi s (zD s t c_1))).1).length) rc83a],(F_all++G105),c_1+1,uE6,?_,?_,?_,?_,rfl,(N.pick [1,0]),H.pick [5,6,7] [2,0,10,11,12,13,14,15,16]⟩
  · first | exact rules_yes qf | exact rules_no qf
  · first | exact packsL_yes qf | exact packsL_no qf
  · omega
  · exact gp.succ (by first | exact .inl qf | exact .inr (show (zW _ _).2=0 from ‹_›))
 refine zx4 (zcr (sps [.slice jv vU ji,.slice a_all X7 YV,.slice jv vU ji,.slice a_all X7 YV,yI 0] (zjr (ret3 (.slice jv vU ji) (.slice a_all X7 YV) (yI 0) rfl rfl rfl rfl ⟨_,rfl,?_⟩))))
 replace H:=H.erases [2]
 dsimp only [vX,List.eraseIdx] at H
 obtain rfl:c_1=s.qw.length:=by omega
 have kb:=prod_bd p0 p1 (k:=s.qw.length) qf gp
 have kn:=packsL_ne p0 p1 (k:=s.qw.length) qf gp
 have kr:=rules_le s t s.qw.length
 have kl:=packsL_le s t s.qw.length
 refine sps [.tuple #[.slice jv vU ji,.slice a_all X7 YV,yI 0],.slice jv vU ji,.slice a_all X7 YV,yI 0,.slice jv vU ji,.slice a_all X7 YV,yI 0] (zjcc (sps [yI 0,.bool false] (zjn (xH false rfl (fun h=>absurd h qj) (fun _=>qV (t_n (zcc (sp (.slice a_all X7 YV) ?_))))))))
 obtain ⟨G108,hn109,h110⟩:=H.rowIsR (α:=yLL) 0 rfl 1 rfl qj
 refine sw (oq (args_eq (by rw [← hn109]) (l03Count_ok _ (xC s t s.qw.length) (hn109▸h110) qg)) H fun w112 H=>sp (.bool (decide ((((Xh (xC s t s.qw.length) (xC s t s.qw.length).length:Nat):Int):Int) > 300))) (zjn (cD rfl (fun h114=>?_) (fun h114=>?_))))
 ·skip
  refine zcr (sw (vT H underlying27 ti22 fun b115 w116 H=>sps [.slice (aa b115 0) 0 0,yI 3] (zjr (t_r ?_))))
  replace H:=H.boxRow 0 rfl 1 0 rfl qj
  replace H:=H.vP (α:=yLI)
  refine ret2 (.slice (aa b115 0) 0 0) (yI 3) rfl rfl rfl ⟨_,rfl,?_,H.base⟩
  first | rw [cho_3 (.inl (bad_sum (c:=c) qf qf qf))] | rw [cho_3 (.inr qf)]
  exact ⟨(aa b115 0),0,0,[],[],rfl,(N.emp.pick [0]),H.pick [0] [0]⟩
 have kc:¬ Xh (xC s t s.qw.length) (xC s t s.qw.length).length > 300:=by omega
 refine qV (t_n (zcr (sps [pp bs os,pp bs os] (oF rfl (oL rfl (H.xQ 2 rfl 2 rfl) (oN rfl (sw (XO H underlying22 ti2 s.qx.length rfl rfl qf qf qf fun b117 w118 H=>sw (zG H underlying27 ti22 [.slice (aa b117 0) s.qx.length s.qx.length] fun b119 w120 H=>sp (.slice (aa b119 0) 1 1) (zjcc (sp (yI 0) (zjn (qW ?_)))))))))))))
 have H0:=H
 obtain ⟨G121,hg123,hn122,H⟩:=H.QI (α:=yLI) 3 rfl 0 rfl qj
 replace N:Fresh w.heap.size [G121,F_all]:=Fresh.ice N H0 3 hg123.1 hg123.2 (H0.jQ [1])
 clear H0
 have H0:=H
 obtain ⟨G124,hg126,hn125,H⟩:=H.QI (α:=yLL) 2 rfl 2 rfl qj
 replace N:Fresh w.heap.size [G124,G121]:=Fresh.ice (N.pick [1,0]) H0 2 hg126.1 hg126.2 (H0.jQ [0])
 clear H0
 replace H:=H.boxRow 0 rfl 1 1 rfl qj
 replace H:=H.vP (α:=yLI)
 obtain ⟨G127,N,hn128,H⟩:=H.vW 1 rfl N (H.jQ [1,2])
 replace H:=H.Yy true 0 rfl 1 rfl qm
 replace N:Fresh w.heap.size [(G127++[]),G124,G121]:=(N.emp.pick [1,0,2,3]).join
 refine zo (fun m' ρ w129=>∃ (xP:Env) (zY:yOA) (zn:Nat) (zO:Nat) (out:yLL) (Qv:List Value) (jV:yLN) (i:Nat),ρ=upd (upd (upd (upd xP 6 (.slice jv vU ji)) 7 (.slice a_all X7 YV)) 9 (.slice zY zn zO)) 10 (yI i)∧out=(jh s.qx.length (xe s t s.qw.length) (xC s t s.qw.length) i)∧((i:Int)≤X7)∧m' =(X7 - (i:Int)).toNat∧Fresh w.heap.size [G124,G121,jV]∧St w w129 [rr zY zn zO 22 1 Qv] [zh true jV Qv out,isF true G124 (.slice a_all X7 YV) (xC s t s.qw.length),isF true G121 (.slice jv vU ji) (xe s t s.qw.length)]) ((X7 - (0:Int)).toNat) ⟨_,(aa b119 0),1,1,[(List.replicate s.qx.length (0:Int))],[.slice (aa b117 0) s.qx.length s.qx.length],(G127++[]),0,uE4,(by rfl),qf,rfl,(N.pick [1,2,0]),H.pick [0] [0,3,4]⟩ ?_
 clear H N
 rintro m' ρ w130 ⟨xP,zY,zn,zO,out,Qv,jV,i,rfl,rfl,i0,rfl,N,H⟩
 have hn_out:=H.zl (α:=yLI) 0 rfl 0 rfl qj
 refine zcc (sps [yI i,.slice a_all X7 YV] (oN rfl (sp (.bool (decide ((i:Int) < X7))) (zjn (cD rfl (fun h131=>?_) (fun h131=>?_))))))
 ·skip
  have ga:=G_le (n:=s.qx.length) (rs:=(xe s t s.qw.length)) (i:=i) kn kc qf
  obtain ⟨gb,gc⟩:=cell_few (s:=s) (t:=t) (n:=s.qw.length) (i:=i) p0 qf
  refine qV (t_n (xO (qW (zcr (sw (vT H underlying27 ti22 fun b132 w133 H=>sp (.slice (aa b132 0) 0 0) (zjcc (sp (yI 0) (zjn (qW ?_))))))))))
  replace H:=H.boxRow 0 rfl 1 0 rfl qj
  replace H:=H.vP (α:=yLI)
  refine zo (fun m' ρ w134=>∃ (xP:Env) (a_next:yOA) (n_next:Nat) (c_next:Nat) (next:yLL) (x_next:List Value) (F_next:yLN) (k:Nat),ρ=upd (upd (upd (upd (upd (upd xP 6 (.slice jv vU ji)) 7 (.slice a_all X7 YV)) 9 (.slice zY zn zO)) 10 (yI i)) 11 (.slice a_next n_next c_next)) 12 (yI k)∧next=(nextK (jh s.qx.length (xe s t s.qw.length) (xC s t s.qw.length) i) ((xe s t s.qw.length)[i]!) ((xC s t s.qw.length)[i]!) k)∧((k:Int)≤zn)∧m' =(zn - (k:Int)).toNat∧Fresh w.heap.size [G124,G121,jV,F_next]∧St w w134 [rr a_next n_next c_next 22 1 x_next,rr zY zn zO 22 1 Qv] [zh true F_next x_next next,zh true jV Qv (jh s.qx.length (xe s t s.qw.length) (xC s t s.qw.length) i),isF true G124 (.slice a_all X7 YV) (xC s t s.qw.length),isF true G121 (.slice jv vU ji) (xe s t s.qw.length)]) ((zn - (0:Int)).toNat) ⟨_,(aa b132 0),0,0,([]:yLL),[],[],0,uE6,(by rfl),qf,rfl,(N.emp.pick [1,2,3,0]),H⟩ ?_
  clear H N
  rintro m' ρ w135 ⟨xP,a_next,n_next,c_next,next,x_next,F_next,k,rfl,rfl,i0,rfl,N,H⟩
  have hn_next:=H.zl (α:=yLI) 0 rfl 0 rfl qj
  refine zcc (sps [yI k,.slice zY zn zO] (oN rfl (sp (.bool (decide ((k:Int) < zn))) (zjn (cD rfl (fun h136=>?_) (fun h136=>?_))))))
  ·skip
   refine qV (t_n (xO (qW (zcr (sp (yI 0) (zjn (qW ?_)))))))
   refine zo (fun m' ρ w137=>∃ (xP:Env) (XA:yOA) (QE:Nat) (Xz:Nat) (next_1:yLL) (XJ:List Value) (Q3:yLN) (x:Nat),ρ=upd (upd (upd (upd (upd (upd (upd xP 6 (.slice jv vU ji)) 7 (.slice a_all X7 YV)) 9 (.slice zY zn zO)) 10 (yI i)) 11 (.slice XA QE Xz)) 12 (yI k)) 13 (yI x)∧next_1=(nextX (jh s.qx.length (xe s t s.qw.length) (xC s t s.qw.length) i) ((xe s t s.qw.length)[i]!) ((xC s t s.qw.length)[i]!) k x)∧((x:Int)≤(((xC s t s.qw.length)[i]!).length))∧m' =((((xC s t s.qw.length)[i]!).length) - (x:Int)).toNat∧Fresh w.heap.size [G124,G121,jV,Q3]∧St w w137 [rr XA QE Xz 22 1 XJ,rr zY zn zO 22 1 Qv] [zh true Q3 XJ next_1,zh true jV Qv (jh s.qx.length (xe s t s.qw.length) (xC s t s.qw.length) i),isF true G124 (.slice a_all X7 YV) (xC s t s.qw.length),isF true G121 (.slice jv vU ji) (xe s t s.qw.length)]) (((((xC s t s.qw.length)[i]!).length) - (0:Int)).toNat) ⟨_,a_next,n_next,c_next,(nextK (jh s.qx.length (xe s t s.qw.length) (xC s t s.qw.length) i) ((xe s t s.qw.length)[i]!) ((xC s t s.qw.length)[i]!) k),x_next,F_next,0,uE7,(by exact nextX_zero _ _ _ _),qf,rfl,N,H⟩ ?_
   clear H N
   rintro m' ρ w138 ⟨xP,XA,QE,Xz,next_1,XJ,Q3,x,rfl,rfl,i0,rfl,N,H⟩
   have hn_next:=H.zl (α:=yLI) 0 rfl 0 rfl qj
   refine zcc (sps [yI x,.slice a_all X7 YV,yI i] ?_)
   have hl141:=H.isLen 2 rfl
   obtain ⟨b139,o140,rfl⟩:=H.addr 2 rfl qf
   obtain ⟨ae142,ce142,Fe142,H⟩:=H.vN 2 rfl i i qf qf qf
   refine oI rfl rfl (oL rfl (H.xQ 1 rfl 0 rfl) (oN rfl (sp (.bool (decide ((x:Int) < (((xC s t s.qw.length)[i]!).length)))) (zjn (cD rfl (fun h143=>?_) (fun h143=>?_))))))
   ·skip
    have nx:=next_le (n:=s.qx.length) (rs:=(xe s t s.qw.length)) (i:=i) (k:=k) (x:=x) kn kc qf qf qf
    have g1:=prodG_at (n:=s.qx.length) (rs:=(xe s t s.qw.length)) (all:=(xC s t s.qw.length)) (i:=i) (k:=k) qf
    have g2:=pack_at (s:=s) (t:=t) (n:=s.qw.length) (i:=i) (x:=x) qf qf
    refine qV (t_n (xO (qW (zcr (sps [.slice zY zn zO,yI k] ?_)))))
    obtain ⟨b144,rfl⟩:=H.Qz 1 rfl qf
    refine oI rfl rfl ?_
    obtain ⟨a145,c146,G147,s148,h149,hx150,hy151,H⟩:=H.rowElemX 1 rfl 3 rfl (iv:=k) k qf qf
    refine oL rfl (H.rowGet 1 rfl hx150) ?_
    have sz152:=H.base.size
    have lt153:=H.ltN (L:=[G124,G121,jV,Q3]) [5,6,4,3]
    refine sw (oc (X0 _ ((jh s.qx.length (xe s t s.qw.length) (xC s t s.qw.length) i)[k]!) (H.get 0 rfl).1 qg) ?_)
    rintro v157 w155 r157 x156
    replace H:=H.zB x156 r157
    obtain ⟨a158,c159,rfl,hc160,hm161⟩:=H.jm 0 rfl
    refine sp (.slice a158 (((jh s.qx.length (xe s t s.qw.length) (xC s t s.qw.length) i)[k]!).length) c159) (zjcc (sp (yI 0) (zjn (qW ?_))))
    refine zo (fun m' ρ w162=>∃ (xP:Env) (r:Nat) (own:yLI),ρ=upd (upd (upd (upd (upd (upd (upd (upd (upd xP 6 (.slice jv vU ji)) 7 (.slice (aa b139 o140) X7 YV)) 9 (.slice (aa b144 0) zn zO)) 10 (yI i)) 11 (.slice XA QE Xz)) 12 (yI k)) 13 (yI x)) 14 (.slice a158 (((jh s.qx.length (xe s t s.qw.length) (xC s t s.qw.length) i)[k]!).length) c159)) 15 (yI r)∧own=(setTo ((jh s.qx.length (xe s t s.qw.length) (xC s t s.qw.length) i)[k]!) ((xe s t s.qw.length)[i]!) (((xC s t s.qw.length)[i]!)[x]!) r)∧((r:Int)≤(((xe s t s.qw.length)[i]!).length))∧m' =((((xe s t s.qw.length)[i]!).length) - (r:Int)).toNat∧Fresh w.heap.size [G124,G121,jV,Q3]∧St w w162 [rr a158 (((jh s.qx.length (xe s t s.qw.length) (xC s t s.qw.length) i)[k]!).length) c159 2 1 (own.map (Value.int .i64)),rr XA QE Xz 22 1 XJ,rr (aa b144 0) zn zO 22 1 Qv] [sF true Fe142 ae142 ce142 ((xC s t s.qw.length)[i]!),atF b139 (o140+(i:Int).toNat * 1) [.slice ae142 (((xC s t s.qw.length)[i]!).length) ce142],zh true Q3 XJ (nextX (jh s.qx.length (xe s t s.qw.length) (xC s t s.qw.length) i) ((xe s t s.qw.length)[i]!) ((xC s t s.qw.length)[i]!) k x),zh true jV Qv (jh s.qx.length (xe s t s.qw.length) (xC s t s.qw.length) i),isF true G124 (.slice (aa b139 o140) X7 YV) (xC s t s.qw.length),isF true G121 (.slice jv vU ji) (xe s t s.qw.length)]) (((((xe s t s.qw.length)[i]!).length) - (0:Int)).toNat) ⟨_,0,((jh s.qx.length (xe s t s.qw.length) (xC s t s.qw.length) i)[k]!),uE9,(by rfl),qf,rfl,N,H.pick [0,1,2] [1,2,3,4,5,6]⟩ ?_
    clear H N
    rintro m' ρ w163 ⟨xP,r,own,rfl,rfl,i0,rfl,N,H⟩
    have hn_own:=H.YG 0 rfl
    have sl:=setTo_len ((jh s.qx.length (xe s t s.qw.length) (xC s t s.qw.length) i)[k]!) ((xe s t s.qw.length)[i]!) (((xC s t s.qw.length)[i]!)[x]!) r
    refine zcc (sps [yI r,.slice jv vU ji,yI i] ?_)
    have hl166:=H.isLen 5 rfl
    obtain ⟨b164,o165,rfl⟩:=H.addr 5 rfl qf
    obtain ⟨ae167,ce167,Fe167,H⟩:=H.vN 5 rfl i i qf qf qf
    refine oI rfl rfl (oL rfl (H.xQ 1 rfl 0 rfl) (oN rfl (sp (.bool (decide ((r:Int) < (((xe s t s.qw.length)[i]!).length)))) (zjn (cD rfl (fun h168=>?_) (fun h168=>?_))))))
    ·skip
     obtain ⟨g3,g4⟩:=choice_at (s:=s) (t:=t) (n:=s.qw.length) (i:=i) (r:=r) qf qf
     refine qV (t_n (xO (qW ?_)))
     refine Qu rfl H [1,2] fun H=>?_
     have S:=H.yD [1,2] [0,1,2,3,4,5,6,7]
     refine rtp 0 (.slice a158 (((jh s.qx.length (xe s t s.qw.length) (xC s t s.qw.length) i)[k]!).length) c159) S ?_
     refine rtp 1 (.slice (aa b164 o165) vU ji) S ?_
     refine rtp 2 (yI i) S ?_
     refine tI 3 rfl rfl rfl S ?_
     refine tL 4 rfl rfl (fun _ h=>h.xQ 1 rfl 0 rfl) S ?_
     refine rtp 5 (yI r) S ?_
     obtain ⟨b170,o171,rfl⟩:=H.addr 0 rfl qf
     have S:=H.yD [1,2] [0,1,2,3,4,5,6,7]
     refine tI 6 rfl rfl rfl S ?_
     refine tL 7 rfl rfl (fun _ h=>h.yt 0 rfl r qf) S ?_
     refine rtp 8 (.slice (aa b139 o140) X7 YV) S ?_
     refine rtp 9 (yI i) S ?_
     refine tI 10 rfl rfl rfl S ?_
     refine tL 11 rfl rfl (fun _ h=>h.xQ 3 rfl 0 rfl) S ?_
     refine rtp 12 (yI x) S ?_
     obtain ⟨b173,o174,rfl⟩:=H.addr 2 rfl qf
     obtain ⟨ae176,ce176,Fe176,H⟩:=H.vN 2 rfl x x qf qf qf
     have S:=H.yD [1,2] [2,3,4,5,6,7,8,9]
     refine tI 13 rfl rfl rfl S ?_
     refine rtp 15 (yI r) S ?_
     refine ro 14 rfl (zK (.slice ae176 ((((xC s t s.qw.length)[i]!)[x]!).length) ce176) isAgg22 rfl (H.xQ 1 rfl 0 rfl) (⟨H.pick [1,2] [2,3,4,5,6,7,8,9],?_⟩))
     obtain ⟨b177,o178,rfl⟩:=H.addr 0 rfl qf
     refine tI 16 rfl rfl rfl (H.pick [1,2] [2,3,4,5,6,7,8,9]) ?_
     refine ro 17 rfl (zK (yI ((((xC s t s.qw.length)[i]!)[x]!)[r]!)) isAgg2 rfl (H.jI 0 rfl r qf qf) (⟨H.pick [1,2] [2,3,4,5,6,7,8,9],?_⟩))
     obtain ⟨b180,rfl⟩:=H.Qz 0 rfl qf
     refine tI 18 rfl rfl rfl (H.pick [1,2] [2,3,4,5,6,7,8,9]) ?_
     refine ro 19 rfl (o_storeInt H 0 rfl ((((xC s t s.qw.length)[i]!)[x]!)[r]!) sizeOf2 rfl rfl (i:=((((xe s t s.qw.length)[i]!)[r]!).toNat)) qf qf fun w181 H=>⟨H.pick [1,2] [2,3,4,5,6,7,8,9],(xM qh (b_n (t_n (xR (sp (yI r) (sw (zu r 1 rfl rfl qf (sp (yI (r+1)) (xU ?_)))))))))⟩)
     refine qZ (m' :=((((xe s t s.qw.length)[i]!).length) - ((r+1):Int)).toNat) qf ⟨_,r+1,((setTo ((jh s.qx.length (xe s t s.qw.length) (xC s t s.qw.length) i)[k]!) ((xe s t s.qw.length)[i]!) (((xC s t s.qw.length)[i]!)[x]!) r).set ((((xe s t s.qw.length)[i]!)[r]!).toNat) ((((xC s t s.qw.length)[i]!)[x]!)[r]!)),uE9,?_,?_,rfl,N,H.pick [0,1,2] [4,5,6,7,8,9]⟩
     · rfl
     · omega
    refine zx4 (xR (sps [.slice XA QE Xz,.slice a158 (((jh s.qx.length (xe s t s.qw.length) (xC s t s.qw.length) i)[k]!).length) c159] (sw (zG H underlying27 ti22 [.slice a158 (((jh s.qx.length (xe s t s.qw.length) (xC s t s.qw.length) i)[k]!).length) c159] fun b182 w183 H=>?_))))
    obtain ⟨G187,N,hn188,H⟩:=H.vW 1 rfl N (H.jQ [6,7,5,4])
    refine sw (zN H 2 rfl 0 rfl underlying27 ti22 rfl qj rfl rfl rfl (by simp [Value.oneCell',Value.cells]) qp qf fun a184 c185 w186 H=>?_)
    replace H:=H.yB 5 rfl 0 rfl
    replace N:Fresh w.heap.size [(Q3++G187),G124,G121,jV]:=(N.pick [4,0,1,2,3]).join
    refine sp (.slice a184 (QE+1) c185) (xU (b_n (t_n (xR (sp (yI x) (sw (zu x 1 rfl rfl qf (sp (yI (x+1)) (xU ?_)))))))))
    refine qZ (m' :=((((xC s t s.qw.length)[i]!).length) - ((x+1):Int)).toNat) qf ⟨_,a184,QE+1,c185,((nextX (jh s.qx.length (xe s t s.qw.length) (xC s t s.qw.length) i) ((xe s t s.qw.length)[i]!) ((xC s t s.qw.length)[i]!) k x)++[(setTo ((jh s.qx.length (xe s t s.qw.length) (xC s t s.qw.length) i)[k]!) ((xe s t s.qw.length)[i]!) (((xC s t s.qw.length)[i]!)[x]!) r)]),XJ++[.slice a158 (((jh s.qx.length (xe s t s.qw.length) (xC s t s.qw.length) i)[k]!).length) c159],(Q3++G187),x+1,uE7,?_,?_,rfl,(N.pick [1,2,3,0]),H.pick [2,3] [0,7,8,9]⟩
    · exact nextX_succ qf (by rw [show r=((xe s t s.qw.length)[i]!).length by omega];rfl)
    · omega
   refine c_exit (t_x (t_x (b_x (b_n (t_n (xR (sp (yI k) (sw (zu k 1 rfl rfl qf (sp (yI (k+1)) (xU (qZ (m' :=(zn - ((k+1):Int)).toNat) qf ⟨_,XA,QE,Xz,(nextX (jh s.qx.length (xe s t s.qw.length) (xC s t s.qw.length) i) ((xe s t s.qw.length)[i]!) ((xC s t s.qw.length)[i]!) k x),XJ,Q3,k+1,uE6,?_,?_,rfl,N,H.pick [0,1] [2,3,4,5]⟩))))))))))))
   · exact nextX_end qf qf
   · omega
  refine zx4 (xR (sps [.slice a_next n_next c_next,.slice a_next n_next c_next] (xU (b_n (t_n (xR (sp (yI i) (sw (zu i 1 rfl rfl qf (sp (yI (i+1)) (xU (qZ (m' :=(X7 - ((i+1):Int)).toNat) qf ⟨_,a_next,n_next,c_next,(nextK (jh s.qx.length (xe s t s.qw.length) (xC s t s.qw.length) i) ((xe s t s.qw.length)[i]!) ((xC s t s.qw.length)[i]!) k),x_next,F_next,i+1,uE4,?_,?_,rfl,(N.pick [0,1,3]),H.pick [0] [0,2,3]⟩))))))))))))
  · rw [show k=(jh s.qx.length (xe s t s.qw.length) (xC s t s.qw.length) i).length by omega];rfl
  · omega
 refine zx4 (zcc (sp (yI 1) (zjn (qW ?_))))
 have on:0 < (jh s.qx.length (xe s t s.qw.length) (xC s t s.qw.length) i).length:=by rw [XD,show i=(xC s t s.qw.length).length by omega];exact prod_mono kn (Nat.zero_le _) (Nat.le_refl _)
 have on2:=G_le (n:=s.qx.length) (rs:=(xe s t s.qw.length)) (i:=i) kn kc qf
 refine zo (fun m' ρ w189=>∃ (xP:Env) (i_1:Nat) (out_1:yLL) (YD:List Value) (Vy:yLN),ρ=upd (upd xP 9 (.slice zY zn zO)) 16 (yI i_1)∧((i_1:Int)≤zn)∧((jh s.qx.length (xe s t s.qw.length) (xC s t s.qw.length) (xC s t s.qw.length).length).Perm out_1)∧(∀ a b,a < b→b < i_1→¬ ahead (out_1[b]!) (out_1[a]!))∧m' =(zn - (i_1:Int)).toNat∧Fresh w.heap.size [Vy]∧St w w189 [rr zY zn zO 22 1 YD] [zh true Vy YD out_1]) ((zn - (1:Int)).toNat) ⟨_,1,(jh s.qx.length (xe s t s.qw.length) (xC s t s.qw.length) i),Qv,jV,uE2,qf,(by rw [show i=(xC s t s.qw.length).length by omega]),(by exact fun a b h1 h2=>by omega),rfl,(N.pick [2]),H.pick [0] [0]⟩ ?_
 clear H N
 rintro m' ρ w190 ⟨xP,i_1,out_1,YD,Vy,rfl,i0,o1,o2,rfl,N,H⟩
 have hn_out:=H.zl (α:=yLI) 0 rfl 0 rfl qj
 refine zcc (sps [yI i_1,.slice zY zn zO] (oN rfl (sp (.bool (decide ((i_1:Int) < zn))) (zjn (cD rfl (fun h191=>?_) (fun h191=>?_))))))
 ·skip
  refine qV (t_n (xO (qW (zcr (sps [yI i_1,yI i_1] (zjn (qW ?_)))))))
  refine zo (fun m' ρ w192=>∃ (xP:Env) (k:Int) (out_51:yLL) (x_out_51:List Value) (F_out_51:yLN),ρ=upd (upd (upd xP 9 (.slice zY zn zO)) 16 (yI i_1)) 17 (yI k)∧((jh s.qx.length (xe s t s.qw.length) (xC s t s.qw.length) (xC s t s.qw.length).length).Perm out_51)∧(InsTo out_51 i_1 k.toNat)∧(0≤k∧k≤i_1)∧m' =((k:Int)).toNat∧Fresh w.heap.size [F_out_51]∧St w w192 [rr zY zn zO 22 1 x_out_51] [zh true F_out_51 x_out_51 out_51]) (((i_1:Int)).toNat) ⟨_,i_1,out_1,YD,Vy,uE3,ql,(by exact InsTo.start o2),qf,rfl,N,H⟩ ?_
  clear H N
  rintro m' ρ w193 ⟨xP,k,out_51,x_out_51,F_out_51,rfl,o3,o4,o5,rfl,N,H⟩
  have hn_out:=H.zl (α:=yLI) 0 rfl 0 rfl qj
  refine xO (xO ?_)
  refine jd rfl H fun H=>rtp 0 (yI k) H ?_
  refine rtp 1 (.bool (decide ((k:Int) > 0))) H ?_
  refine rtp 2 (.bool (decide ((k:Int) > 0))) H ?_
  cases h195:(decide ((k:Int) > 0))
  ·skip
   replace h195:=of_decide_eq_false h195
   refine zS [3,4,5,6,7,8,9,10,11,12] 10 (H) (rtp 13 (.bool false) H ?_)
   refine xM qh (t_n (xH false rfl (fun h=>absurd h qj) (fun _=>c_exit (t_x (t_x (b_x (b_n (t_n (xR (sp (yI i_1) (sw (zu i_1 1 rfl rfl qf (sp (yI (i_1+1)) (xU (qZ (m' :=(zn - ((i_1+1):Int)).toNat) qf ⟨_,i_1+1,out_51,x_out_51,F_out_51,uE2,?_,?_,?_,rfl,N,H⟩)))))))))))))))
   · omega
   · assumption
   · exact o4.stop (perm_rows o3) qf qf (by first | exact .inl qf | exact .inr (by rw [show k.toNat - 1=(k - 1).toNat by omega];assumption))
  replace h195:=of_decide_eq_true h195
  refine rgp 3 (.slice zY zn zO) 110 H ?_
  refine rgp 4 (yI k) 110 H ?_
  obtain ⟨b196,rfl⟩:=H.Qz 0 rfl qf
  refine gI 5 rfl rfl rfl H ?_
  obtain ⟨a197,c198,G199,s200,h201,hx202,hy203,H⟩:=H.rowElemX 0 rfl 0 rfl (iv:=k) k.toNat qf qf
  have S:=H.yD [0] [1]
  refine gL 6 rfl rfl (fun _ h=>h.rowGet 0 rfl hx202) S ?_
  refine rgp 7 (.slice (aa b196 0) zn zO) 110 S ?_
  refine rgp 8 (yI k) 110 S ?_
  refine rg 9 (yI (k - 1)) 110 (y_sub k 1 rfl rfl qf) S ?_
  refine gI 10 rfl rfl rfl S ?_
  obtain ⟨a204,c205,G206,s207,h208,hx209,hy210,H⟩:=H.rowElemX 0 rfl 1 rfl (iv:=k - 1) ((k - 1).toNat) qf qf
  refine gL 11 rfl rfl (fun _ h=>h.rowGet 0 rfl hx209) (H.pick [0] [2]) ?_
  refine jo [12] qh qm (r_opG rfl (e:=110) rfl rfl ?_ jq)
  have g5:=perm_rows o3
  have g6:=g5 k.toNat qf
  have g7:=g5 (k - 1).toNat qf
  refine oq (l03Before_ok _ (out_51[k.toNat]!) (out_51[(k - 1).toNat]!) (H.get 1 rfl).1 (H.get 0 rfl).1 qg) H fun w212 H=>⟨H.pick [0] [2],(rtp 13 (.bool (dec (ahead (out_51[k.toNat]!) (out_51[(k - 1).toNat]!)))) (H.pick [0] [2]) ?_)⟩
  refine xM qh (t_n (cP rfl (fun h214=>?_) (fun h214=>?_)))
  ·skip
   refine qV (t_n (xO (qW (zcr (sps [.slice (aa b196 0) zn zO,yI k] (oI rfl rfl ?_))))))
   obtain ⟨a215,c216,G217,s218,h219,hx220,hy221,H⟩:=H.rowElemX 0 rfl 2 rfl (iv:=k) k.toNat qf qf
   refine oL rfl (H.rowGet 0 rfl hx220) (sp (.slice a215 ((out_51[k.toNat]!).length) c216) (zjc (sps [.slice (aa b196 0) zn zO,yI k,.slice (aa b196 0) zn zO,yI k] (sw (o_sub k 1 rfl rfl qf (oI rfl rfl ?_))))))
   obtain ⟨a222,c223,G224,s225,h226,hx227,hy228,H⟩:=H.rowElemX 0 rfl 3 rfl (iv:=k - 1) ((k - 1).toNat) qf qf
   refine oL rfl (H.rowGet 0 rfl hx227) (oI rfl rfl (sw (o_storeRow1 H 0 rfl (.slice a222 ((out_51[(k - 1).toNat]!).length) c223) sizeOf22 rfl rfl rfl qf fun w229 H=>zjn (xR (sps [.slice (aa b196 0) zn zO,yI k] (sw (o_sub k 1 rfl rfl qf (sp (.slice a215 ((out_51[k.toNat]!).length) c216) (oI rfl rfl (sw (o_storeRow1 H 0 rfl (.slice a215 ((out_51[k.toNat]!).length) c216) sizeOf22 rfl rfl rfl qf fun w230 H=>?_)))))))))))
   obtain ⟨F231,hF232,H⟩:=H.swapR 4 rfl (k:=(k:Int).toNat) (i:=(k - 1:Int).toNat) qf qf qf hy228 hy221
   replace N:Fresh w.heap.size [F231]:=Fresh.perm N hF232
   refine xU (b_n (t_n (xR (sp (yI k) (sw (o_sub k 1 rfl rfl qf (sp (yI (k - 1)) (xU (qZ (m' :=(((k - 1):Int)).toNat) qf ⟨_,k - 1,(swapAt out_51 k.toNat),((x_out_51.set (k:Int).toNat (.slice a222 ((out_51[(k - 1).toNat]!).length) c223)).set (k - 1:Int).toNat (.slice a215 ((out_51[k.toNat]!).length) c216)),F231,uE3,?_,?_,?_,rfl,N,H.pick [0] [0]⟩)))))))))
   · exact perm_swap o3 qf qf
   · rw [show (k - 1).toNat=k.toNat - 1 by omega];exact o4.down (perm_rows o3) qf qf qf (by rw [show k.toNat - 1=(k - 1).toNat by omega];assumption)
   · omega
  refine c_exit (t_x (t_x (b_x (b_n (t_n (xR (sp (yI i_1) (sw (zu i_1 1 rfl rfl qf (sp (yI (i_1+1)) (xU (qZ (m' :=(zn - ((i_1+1):Int)).toNat) qf ⟨_,i_1+1,out_51,x_out_51,F_out_51,uE2,?_,?_,?_,rfl,N,H.pick [0] [2]⟩))))))))))))
  · omega
  · assumption
  · exact o4.stop (perm_rows o3) qf qf (by first | exact .inl qf | exact .inr (by rw [show k.toNat - 1=(k - 1).toNat by omega];assumption))
 refine zx4 (zcr (sps [.slice zY zn zO,.slice zY zn zO,yI 0] (zjr (ret2 (.slice zY zn zO) (yI 0) rfl rfl rfl ⟨_,rfl,?_,H.base⟩))))
 rw [cho_0 gp kc o1 (in_order qf o2)]
 exact ⟨zY,zn,zO,YD,Vy,rfl,N,H.pick [0] [0]⟩
end
end Go.Proofs.YtgjnaocffdhnbaaGreat
