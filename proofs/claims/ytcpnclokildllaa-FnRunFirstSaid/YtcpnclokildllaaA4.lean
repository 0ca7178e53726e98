/- Walks and laws, printed by program and by hand: what each function comes to, for all arguments, part 4. -/
import Derived.Test.YtcpnclokildllaaA3
namespace Go.Proofs.Ytcpnclokildllaa
set_option linter.unusedVariables false
set_option linter.unusedSimpArgs false
open Go.Proofs.Ytcpnclokildllaa.Tot (tot)
open Go.Proofs.Ytcpnclokildllaa.Mark (cnt mrk mkd mkd_mark cnt_mark)
section
open Go.Proofs.Try
open Go.RowKit
set_option linter.unusedVariables false
set_option linter.unusedSimpArgs false
set_option maxRecDepth 100000
set_option maxHeartbeats 4000000
variable {qA qJ qR xA qN : Nat}
theorem around_ok (w:World) (s:qy) {qB:yOA} {xe:yLN} {qL:yOA} {xI:yLN} (qV:qU.rep w xe [.slice qB s.qx.length qA] s.qx) (xF:qU.rep w xI [.slice qL s.qw.length qJ] s.qw):Calls Try.prog 87 #[.agg #[yI s.xn,.slice qB s.qx.length qA,.slice qL s.qw.length qJ]] w (Ret (fun v w' =>v=yI s.qx.length) w):=by
 refine en func87 ntmps87 ?_
 have H:=((St.start w).arg xF).arg qV
 have vG:=qP qV
 have jM:=qP xF
 clear qV xF
 have N:=Fresh.nil w.heap.size
 refine zcr (sw (yK H (yS s qB qA qL qJ) fun b1 w2 H=>sp (yI 0) (zjc (oF rfl (oL rfl (H.cell 0 rfl rfl) (oN rfl (sp (yI s.qx.length) (zjr (ret1 (yI s.qx.length) rfl rfl ⟨_,rfl,?_,H.base⟩)))))))))
 rfl

theorem step_ok (w:World) (s:qy) (t:qG) (counts:yLI) {qB:yOA} {xe:yLN} {qL:yOA} {xI:yLN} {qX:yOA} {zg:yLN} {xG:yOA} {zO:yLN} {qO:yOA} {xN:yLN} {acounts:yOA} {ccounts:Nat} {Fcounts:yLN} (qV:qU.rep w xe [.slice qB s.qx.length qA] s.qx) (xF:qU.rep w xI [.slice qL s.qw.length qJ] s.qw) (zf:qU.rep w zg [.slice qX t.qC.length qR] t.qC) (zK:qU.rep w zO [.slice xG t.qI.length xA] t.qI) (xO:qU.rep w xN [.slice qO t.qF.length qN] t.qF) (hcounts:qU.rep w Fcounts [.slice acounts counts.length ccounts] counts) (p0:yH s) (p1:zl s t) (p2:CntOk s counts) (p3:IsCh s t counts):Calls Try.prog 46 #[.agg #[yI s.xn,.slice qB s.qx.length qA,.slice qL s.qw.length qJ],.agg #[.slice qX t.qC.length qR,.slice xG t.qI.length xA,.slice qO t.qF.length qN],.slice acounts counts.length ccounts] w (Ret (fun v w' =>∃ (ra0Alive:yOA) (rn0Alive:Nat) (rc0Alive:Nat) (ra0Bags:yOA) (rn0Bags:Nat) (rc0Bags:Nat) (rx0Bags:List Value) (rF0Bags:yLN) (Xb:yOA) (Q9:Nat) (Xa:Nat),v=.tuple #[.agg #[.slice ra0Alive rn0Alive rc0Alive,.slice ra0Bags rn0Bags rc0Bags,.slice Xb Q9 Xa],yI ((xQ s t counts).2)]∧Fresh w.heap.size [rF0Bags]∧St w w' [rr ra0Alive rn0Alive rc0Alive 4 1 ((((xQ s t counts).1).qC).map (Value.bool)),rr ra0Bags rn0Bags rc0Bags 24 1 rx0Bags,rr Xb Q9 Xa 2 1 ((((xQ s t counts).1).qF).map (Value.int .i64))] [xf true rF0Bags rx0Bags (((xQ s t counts).1).qI)]) w):=by
 refine en func46 ntmps46 ?_
 have H:=((((((St.start w).arg hcounts).arg xO).arg zK).arg zf).arg xF).arg qV
 have vG:=qP qV
 have jM:=qP xF
 have Qh:=qP zf
 have QR:=qP zK
 have yO:=qP xO
 have nhcounts:=qP hcounts
 clear qV xF zf zK xO hcounts
 have N:=Fresh.nil w.heap.size
 have p5:=p0.2.1
 have p6:=p2.1
 have p7:=p1.2.1
 have p8:=kinds_le p0
 have p9:=p0.1.2.1
 have p11:jb s=s.qx.length:=rfl
 have p12:=p1.1
 have p15:=p0.1
 have p16:=p0.1.1
 have p17:=p1.around.1
 refine zcr (sw (yK H (yS s qB qA qL qJ) fun b1 w2 H=>sw (yK H (yT t qX qR xG xA qO qN) fun b3 w4 H=>sw (xq H ti31 [yN,yN,yN] fun b5 w6 H=>sp (yI 0) (zjn (zn ?_))))))
 refine c_cut (fun ρ w11=>∃ (zB:Env) (a7:yOA) (c8:Nat) (rx9:List Value) (rF10:yLN),ρ=upd (upd (upd (upd (upd zB 2 (.slice acounts counts.length ccounts)) 3 (pp b1 0)) 4 (pp b3 0)) 6 (pp b5 0)) 8 (.slice a7 (t.qI.length+1) c8)∧Fresh w.heap.size []∧St w w11 [rr a7 (t.qI.length+1) c8 24 1 (rx9++[.slice qO t.qF.length qN]),.box b5 [yN,yN,yN] 31,.box b3 (yT t qX qR xG xA qO qN) 31,.box b1 (yS s qB qA qL qJ) 27] [xf false (rF10++xN) (rx9++[.slice qO t.qF.length qN]) (t.qI++[t.qF]),sF false xe qB qA s.qx,sF false xI qL qJ s.qw,sF false zg qX qR t.qC,sF false zO xG xA t.qI,sF false xN qO qN t.qF,sF false Fcounts acounts ccounts counts]) ?_ ?_
 ·skip
  refine yF rfl H fun H=>tF 0 rfl rfl H ?_
  refine tL 1 rfl rfl (fun _ h=>h.cell 1 rfl rfl) H ?_
  refine tF 3 rfl rfl H ?_
  refine tL 4 rfl rfl (fun _ h=>h.cell 1 rfl rfl) H ?_
  refine zH [2,5] qh qm (vz rfl ?_ (vz rfl ?_ zI))
  ·skip
   have sz16:=H.base.size
   refine oc (cloneSS_ok _ t.qI (H.get 3 rfl).1 qg) ?_
   rintro _ w14 ⟨ra13,rn13,rc13,rx13,rF13,rfl,hG18,K⟩ _
   replace H:=H.mergeIn K 3 rfl hG18
   obtain rfl:=H.zi (α:=yLI) 0 rfl 0 rfl qj
   refine ⟨H.pick [1,2,3] [1,2,3,4,5,6],(ro 5 rfl (vF H underlying29 ti24 [.slice qO t.qF.length qN] fun b19 w20 H=>⟨H.pick [2,3,4] [1,2,3,4,5,6],(ro 6 rfl (vP H 1 rfl 0 rfl underlying29 ti24 rfl qj rfl rfl rfl (by simp [Value.oneCell',Value.cells]) qp qf fun a21 c22 w23 H=>?_))⟩))⟩
   replace H:=H.Q5 0 rfl 5 rfl
   refine ⟨H.pick [2,3,4] [2,3,4,5,6,7],(rtp 7 (.slice a21 (t.qI.length+1) c22) (H.pick [2,3,4] [2,3,4,5,6,7]) ?_)⟩
   refine qZ qh ((meet ⟨_,a21,c22,rx13,rF13,uE5,N,H.pick [1,2,3,4] [0,2,3,4,5,6,7]⟩))
  refine vF H underlying29 ti24 [.slice qO t.qF.length qN] fun b24 w25 H=>⟨H.pick [1,2,3] [0,1,2,3,4,5],(ro 2 rfl ?_)⟩
  have sz29:=H.base.size
  refine oc (cloneSS_ok _ t.qI (H.get 3 rfl).1 qg) ?_
  rintro _ w27 ⟨ra26,rn26,rc26,rx26,rF26,rfl,hG31,K⟩ _
  replace H:=H.mergeIn K 3 rfl hG31
  obtain rfl:=H.zi (α:=yLI) 0 rfl 0 rfl qj
  refine ⟨H.pick [2,3,4] [1,2,3,4,5,6],(ro 6 rfl (vP H 0 rfl 1 rfl underlying29 ti24 rfl qj rfl rfl rfl (by simp [Value.oneCell',Value.cells]) qp qf fun a32 c33 w34 H=>?_))⟩
  replace H:=H.Q5 0 rfl 5 rfl
  refine ⟨H.pick [2,3,4] [2,3,4,5,6,7],(rtp 7 (.slice a32 (t.qI.length+1) c33) (H.pick [2,3,4] [2,3,4,5,6,7]) ?_)⟩
  refine qZ qh ((meet ⟨_,a32,c33,rx26,rF26,uE5,N,H.pick [0,2,3,4] [0,2,3,4,5,6,7]⟩))
 clear H N
 rintro ρ w35 ⟨zB,a7,c8,rx9,rF10,rfl,N,H⟩
 refine t_n (zcr (oF rfl (oL rfl (H.cell 3 rfl rfl) (oN rfl (sw (o_makeB H underlying28 ti4 s.qx.length rfl rfl qf qf qf fun b36 w37 H=>sp (.slice (aa b36 0) s.qx.length s.qx.length) (zjcc (sp (.slice acounts counts.length ccounts) (oN rfl (sp (yI 0) (zjn (xw ?_))))))))))))
 refine vJ (fun m' ρ w38=>∃ (zB:Env) (i:Nat) (melts:List Bool) (bags:yLL) (x_bags:List Value) (F_bags:yLN),ρ=upd (upd (upd (upd (upd (upd (upd (upd zB 3 (pp b1 0)) 4 (pp b3 0)) 6 (pp b5 0)) 8 (.slice a7 (t.qI.length+1) c8)) 9 (.slice (aa b36 0) s.qx.length s.qx.length)) 26 (.slice acounts counts.length ccounts)) 27 (yI counts.length)) 28 (yI i)∧melts=jZ s counts s.qx.length i∧((i:Int)≤counts.length)∧(Ent (s.qx.length+1) (yV s) (fun p q=>base0 s t p q+allS s t counts i p q) (20000000+6000000 * i) bags)∧(bags.length=s.qx.length+1)∧m' =(counts.length - (i:Int)).toNat∧Fresh w.heap.size []∧St w w38 [rr (aa b36 0) s.qx.length s.qx.length 4 1 (melts.map (Value.bool)),rr a7 (t.qI.length+1) c8 24 1 x_bags,.box b5 [yN,yN,yN] 31,.box b3 (yT t qX qR xG xA qO qN) 31,.box b1 (yS s qB qA qL qJ) 27] [xf false F_bags x_bags bags,sF false xe qB qA s.qx,sF false xI qL qJ s.qw,sF false zg qX qR t.qC,sF false zO xG xA t.qI,sF false xN qO qN t.qF,sF false Fcounts acounts ccounts counts]) ((counts.length - (0:Int)).toNat) ⟨_,0,(List.replicate s.qx.length (false)),(t.qI++[t.qF]),rx9++[.slice qO t.qF.length qN],(rF10++xN),uE8,(by exact meltsL_zero s counts _),qf,(by exact (start_ent p1).to (fun _ _=>rfl) qf),(by simp;omega),rfl,N,H⟩ ?_
 clear H N
 rintro m' ρ w39 ⟨zB,i,melts,bags,x_bags,F_bags,rfl,rfl,i0,E_bags,z_bags,rfl,N,H⟩
 have hn_melts:=H.Q7 0 rfl
 have hn_bags:=H.zi (α:=yLI) 1 rfl 0 rfl qj
 refine zcr (sp (.bool (decide ((i:Int) < counts.length))) (zjn (zn (cD rfl (fun h40=>?_) (fun h40=>?_)))))
 ·skip
  have q:=p0.rule (i:=i) qf
  have qc:=q.1
  have qk:=q.cell
  have qr:=q.2.1
  have bn1:=q.2.2.2.2.1
  have bn2:=q.2.2.2.2.2.2.2.1
  have bn3:=q.2.2.2.2.2.2.2.2.1
  have ln1:=bn1.len
  have ln2:=bn2.len
  have ln3:=bn3.len
  have p10:=p2.bd (i:=i) qf
  have qn:=q.2.2.2.1
  have ml:=meltsL_len s counts s.qx.length i
  refine xx (t_n (zn (xw (zcr (sp (yI i) ?_)))))
  obtain ⟨b41,o42,rfl⟩:=H.addr 6 rfl qf
  refine oI rfl rfl (oL rfl (H.yE 6 rfl i qf qf) (sps [yI i,yI (counts[i]!)] (zjc (oF rfl (oL rfl (H.cell 4 rfl rfl) (sp (yI i) ?_))))))
  obtain ⟨b44,o45,rfl⟩:=H.addr 2 rfl qf
  obtain ⟨Xk,Xh,Fe47Need,Xm,Xj,Fe47Have,Xl,Xi,Fe47Lack,QV,QT,Fe47Here,Xd,Xc,Fe47Out,QU,QS,Fe47Into,H⟩:=H.Qo 2 rfl i i qf qf qf
  refine oI rfl rfl (sw (zu [yI ((s.qw[i]!).qE),yI ((s.qw[i]!).vC),.slice Xk (((s.qw[i]!).xy).length) Xh,.slice Xm (((s.qw[i]!).xZ).length) Xj,.slice Xl (((s.qw[i]!).xY).length) Xi,.slice QV (((s.qw[i]!).x9).length) QT,.slice Xd (((s.qw[i]!).ja).length) Xc,.slice QU (((s.qw[i]!).qM).length) QS,.bool ((s.qw[i]!).zW)] isAgg51 sizeOf51 rfl (qH (H.get 6 rfl) 0 9) ?_))
  refine sw (xq H ti51 [yI 0,yI 0,yN,yN,yN,yN,yN,yN,.bool false] fun b48 w49 H=>sw (qQ H 0 [yI ((s.qw[i]!).qE),yI ((s.qw[i]!).vC),.slice Xk (((s.qw[i]!).xy).length) Xh,.slice Xm (((s.qw[i]!).xZ).length) Xj,.slice Xl (((s.qw[i]!).xY).length) Xi,.slice QV (((s.qw[i]!).x9).length) QT,.slice Xd (((s.qw[i]!).ja).length) Xc,.slice QU (((s.qw[i]!).qM).length) QS,.bool ((s.qw[i]!).zW)] sizeOf51 fun w50 H=>?_))
  refine zjn (zn ?_)
  refine yR rfl H [0,1,3,4,5] fun H=>?_
  have S:=H.jR [0,1,3,4,5] [0,1,2,3,4,5,6,7,8,9,10,11,12,13]
  refine rtp 0 (.slice a7 (t.qI.length+1) c8) S ?_
  refine tF 1 rfl rfl S ?_
  refine tL 2 rfl rfl (fun _ h=>h.cell 0 rfl rfl) S ?_
  refine rtp 3 (.slice a7 (t.qI.length+1) c8) S ?_
  refine tF 4 rfl rfl S ?_
  refine tL 5 rfl rfl (fun _ h=>h.cell 0 rfl rfl) S ?_
  obtain ⟨b52,rfl⟩:=H.QP 2 rfl qf
  have S:=H.jR [0,1,3,4,5] [0,1,2,3,4,5,6,7,8,9,10,11,12,13]
  refine tI 6 rfl rfl rfl S ?_
  refine tF 8 rfl rfl S ?_
  refine tL 9 rfl rfl (fun _ h=>h.cell 0 rfl rfl) S ?_
  refine rtp 10 (yI (counts[i]!)) S ?_
  refine rt 11 (yI (-(counts[i]!))) (y_neg (counts[i]!) rfl qf) S ?_
  refine ro 7 rfl ?_
  obtain ⟨a53,c54,G55,s56,h57,H⟩:=H.jD 2 rfl 7 rfl (iv:=(s.qw[i]!).qE) (((s.qw[i]!).qE).toNat) qf qf
  refine zh (.slice a53 ((bags[((s.qw[i]!).qE).toNat]!).length) c54) isAgg24 rfl (h57) (⟨H.pick [0,1,3,4,5] [1,2,3,4,5,6,7,8,9,10,11,12,13,14],(ro 12 rfl ?_)⟩)
  obtain ⟨u1,u2⟩:=E_bags.sh.row (c:=((s.qw[i]!).qE).toNat) qf p8 qf
  have u4:=(by first | exact bn1.jX qf | exact bn2.jX qf | exact bn3.jX qf | exact bn4.jX qf:SmallT ((s.qw[i]!).xy) (-(counts[i]!)))
  have sz58:=H.base.size
  refine oc (plus_ok _ (bags[((s.qw[i]!).qE).toNat]!) ((s.qw[i]!).xy) (-(counts[i]!)) (H.get 0 rfl).1 (H.get 1 rfl).1 qg qg qg) ?_
  rintro v63 w61 r63 x62
  replace H:=H.zq x62 r63
  obtain ⟨a64,c65,rfl,hc66,hm67⟩:=H.jO 0 rfl
  refine ⟨H.pick [1,2,4,5,6] [1,2,3,4,5,6,7,8,9,10,11,12,13,14],(tI 13 rfl rfl rfl (H.pick [1,2,4,5,6] [1,2,3,4,5,6,7,8,9,10,11,12,13,14]) ?_)⟩
  refine ro 14 rfl ?_
  obtain ⟨G69,N,hn70,H⟩:=H.zT 0 rfl N (H.yG [])
  refine jm false H 3 rfl 9 rfl (.slice a64 ((jW (bags[((s.qw[i]!).qE).toNat]!) ((s.qw[i]!).xy) (-(counts[i]!))).length) c65) 0 rfl rfl sizeOf24 rfl rfl (i:=(((s.qw[i]!).qE).toNat)) qf qf qm fun w68 xs71 F72 hs73 H=>⟨H.pick [1,2,4,5,6] [3,4,5,6,7,8,9,10,11,12,13,14,15,16],(qZ qh (t_n (zcr (sw (zu [yI s.xn,.slice qB s.qx.length qA,.slice (aa b44 o45) s.qw.length qJ] isAgg27 sizeOf27 rfl (qH (H.cells 6 rfl) 0 3) ?_)))))⟩
  refine sw (zu (yT t qX qR xG xA qO qN) isAgg31 sizeOf31 rfl (qH (H.cells 5 rfl) 0 3) (sp (.slice (aa b52 0) (t.qI.length+1) c8) ?_))
  refine sw (zu [yI ((s.qw[i]!).qE),yI ((s.qw[i]!).vC),.slice Xk (((s.qw[i]!).xy).length) Xh,.slice Xm (((s.qw[i]!).xZ).length) Xj,.slice Xl (((s.qw[i]!).xY).length) Xi,.slice QV (((s.qw[i]!).x9).length) QT,.slice Xd (((s.qw[i]!).ja).length) Xc,.slice QU (((s.qw[i]!).qM).length) QS,.bool ((s.qw[i]!).zW)] isAgg51 sizeOf51 rfl (qH (H.cells 1 rfl) 0 9) (sp (yI (counts[i]!)) ?_))
  obtain ⟨bg74,e_bg74⟩:∃ z,z=(bags.set (((s.qw[i]!).qE).toNat) (jW (bags[((s.qw[i]!).qE).toNat]!) ((s.qw[i]!).xy) (-(counts[i]!)))):=⟨_,rfl⟩
  rw [← e_bg74] at H
  have E_bg74:=Ent.add (D:=1000000) E_bags e_bg74 qf (by first | exact bn1.mul qf | exact bn2.mul qf | exact bn3.mul qf | exact bn4.mul qf) qf
  have z_bg74:=E_bg74.sh.1
  have E_cur:=E_bg74
  refine sw (Qg #[.agg #[yI s.xn,.slice qB s.qx.length qA,.slice (aa b44 o45) s.qw.length qJ],.agg #[.slice qX t.qC.length qR,.slice xG t.qI.length xA,.slice qO t.qF.length qN],.slice (aa b52 0) (t.qI.length+1) c8,.agg #[yI ((s.qw[i]!).qE),yI ((s.qw[i]!).vC),.slice Xk (((s.qw[i]!).xy).length) Xh,.slice Xm (((s.qw[i]!).xZ).length) Xj,.slice Xl (((s.qw[i]!).xY).length) Xi,.slice QV (((s.qw[i]!).x9).length) QT,.slice Xd (((s.qw[i]!).ja).length) Xc,.slice QU (((s.qw[i]!).qM).length) QS,.bool ((s.qw[i]!).zW)],yI (counts[i]!)] rfl rfl call86 ?_)
  refine en func86 ntmps86 ?_
  refine zcr (sw (yK H [yI s.xn,.slice qB s.qx.length qA,.slice (aa b44 o45) s.qw.length qJ] fun b75 w76 H=>sw (yK H (yT t qX qR xG xA qO qN) fun b77 w78 H=>sw (yK H [.slice (aa b52 0) (t.qI.length+1) c8] fun b79 w80 H=>?_))))
  refine sw (yK H [yI ((s.qw[i]!).qE),yI ((s.qw[i]!).vC),.slice Xk (((s.qw[i]!).xy).length) Xh,.slice Xm (((s.qw[i]!).xZ).length) Xj,.slice Xl (((s.qw[i]!).xY).length) Xi,.slice QV (((s.qw[i]!).x9).length) QT,.slice Xd (((s.qw[i]!).ja).length) Xc,.slice QU (((s.qw[i]!).qM).length) QS,.bool ((s.qw[i]!).zW)] fun b81 w82 H=>sw (yK H [yI (counts[i]!)] fun b83 w84 H=>zjc ?_))
  refine sps [.func (.func 113) #[] #[pp b79 0,pp b83 0],.func (.func 113) #[] #[pp b79 0,pp b83 0]] (zjc (sp (.func (.func 113) #[] #[pp b79 0,pp b83 0]) (oF rfl (oL rfl (H.cell 1 rfl rfl) (oF rfl (oL rfl (H.cell 1 rfl rfl) (sw (Qg #[yI ((s.qw[i]!).qE),.slice QV (((s.qw[i]!).x9).length) QT,pp b79 0,pp b83 0] rfl rfl call113 (en func113 ntmps113 ?_)))))))))
  refine yR rfl H [0,1,2,3,4,5,6,7,9,10,11] fun H=>?_
  have S:=H.jR [0,1,2,3,4,5,6,7,9,10,11] [0,1,2,3,4,5,6,7,8,9,10,11,12,13,14,15,16]
  refine tL 0 rfl rfl (fun _ h=>h.cell 2 rfl rfl) S ?_
  refine rtp 1 (yI ((s.qw[i]!).qE)) S ?_
  refine tL 2 rfl rfl (fun _ h=>h.cell 2 rfl rfl) S ?_
  refine rtp 3 (yI ((s.qw[i]!).qE)) S ?_
  refine tI 4 rfl rfl rfl S ?_
  refine rtp 6 (.slice QV (((s.qw[i]!).x9).length) QT) S ?_
  refine tL 7 rfl rfl (fun _ h=>h.cell 0 rfl rfl) S ?_
  refine ro 5 rfl ?_
  obtain ⟨a86,c87,G88,s89,h90,H⟩:=H.jD 8 rfl 0 rfl (iv:=(s.qw[i]!).qE) (((s.qw[i]!).qE).toNat) qf qf
  refine zh (.slice a86 ((bg74[((s.qw[i]!).qE).toNat]!).length) c87) isAgg24 rfl (h90) (⟨H.pick [0,1,2,3,4,5,6,7,9,10,11] [1,2,3,4,5,6,7,8,9,10,11,12,13,14,15,16,17],(ro 8 rfl ?_)⟩)
  obtain ⟨u1,u2⟩:=E_bg74.sh.row (c:=((s.qw[i]!).qE).toNat) qf p8 qf
  have u4:=(by first | exact bn1.jX qf | exact bn2.jX qf | exact bn3.jX qf | exact bn4.jX qf:SmallT ((s.qw[i]!).x9) (counts[i]!))
  have sz91:=H.base.size
  have lt92:=H.ltN (L:=[G69]) [2]
  refine oc (plus_ok _ (bg74[((s.qw[i]!).qE).toNat]!) ((s.qw[i]!).x9) (counts[i]!) (H.get 0 rfl).1 (H.get 7 rfl).1 qg qg qg) ?_
  rintro v96 w94 r96 x95
  replace H:=H.zq x95 r96
  obtain ⟨a97,c98,rfl,hc99,hm100⟩:=H.jO 0 rfl
  refine ⟨H.pick [1,2,3,4,5,6,7,8,10,11,12] [1,2,3,4,5,6,7,8,9,10,11,12,13,14,15,16,17],(tI 9 rfl rfl rfl (H.pick [1,2,3,4,5,6,7,8,10,11,12] [1,2,3,4,5,6,7,8,9,10,11,12,13,14,15,16,17]) ?_)⟩
  refine ro 10 rfl ?_
  obtain ⟨G102,N,hn103,H⟩:=H.zT 0 rfl N (H.yG [2])
  refine jm false H 9 rfl 2 rfl (.slice a97 ((jW (bg74[((s.qw[i]!).qE).toNat]!) ((s.qw[i]!).x9) (counts[i]!)).length) c98) 0 rfl rfl sizeOf24 rfl rfl (i:=(((s.qw[i]!).qE).toNat)) qf qf qm fun w101 xs104 F105 hs106 H=>⟨H.pick [1,2,3,4,5,6,7,8,10,11,12] [3,4,5,6,7,8,9,10,11,12,13,14,15,16,17,18,19],(qZ qh ((ret0 rfl ⟨_,rfl,?_⟩)))⟩
  replace H:=H.erases [6,0]
  dsimp only [Qj,List.eraseIdx] at H
  obtain ⟨bg107,e_bg107⟩:∃ z,z=(bg74.set (((s.qw[i]!).qE).toNat) (jW (bg74[((s.qw[i]!).qE).toNat]!) ((s.qw[i]!).x9) (counts[i]!))):=⟨_,rfl⟩
  rw [← e_bg107] at H
  have E_bg107:=Ent.add (D:=1000000) E_bg74 e_bg107 qf (by first | exact bn1.mul qf | exact bn2.mul qf | exact bn3.mul qf | exact bn4.mul qf) qf
  have z_bg107:=E_bg107.sh.1
  have E_cur:=E_bg107
  refine zjcc (sw (zu [yI s.xn,.slice qB s.qx.length qA,.slice (aa b44 o45) s.qw.length qJ] isAgg27 sizeOf27 rfl (qH (H.cells 4 rfl) 0 3) (sw (zu (yT t qX qR xG xA qO qN) isAgg31 sizeOf31 rfl (qH (H.cells 3 rfl) 0 3) (oF rfl (oL rfl (H.cell 1 rfl rfl) ?_))))))
  have qc' :=qc
  refine sw (oq (parentNow_ok _ s t ((s.qw[i]!).qE) (H.get 14 rfl).1 (H.get 15 rfl).1 (H.get 16 rfl).1 (H.get 17 rfl).1 (H.get 18 rfl).1 qg qg qg) H fun w109 H=>?_)
  have pl:=parentNow_lt p15 p1.2.2.1 qc
  refine sp (yI (xg s t ((s.qw[i]!).qE))) (zjc (sps [yI (xg s t ((s.qw[i]!).qE)),.bool (decide ((xg s t ((s.qw[i]!).qE):Int)≥0))] (zjn (cD rfl (fun h111=>?_) (fun h111=>?_)))))
  ·skip
   have po:=outPl_in (r:=s.qw[i]!) p15 ‹_›
   refine zk (sps [.func (.func 113) #[] #[pp b79 0,pp b83 0],yI (xg s t ((s.qw[i]!).qE))] (oF rfl (oL rfl (H.cell 1 rfl rfl) (sw (Qg #[yI (xg s t ((s.qw[i]!).qE)),.slice Xd (((s.qw[i]!).ja).length) Xc,pp b79 0,pp b83 0] rfl rfl call113 (en func113 ntmps113 ?_))))))
   refine yR rfl H [0,1,2,3,4,5,6,8,9,10] fun H=>?_
   have S:=H.jR [0,1,2,3,4,5,6,8,9,10] [0,1,2,3,4,5,6,7,8,9,10,11,12,13,14,15,16,17,18,19]
   refine tL 0 rfl rfl (fun _ h=>h.cell 2 rfl rfl) S ?_
   refine rtp 1 (yI (xg s t ((s.qw[i]!).qE))) S ?_
   refine tL 2 rfl rfl (fun _ h=>h.cell 2 rfl rfl) S ?_
   refine rtp 3 (yI (xg s t ((s.qw[i]!).qE))) S ?_
   refine tI 4 rfl rfl rfl S ?_
   refine rtp 6 (.slice Xd (((s.qw[i]!).ja).length) Xc) S ?_
   refine tL 7 rfl rfl (fun _ h=>h.cell 0 rfl rfl) S ?_
   refine ro 5 rfl ?_
   obtain ⟨a113,c114,G115,s116,h117,H⟩:=H.jD 7 rfl 0 rfl (iv:=xg s t ((s.qw[i]!).qE)) ((xg s t ((s.qw[i]!).qE)).toNat) qf qf
   refine zh (.slice a113 ((bg107[(xg s t ((s.qw[i]!).qE)).toNat]!).length) c114) isAgg24 rfl (h117) (⟨H.pick [0,1,2,3,4,5,6,8,9,10] [1,2,3,4,5,6,7,8,9,10,11,12,13,14,15,16,17,18,19,20],(ro 8 rfl ?_)⟩)
   obtain ⟨u1,u2⟩:=E_bg107.sh.row (c:=(xg s t ((s.qw[i]!).qE)).toNat) qf p8 qf
   have u4:=(by first | exact bn1.jX qf | exact bn2.jX qf | exact bn3.jX qf | exact bn4.jX qf:SmallT ((s.qw[i]!).ja) (counts[i]!))
   have sz118:=H.base.size
   have lt119:=H.ltN (L:=[G102,G69]) [2,5]
   refine oc (plus_ok _ (bg107[(xg s t ((s.qw[i]!).qE)).toNat]!) ((s.qw[i]!).ja) (counts[i]!) (H.get 0 rfl).1 (H.get 11 rfl).1 qg qg qg) ?_
   rintro v123 w121 r123 x122
   replace H:=H.zq x122 r123
   obtain ⟨a124,c125,rfl,hc126,hm127⟩:=H.jO 0 rfl
   refine ⟨H.pick [1,2,3,4,5,6,7,9,10,11] [1,2,3,4,5,6,7,8,9,10,11,12,13,14,15,16,17,18,19,20],(tI 9 rfl rfl rfl (H.pick [1,2,3,4,5,6,7,9,10,11] [1,2,3,4,5,6,7,8,9,10,11,12,13,14,15,16,17,18,19,20]) ?_)⟩
   refine ro 10 rfl ?_
   obtain ⟨G129,N,hn130,H⟩:=H.zT 0 rfl N (H.yG [2,5])
   refine jm false H 8 rfl 2 rfl (.slice a124 ((jW (bg107[(xg s t ((s.qw[i]!).qE)).toNat]!) ((s.qw[i]!).ja) (counts[i]!)).length) c125) 0 rfl rfl sizeOf24 rfl rfl (i:=((xg s t ((s.qw[i]!).qE)).toNat)) qf qf qm fun w128 xs131 F132 hs133 H=>⟨H.pick [1,2,3,4,5,6,7,9,10,11] [3,4,5,6,7,8,9,10,11,12,13,14,15,16,17,18,19,20,21,22],(qZ qh ((ret0 rfl ⟨_,rfl,?_⟩)))⟩
   replace H:=H.erases [0]
   dsimp only [Qj,List.eraseIdx] at H
   obtain ⟨bg134,e_bg134⟩:∃ z,z=(bg107.set ((xg s t ((s.qw[i]!).qE)).toNat) (jW (bg107[(xg s t ((s.qw[i]!).qE)).toNat]!) ((s.qw[i]!).ja) (counts[i]!))):=⟨_,rfl⟩
   rw [← e_bg134] at H
   have E_bg134:=Ent.add (D:=1000000) E_bg107 e_bg134 qf (by first | exact bn1.mul qf | exact bn2.mul qf | exact bn3.mul qf | exact bn4.mul qf) qf
   have z_bg134:=E_bg134.sh.1
   have E_cur:=E_bg134
   refine zjc (oF rfl (oL rfl (H.cell 1 rfl rfl) (oN rfl (sp (yI 0) (zjn (xw ?_))))))
   refine vJ (fun m' ρ w135=>∃ (zB:Env) (k:Nat) (bags_1:yLL) (Xe:List Value) (F_bags_1:yLN),ρ=upd (upd (upd (upd zB 10 (.func (.func 113) #[] #[pp b79 0,pp b83 0])) 40 (.slice QU (((s.qw[i]!).qM).length) QS)) 41 (yI (((s.qw[i]!).qM).length))) 42 (yI k)∧((k:Int)≤(((s.qw[i]!).qM).length))∧(Ent (s.qx.length+1) (yV s) (fun p q=>base0 s t p q+allS s t counts i p q+at' p (s.qw[i]!).qE.toNat (-(counts[i]!) * ((s.qw[i]!).xy)[q]!)+at' p (s.qw[i]!).qE.toNat ((counts[i]!) * ((s.qw[i]!).x9)[q]!)+at' p (outPl s t (s.qw[i]!)) ((counts[i]!) * ((s.qw[i]!).ja)[q]!)+intoF (s.qw[i]!) (counts[i]!) k p q) (23000000+6000000 * i+1000000 * k) bags_1)∧(bags_1.length=s.qx.length+1)∧m' =((((s.qw[i]!).qM).length) - (k:Int)).toNat∧Fresh w.heap.size [G69]∧St w w135 [.box b83 [yI (counts[i]!)] 2,.box b81 [yI ((s.qw[i]!).qE),yI ((s.qw[i]!).vC),.slice Xk (((s.qw[i]!).xy).length) Xh,.slice Xm (((s.qw[i]!).xZ).length) Xj,.slice Xl (((s.qw[i]!).xY).length) Xi,.slice QV (((s.qw[i]!).x9).length) QT,.slice Xd (((s.qw[i]!).ja).length) Xc,.slice QU (((s.qw[i]!).qM).length) QS,.bool ((s.qw[i]!).zW)] 51,.box b79 [.slice (aa b52 0) (t.qI.length+1) c8] 29,.box b77 (yT t qX qR xG xA qO qN) 31,.box b75 [yI s.xn,.slice qB s.qx.length qA,.slice (aa b44 o45) s.qw.length qJ] 27,.box b48 [yI ((s.qw[i]!).qE),yI ((s.qw[i]!).vC),.slice Xk (((s.qw[i]!).xy).length) Xh,.slice Xm (((s.qw[i]!).xZ).length) Xj,.slice Xl (((s.qw[i]!).xY).length) Xi,.slice QV (((s.qw[i]!).x9).length) QT,.slice Xd (((s.qw[i]!).ja).length) Xc,.slice QU (((s.qw[i]!).qM).length) QS,.bool ((s.qw[i]!).zW)] 51,rr (aa b36 0) s.qx.length s.qx.length 4 1 ((jZ s counts s.qx.length i).map (Value.bool)),rr (aa b52 0) (t.qI.length+1) c8 24 1 Xe,.box b5 [yN,yN,yN] 31,.box b3 (yT t qX qR xG xA qO qN) 31,.box b1 [yI s.xn,.slice qB s.qx.length qA,.slice (aa b44 o45) s.qw.length qJ] 27] [xf false F_bags_1 Xe bags_1,sF true G69 a64 c65 (jW (bags[((s.qw[i]!).qE).toNat]!) ((s.qw[i]!).xy) (-(counts[i]!))),sF false G55 a53 c54 (bags[((s.qw[i]!).qE).toNat]!),sF false Fe47Need Xk Xh ((s.qw[i]!).xy),sF false Fe47Have Xm Xj ((s.qw[i]!).xZ),sF false Fe47Lack Xl Xi ((s.qw[i]!).xY),sF false Fe47Here QV QT ((s.qw[i]!).x9),sF false Fe47Out Xd Xc ((s.qw[i]!).ja),sF false Fe47Into QU QS ((s.qw[i]!).qM),atF b44 (o45+(i:Int).toNat * 9) [yI ((s.qw[i]!).qE),yI ((s.qw[i]!).vC),.slice Xk (((s.qw[i]!).xy).length) Xh,.slice Xm (((s.qw[i]!).xZ).length) Xj,.slice Xl (((s.qw[i]!).xY).length) Xi,.slice QV (((s.qw[i]!).x9).length) QT,.slice Xd (((s.qw[i]!).ja).length) Xc,.slice QU (((s.qw[i]!).qM).length) QS,.bool ((s.qw[i]!).zW)],sF false xe qB qA s.qx,sF false xI (aa b44 o45) qJ s.qw,sF false zg qX qR t.qC,sF false zO xG xA t.qI,sF false xN qO qN t.qF,sF false Fcounts (aa b41 o42) ccounts counts]) (((((s.qw[i]!).qM).length) - (0:Int)).toNat) ⟨_,0,bg134,xs131,F132,uE4,qf,(by exact E_cur.to (fun p q=>by rw [po];simp only [intoF];first | omega | (simp only [Int.toNat_natCast];omega)) qf),qf,rfl,(N.pick [2]),H.pick [0,1,2,3,4,5,6,7,8,9,10] [0,7,8,9,10,11,12,13,14,15,17,18,19,20,21,22]⟩ ?_
   clear H N
   rintro m' ρ w136 ⟨zB,k,bags_1,Xe,F_bags_1,rfl,i0,E_bags_1,z_bags_1,rfl,N,H⟩
   have hn_bags:=H.zi (α:=yLI) 7 rfl 0 rfl qj
   refine zcr (sp (.bool (decide ((k:Int) < (((s.qw[i]!).qM).length)))) (zjn (zn (cD rfl (fun h137=>?_) (fun h137=>?_)))))
   ·skip
    have qi:=q.2.2.2.2.2.2.2.2.2.2 k qf
    have qi1:=qi.1
    have bn4:=qi.2.2.1
    have ln4:=bn4.len
    refine xx (t_n (zn (xw (zcr ?_))))
    obtain ⟨b138,o139,rfl⟩:=H.addr 8 rfl qf
    obtain ⟨ae141Bag,ce141Bag,Fe141Bag,H⟩:=H.yX 8 rfl k k qf qf qf
    refine oI rfl rfl (sw (zu [yI ((((s.qw[i]!).qM)[k]!).qE),.slice ae141Bag (((((s.qw[i]!).qM)[k]!).Qz).length) ce141Bag] isAgg121 sizeOf121 rfl (qH (H.get 1 rfl) 0 2) (sw (xq H ti121 [yI 0,yN] fun b142 w143 H=>sw (qQ H 0 [yI ((((s.qw[i]!).qM)[k]!).qE),.slice ae141Bag (((((s.qw[i]!).qM)[k]!).Qz).length) ce141Bag] sizeOf121 fun w144 H=>zjn (zk (sp (.func (.func 113) #[] #[pp b79 0,pp b83 0]) (oF rfl (oL rfl (H.cell 0 rfl rfl) (oF rfl (oL rfl (H.cell 0 rfl rfl) ?_)))))))))))
    refine sw (Qg #[yI ((((s.qw[i]!).qM)[k]!).qE),.slice ae141Bag (((((s.qw[i]!).qM)[k]!).Qz).length) ce141Bag,pp b79 0,pp b83 0] rfl rfl call113 (en func113 ntmps113 ?_))
    refine yR rfl H [0,1,2,3,4,5,6,7,9,10,11] fun H=>?_
    have S:=H.jR [0,1,2,3,4,5,6,7,9,10,11] [0,1,2,3,4,5,6,7,8,9,10,11,12,13,14,15,16,17]
    refine tL 0 rfl rfl (fun _ h=>h.cell 3 rfl rfl) S ?_
    refine rtp 1 (yI ((((s.qw[i]!).qM)[k]!).qE)) S ?_
    refine tL 2 rfl rfl (fun _ h=>h.cell 3 rfl rfl) S ?_
    refine rtp 3 (yI ((((s.qw[i]!).qM)[k]!).qE)) S ?_
    refine tI 4 rfl rfl rfl S ?_
    refine rtp 6 (.slice ae141Bag (((((s.qw[i]!).qM)[k]!).Qz).length) ce141Bag) S ?_
    refine tL 7 rfl rfl (fun _ h=>h.cell 1 rfl rfl) S ?_
    refine ro 5 rfl ?_
    obtain ⟨a146,c147,G148,s149,h150,H⟩:=H.jD 8 rfl 2 rfl (iv:=(((s.qw[i]!).qM)[k]!).qE) (((((s.qw[i]!).qM)[k]!).qE).toNat) qf qf
    refine zh (.slice a146 ((bags_1[((((s.qw[i]!).qM)[k]!).qE).toNat]!).length) c147) isAgg24 rfl (h150) (⟨H.pick [0,1,2,3,4,5,6,7,9,10,11] [1,2,3,4,5,6,7,8,9,10,11,12,13,14,15,16,17,18],(ro 8 rfl ?_)⟩)
    obtain ⟨u1,u2⟩:=E_bags_1.sh.row (c:=((((s.qw[i]!).qM)[k]!).qE).toNat) qf p8 qf
    have u4:=(by first | exact bn1.jX qf | exact bn2.jX qf | exact bn3.jX qf | exact bn4.jX qf:SmallT ((((s.qw[i]!).qM)[k]!).Qz) (counts[i]!))
    have sz151:=H.base.size
    have lt152:=H.ltN (L:=[G69]) [4]
    refine oc (plus_ok _ (bags_1[((((s.qw[i]!).qM)[k]!).qE).toNat]!) ((((s.qw[i]!).qM)[k]!).Qz) (counts[i]!) (H.get 0 rfl).1 (H.get 1 rfl).1 qg qg qg) ?_
    rintro v156 w154 r156 x155
    replace H:=H.zq x155 r156
    obtain ⟨a157,c158,rfl,hc159,hm160⟩:=H.jO 0 rfl
    refine ⟨H.pick [1,2,3,4,5,6,7,8,10,11,12] [1,2,3,4,5,6,7,8,9,10,11,12,13,14,15,16,17,18],(tI 9 rfl rfl rfl (H.pick [1,2,3,4,5,6,7,8,10,11,12] [1,2,3,4,5,6,7,8,9,10,11,12,13,14,15,16,17,18]) ?_)⟩
    refine ro 10 rfl ?_
    obtain ⟨G162,N,hn163,H⟩:=H.zT 0 rfl N (H.yG [4])
    refine jm false H 9 rfl 4 rfl (.slice a157 ((jW (bags_1[((((s.qw[i]!).qM)[k]!).qE).toNat]!) ((((s.qw[i]!).qM)[k]!).Qz) (counts[i]!)).length) c158) 0 rfl rfl sizeOf24 rfl rfl (i:=(((((s.qw[i]!).qM)[k]!).qE).toNat)) qf qf qm fun w161 xs164 F165 hs166 H=>⟨H.pick [1,2,3,4,5,6,7,8,10,11,12] [3,4,5,6,7,8,9,10,11,12,13,14,15,16,17,18,19,20],(qZ qh ((ret0 rfl ⟨_,rfl,?_⟩)))⟩
    replace H:=H.erases [0]
    dsimp only [Qj,List.eraseIdx] at H
    obtain ⟨bg167,e_bg167⟩:∃ z,z=(bags_1.set (((((s.qw[i]!).qM)[k]!).qE).toNat) (jW (bags_1[((((s.qw[i]!).qM)[k]!).qE).toNat]!) ((((s.qw[i]!).qM)[k]!).Qz) (counts[i]!))):=⟨_,rfl⟩
    rw [← e_bg167] at H
    have E_bg167:=Ent.add (D:=1000000) E_bags_1 e_bg167 qf (by first | exact bn1.mul qf | exact bn2.mul qf | exact bn3.mul qf | exact bn4.mul qf) qf
    have z_bg167:=E_bg167.sh.1
    have E_cur:=E_bg167
    refine zt (b_n (t_n (zk (sw (zX k 1 rfl rfl qf (sp (yI (k+1)) (zt (xu (m' :=((((s.qw[i]!).qM).length) - ((k+1):Int)).toNat) qf ⟨_,k+1,bg167,xs164,F165,uE4,?_,?_,?_,rfl,(N.pick [1]),H.pick [1,2,3,4,5,6,7,8,9,10,11] [0,6,7,8,9,10,11,12,13,14,15,16,17,18,19,20]⟩))))))))
    · omega
    · exact E_cur.to (fun p q=>by simp only [intoF];omega) qf
    · omega
   refine c_exit (t_x (t_x (b_x (ret0 rfl ⟨_,rfl,?_⟩))))
   replace H:=H.erases [4,3,2,1,0]
   dsimp only [Qj,List.eraseIdx] at H
   refine zjn ?_
   refine yR rfl H [0,2,3,4,5] fun H=>?_
   have S:=H.jR [0,2,3,4,5] [0,1,2,3,4,5,6,7,8,9,10,11,12,13,14,15]
   refine rtp 0 (.slice (aa b36 0) s.qx.length s.qx.length) S ?_
   refine tF 1 rfl rfl S ?_
   refine tL 2 rfl rfl (fun _ h=>h.cell 0 rfl rfl) S ?_
   refine rtp 3 (.slice (aa b36 0) s.qx.length s.qx.length) S ?_
   refine tF 4 rfl rfl S ?_
   refine tL 5 rfl rfl (fun _ h=>h.cell 0 rfl rfl) S ?_
   refine tI 6 rfl rfl rfl S ?_
   refine ro 7 rfl (zh (.bool ((jZ s counts s.qx.length i)[((s.qw[i]!).qE).toNat]!)) isAgg4 rfl (H.rowBool 1 rfl (iv:=(s.qw[i]!).qE) (i:=(((s.qw[i]!).qE).toNat)) qf qf) (⟨H.pick [0,2,3,4,5] [0,1,2,3,4,5,6,7,8,9,10,11,12,13,14,15],(rtp 8 (.bool ((jZ s counts s.qx.length i)[((s.qw[i]!).qE).toNat]!)) (H.pick [0,2,3,4,5] [0,1,2,3,4,5,6,7,8,9,10,11,12,13,14,15]) ?_)⟩))
   cases h169:((jZ s counts s.qx.length i)[((s.qw[i]!).qE).toNat]!)
   ·skip
    have S:=H.jR [0,2,3,4,5] [0,1,2,3,4,5,6,7,8,9,10,11,12,13,14,15]
    refine rgp 9 (yI (counts[i]!)) 66 S ?_
    refine rgp 10 (.bool (decide ((counts[i]! :Int) > 0))) 66 S ?_
    refine rgp 11 (.bool (decide ((counts[i]! :Int) > 0))) 66 S ?_
    cases h170:(decide ((counts[i]! :Int) > 0))
    ·skip
     replace h170:=of_decide_eq_false h170
     refine zC [12,13] 2 (H.pick [0,2,3,4,5] [0,1,2,3,4,5,6,7,8,9,10,11,12,13,14,15]) ?_
     have S:=H.jR [0,2,3,4,5] [0,1,2,3,4,5,6,7,8,9,10,11,12,13,14,15]
     refine rgp 14 (.bool false) 66 S ?_
     refine rtp 15 (.bool false) S ?_
     refine tI 16 rfl rfl rfl S ?_
     refine ro 17 rfl (Qp H 1 rfl false sizeOf4 rfl rfl (i:=(((s.qw[i]!).qE).toNat)) qf qf fun w171 H=>⟨H.pick [0,2,3,4,5] [0,1,2,3,4,5,6,7,8,9,10,11,12,13,14,15],(qZ qh (b_n (t_n (zk (sw (zX i 1 rfl rfl qf (sp (yI (i+1)) (zt (xu (m' :=(counts.length - ((i+1):Int)).toNat) qf ⟨_,i+1,((jZ s counts s.qx.length i).set (((s.qw[i]!).qE).toNat) false),bags_1,Xe,F_bags_1,uE8,?_,?_,?_,?_,rfl,(N.pick []),H.pick [1,2,3,4,5] [0,10,11,12,13,14,15]⟩)))))))))⟩)
     · first | exact meltsL_1 qf qf ‹_› | exact meltsL_2 qf qf ‹_› qf | exact meltsL_3 qf qf ‹_› qf
     · omega
     · exact E_bags_1.to (fun p q=>by rw [show k=((s.qw[i]!).qM).length by omega];simp only [allS,needF,putF];omega) qf
     · omega
    replace h170:=of_decide_eq_true h170
    have S:=H.jR [0,2,3,4,5] [0,1,2,3,4,5,6,7,8,9,10,11,12,13,14,15]
    refine gF 12 rfl rfl S ?_
    refine gL 13 rfl rfl (fun _ h=>h.cell 0 rfl rfl) S ?_
    refine rgp 14 (.bool ((s.qw[i]!).zW)) 66 S ?_
    refine rtp 15 (.bool ((s.qw[i]!).zW)) S ?_
    refine tI 16 rfl rfl rfl S ?_
    refine ro 17 rfl (Qp H 1 rfl ((s.qw[i]!).zW) sizeOf4 rfl rfl (i:=(((s.qw[i]!).qE).toNat)) qf qf fun w172 H=>⟨H.pick [0,2,3,4,5] [0,1,2,3,4,5,6,7,8,9,10,11,12,13,14,15],(qZ qh (b_n (t_n (zk (sw (zX i 1 rfl rfl qf (sp (yI (i+1)) (zt (xu (m' :=(counts.length - ((i+1):Int)).toNat) qf ⟨_,i+1,((jZ s counts s.qx.length i).set (((s.qw[i]!).qE).toNat) ((s.qw[i]!).zW)),bags_1,Xe,F_bags_1,uE8,?_,?_,?_,?_,rfl,(N.pick []),H.pick [1,2,3,4,5] [0,10,11,12,13,14,15]⟩)))))))))⟩)
    · first | exact meltsL_1 qf qf ‹_› | exact meltsL_2 qf qf ‹_› qf | exact meltsL_3 qf qf ‹_› qf
    · omega
    · exact E_bags_1.to (fun p q=>by rw [show k=((s.qw[i]!).qM).length by omega];simp only [allS,needF,putF];omega) qf
    · omega
   refine zC [9,10,11,12,13,14] 6 (H.pick [0,2,3,4,5] [0,1,2,3,4,5,6,7,8,9,10,11,12,13,14,15]) ?_
   have S:=H.jR [0,2,3,4,5] [0,1,2,3,4,5,6,7,8,9,10,11,12,13,14,15]
   refine rtp 15 (.bool true) S ?_
   refine tI 16 rfl rfl rfl S ?_
   refine ro 17 rfl (Qp H 1 rfl true sizeOf4 rfl rfl (i:=(((s.qw[i]!).qE).toNat)) qf qf fun w173 H=>⟨H.pick [0,2,3,4,5] [0,1,2,3,4,5,6,7,8,9,10,11,12,13,14,15],(qZ qh (b_n (t_n (zk (sw (zX i 1 rfl rfl qf (sp (yI (i+1)) (zt (xu (m' :=(counts.length - ((i+1):Int)).toNat) qf ⟨_,i+1,((jZ s counts s.qx.length i).set (((s.qw[i]!).qE).toNat) true),bags_1,Xe,F_bags_1,uE8,?_,?_,?_,?_,rfl,(N.pick []),H.pick [1,2,3,4,5] [0,10,11,12,13,14,15]⟩)))))))))⟩)
   · first | exact meltsL_1 qf qf ‹_› | exact meltsL_2 qf qf ‹_› qf | exact meltsL_3 qf qf ‹_› qf
   · omega
   · exact E_bags_1.to (fun p q=>by rw [show k=((s.qw[i]!).qM).length by omega];simp only [allS,needF,putF];omega) qf
   · omega
  have po:=outPl_out (r:=s.qw[i]!) p15 p1.2.2.1 qc qf
  refine yR rfl H [0,1,2,3,4,5,6,8,9,10] fun H=>?_
  have S:=H.jR [0,1,2,3,4,5,6,8,9,10] [0,1,2,3,4,5,6,7,8,9,10,11,12,13,14,15,16,17,18,19]
  refine rtp 0 (.func (.func 113) #[] #[pp b79 0,pp b83 0]) S ?_
  refine rt 1 (.agg #[yI s.xn,.slice qB s.qx.length qA,.slice (aa b44 o45) s.qw.length qJ]) (QC (cs:=[yI s.xn,.slice qB s.qx.length qA,.slice (aa b44 o45) s.qw.length qJ]) isAgg27 sizeOf27 rfl (fun _ h=>qH (h.cells 4 rfl) 0 3)) S ?_
  refine tF 3 rfl rfl S ?_
  refine tL 4 rfl rfl (fun _ h=>h.cell 1 rfl rfl) S ?_
  refine ro 2 rfl (oq (around_ok _ s (H.get 14 rfl).1 (H.get 15 rfl).1) H fun w176 H=>⟨H.pick [0,1,2,3,4,5,6,8,9,10] [0,1,2,3,4,5,6,7,8,9,10,11,12,13,14,15,16,17,18,19],(ro 5 rfl (Qg #[yI s.qx.length,.slice Xd (((s.qw[i]!).ja).length) Xc,pp b79 0,pp b83 0] rfl rfl call113 (en func113 ntmps113 ?_)))⟩)
  refine yR rfl H [0,1,2,3,4,5,6,8,9,10] fun H=>?_
  have S:=H.jR [0,1,2,3,4,5,6,8,9,10] [0,1,2,3,4,5,6,7,8,9,10,11,12,13,14,15,16,17,18,19]
  refine tL 0 rfl rfl (fun _ h=>h.cell 2 rfl rfl) S ?_
  refine rtp 1 (yI s.qx.length) S ?_
  refine tL 2 rfl rfl (fun _ h=>h.cell 2 rfl rfl) S ?_
  refine rtp 3 (yI s.qx.length) S ?_
  refine tI 4 rfl rfl rfl S ?_
  refine rtp 6 (.slice Xd (((s.qw[i]!).ja).length) Xc) S ?_
  refine tL 7 rfl rfl (fun _ h=>h.cell 0 rfl rfl) S ?_
  refine ro 5 rfl ?_
  obtain ⟨a179,c180,G181,s182,h183,H⟩:=H.jD 7 rfl 0 rfl (iv:=s.qx.length) s.qx.length qf qf
  refine zh (.slice a179 ((bg107[s.qx.length]!).length) c180) isAgg24 rfl (h183) (⟨H.pick [0,1,2,3,4,5,6,8,9,10] [1,2,3,4,5,6,7,8,9,10,11,12,13,14,15,16,17,18,19,20],(ro 8 rfl ?_)⟩)
  obtain ⟨u1,u2⟩:=E_bg107.sh.row (c:=s.qx.length) qf p8 qf
  have u4:=(by first | exact bn1.jX qf | exact bn2.jX qf | exact bn3.jX qf | exact bn4.jX qf:SmallT ((s.qw[i]!).ja) (counts[i]!))
  have sz184:=H.base.size
  have lt185:=H.ltN (L:=[G102,G69]) [2,5]
  refine oc (plus_ok _ (bg107[s.qx.length]!) ((s.qw[i]!).ja) (counts[i]!) (H.get 0 rfl).1 (H.get 11 rfl).1 qg qg qg) ?_
  rintro v189 w187 r189 x188
  replace H:=H.zq x188 r189
  obtain ⟨a190,c191,rfl,hc192,hm193⟩:=H.jO 0 rfl
  refine ⟨H.pick [1,2,3,4,5,6,7,9,10,11] [1,2,3,4,5,6,7,8,9,10,11,12,13,14,15,16,17,18,19,20],(tI 9 rfl rfl rfl (H.pick [1,2,3,4,5,6,7,9,10,11] [1,2,3,4,5,6,7,8,9,10,11,12,13,14,15,16,17,18,19,20]) ?_)⟩
  refine ro 10 rfl ?_
  obtain ⟨G195,N,hn196,H⟩:=H.zT 0 rfl N (H.yG [2,5])
  refine jm false H 8 rfl 2 rfl (.slice a190 ((jW (bg107[s.qx.length]!) ((s.qw[i]!).ja) (counts[i]!)).length) c191) 0 rfl rfl sizeOf24 rfl rfl (i:=s.qx.length) qf qf qm fun w194 xs197 F198 hs199 H=>⟨H.pick [1,2,3,4,5,6,7,9,10,11] [3,4,5,6,7,8,9,10,11,12,13,14,15,16,17,18,19,20,21,22],(qZ qh ((ret0 rfl ⟨_,rfl,?_⟩)))⟩
  replace H:=H.erases [0]
  dsimp only [Qj,List.eraseIdx] at H
  obtain ⟨bg200,e_bg200⟩:∃ z,z=(bg107.set s.qx.length (jW (bg107[s.qx.length]!) ((s.qw[i]!).ja) (counts[i]!))):=⟨_,rfl⟩
  rw [← e_bg200] at H
  have E_bg200:=Ent.add (D:=1000000) E_bg107 e_bg200 qf (by first | exact bn1.mul qf | exact bn2.mul qf | exact bn3.mul qf | exact bn4.mul qf) qf
  have z_bg200:=E_bg200.sh.1
  have E_cur:=E_bg200
  refine ⟨H.pick [0,1,2,3,4,5,6,8,9,10] [3,4,5,6,7,8,9,10,11,12,13,14,15,16,17,18,19,20,21,22],(qZ qh (t_n (zcr (oF rfl (oL rfl (H.cell 1 rfl rfl) (oN rfl (sp (yI 0) (zjn (xw ?_)))))))))⟩
  refine vJ (fun m' ρ w201=>∃ (zB:Env) (k:Nat) (bags_1:yLL) (Xe:List Value) (F_bags_1:yLN),ρ=upd (upd (upd (upd zB 10 (.func (.func 113) #[] #[pp b79 0,pp b83 0])) 40 (.slice QU (((s.qw[i]!).qM).length) QS)) 41 (yI (((s.qw[i]!).qM).length))) 42 (yI k)∧((k:Int)≤(((s.qw[i]!).qM).length))∧(Ent (s.qx.length+1) (yV s) (fun p q=>base0 s t p q+allS s t counts i p q+at' p (s.qw[i]!).qE.toNat (-(counts[i]!) * ((s.qw[i]!).xy)[q]!)+at' p (s.qw[i]!).qE.toNat ((counts[i]!) * ((s.qw[i]!).x9)[q]!)+at' p (outPl s t (s.qw[i]!)) ((counts[i]!) * ((s.qw[i]!).ja)[q]!)+intoF (s.qw[i]!) (counts[i]!) k p q) (23000000+6000000 * i+1000000 * k) bags_1)∧(bags_1.length=s.qx.length+1)∧m' =((((s.qw[i]!).qM).length) - (k:Int)).toNat∧Fresh w.heap.size [G69]∧St w w201 [.box b83 [yI (counts[i]!)] 2,.box b81 [yI ((s.qw[i]!).qE),yI ((s.qw[i]!).vC),.slice Xk (((s.qw[i]!).xy).length) Xh,.slice Xm (((s.qw[i]!).xZ).length) Xj,.slice Xl (((s.qw[i]!).xY).length) Xi,.slice QV (((s.qw[i]!).x9).length) QT,.slice Xd (((s.qw[i]!).ja).length) Xc,.slice QU (((s.qw[i]!).qM).length) QS,.bool ((s.qw[i]!).zW)] 51,.box b79 [.slice (aa b52 0) (t.qI.length+1) c8] 29,.box b77 (yT t qX qR xG xA qO qN) 31,.box b75 [yI s.xn,.slice qB s.qx.length qA,.slice (aa b44 o45) s.qw.length qJ] 27,.box b48 [yI ((s.qw[i]!).qE),yI ((s.qw[i]!).vC),.slice Xk (((s.qw[i]!).xy).length) Xh,.slice Xm (((s.qw[i]!).xZ).length) Xj,.slice Xl (((s.qw[i]!).xY).length) Xi,.slice QV (((s.qw[i]!).x9).length) QT,.slice Xd (((s.qw[i]!).ja).length) Xc,.slice QU (((s.qw[i]!).qM).length) QS,.bool ((s.qw[i]!).zW)] 51,rr (aa b36 0) s.qx.length s.qx.length 4 1 ((jZ s counts s.qx.length i).map (Value.bool)),rr (aa b52 0) (t.qI.length+1) c8 24 1 Xe,.box b5 [yN,yN,yN] 31,.box b3 (yT t qX qR xG xA qO qN) 31,.box b1 [yI s.xn,.slice qB s.qx.length qA,.slice (aa b44 o45) s.qw.length qJ] 27] [xf false F_bags_1 Xe bags_1,sF true G69 a64 c65 (jW (bags[((s.qw[i]!).qE).toNat]!) ((s.qw[i]!).xy) (-(counts[i]!))),sF false G55 a53 c54 (bags[((s.qw[i]!).qE).toNat]!),sF false Fe47Need Xk Xh ((s.qw[i]!).xy),sF false Fe47Have Xm Xj ((s.qw[i]!).xZ),sF false Fe47Lack Xl Xi ((s.qw[i]!).xY),sF false Fe47Here QV QT ((s.qw[i]!).x9),sF false Fe47Out Xd Xc ((s.qw[i]!).ja),sF false Fe47Into QU QS ((s.qw[i]!).qM),atF b44 (o45+(i:Int).toNat * 9) [yI ((s.qw[i]!).qE),yI ((s.qw[i]!).vC),.slice Xk (((s.qw[i]!).xy).length) Xh,.slice Xm (((s.qw[i]!).xZ).length) Xj,.slice Xl (((s.qw[i]!).xY).length) Xi,.slice QV (((s.qw[i]!).x9).length) QT,.slice Xd (((s.qw[i]!).ja).length) Xc,.slice QU (((s.qw[i]!).qM).length) QS,.bool ((s.qw[i]!).zW)],sF false xe qB qA s.qx,sF false xI (aa b44 o45) qJ s.qw,sF false zg qX qR t.qC,sF false zO xG xA t.qI,sF false xN qO qN t.qF,sF false Fcounts (aa b41 o42) ccounts counts]) (((((s.qw[i]!).qM).length) - (0:Int)).toNat) ⟨_,0,bg200,xs197,F198,uE4,qf,(by exact E_cur.to (fun p q=>by rw [po];simp only [intoF];first | omega | (simp only [Int.toNat_natCast];omega)) qf),qf,rfl,(N.pick [2]),H.pick [0,1,2,3,4,5,6,7,8,9,10] [0,7,8,9,10,11,12,13,14,15,17,18,19,20,21,22]⟩ ?_
  clear H N
  rintro m' ρ w202 ⟨zB,k,bags_1,Xe,F_bags_1,rfl,i0,E_bags_1,z_bags_1,rfl,N,H⟩
  have hn_bags:=H.zi (α:=yLI) 7 rfl 0 rfl qj
  refine zcr (sp (.bool (decide ((k:Int) < (((s.qw[i]!).qM).length)))) (zjn (zn (cD rfl (fun h203=>?_) (fun h203=>?_)))))
  ·skip
   have qi:=q.2.2.2.2.2.2.2.2.2.2 k qf
   have qi1:=qi.1
   have bn4:=qi.2.2.1
   have ln4:=bn4.len
   refine xx (t_n (zn (xw (zcr ?_))))
   obtain ⟨b204,o205,rfl⟩:=H.addr 8 rfl qf
   obtain ⟨ae207Bag,ce207Bag,Fe207Bag,H⟩:=H.yX 8 rfl k k qf qf qf
   refine oI rfl rfl (sw (zu [yI ((((s.qw[i]!).qM)[k]!).qE),.slice ae207Bag (((((s.qw[i]!).qM)[k]!).Qz).length) ce207Bag] isAgg121 sizeOf121 rfl (qH (H.get 1 rfl) 0 2) (sw (xq H ti121 [yI 0,yN] fun b208 w209 H=>sw (qQ H 0 [yI ((((s.qw[i]!).qM)[k]!).qE),.slice ae207Bag (((((s.qw[i]!).qM)[k]!).Qz).length) ce207Bag] sizeOf121 fun w210 H=>zjn (zk (sp (.func (.func 113) #[] #[pp b79 0,pp b83 0]) (oF rfl (oL rfl (H.cell 0 rfl rfl) (oF rfl (oL rfl (H.cell 0 rfl rfl) ?_)))))))))))
   refine sw (Qg #[yI ((((s.qw[i]!).qM)[k]!).qE),.slice ae207Bag (((((s.qw[i]!).qM)[k]!).Qz).length) ce207Bag,pp b79 0,pp b83 0] rfl rfl call113 (en func113 ntmps113 ?_))
   refine yR rfl H [0,1,2,3,4,5,6,7,9,10,11] fun H=>?_
   have S:=H.jR [0,1,2,3,4,5,6,7,9,10,11] [0,1,2,3,4,5,6,7,8,9,10,11,12,13,14,15,16,17]
   refine tL 0 rfl rfl (fun _ h=>h.cell 3 rfl rfl) S ?_
   refine rtp 1 (yI ((((s.qw[i]!).qM)[k]!).qE)) S ?_
   refine tL 2 rfl rfl (fun _ h=>h.cell 3 rfl rfl) S ?_
   refine rtp 3 (yI ((((s.qw[i]!).qM)[k]!).qE)) S ?_
   refine tI 4 rfl rfl rfl S ?_
   refine rtp 6 (.slice ae207Bag (((((s.qw[i]!).qM)[k]!).Qz).length) ce207Bag) S ?_
   refine tL 7 rfl rfl (fun _ h=>h.cell 1 rfl rfl) S ?_
   refine ro 5 rfl ?_
   obtain ⟨a212,c213,G214,s215,h216,H⟩:=H.jD 8 rfl 2 rfl (iv:=(((s.qw[i]!).qM)[k]!).qE) (((((s.qw[i]!).qM)[k]!).qE).toNat) qf qf
   refine zh (.slice a212 ((bags_1[((((s.qw[i]!).qM)[k]!).qE).toNat]!).length) c213) isAgg24 rfl (h216) (⟨H.pick [0,1,2,3,4,5,6,7,9,10,11] [1,2,3,4,5,6,7,8,9,10,11,12,13,14,15,16,17,18],(ro 8 rfl ?_)⟩)
   obtain ⟨u1,u2⟩:=E_bags_1.sh.row (c:=((((s.qw[i]!).qM)[k]!).qE).toNat) qf p8 qf
   have u4:=(by first | exact bn1.jX qf | exact bn2.jX qf | exact bn3.jX qf | exact bn4.jX qf:SmallT ((((s.qw[i]!).qM)[k]!).Qz) (counts[i]!))
   have sz217:=H.base.size
   have lt218:=H.ltN (L:=[G69]) [4]
   refine oc (plus_ok _ (bags_1[((((s.qw[i]!).qM)[k]!).qE).toNat]!) ((((s.qw[i]!).qM)[k]!).Qz) (counts[i]!) (H.get 0 rfl).1 (H.get 1 rfl).1 qg qg qg) ?_
   rintro v222 w220 r222 x221
   replace H:=H.zq x221 r222
   obtain ⟨a223,c224,rfl,hc225,hm226⟩:=H.jO 0 rfl
   refine ⟨H.pick [1,2,3,4,5,6,7,8,10,11,12] [1,2,3,4,5,6,7,8,9,10,11,12,13,14,15,16,17,18],(tI 9 rfl rfl rfl (H.pick [1,2,3,4,5,6,7,8,10,11,12] [1,2,3,4,5,6,7,8,9,10,11,12,13,14,15,16,17,18]) ?_)⟩
   refine ro 10 rfl ?_
   obtain ⟨G228,N,hn229,H⟩:=H.zT 0 rfl N (H.yG [4])
   refine jm false H 9 rfl 4 rfl (.slice a223 ((jW (bags_1[((((s.qw[i]!).qM)[k]!).qE).toNat]!) ((((s.qw[i]!).qM)[k]!).Qz) (counts[i]!)).length) c224) 0 rfl rfl sizeOf24 rfl rfl (i:=(((((s.qw[i]!).qM)[k]!).qE).toNat)) qf qf qm fun w227 xs230 F231 hs232 H=>⟨H.pick [1,2,3,4,5,6,7,8,10,11,12] [3,4,5,6,7,8,9,10,11,12,13,14,15,16,17,18,19,20],(qZ qh ((ret0 rfl ⟨_,rfl,?_⟩)))⟩
   replace H:=H.erases [0]
   dsimp only [Qj,List.eraseIdx] at H
   obtain ⟨bg233,e_bg233⟩:∃ z,z=(bags_1.set (((((s.qw[i]!).qM)[k]!).qE).toNat) (jW (bags_1[((((s.qw[i]!).qM)[k]!).qE).toNat]!) ((((s.qw[i]!).qM)[k]!).Qz) (counts[i]!))):=⟨_,rfl⟩
   rw [← e_bg233] at H
   have E_bg233:=Ent.add (D:=1000000) E_bags_1 e_bg233 qf (by first | exact bn1.mul qf | exact bn2.mul qf | exact bn3.mul qf | exact bn4.mul qf) qf
   have z_bg233:=E_bg233.sh.1
   have E_cur:=E_bg233
   refine zt (b_n (t_n (zk (sw (zX k 1 rfl rfl qf (sp (yI (k+1)) (zt (xu (m' :=((((s.qw[i]!).qM).length) - ((k+1):Int)).toNat) qf ⟨_,k+1,bg233,xs230,F231,uE4,?_,?_,?_,rfl,(N.pick [1]),H.pick [1,2,3,4,5,6,7,8,9,10,11] [0,6,7,8,9,10,11,12,13,14,15,16,17,18,19,20]⟩))))))))
   · omega
   · exact E_cur.to (fun p q=>by simp only [intoF];omega) qf
   · omega
  refine c_exit (t_x (t_x (b_x (ret0 rfl ⟨_,rfl,?_⟩))))
  replace H:=H.erases [4,3,2,1,0]
  dsimp only [Qj,List.eraseIdx] at H
  refine zjn ?_
  refine yR rfl H [0,2,3,4,5] fun H=>?_
  have S:=H.jR [0,2,3,4,5] [0,1,2,3,4,5,6,7,8,9,10,11,12,13,14,15]
  refine rtp 0 (.slice (aa b36 0) s.qx.length s.qx.length) S ?_
  refine tF 1 rfl rfl S ?_
  refine tL 2 rfl rfl (fun _ h=>h.cell 0 rfl rfl) S ?_
  refine rtp 3 (.slice (aa b36 0) s.qx.length s.qx.length) S ?_
  refine tF 4 rfl rfl S ?_
  refine tL 5 rfl rfl (fun _ h=>h.cell 0 rfl rfl) S ?_
  refine tI 6 rfl rfl rfl S ?_
  refine ro 7 rfl (zh (.bool ((jZ s counts s.qx.length i)[((s.qw[i]!).qE).toNat]!)) isAgg4 rfl (H.rowBool 1 rfl (iv:=(s.qw[i]!).qE) (i:=(((s.qw[i]!).qE).toNat)) qf qf) (⟨H.pick [0,2,3,4,5] [0,1,2,3,4,5,6,7,8,9,10,11,12,13,14,15],(rtp 8 (.bool ((jZ s counts s.qx.length i)[((s.qw[i]!).qE).toNat]!)) (H.pick [0,2,3,4,5] [0,1,2,3,4,5,6,7,8,9,10,11,12,13,14,15]) ?_)⟩))
  cases h235:((jZ s counts s.qx.length i)[((s.qw[i]!).qE).toNat]!)
  ·skip
   have S:=H.jR [0,2,3,4,5] [0,1,2,3,4,5,6,7,8,9,10,11,12,13,14,15]
   refine rgp 9 (yI (counts[i]!)) 66 S ?_
   refine rgp 10 (.bool (decide ((counts[i]! :Int) > 0))) 66 S ?_
   refine rgp 11 (.bool (decide ((counts[i]! :Int) > 0))) 66 S ?_
   cases h236:(decide ((counts[i]! :Int) > 0))
   ·skip
    replace h236:=of_decide_eq_false h236
    refine zC [12,13] 2 (H.pick [0,2,3,4,5] [0,1,2,3,4,5,6,7,8,9,10,11,12,13,14,15]) ?_
    have S:=H.jR [0,2,3,4,5] [0,1,2,3,4,5,6,7,8,9,10,11,12,13,14,15]
    refine rgp 14 (.bool false) 66 S ?_
    refine rtp 15 (.bool false) S ?_
    refine tI 16 rfl rfl rfl S ?_
    refine ro 17 rfl (Qp H 1 rfl false sizeOf4 rfl rfl (i:=(((s.qw[i]!).qE).toNat)) qf qf fun w237 H=>⟨H.pick [0,2,3,4,5] [0,1,2,3,4,5,6,7,8,9,10,11,12,13,14,15],(qZ qh (b_n (t_n (zk (sw (zX i 1 rfl rfl qf (sp (yI (i+1)) (zt (xu (m' :=(counts.length - ((i+1):Int)).toNat) qf ⟨_,i+1,((jZ s counts s.qx.length i).set (((s.qw[i]!).qE).toNat) false),bags_1,Xe,F_bags_1,uE8,?_,?_,?_,?_,rfl,(N.pick []),H.pick [1,2,3,4,5] [0,10,11,12,13,14,15]⟩)))))))))⟩)
    · first | exact meltsL_1 qf qf ‹_› | exact meltsL_2 qf qf ‹_› qf | exact meltsL_3 qf qf ‹_› qf
    · omega
    · exact E_bags_1.to (fun p q=>by rw [show k=((s.qw[i]!).qM).length by omega];simp only [allS,needF,putF];omega) qf
    · omega
   replace h236:=of_decide_eq_true h236
   have S:=H.jR [0,2,3,4,5] [0,1,2,3,4,5,6,7,8,9,10,11,12,13,14,15]
   refine gF 12 rfl rfl S ?_
   refine gL 13 rfl rfl (fun _ h=>h.cell 0 rfl rfl) S ?_
   refine rgp 14 (.bool ((s.qw[i]!).zW)) 66 S ?_
   refine rtp 15 (.bool ((s.qw[i]!).zW)) S ?_
   refine tI 16 rfl rfl rfl S ?_
   refine ro 17 rfl (Qp H 1 rfl ((s.qw[i]!).zW) sizeOf4 rfl rfl (i:=(((s.qw[i]!).qE).toNat)) qf qf fun w238 H=>⟨H.pick [0,2,3,4,5] [0,1,2,3,4,5,6,7,8,9,10,11,12,13,14,15],(qZ qh (b_n (t_n (zk (sw (zX i 1 rfl rfl qf (sp (yI (i+1)) (zt (xu (m' :=(counts.length - ((i+1):Int)).toNat) qf ⟨_,i+1,((jZ s counts s.qx.length i).set (((s.qw[i]!).qE).toNat) ((s.qw[i]!).zW)),bags_1,Xe,F_bags_1,uE8,?_,?_,?_,?_,rfl,(N.pick []),H.pick [1,2,3,4,5] [0,10,11,12,13,14,15]⟩)))))))))⟩)
   · first | exact meltsL_1 qf qf ‹_› | exact meltsL_2 qf qf ‹_› qf | exact meltsL_3 qf qf ‹_› qf
   · omega
   · exact E_bags_1.to (fun p q=>by rw [show k=((s.qw[i]!).qM).length by omega];simp only [allS,needF,putF];omega) qf
   · omega
  refine zC [9,10,11,12,13,14] 6 (H.pick [0,2,3,4,5] [0,1,2,3,4,5,6,7,8,9,10,11,12,13,14,15]) ?_
  have S:=H.jR [0,2,3,4,5] [0,1,2,3,4,5,6,7,8,9,10,11,12,13,14,15]
  refine rtp 15 (.bool true) S ?_
  refine tI 16 rfl rfl rfl S ?_
  refine ro 17 rfl (Qp H 1 rfl true sizeOf4 rfl rfl (i:=(((s.qw[i]!).qE).toNat)) qf qf fun w239 H=>⟨H.pick [0,2,3,4,5] [0,1,2,3,4,5,6,7,8,9,10,11,12,13,14,15],(qZ qh (b_n (t_n (zk (sw (zX i 1 rfl rfl qf (sp (yI (i+1)) (zt (xu (m' :=(counts.length - ((i+1):Int)).toNat) qf ⟨_,i+1,((jZ s counts s.qx.length i).set (((s.qw[i]!).qE).toNat) true),bags_1,Xe,F_bags_1,uE8,?_,?_,?_,?_,rfl,(N.pick []),H.pick [1,2,3,4,5] [0,10,11,12,13,14,15]⟩)))))))))⟩)
  · first | exact meltsL_1 qf qf ‹_› | exact meltsL_2 qf qf ‹_› qf | exact meltsL_3 qf qf ‹_› qf
  · omega
  · exact E_bags_1.to (fun p q=>by rw [show k=((s.qw[i]!).qM).length by omega];simp only [allS,needF,putF];omega) qf
  · omega
 refine zx4 (zn ?_)
 obtain ⟨b240,rfl⟩:=H.QP 1 rfl qf
 refine c_cut (fun ρ w250=>∃ (zB:Env) (b241:Nat) (ra242:yOA) (rc243:Nat) (ra244:yOA) (rc245:Nat) (ra246:yOA) (rc247:Nat) (rx248:List Value) (rF249:yLN),ρ=upd (upd (upd (upd zB 3 (pp b1 0)) 6 (pp b5 0)) 9 (.slice (aa b36 0) s.qx.length s.qx.length)) 13 (pp b241 0)∧Fresh w.heap.size [rF249]∧St w w250 [.box b241 [.slice ra242 (((⟨t.qC,(bags.take s.qx.length),bags[s.qx.length]!⟩:qG).qC).length) rc243,.slice ra244 (((⟨t.qC,(bags.take s.qx.length),bags[s.qx.length]!⟩:qG).qI).length) rc245,.slice ra246 (((⟨t.qC,(bags.take s.qx.length),bags[s.qx.length]!⟩:qG).qF).length) rc247] 31,rr ra242 (((⟨t.qC,(bags.take s.qx.length),bags[s.qx.length]!⟩:qG).qC).length) rc243 4 1 (((⟨t.qC,(bags.take s.qx.length),bags[s.qx.length]!⟩:qG).qC).map (Value.bool)),rr ra244 (((⟨t.qC,(bags.take s.qx.length),bags[s.qx.length]!⟩:qG).qI).length) rc245 24 1 rx248,rr ra246 (((⟨t.qC,(bags.take s.qx.length),bags[s.qx.length]!⟩:qG).qF).length) rc247 2 1 (((⟨t.qC,(bags.take s.qx.length),bags[s.qx.length]!⟩:qG).qF).map (Value.int .i64)),rr (aa b36 0) s.qx.length s.qx.length 4 1 ((jZ s counts s.qx.length i).map (Value.bool)),rr none 0 0 0 1 [],.box b5 [yN,yN,yN] 31,.box b3 (yT t qX qR xG xA qO qN) 31,.box b1 (yS s qB qA qL qJ) 27] [xf true rF249 rx248 ((⟨t.qC,(bags.take s.qx.length),bags[s.qx.length]!⟩:qG).qI),sF false xe qB qA s.qx,sF false xI qL qJ s.qw,sF false zg qX qR t.qC,sF false zO xG xA t.qI,sF false xN qO qN t.qF]) ?_ ?_
 ·skip
  refine yR rfl H [0,2,3,4] fun H=>?_
  refine r_have (fun ρ w258=>∃ (zB:Env) (a252:yOA) (c253:Nat) (a254:yOA) (G255:yLN) (G256:yLN),ρ=upd (upd (upd (upd (upd (upd zB 3 (pp b1 0)) 6 (pp b5 0)) 9 (.slice (aa b36 0) s.qx.length s.qx.length)) 77 (.slice qX t.qC.length qR)) 81 (.slice a254 ((bags.take s.qx.length).length) c8)) 86 (.slice a252 ((bags[s.qx.length]!).length) c253)∧Fresh w.heap.size []∧St w w258 [rr (aa b36 0) s.qx.length s.qx.length 4 1 ((jZ s counts s.qx.length i).map (Value.bool)),rr none 0 0 0 1 [],.box b5 [yN,yN,yN] 31,.box b3 (yT t qX qR xG xA qO qN) 31,.box b1 (yS s qB qA qL qJ) 27] [sF false G255 a254 c8 (bags.take s.qx.length),sF false G256 a252 c253 (bags[s.qx.length]!),xf false F_bags x_bags bags,sF false xe qB qA s.qx,sF false xI qL qJ s.qw,sF false zg qX qR t.qC,sF false zO xG xA t.qI,sF false xN qO qN t.qF,sF false Fcounts acounts ccounts counts]) 4 #[true,true,true,true,true,true,true,true,true,true,true,false,false,false,false] ?_ fun L257=>?_
  ·skip
   rintro ρ w259 ⟨zB,a252,c253,a254,G255,G256,rfl,N,H⟩
   refine zH [11,13] qh qm (vz rfl ?_ (vz rfl ?_ zI))
   ·skip
    refine xJ [.slice qX t.qC.length qR,.slice a254 ((bags.take s.qx.length).length) c8,.slice a252 ((bags[s.qx.length]!).length) c253] [(0,.slice qX t.qC.length qR),(1,.slice a254 ((bags.take s.qx.length).length) c8),(2,.slice a252 ((bags[s.qx.length]!).length) c253)] (⟨H.pick [0,2,3,4] [2,3,4,5,6,7,8],(zH [12,13] qh qm (vz rfl ?_ (vz rfl ?_ zI)))⟩)
    ·skip
     obtain ⟨cp0,cp1,cp2,cp3⟩:=copy_pre (al:=t.qC) E_bags p8 p9.2 p12
     have sz263:=H.base.size
     refine oc (Xr _ (⟨t.qC,(bags.take s.qx.length),bags[s.qx.length]!⟩:qG) (H.get 5 rfl).1 (H.get 0 rfl).1 (H.get 1 rfl).1 qg qg qg qg) ?_
     rintro _ w261 ⟨ra260Alive,rn260Alive,rc260Alive,ra260Bags,rn260Bags,rc260Bags,rx260Bags,rF260Bags,ra260Around,rn260Around,rc260Around,rfl,M,K⟩ _
     replace N:=N.merge sz263 qm M
     replace H:=H.merge K M
     obtain rfl:=H.Q7 0 rfl
     obtain rfl:=H.zi (α:=yLI) 1 rfl 0 rfl qj
     obtain rfl:=H.zS 2 rfl
     refine ⟨H.pick [3,5,6,7] [3,4,5,6,7,8,9],(ro 13 rfl (xq H ti31 [yN,yN,yN] fun b268 w269 H=>⟨H.pick [4,6,7,8] [3,4,5,6,7,8,9],(ro 14 rfl (qQ H 0 [.slice ra260Alive (((⟨t.qC,(bags.take s.qx.length),bags[s.qx.length]!⟩:qG).qC).length) rc260Alive,.slice ra260Bags (((⟨t.qC,(bags.take s.qx.length),bags[s.qx.length]!⟩:qG).qI).length) rc260Bags,.slice ra260Around (((⟨t.qC,(bags.take s.qx.length),bags[s.qx.length]!⟩:qG).qF).length) rc260Around] sizeOf31 fun w270 H=>⟨H.pick [4,6,7,8] [3,4,5,6,7,8,9],?_⟩))⟩))⟩
     refine qZ qh ((meet ⟨_,b268,ra260Alive,rc260Alive,ra260Bags,rc260Bags,ra260Around,rc260Around,rx260Bags,rF260Bags,uE4,N,H.pick [0,1,2,3,4,5,6,7,8] [0,4,5,6,7,8]⟩))
    refine xq H ti31 [yN,yN,yN] fun b271 w272 H=>⟨H.pick [1,3,4,5] [2,3,4,5,6,7,8],(ro 12 rfl ?_)⟩
    obtain ⟨cp0,cp1,cp2,cp3⟩:=copy_pre (al:=t.qC) E_bags p8 p9.2 p12
    have sz276:=H.base.size
    refine oc (Xr _ (⟨t.qC,(bags.take s.qx.length),bags[s.qx.length]!⟩:qG) (H.get 5 rfl).1 (H.get 0 rfl).1 (H.get 1 rfl).1 qg qg qg qg) ?_
    rintro _ w274 ⟨ra273Alive,rn273Alive,rc273Alive,ra273Bags,rn273Bags,rc273Bags,rx273Bags,rF273Bags,ra273Around,rn273Around,rc273Around,rfl,M,K⟩ _
    replace N:=N.merge sz276 qm M
    replace H:=H.merge K M
    obtain rfl:=H.Q7 0 rfl
    obtain rfl:=H.zi (α:=yLI) 1 rfl 0 rfl qj
    obtain rfl:=H.zS 2 rfl
    refine ⟨H.pick [4,6,7,8] [3,4,5,6,7,8,9],(ro 14 rfl (qQ H 3 [.slice ra273Alive (((⟨t.qC,(bags.take s.qx.length),bags[s.qx.length]!⟩:qG).qC).length) rc273Alive,.slice ra273Bags (((⟨t.qC,(bags.take s.qx.length),bags[s.qx.length]!⟩:qG).qI).length) rc273Bags,.slice ra273Around (((⟨t.qC,(bags.take s.qx.length),bags[s.qx.length]!⟩:qG).qF).length) rc273Around] sizeOf31 fun w281 H=>⟨H.pick [4,6,7,8] [3,4,5,6,7,8,9],(qZ qh (?_))⟩))⟩
    exact meet ⟨_,b271,ra273Alive,rc273Alive,ra273Bags,rc273Bags,ra273Around,rc273Around,rx273Bags,rF273Bags,uE4,N,H.pick [3,0,1,2,4,5,6,7,8] [0,4,5,6,7,8]⟩
   refine xq H ti31 [yN,yN,yN] fun b282 w283 H=>⟨H.pick [1,3,4,5] [2,3,4,5,6,7,8],(ro 11 rfl (xJ [.slice qX t.qC.length qR,.slice a254 ((bags.take s.qx.length).length) c8,.slice a252 ((bags[s.qx.length]!).length) c253] [(0,.slice qX t.qC.length qR),(1,.slice a254 ((bags.take s.qx.length).length) c8),(2,.slice a252 ((bags[s.qx.length]!).length) c253)] (⟨H.pick [1,3,4,5] [2,3,4,5,6,7,8],(ro 12 rfl ?_)⟩)))⟩
   obtain ⟨cp0,cp1,cp2,cp3⟩:=copy_pre (al:=t.qC) E_bags p8 p9.2 p12
   have sz287:=H.base.size
   refine oc (Xr _ (⟨t.qC,(bags.take s.qx.length),bags[s.qx.length]!⟩:qG) (H.get 5 rfl).1 (H.get 0 rfl).1 (H.get 1 rfl).1 qg qg qg qg) ?_
   rintro _ w285 ⟨ra284Alive,rn284Alive,rc284Alive,ra284Bags,rn284Bags,rc284Bags,rx284Bags,rF284Bags,ra284Around,rn284Around,rc284Around,rfl,M,K⟩ _
   replace N:=N.merge sz287 qm M
   replace H:=H.merge K M
   obtain rfl:=H.Q7 0 rfl
   obtain rfl:=H.zi (α:=yLI) 1 rfl 0 rfl qj
   obtain rfl:=H.zS 2 rfl
   refine ⟨H.pick [4,6,7,8] [3,4,5,6,7,8,9],(ro 14 rfl (qQ H 3 [.slice ra284Alive (((⟨t.qC,(bags.take s.qx.length),bags[s.qx.length]!⟩:qG).qC).length) rc284Alive,.slice ra284Bags (((⟨t.qC,(bags.take s.qx.length),bags[s.qx.length]!⟩:qG).qI).length) rc284Bags,.slice ra284Around (((⟨t.qC,(bags.take s.qx.length),bags[s.qx.length]!⟩:qG).qF).length) rc284Around] sizeOf31 fun w292 H=>⟨H.pick [4,6,7,8] [3,4,5,6,7,8,9],(qZ qh (?_))⟩))⟩
   exact meet ⟨_,b282,ra284Alive,rc284Alive,ra284Bags,rc284Bags,ra284Around,rc284Around,rx284Bags,rF284Bags,uE4,N,H.pick [3,0,1,2,4,5,6,7,8] [0,4,5,6,7,8]⟩
  refine r_have (fun ρ w297=>∃ (zB:Env) (a293:yOA) (G294:yLN) (G295:yLN),ρ=upd (upd (upd (upd (upd (upd zB 3 (pp b1 0)) 6 (pp b5 0)) 9 (.slice (aa b36 0) s.qx.length s.qx.length)) 77 (.slice qX t.qC.length qR)) 81 (.slice a293 ((bags.take s.qx.length).length) c8)) 85 (pp b240 (0+(s.qx.length:Int).toNat * 1))∧Fresh w.heap.size []∧St w w297 [rr (aa b36 0) s.qx.length s.qx.length 4 1 ((jZ s counts s.qx.length i).map (Value.bool)),rr none 0 0 0 1 [],.box b5 [yN,yN,yN] 31,.box b3 (yT t qX qR xG xA qO qN) 31,.box b1 (yS s qB qA qL qJ) 27] [sF false G294 a293 c8 (bags.take s.qx.length),isF false G295 (.slice (aa b240 0) (t.qI.length+1) c8) bags,xf false F_bags x_bags bags,sF false xe qB qA s.qx,sF false xI qL qJ s.qw,sF false zg qX qR t.qC,sF false zO xG xA t.qI,sF false xN qO qN t.qF,sF false Fcounts acounts ccounts counts]) 5 #[true,true,true,true,true,true,true,true,true,true,false,false,false,false,false] ?_ fun L296=>?_
  ·skip
   rintro ρ w298 ⟨zB,a293,G294,G295,rfl,N,H⟩
   refine zH [10,13] qh qm (vz rfl ?_ (vz rfl ?_ zI))
   ·skip
    have hl299:=H.isLen 1 rfl
    obtain ⟨ae300,ce300,Fe300,H⟩:=H.QL 1 rfl s.qx.length s.qx.length qf qf qf
    refine zh (.slice ae300 ((bags[s.qx.length]!).length) ce300) isAgg24 rfl (H.xX 1 rfl 0 rfl) (⟨H.pick [0,2,3,4] [4,5,6,7,8,9,10],(r_use L257 ⟨_,ae300,ce300,a293,G294,Fe300,uE6,N,H.pick [0,1,2,3,4] [2,0,4,5,6,7,8,9,10]⟩)⟩)
   refine xq H ti31 [yN,yN,yN] fun b301 w302 H=>⟨H.pick [1,3,4,5] [2,3,4,5,6,7,8],(ro 10 rfl ?_)⟩
   have hl303:=H.isLen 1 rfl
   obtain ⟨ae304,ce304,Fe304,H⟩:=H.QL 1 rfl s.qx.length s.qx.length qf qf qf
   refine zh (.slice ae304 ((bags[s.qx.length]!).length) ce304) isAgg24 rfl (H.xX 1 rfl 0 rfl) (⟨H.pick [1,3,4,5] [4,5,6,7,8,9,10],(ro 11 rfl (xJ [.slice qX t.qC.length qR,.slice a293 ((bags.take s.qx.length).length) c8,.slice ae304 ((bags[s.qx.length]!).length) ce304] [(0,.slice qX t.qC.length qR),(1,.slice a293 ((bags.take s.qx.length).length) c8),(2,.slice ae304 ((bags[s.qx.length]!).length) ce304)] (⟨H.pick [1,3,4,5] [4,5,6,7,8,9,10],(ro 12 rfl ?_)⟩)))⟩)
   obtain ⟨cp0,cp1,cp2,cp3⟩:=copy_pre (al:=t.qC) E_bags p8 p9.2 p12
   have sz308:=H.base.size
   refine oc (Xr _ (⟨t.qC,(bags.take s.qx.length),bags[s.qx.length]!⟩:qG) (H.get 7 rfl).1 (H.get 2 rfl).1 (H.get 0 rfl).1 qg qg qg qg) ?_
   rintro _ w306 ⟨ra305Alive,rn305Alive,rc305Alive,ra305Bags,rn305Bags,rc305Bags,rx305Bags,rF305Bags,ra305Around,rn305Around,rc305Around,rfl,M,K⟩ _
   replace N:=N.merge sz308 qm M
   replace H:=H.merge K M
   obtain rfl:=H.Q7 0 rfl
   obtain rfl:=H.zi (α:=yLI) 1 rfl 0 rfl qj
   obtain rfl:=H.zS 2 rfl
   refine ⟨H.pick [4,6,7,8] [5,6,7,8,9,10,11],(ro 14 rfl (qQ H 3 [.slice ra305Alive (((⟨t.qC,(bags.take s.qx.length),bags[s.qx.length]!⟩:qG).qC).length) rc305Alive,.slice ra305Bags (((⟨t.qC,(bags.take s.qx.length),bags[s.qx.length]!⟩:qG).qI).length) rc305Bags,.slice ra305Around (((⟨t.qC,(bags.take s.qx.length),bags[s.qx.length]!⟩:qG).qF).length) rc305Around] sizeOf31 fun w313 H=>⟨H.pick [4,6,7,8] [5,6,7,8,9,10,11],(qZ qh (?_))⟩))⟩
   exact meet ⟨_,b301,ra305Alive,rc305Alive,ra305Bags,rc305Bags,ra305Around,rc305Around,rx305Bags,rF305Bags,uE4,N,H.pick [3,0,1,2,4,5,6,7,8] [0,6,7,8,9,10]⟩
  refine r_have (fun ρ w316=>∃ (zB:Env) (b314:Nat),ρ=upd (upd (upd (upd (upd (upd (upd (upd zB 3 (pp b1 0)) 6 (pp b5 0)) 9 (.slice (aa b36 0) s.qx.length s.qx.length)) 13 (pp b314 0)) 77 (.slice qX t.qC.length qR)) 78 (.slice (aa b240 0) (t.qI.length+1) c8)) 80 (yI s.qx.length)) 85 (pp b240 (0+(s.qx.length:Int).toNat * 1))∧Fresh w.heap.size []∧St w w316 [.box b314 [yN,yN,yN] 31,rr (aa b36 0) s.qx.length s.qx.length 4 1 ((jZ s counts s.qx.length i).map (Value.bool)),rr (aa b240 0) (t.qI.length+1) c8 24 1 x_bags,.box b5 [yN,yN,yN] 31,.box b3 (yT t qX qR xG xA qO qN) 31,.box b1 (yS s qB qA qL qJ) 27] [xf false F_bags x_bags bags,sF false xe qB qA s.qx,sF false xI qL qJ s.qw,sF false zg qX qR t.qC,sF false zO xG xA t.qI,sF false xN qO qN t.qF,sF false Fcounts acounts ccounts counts]) 5 #[true,true,true,true,true,false,true,true,true,true,false,false,false,true,false] ?_ fun L315=>?_
  ·skip
   rintro ρ w317 ⟨zB,b314,rfl,N,H⟩
   refine zH [5,10] qh qm (vz rfl ?_ (vz rfl ?_ zI))
   ·skip
    obtain ⟨G318,hg320,hn319,H⟩:=H.freezeR (α:=yLI) 2 rfl 0 rfl qj
    have hl325:=H.isLen 0 rfl
    refine o_head H 0 rfl s.qx.length underlying29 ti24 rfl rfl qf qf fun a321 G322 hG323 H=>?_
    have hl324:(bags.take s.qx.length).length=s.qx.length:=List.length_take_of_le qf
    refine ⟨H.pick [1,3,4,5] [2,3,4,5,6,7,8],(ro 10 rfl ?_)⟩
    have hl326:=H.isLen 1 rfl
    obtain ⟨ae327,ce327,Fe327,H⟩:=H.QL 1 rfl s.qx.length s.qx.length qf qf qf
    refine zh (.slice ae327 ((bags[s.qx.length]!).length) ce327) isAgg24 rfl (H.xX 1 rfl 0 rfl) (⟨H.pick [1,3,4,5] [4,5,6,7,8,9,10],(ro 11 rfl (xJ [.slice qX t.qC.length qR,.slice a321 ((bags.take s.qx.length).length) c8,.slice ae327 ((bags[s.qx.length]!).length) ce327] [(0,.slice qX t.qC.length qR),(1,.slice a321 ((bags.take s.qx.length).length) c8),(2,.slice ae327 ((bags[s.qx.length]!).length) ce327)] (⟨H.pick [1,3,4,5] [4,5,6,7,8,9,10],(ro 12 rfl ?_)⟩)))⟩)
    obtain ⟨cp0,cp1,cp2,cp3⟩:=copy_pre (al:=t.qC) E_bags p8 p9.2 p12
    have sz331:=H.base.size
    refine oc (Xr _ (⟨t.qC,(bags.take s.qx.length),bags[s.qx.length]!⟩:qG) (H.get 7 rfl).1 (H.get 2 rfl).1 (H.get 0 rfl).1 qg qg qg qg) ?_
    rintro _ w329 ⟨ra328Alive,rn328Alive,rc328Alive,ra328Bags,rn328Bags,rc328Bags,rx328Bags,rF328Bags,ra328Around,rn328Around,rc328Around,rfl,M,K⟩ _
    replace N:=N.merge sz331 qm M
    replace H:=H.merge K M
    obtain rfl:=H.Q7 0 rfl
    obtain rfl:=H.zi (α:=yLI) 1 rfl 0 rfl qj
    obtain rfl:=H.zS 2 rfl
    refine ⟨H.pick [4,6,7,8] [5,6,7,8,9,10,11],(ro 14 rfl (qQ H 3 [.slice ra328Alive (((⟨t.qC,(bags.take s.qx.length),bags[s.qx.length]!⟩:qG).qC).length) rc328Alive,.slice ra328Bags (((⟨t.qC,(bags.take s.qx.length),bags[s.qx.length]!⟩:qG).qI).length) rc328Bags,.slice ra328Around (((⟨t.qC,(bags.take s.qx.length),bags[s.qx.length]!⟩:qG).qF).length) rc328Around] sizeOf31 fun w336 H=>⟨H.pick [4,6,7,8] [5,6,7,8,9,10,11],(qZ qh (?_))⟩))⟩
    exact meet ⟨_,b314,ra328Alive,rc328Alive,ra328Bags,rc328Bags,ra328Around,rc328Around,rx328Bags,rF328Bags,uE4,N,H.pick [3,0,1,2,4,5,6,7,8] [0,6,7,8,9,10]⟩
   obtain ⟨a337,c338,G339,s340,h341,H⟩:=H.jD 2 rfl 0 rfl (iv:=s.qx.length) s.qx.length qf qf
   refine zh (.slice a337 ((bags[s.qx.length]!).length) c338) isAgg24 rfl (h341) (⟨H.pick [1,3,4,5] [1,2,3,4,5,6,7],(ro 5 rfl ?_)⟩)
   obtain ⟨G342,hg344,hn343,H⟩:=H.freezeR (α:=yLI) 2 rfl 1 rfl qj
   have hl349:=H.isLen 0 rfl
   refine o_head H 0 rfl s.qx.length underlying29 ti24 rfl rfl qf qf fun a345 G346 hG347 H=>?_
   have hl348:(bags.take s.qx.length).length=s.qx.length:=List.length_take_of_le qf
   refine ⟨H.pick [1,3,4,5] [3,4,5,6,7,8,9],(ro 11 rfl (xJ [.slice qX t.qC.length qR,.slice a345 ((bags.take s.qx.length).length) c8,.slice a337 ((bags[s.qx.length]!).length) c338] [(0,.slice qX t.qC.length qR),(1,.slice a345 ((bags.take s.qx.length).length) c8),(2,.slice a337 ((bags[s.qx.length]!).length) c338)] (⟨H.pick [1,3,4,5] [3,4,5,6,7,8,9],(ro 12 rfl ?_)⟩)))⟩
   obtain ⟨cp0,cp1,cp2,cp3⟩:=copy_pre (al:=t.qC) E_bags p8 p9.2 p12
   have sz353:=H.base.size
   refine oc (Xr _ (⟨t.qC,(bags.take s.qx.length),bags[s.qx.length]!⟩:qG) (H.get 6 rfl).1 (H.get 0 rfl).1 (H.get 2 rfl).1 qg qg qg qg) ?_
   rintro _ w351 ⟨ra350Alive,rn350Alive,rc350Alive,ra350Bags,rn350Bags,rc350Bags,rx350Bags,rF350Bags,ra350Around,rn350Around,rc350Around,rfl,M,K⟩ _
   replace N:=N.merge sz353 qm M
   replace H:=H.merge K M
   obtain rfl:=H.Q7 0 rfl
   obtain rfl:=H.zi (α:=yLI) 1 rfl 0 rfl qj
   obtain rfl:=H.zS 2 rfl
   refine ⟨H.pick [4,6,7,8] [4,5,6,7,8,9,10],(ro 14 rfl (qQ H 3 [.slice ra350Alive (((⟨t.qC,(bags.take s.qx.length),bags[s.qx.length]!⟩:qG).qC).length) rc350Alive,.slice ra350Bags (((⟨t.qC,(bags.take s.qx.length),bags[s.qx.length]!⟩:qG).qI).length) rc350Bags,.slice ra350Around (((⟨t.qC,(bags.take s.qx.length),bags[s.qx.length]!⟩:qG).qF).length) rc350Around] sizeOf31 fun w358 H=>⟨H.pick [4,6,7,8] [4,5,6,7,8,9,10],(qZ qh (?_))⟩))⟩
   exact meet ⟨_,b314,ra350Alive,rc350Alive,ra350Bags,rc350Bags,ra350Around,rc350Around,rx350Bags,rF350Bags,uE4,N,H.pick [3,0,1,2,4,5,6,7,8] [0,5,6,7,8,9]⟩
  refine r_have (fun ρ w361=>∃ (zB:Env) (b359:Nat),ρ=upd (upd (upd (upd (upd (upd (upd (upd (upd zB 3 (pp b1 0)) 6 (pp b5 0)) 9 (.slice (aa b36 0) s.qx.length s.qx.length)) 13 (pp b359 0)) 77 (.slice qX t.qC.length qR)) 78 (.slice (aa b240 0) (t.qI.length+1) c8)) 80 (yI s.qx.length)) 82 (.slice (aa b240 0) (t.qI.length+1) c8)) 83 (.agg #[yI s.xn,.slice qB s.qx.length qA,.slice qL s.qw.length qJ])∧Fresh w.heap.size []∧St w w361 [.box b359 [yN,yN,yN] 31,rr (aa b36 0) s.qx.length s.qx.length 4 1 ((jZ s counts s.qx.length i).map (Value.bool)),rr (aa b240 0) (t.qI.length+1) c8 24 1 x_bags,.box b5 [yN,yN,yN] 31,.box b3 (yT t qX qR xG xA qO qN) 31,.box b1 (yS s qB qA qL qJ) 27] [xf false F_bags x_bags bags,sF false xe qB qA s.qx,sF false xI qL qJ s.qw,sF false zg qX qR t.qC,sF false zO xG xA t.qI,sF false xN qO qN t.qF,sF false Fcounts acounts ccounts counts]) 7 #[true,true,true,true,true,false,true,true,false,false,false,false,false,true,false] ?_ fun L360=>?_
  ·skip
   rintro ρ w362 ⟨zB,b359,rfl,N,H⟩
   refine zH [5,8] qh qm (vz rfl ?_ (vz rfl ?_ zI))
   ·skip
    obtain ⟨G363,hg365,hn364,H⟩:=H.freezeR (α:=yLI) 2 rfl 0 rfl qj
    have hl370:=H.isLen 0 rfl
    refine o_head H 0 rfl s.qx.length underlying29 ti24 rfl rfl qf qf fun a366 G367 hG368 H=>?_
    have hl369:(bags.take s.qx.length).length=s.qx.length:=List.length_take_of_le qf
    refine ⟨H.pick [1,3,4,5] [2,3,4,5,6,7,8],(ro 8 rfl (oq (around_ok _ s (H.get 3 rfl).1 (H.get 4 rfl).1) H fun w372 H=>⟨H.pick [1,3,4,5] [2,3,4,5,6,7,8],?_⟩))⟩
    obtain ⟨ae374,ce374,Fe374,H⟩:=H.QL 1 rfl s.qx.length s.qx.length qf qf qf
    refine tI 9 rfl rfl rfl (H.pick [1,3,4,5] [4,5,6,7,8,9,10]) ?_
    refine ro 10 rfl (zh (.slice ae374 ((bags[s.qx.length]!).length) ce374) isAgg24 rfl (H.xX 1 rfl 0 rfl) (⟨H.pick [1,3,4,5] [4,5,6,7,8,9,10],(ro 11 rfl (xJ [.slice qX t.qC.length qR,.slice a366 ((bags.take s.qx.length).length) c8,.slice ae374 ((bags[s.qx.length]!).length) ce374] [(0,.slice qX t.qC.length qR),(1,.slice a366 ((bags.take s.qx.length).length) c8),(2,.slice ae374 ((bags[s.qx.length]!).length) ce374)] (⟨H.pick [1,3,4,5] [4,5,6,7,8,9,10],(ro 12 rfl ?_)⟩)))⟩))
    obtain ⟨cp0,cp1,cp2,cp3⟩:=copy_pre (al:=t.qC) E_bags p8 p9.2 p12
    have sz378:=H.base.size
    refine oc (Xr _ (⟨t.qC,(bags.take s.qx.length),bags[s.qx.length]!⟩:qG) (H.get 7 rfl).1 (H.get 2 rfl).1 (H.get 0 rfl).1 qg qg qg qg) ?_
    rintro _ w376 ⟨ra375Alive,rn375Alive,rc375Alive,ra375Bags,rn375Bags,rc375Bags,rx375Bags,rF375Bags,ra375Around,rn375Around,rc375Around,rfl,M,K⟩ _
    replace N:=N.merge sz378 qm M
    replace H:=H.merge K M
    obtain rfl:=H.Q7 0 rfl
    obtain rfl:=H.zi (α:=yLI) 1 rfl 0 rfl qj
    obtain rfl:=H.zS 2 rfl
    refine ⟨H.pick [4,6,7,8] [5,6,7,8,9,10,11],(ro 14 rfl (qQ H 3 [.slice ra375Alive (((⟨t.qC,(bags.take s.qx.length),bags[s.qx.length]!⟩:qG).qC).length) rc375Alive,.slice ra375Bags (((⟨t.qC,(bags.take s.qx.length),bags[s.qx.length]!⟩:qG).qI).length) rc375Bags,.slice ra375Around (((⟨t.qC,(bags.take s.qx.length),bags[s.qx.length]!⟩:qG).qF).length) rc375Around] sizeOf31 fun w383 H=>⟨H.pick [4,6,7,8] [5,6,7,8,9,10,11],(qZ qh (?_))⟩))⟩
    exact meet ⟨_,b359,ra375Alive,rc375Alive,ra375Bags,rc375Bags,ra375Around,rc375Around,rx375Bags,rF375Bags,uE4,N,H.pick [3,0,1,2,4,5,6,7,8] [0,6,7,8,9,10]⟩
   refine oq (around_ok _ s (H.get 1 rfl).1 (H.get 2 rfl).1) H fun w385 H=>⟨H.pick [1,3,4,5] [0,1,2,3,4,5,6],(tI 9 rfl rfl rfl (H.pick [1,3,4,5] [0,1,2,3,4,5,6]) ?_)⟩
   exact r_use L315 ⟨_,b359,uE8,N,H⟩
  have S:=H.jR [0,2,3,4] [0,1,2,3,4,5,6]
  refine tF 0 rfl rfl S ?_
  refine tL 1 rfl rfl (fun _ h=>h.cell 2 rfl rfl) S ?_
  refine rtp 2 (.slice (aa b240 0) (t.qI.length+1) c8) S ?_
  refine rt 3 (.agg #[yI s.xn,.slice qB s.qx.length qA,.slice qL s.qw.length qJ]) (QC (cs:=(yS s qB qA qL qJ)) isAgg27 sizeOf27 rfl (fun _ h=>qH (h.cells 3 rfl) 0 3)) S ?_
  refine rtp 6 (.slice (aa b240 0) (t.qI.length+1) c8) S ?_
  refine rt 7 (.agg #[yI s.xn,.slice qB s.qx.length qA,.slice qL s.qw.length qJ]) (QC (cs:=(yS s qB qA qL qJ)) isAgg27 sizeOf27 rfl (fun _ h=>qH (h.cells 3 rfl) 0 3)) S ?_
  refine zH [4,13] qh qm (vz rfl ?_ (vz rfl ?_ zI))
  ·skip
   refine oq (around_ok _ s (H.get 1 rfl).1 (H.get 2 rfl).1) H fun w388 H=>⟨H.pick [0,2,3,4] [0,1,2,3,4,5,6],(zH [5,8,13] qh qm (vz rfl ?_ (vz rfl ?_ (vz rfl ?_ zI))))⟩
   ·skip
    obtain ⟨G390,hg392,hn391,H⟩:=H.freezeR (α:=yLI) 1 rfl 0 rfl qj
    have hl397:=H.isLen 0 rfl
    refine o_head H 0 rfl s.qx.length underlying29 ti24 rfl rfl qf qf fun a393 G394 hG395 H=>?_
    have hl396:(bags.take s.qx.length).length=s.qx.length:=List.length_take_of_le qf
    refine ⟨H.pick [0,2,3,4] [2,3,4,5,6,7,8],(zH [8,13] qh qm (vz rfl ?_ (vz rfl ?_ zI)))⟩
    ·skip
     refine oq (around_ok _ s (H.get 3 rfl).1 (H.get 4 rfl).1) H fun w399 H=>⟨H.pick [0,2,3,4] [2,3,4,5,6,7,8],?_⟩
     obtain ⟨ae401,ce401,Fe401,H⟩:=H.QL 1 rfl s.qx.length s.qx.length qf qf qf
     refine tI 9 rfl rfl rfl (H.pick [0,2,3,4] [4,5,6,7,8,9,10]) ?_
     exact r_use L296 ⟨_,a393,G394,G390,uE6,N,H.pick [0,1,2,3,4] [2,3,4,5,6,7,8,9,10]⟩
    refine xq H ti31 [yN,yN,yN] fun b402 w403 H=>⟨H.pick [1,3,4,5] [2,3,4,5,6,7,8],(ro 8 rfl (oq (around_ok _ s (H.get 3 rfl).1 (H.get 4 rfl).1) H fun w405 H=>⟨H.pick [1,3,4,5] [2,3,4,5,6,7,8],?_⟩))⟩
    obtain ⟨ae407,ce407,Fe407,H⟩:=H.QL 1 rfl s.qx.length s.qx.length qf qf qf
    refine tI 9 rfl rfl rfl (H.pick [1,3,4,5] [4,5,6,7,8,9,10]) ?_
    refine ro 10 rfl (zh (.slice ae407 ((bags[s.qx.length]!).length) ce407) isAgg24 rfl (H.xX 1 rfl 0 rfl) (⟨H.pick [1,3,4,5] [4,5,6,7,8,9,10],(ro 11 rfl (xJ [.slice qX t.qC.length qR,.slice a393 ((bags.take s.qx.length).length) c8,.slice ae407 ((bags[s.qx.length]!).length) ce407] [(0,.slice qX t.qC.length qR),(1,.slice a393 ((bags.take s.qx.length).length) c8),(2,.slice ae407 ((bags[s.qx.length]!).length) ce407)] (⟨H.pick [1,3,4,5] [4,5,6,7,8,9,10],(ro 12 rfl ?_)⟩)))⟩))
    obtain ⟨cp0,cp1,cp2,cp3⟩:=copy_pre (al:=t.qC) E_bags p8 p9.2 p12
    have sz411:=H.base.size
    refine oc (Xr _ (⟨t.qC,(bags.take s.qx.length),bags[s.qx.length]!⟩:qG) (H.get 7 rfl).1 (H.get 2 rfl).1 (H.get 0 rfl).1 qg qg qg qg) ?_
    rintro _ w409 ⟨ra408Alive,rn408Alive,rc408Alive,ra408Bags,rn408Bags,rc408Bags,rx408Bags,rF408Bags,ra408Around,rn408Around,rc408Around,rfl,M,K⟩ _
    replace N:=N.merge sz411 qm M
    replace H:=H.merge K M
    obtain rfl:=H.Q7 0 rfl
    obtain rfl:=H.zi (α:=yLI) 1 rfl 0 rfl qj
    obtain rfl:=H.zS 2 rfl
    refine ⟨H.pick [4,6,7,8] [5,6,7,8,9,10,11],(ro 14 rfl (qQ H 3 [.slice ra408Alive (((⟨t.qC,(bags.take s.qx.length),bags[s.qx.length]!⟩:qG).qC).length) rc408Alive,.slice ra408Bags (((⟨t.qC,(bags.take s.qx.length),bags[s.qx.length]!⟩:qG).qI).length) rc408Bags,.slice ra408Around (((⟨t.qC,(bags.take s.qx.length),bags[s.qx.length]!⟩:qG).qF).length) rc408Around] sizeOf31 fun w416 H=>⟨H.pick [4,6,7,8] [5,6,7,8,9,10,11],(qZ qh (?_))⟩))⟩
    exact meet ⟨_,b402,ra408Alive,rc408Alive,ra408Bags,rc408Bags,ra408Around,rc408Around,rx408Bags,rF408Bags,uE4,N,H.pick [3,0,1,2,4,5,6,7,8] [0,6,7,8,9,10]⟩
   ·skip
    refine oq (around_ok _ s (H.get 1 rfl).1 (H.get 2 rfl).1) H fun w418 H=>⟨H.pick [0,2,3,4] [0,1,2,3,4,5,6],(tI 9 rfl rfl rfl (H.pick [0,2,3,4] [0,1,2,3,4,5,6]) ?_)⟩
    refine zH [5,10,13] qh qm (vz rfl ?_ (vz rfl ?_ (vz rfl ?_ zI)))
    ·skip
     obtain ⟨G420,hg422,hn421,H⟩:=H.freezeR (α:=yLI) 1 rfl 0 rfl qj
     have hl427:=H.isLen 0 rfl
     refine o_head H 0 rfl s.qx.length underlying29 ti24 rfl rfl qf qf fun a423 G424 hG425 H=>?_
     have hl426:(bags.take s.qx.length).length=s.qx.length:=List.length_take_of_le qf
     refine ⟨H.pick [0,2,3,4] [2,3,4,5,6,7,8],(r_use L296 ⟨_,a423,G424,G420,uE6,N,H⟩)⟩
    ·skip
     obtain ⟨a428,c429,G430,s431,h432,H⟩:=H.jD 1 rfl 0 rfl (iv:=s.qx.length) s.qx.length qf qf
     refine zh (.slice a428 ((bags[s.qx.length]!).length) c429) isAgg24 rfl (h432) (⟨H.pick [0,2,3,4] [1,2,3,4,5,6,7],(zH [5,13] qh qm (vz rfl ?_ (vz rfl ?_ zI)))⟩)
     ·skip
      obtain ⟨G433,hg435,hn434,H⟩:=H.freezeR (α:=yLI) 1 rfl 1 rfl qj
      have hl440:=H.isLen 0 rfl
      refine o_head H 0 rfl s.qx.length underlying29 ti24 rfl rfl qf qf fun a436 G437 hG438 H=>?_
      have hl439:(bags.take s.qx.length).length=s.qx.length:=List.length_take_of_le qf
      refine ⟨H.pick [0,2,3,4] [3,4,5,6,7,8,9],(r_use L257 ⟨_,a428,c429,a436,G437,G430,uE6,N,H.pick [0,1,2,3,4] [0,2,3,4,5,6,7,8,9]⟩)⟩
     refine xq H ti31 [yN,yN,yN] fun b441 w442 H=>⟨H.pick [1,3,4,5] [1,2,3,4,5,6,7],(ro 5 rfl ?_)⟩
     obtain ⟨G443,hg445,hn444,H⟩:=H.freezeR (α:=yLI) 2 rfl 1 rfl qj
     have hl450:=H.isLen 0 rfl
     refine o_head H 0 rfl s.qx.length underlying29 ti24 rfl rfl qf qf fun a446 G447 hG448 H=>?_
     have hl449:(bags.take s.qx.length).length=s.qx.length:=List.length_take_of_le qf
     refine ⟨H.pick [1,3,4,5] [3,4,5,6,7,8,9],(ro 11 rfl (xJ [.slice qX t.qC.length qR,.slice a446 ((bags.take s.qx.length).length) c8,.slice a428 ((bags[s.qx.length]!).length) c429] [(0,.slice qX t.qC.length qR),(1,.slice a446 ((bags.take s.qx.length).length) c8),(2,.slice a428 ((bags[s.qx.length]!).length) c429)] (⟨H.pick [1,3,4,5] [3,4,5,6,7,8,9],(ro 12 rfl ?_)⟩)))⟩
     obtain ⟨cp0,cp1,cp2,cp3⟩:=copy_pre (al:=t.qC) E_bags p8 p9.2 p12
     have sz454:=H.base.size
     refine oc (Xr _ (⟨t.qC,(bags.take s.qx.length),bags[s.qx.length]!⟩:qG) (H.get 6 rfl).1 (H.get 0 rfl).1 (H.get 2 rfl).1 qg qg qg qg) ?_
     rintro _ w452 ⟨ra451Alive,rn451Alive,rc451Alive,ra451Bags,rn451Bags,rc451Bags,rx451Bags,rF451Bags,ra451Around,rn451Around,rc451Around,rfl,M,K⟩ _
     replace N:=N.merge sz454 qm M
     replace H:=H.merge K M
     obtain rfl:=H.Q7 0 rfl
     obtain rfl:=H.zi (α:=yLI) 1 rfl 0 rfl qj
     obtain rfl:=H.zS 2 rfl
     refine ⟨H.pick [4,6,7,8] [4,5,6,7,8,9,10],(ro 14 rfl (qQ H 3 [.slice ra451Alive (((⟨t.qC,(bags.take s.qx.length),bags[s.qx.length]!⟩:qG).qC).length) rc451Alive,.slice ra451Bags (((⟨t.qC,(bags.take s.qx.length),bags[s.qx.length]!⟩:qG).qI).length) rc451Bags,.slice ra451Around (((⟨t.qC,(bags.take s.qx.length),bags[s.qx.length]!⟩:qG).qF).length) rc451Around] sizeOf31 fun w459 H=>⟨H.pick [4,6,7,8] [4,5,6,7,8,9,10],(qZ qh (?_))⟩))⟩
     exact meet ⟨_,b441,ra451Alive,rc451Alive,ra451Bags,rc451Bags,ra451Around,rc451Around,rx451Bags,rF451Bags,uE4,N,H.pick [3,0,1,2,4,5,6,7,8] [0,5,6,7,8,9]⟩
    refine xq H ti31 [yN,yN,yN] fun b460 w461 H=>⟨H.pick [1,3,4,5] [0,1,2,3,4,5,6],(r_use L315 ⟨_,b460,uE8,N,H⟩)⟩
   refine xq H ti31 [yN,yN,yN] fun b462 w463 H=>⟨H.pick [1,3,4,5] [0,1,2,3,4,5,6],(r_use L360 ⟨_,b462,uE9,N,H⟩)⟩
  refine xq H ti31 [yN,yN,yN] fun b464 w465 H=>⟨H.pick [1,3,4,5] [0,1,2,3,4,5,6],(ro 4 rfl (oq (around_ok _ s (H.get 1 rfl).1 (H.get 2 rfl).1) H fun w467 H=>⟨H.pick [1,3,4,5] [0,1,2,3,4,5,6],(r_use L360 ⟨_,b464,uE9,N,H⟩)⟩))⟩
 clear H N
 rintro ρ w469 ⟨zB,b241,ra242,rc243,ra244,rc245,ra246,rc247,rx248,rF249,rfl,N,H⟩
 refine t_n (zcc (sp (.slice (aa b36 0) s.qx.length s.qx.length) (oN rfl (sw (o_sub s.qx.length 1 rfl rfl qf (sp (yI (s.qx.length - 1)) (zjn (xw ?_))))))))
 obtain rfl:i=s.qw.length:=by omega
 have hl:=stepped_live p1 E_bags qf
 obtain ⟨s1,s2⟩:=step_tab E_bags
 rw [show (⟨t.qC,(bags.take s.qx.length),bags[s.qx.length]!⟩:qG)=qY s t counts from by rw [show bags.take s.qx.length=_ from s1,show bags[s.qx.length]! =_ from s2];rfl] at H
 refine vJ (fun m' ρ w470=>∃ (zB:Env) (c:Int) (out_Alive:List Bool) (out_Bags:yLL) (zo:List Value) (xM:yLN) (j:Nat),ρ=upd (upd (upd (upd (upd zB 3 (pp b1 0)) 6 (pp b5 0)) 9 (.slice (aa b36 0) s.qx.length s.qx.length)) 13 (pp b241 0)) 14 (yI c)∧out_Alive=(qW s counts (qY s t counts) j).qC∧out_Bags=(qW s counts (qY s t counts) j).qI∧(c=(s.qx.length:Int) - 1 - j)∧(j+1≤s.qx.length)∧m' =(c:Int).toNat∧Fresh w.heap.size [xM]∧St w w470 [.box b241 [.slice ra242 (((qY s t counts).qC).length) rc243,.slice ra244 (((qY s t counts).qI).length) rc245,.slice ra246 (((qY s t counts).qF).length) rc247] 31,rr ra242 (((qY s t counts).qC).length) rc243 4 1 (out_Alive.map (Value.bool)),rr ra244 (((qY s t counts).qI).length) rc245 24 1 zo,rr ra246 (((qY s t counts).qF).length) rc247 2 1 (((qY s t counts).qF).map (Value.int .i64)),rr (aa b36 0) s.qx.length s.qx.length 4 1 ((jZ s counts s.qx.length s.qw.length).map (Value.bool)),.box b5 [yN,yN,yN] 31,.box b3 (yT t qX qR xG xA qO qN) 31,.box b1 (yS s qB qA qL qJ) 27] [xf true xM zo out_Bags,sF false xe qB qA s.qx,sF false xI qL qJ s.qw,sF false zg qX qR t.qC,sF false zO xG xA t.qI,sF false xN qO qN t.qF]) (((s.qx.length - 1):Int).toNat) ⟨_,s.qx.length - 1,(qY s t counts).qC,(qY s t counts).qI,rx248,rF249,0,uE5,(by rfl),(by rfl),qf,qf,rfl,N,H.pick [0,1,2,3,4,6,7,8] [0,1,2,3,4,5]⟩ ?_
 clear H N
 rintro m' ρ w471 ⟨zB,c,out_Alive,out_Bags,zo,xM,j,rfl,rfl,rfl,ic,jc,rfl,N,H⟩
 have hn_out_Alive:=H.Q7 1 rfl
 have XD:=H.zi (α:=yLI) 2 rfl 0 rfl qj
 have L:=meltDown_live (counts:=counts) p0 hl j qf
 have L1:=L.alive
 have L2:=L.root
 have L3:=L.bags.1
 rw [← Qe s counts (qY s t counts) j] at H
 refine zcc (sps [yI c,.bool (decide ((c:Int) > 0))] (zjn (cD rfl (fun h472=>?_) (fun h472=>?_))))
 ·skip
  refine xx (t_n (zn (xw (zcr (sps [.slice (aa b36 0) s.qx.length s.qx.length,yI c] (oI rfl rfl (oL rfl (H.rowBool 4 rfl (iv:=c) (i:=c.toNat) qf qf) (zjn (xW ((jZ s counts s.qx.length s.qw.length)[c.toNat]!) rfl (fun h473=>?_) (fun h473=>?_))))))))))
  ·skip
   refine zk (sw (zu (yS s qB qA qL qJ) isAgg27 sizeOf27 rfl (qH (H.cells 7 rfl) 0 3) (sp (yI c) (sw (Qg #[.agg #[yI s.xn,.slice qB s.qx.length qA,.slice qL s.qw.length qJ],pp b241 0,yI c] rfl rfl call33 (en func33 ntmps33 ?_))))))
   refine zcr (sw (yK H (yS s qB qA qL qJ) fun b474 w475 H=>zjn (zn ?_)))
   refine yF rfl H fun H=>rt 0 (.agg #[yI s.xn,.slice qB s.qx.length qA,.slice qL s.qw.length qJ]) (QC (cs:=(yS s qB qA qL qJ)) isAgg27 sizeOf27 rfl (fun _ h=>qH (h.cells 0 rfl) 0 3)) H ?_
   refine rtp 1 (pp b241 0) H ?_
   refine rtp 2 (pp b241 0) H ?_
   refine rt 3 (.agg #[.slice ra242 (((qY s t counts).qC).length) rc243,.slice ra244 (((qY s t counts).qI).length) rc245,.slice ra246 (((qW s counts (qY s t counts) j).qF).length) rc247]) (QC (cs:=[.slice ra242 (((qY s t counts).qC).length) rc243,.slice ra244 (((qY s t counts).qI).length) rc245,.slice ra246 (((qW s counts (qY s t counts) j).qF).length) rc247]) isAgg31 sizeOf31 rfl (fun _ h=>qH (h.cells 1 rfl) 0 3)) H ?_
   refine rtp 4 (yI c) H ?_
   refine ro 5 rfl ?_
   obtain ⟨G477,hn478,h479⟩:=H.XG 2 rfl
   obtain ⟨G480,hn481,h482⟩:=H.QN (α:=yLI) 3 rfl 0 rfl qj
   obtain ⟨G483,hn484,h485⟩:=H.Ql 4 rfl
   refine oq (args_eq (by rw [← hn478,← hn481]) (parentNow_ok _ s (qW s counts (qY s t counts) j) c (H.get 1 rfl).1 (H.get 2 rfl).1 (hn478▸h479) (hn481▸h482) h485 qg qg qg)) H fun w487 H=>?_
   have pin:=XH (s:=s) (t:=(qW s counts (qY s t counts) j)) (c:=c) p0.1 L2 qf qf
   refine ⟨H,(rtp 6 (yI (xg s (qW s counts (qY s t counts) j) c)) H ?_)⟩
   refine qZ qh (t_n (zn ?_))
   obtain ⟨b489,rfl⟩:=H.QP 3 rfl qf
   refine c_cut (fun ρ w492=>∃ (zB:Env) (xs490:List Value) (F491:yLN),ρ=upd (upd (upd zB 1 (pp b241 0)) 2 (yI c)) 3 (pp b474 0)∧Fresh w.heap.size [F491]∧St w w492 [.box b474 (yS s qB qA qL qJ) 27,.box b241 [.slice ra242 (((qY s t counts).qC).length) rc243,.slice (aa b489 0) (((qY s t counts).qI).length) rc245,.slice ra246 (((qW s counts (qY s t counts) j).qF).length) rc247] 31,rr ra242 (((qY s t counts).qC).length) rc243 4 1 (((qW s counts (qY s t counts) j).qC).map (Value.bool)),rr (aa b489 0) (((qY s t counts).qI).length) rc245 24 1 xs490,rr ra246 (((qW s counts (qY s t counts) j).qF).length) rc247 2 1 (((qW s counts (qY s t counts) j).qF).map (Value.int .i64)),rr (aa b36 0) s.qx.length s.qx.length 4 1 ((jZ s counts s.qx.length s.qw.length).map (Value.bool)),.box b5 [yN,yN,yN] 31,.box b3 (yT t qX qR xG xA qO qN) 31,.box b1 (yS s qB qA qL qJ) 27] [xf true F491 xs490 (((qW s counts (qY s t counts) j).qI).set ((xg s (qW s counts (qY s t counts) j) c).toNat) (jW (((qW s counts (qY s t counts) j).qI)[(xg s (qW s counts (qY s t counts) j) c).toNat]!) (((qW s counts (qY s t counts) j).qI)[c.toNat]!) 1)),sF false xe qB qA s.qx,sF false xI qL qJ s.qw,sF false zg qX qR t.qC,sF false zO xG xA t.qI,sF false xN qO qN t.qF]) ?_ ?_
   ·skip
    refine yR rfl H [0,1,2,4,5,6,7,8] fun H=>?_
    have S:=H.jR [0,1,2,4,5,6,7,8] [0,1,2,3,4,5]
    refine rtp 0 (pp b241 0) S ?_
    refine rtp 1 (pp b241 0) S ?_
    refine tF 2 rfl rfl S ?_
    refine tL 3 rfl rfl (fun _ h=>h.cell 1 rfl rfl) S ?_
    refine rtp 4 (yI (xg s (qW s counts (qY s t counts) j) c)) S ?_
    refine rtp 5 (pp b241 0) S ?_
    refine rtp 6 (pp b241 0) S ?_
    refine tF 7 rfl rfl S ?_
    refine tL 8 rfl rfl (fun _ h=>h.cell 1 rfl rfl) S ?_
    refine rtp 9 (yI (xg s (qW s counts (qY s t counts) j) c)) S ?_
    refine tI 10 rfl rfl rfl S ?_
    refine rtp 12 (pp b241 0) S ?_
    refine rtp 13 (pp b241 0) S ?_
    refine tF 14 rfl rfl S ?_
    refine tL 15 rfl rfl (fun _ h=>h.cell 1 rfl rfl) S ?_
    refine rtp 16 (yI c) S ?_
    refine tI 17 rfl rfl rfl S ?_
    refine zH [11,18] qh qm (vz rfl ?_ (vz rfl ?_ zI))
    ·skip
     obtain ⟨a494,c495,G496,s497,h498,H⟩:=H.jD 3 rfl 0 rfl (iv:=xg s (qW s counts (qY s t counts) j) c) ((xg s (qW s counts (qY s t counts) j) c).toNat) qf qf
     refine zh (.slice a494 ((((qW s counts (qY s t counts) j).qI)[(xg s (qW s counts (qY s t counts) j) c).toNat]!).length) c495) isAgg24 rfl (h498) (⟨H.pick [0,1,2,4,5,6,7,8] [1,2,3,4,5,6],(ro 18 rfl ?_)⟩)
     obtain ⟨a499,c500,G501,s502,h503,H⟩:=H.jD 3 rfl 1 rfl (iv:=c) c.toNat qf qf
     refine zh (.slice a499 ((((qW s counts (qY s t counts) j).qI)[c.toNat]!).length) c500) isAgg24 rfl (h503) (⟨H.pick [0,1,2,4,5,6,7,8] [2,3,4,5,6,7],(ro 19 rfl ?_)⟩)
     obtain ⟨u1,u2,u4⟩:=L.rows p0 (bnd_le qf) (p:=(xg s (qW s counts (qY s t counts) j) c).toNat) (c:=c.toNat) qf qf
     have sz504:=H.base.size
     have lt505:=H.ltN (L:=[xM]) [2]
     refine oc (plus_ok _ (((qW s counts (qY s t counts) j).qI)[(xg s (qW s counts (qY s t counts) j) c).toNat]!) (((qW s counts (qY s t counts) j).qI)[c.toNat]!) 1 (H.get 1 rfl).1 (H.get 0 rfl).1 qg qg qg) ?_
     rintro v509 w507 r509 x508
     replace H:=H.zq x508 r509
     obtain ⟨a510,c511,rfl,hc512,hm513⟩:=H.jO 0 rfl
     refine ⟨H.pick [1,2,3,5,6,7,8,9] [2,3,4,5,6,7],(tI 20 rfl rfl rfl (H.pick [1,2,3,5,6,7,8,9] [2,3,4,5,6,7]) ?_)⟩
     refine ro 21 rfl ?_
     obtain ⟨G515,N,hn516,H⟩:=H.zT 0 rfl N (H.yG [2])
     refine jm true H 4 rfl 3 rfl (.slice a510 ((jW (((qW s counts (qY s t counts) j).qI)[(xg s (qW s counts (qY s t counts) j) c).toNat]!) (((qW s counts (qY s t counts) j).qI)[c.toNat]!) 1).length) c511) 0 rfl rfl sizeOf24 rfl rfl (i:=((xg s (qW s counts (qY s t counts) j) c).toNat)) qf qf qm fun w514 xs517 F518 hs519 H=>?_
     replace N:Fresh w.heap.size [F518]:=(N.pick [1,0]).repl hs519
     refine ⟨H.pick [1,2,3,5,6,7,8,9] [4,5,6,7,8,9],(qZ qh ((meet ⟨_,xs517,F518,uE3,N,H.pick [1,2,3,4,5,6,7,8,9] [0,5,6,7,8,9]⟩)))⟩
    obtain ⟨a520,c521,G522,s523,h524,H⟩:=H.jD 3 rfl 0 rfl (iv:=c) c.toNat qf qf
    refine zh (.slice a520 ((((qW s counts (qY s t counts) j).qI)[c.toNat]!).length) c521) isAgg24 rfl (h524) (⟨H.pick [0,1,2,4,5,6,7,8] [1,2,3,4,5,6],(ro 11 rfl ?_)⟩)
    obtain ⟨a525,c526,G527,s528,h529,H⟩:=H.jD 3 rfl 1 rfl (iv:=xg s (qW s counts (qY s t counts) j) c) ((xg s (qW s counts (qY s t counts) j) c).toNat) qf qf
    refine zh (.slice a525 ((((qW s counts (qY s t counts) j).qI)[(xg s (qW s counts (qY s t counts) j) c).toNat]!).length) c526) isAgg24 rfl (h529) (⟨H.pick [0,1,2,4,5,6,7,8] [2,3,4,5,6,7],(ro 19 rfl ?_)⟩)
    obtain ⟨u1,u2,u4⟩:=L.rows p0 (bnd_le qf) (p:=(xg s (qW s counts (qY s t counts) j) c).toNat) (c:=c.toNat) qf qf
    have sz530:=H.base.size
    have lt531:=H.ltN (L:=[xM]) [2]
    refine oc (plus_ok _ (((qW s counts (qY s t counts) j).qI)[(xg s (qW s counts (qY s t counts) j) c).toNat]!) (((qW s counts (qY s t counts) j).qI)[c.toNat]!) 1 (H.get 0 rfl).1 (H.get 1 rfl).1 qg qg qg) ?_
    rintro v535 w533 r535 x534
    replace H:=H.zq x534 r535
    obtain ⟨a536,c537,rfl,hc538,hm539⟩:=H.jO 0 rfl
    refine ⟨H.pick [1,2,3,5,6,7,8,9] [2,3,4,5,6,7],(tI 20 rfl rfl rfl (H.pick [1,2,3,5,6,7,8,9] [2,3,4,5,6,7]) ?_)⟩
    refine ro 21 rfl ?_
    obtain ⟨G541,N,hn542,H⟩:=H.zT 0 rfl N (H.yG [2])
    refine jm true H 4 rfl 3 rfl (.slice a536 ((jW (((qW s counts (qY s t counts) j).qI)[(xg s (qW s counts (qY s t counts) j) c).toNat]!) (((qW s counts (qY s t counts) j).qI)[c.toNat]!) 1).length) c537) 0 rfl rfl sizeOf24 rfl rfl (i:=((xg s (qW s counts (qY s t counts) j) c).toNat)) qf qf qm fun w540 xs543 F544 hs545 H=>?_
    replace N:Fresh w.heap.size [F544]:=(N.pick [1,0]).repl hs545
    refine ⟨H.pick [1,2,3,5,6,7,8,9] [4,5,6,7,8,9],(qZ qh ((meet ⟨_,xs543,F544,uE3,N,H.pick [1,2,3,4,5,6,7,8,9] [0,5,6,7,8,9]⟩)))⟩
   clear H N
   rintro ρ w546 ⟨zB,xs490,F491,rfl,N,H⟩
   refine t_n (zn ?_)
   refine yR rfl H [0,1,2,4,5,6,7,8] fun H=>?_
   have S:=H.jR [0,1,2,4,5,6,7,8] [0,1,2,3,4,5]
   refine rtp 0 (pp b241 0) S ?_
   refine rtp 1 (pp b241 0) S ?_
   refine tF 2 rfl rfl S ?_
   refine tL 3 rfl rfl (fun _ h=>h.cell 1 rfl rfl) S ?_
   refine rtp 4 (yI c) S ?_
   refine tF 5 rfl rfl S ?_
   refine tL 6 rfl rfl (fun _ h=>h.cell 0 rfl rfl) S ?_
   refine ro 7 rfl (x8 H underlying24 ti2 s.xn.toNat rfl rfl qf qf qf fun b548 w549 H=>⟨H.pick [1,2,3,5,6,7,8,9] [0,1,2,3,4,5],(tI 8 rfl rfl rfl (H.pick [1,2,3,5,6,7,8,9] [0,1,2,3,4,5]) ?_)⟩)
   refine ro 9 rfl ?_
   obtain ⟨G551,N,hn552,H⟩:=H.zT 0 rfl N (H.yG [0])
   refine jm true H 4 rfl 1 rfl (.slice (aa b548 0) s.xn.toNat s.xn.toNat) 0 rfl rfl sizeOf24 rfl rfl (i:=c.toNat) qf qf qm fun w550 xs553 F554 hs555 H=>?_
   replace N:Fresh w.heap.size [F554]:=(N.pick [1,0]).repl hs555
   refine ⟨H.pick [1,2,3,5,6,7,8,9] [2,3,4,5,6,7],(qZ qh (t_n (zk (sps [pp b241 0,pp b241 0] (oF rfl (oL rfl (H.cell 2 rfl rfl) (sp (yI c) ?_)))))))⟩
   obtain ⟨b556,rfl⟩:=H.QP 3 rfl qf
   refine oI rfl rfl (sw (Qp H 3 rfl false sizeOf4 rfl rfl (i:=c.toNat) qf qf fun w557 H=>zt (ret0 rfl ⟨_,rfl,?_⟩)))
   replace H:=H.erases [1,0]
   dsimp only [Qj,List.eraseIdx] at H
   refine zt (b_n (t_n (zk (sp (yI c) (sw (o_sub c 1 rfl rfl qf (sp (yI (c - 1)) (zt ?_))))))))
   rw [Qe] at H
   refine xu (m' :=((c - 1):Int).toNat) qf ⟨_,c - 1,(((qW s counts (qY s t counts) j).qC).set c.toNat false),((((qW s counts (qY s t counts) j).qI).set ((xg s (qW s counts (qY s t counts) j) c).toNat) (jW (((qW s counts (qY s t counts) j).qI)[(xg s (qW s counts (qY s t counts) j) c).toNat]!) (((qW s counts (qY s t counts) j).qI)[c.toNat]!) 1)).set c.toNat (List.replicate s.xn.toNat (0:Int))),xs553,F554,j+1,uE5,?_,?_,?_,?_,rfl,N,H.pick [0,1,2,3,4,5,6,7] [0,3,4,5,6,7]⟩
   · first | (rw [meltDown_yesL (c:=c) ‹_› qf qf rfl ic];rfl) | rw [meltDown_noL (c:=c) ‹_› qf qf rfl ic]
   · first | (rw [meltDown_yesL (c:=c) ‹_› qf qf rfl ic];rfl) | rw [meltDown_noL (c:=c) ‹_› qf qf rfl ic]
   · omega
   · omega
  refine xx (b_n (t_n (zk (sp (yI c) (sw (o_sub c 1 rfl rfl qf (sp (yI (c - 1)) (zt ?_))))))))
  rw [Qe] at H
  refine xu (m' :=((c - 1):Int).toNat) qf ⟨_,c - 1,((qW s counts (qY s t counts) j).qC),((qW s counts (qY s t counts) j).qI),zo,xM,j+1,uE5,?_,?_,?_,?_,rfl,N,H⟩
  · first | (rw [meltDown_yesL (c:=c) ‹_› qf qf rfl ic];rfl) | rw [meltDown_noL (c:=c) ‹_› qf qf rfl ic]
  · first | (rw [meltDown_yesL (c:=c) ‹_› qf qf rfl ic];rfl) | rw [meltDown_noL (c:=c) ‹_› qf qf rfl ic]
  · omega
  · omega
 refine zx4 (zcr (sw (zu (yS s qB qA qL qJ) isAgg27 sizeOf27 rfl (qH (H.cells 7 rfl) 0 3) (sw (zu [.slice ra242 (((qY s t counts).qC).length) rc243,.slice ra244 (((qY s t counts).qI).length) rc245,.slice ra246 (((qW s counts (qY s t counts) j).qF).length) rc247] isAgg31 sizeOf31 rfl (qH (H.cells 0 rfl) 0 3) ?_)))))
 refine sw (Qg #[.agg #[yI s.xn,.slice qB s.qx.length qA,.slice qL s.qw.length qJ],.agg #[.slice ra242 (((qY s t counts).qC).length) rc243,.slice ra244 (((qY s t counts).qI).length) rc245,.slice ra246 (((qW s counts (qY s t counts) j).qF).length) rc247]] rfl rfl call34 (en func34 ntmps34 ?_))
 refine zcr (sw (yK H (yS s qB qA qL qJ) fun b558 w559 H=>sw (yK H [.slice ra242 (((qY s t counts).qC).length) rc243,.slice ra244 (((qY s t counts).qI).length) rc245,.slice ra246 (((qW s counts (qY s t counts) j).qF).length) rc247] fun b560 w561 H=>sw (xq H ti31 [yN,yN,yN] fun b562 w563 H=>sp (yI 0) (zjcc ?_)))))
 refine sw (zu (yS s qB qA qL qJ) isAgg27 sizeOf27 rfl (qH (H.cells 2 rfl) 0 3) (sw (zu [.slice ra242 (((qY s t counts).qC).length) rc243,.slice ra244 (((qY s t counts).qI).length) rc245,.slice ra246 (((qW s counts (qY s t counts) j).qF).length) rc247] isAgg31 sizeOf31 rfl (qH (H.cells 1 rfl) 0 3) ?_)))
 obtain ⟨G564,hn565,h566⟩:=H.XG 4 rfl
 obtain ⟨G567,hn568,h569⟩:=H.QN (α:=yLI) 5 rfl 0 rfl qj
 obtain ⟨G570,hn571,h572⟩:=H.Ql 6 rfl
 refine sw (oq (args_eq (by rw [← hn565,← hn568]) (validState_ok _ s (qW s counts (qY s t counts) j) (H.get 1 rfl).1 (H.get 2 rfl).1 (hn565▸h566) (hn568▸h569) h572)) H fun w574 H=>sp (.bool (!(dec (yH s∧zl s (qW s counts (qY s t counts) j))))) (zjn (cQ rfl (fun h576=>?_) (fun h576=>?_))))
 ·skip
  refine zcr (sw (xJ [yN,yN,yN] [] (sw (qQ H 0 [yN,yN,yN] sizeOf31 fun w577 H=>sp (yI 3) (zjr (t_r (retC2 H 0 rfl (yI 3) rfl isAgg31 sizeOf31 rfl rfl ⟨_,rfl,?_⟩)))))))
  replace H:=H.erases [2,1,0]
  dsimp only [Qj,List.eraseIdx] at H
  refine sps [.agg #[yN,yN,yN],yI 3] (sw (qQ H 5 [yN,yN,yN] sizeOf31 fun w578 H=>sp (yI 3) (zjr ?_)))
  replace H:=H.nilRowB 4
  replace H:=H.nilRow 24 1
  replace H:=H.Qv (α:=yLI)
  replace H:=H.nilRowI 2
  refine retC2 H 8 rfl (yI 3) rfl isAgg31 sizeOf31 rfl rfl ⟨_,rfl,?_,H.base⟩
  rw [stepBy_yes p3,stepRes,show jb s - 1=j by omega,told_no (fun h=>‹¬ (yH s∧_)› ⟨p0,h⟩)]
  exact ⟨none,0,0,none,0,0,[],[],none,0,0,rfl,(N.emp.pick [0]),H.pick [2,1,0] [0]⟩
 refine xx (t_n (zcr (sw (zu [.slice ra242 (((qY s t counts).qC).length) rc243,.slice ra244 (((qY s t counts).qI).length) rc245,.slice ra246 (((qW s counts (qY s t counts) j).qF).length) rc247] isAgg31 sizeOf31 rfl (qH (H.cells 1 rfl) 0 3) (sw (qQ H 0 [.slice ra242 (((qY s t counts).qC).length) rc243,.slice ra244 (((qY s t counts).qI).length) rc245,.slice ra246 (((qW s counts (qY s t counts) j).qF).length) rc247] sizeOf31 fun w579 H=>sp (yI 0) (zjr (retC2 H 0 rfl (yI 0) rfl isAgg31 sizeOf31 rfl rfl ⟨_,rfl,?_⟩))))))))
 replace H:=H.erases [2,1,0]
 dsimp only [Qj,List.eraseIdx] at H
 refine sps [.agg #[.slice ra242 (((qY s t counts).qC).length) rc243,.slice ra244 (((qY s t counts).qI).length) rc245,.slice ra246 (((qW s counts (qY s t counts) j).qF).length) rc247],yI 0] (sw (qQ H 5 [.slice ra242 (((qY s t counts).qC).length) rc243,.slice ra244 (((qY s t counts).qI).length) rc245,.slice ra246 (((qW s counts (qY s t counts) j).qF).length) rc247] sizeOf31 fun w580 H=>sp (yI 0) (zjr (retC2 H 5 rfl (yI 0) rfl isAgg31 sizeOf31 rfl rfl ⟨_,rfl,?_,H.base⟩))))
 rw [stepBy_yes p3,stepRes,show jb s - 1=j by omega,told_yes (‹yH s∧_›:yH s∧_).2]
 exact ⟨ra242,((qY s t counts).qC).length,rc243,ra244,((qY s t counts).qI).length,rc245,zo,xM,ra246,((qW s counts (qY s t counts) j).qF).length,rc247,rfl,N,H.pick [1,2,3] [0]⟩
theorem implRun_ok (w:World) (s:qy) (t:qG) (steps:Int) {qB:yOA} {xe:yLN} {qL:yOA} {xI:yLN} {qX:yOA} {zg:yLN} {xG:yOA} {zO:yLN} {qO:yOA} {xN:yLN} (qV:qU.rep w xe [.slice qB s.qx.length qA] s.qx) (xF:qU.rep w xI [.slice qL s.qw.length qJ] s.qw) (zf:qU.rep w zg [.slice qX t.qC.length qR] t.qC) (zK:qU.rep w zO [.slice xG t.qI.length xA] t.qI) (xO:qU.rep w xN [.slice qO t.qF.length qN] t.qF):Calls Try.prog 23 #[.agg #[yI s.xn,.slice qB s.qx.length qA,.slice qL s.qw.length qJ],.agg #[.slice qX t.qC.length qR,.slice xG t.qI.length xA,.slice qO t.qF.length qN],yI steps] w (Ret (fun v w' =>∃ (ra0Alive:yOA) (rn0Alive:Nat) (rc0Alive:Nat) (ra0Bags:yOA) (rn0Bags:Nat) (rc0Bags:Nat) (rx0Bags:List Value) (rF0Bags:yLN) (Xb:yOA) (Q9:Nat) (Xa:Nat),v=.tuple #[.agg #[.slice ra0Alive rn0Alive rc0Alive,.slice ra0Bags rn0Bags rc0Bags,.slice Xb Q9 Xa],yI ((xk s t steps).2.1),yI ((xk s t steps).2.2)]∧Fresh w.heap.size [rF0Bags]∧St w w' [rr ra0Alive rn0Alive rc0Alive 4 1 ((((xk s t steps).1).qC).map (Value.bool)),rr ra0Bags rn0Bags rc0Bags 24 1 rx0Bags,rr Xb Q9 Xa 2 1 ((((xk s t steps).1).qF).map (Value.int .i64))] [xf true rF0Bags rx0Bags (((xk s t steps).1).qI)]) w):=by
 refine en func23 ntmps23 ?_
 have H:=(((((St.start w).arg xO).arg zK).arg zf).arg xF).arg qV
 have vG:=qP qV
 have jM:=qP xF
 have Qh:=qP zf
 have QR:=qP zK
 have yO:=qP xO
 clear qV xF zf zK xO
 have N:=Fresh.nil w.heap.size
 refine zcr (sw (yK H (yS s qB qA qL qJ) fun b1 w2 H=>sw (yK H (yT t qX qR xG xA qO qN) fun b3 w4 H=>sw (xq H ti31 [yN,yN,yN] fun b5 w6 H=>sps [yI 0,yI 0] (zjcc (sw (zu (yS s qB qA qL qJ) isAgg27 sizeOf27 rfl (qH (H.cells 2 rfl) 0 3) ?_)))))))
 refine sw (zu (yT t qX qR xG xA qO qN) isAgg31 sizeOf31 rfl (qH (H.cells 1 rfl) 0 3) (sw (oq (validState_ok _ s t (H.get 0 rfl).1 (H.get 1 rfl).1 (H.get 2 rfl).1 (H.get 3 rfl).1 (H.get 4 rfl).1) H fun w8 H=>sp (.bool (!(dec (yH s∧zl s t)))) (zjn (cQ rfl (fun h10=>?_) (fun h10=>?_))))))
 ·skip
  refine zcr (sw (xJ [yN,yN,yN] [] (sw (qQ H 0 [yN,yN,yN] sizeOf31 fun w11 H=>sps [yI 0,yI 1] (zjr (t_r ?_))))))
  replace H:=H.nilRowB 4
  replace H:=H.nilRow 24 1
  replace H:=H.Qv (α:=yLI)
  replace H:=H.nilRowI 2
  refine retC3 H 3 rfl (yI 0) (yI 1) rfl isAgg31 sizeOf31 rfl rfl rfl ⟨_,rfl,?_,H.base⟩
  rw [run_1 ‹_›]
  exact ⟨none,0,0,none,0,0,[],[],none,0,0,rfl,N.emp,H.pick [2,1,0] [0]⟩
 have k0:=(‹yH s∧zl s t›:yH s∧zl s t)
 have k1:=k0.1
 have k2:=k0.2
 obtain ⟨q7,q8,q9,q10⟩:=k2.sizes k1.1
 have q13:=fun k hk=>Nat.le_trans (q10 k hk) (by decide:8≤1000000)
 refine xx (t_n (zcc (sp (yI steps) (sw (oq (XI w8 steps 0 200) H fun w12 H=>sp (.bool (!(inR steps 0 200))) (zjn (xW (!(inR steps 0 200)) rfl (fun h14=>?_) (fun h14=>?_))))))))
 ·skip
  replace h14:=xB h14
  replace h14:=Q4 h14
  refine zcr (sw (xJ [yN,yN,yN] [] (sw (qQ H 0 [yN,yN,yN] sizeOf31 fun w15 H=>sps [yI 0,yI 2] (zjr (t_r ?_))))))
  replace H:=H.nilRowB 4
  replace H:=H.nilRow 24 1
  replace H:=H.Qv (α:=yLI)
  replace H:=H.nilRowI 2
  refine retC3 H 3 rfl (yI 0) (yI 2) rfl isAgg31 sizeOf31 rfl rfl rfl ⟨_,rfl,?_,H.base⟩
  rw [run_2 ‹_› ‹_›]
  exact ⟨none,0,0,none,0,0,[],[],none,0,0,rfl,N.emp,H.pick [2,1,0] [0]⟩
 replace h14:=xm h14
 replace h14:=QE.1 h14
 refine xx (t_n (zcr (sw (zu (yT t qX qR xG xA qO qN) isAgg31 sizeOf31 rfl (qH (H.cells 1 rfl) 0 3) ?_))))
 have sz19:=H.base.size
 refine sw (oc (Xr _ t (H.get 2 rfl).1 (H.get 3 rfl).1 (H.get 4 rfl).1 qg qg qg qg) ?_)
 rintro _ w17 ⟨ra16Alive,rn16Alive,rc16Alive,ra16Bags,rn16Bags,rc16Bags,rx16Bags,rF16Bags,ra16Around,rn16Around,rc16Around,rfl,M,K⟩ _
 replace N:=N.merge sz19 qm M
 replace H:=H.merge K M
 obtain rfl:=H.Q7 0 rfl
 obtain rfl:=H.zi (α:=yLI) 1 rfl 0 rfl qj
 obtain rfl:=H.zS 2 rfl
 refine sw (xq H ti31 [yN,yN,yN] fun b24 w25 H=>sw (qQ H 0 (yT t ra16Alive rc16Alive ra16Bags rc16Bags ra16Around rc16Around) sizeOf31 fun w26 H=>zjc (sp (yI 0) (zjn (xw ?_)))))
 refine vJ (fun m' ρ w27=>∃ (zB:Env) (n:Nat) (ve:yOA) (zY:Nat) (zZ:Nat) (now_Alive:List Bool) (vU:yOA) (vS:Nat) (vT:Nat) (now_Bags:yLL) (Qn:List Value) (yB:yLN) (zG:yOA) (zD:Nat) (zF:Nat) (now_Around:yLI) (u:qG),ρ=upd (upd (upd (upd (upd zB 2 (yI steps)) 3 (pp b1 0)) 6 (pp b5 0)) 9 (pp b24 0)) 10 (yI n)∧now_Alive=u.qC∧now_Bags=u.qI∧now_Around=u.qF∧(zl s u)∧(0≤(n:Int)∧(n:Int)≤steps)∧(xk s t steps=QJ s (steps - n).toNat n u)∧m' =(steps - n).toNat∧Fresh w.heap.size [yB]∧St w w27 [.box b24 [.slice ve zY zZ,.slice vU vS vT,.slice zG zD zF] 31,rr ve zY zZ 4 1 (now_Alive.map (Value.bool)),rr vU vS vT 24 1 Qn,rr zG zD zF 2 1 (now_Around.map (Value.int .i64)),.box b5 [yN,yN,yN] 31,.box b3 (yT t qX qR xG xA qO qN) 31,.box b1 (yS s qB qA qL qJ) 27] [xf true yB Qn now_Bags,sF false xe qB qA s.qx,sF false xI qL qJ s.qw,sF false zg qX qR t.qC,sF false zO xG xA t.qI,sF false xN qO qN t.qF]) ((steps - 0).toNat) ⟨_,0,ra16Alive,t.qC.length,rc16Alive,t.qC,ra16Bags,t.qI.length,rc16Bags,t.qI,rx16Bags,rF16Bags,ra16Around,t.qF.length,rc16Around,t.qF,t,uE5,(by rfl),(by rfl),(by rfl),(by exact k2),qf,(by rw [run_0 ‹yH s∧zl s t› qf,show (steps - (0:Nat)).toNat=steps.toNat by omega];rfl),rfl,N,H⟩ ?_
 clear H N
 rintro m' ρ w28 ⟨zB,n,ve,zY,zZ,now_Alive,vU,vS,vT,now_Bags,Qn,yB,zG,zD,zF,now_Around,u,rfl,rfl,rfl,rfl,ku,km,kr,rfl,N,H⟩
 have hn_now_Alive:=H.Q7 1 rfl
 have hn_now_Bags:=H.zi (α:=yLI) 2 rfl 0 rfl qj
 have hn_now_Around:=H.zS 3 rfl
 refine zn (xw (zcc (sps [yI n,yI steps,.bool ((n:Int) == steps),.bool ((n:Int) == steps)] ?_)))
 cases h29:((n:Int) == steps)
 ·skip
  replace h29:=ne_of_beq_false h29
  refine qK 29 rfl rfl (sw (zu (yS s qB qA qL qJ) isAgg27 sizeOf27 rfl (qH (H.cells 6 rfl) 0 3) (qK 29 rfl rfl (sw (zu [.slice ve zY zZ,.slice vU vS vT,.slice zG zD zF] isAgg31 sizeOf31 rfl (qH (H.cells 0 rfl) 0 3) (qK 29 rfl rfl ?_))))))
  obtain ⟨G30,hn31,h32⟩:=H.XG 1 rfl
  obtain ⟨G33,hn34,h35⟩:=H.QN (α:=yLI) 2 rfl 0 rfl qj
  obtain ⟨G36,hn37,h38⟩:=H.Ql 3 rfl
  have sz42:=H.base.size
  refine sw (oc (args_eq (by rw [← hn31,← hn34,← hn37]) (applicable_ok _ s u (H.get 1 rfl).1 (H.get 2 rfl).1 (hn31▸h32) (hn34▸h35) (hn37▸h38) qg qg)) ?_)
  rintro _ w40 ⟨ra39,rn39,rc39,rfl,M,K⟩ _
  replace H:=H.merge K M
  obtain rfl:=H.zS 0 rfl
  refine qK 29 rfl rfl (oN rfl (qK 29 rfl rfl (sps [.bool (((appls s u).length:Int) == 0),.bool (((appls s u).length:Int) == 0)] (zjn (cE rfl (fun h45=>?_) (fun h45=>?_))))))
  ·skip
   refine zcr (sw (zu [.slice ve zY zZ,.slice vU vS vT,.slice zG zD zF] isAgg31 sizeOf31 rfl (qH (H.cells 1 rfl) 0 3) (sp (yI n) (sw (qQ H 5 [.slice ve zY zZ,.slice vU vS vT,.slice zG zD zF] sizeOf31 fun w46 H=>sps [yI n,yI 0] (zjr (t_r (b_r (t_r (t_r (b_r (retC3 H 5 rfl (yI n) (yI 0) rfl isAgg31 sizeOf31 rfl rfl rfl ⟨_,rfl,?_,H.base⟩))))))))))))
   first | rw [kr,runGo_end qf] | rw [kr,Qy (appls_halt.1 qf)]
   exact ⟨ve,zY,zZ,vU,vS,vT,Qn,yB,zG,zD,zF,rfl,N,H.pick [2,3,4] [0]⟩
  refine xx (t_n (zn ?_))
  refine c_cut (fun ρ w56=>∃ (zB:Env) (b47:Nat) (ra48:yOA) (rc49:Nat) (ra50:yOA) (rc51:Nat) (ra52:yOA) (rc53:Nat) (rx54:List Value) (rF55:yLN),ρ=upd (upd (upd (upd (upd (upd (upd (upd (upd (upd (upd (upd zB 2 (yI steps)) 3 (pp b1 0)) 6 (pp b5 0)) 9 (pp b24 0)) 10 (yI n)) 11 (pp b47 0)) 12 (yI ((xQ s u (xR s u)).2))) 30 (.agg #[yI s.xn,.slice qB s.qx.length qA,.slice qL s.qw.length qJ])) 31 (.agg #[.slice ve zY zZ,.slice vU vS vT,.slice zG zD zF])) 32 (.slice ra39 ((appls s u).length) rc39)) 33 (yI ((appls s u).length))) 34 (.bool (((appls s u).length:Int) == 0))∧Fresh w.heap.size [rF55,yB]∧St w w56 [.box b47 [.slice ra48 ((((xQ s u (xR s u)).1).qC).length) rc49,.slice ra50 ((((xQ s u (xR s u)).1).qI).length) rc51,.slice ra52 ((((xQ s u (xR s u)).1).qF).length) rc53] 31,rr ra48 ((((xQ s u (xR s u)).1).qC).length) rc49 4 1 ((((xQ s u (xR s u)).1).qC).map (Value.bool)),rr ra50 ((((xQ s u (xR s u)).1).qI).length) rc51 24 1 rx54,rr ra52 ((((xQ s u (xR s u)).1).qF).length) rc53 2 1 ((((xQ s u (xR s u)).1).qF).map (Value.int .i64)),rr ra39 ((appls s u).length) rc39 2 1 ((appls s u).map (Value.int .i64)),.box b24 [.slice ve zY zZ,.slice vU vS vT,.slice zG zD zF] 31,rr ve zY zZ 4 1 (u.qC.map (Value.bool)),rr vU vS vT 24 1 Qn,rr zG zD zF 2 1 (u.qF.map (Value.int .i64)),.box b5 [yN,yN,yN] 31,.box b3 (yT t qX qR xG xA qO qN) 31,.box b1 (yS s qB qA qL qJ) 27] [xf true rF55 rx54 (((xQ s u (xR s u)).1).qI),xf true yB Qn u.qI,sF false xe qB qA s.qx,sF false xI qL qJ s.qw,sF false zg qX qR t.qC,sF false zO xG xA t.qI,sF false xN qO qN t.qF]) ?_ ?_
  ·skip
   refine yF rfl H fun H=>rt 0 (.agg #[yI s.xn,.slice qB s.qx.length qA,.slice qL s.qw.length qJ]) (QC (cs:=(yS s qB qA qL qJ)) isAgg27 sizeOf27 rfl (fun _ h=>qH (h.cells 7 rfl) 0 3)) H ?_
   refine rt 1 (.agg #[.slice ve zY zZ,.slice vU vS vT,.slice zG zD zF]) (QC (cs:=[.slice ve zY zZ,.slice vU vS vT,.slice zG zD zF]) isAgg31 sizeOf31 rfl (fun _ h=>qH (h.cells 1 rfl) 0 3)) H ?_
   refine rt 2 (.agg #[yI s.xn,.slice qB s.qx.length qA,.slice qL s.qw.length qJ]) (QC (cs:=(yS s qB qA qL qJ)) isAgg27 sizeOf27 rfl (fun _ h=>qH (h.cells 7 rfl) 0 3)) H ?_
   refine rt 3 (.agg #[.slice ve zY zZ,.slice vU vS vT,.slice zG zD zF]) (QC (cs:=[.slice ve zY zZ,.slice vU vS vT,.slice zG zD zF]) isAgg31 sizeOf31 rfl (fun _ h=>qH (h.cells 1 rfl) 0 3)) H ?_
   refine zH [4,9] qh qm (vz rfl ?_ (vz rfl ?_ zI))
   ·skip
    obtain ⟨G58,hn59,h60⟩:=H.XG 2 rfl
    obtain ⟨G61,hn62,h63⟩:=H.QN (α:=yLI) 3 rfl 0 rfl qj
    obtain ⟨G64,hn65,h66⟩:=H.Ql 4 rfl
    have sz70:=H.base.size
    refine oc (args_eq (by rw [← hn59,← hn62,← hn65]) (firstChoice_ok _ s u (H.get 1 rfl).1 (H.get 2 rfl).1 (hn59▸h60) (hn62▸h63) (hn65▸h66) qg qg)) ?_
    rintro _ w68 ⟨ra67,rn67,rc67,rfl,M,K⟩ _
    replace H:=H.merge K M
    obtain rfl:=H.zS 0 rfl
    refine ⟨H.pick [1,2,3,4,5,6,7,8] [0,1,2,3,4,5],(zH [5,9] qh qm (vz rfl ?_ (vz rfl ?_ zI)))⟩
    ·skip
     obtain ⟨G73,hn74,h75⟩:=H.XG 3 rfl
     obtain ⟨G76,hn77,h78⟩:=H.QN (α:=yLI) 4 rfl 0 rfl qj
     obtain ⟨G79,hn80,h81⟩:=H.Ql 5 rfl
     obtain ⟨G82,hn83,h84⟩:=H.Ql 0 rfl
     have k3:=first_cnt k1 ku
     have k4:=first_isCh k1 ku
     have sz88:=H.base.size
     have lt89:=H.ltN (L:=[yB]) [0]
     refine oc (args_eq (by rw [← hn74,← hn77,← hn80]) (step_ok _ s u (xR s u) (H.get 1 rfl).1 (H.get 2 rfl).1 (hn74▸h75) (hn77▸h78) (hn80▸h81) h84 qg qg qg qg)) ?_
     rintro _ w86 ⟨ra85aAlive,rn85aAlive,rc85aAlive,ra85aBags,rn85aBags,rc85aBags,rx85aBags,rF85aBags,ra85aAround,rn85aAround,rc85aAround,rfl,M,K⟩ _
     replace N:=N.merge sz88 lt89 M
     replace H:=H.merge K M
     obtain rfl:=H.Q7 0 rfl
     obtain rfl:=H.zi (α:=yLI) 1 rfl 0 rfl qj
     obtain rfl:=H.zS 2 rfl
     refine ⟨H.pick [4,5,6,7,8,9,10,11] [1,2,3,4,5,6],?_⟩
     have S:=H.jR [4,5,6,7,8,9,10,11] [1,2,3,4,5,6]
     refine rtp 6 (.tuple #[.agg #[.slice ra85aAlive ((((xQ s u (xR s u)).1).qC).length) rc85aAlive,.slice ra85aBags ((((xQ s u (xR s u)).1).qI).length) rc85aBags,.slice ra85aAround ((((xQ s u (xR s u)).1).qF).length) rc85aAround],yI ((xQ s u (xR s u)).2)]) S ?_
     refine rtp 7 (.agg #[.slice ra85aAlive ((((xQ s u (xR s u)).1).qC).length) rc85aAlive,.slice ra85aBags ((((xQ s u (xR s u)).1).qI).length) rc85aBags,.slice ra85aAround ((((xQ s u (xR s u)).1).qF).length) rc85aAround]) S ?_
     refine rtp 8 (yI ((xQ s u (xR s u)).2)) S ?_
     refine ro 9 rfl (xq H ti31 [yN,yN,yN] fun b93 w94 H=>⟨H.pick [5,6,7,8,9,10,11,12] [1,2,3,4,5,6],(ro 10 rfl (qQ H 0 [.slice ra85aAlive ((((xQ s u (xR s u)).1).qC).length) rc85aAlive,.slice ra85aBags ((((xQ s u (xR s u)).1).qI).length) rc85aBags,.slice ra85aAround ((((xQ s u (xR s u)).1).qF).length) rc85aAround] sizeOf31 fun w95 H=>⟨H.pick [5,6,7,8,9,10,11,12] [1,2,3,4,5,6],(rtp 11 (yI ((xQ s u (xR s u)).2)) (H.pick [5,6,7,8,9,10,11,12] [1,2,3,4,5,6]) ?_)⟩))⟩)
     refine qZ qh ((meet ⟨_,b93,ra85aAlive,rc85aAlive,ra85aBags,rc85aBags,ra85aAround,rc85aAround,rx85aBags,rF85aBags,uE12,N,H.pick [0,1,2,3,5,6,7,8,9,10,11,12] [0,1,2,3,4,5,6]⟩))
    refine xq H ti31 [yN,yN,yN] fun b96 w97 H=>⟨H.pick [2,3,4,5,6,7,8,9] [0,1,2,3,4,5],(ro 5 rfl ?_)⟩
    obtain ⟨G98,hn99,h100⟩:=H.XG 4 rfl
    obtain ⟨G101,hn102,h103⟩:=H.QN (α:=yLI) 5 rfl 0 rfl qj
    obtain ⟨G104,hn105,h106⟩:=H.Ql 6 rfl
    obtain ⟨G107,hn108,h109⟩:=H.Ql 1 rfl
    have k3:=first_cnt k1 ku
    have k4:=first_isCh k1 ku
    have sz113:=H.base.size
    have lt114:=H.ltN (L:=[yB]) [0]
    refine oc (args_eq (by rw [← hn99,← hn102,← hn105]) (step_ok _ s u (xR s u) (H.get 1 rfl).1 (H.get 2 rfl).1 (hn99▸h100) (hn102▸h103) (hn105▸h106) h109 qg qg qg qg)) ?_
    rintro _ w111 ⟨ra110aAlive,rn110aAlive,rc110aAlive,ra110aBags,rn110aBags,rc110aBags,rx110aBags,rF110aBags,ra110aAround,rn110aAround,rc110aAround,rfl,M,K⟩ _
    replace N:=N.merge sz113 lt114 M
    replace H:=H.merge K M
    obtain rfl:=H.Q7 0 rfl
    obtain rfl:=H.zi (α:=yLI) 1 rfl 0 rfl qj
    obtain rfl:=H.zS 2 rfl
    refine ⟨H.pick [5,6,7,8,9,10,11,12] [1,2,3,4,5,6],?_⟩
    have S:=H.jR [5,6,7,8,9,10,11,12] [1,2,3,4,5,6]
    refine rtp 6 (.tuple #[.agg #[.slice ra110aAlive ((((xQ s u (xR s u)).1).qC).length) rc110aAlive,.slice ra110aBags ((((xQ s u (xR s u)).1).qI).length) rc110aBags,.slice ra110aAround ((((xQ s u (xR s u)).1).qF).length) rc110aAround],yI ((xQ s u (xR s u)).2)]) S ?_
    refine rtp 7 (.agg #[.slice ra110aAlive ((((xQ s u (xR s u)).1).qC).length) rc110aAlive,.slice ra110aBags ((((xQ s u (xR s u)).1).qI).length) rc110aBags,.slice ra110aAround ((((xQ s u (xR s u)).1).qF).length) rc110aAround]) S ?_
    refine rtp 8 (yI ((xQ s u (xR s u)).2)) S ?_
    refine ro 10 rfl (qQ H 3 [.slice ra110aAlive ((((xQ s u (xR s u)).1).qC).length) rc110aAlive,.slice ra110aBags ((((xQ s u (xR s u)).1).qI).length) rc110aBags,.slice ra110aAround ((((xQ s u (xR s u)).1).qF).length) rc110aAround] sizeOf31 fun w118 H=>⟨H.pick [5,6,7,8,9,10,11,12] [1,2,3,4,5,6],(rtp 11 (yI ((xQ s u (xR s u)).2)) (H.pick [5,6,7,8,9,10,11,12] [1,2,3,4,5,6]) ?_)⟩)
    refine qZ qh ((meet ⟨_,b96,ra110aAlive,rc110aAlive,ra110aBags,rc110aBags,ra110aAround,rc110aAround,rx110aBags,rF110aBags,uE12,N,H.pick [3,0,1,2,5,6,7,8,9,10,11,12] [0,1,2,3,4,5,6]⟩))
   refine xq H ti31 [yN,yN,yN] fun b119 w120 H=>⟨H.pick [1,2,3,4,5,6,7,8] [0,1,2,3,4,5],(ro 4 rfl ?_)⟩
   obtain ⟨G121,hn122,h123⟩:=H.XG 3 rfl
   obtain ⟨G124,hn125,h126⟩:=H.QN (α:=yLI) 4 rfl 0 rfl qj
   obtain ⟨G127,hn128,h129⟩:=H.Ql 5 rfl
   have sz133:=H.base.size
   refine oc (args_eq (by rw [← hn122,← hn125,← hn128]) (firstChoice_ok _ s u (H.get 1 rfl).1 (H.get 2 rfl).1 (hn122▸h123) (hn125▸h126) (hn128▸h129) qg qg)) ?_
   rintro _ w131 ⟨ra130,rn130,rc130,rfl,M,K⟩ _
   replace H:=H.merge K M
   obtain rfl:=H.zS 0 rfl
   refine ⟨H.pick [2,3,4,5,6,7,8,9] [0,1,2,3,4,5],(ro 5 rfl ?_)⟩
   obtain ⟨G136,hn137,h138⟩:=H.XG 4 rfl
   obtain ⟨G139,hn140,h141⟩:=H.QN (α:=yLI) 5 rfl 0 rfl qj
   obtain ⟨G142,hn143,h144⟩:=H.Ql 6 rfl
   obtain ⟨G145,hn146,h147⟩:=H.Ql 0 rfl
   have k3:=first_cnt k1 ku
   have k4:=first_isCh k1 ku
   have sz151:=H.base.size
   have lt152:=H.ltN (L:=[yB]) [0]
   refine oc (args_eq (by rw [← hn137,← hn140,← hn143]) (step_ok _ s u (xR s u) (H.get 1 rfl).1 (H.get 2 rfl).1 (hn137▸h138) (hn140▸h141) (hn143▸h144) h147 qg qg qg qg)) ?_
   rintro _ w149 ⟨ra148aAlive,rn148aAlive,rc148aAlive,ra148aBags,rn148aBags,rc148aBags,rx148aBags,rF148aBags,ra148aAround,rn148aAround,rc148aAround,rfl,M,K⟩ _
   replace N:=N.merge sz151 lt152 M
   replace H:=H.merge K M
   obtain rfl:=H.Q7 0 rfl
   obtain rfl:=H.zi (α:=yLI) 1 rfl 0 rfl qj
   obtain rfl:=H.zS 2 rfl
   refine ⟨H.pick [5,6,7,8,9,10,11,12] [1,2,3,4,5,6],?_⟩
   have S:=H.jR [5,6,7,8,9,10,11,12] [1,2,3,4,5,6]
   refine rtp 6 (.tuple #[.agg #[.slice ra148aAlive ((((xQ s u (xR s u)).1).qC).length) rc148aAlive,.slice ra148aBags ((((xQ s u (xR s u)).1).qI).length) rc148aBags,.slice ra148aAround ((((xQ s u (xR s u)).1).qF).length) rc148aAround],yI ((xQ s u (xR s u)).2)]) S ?_
   refine rtp 7 (.agg #[.slice ra148aAlive ((((xQ s u (xR s u)).1).qC).length) rc148aAlive,.slice ra148aBags ((((xQ s u (xR s u)).1).qI).length) rc148aBags,.slice ra148aAround ((((xQ s u (xR s u)).1).qF).length) rc148aAround]) S ?_
   refine rtp 8 (yI ((xQ s u (xR s u)).2)) S ?_
   refine ro 10 rfl (qQ H 4 [.slice ra148aAlive ((((xQ s u (xR s u)).1).qC).length) rc148aAlive,.slice ra148aBags ((((xQ s u (xR s u)).1).qI).length) rc148aBags,.slice ra148aAround ((((xQ s u (xR s u)).1).qF).length) rc148aAround] sizeOf31 fun w156 H=>⟨H.pick [5,6,7,8,9,10,11,12] [1,2,3,4,5,6],(rtp 11 (yI ((xQ s u (xR s u)).2)) (H.pick [5,6,7,8,9,10,11,12] [1,2,3,4,5,6]) ?_)⟩)
   refine qZ qh ((meet ⟨_,b119,ra148aAlive,rc148aAlive,ra148aBags,rc148aBags,ra148aAround,rc148aAround,rx148aBags,rF148aBags,uE12,N,H.pick [4,0,1,2,5,6,7,8,9,10,11,12] [0,1,2,3,4,5,6]⟩))
  clear H N
  rintro ρ w157 ⟨zB,b47,ra48,rc49,ra50,rc51,ra52,rc53,rx54,rF55,rfl,N,H⟩
  refine t_n (zcc (sps [yI ((xQ s u (xR s u)).2),.bool (((xQ s u (xR s u)).2:Int) != 0)] (zjn (xW (((xQ s u (xR s u)).2:Int) != 0) rfl (fun h158=>?_) (fun h158=>?_)))))
  ·skip
   replace h158:=bne_iff_ne.1 h158
   refine zcr (sw (xJ [yN,yN,yN] [] (sp (yI ((xQ s u (xR s u)).2)) (sw (qQ H 9 [yN,yN,yN] sizeOf31 fun w159 H=>sps [yI 0,yI ((xQ s u (xR s u)).2)] (zjr (t_r (b_r (t_r (t_r (b_r ?_)))))))))))
   replace H:=H.nilRowB 4
   replace H:=H.nilRow 24 1
   replace H:=H.Qv (α:=yLI)
   replace H:=H.nilRowI 2
   refine retC3 H 12 rfl (yI 0) (yI ((xQ s u (xR s u)).2)) rfl isAgg31 sizeOf31 rfl rfl rfl ⟨_,rfl,?_,H.base⟩
   rw [kr,runGo_bad qf (fun h=>by have:=appls_halt.2 h;omega) ‹_›]
   exact ⟨none,0,0,none,0,0,[],[],none,0,0,rfl,(N.emp.pick [0]),H.pick [2,1,0] [0]⟩
  replace h158:=zL h158
  refine xx (t_n (zk (sw (zu [.slice ra48 ((((xQ s u (xR s u)).1).qC).length) rc49,.slice ra50 ((((xQ s u (xR s u)).1).qI).length) rc51,.slice ra52 ((((xQ s u (xR s u)).1).qF).length) rc53] isAgg31 sizeOf31 rfl (qH (H.cells 0 rfl) 0 3) (sw (qQ H 5 [.slice ra48 ((((xQ s u (xR s u)).1).qC).length) rc49,.slice ra50 ((((xQ s u (xR s u)).1).qI).length) rc51,.slice ra52 ((((xQ s u (xR s u)).1).qF).length) rc53] sizeOf31 fun w160 H=>zt (b_n (t_n (zk (sp (yI n) (sw (zX n 1 rfl rfl qf (sp (yI (n+1)) (zt ?_))))))))))))))
  refine xu (m' :=(steps - (n+1)).toNat) qf ⟨_,n+1,ra48,(((xQ s u (xR s u)).1).qC).length,rc49,((xQ s u (xR s u)).1).qC,ra50,(((xQ s u (xR s u)).1).qI).length,rc51,((xQ s u (xR s u)).1).qI,rx54,rF55,ra52,(((xQ s u (xR s u)).1).qF).length,rc53,((xQ s u (xR s u)).1).qF,(xQ s u (xR s u)).1,uE5,?_,?_,?_,?_,?_,?_,rfl,(N.pick [0]),H.pick [5,1,2,3,9,10,11] [0,2,3,4,5,6]⟩
  · rfl
  · rfl
  · rfl
  · exact stepBy_ok ‹_›
  · omega
  · exact kr.trans (runGo_go qf (fun h=>by have:=appls_halt.2 h;omega) ‹_›)
 replace h29:=eq_of_beq h29
 refine xK [30,31,32,33,34] (sp (.bool true) (zjn (xW true rfl (fun _=>zcr (sw (zu [.slice ve zY zZ,.slice vU vS vT,.slice zG zD zF] isAgg31 sizeOf31 rfl (qH (H.cells 0 rfl) 0 3) (sp (yI n) (sw (qQ H 4 [.slice ve zY zZ,.slice vU vS vT,.slice zG zD zF] sizeOf31 fun w161 H=>sps [yI n,yI 0] (zjr (t_r (b_r (t_r (t_r (b_r ?_)))))))))))) (fun h=>absurd h qj))))
 refine retC3 H 4 rfl (yI n) (yI 0) rfl isAgg31 sizeOf31 rfl rfl rfl ⟨_,rfl,?_,H.base⟩
 first | rw [kr,runGo_end qf] | rw [kr,Qy (appls_halt.1 qf)]
 exact ⟨ve,zY,zZ,vU,vS,vT,Qn,yB,zG,zD,zF,rfl,N,H.pick [1,2,3] [0]⟩
end
section
open Go.RowKit
set_option linter.unusedVariables false
set_option linter.unusedSimpArgs false
set_option maxRecDepth 100000
set_option maxHeartbeats 4000000
theorem dNext_ok {W0 w:World} {ps:List Prv} {Γ:List Fact} {Ns:List yLN} (code:List UInt8) (ip:Int) (sd:Int) (bs:Nat) (ac:yOA) (cc:Nat) (Fc:yLN) (H:St W0 w ((.box bs [.slice ac code.length cc,.int .i64 ip,.int .u64 sd] 95) :: ps) ((sF false Fc ac cc code) :: Γ)) (N:Fresh W0.heap.size (Ns)) (K0:Kept Ns Γ) (q0:0≤ip∧ip≤100000):Calls Try.prog 103 #[.pointer (some ⟨bs,0,none⟩)] w (fun e w' =>∃ v,e=.returned v∧∃ (ip_:Int) (sd_:Int) (v_:Int),(ip≤ip_∧ip_≤ip+1)∧(0≤v_∧v_≤255)∧v=.int .i64 v_∧Fresh W0.heap.size (Ns)∧St W0 w' ((.box bs [.slice ac code.length cc,.int .i64 ip_,.int .u64 sd_] 95) :: ps) ((sF false Fc ac cc code) :: Γ)):=by
 refine en Try.func103 Try.ntmps103 ?_
 have ncode:=qP (H.get 0 rfl).1
 refine zcr (sp (.int .i64 0) (zjc (sp (.int .i64 0) (zjn (zn (zn ?_))))))
 refine c_drawK2 rfl H [0] [0] fun H=>?_
 have S:=H.jR [0] [0]
 refine rtp 0 (.pointer (some ⟨bs,0,none⟩)) S ?_
 refine rtp 1 (.pointer (some ⟨bs,0,none⟩)) S ?_
 refine tF 2 rfl rfl S ?_
 refine tL 3 rfl rfl (fun _ h=>h.cell 0 rfl rfl) S ?_
 refine rtp 4 (.pointer (some ⟨bs,0,none⟩)) S ?_
 refine rtp 5 (.pointer (some ⟨bs,0,none⟩)) S ?_
 refine tF 6 rfl rfl S ?_
 refine tL 7 rfl rfl (fun _ h=>h.cell 0 rfl rfl) S ?_
 refine tN 8 rfl rfl S ?_
 refine rtp 9 (.bool (decide ((ip:Int) < code.length))) S ?_
 refine qZ qh (t_n (cD rfl (fun h2=>?_) (fun h2=>?_)))
 ·skip
  refine c_drawK2 rfl H [0] [0] fun H=>?_
  have S:=H.jR [0] [0]
  refine rtp 0 (.pointer (some ⟨bs,0,none⟩)) S ?_
  refine rtp 1 (.pointer (some ⟨bs,0,none⟩)) S ?_
  refine tF 2 rfl rfl S ?_
  refine tL 3 rfl rfl (fun _ h=>h.cell 0 rfl rfl) S ?_
  refine rtp 4 (.pointer (some ⟨bs,0,none⟩)) S ?_
  refine rtp 5 (.pointer (some ⟨bs,0,none⟩)) S ?_
  refine tF 6 rfl rfl S ?_
  refine tL 7 rfl rfl (fun _ h=>h.cell 0 rfl rfl) S ?_
  obtain ⟨b4,o5,rfl⟩:=H.addr 0 rfl qf
  refine tI 8 rfl rfl rfl (H.pick [0] [0]) ?_
  refine ro 9 rfl ?_
  have hb7:=byte_lt (code[ip.toNat]!)
  refine zh (.int .u8 (((code[ip.toNat]!).toNat:Nat):Int)) Try.isAgg5 rfl (H.elemByte 0 rfl ip ip.toNat qf qf qf) (⟨H.pick [0] [0],(ro 10 rfl (o_convI (((code[ip.toNat]!).toNat:Nat):Int) Try.underlying5 Try.underlying3 rfl qf (⟨H.pick [0] [0],(rtp 11 (.int .i64 (((code[ip.toNat]!).toNat:Nat):Int)) (H.pick [0] [0]) ?_)⟩)))⟩)
  refine qZ qh (t_n (zcr (sps [.pointer (some ⟨bs,0,none⟩),.pointer (some ⟨bs,0,none⟩)] (oF rfl (oL rfl (H.cell 0 rfl rfl) (sw (zX ip 1 rfl rfl qf (sp (.pointer (some ⟨bs,0,none⟩)) (oF rfl (sw (zQ H 0 [.slice (some ⟨b4,o5,none⟩) code.length cc,.int .i64 (ip+1),.int .u64 sd] Try.sizeOf3 fun w8 H=>?_)))))))))))
  try dsimp only [List.set] at H
  refine zjc (sps [.pointer (some ⟨bs,0,none⟩),.pointer (some ⟨bs,0,none⟩),.pointer (some ⟨bs,0,none⟩)] (oF rfl (oL rfl (H.cell 0 rfl rfl) (sw (o_mulU sd 6364136223846793005 rfl rfl fun r9=>sp (.int .i64 (((code[ip.toNat]!).toNat:Nat):Int)) (sw (o_convU (((code[ip.toNat]!).toNat:Nat):Int) Try.underlying3 Try.underlying93 rfl fun r10=>sw (o_addU r9 r10 rfl rfl fun r11=>sw (o_addU r11 1442695040888963407 rfl rfl fun r12=>sp (.pointer (some ⟨bs,0,none⟩)) (oF rfl (sw (zQ H 0 [.slice (some ⟨b4,o5,none⟩) code.length cc,.int .i64 (ip+1),.int .u64 r12] Try.sizeOf93 fun w13 H=>?_))))))))))))
  try dsimp only [List.set] at H
  refine zjn (zn (zn ?_))
  refine c_drawK2 rfl H [0] [0] fun H=>?_
  have S:=H.jR [0] [0]
  refine rtp 0 (.pointer (some ⟨bs,0,none⟩)) S ?_
  refine rtp 1 (.pointer (some ⟨bs,0,none⟩)) S ?_
  refine tF 2 rfl rfl S ?_
  refine tL 3 rfl rfl (fun _ h=>h.cell 0 rfl rfl) S ?_
  refine rtp 4 (.pointer (some ⟨bs,0,none⟩)) S ?_
  refine rtp 5 (.pointer (some ⟨bs,0,none⟩)) S ?_
  refine tF 6 rfl rfl S ?_
  refine tL 7 rfl rfl (fun _ h=>h.cell 0 rfl rfl) S ?_
  refine tN 8 rfl rfl S ?_
  refine rtp 9 (.bool (decide ((ip+1:Int)≤code.length))) S ?_
  refine qZ qh (t_n (cD rfl (fun h15=>?_) (fun h15=>?_)))
  ·skip
   refine zcr (sps [.int .i64 (((code[ip.toNat]!).toNat:Nat):Int),.int .i64 (((code[ip.toNat]!).toNat:Nat):Int)] (zjr (t_r (ret1 (.int .i64 (((code[ip.toNat]!).toNat:Nat):Int)) rfl rfl ⟨_,rfl,(⟨ip+1,r12,(((code[ip.toNat]!).toNat:Nat):Int),qf,qf,rfl,N,H.xC 1 1 [0] [0] qo qo⟩)⟩))))
  ·skip
   refine xx (t_n (zcr (sps [.pointer (some ⟨bs,0,none⟩),.pointer (some ⟨bs,0,none⟩)] (oF rfl (oL rfl (H.cell 0 rfl rfl) (sw (o_shrU r12 40 qj rfl rfl fun r16=>sw (o_andU r16 rfl rfl fun r17 hr17=>sw (o_convI r17 Try.underlying93 Try.underlying2 rfl qf (sp (.int .i64 r17) (zjr (ret1 (.int .i64 r17) rfl rfl ⟨_,rfl,(⟨ip+1,r12,r17,qf,qf,rfl,N,H.xC 1 1 [0] [0] qo qo⟩)⟩))))))))))))
 ·skip
  refine xx (t_n (zcr (sps [.pointer (some ⟨bs,0,none⟩),.pointer (some ⟨bs,0,none⟩)] (oF rfl (oL rfl (H.cell 0 rfl rfl) (sw (zX ip 1 rfl rfl qf (sp (.pointer (some ⟨bs,0,none⟩)) (oF rfl (sw (zQ H 0 [.slice ac code.length cc,.int .i64 (ip+1),.int .u64 sd] Try.sizeOf3 fun w18 H=>?_)))))))))))
  try dsimp only [List.set] at H
  refine zjc (sps [.pointer (some ⟨bs,0,none⟩),.pointer (some ⟨bs,0,none⟩),.pointer (some ⟨bs,0,none⟩)] (oF rfl (oL rfl (H.cell 0 rfl rfl) (sw (o_mulU sd 6364136223846793005 rfl rfl fun r19=>sp (.int .i64 0) (sw (o_convU 0 Try.underlying3 Try.underlying93 rfl fun r20=>sw (o_addU r19 r20 rfl rfl fun r21=>sw (o_addU r21 1442695040888963407 rfl rfl fun r22=>sp (.pointer (some ⟨bs,0,none⟩)) (oF rfl (sw (zQ H 0 [.slice ac code.length cc,.int .i64 (ip+1),.int .u64 r22] Try.sizeOf93 fun w23 H=>?_))))))))))))
  try dsimp only [List.set] at H
  refine zjn (zn (zn ?_))
  refine c_drawK2 rfl H [0] [0] fun H=>?_
  have S:=H.jR [0] [0]
  refine rtp 0 (.pointer (some ⟨bs,0,none⟩)) S ?_
  refine rtp 1 (.pointer (some ⟨bs,0,none⟩)) S ?_
  refine tF 2 rfl rfl S ?_
  refine tL 3 rfl rfl (fun _ h=>h.cell 0 rfl rfl) S ?_
  refine rtp 4 (.pointer (some ⟨bs,0,none⟩)) S ?_
  refine rtp 5 (.pointer (some ⟨bs,0,none⟩)) S ?_
  refine tF 6 rfl rfl S ?_
  refine tL 7 rfl rfl (fun _ h=>h.cell 0 rfl rfl) S ?_
  refine tN 8 rfl rfl S ?_
  refine rtp 9 (.bool (decide ((ip+1:Int)≤code.length))) S ?_
  refine qZ qh (t_n (cD rfl (fun h25=>?_) (fun h25=>?_)))
  ·skip
   refine zcr (sps [.int .i64 0,.int .i64 0] (zjr (t_r (ret1 (.int .i64 0) rfl rfl ⟨_,rfl,(⟨ip+1,r22,0,qf,qf,rfl,N,H.xC 1 1 [0] [0] qo qo⟩)⟩))))
  ·skip
   refine xx (t_n (zcr (sps [.pointer (some ⟨bs,0,none⟩),.pointer (some ⟨bs,0,none⟩)] (oF rfl (oL rfl (H.cell 0 rfl rfl) (sw (o_shrU r22 40 qj rfl rfl fun r26=>sw (o_andU r26 rfl rfl fun r27 hr27=>sw (o_convI r27 Try.underlying93 Try.underlying2 rfl qf (sp (.int .i64 r27) (zjr (ret1 (.int .i64 r27) rfl rfl ⟨_,rfl,(⟨ip+1,r22,r27,qf,qf,rfl,N,H.xC 1 1 [0] [0] qo qo⟩)⟩))))))))))))

theorem jG {W0 w:World} {ps:List Prv} {Γ:List Fact} {Ns:List yLN} (code:List UInt8) (ip:Int) (sd:Int) (bs:Nat) (ac:yOA) (cc:Nat) (Fc:yLN) (nn:Int) (H:St W0 w ((.box bs [.slice ac code.length cc,.int .i64 ip,.int .u64 sd] 95) :: ps) ((sF false Fc ac cc code) :: Γ)) (N:Fresh W0.heap.size (Ns)) (K0:Kept Ns Γ) (q0:0≤ip∧ip≤90000):Calls Try.prog 62 #[.pointer (some ⟨bs,0,none⟩),.int .i64 nn] w (fun e w' =>∃ v,e=.returned v∧∃ (ip_:Int) (sd_:Int) (v_:Int),(ip≤ip_∧ip_≤ip+2)∧(0≤v_∧(v_ < nn∨v_=0))∧v=.int .i64 v_∧Fresh W0.heap.size (Ns)∧St W0 w' ((.box bs [.slice ac code.length cc,.int .i64 ip_,.int .u64 sd_] 95) :: ps) ((sF false Fc ac cc code) :: Γ)):=by
 refine en Try.func62 Try.ntmps62 ?_
 have ncode:=qP (H.get 0 rfl).1
 refine zcr (sp (.int .i64 0) (zjcc (sps [.int .i64 nn,.bool (decide ((nn:Int)≤1))] (zjn (cD rfl (fun h1=>?_) (fun h1=>?_))))))
 ·skip
  refine zcr (sp (.int .i64 0) (zjr (t_r (ret1 (.int .i64 0) rfl rfl ⟨_,rfl,(⟨ip,sd,0,qf,(by first | omega | exact ⟨hm _,.inl (hm2 _)⟩),rfl,N,H.xC 1 1 [0] [0] qo qo⟩)⟩))))
 ·skip
  refine xx (t_n (zcr (sp (.pointer (some ⟨bs,0,none⟩)) ?_)))
  have H1:St W0 w ((.box bs [.slice ac code.length cc,.int .i64 ip,.int .u64 sd] 95) :: ps) ((sF false Fc ac cc code) :: Γ):=H.xC 1 1 [0] [0] qo qo
  have N1:Fresh _ (Ns):=N
  have K1:Kept (Ns) (Γ):=K0.behind 0 rfl
  refine sw (xH #[.pointer (some ⟨bs,0,none⟩)] rfl rfl Try.call103 (dNext_ok code ip sd bs ac cc Fc H1 N1 K1 qg) ?_)
  clear H H1 N1 K1
  rintro _ w2 ⟨zi6,zi7,zi8,hx4,hx5,rfl,N,H⟩
  refine sp (.int .i64 zi8) (zjcc (sps [.int .i64 nn,.bool (decide ((nn:Int) > 200))] (zjn (cD rfl (fun h9=>?_) (fun h9=>?_)))))
  ·skip
   refine zk (sp (.int .i64 zi8) (sw (o_mul zi8 256 rfl rfl qf (sp (.pointer (some ⟨bs,0,none⟩)) ?_))))
   have H1:St W0 w2 ((.box bs [.slice ac code.length cc,.int .i64 zi6,.int .u64 zi7] 95) :: ps) ((sF false Fc ac cc code) :: Γ):=H.xC 1 1 [0] [0] qo qo
   have N1:Fresh _ (Ns):=N
   have K1:Kept (Ns) (Γ):=K0.behind 0 rfl
   refine sw (xH #[.pointer (some ⟨bs,0,none⟩)] rfl rfl Try.call103 (dNext_ok code zi6 zi7 bs ac cc Fc H1 N1 K1 qg) ?_)
   clear H H1 N1 K1
   rintro _ w10 ⟨zi14,zi15,zi16,hx12,hx13,rfl,N,H⟩
   refine sw (zX (zi8 * 256) zi16 rfl rfl qf (sp (.int .i64 ((zi8 * 256)+zi16)) (zjc (sps [.int .i64 ((zi8 * 256)+zi16),.int .i64 nn] (sw (o_rem ((zi8 * 256)+zi16) nn rfl rfl qf qf qf (sp (.int .i64 (((zi8 * 256)+zi16) % nn)) (zjr (ret1 (.int .i64 (((zi8 * 256)+zi16) % nn)) rfl rfl ⟨_,rfl,?_⟩)))))))))
   have hm:=fun (x:Int)=>Int.emod_nonneg x (show nn≠0 by omega)
   have hm2:=fun (x:Int)=>Int.emod_lt_of_pos x (show 0 < nn by omega)
   exact ⟨zi14,zi15,((zi8 * 256)+zi16) % nn,qf,(by first | omega | exact ⟨hm _,.inl (hm2 _)⟩),rfl,N,H.xC 1 1 [0] [0] qo qo⟩
  ·skip
   refine xx (t_n (zcr (sps [.int .i64 zi8,.int .i64 nn] (sw (o_rem zi8 nn rfl rfl qf qf qf (sp (.int .i64 (zi8 % nn)) (zjr (ret1 (.int .i64 (zi8 % nn)) rfl rfl ⟨_,rfl,?_⟩))))))))
   have hm:=fun (x:Int)=>Int.emod_nonneg x (show nn≠0 by omega)
   have hm2:=fun (x:Int)=>Int.emod_lt_of_pos x (show 0 < nn by omega)
   exact ⟨zi6,zi7,zi8 % nn,qf,(by first | omega | exact ⟨hm _,.inl (hm2 _)⟩),rfl,N,H.xC 1 1 [0] [0] qo qo⟩

theorem dOne_ok {W0 w:World} {ps:List Prv} {Γ:List Fact} {Ns:List yLN} (code:List UInt8) (ip:Int) (sd:Int) (bs:Nat) (ac:yOA) (cc:Nat) (Fc:yLN) (nn:Int) (H:St W0 w ((.box bs [.slice ac code.length cc,.int .i64 ip,.int .u64 sd] 95) :: ps) ((sF false Fc ac cc code) :: Γ)) (N:Fresh W0.heap.size (Ns)) (K0:Kept Ns Γ) (q0:0≤ip∧ip≤90000):Calls Try.prog 64 #[.pointer (some ⟨bs,0,none⟩),.int .i64 nn] w (fun e w' =>∃ v,e=.returned v∧∃ (ip_:Int) (sd_:Int) (v_:Bool),(ip≤ip_∧ip_≤ip+2)∧v=.bool v_∧Fresh W0.heap.size (Ns)∧St W0 w' ((.box bs [.slice ac code.length cc,.int .i64 ip_,.int .u64 sd_] 95) :: ps) ((sF false Fc ac cc code) :: Γ)):=by
 refine en Try.func64 Try.ntmps64 ?_
 have ncode:=qP (H.get 0 rfl).1
 refine zcr (sp (.bool false) (zjc (sps [.pointer (some ⟨bs,0,none⟩),.int .i64 nn] ?_)))
 have H1:St W0 w ((.box bs [.slice ac code.length cc,.int .i64 ip,.int .u64 sd] 95) :: ps) ((sF false Fc ac cc code) :: Γ):=H.xC 1 1 [0] [0] qo qo
 have N1:Fresh _ (Ns):=N
 have K1:Kept (Ns) (Γ):=K0.behind 0 rfl
 refine sw (xH #[.pointer (some ⟨bs,0,none⟩),.int .i64 nn] rfl rfl Try.call62 (jG code ip sd bs ac cc Fc nn H1 N1 K1 qg) ?_)
 clear H H1 N1 K1
 rintro _ w1 ⟨zi5,zi6,zi7,hx3,hx4,rfl,N,H⟩
 refine sps [.bool ((zi7:Int) == 0),.bool ((zi7:Int) == 0)] (zjr (ret1 (.bool ((zi7:Int) == 0)) rfl rfl ⟨_,rfl,(⟨zi5,zi6,(zi7:Int) == 0,qf,rfl,N,H.xC 1 1 [0] [0] qo qo⟩)⟩))

theorem dFew_ok {W0 w:World} {ps:List Prv} {Γ:List Fact} {Ns:List yLN} (code:List UInt8) (ip:Int) (sd:Int) (bs:Nat) (ac:yOA) (cc:Nat) (Fc:yLN) (kk:Int) (most:Int) (H:St W0 w ((.box bs [.slice ac code.length cc,.int .i64 ip,.int .u64 sd] 95) :: ps) ((sF false Fc ac cc code) :: Γ)) (N:Fresh W0.heap.size (Ns)) (K0:Kept Ns Γ) (q0:0≤ip∧ip≤80000) (q1:1≤kk∧kk≤8) (q2:1≤most∧most≤6):Calls Try.prog 65 #[.pointer (some ⟨bs,0,none⟩),.int .i64 kk,.int .i64 most] w (fun e w' =>∃ v,e=.returned v∧∃ (ip_:Int) (sd_:Int) (out_:yLI) (rao:yOA) (rno:Nat) (rco:Nat),(ip≤ip_∧ip_≤ip+20)∧(zV kk most out_)∧v=.slice rao rno rco∧Fresh W0.heap.size (Ns)∧St W0 w' ((.box bs [.slice ac code.length cc,.int .i64 ip_,.int .u64 sd_] 95) :: (rr rao rno rco 2 1 (out_.map (Value.int .i64))) :: ps) ((sF false Fc ac cc code) :: Γ)):=by
 refine en Try.func65 Try.ntmps65 ?_
 have ncode:=qP (H.get 0 rfl).1
 refine zcr (sp (.slice none 0 0) (zjc (sp (.int .i64 kk) (sw (x8 H Try.underlying24 ti2 kk.toNat rfl rfl qf qf qf fun b1 w2 H=>sp (.slice (some ⟨b1,0,none⟩) kk.toNat kk.toNat) (zjcc (sps [.pointer (some ⟨bs,0,none⟩),.int .i64 most] (sw (zX most 1 rfl rfl qf ?_)))))))))
 have H1:St W0 w2 ((.box bs [.slice ac code.length cc,.int .i64 ip,.int .u64 sd] 95) :: (rr (some ⟨b1,0,none⟩) kk.toNat kk.toNat 2 1 ((List.replicate kk.toNat (0:Int)).map (Value.int .i64))) :: ps) ((sF false Fc ac cc code) :: Γ):=H.xC 2 1 [1,0] [0] qo qo
 have N1:Fresh _ (Ns):=N
 have K1:Kept (Ns) (Γ):=K0.behind 0 rfl
 refine sw (xH #[.pointer (some ⟨bs,0,none⟩),.int .i64 (most+1)] rfl rfl Try.call62 (jG code ip sd bs ac cc Fc (most+1) H1 N1 K1 qg) ?_)
 clear H H1 N1 K1
 rintro _ w3 ⟨zi7,zi8,zi9,hx5,hx6,rfl,N,H⟩
 refine sp (.int .i64 zi9) (zjn (xw ?_))
 refine vJ (fun m' ρ w10=>∃ (zB:Env) (k:Int) (s_at:Int) (s_seed:Int) (out:yLI),ρ=upd (upd (upd (upd zB 0 (.pointer (some ⟨bs,0,none⟩))) 1 (.int .i64 kk)) 7 (.slice (some ⟨b1,0,none⟩) kk.toNat kk.toNat)) 8 (.int .i64 k)∧(0≤k∧k≤most)∧(ip≤s_at∧s_at+2 * k≤ip+20)∧(zV kk (most - k) out)∧m' =k.toNat∧Fresh W0.heap.size (Ns)∧St W0 w10 ((.box bs [.slice ac code.length cc,.int .i64 s_at,.int .u64 s_seed] 95) :: (rr (some ⟨b1,0,none⟩) kk.toNat kk.toNat 2 1 (out.map (Value.int .i64))) :: ps) ((sF false Fc ac cc code) :: Γ)) (zi9.toNat) ⟨_,zi9,zi7,zi8,(List.replicate kk.toNat (0:Int)),uE4,qf,qf,(by exact zV.zero qf qf),rfl,N,H⟩ ?_
 clear H N
 rintro m' ρ w11 ⟨zB,k,s_at,s_seed,out,rfl,i1,i2,i3,rfl,N,H⟩
 have hn_out:=H.zS 1 rfl
 have i4:=i3.len qf
 refine zcc (sps [.int .i64 k,.bool (decide ((k:Int) > 0))] (zjn (cD rfl (fun h12=>?_) (fun h12=>?_))))
 ·skip
  refine xx (t_n (zn (xw (zk (sps [.slice (some ⟨b1,0,none⟩) kk.toNat kk.toNat,.pointer (some ⟨bs,0,none⟩),.int .i64 kk] ?_)))))
  have H1:St W0 w11 ((.box bs [.slice ac code.length cc,.int .i64 s_at,.int .u64 s_seed] 95) :: (rr (some ⟨b1,0,none⟩) kk.toNat kk.toNat 2 1 (out.map (Value.int .i64))) :: ps) ((sF false Fc ac cc code) :: Γ):=H.xC 2 1 [0,1] [0] qo qo
  have N1:Fresh _ (Ns):=N
  have K1:Kept (Ns) (Γ):=K0.behind 0 rfl
  refine sw (xH #[.pointer (some ⟨bs,0,none⟩),.int .i64 kk] rfl rfl Try.call62 (jG code s_at s_seed bs ac cc Fc kk H1 N1 K1 qg) ?_)
  clear H H1 N1 K1
  rintro _ w13 ⟨zi17,zi18,zi19,hx15,hx16,rfl,N,H⟩
  have i5:=i3.2 zi19.toNat qf
  refine oI rfl rfl (oL rfl (H.rowInt 1 rfl (iv:=zi19) (i:=zi19.toNat) qf qf) (sw (zX (out[zi19.toNat]!) 1 rfl rfl qf (oI rfl rfl (sw (o_storeInt H 1 rfl ((out[zi19.toNat]!)+1) Try.sizeOf2 rfl rfl (i:=zi19.toNat) qf qf fun w20 H=>?_))))))
  try dsimp only [List.set] at H
  refine zt (b_n (t_n (zk (sp (.int .i64 k) (sw (o_sub k 1 rfl rfl qf (sp (.int .i64 (k - 1)) (zt (xu (m' :=(k - 1).toNat) qf ⟨_,k - 1,zi17,zi18,(out.set zi19.toNat ((out[zi19.toNat]!)+1)),uE4,?_,?_,?_,rfl,N,H⟩)))))))))
  · omega
  · omega
  · exact i3.up qf qf
 ·skip
  refine zx4 (zcr (sps [.slice (some ⟨b1,0,none⟩) kk.toNat kk.toNat,.slice (some ⟨b1,0,none⟩) kk.toNat kk.toNat] (zjr (ret1 (.slice (some ⟨b1,0,none⟩) kk.toNat kk.toNat) rfl rfl ⟨_,rfl,(⟨s_at,s_seed,out,(some ⟨b1,0,none⟩),kk.toNat,kk.toNat,qf,(by rw [show most=most - k by omega];exact i3),rfl,N,H.xC 2 1 [0,1] [0] qo qo⟩)⟩))))

theorem zA {W0 w:World} {ps:List Prv} {Γ:List Fact} {Ns:List yLN} (code:List UInt8) (ip:Int) (sd:Int) (bs:Nat) (ac:yOA) (cc:Nat) (Fc:yLN) (kk:Int) (most:Int) (H:St W0 w ((.box bs [.slice ac code.length cc,.int .i64 ip,.int .u64 sd] 95) :: ps) ((sF false Fc ac cc code) :: Γ)) (N:Fresh W0.heap.size (Ns)) (K0:Kept Ns Γ) (q0:0≤ip∧ip≤70000) (q1:1≤kk∧kk≤8) (q2:1≤most∧most≤6):Calls Try.prog 104 #[.pointer (some ⟨bs,0,none⟩),.int .i64 kk,.int .i64 most] w (fun e w' =>∃ v,e=.returned v∧∃ (ip_:Int) (sd_:Int) (out_:yLI) (rao:yOA) (rno:Nat) (rco:Nat),(ip≤ip_∧ip_≤ip+24)∧(zV kk most out_∧sumL out_≠0)∧v=.slice rao rno rco∧Fresh W0.heap.size (Ns)∧St W0 w' ((.box bs [.slice ac code.length cc,.int .i64 ip_,.int .u64 sd_] 95) :: (rr rao rno rco 2 1 (out_.map (Value.int .i64))) :: ps) ((sF false Fc ac cc code) :: Γ)):=by
 refine en Try.func104 Try.ntmps104 ?_
 have ncode:=qP (H.get 0 rfl).1
 refine zcr (sp (.slice none 0 0) (zjc (sps [.pointer (some ⟨bs,0,none⟩),.int .i64 kk,.int .i64 most] ?_)))
 have H1:St W0 w ((.box bs [.slice ac code.length cc,.int .i64 ip,.int .u64 sd] 95) :: ps) ((sF false Fc ac cc code) :: Γ):=H.xC 1 1 [0] [0] qo qo
 have N1:Fresh _ (Ns):=N
 have K1:Kept (Ns) (Γ):=K0.behind 0 rfl
 refine sw (xH #[.pointer (some ⟨bs,0,none⟩),.int .i64 kk,.int .i64 most] rfl rfl Try.call65 (dFew_ok code ip sd bs ac cc Fc kk most H1 N1 K1 qg qg qg) ?_)
 clear H H1 N1 K1
 rintro _ w1 ⟨zi5,zi6,zl7,ra8,rn9,rc10,hx3,hx4,rfl,N,H⟩
 obtain rfl:=H.zS 1 rfl
 have j1:=(‹zV kk most _›:zV kk most zl7)
 have j2:=j1.small q1 qf
 have j3:=j1.len qf
 refine sp (.slice ra8 zl7.length rc10) (zjcc (sp (.slice ra8 zl7.length rc10) ?_))
 obtain ⟨G11,hn12,h13⟩:=H.Ql 1 rfl
 refine sw (oq (l01Size_ok _ zl7 h13 (by first | assumption | exact je ql | exact QB ql)) H fun w14 H=>sp (.bool ((sumL zl7:Int) == 0)) (zjn (cE rfl (fun h16=>?_) (fun h16=>?_))))
 ·skip
  refine zk (sps [.slice ra8 zl7.length rc10,.pointer (some ⟨bs,0,none⟩),.int .i64 kk] ?_)
  have H1:St W0 w14 ((.box bs [.slice ac code.length cc,.int .i64 zi5,.int .u64 zi6] 95) :: (rr ra8 zl7.length rc10 2 1 (zl7.map (Value.int .i64))) :: ps) ((sF false Fc ac cc code) :: Γ):=H.xC 2 1 [0,1] [0] qo qo
  have N1:Fresh _ (Ns):=N
  have K1:Kept (Ns) (Γ):=K0.behind 0 rfl
  refine sw (xH #[.pointer (some ⟨bs,0,none⟩),.int .i64 kk] rfl rfl Try.call62 (jG code zi5 zi6 bs ac cc Fc kk H1 N1 K1 qg) ?_)
  clear H H1 N1 K1
  rintro _ w17 ⟨zi21,zi22,zi23,hx19,hx20,rfl,N,H⟩
  obtain ⟨b24,rfl⟩:=H.QP 1 rfl qf
  refine oI rfl rfl (sw (o_storeInt H 1 rfl 1 Try.sizeOf2 rfl rfl (i:=zi23.toNat) qf qf fun w25 H=>?_))
  try dsimp only [List.set] at H
  refine zjc (sps [.slice (some ⟨b24,0,none⟩) zl7.length rc10,.slice (some ⟨b24,0,none⟩) zl7.length rc10] (zjr (ret1 (.slice (some ⟨b24,0,none⟩) zl7.length rc10) rfl rfl ⟨_,rfl,(⟨zi21,zi22,(zl7.set zi23.toNat 1),(some ⟨b24,0,none⟩),zl7.length,rc10,qf,(by first | exact ⟨j1,by assumption⟩ | exact ⟨j1.put qf,j1.one q1 qf ‹_› qf⟩),rfl,N,H.xC 2 1 [0,1] [0] qo qo⟩)⟩)))
 ·skip
  refine xx (t_n (zcr (sps [.slice ra8 zl7.length rc10,.slice ra8 zl7.length rc10] (zjr (ret1 (.slice ra8 zl7.length rc10) rfl rfl ⟨_,rfl,(⟨zi5,zi6,zl7,ra8,zl7.length,rc10,qf,(by first | exact ⟨j1,by assumption⟩ | exact ⟨j1.put qf,j1.one q1 qf ‹_› qf⟩),rfl,N,H.xC 2 1 [0,1] [0] qo qo⟩)⟩)))))
end
end Go.Proofs.Ytcpnclokildllaa
