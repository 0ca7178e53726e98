/- Walks and laws, printed by program and by hand: what each function comes to, for all arguments, part 4. -/
import Derived.Test.YtcpnclokildllaaGreatA3
namespace Go.Proofs.YtcpnclokildllaaGreat
set_option linter.unusedVariables false
set_option linter.unusedSimpArgs false
open Go.Proofs.YtcpnclokildllaaGreat.Tot (tot)
open Go.Proofs.YtcpnclokildllaaGreat.Mark (cnt mrk mkd mkd_mark cnt_mark)
section
open Go.Proofs.Tryz
open Go.RowKit
set_option linter.unusedVariables false
set_option linter.unusedSimpArgs false
set_option maxRecDepth 100000
set_option maxHeartbeats 4000000
variable {qB qI qP xn qM ccounts cl cb : Nat}
theorem XR (w:World) (s:qy) {qC:yOA} {qY:yLN} {qK:yOA} {xK:yLN} (qW:qU.rep w qY [Sv qC s.qw.length qB] s.qw) (xF:qU.rep w xK [Sv qK s.qx.length qI] s.qx):Calls Tryz.prog 106 #[.agg #[yI s.xf,Sv qC s.qw.length qB,Sv qK s.qx.length qI]] w (Ret (fun v w' =>v=yI s.qw.length) w):=by
 refine en func106 ntmps106 ?_
 have H:=((St.start w).arg xF).arg qW
 have vH:=qQ qW
 have jM:=qQ xF
 clear qW xF
 have N:=Fresh.nil w.heap.size
 refine zcr (sw (vF H (yS s qC qB qK qI) fun b1 w2 H=>sp (yI 0) (zjc (oF rfl (oL rfl (H.cell 0 rfl rfl) (oN rfl (sp (yI s.qw.length) (zjr (ret1 (yI s.qw.length) rfl rfl ⟨_,rfl,?_,H.base⟩)))))))))
 rfl

theorem step_ok (w:World) (s:qy) (t:qA) (counts:yLI) {qC:yOA} {qY:yLN} {qK:yOA} {xK:yLN} {qR:yOA} {zq:yLN} {xq:yOA} {zX:yLN} {qN:yOA} {xN:yLN} {acounts:yOA} {Fcounts:yLN} (qW:qU.rep w qY [Sv qC s.qw.length qB] s.qw) (xF:qU.rep w xK [Sv qK s.qx.length qI] s.qx) (zy:qU.rep w zq [Sv qR t.qF.length qP] t.qF) (ve:qU.rep w zX [Sv xq t.qG.length xn] t.qG) (xW:qU.rep w xN [Sv qN t.qH.length qM] t.qH) (hcounts:qU.rep w Fcounts [Sv acounts counts.length ccounts] counts) (p0:vw s) (p1:xJ s t) (p2:Xx s counts) (p3:IsCh s t counts):Calls Tryz.prog 51 #[.agg #[yI s.xf,Sv qC s.qw.length qB,Sv qK s.qx.length qI],.agg #[Sv qR t.qF.length qP,Sv xq t.qG.length xn,Sv qN t.qH.length qM],Sv acounts counts.length ccounts] w (Ret (fun v w' =>∃ (ra0Alive:yOA) (rn0Alive:Nat) (rc0Alive:Nat) (ra0Bags:yOA) (rn0Bags:Nat) (rc0Bags:Nat) (rx0Bags:List Value) (rF0Bags:yLN) (ra0Around:yOA) (rn0Around:Nat) (rc0Around:Nat),v=.tuple #[.agg #[Sv ra0Alive rn0Alive rc0Alive,Sv ra0Bags rn0Bags rc0Bags,Sv ra0Around rn0Around rc0Around],yI ((yP s t counts).2)]∧Fresh w.heap.size [rF0Bags]∧St w w' [rr ra0Alive rn0Alive rc0Alive 4 1 ((((yP s t counts).1).qF).map (Value.bool)),rr ra0Bags rn0Bags rc0Bags 24 1 rx0Bags,rr ra0Around rn0Around rc0Around 2 1 ((((yP s t counts).1).qH).map (Value.int .i64))] [qX true rF0Bags rx0Bags (((yP s t counts).1).qG)]) w):=by
 refine en func51 ntmps51 ?_
 have H:=((((((St.start w).arg hcounts).arg xW).arg ve).arg zy).arg xF).arg qW
 have vH:=qQ qW
 have jM:=qQ xF
 have Qg:=qQ zy
 have QZ:=qQ ve
 have yC:=qQ xW
 have nhcounts:=qQ hcounts
 clear qW xF zy ve xW hcounts
 have N:=Fresh.nil w.heap.size
 have p5:=p0.2.1
 have p6:=p2.1
 have p7:=p1.2.1
 have p8:=kinds_le p0
 have p9:=p0.1.2.1
 have p11:xB s=s.qw.length:=rfl
 have p12:=p1.1
 have p15:=p0.1
 have p16:=p0.1.1
 have p17:=p1.around.1
 refine zcr (sw (vF H (yS s qC qB qK qI) fun b1 w2 H=>sw (vF H (yT t qR qP xq xn qN qM) fun b3 w4 H=>sw (xx H ti31 [yN,yN,yN] fun b5 w6 H=>sp (yI 0) (zjn (zg ?_))))))
 refine c_cut (fun ρ w11=>∃ (zl:Env) (a7:yOA) (c8:Nat) (rx9:List Value) (rF10:yLN),ρ=upd (upd (upd (upd (upd zl 2 (Sv acounts counts.length ccounts)) 3 (pp b1 0)) 4 (pp b3 0)) 6 (pp b5 0)) 8 (Sv a7 (t.qG.length+1) c8)∧Fresh w.heap.size []∧St w w11 [rr a7 (t.qG.length+1) c8 24 1 (rx9++[Sv qN t.qH.length qM]),.box b5 [yN,yN,yN] 31,.box b3 (yT t qR qP xq xn qN qM) 31,.box b1 (yS s qC qB qK qI) 27] [qX false (rF10++xN) (rx9++[Sv qN t.qH.length qM]) (t.qG++[t.qH]),sF false qY qC qB s.qw,sF false xK qK qI s.qx,sF false zq qR qP t.qF,sF false zX xq xn t.qG,sF false xN qN qM t.qH,sF false Fcounts acounts ccounts counts]) ?_ ?_
 ·skip
  refine yj rfl H fun H=>tF 0 rfl rfl H ?_
  refine tL 1 rfl rfl (fun _ h=>h.cell 1 rfl rfl) H ?_
  refine tF 3 rfl rfl H ?_
  refine tL 4 rfl rfl (fun _ h=>h.cell 1 rfl rfl) H ?_
  refine zH [2,5] qh qm (vg rfl ?_ (vg rfl ?_ zI))
  ·skip
   have sz16:=H.base.size
   refine oc (cloneSS_ok _ t.qG (H.get 3 rfl).1 qg) ?_
   rintro _ w14 ⟨ra13,rn13,rc13,rx13,rF13,rfl,hG18,K⟩ _
   replace H:=H.mergeIn K 3 rfl hG18
   obtain rfl:=H.zi (α:=yLI) 0 rfl 0 rfl qj
   refine ⟨H.pick [1,2,3] [1,2,3,4,5,6],(ro 5 rfl (zJ H underlying29 ti24 [Sv qN t.qH.length qM] fun b19 w20 H=>⟨H.pick [2,3,4] [1,2,3,4,5,6],(ro 6 rfl (zM H 1 rfl 0 rfl underlying29 ti24 rfl qj rfl rfl rfl (by simp [Value.oneCell',Value.cells]) qp qf fun a21 c22 w23 H=>?_))⟩))⟩
   replace H:=H.y5 0 rfl 5 rfl
   refine ⟨H.pick [2,3,4] [2,3,4,5,6,7],(rtp 7 (Sv a21 (t.qG.length+1) c22) (H.pick [2,3,4] [2,3,4,5,6,7]) ?_)⟩
   refine xg qh ((meet ⟨_,a21,c22,rx13,rF13,uE5,N,H.pick [1,2,3,4] [0,2,3,4,5,6,7]⟩))
  refine zJ H underlying29 ti24 [Sv qN t.qH.length qM] fun b24 w25 H=>⟨H.pick [1,2,3] [0,1,2,3,4,5],(ro 2 rfl ?_)⟩
  have sz29:=H.base.size
  refine oc (cloneSS_ok _ t.qG (H.get 3 rfl).1 qg) ?_
  rintro _ w27 ⟨ra26,rn26,rc26,rx26,rF26,rfl,hG31,K⟩ _
  replace H:=H.mergeIn K 3 rfl hG31
  obtain rfl:=H.zi (α:=yLI) 0 rfl 0 rfl qj
  refine ⟨H.pick [2,3,4] [1,2,3,4,5,6],(ro 6 rfl (zM H 0 rfl 1 rfl underlying29 ti24 rfl qj rfl rfl rfl (by simp [Value.oneCell',Value.cells]) qp qf fun a32 c33 w34 H=>?_))⟩
  replace H:=H.y5 0 rfl 5 rfl
  refine ⟨H.pick [2,3,4] [2,3,4,5,6,7],(rtp 7 (Sv a32 (t.qG.length+1) c33) (H.pick [2,3,4] [2,3,4,5,6,7]) ?_)⟩
  refine xg qh ((meet ⟨_,a32,c33,rx26,rF26,uE5,N,H.pick [0,2,3,4] [0,2,3,4,5,6,7]⟩))
 clear H N
 rintro ρ w35 ⟨zl,a7,c8,rx9,rF10,rfl,N,H⟩
 refine t_n (zcr (oF rfl (oL rfl (H.cell 3 rfl rfl) (oN rfl (sw (o_makeB H underlying28 ti4 s.qw.length rfl rfl qf qf qf fun b36 w37 H=>sp (Sv (aa b36 0) s.qw.length s.qw.length) (zjcc (sp (Sv acounts counts.length ccounts) (oN rfl (sp (yI 0) (zjn (qZ ?_))))))))))))
 refine zU (fun m' ρ w38=>∃ (zl:Env) (i:Nat) (melts:List Bool) (bags:yLL) (x_bags:List Value) (F_bags:yLN),ρ=upd (upd (upd (upd (upd (upd (upd (upd zl 3 (pp b1 0)) 4 (pp b3 0)) 6 (pp b5 0)) 8 (Sv a7 (t.qG.length+1) c8)) 9 (Sv (aa b36 0) s.qw.length s.qw.length)) 26 (Sv acounts counts.length ccounts)) 27 (yI counts.length)) 28 (yI i)∧melts=yu s counts s.qw.length i∧((i:Int)≤counts.length)∧(Ent (s.qw.length+1) (xY s) (fun p q=>base0 s t p q+allS s t counts i p q) (20000000+6000000 * i) bags)∧(bags.length=s.qw.length+1)∧m' =(counts.length - (i:Int)).toNat∧Fresh w.heap.size []∧St w w38 [rr (aa b36 0) s.qw.length s.qw.length 4 1 (melts.map (Value.bool)),rr a7 (t.qG.length+1) c8 24 1 x_bags,.box b5 [yN,yN,yN] 31,.box b3 (yT t qR qP xq xn qN qM) 31,.box b1 (yS s qC qB qK qI) 27] [qX false F_bags x_bags bags,sF false qY qC qB s.qw,sF false xK qK qI s.qx,sF false zq qR qP t.qF,sF false zX xq xn t.qG,sF false xN qN qM t.qH,sF false Fcounts acounts ccounts counts]) ((counts.length - (0:Int)).toNat) ⟨_,0,(List.replicate s.qw.length (false)),(t.qG++[t.qH]),rx9++[Sv qN t.qH.length qM],(rF10++xN),uE8,(by exact meltsL_zero s counts _),qf,(by exact (start_ent p1).to (fun _ _=>rfl) qf),(by simp;omega),rfl,N,H⟩ ?_
 clear H N
 rintro m' ρ w39 ⟨zl,i,melts,bags,x_bags,F_bags,rfl,rfl,i0,E_bags,z_bags,rfl,N,H⟩
 have hn_melts:=H.rowNB 0 rfl
 have hn_bags:=H.zi (α:=yLI) 1 rfl 0 rfl qj
 refine zcr (sp (Bv (decide ((i:Int) < counts.length))) (zjn (zg (cD rfl (fun h40=>?_) (fun h40=>?_)))))
 ·skip
  have q:=p0.rule (i:=i) qf
  have qc:=q.1
  have qk:=q.cell
  have qr:=q.2.1
  have bn1:=q.2.2.2.2.1
  have bn2:=q.2.2.2.2.2.2.2.1
  have bn3:=q.2.2.2.2.2.2.2.2.1
  have ln1:=bn1.len
  have ln2:=bn2.len
  have ln3:=bn3.len
  have p10:=p2.bd (i:=i) qf
  have qn:=q.2.2.2.1
  have ml:=meltsL_len s counts s.qw.length i
  refine xe (t_n (zg (qZ (zcr (sp (yI i) ?_)))))
  obtain ⟨b41,o42,rfl⟩:=H.addr 6 rfl qf
  refine oI rfl rfl (oL rfl (H.jg 6 rfl i qf qf) (sps [yI i,yI (counts[i]!)] (zjc (oF rfl (oL rfl (H.cell 4 rfl rfl) (sp (yI i) ?_))))))
  obtain ⟨b44,o45,rfl⟩:=H.addr 2 rfl qf
  obtain ⟨QT,QP,Fe47Need,QV,QR,Fe47Have,QU,QQ,Fe47Lack,Qz,Qx,Fe47Here,Q5,Q4,Fe47Out,Qy,Qw,Fe47Into,H⟩:=H.yY 2 rfl i i qf qf qf
  refine oI rfl rfl (sw (zB [yI ((s.qx[i]!).qE),yI ((s.qx[i]!).vI),Sv QT (((s.qx[i]!).xM).length) QP,Sv QV (((s.qx[i]!).zF).length) QR,Sv QU (((s.qx[i]!).zD).length) QQ,Sv Qz (((s.qx[i]!).zC).length) Qx,Sv Q5 (((s.qx[i]!).jI).length) Q4,Sv Qy (((s.qx[i]!).qO).length) Qw,Bv ((s.qx[i]!).zV)] isAgg56 sizeOf56 rfl (qJ (H.get 6 rfl) 0 9) ?_))
  refine sw (xx H ti56 [yI 0,yI 0,yN,yN,yN,yN,yN,yN,Bv false] fun b48 w49 H=>sw (xu H 0 [yI ((s.qx[i]!).qE),yI ((s.qx[i]!).vI),Sv QT (((s.qx[i]!).xM).length) QP,Sv QV (((s.qx[i]!).zF).length) QR,Sv QU (((s.qx[i]!).zD).length) QQ,Sv Qz (((s.qx[i]!).zC).length) Qx,Sv Q5 (((s.qx[i]!).jI).length) Q4,Sv Qy (((s.qx[i]!).qO).length) Qw,Bv ((s.qx[i]!).zV)] sizeOf56 fun w50 H=>?_))
  refine zjn (zg ?_)
  refine Qe rfl H [0,1,3,4,5] fun H=>?_
  have S:=H.jG [0,1,3,4,5] [0,1,2,3,4,5,6,7,8,9,10,11,12,13]
  refine rtp 0 (Sv a7 (t.qG.length+1) c8) S ?_
  refine tF 1 rfl rfl S ?_
  refine tL 2 rfl rfl (fun _ h=>h.cell 0 rfl rfl) S ?_
  refine rtp 3 (Sv a7 (t.qG.length+1) c8) S ?_
  refine tF 4 rfl rfl S ?_
  refine tL 5 rfl rfl (fun _ h=>h.cell 0 rfl rfl) S ?_
  obtain ⟨b52,rfl⟩:=H.Qc 2 rfl qf
  have S:=H.jG [0,1,3,4,5] [0,1,2,3,4,5,6,7,8,9,10,11,12,13]
  refine tI 6 rfl rfl rfl S ?_
  refine tF 8 rfl rfl S ?_
  refine tL 9 rfl rfl (fun _ h=>h.cell 0 rfl rfl) S ?_
  refine rtp 10 (yI (counts[i]!)) S ?_
  refine rt 11 (yI (-(counts[i]!))) (y_neg (counts[i]!) rfl qf) S ?_
  refine ro 7 rfl ?_
  obtain ⟨a53,c54,G55,s56,h57,H⟩:=H.jV 2 rfl 7 rfl (iv:=(s.qx[i]!).qE) (((s.qx[i]!).qE).toNat) qf qf
  refine zt (Sv a53 ((bags[((s.qx[i]!).qE).toNat]!).length) c54) isAgg24 rfl (h57) (⟨H.pick [0,1,3,4,5] [1,2,3,4,5,6,7,8,9,10,11,12,13,14],(ro 12 rfl ?_)⟩)
  obtain ⟨u1,u2⟩:=E_bags.sh.row (c:=((s.qx[i]!).qE).toNat) qf p8 qf
  have u4:=(by first | exact bn1.jU qf | exact bn2.jU qf | exact bn3.jU qf | exact bn4.jU qf:Ve ((s.qx[i]!).xM) (-(counts[i]!)))
  have sz58:=H.base.size
  refine oc (Xq _ (bags[((s.qx[i]!).qE).toNat]!) ((s.qx[i]!).xM) (-(counts[i]!)) (H.get 0 rfl).1 (H.get 1 rfl).1 qg qg qg) ?_
  rintro v63 w61 r63 x62
  replace H:=H.zW x62 r63
  obtain ⟨a64,c65,rfl,hc66,hm67⟩:=H.jY 0 rfl
  refine ⟨H.pick [1,2,4,5,6] [1,2,3,4,5,6,7,8,9,10,11,12,13,14],(tI 13 rfl rfl rfl (H.pick [1,2,4,5,6] [1,2,3,4,5,6,7,8,9,10,11,12,13,14]) ?_)⟩
  refine ro 14 rfl ?_
  obtain ⟨G69,N,hn70,H⟩:=H.vz 0 rfl N (H.jJ [])
  refine yh false H 3 rfl 9 rfl (Sv a64 ((vZ (bags[((s.qx[i]!).qE).toNat]!) ((s.qx[i]!).xM) (-(counts[i]!))).length) c65) 0 rfl rfl sizeOf24 rfl rfl (i:=(((s.qx[i]!).qE).toNat)) qf qf qm fun w68 xs71 F72 hs73 H=>⟨H.pick [1,2,4,5,6] [3,4,5,6,7,8,9,10,11,12,13,14,15,16],(xg qh (t_n (zcr (sw (zB [yI s.xf,Sv qC s.qw.length qB,Sv (aa b44 o45) s.qx.length qI] isAgg27 sizeOf27 rfl (qJ (H.cells 6 rfl) 0 3) ?_)))))⟩
  refine sw (zB (yT t qR qP xq xn qN qM) isAgg31 sizeOf31 rfl (qJ (H.cells 5 rfl) 0 3) (sp (Sv (aa b52 0) (t.qG.length+1) c8) ?_))
  refine sw (zB [yI ((s.qx[i]!).qE),yI ((s.qx[i]!).vI),Sv QT (((s.qx[i]!).xM).length) QP,Sv QV (((s.qx[i]!).zF).length) QR,Sv QU (((s.qx[i]!).zD).length) QQ,Sv Qz (((s.qx[i]!).zC).length) Qx,Sv Q5 (((s.qx[i]!).jI).length) Q4,Sv Qy (((s.qx[i]!).qO).length) Qw,Bv ((s.qx[i]!).zV)] isAgg56 sizeOf56 rfl (qJ (H.cells 1 rfl) 0 9) (sp (yI (counts[i]!)) ?_))
  obtain ⟨bg74,e_bg74⟩:∃ z,z=(bags.set (((s.qx[i]!).qE).toNat) (vZ (bags[((s.qx[i]!).qE).toNat]!) ((s.qx[i]!).xM) (-(counts[i]!)))):=⟨_,rfl⟩
  rw [← e_bg74] at H
  have E_bg74:=Ent.add (D:=1000000) E_bags e_bg74 qf (by first | exact bn1.mul qf | exact bn2.mul qf | exact bn3.mul qf | exact bn4.mul qf) qf
  have z_bg74:=E_bg74.sh.1
  have E_cur:=E_bg74
  refine sw (vC #[.agg #[yI s.xf,Sv qC s.qw.length qB,Sv (aa b44 o45) s.qx.length qI],.agg #[Sv qR t.qF.length qP,Sv xq t.qG.length xn,Sv qN t.qH.length qM],Sv (aa b52 0) (t.qG.length+1) c8,.agg #[yI ((s.qx[i]!).qE),yI ((s.qx[i]!).vI),Sv QT (((s.qx[i]!).xM).length) QP,Sv QV (((s.qx[i]!).zF).length) QR,Sv QU (((s.qx[i]!).zD).length) QQ,Sv Qz (((s.qx[i]!).zC).length) Qx,Sv Q5 (((s.qx[i]!).jI).length) Q4,Sv Qy (((s.qx[i]!).qO).length) Qw,Bv ((s.qx[i]!).zV)],yI (counts[i]!)] rfl rfl call105 ?_)
  refine en func105 ntmps105 ?_
  refine zcr (sw (vF H [yI s.xf,Sv qC s.qw.length qB,Sv (aa b44 o45) s.qx.length qI] fun b75 w76 H=>sw (vF H (yT t qR qP xq xn qN qM) fun b77 w78 H=>sw (vF H [Sv (aa b52 0) (t.qG.length+1) c8] fun b79 w80 H=>?_))))
  refine sw (vF H [yI ((s.qx[i]!).qE),yI ((s.qx[i]!).vI),Sv QT (((s.qx[i]!).xM).length) QP,Sv QV (((s.qx[i]!).zF).length) QR,Sv QU (((s.qx[i]!).zD).length) QQ,Sv Qz (((s.qx[i]!).zC).length) Qx,Sv Q5 (((s.qx[i]!).jI).length) Q4,Sv Qy (((s.qx[i]!).qO).length) Qw,Bv ((s.qx[i]!).zV)] fun b81 w82 H=>sw (vF H [yI (counts[i]!)] fun b83 w84 H=>zjc ?_))
  refine sps [.func (.func 173) #[] #[pp b79 0,pp b83 0],.func (.func 173) #[] #[pp b79 0,pp b83 0]] (zjc (sp (.func (.func 173) #[] #[pp b79 0,pp b83 0]) (oF rfl (oL rfl (H.cell 1 rfl rfl) (oF rfl (oL rfl (H.cell 1 rfl rfl) (sw (vC #[yI ((s.qx[i]!).qE),Sv Qz (((s.qx[i]!).zC).length) Qx,pp b79 0,pp b83 0] rfl rfl call173 (en func173 ntmps173 ?_)))))))))
  refine Qe rfl H [0,1,2,3,4,5,6,7,9,10,11] fun H=>?_
  have S:=H.jG [0,1,2,3,4,5,6,7,9,10,11] [0,1,2,3,4,5,6,7,8,9,10,11,12,13,14,15,16]
  refine tL 0 rfl rfl (fun _ h=>h.cell 2 rfl rfl) S ?_
  refine rtp 1 (yI ((s.qx[i]!).qE)) S ?_
  refine tL 2 rfl rfl (fun _ h=>h.cell 2 rfl rfl) S ?_
  refine rtp 3 (yI ((s.qx[i]!).qE)) S ?_
  refine tI 4 rfl rfl rfl S ?_
  refine rtp 6 (Sv Qz (((s.qx[i]!).zC).length) Qx) S ?_
  refine tL 7 rfl rfl (fun _ h=>h.cell 0 rfl rfl) S ?_
  refine ro 5 rfl ?_
  obtain ⟨a86,c87,G88,s89,h90,H⟩:=H.jV 8 rfl 0 rfl (iv:=(s.qx[i]!).qE) (((s.qx[i]!).qE).toNat) qf qf
  refine zt (Sv a86 ((bg74[((s.qx[i]!).qE).toNat]!).length) c87) isAgg24 rfl (h90) (⟨H.pick [0,1,2,3,4,5,6,7,9,10,11] [1,2,3,4,5,6,7,8,9,10,11,12,13,14,15,16,17],(ro 8 rfl ?_)⟩)
  obtain ⟨u1,u2⟩:=E_bg74.sh.row (c:=((s.qx[i]!).qE).toNat) qf p8 qf
  have u4:=(by first | exact bn1.jU qf | exact bn2.jU qf | exact bn3.jU qf | exact bn4.jU qf:Ve ((s.qx[i]!).zC) (counts[i]!))
  have sz91:=H.base.size
  have lt92:=H.ltN (L:=[G69]) [2]
  refine oc (Xq _ (bg74[((s.qx[i]!).qE).toNat]!) ((s.qx[i]!).zC) (counts[i]!) (H.get 0 rfl).1 (H.get 7 rfl).1 qg qg qg) ?_
  rintro v96 w94 r96 x95
  replace H:=H.zW x95 r96
  obtain ⟨a97,c98,rfl,hc99,hm100⟩:=H.jY 0 rfl
  refine ⟨H.pick [1,2,3,4,5,6,7,8,10,11,12] [1,2,3,4,5,6,7,8,9,10,11,12,13,14,15,16,17],(tI 9 rfl rfl rfl (H.pick [1,2,3,4,5,6,7,8,10,11,12] [1,2,3,4,5,6,7,8,9,10,11,12,13,14,15,16,17]) ?_)⟩
  refine ro 10 rfl ?_
  obtain ⟨G102,N,hn103,H⟩:=H.vz 0 rfl N (H.jJ [2])
  refine yh false H 9 rfl 2 rfl (Sv a97 ((vZ (bg74[((s.qx[i]!).qE).toNat]!) ((s.qx[i]!).zC) (counts[i]!)).length) c98) 0 rfl rfl sizeOf24 rfl rfl (i:=(((s.qx[i]!).qE).toNat)) qf qf qm fun w101 xs104 F105 hs106 H=>⟨H.pick [1,2,3,4,5,6,7,8,10,11,12] [3,4,5,6,7,8,9,10,11,12,13,14,15,16,17,18,19],(xg qh ((ret0 rfl ⟨_,rfl,?_⟩)))⟩
  replace H:=H.erases [6,0]
  dsimp only [ja,List.eraseIdx] at H
  obtain ⟨bg107,e_bg107⟩:∃ z,z=(bg74.set (((s.qx[i]!).qE).toNat) (vZ (bg74[((s.qx[i]!).qE).toNat]!) ((s.qx[i]!).zC) (counts[i]!))):=⟨_,rfl⟩
  rw [← e_bg107] at H
  have E_bg107:=Ent.add (D:=1000000) E_bg74 e_bg107 qf (by first | exact bn1.mul qf | exact bn2.mul qf | exact bn3.mul qf | exact bn4.mul qf) qf
  have z_bg107:=E_bg107.sh.1
  have E_cur:=E_bg107
  refine zjcc (sw (zB [yI s.xf,Sv qC s.qw.length qB,Sv (aa b44 o45) s.qx.length qI] isAgg27 sizeOf27 rfl (qJ (H.cells 4 rfl) 0 3) (sw (zB (yT t qR qP xq xn qN qM) isAgg31 sizeOf31 rfl (qJ (H.cells 3 rfl) 0 3) (oF rfl (oL rfl (H.cell 1 rfl rfl) ?_))))))
  have qc' :=qc
  refine sw (oq (parentNow_ok _ s t ((s.qx[i]!).qE) (H.get 14 rfl).1 (H.get 15 rfl).1 (H.get 16 rfl).1 (H.get 17 rfl).1 (H.get 18 rfl).1 qg qg qg) H fun w109 H=>?_)
  have pl:=parentNow_lt p15 p1.2.2.1 qc
  refine sp (yI (xh s t ((s.qx[i]!).qE))) (zjc (sps [yI (xh s t ((s.qx[i]!).qE)),Bv (decide ((xh s t ((s.qx[i]!).qE):Int)≥0))] (zjn (cD rfl (fun h111=>?_) (fun h111=>?_)))))
  ·skip
   have po:=outPl_in (r:=s.qx[i]!) p15 ‹_›
   refine zn (sps [.func (.func 173) #[] #[pp b79 0,pp b83 0],yI (xh s t ((s.qx[i]!).qE))] (oF rfl (oL rfl (H.cell 1 rfl rfl) (sw (vC #[yI (xh s t ((s.qx[i]!).qE)),Sv Q5 (((s.qx[i]!).jI).length) Q4,pp b79 0,pp b83 0] rfl rfl call173 (en func173 ntmps173 ?_))))))
   refine Qe rfl H [0,1,2,3,4,5,6,8,9,10] fun H=>?_
   have S:=H.jG [0,1,2,3,4,5,6,8,9,10] [0,1,2,3,4,5,6,7,8,9,10,11,12,13,14,15,16,17,18,19]
   refine tL 0 rfl rfl (fun _ h=>h.cell 2 rfl rfl) S ?_
   refine rtp 1 (yI (xh s t ((s.qx[i]!).qE))) S ?_
   refine tL 2 rfl rfl (fun _ h=>h.cell 2 rfl rfl) S ?_
   refine rtp 3 (yI (xh s t ((s.qx[i]!).qE))) S ?_
   refine tI 4 rfl rfl rfl S ?_
   refine rtp 6 (Sv Q5 (((s.qx[i]!).jI).length) Q4) S ?_
   refine tL 7 rfl rfl (fun _ h=>h.cell 0 rfl rfl) S ?_
   refine ro 5 rfl ?_
   obtain ⟨a113,c114,G115,s116,h117,H⟩:=H.jV 7 rfl 0 rfl (iv:=xh s t ((s.qx[i]!).qE)) ((xh s t ((s.qx[i]!).qE)).toNat) qf qf
   refine zt (Sv a113 ((bg107[(xh s t ((s.qx[i]!).qE)).toNat]!).length) c114) isAgg24 rfl (h117) (⟨H.pick [0,1,2,3,4,5,6,8,9,10] [1,2,3,4,5,6,7,8,9,10,11,12,13,14,15,16,17,18,19,20],(ro 8 rfl ?_)⟩)
   obtain ⟨u1,u2⟩:=E_bg107.sh.row (c:=(xh s t ((s.qx[i]!).qE)).toNat) qf p8 qf
   have u4:=(by first | exact bn1.jU qf | exact bn2.jU qf | exact bn3.jU qf | exact bn4.jU qf:Ve ((s.qx[i]!).jI) (counts[i]!))
   have sz118:=H.base.size
   have lt119:=H.ltN (L:=[G102,G69]) [2,5]
   refine oc (Xq _ (bg107[(xh s t ((s.qx[i]!).qE)).toNat]!) ((s.qx[i]!).jI) (counts[i]!) (H.get 0 rfl).1 (H.get 11 rfl).1 qg qg qg) ?_
   rintro v123 w121 r123 x122
   replace H:=H.zW x122 r123
   obtain ⟨a124,c125,rfl,hc126,hm127⟩:=H.jY 0 rfl
   refine ⟨H.pick [1,2,3,4,5,6,7,9,10,11] [1,2,3,4,5,6,7,8,9,10,11,12,13,14,15,16,17,18,19,20],(tI 9 rfl rfl rfl (H.pick [1,2,3,4,5,6,7,9,10,11] [1,2,3,4,5,6,7,8,9,10,11,12,13,14,15,16,17,18,19,20]) ?_)⟩
   refine ro 10 rfl ?_
   obtain ⟨G129,N,hn130,H⟩:=H.vz 0 rfl N (H.jJ [2,5])
   refine yh false H 8 rfl 2 rfl (Sv a124 ((vZ (bg107[(xh s t ((s.qx[i]!).qE)).toNat]!) ((s.qx[i]!).jI) (counts[i]!)).length) c125) 0 rfl rfl sizeOf24 rfl rfl (i:=((xh s t ((s.qx[i]!).qE)).toNat)) qf qf qm fun w128 xs131 F132 hs133 H=>⟨H.pick [1,2,3,4,5,6,7,9,10,11] [3,4,5,6,7,8,9,10,11,12,13,14,15,16,17,18,19,20,21,22],(xg qh ((ret0 rfl ⟨_,rfl,?_⟩)))⟩
   replace H:=H.erases [0]
   dsimp only [ja,List.eraseIdx] at H
   obtain ⟨bg134,e_bg134⟩:∃ z,z=(bg107.set ((xh s t ((s.qx[i]!).qE)).toNat) (vZ (bg107[(xh s t ((s.qx[i]!).qE)).toNat]!) ((s.qx[i]!).jI) (counts[i]!))):=⟨_,rfl⟩
   rw [← e_bg134] at H
   have E_bg134:=Ent.add (D:=1000000) E_bg107 e_bg134 qf (by first | exact bn1.mul qf | exact bn2.mul qf | exact bn3.mul qf | exact bn4.mul qf) qf
   have z_bg134:=E_bg134.sh.1
   have E_cur:=E_bg134
   refine zjc (oF rfl (oL rfl (H.cell 1 rfl rfl) (oN rfl (sp (yI 0) (zjn (qZ ?_))))))
   refine zU (fun m' ρ w135=>∃ (zl:Env) (k:Nat) (bags_1:yLL) (yO:List Value) (yX:yLN),ρ=upd (upd (upd (upd zl 10 (.func (.func 173) #[] #[pp b79 0,pp b83 0])) 40 (Sv Qy (((s.qx[i]!).qO).length) Qw)) 41 (yI (((s.qx[i]!).qO).length))) 42 (yI k)∧((k:Int)≤(((s.qx[i]!).qO).length))∧(Ent (s.qw.length+1) (xY s) (fun p q=>base0 s t p q+allS s t counts i p q+at' p (s.qx[i]!).qE.toNat (-(counts[i]!) * ((s.qx[i]!).xM)[q]!)+at' p (s.qx[i]!).qE.toNat ((counts[i]!) * ((s.qx[i]!).zC)[q]!)+at' p (outPl s t (s.qx[i]!)) ((counts[i]!) * ((s.qx[i]!).jI)[q]!)+Vf (s.qx[i]!) (counts[i]!) k p q) (23000000+6000000 * i+1000000 * k) bags_1)∧(bags_1.length=s.qw.length+1)∧m' =((((s.qx[i]!).qO).length) - (k:Int)).toNat∧Fresh w.heap.size [G69]∧St w w135 [.box b83 [yI (counts[i]!)] 2,.box b81 [yI ((s.qx[i]!).qE),yI ((s.qx[i]!).vI),Sv QT (((s.qx[i]!).xM).length) QP,Sv QV (((s.qx[i]!).zF).length) QR,Sv QU (((s.qx[i]!).zD).length) QQ,Sv Qz (((s.qx[i]!).zC).length) Qx,Sv Q5 (((s.qx[i]!).jI).length) Q4,Sv Qy (((s.qx[i]!).qO).length) Qw,Bv ((s.qx[i]!).zV)] 56,.box b79 [Sv (aa b52 0) (t.qG.length+1) c8] 29,.box b77 (yT t qR qP xq xn qN qM) 31,.box b75 [yI s.xf,Sv qC s.qw.length qB,Sv (aa b44 o45) s.qx.length qI] 27,.box b48 [yI ((s.qx[i]!).qE),yI ((s.qx[i]!).vI),Sv QT (((s.qx[i]!).xM).length) QP,Sv QV (((s.qx[i]!).zF).length) QR,Sv QU (((s.qx[i]!).zD).length) QQ,Sv Qz (((s.qx[i]!).zC).length) Qx,Sv Q5 (((s.qx[i]!).jI).length) Q4,Sv Qy (((s.qx[i]!).qO).length) Qw,Bv ((s.qx[i]!).zV)] 56,rr (aa b36 0) s.qw.length s.qw.length 4 1 ((yu s counts s.qw.length i).map (Value.bool)),rr (aa b52 0) (t.qG.length+1) c8 24 1 yO,.box b5 [yN,yN,yN] 31,.box b3 (yT t qR qP xq xn qN qM) 31,.box b1 [yI s.xf,Sv qC s.qw.length qB,Sv (aa b44 o45) s.qx.length qI] 27] [qX false yX yO bags_1,sF true G69 a64 c65 (vZ (bags[((s.qx[i]!).qE).toNat]!) ((s.qx[i]!).xM) (-(counts[i]!))),sF false G55 a53 c54 (bags[((s.qx[i]!).qE).toNat]!),sF false Fe47Need QT QP ((s.qx[i]!).xM),sF false Fe47Have QV QR ((s.qx[i]!).zF),sF false Fe47Lack QU QQ ((s.qx[i]!).zD),sF false Fe47Here Qz Qx ((s.qx[i]!).zC),sF false Fe47Out Q5 Q4 ((s.qx[i]!).jI),sF false Fe47Into Qy Qw ((s.qx[i]!).qO),atF b44 (o45+(i:Int).toNat * 9) [yI ((s.qx[i]!).qE),yI ((s.qx[i]!).vI),Sv QT (((s.qx[i]!).xM).length) QP,Sv QV (((s.qx[i]!).zF).length) QR,Sv QU (((s.qx[i]!).zD).length) QQ,Sv Qz (((s.qx[i]!).zC).length) Qx,Sv Q5 (((s.qx[i]!).jI).length) Q4,Sv Qy (((s.qx[i]!).qO).length) Qw,Bv ((s.qx[i]!).zV)],sF false qY qC qB s.qw,sF false xK (aa b44 o45) qI s.qx,sF false zq qR qP t.qF,sF false zX xq xn t.qG,sF false xN qN qM t.qH,sF false Fcounts (aa b41 o42) ccounts counts]) (((((s.qx[i]!).qO).length) - (0:Int)).toNat) ⟨_,0,bg134,xs131,F132,uE4,qf,(by exact E_cur.to (fun p q=>by rw [po];simp only [Vf];first | omega | (simp only [Int.toNat_natCast];omega)) qf),qf,rfl,(N.pick [2]),H.pick [0,1,2,3,4,5,6,7,8,9,10] [0,7,8,9,10,11,12,13,14,15,17,18,19,20,21,22]⟩ ?_
   clear H N
   rintro m' ρ w136 ⟨zl,k,bags_1,yO,yX,rfl,i0,E_bags_1,z_bags_1,rfl,N,H⟩
   have hn_bags:=H.zi (α:=yLI) 7 rfl 0 rfl qj
   refine zcr (sp (Bv (decide ((k:Int) < (((s.qx[i]!).qO).length)))) (zjn (zg (cD rfl (fun h137=>?_) (fun h137=>?_)))))
   ·skip
    have qi:=q.2.2.2.2.2.2.2.2.2.2 k qf
    have qi1:=qi.1
    have bn4:=qi.2.2.1
    have ln4:=bn4.len
    refine xe (t_n (zg (qZ (zcr ?_))))
    obtain ⟨b138,o139,rfl⟩:=H.addr 8 rfl qf
    obtain ⟨ae141Bag,ce141Bag,Fe141Bag,H⟩:=H.yZ 8 rfl k k qf qf qf
    refine oI rfl rfl (sw (zB [yI ((((s.qx[i]!).qO)[k]!).qE),Sv ae141Bag (((((s.qx[i]!).qO)[k]!).Qm).length) ce141Bag] isAgg142 sizeOf142 rfl (qJ (H.get 1 rfl) 0 2) (sw (xx H ti142 [yI 0,yN] fun b142 w143 H=>sw (xu H 0 [yI ((((s.qx[i]!).qO)[k]!).qE),Sv ae141Bag (((((s.qx[i]!).qO)[k]!).Qm).length) ce141Bag] sizeOf142 fun w144 H=>zjn (zn (sp (.func (.func 173) #[] #[pp b79 0,pp b83 0]) (oF rfl (oL rfl (H.cell 0 rfl rfl) (oF rfl (oL rfl (H.cell 0 rfl rfl) ?_)))))))))))
    refine sw (vC #[yI ((((s.qx[i]!).qO)[k]!).qE),Sv ae141Bag (((((s.qx[i]!).qO)[k]!).Qm).length) ce141Bag,pp b79 0,pp b83 0] rfl rfl call173 (en func173 ntmps173 ?_))
    refine Qe rfl H [0,1,2,3,4,5,6,7,9,10,11] fun H=>?_
    have S:=H.jG [0,1,2,3,4,5,6,7,9,10,11] [0,1,2,3,4,5,6,7,8,9,10,11,12,13,14,15,16,17]
    refine tL 0 rfl rfl (fun _ h=>h.cell 3 rfl rfl) S ?_
    refine rtp 1 (yI ((((s.qx[i]!).qO)[k]!).qE)) S ?_
    refine tL 2 rfl rfl (fun _ h=>h.cell 3 rfl rfl) S ?_
    refine rtp 3 (yI ((((s.qx[i]!).qO)[k]!).qE)) S ?_
    refine tI 4 rfl rfl rfl S ?_
    refine rtp 6 (Sv ae141Bag (((((s.qx[i]!).qO)[k]!).Qm).length) ce141Bag) S ?_
    refine tL 7 rfl rfl (fun _ h=>h.cell 1 rfl rfl) S ?_
    refine ro 5 rfl ?_
    obtain ⟨a146,c147,G148,s149,h150,H⟩:=H.jV 8 rfl 2 rfl (iv:=(((s.qx[i]!).qO)[k]!).qE) (((((s.qx[i]!).qO)[k]!).qE).toNat) qf qf
    refine zt (Sv a146 ((bags_1[((((s.qx[i]!).qO)[k]!).qE).toNat]!).length) c147) isAgg24 rfl (h150) (⟨H.pick [0,1,2,3,4,5,6,7,9,10,11] [1,2,3,4,5,6,7,8,9,10,11,12,13,14,15,16,17,18],(ro 8 rfl ?_)⟩)
    obtain ⟨u1,u2⟩:=E_bags_1.sh.row (c:=((((s.qx[i]!).qO)[k]!).qE).toNat) qf p8 qf
    have u4:=(by first | exact bn1.jU qf | exact bn2.jU qf | exact bn3.jU qf | exact bn4.jU qf:Ve ((((s.qx[i]!).qO)[k]!).Qm) (counts[i]!))
    have sz151:=H.base.size
    have lt152:=H.ltN (L:=[G69]) [4]
    refine oc (Xq _ (bags_1[((((s.qx[i]!).qO)[k]!).qE).toNat]!) ((((s.qx[i]!).qO)[k]!).Qm) (counts[i]!) (H.get 0 rfl).1 (H.get 1 rfl).1 qg qg qg) ?_
    rintro v156 w154 r156 x155
    replace H:=H.zW x155 r156
    obtain ⟨a157,c158,rfl,hc159,hm160⟩:=H.jY 0 rfl
    refine ⟨H.pick [1,2,3,4,5,6,7,8,10,11,12] [1,2,3,4,5,6,7,8,9,10,11,12,13,14,15,16,17,18],(tI 9 rfl rfl rfl (H.pick [1,2,3,4,5,6,7,8,10,11,12] [1,2,3,4,5,6,7,8,9,10,11,12,13,14,15,16,17,18]) ?_)⟩
    refine ro 10 rfl ?_
    obtain ⟨G162,N,hn163,H⟩:=H.vz 0 rfl N (H.jJ [4])
    refine yh false H 9 rfl 4 rfl (Sv a157 ((vZ (bags_1[((((s.qx[i]!).qO)[k]!).qE).toNat]!) ((((s.qx[i]!).qO)[k]!).Qm) (counts[i]!)).length) c158) 0 rfl rfl sizeOf24 rfl rfl (i:=(((((s.qx[i]!).qO)[k]!).qE).toNat)) qf qf qm fun w161 xs164 F165 hs166 H=>⟨H.pick [1,2,3,4,5,6,7,8,10,11,12] [3,4,5,6,7,8,9,10,11,12,13,14,15,16,17,18,19,20],(xg qh ((ret0 rfl ⟨_,rfl,?_⟩)))⟩
    replace H:=H.erases [0]
    dsimp only [ja,List.eraseIdx] at H
    obtain ⟨bg167,e_bg167⟩:∃ z,z=(bags_1.set (((((s.qx[i]!).qO)[k]!).qE).toNat) (vZ (bags_1[((((s.qx[i]!).qO)[k]!).qE).toNat]!) ((((s.qx[i]!).qO)[k]!).Qm) (counts[i]!))):=⟨_,rfl⟩
    rw [← e_bg167] at H
    have E_bg167:=Ent.add (D:=1000000) E_bags_1 e_bg167 qf (by first | exact bn1.mul qf | exact bn2.mul qf | exact bn3.mul qf | exact bn4.mul qf) qf
    have z_bg167:=E_bg167.sh.1
    have E_cur:=E_bg167
    refine zo (b_n (t_n (zn (sw (zN k 1 rfl rfl qf (sp (yI (k+1)) (zo (xm (m' :=((((s.qx[i]!).qO).length) - ((k+1):Int)).toNat) qf ⟨_,k+1,bg167,xs164,F165,uE4,?_,?_,?_,rfl,(N.pick [1]),H.pick [1,2,3,4,5,6,7,8,9,10,11] [0,6,7,8,9,10,11,12,13,14,15,16,17,18,19,20]⟩))))))))
    · omega
    · exact E_cur.to (fun p q=>by simp only [Vf];omega) qf
    · omega
   refine c_exit (t_x (t_x (b_x (ret0 rfl ⟨_,rfl,?_⟩))))
   replace H:=H.erases [4,3,2,1,0]
   dsimp only [ja,List.eraseIdx] at H
   refine zjn ?_
   refine Qe rfl H [0,2,3,4,5] fun H=>?_
   have S:=H.jG [0,2,3,4,5] [0,1,2,3,4,5,6,7,8,9,10,11,12,13,14,15]
   refine rtp 0 (Sv (aa b36 0) s.qw.length s.qw.length) S ?_
   refine tF 1 rfl rfl S ?_
   refine tL 2 rfl rfl (fun _ h=>h.cell 0 rfl rfl) S ?_
   refine rtp 3 (Sv (aa b36 0) s.qw.length s.qw.length) S ?_
   refine tF 4 rfl rfl S ?_
   refine tL 5 rfl rfl (fun _ h=>h.cell 0 rfl rfl) S ?_
   refine tI 6 rfl rfl rfl S ?_
   refine ro 7 rfl (zt (Bv ((yu s counts s.qw.length i)[((s.qx[i]!).qE).toNat]!)) isAgg4 rfl (H.rowBool 1 rfl (iv:=(s.qx[i]!).qE) (i:=(((s.qx[i]!).qE).toNat)) qf qf) (⟨H.pick [0,2,3,4,5] [0,1,2,3,4,5,6,7,8,9,10,11,12,13,14,15],(rtp 8 (Bv ((yu s counts s.qw.length i)[((s.qx[i]!).qE).toNat]!)) (H.pick [0,2,3,4,5] [0,1,2,3,4,5,6,7,8,9,10,11,12,13,14,15]) ?_)⟩))
   cases h169:((yu s counts s.qw.length i)[((s.qx[i]!).qE).toNat]!)
   ·skip
    have S:=H.jG [0,2,3,4,5] [0,1,2,3,4,5,6,7,8,9,10,11,12,13,14,15]
    refine rgp 9 (yI (counts[i]!)) 66 S ?_
    refine rgp 10 (Bv (decide ((counts[i]! :Int) > 0))) 66 S ?_
    refine rgp 11 (Bv (decide ((counts[i]! :Int) > 0))) 66 S ?_
    cases h170:(decide ((counts[i]! :Int) > 0))
    ·skip
     replace h170:=of_decide_eq_false h170
     refine zL [12,13] 2 (H.pick [0,2,3,4,5] [0,1,2,3,4,5,6,7,8,9,10,11,12,13,14,15]) ?_
     have S:=H.jG [0,2,3,4,5] [0,1,2,3,4,5,6,7,8,9,10,11,12,13,14,15]
     refine rgp 14 (Bv false) 66 S ?_
     refine rtp 15 (Bv false) S ?_
     refine tI 16 rfl rfl rfl S ?_
     refine ro 17 rfl (QK H 1 rfl false sizeOf4 rfl rfl (i:=(((s.qx[i]!).qE).toNat)) qf qf fun w171 H=>⟨H.pick [0,2,3,4,5] [0,1,2,3,4,5,6,7,8,9,10,11,12,13,14,15],(xg qh (b_n (t_n (zn (sw (zN i 1 rfl rfl qf (sp (yI (i+1)) (zo (xm (m' :=(counts.length - ((i+1):Int)).toNat) qf ⟨_,i+1,((yu s counts s.qw.length i).set (((s.qx[i]!).qE).toNat) false),bags_1,yO,yX,uE8,?_,?_,?_,?_,rfl,(N.pick []),H.pick [1,2,3,4,5] [0,10,11,12,13,14,15]⟩)))))))))⟩)
     · first | exact meltsL_1 qf qf ‹_› | exact meltsL_2 qf qf ‹_› qf | exact meltsL_3 qf qf ‹_› qf
     · omega
     · exact E_bags_1.to (fun p q=>by rw [show k=((s.qx[i]!).qO).length by omega];simp only [allS,needF,putF];omega) qf
     · omega
    replace h170:=of_decide_eq_true h170
    have S:=H.jG [0,2,3,4,5] [0,1,2,3,4,5,6,7,8,9,10,11,12,13,14,15]
    refine gF 12 rfl rfl S ?_
    refine gL 13 rfl rfl (fun _ h=>h.cell 0 rfl rfl) S ?_
    refine rgp 14 (Bv ((s.qx[i]!).zV)) 66 S ?_
    refine rtp 15 (Bv ((s.qx[i]!).zV)) S ?_
    refine tI 16 rfl rfl rfl S ?_
    refine ro 17 rfl (QK H 1 rfl ((s.qx[i]!).zV) sizeOf4 rfl rfl (i:=(((s.qx[i]!).qE).toNat)) qf qf fun w172 H=>⟨H.pick [0,2,3,4,5] [0,1,2,3,4,5,6,7,8,9,10,11,12,13,14,15],(xg qh (b_n (t_n (zn (sw (zN i 1 rfl rfl qf (sp (yI (i+1)) (zo (xm (m' :=(counts.length - ((i+1):Int)).toNat) qf ⟨_,i+1,((yu s counts s.qw.length i).set (((s.qx[i]!).qE).toNat) ((s.qx[i]!).zV)),bags_1,yO,yX,uE8,?_,?_,?_,?_,rfl,(N.pick []),H.pick [1,2,3,4,5] [0,10,11,12,13,14,15]⟩)))))))))⟩)
    · first | exact meltsL_1 qf qf ‹_› | exact meltsL_2 qf qf ‹_› qf | exact meltsL_3 qf qf ‹_› qf
    · omega
    · exact E_bags_1.to (fun p q=>by rw [show k=((s.qx[i]!).qO).length by omega];simp only [allS,needF,putF];omega) qf
    · omega
   refine zL [9,10,11,12,13,14] 6 (H.pick [0,2,3,4,5] [0,1,2,3,4,5,6,7,8,9,10,11,12,13,14,15]) ?_
   have S:=H.jG [0,2,3,4,5] [0,1,2,3,4,5,6,7,8,9,10,11,12,13,14,15]
   refine rtp 15 (Bv true) S ?_
   refine tI 16 rfl rfl rfl S ?_
   refine ro 17 rfl (QK H 1 rfl true sizeOf4 rfl rfl (i:=(((s.qx[i]!).qE).toNat)) qf qf fun w173 H=>⟨H.pick [0,2,3,4,5] [0,1,2,3,4,5,6,7,8,9,10,11,12,13,14,15],(xg qh (b_n (t_n (zn (sw (zN i 1 rfl rfl qf (sp (yI (i+1)) (zo (xm (m' :=(counts.length - ((i+1):Int)).toNat) qf ⟨_,i+1,((yu s counts s.qw.length i).set (((s.qx[i]!).qE).toNat) true),bags_1,yO,yX,uE8,?_,?_,?_,?_,rfl,(N.pick []),H.pick [1,2,3,4,5] [0,10,11,12,13,14,15]⟩)))))))))⟩)
   · first | exact meltsL_1 qf qf ‹_› | exact meltsL_2 qf qf ‹_› qf | exact meltsL_3 qf qf ‹_› qf
   · omega
   · exact E_bags_1.to (fun p q=>by rw [show k=((s.qx[i]!).qO).length by omega];simp only [allS,needF,putF];omega) qf
   · omega
  have po:=outPl_out (r:=s.qx[i]!) p15 p1.2.2.1 qc qf
  refine Qe rfl H [0,1,2,3,4,5,6,8,9,10] fun H=>?_
  have S:=H.jG [0,1,2,3,4,5,6,8,9,10] [0,1,2,3,4,5,6,7,8,9,10,11,12,13,14,15,16,17,18,19]
  refine rtp 0 (.func (.func 173) #[] #[pp b79 0,pp b83 0]) S ?_
  refine rt 1 (.agg #[yI s.xf,Sv qC s.qw.length qB,Sv (aa b44 o45) s.qx.length qI]) (yK (cs:=[yI s.xf,Sv qC s.qw.length qB,Sv (aa b44 o45) s.qx.length qI]) isAgg27 sizeOf27 rfl (fun _ h=>qJ (h.cells 4 rfl) 0 3)) S ?_
  refine tF 3 rfl rfl S ?_
  refine tL 4 rfl rfl (fun _ h=>h.cell 1 rfl rfl) S ?_
  refine ro 2 rfl (oq (XR _ s (H.get 14 rfl).1 (H.get 15 rfl).1) H fun w176 H=>⟨H.pick [0,1,2,3,4,5,6,8,9,10] [0,1,2,3,4,5,6,7,8,9,10,11,12,13,14,15,16,17,18,19],(ro 5 rfl (vC #[yI s.qw.length,Sv Q5 (((s.qx[i]!).jI).length) Q4,pp b79 0,pp b83 0] rfl rfl call173 (en func173 ntmps173 ?_)))⟩)
  refine Qe rfl H [0,1,2,3,4,5,6,8,9,10] fun H=>?_
  have S:=H.jG [0,1,2,3,4,5,6,8,9,10] [0,1,2,3,4,5,6,7,8,9,10,11,12,13,14,15,16,17,18,19]
  refine tL 0 rfl rfl (fun _ h=>h.cell 2 rfl rfl) S ?_
  refine rtp 1 (yI s.qw.length) S ?_
  refine tL 2 rfl rfl (fun _ h=>h.cell 2 rfl rfl) S ?_
  refine rtp 3 (yI s.qw.length) S ?_
  refine tI 4 rfl rfl rfl S ?_
  refine rtp 6 (Sv Q5 (((s.qx[i]!).jI).length) Q4) S ?_
  refine tL 7 rfl rfl (fun _ h=>h.cell 0 rfl rfl) S ?_
  refine ro 5 rfl ?_
  obtain ⟨a179,c180,G181,s182,h183,H⟩:=H.jV 7 rfl 0 rfl (iv:=s.qw.length) s.qw.length qf qf
  refine zt (Sv a179 ((bg107[s.qw.length]!).length) c180) isAgg24 rfl (h183) (⟨H.pick [0,1,2,3,4,5,6,8,9,10] [1,2,3,4,5,6,7,8,9,10,11,12,13,14,15,16,17,18,19,20],(ro 8 rfl ?_)⟩)
  obtain ⟨u1,u2⟩:=E_bg107.sh.row (c:=s.qw.length) qf p8 qf
  have u4:=(by first | exact bn1.jU qf | exact bn2.jU qf | exact bn3.jU qf | exact bn4.jU qf:Ve ((s.qx[i]!).jI) (counts[i]!))
  have sz184:=H.base.size
  have lt185:=H.ltN (L:=[G102,G69]) [2,5]
  refine oc (Xq _ (bg107[s.qw.length]!) ((s.qx[i]!).jI) (counts[i]!) (H.get 0 rfl).1 (H.get 11 rfl).1 qg qg qg) ?_
  rintro v189 w187 r189 x188
  replace H:=H.zW x188 r189
  obtain ⟨a190,c191,rfl,hc192,hm193⟩:=H.jY 0 rfl
  refine ⟨H.pick [1,2,3,4,5,6,7,9,10,11] [1,2,3,4,5,6,7,8,9,10,11,12,13,14,15,16,17,18,19,20],(tI 9 rfl rfl rfl (H.pick [1,2,3,4,5,6,7,9,10,11] [1,2,3,4,5,6,7,8,9,10,11,12,13,14,15,16,17,18,19,20]) ?_)⟩
  refine ro 10 rfl ?_
  obtain ⟨G195,N,hn196,H⟩:=H.vz 0 rfl N (H.jJ [2,5])
  refine yh false H 8 rfl 2 rfl (Sv a190 ((vZ (bg107[s.qw.length]!) ((s.qx[i]!).jI) (counts[i]!)).length) c191) 0 rfl rfl sizeOf24 rfl rfl (i:=s.qw.length) qf qf qm fun w194 xs197 F198 hs199 H=>⟨H.pick [1,2,3,4,5,6,7,9,10,11] [3,4,5,6,7,8,9,10,11,12,13,14,15,16,17,18,19,20,21,22],(xg qh ((ret0 rfl ⟨_,rfl,?_⟩)))⟩
  replace H:=H.erases [0]
  dsimp only [ja,List.eraseIdx] at H
  obtain ⟨bg200,e_bg200⟩:∃ z,z=(bg107.set s.qw.length (vZ (bg107[s.qw.length]!) ((s.qx[i]!).jI) (counts[i]!))):=⟨_,rfl⟩
  rw [← e_bg200] at H
  have E_bg200:=Ent.add (D:=1000000) E_bg107 e_bg200 qf (by first | exact bn1.mul qf | exact bn2.mul qf | exact bn3.mul qf | exact bn4.mul qf) qf
  have z_bg200:=E_bg200.sh.1
  have E_cur:=E_bg200
  refine ⟨H.pick [0,1,2,3,4,5,6,8,9,10] [3,4,5,6,7,8,9,10,11,12,13,14,15,16,17,18,19,20,21,22],(xg qh (t_n (zcr (oF rfl (oL rfl (H.cell 1 rfl rfl) (oN rfl (sp (yI 0) (zjn (qZ ?_)))))))))⟩
  refine zU (fun m' ρ w201=>∃ (zl:Env) (k:Nat) (bags_1:yLL) (yO:List Value) (yX:yLN),ρ=upd (upd (upd (upd zl 10 (.func (.func 173) #[] #[pp b79 0,pp b83 0])) 40 (Sv Qy (((s.qx[i]!).qO).length) Qw)) 41 (yI (((s.qx[i]!).qO).length))) 42 (yI k)∧((k:Int)≤(((s.qx[i]!).qO).length))∧(Ent (s.qw.length+1) (xY s) (fun p q=>base0 s t p q+allS s t counts i p q+at' p (s.qx[i]!).qE.toNat (-(counts[i]!) * ((s.qx[i]!).xM)[q]!)+at' p (s.qx[i]!).qE.toNat ((counts[i]!) * ((s.qx[i]!).zC)[q]!)+at' p (outPl s t (s.qx[i]!)) ((counts[i]!) * ((s.qx[i]!).jI)[q]!)+Vf (s.qx[i]!) (counts[i]!) k p q) (23000000+6000000 * i+1000000 * k) bags_1)∧(bags_1.length=s.qw.length+1)∧m' =((((s.qx[i]!).qO).length) - (k:Int)).toNat∧Fresh w.heap.size [G69]∧St w w201 [.box b83 [yI (counts[i]!)] 2,.box b81 [yI ((s.qx[i]!).qE),yI ((s.qx[i]!).vI),Sv QT (((s.qx[i]!).xM).length) QP,Sv QV (((s.qx[i]!).zF).length) QR,Sv QU (((s.qx[i]!).zD).length) QQ,Sv Qz (((s.qx[i]!).zC).length) Qx,Sv Q5 (((s.qx[i]!).jI).length) Q4,Sv Qy (((s.qx[i]!).qO).length) Qw,Bv ((s.qx[i]!).zV)] 56,.box b79 [Sv (aa b52 0) (t.qG.length+1) c8] 29,.box b77 (yT t qR qP xq xn qN qM) 31,.box b75 [yI s.xf,Sv qC s.qw.length qB,Sv (aa b44 o45) s.qx.length qI] 27,.box b48 [yI ((s.qx[i]!).qE),yI ((s.qx[i]!).vI),Sv QT (((s.qx[i]!).xM).length) QP,Sv QV (((s.qx[i]!).zF).length) QR,Sv QU (((s.qx[i]!).zD).length) QQ,Sv Qz (((s.qx[i]!).zC).length) Qx,Sv Q5 (((s.qx[i]!).jI).length) Q4,Sv Qy (((s.qx[i]!).qO).length) Qw,Bv ((s.qx[i]!).zV)] 56,rr (aa b36 0) s.qw.length s.qw.length 4 1 ((yu s counts s.qw.length i).map (Value.bool)),rr (aa b52 0) (t.qG.length+1) c8 24 1 yO,.box b5 [yN,yN,yN] 31,.box b3 (yT t qR qP xq xn qN qM) 31,.box b1 [yI s.xf,Sv qC s.qw.length qB,Sv (aa b44 o45) s.qx.length qI] 27] [qX false yX yO bags_1,sF true G69 a64 c65 (vZ (bags[((s.qx[i]!).qE).toNat]!) ((s.qx[i]!).xM) (-(counts[i]!))),sF false G55 a53 c54 (bags[((s.qx[i]!).qE).toNat]!),sF false Fe47Need QT QP ((s.qx[i]!).xM),sF false Fe47Have QV QR ((s.qx[i]!).zF),sF false Fe47Lack QU QQ ((s.qx[i]!).zD),sF false Fe47Here Qz Qx ((s.qx[i]!).zC),sF false Fe47Out Q5 Q4 ((s.qx[i]!).jI),sF false Fe47Into Qy Qw ((s.qx[i]!).qO),atF b44 (o45+(i:Int).toNat * 9) [yI ((s.qx[i]!).qE),yI ((s.qx[i]!).vI),Sv QT (((s.qx[i]!).xM).length) QP,Sv QV (((s.qx[i]!).zF).length) QR,Sv QU (((s.qx[i]!).zD).length) QQ,Sv Qz (((s.qx[i]!).zC).length) Qx,Sv Q5 (((s.qx[i]!).jI).length) Q4,Sv Qy (((s.qx[i]!).qO).length) Qw,Bv ((s.qx[i]!).zV)],sF false qY qC qB s.qw,sF false xK (aa b44 o45) qI s.qx,sF false zq qR qP t.qF,sF false zX xq xn t.qG,sF false xN qN qM t.qH,sF false Fcounts (aa b41 o42) ccounts counts]) (((((s.qx[i]!).qO).length) - (0:Int)).toNat) ⟨_,0,bg200,xs197,F198,uE4,qf,(by exact E_cur.to (fun p q=>by rw [po];simp only [Vf];first | omega | (simp only [Int.toNat_natCast];omega)) qf),qf,rfl,(N.pick [2]),H.pick [0,1,2,3,4,5,6,7,8,9,10] [0,7,8,9,10,11,12,13,14,15,17,18,19,20,21,22]⟩ ?_
  clear H N
  rintro m' ρ w202 ⟨zl,k,bags_1,yO,yX,rfl,i0,E_bags_1,z_bags_1,rfl,N,H⟩
  have hn_bags:=H.zi (α:=yLI) 7 rfl 0 rfl qj
  refine zcr (sp (Bv (decide ((k:Int) < (((s.qx[i]!).qO).length)))) (zjn (zg (cD rfl (fun h203=>?_) (fun h203=>?_)))))
  ·skip
   have qi:=q.2.2.2.2.2.2.2.2.2.2 k qf
   have qi1:=qi.1
   have bn4:=qi.2.2.1
   have ln4:=bn4.len
   refine xe (t_n (zg (qZ (zcr ?_))))
   obtain ⟨b204,o205,rfl⟩:=H.addr 8 rfl qf
   obtain ⟨ae207Bag,ce207Bag,Fe207Bag,H⟩:=H.yZ 8 rfl k k qf qf qf
   refine oI rfl rfl (sw (zB [yI ((((s.qx[i]!).qO)[k]!).qE),Sv ae207Bag (((((s.qx[i]!).qO)[k]!).Qm).length) ce207Bag] isAgg142 sizeOf142 rfl (qJ (H.get 1 rfl) 0 2) (sw (xx H ti142 [yI 0,yN] fun b208 w209 H=>sw (xu H 0 [yI ((((s.qx[i]!).qO)[k]!).qE),Sv ae207Bag (((((s.qx[i]!).qO)[k]!).Qm).length) ce207Bag] sizeOf142 fun w210 H=>zjn (zn (sp (.func (.func 173) #[] #[pp b79 0,pp b83 0]) (oF rfl (oL rfl (H.cell 0 rfl rfl) (oF rfl (oL rfl (H.cell 0 rfl rfl) ?_)))))))))))
   refine sw (vC #[yI ((((s.qx[i]!).qO)[k]!).qE),Sv ae207Bag (((((s.qx[i]!).qO)[k]!).Qm).length) ce207Bag,pp b79 0,pp b83 0] rfl rfl call173 (en func173 ntmps173 ?_))
   refine Qe rfl H [0,1,2,3,4,5,6,7,9,10,11] fun H=>?_
   have S:=H.jG [0,1,2,3,4,5,6,7,9,10,11] [0,1,2,3,4,5,6,7,8,9,10,11,12,13,14,15,16,17]
   refine tL 0 rfl rfl (fun _ h=>h.cell 3 rfl rfl) S ?_
   refine rtp 1 (yI ((((s.qx[i]!).qO)[k]!).qE)) S ?_
   refine tL 2 rfl rfl (fun _ h=>h.cell 3 rfl rfl) S ?_
   refine rtp 3 (yI ((((s.qx[i]!).qO)[k]!).qE)) S ?_
   refine tI 4 rfl rfl rfl S ?_
   refine rtp 6 (Sv ae207Bag (((((s.qx[i]!).qO)[k]!).Qm).length) ce207Bag) S ?_
   refine tL 7 rfl rfl (fun _ h=>h.cell 1 rfl rfl) S ?_
   refine ro 5 rfl ?_
   obtain ⟨a212,c213,G214,s215,h216,H⟩:=H.jV 8 rfl 2 rfl (iv:=(((s.qx[i]!).qO)[k]!).qE) (((((s.qx[i]!).qO)[k]!).qE).toNat) qf qf
   refine zt (Sv a212 ((bags_1[((((s.qx[i]!).qO)[k]!).qE).toNat]!).length) c213) isAgg24 rfl (h216) (⟨H.pick [0,1,2,3,4,5,6,7,9,10,11] [1,2,3,4,5,6,7,8,9,10,11,12,13,14,15,16,17,18],(ro 8 rfl ?_)⟩)
   obtain ⟨u1,u2⟩:=E_bags_1.sh.row (c:=((((s.qx[i]!).qO)[k]!).qE).toNat) qf p8 qf
   have u4:=(by first | exact bn1.jU qf | exact bn2.jU qf | exact bn3.jU qf | exact bn4.jU qf:Ve ((((s.qx[i]!).qO)[k]!).Qm) (counts[i]!))
   have sz217:=H.base.size
   have lt218:=H.ltN (L:=[G69]) [4]
   refine oc (Xq _ (bags_1[((((s.qx[i]!).qO)[k]!).qE).toNat]!) ((((s.qx[i]!).qO)[k]!).Qm) (counts[i]!) (H.get 0 rfl).1 (H.get 1 rfl).1 qg qg qg) ?_
   rintro v222 w220 r222 x221
   replace H:=H.zW x221 r222
   obtain ⟨a223,c224,rfl,hc225,hm226⟩:=H.jY 0 rfl
   refine ⟨H.pick [1,2,3,4,5,6,7,8,10,11,12] [1,2,3,4,5,6,7,8,9,10,11,12,13,14,15,16,17,18],(tI 9 rfl rfl rfl (H.pick [1,2,3,4,5,6,7,8,10,11,12] [1,2,3,4,5,6,7,8,9,10,11,12,13,14,15,16,17,18]) ?_)⟩
   refine ro 10 rfl ?_
   obtain ⟨G228,N,hn229,H⟩:=H.vz 0 rfl N (H.jJ [4])
   refine yh false H 9 rfl 4 rfl (Sv a223 ((vZ (bags_1[((((s.qx[i]!).qO)[k]!).qE).toNat]!) ((((s.qx[i]!).qO)[k]!).Qm) (counts[i]!)).length) c224) 0 rfl rfl sizeOf24 rfl rfl (i:=(((((s.qx[i]!).qO)[k]!).qE).toNat)) qf qf qm fun w227 xs230 F231 hs232 H=>⟨H.pick [1,2,3,4,5,6,7,8,10,11,12] [3,4,5,6,7,8,9,10,11,12,13,14,15,16,17,18,19,20],(xg qh ((ret0 rfl ⟨_,rfl,?_⟩)))⟩
   replace H:=H.erases [0]
   dsimp only [ja,List.eraseIdx] at H
   obtain ⟨bg233,e_bg233⟩:∃ z,z=(bags_1.set (((((s.qx[i]!).qO)[k]!).qE).toNat) (vZ (bags_1[((((s.qx[i]!).qO)[k]!).qE).toNat]!) ((((s.qx[i]!).qO)[k]!).Qm) (counts[i]!))):=⟨_,rfl⟩
   rw [← e_bg233] at H
   have E_bg233:=Ent.add (D:=1000000) E_bags_1 e_bg233 qf (by first | exact bn1.mul qf | exact bn2.mul qf | exact bn3.mul qf | exact bn4.mul qf) qf
   have z_bg233:=E_bg233.sh.1
   have E_cur:=E_bg233
   refine zo (b_n (t_n (zn (sw (zN k 1 rfl rfl qf (sp (yI (k+1)) (zo (xm (m' :=((((s.qx[i]!).qO).length) - ((k+1):Int)).toNat) qf ⟨_,k+1,bg233,xs230,F231,uE4,?_,?_,?_,rfl,(N.pick [1]),H.pick [1,2,3,4,5,6,7,8,9,10,11] [0,6,7,8,9,10,11,12,13,14,15,16,17,18,19,20]⟩))))))))
   · omega
   · exact E_cur.to (fun p q=>by simp only [Vf];omega) qf
   · omega
  refine c_exit (t_x (t_x (b_x (ret0 rfl ⟨_,rfl,?_⟩))))
  replace H:=H.erases [4,3,2,1,0]
  dsimp only [ja,List.eraseIdx] at H
  refine zjn ?_
  refine Qe rfl H [0,2,3,4,5] fun H=>?_
  have S:=H.jG [0,2,3,4,5] [0,1,2,3,4,5,6,7,8,9,10,11,12,13,14,15]
  refine rtp 0 (Sv (aa b36 0) s.qw.length s.qw.length) S ?_
  refine tF 1 rfl rfl S ?_
  refine tL 2 rfl rfl (fun _ h=>h.cell 0 rfl rfl) S ?_
  refine rtp 3 (Sv (aa b36 0) s.qw.length s.qw.length) S ?_
  refine tF 4 rfl rfl S ?_
  refine tL 5 rfl rfl (fun _ h=>h.cell 0 rfl rfl) S ?_
  refine tI 6 rfl rfl rfl S ?_
  refine ro 7 rfl (zt (Bv ((yu s counts s.qw.length i)[((s.qx[i]!).qE).toNat]!)) isAgg4 rfl (H.rowBool 1 rfl (iv:=(s.qx[i]!).qE) (i:=(((s.qx[i]!).qE).toNat)) qf qf) (⟨H.pick [0,2,3,4,5] [0,1,2,3,4,5,6,7,8,9,10,11,12,13,14,15],(rtp 8 (Bv ((yu s counts s.qw.length i)[((s.qx[i]!).qE).toNat]!)) (H.pick [0,2,3,4,5] [0,1,2,3,4,5,6,7,8,9,10,11,12,13,14,15]) ?_)⟩))
  cases h235:((yu s counts s.qw.length i)[((s.qx[i]!).qE).toNat]!)
  ·skip
   have S:=H.jG [0,2,3,4,5] [0,1,2,3,4,5,6,7,8,9,10,11,12,13,14,15]
   refine rgp 9 (yI (counts[i]!)) 66 S ?_
   refine rgp 10 (Bv (decide ((counts[i]! :Int) > 0))) 66 S ?_
   refine rgp 11 (Bv (decide ((counts[i]! :Int) > 0))) 66 S ?_
   cases h236:(decide ((counts[i]! :Int) > 0))
   ·skip
    replace h236:=of_decide_eq_false h236
    refine zL [12,13] 2 (H.pick [0,2,3,4,5] [0,1,2,3,4,5,6,7,8,9,10,11,12,13,14,15]) ?_
    have S:=H.jG [0,2,3,4,5] [0,1,2,3,4,5,6,7,8,9,10,11,12,13,14,15]
    refine rgp 14 (Bv false) 66 S ?_
    refine rtp 15 (Bv false) S ?_
    refine tI 16 rfl rfl rfl S ?_
    refine ro 17 rfl (QK H 1 rfl false sizeOf4 rfl rfl (i:=(((s.qx[i]!).qE).toNat)) qf qf fun w237 H=>⟨H.pick [0,2,3,4,5] [0,1,2,3,4,5,6,7,8,9,10,11,12,13,14,15],(xg qh (b_n (t_n (zn (sw (zN i 1 rfl rfl qf (sp (yI (i+1)) (zo (xm (m' :=(counts.length - ((i+1):Int)).toNat) qf ⟨_,i+1,((yu s counts s.qw.length i).set (((s.qx[i]!).qE).toNat) false),bags_1,yO,yX,uE8,?_,?_,?_,?_,rfl,(N.pick []),H.pick [1,2,3,4,5] [0,10,11,12,13,14,15]⟩)))))))))⟩)
    · first | exact meltsL_1 qf qf ‹_› | exact meltsL_2 qf qf ‹_› qf | exact meltsL_3 qf qf ‹_› qf
    · omega
    · exact E_bags_1.to (fun p q=>by rw [show k=((s.qx[i]!).qO).length by omega];simp only [allS,needF,putF];omega) qf
    · omega
   replace h236:=of_decide_eq_true h236
   have S:=H.jG [0,2,3,4,5] [0,1,2,3,4,5,6,7,8,9,10,11,12,13,14,15]
   refine gF 12 rfl rfl S ?_
   refine gL 13 rfl rfl (fun _ h=>h.cell 0 rfl rfl) S ?_
   refine rgp 14 (Bv ((s.qx[i]!).zV)) 66 S ?_
   refine rtp 15 (Bv ((s.qx[i]!).zV)) S ?_
   refine tI 16 rfl rfl rfl S ?_
   refine ro 17 rfl (QK H 1 rfl ((s.qx[i]!).zV) sizeOf4 rfl rfl (i:=(((s.qx[i]!).qE).toNat)) qf qf fun w238 H=>⟨H.pick [0,2,3,4,5] [0,1,2,3,4,5,6,7,8,9,10,11,12,13,14,15],(xg qh (b_n (t_n (zn (sw (zN i 1 rfl rfl qf (sp (yI (i+1)) (zo (xm (m' :=(counts.length - ((i+1):Int)).toNat) qf ⟨_,i+1,((yu s counts s.qw.length i).set (((s.qx[i]!).qE).toNat) ((s.qx[i]!).zV)),bags_1,yO,yX,uE8,?_,?_,?_,?_,rfl,(N.pick []),H.pick [1,2,3,4,5] [0,10,11,12,13,14,15]⟩)))))))))⟩)
   · first | exact meltsL_1 qf qf ‹_› | exact meltsL_2 qf qf ‹_› qf | exact meltsL_3 qf qf ‹_› qf
   · omega
   · exact E_bags_1.to (fun p q=>by rw [show k=((s.qx[i]!).qO).length by omega];simp only [allS,needF,putF];omega) qf
   · omega
  refine zL [9,10,11,12,13,14] 6 (H.pick [0,2,3,4,5] [0,1,2,3,4,5,6,7,8,9,10,11,12,13,14,15]) ?_
  have S:=H.jG [0,2,3,4,5] [0,1,2,3,4,5,6,7,8,9,10,11,12,13,14,15]
  refine rtp 15 (Bv true) S ?_
  refine tI 16 rfl rfl rfl S ?_
  refine ro 17 rfl (QK H 1 rfl true sizeOf4 rfl rfl (i:=(((s.qx[i]!).qE).toNat)) qf qf fun w239 H=>⟨H.pick [0,2,3,4,5] [0,1,2,3,4,5,6,7,8,9,10,11,12,13,14,15],(xg qh (b_n (t_n (zn (sw (zN i 1 rfl rfl qf (sp (yI (i+1)) (zo (xm (m' :=(counts.length - ((i+1):Int)).toNat) qf ⟨_,i+1,((yu s counts s.qw.length i).set (((s.qx[i]!).qE).toNat) true),bags_1,yO,yX,uE8,?_,?_,?_,?_,rfl,(N.pick []),H.pick [1,2,3,4,5] [0,10,11,12,13,14,15]⟩)))))))))⟩)
  · first | exact meltsL_1 qf qf ‹_› | exact meltsL_2 qf qf ‹_› qf | exact meltsL_3 qf qf ‹_› qf
  · omega
  · exact E_bags_1.to (fun p q=>by rw [show k=((s.qx[i]!).qO).length by omega];simp only [allS,needF,putF];omega) qf
  · omega
 refine zx4 (zg ?_)
 obtain ⟨b240,rfl⟩:=H.Qc 1 rfl qf
 refine c_cut (fun ρ w250=>∃ (zl:Env) (b241:Nat) (ra242:yOA) (rc243:Nat) (ra244:yOA) (rc245:Nat) (ra246:yOA) (rc247:Nat) (rx248:List Value) (rF249:yLN),ρ=upd (upd (upd (upd zl 3 (pp b1 0)) 6 (pp b5 0)) 9 (Sv (aa b36 0) s.qw.length s.qw.length)) 13 (pp b241 0)∧Fresh w.heap.size [rF249]∧St w w250 [.box b241 [Sv ra242 (((⟨t.qF,(bags.take s.qw.length),bags[s.qw.length]!⟩:qA).qF).length) rc243,Sv ra244 (((⟨t.qF,(bags.take s.qw.length),bags[s.qw.length]!⟩:qA).qG).length) rc245,Sv ra246 (((⟨t.qF,(bags.take s.qw.length),bags[s.qw.length]!⟩:qA).qH).length) rc247] 31,rr ra242 (((⟨t.qF,(bags.take s.qw.length),bags[s.qw.length]!⟩:qA).qF).length) rc243 4 1 (((⟨t.qF,(bags.take s.qw.length),bags[s.qw.length]!⟩:qA).qF).map (Value.bool)),rr ra244 (((⟨t.qF,(bags.take s.qw.length),bags[s.qw.length]!⟩:qA).qG).length) rc245 24 1 rx248,rr ra246 (((⟨t.qF,(bags.take s.qw.length),bags[s.qw.length]!⟩:qA).qH).length) rc247 2 1 (((⟨t.qF,(bags.take s.qw.length),bags[s.qw.length]!⟩:qA).qH).map (Value.int .i64)),rr (aa b36 0) s.qw.length s.qw.length 4 1 ((yu s counts s.qw.length i).map (Value.bool)),rr none 0 0 0 1 [],.box b5 [yN,yN,yN] 31,.box b3 (yT t qR qP xq xn qN qM) 31,.box b1 (yS s qC qB qK qI) 27] [qX true rF249 rx248 ((⟨t.qF,(bags.take s.qw.length),bags[s.qw.length]!⟩:qA).qG),sF false qY qC qB s.qw,sF false xK qK qI s.qx,sF false zq qR qP t.qF,sF false zX xq xn t.qG,sF false xN qN qM t.qH]) ?_ ?_
 ·skip
  refine Qe rfl H [0,2,3,4] fun H=>?_
  refine r_have (fun ρ w258=>∃ (zl:Env) (a252:yOA) (c253:Nat) (a254:yOA) (G255:yLN) (G256:yLN),ρ=upd (upd (upd (upd (upd (upd zl 3 (pp b1 0)) 6 (pp b5 0)) 9 (Sv (aa b36 0) s.qw.length s.qw.length)) 77 (Sv qR t.qF.length qP)) 81 (Sv a254 ((bags.take s.qw.length).length) c8)) 86 (Sv a252 ((bags[s.qw.length]!).length) c253)∧Fresh w.heap.size []∧St w w258 [rr (aa b36 0) s.qw.length s.qw.length 4 1 ((yu s counts s.qw.length i).map (Value.bool)),rr none 0 0 0 1 [],.box b5 [yN,yN,yN] 31,.box b3 (yT t qR qP xq xn qN qM) 31,.box b1 (yS s qC qB qK qI) 27] [sF false G255 a254 c8 (bags.take s.qw.length),sF false G256 a252 c253 (bags[s.qw.length]!),qX false F_bags x_bags bags,sF false qY qC qB s.qw,sF false xK qK qI s.qx,sF false zq qR qP t.qF,sF false zX xq xn t.qG,sF false xN qN qM t.qH,sF false Fcounts acounts ccounts counts]) 4 #[true,true,true,true,true,true,true,true,true,true,true,false,false,false,false] ?_ fun L257=>?_
  ·skip
   rintro ρ w259 ⟨zl,a252,c253,a254,G255,G256,rfl,N,H⟩
   refine zH [11,13] qh qm (vg rfl ?_ (vg rfl ?_ zI))
   ·skip
    refine xP [Sv qR t.qF.length qP,Sv a254 ((bags.take s.qw.length).length) c8,Sv a252 ((bags[s.qw.length]!).length) c253] [(0,Sv qR t.qF.length qP),(1,Sv a254 ((bags.take s.qw.length).length) c8),(2,Sv a252 ((bags[s.qw.length]!).length) c253)] (⟨H.pick [0,2,3,4] [2,3,4,5,6,7,8],(zH [12,13] qh qm (vg rfl ?_ (vg rfl ?_ zI)))⟩)
    ·skip
     obtain ⟨cp0,cp1,cp2,cp3⟩:=copy_pre (al:=t.qF) E_bags p8 p9.2 p12
     have sz263:=H.base.size
     refine oc (copied_ok _ (⟨t.qF,(bags.take s.qw.length),bags[s.qw.length]!⟩:qA) (H.get 5 rfl).1 (H.get 0 rfl).1 (H.get 1 rfl).1 qg qg qg qg) ?_
     rintro _ w261 ⟨ra260Alive,rn260Alive,rc260Alive,ra260Bags,rn260Bags,rc260Bags,rx260Bags,rF260Bags,ra260Around,rn260Around,rc260Around,rfl,M,K⟩ _
     replace N:=N.merge sz263 qm M
     replace H:=H.merge K M
     obtain rfl:=H.rowNB 0 rfl
     obtain rfl:=H.zi (α:=yLI) 1 rfl 0 rfl qj
     obtain rfl:=H.vM 2 rfl
     refine ⟨H.pick [3,5,6,7] [3,4,5,6,7,8,9],(ro 13 rfl (xx H ti31 [yN,yN,yN] fun b268 w269 H=>⟨H.pick [4,6,7,8] [3,4,5,6,7,8,9],(ro 14 rfl (xu H 0 [Sv ra260Alive (((⟨t.qF,(bags.take s.qw.length),bags[s.qw.length]!⟩:qA).qF).length) rc260Alive,Sv ra260Bags (((⟨t.qF,(bags.take s.qw.length),bags[s.qw.length]!⟩:qA).qG).length) rc260Bags,Sv ra260Around (((⟨t.qF,(bags.take s.qw.length),bags[s.qw.length]!⟩:qA).qH).length) rc260Around] sizeOf31 fun w270 H=>⟨H.pick [4,6,7,8] [3,4,5,6,7,8,9],?_⟩))⟩))⟩
     refine xg qh ((meet ⟨_,b268,ra260Alive,rc260Alive,ra260Bags,rc260Bags,ra260Around,rc260Around,rx260Bags,rF260Bags,uE4,N,H.pick [0,1,2,3,4,5,6,7,8] [0,4,5,6,7,8]⟩))
    refine xx H ti31 [yN,yN,yN] fun b271 w272 H=>⟨H.pick [1,3,4,5] [2,3,4,5,6,7,8],(ro 12 rfl ?_)⟩
    obtain ⟨cp0,cp1,cp2,cp3⟩:=copy_pre (al:=t.qF) E_bags p8 p9.2 p12
    have sz276:=H.base.size
    refine oc (copied_ok _ (⟨t.qF,(bags.take s.qw.length),bags[s.qw.length]!⟩:qA) (H.get 5 rfl).1 (H.get 0 rfl).1 (H.get 1 rfl).1 qg qg qg qg) ?_
    rintro _ w274 ⟨ra273Alive,rn273Alive,rc273Alive,ra273Bags,rn273Bags,rc273Bags,rx273Bags,rF273Bags,ra273Around,rn273Around,rc273Around,rfl,M,K⟩ _
    replace N:=N.merge sz276 qm M
    replace H:=H.merge K M
    obtain rfl:=H.rowNB 0 rfl
    obtain rfl:=H.zi (α:=yLI) 1 rfl 0 rfl qj
    obtain rfl:=H.vM 2 rfl
    refine ⟨H.pick [4,6,7,8] [3,4,5,6,7,8,9],(ro 14 rfl (xu H 3 [Sv ra273Alive (((⟨t.qF,(bags.take s.qw.length),bags[s.qw.length]!⟩:qA).qF).length) rc273Alive,Sv ra273Bags (((⟨t.qF,(bags.take s.qw.length),bags[s.qw.length]!⟩:qA).qG).length) rc273Bags,Sv ra273Around (((⟨t.qF,(bags.take s.qw.length),bags[s.qw.length]!⟩:qA).qH).length) rc273Around] sizeOf31 fun w281 H=>⟨H.pick [4,6,7,8] [3,4,5,6,7,8,9],(xg qh (?_))⟩))⟩
    exact meet ⟨_,b271,ra273Alive,rc273Alive,ra273Bags,rc273Bags,ra273Around,rc273Around,rx273Bags,rF273Bags,uE4,N,H.pick [3,0,1,2,4,5,6,7,8] [0,4,5,6,7,8]⟩
   refine xx H ti31 [yN,yN,yN] fun b282 w283 H=>⟨H.pick [1,3,4,5] [2,3,4,5,6,7,8],(ro 11 rfl (xP [Sv qR t.qF.length qP,Sv a254 ((bags.take s.qw.length).length) c8,Sv a252 ((bags[s.qw.length]!).length) c253] [(0,Sv qR t.qF.length qP),(1,Sv a254 ((bags.take s.qw.length).length) c8),(2,Sv a252 ((bags[s.qw.length]!).length) c253)] (⟨H.pick [1,3,4,5] [2,3,4,5,6,7,8],(ro 12 rfl ?_)⟩)))⟩
   obtain ⟨cp0,cp1,cp2,cp3⟩:=copy_pre (al:=t.qF) E_bags p8 p9.2 p12
   have sz287:=H.base.size
   refine oc (copied_ok _ (⟨t.qF,(bags.take s.qw.length),bags[s.qw.length]!⟩:qA) (H.get 5 rfl).1 (H.get 0 rfl).1 (H.get 1 rfl).1 qg qg qg qg) ?_
   rintro _ w285 ⟨ra284Alive,rn284Alive,rc284Alive,ra284Bags,rn284Bags,rc284Bags,rx284Bags,rF284Bags,ra284Around,rn284Around,rc284Around,rfl,M,K⟩ _
   replace N:=N.merge sz287 qm M
   replace H:=H.merge K M
   obtain rfl:=H.rowNB 0 rfl
   obtain rfl:=H.zi (α:=yLI) 1 rfl 0 rfl qj
   obtain rfl:=H.vM 2 rfl
   refine ⟨H.pick [4,6,7,8] [3,4,5,6,7,8,9],(ro 14 rfl (xu H 3 [Sv ra284Alive (((⟨t.qF,(bags.take s.qw.length),bags[s.qw.length]!⟩:qA).qF).length) rc284Alive,Sv ra284Bags (((⟨t.qF,(bags.take s.qw.length),bags[s.qw.length]!⟩:qA).qG).length) rc284Bags,Sv ra284Around (((⟨t.qF,(bags.take s.qw.length),bags[s.qw.length]!⟩:qA).qH).length) rc284Around] sizeOf31 fun w292 H=>⟨H.pick [4,6,7,8] [3,4,5,6,7,8,9],(xg qh (?_))⟩))⟩
   exact meet ⟨_,b282,ra284Alive,rc284Alive,ra284Bags,rc284Bags,ra284Around,rc284Around,rx284Bags,rF284Bags,uE4,N,H.pick [3,0,1,2,4,5,6,7,8] [0,4,5,6,7,8]⟩
  refine r_have (fun ρ w297=>∃ (zl:Env) (a293:yOA) (G294:yLN) (G295:yLN),ρ=upd (upd (upd (upd (upd (upd zl 3 (pp b1 0)) 6 (pp b5 0)) 9 (Sv (aa b36 0) s.qw.length s.qw.length)) 77 (Sv qR t.qF.length qP)) 81 (Sv a293 ((bags.take s.qw.length).length) c8)) 85 (pp b240 (0+(s.qw.length:Int).toNat * 1))∧Fresh w.heap.size []∧St w w297 [rr (aa b36 0) s.qw.length s.qw.length 4 1 ((yu s counts s.qw.length i).map (Value.bool)),rr none 0 0 0 1 [],.box b5 [yN,yN,yN] 31,.box b3 (yT t qR qP xq xn qN qM) 31,.box b1 (yS s qC qB qK qI) 27] [sF false G294 a293 c8 (bags.take s.qw.length),isF false G295 (Sv (aa b240 0) (t.qG.length+1) c8) bags,qX false F_bags x_bags bags,sF false qY qC qB s.qw,sF false xK qK qI s.qx,sF false zq qR qP t.qF,sF false zX xq xn t.qG,sF false xN qN qM t.qH,sF false Fcounts acounts ccounts counts]) 5 #[true,true,true,true,true,true,true,true,true,true,false,false,false,false,false] ?_ fun L296=>?_
  ·skip
   rintro ρ w298 ⟨zl,a293,G294,G295,rfl,N,H⟩
   refine zH [10,13] qh qm (vg rfl ?_ (vg rfl ?_ zI))
   ·skip
    have hl299:=H.isLen 1 rfl
    obtain ⟨ae300,ce300,Fe300,H⟩:=H.jS 1 rfl s.qw.length s.qw.length qf qf qf
    refine zt (Sv ae300 ((bags[s.qw.length]!).length) ce300) isAgg24 rfl (H.zu 1 rfl 0 rfl) (⟨H.pick [0,2,3,4] [4,5,6,7,8,9,10],(Xf L257 ⟨_,ae300,ce300,a293,G294,Fe300,uE6,N,H.pick [0,1,2,3,4] [2,0,4,5,6,7,8,9,10]⟩)⟩)
   refine xx H ti31 [yN,yN,yN] fun b301 w302 H=>⟨H.pick [1,3,4,5] [2,3,4,5,6,7,8],(ro 10 rfl ?_)⟩
   have hl303:=H.isLen 1 rfl
   obtain ⟨ae304,ce304,Fe304,H⟩:=H.jS 1 rfl s.qw.length s.qw.length qf qf qf
   refine zt (Sv ae304 ((bags[s.qw.length]!).length) ce304) isAgg24 rfl (H.zu 1 rfl 0 rfl) (⟨H.pick [1,3,4,5] [4,5,6,7,8,9,10],(ro 11 rfl (xP [Sv qR t.qF.length qP,Sv a293 ((bags.take s.qw.length).length) c8,Sv ae304 ((bags[s.qw.length]!).length) ce304] [(0,Sv qR t.qF.length qP),(1,Sv a293 ((bags.take s.qw.length).length) c8),(2,Sv ae304 ((bags[s.qw.length]!).length) ce304)] (⟨H.pick [1,3,4,5] [4,5,6,7,8,9,10],(ro 12 rfl ?_)⟩)))⟩)
   obtain ⟨cp0,cp1,cp2,cp3⟩:=copy_pre (al:=t.qF) E_bags p8 p9.2 p12
   have sz308:=H.base.size
   refine oc (copied_ok _ (⟨t.qF,(bags.take s.qw.length),bags[s.qw.length]!⟩:qA) (H.get 7 rfl).1 (H.get 2 rfl).1 (H.get 0 rfl).1 qg qg qg qg) ?_
   rintro _ w306 ⟨ra305Alive,rn305Alive,rc305Alive,ra305Bags,rn305Bags,rc305Bags,rx305Bags,rF305Bags,ra305Around,rn305Around,rc305Around,rfl,M,K⟩ _
   replace N:=N.merge sz308 qm M
   replace H:=H.merge K M
   obtain rfl:=H.rowNB 0 rfl
   obtain rfl:=H.zi (α:=yLI) 1 rfl 0 rfl qj
   obtain rfl:=H.vM 2 rfl
   refine ⟨H.pick [4,6,7,8] [5,6,7,8,9,10,11],(ro 14 rfl (xu H 3 [Sv ra305Alive (((⟨t.qF,(bags.take s.qw.length),bags[s.qw.length]!⟩:qA).qF).length) rc305Alive,Sv ra305Bags (((⟨t.qF,(bags.take s.qw.length),bags[s.qw.length]!⟩:qA).qG).length) rc305Bags,Sv ra305Around (((⟨t.qF,(bags.take s.qw.length),bags[s.qw.length]!⟩:qA).qH).length) rc305Around] sizeOf31 fun w313 H=>⟨H.pick [4,6,7,8] [5,6,7,8,9,10,11],(xg qh (?_))⟩))⟩
   exact meet ⟨_,b301,ra305Alive,rc305Alive,ra305Bags,rc305Bags,ra305Around,rc305Around,rx305Bags,rF305Bags,uE4,N,H.pick [3,0,1,2,4,5,6,7,8] [0,6,7,8,9,10]⟩
  refine r_have (fun ρ w316=>∃ (zl:Env) (b314:Nat),ρ=upd (upd (upd (upd (upd (upd (upd (upd zl 3 (pp b1 0)) 6 (pp b5 0)) 9 (Sv (aa b36 0) s.qw.length s.qw.length)) 13 (pp b314 0)) 77 (Sv qR t.qF.length qP)) 78 (Sv (aa b240 0) (t.qG.length+1) c8)) 80 (yI s.qw.length)) 85 (pp b240 (0+(s.qw.length:Int).toNat * 1))∧Fresh w.heap.size []∧St w w316 [.box b314 [yN,yN,yN] 31,rr (aa b36 0) s.qw.length s.qw.length 4 1 ((yu s counts s.qw.length i).map (Value.bool)),rr (aa b240 0) (t.qG.length+1) c8 24 1 x_bags,.box b5 [yN,yN,yN] 31,.box b3 (yT t qR qP xq xn qN qM) 31,.box b1 (yS s qC qB qK qI) 27] [qX false F_bags x_bags bags,sF false qY qC qB s.qw,sF false xK qK qI s.qx,sF false zq qR qP t.qF,sF false zX xq xn t.qG,sF false xN qN qM t.qH,sF false Fcounts acounts ccounts counts]) 5 #[true,true,true,true,true,false,true,true,true,true,false,false,false,true,false] ?_ fun L315=>?_
  ·skip
   rintro ρ w317 ⟨zl,b314,rfl,N,H⟩
   refine zH [5,10] qh qm (vg rfl ?_ (vg rfl ?_ zI))
   ·skip
    obtain ⟨G318,hg320,hn319,H⟩:=H.Q3 (α:=yLI) 2 rfl 0 rfl qj
    have hl325:=H.isLen 0 rfl
    refine o_head H 0 rfl s.qw.length underlying29 ti24 rfl rfl qf qf fun a321 G322 hG323 H=>?_
    have hl324:(bags.take s.qw.length).length=s.qw.length:=List.length_take_of_le qf
    refine ⟨H.pick [1,3,4,5] [2,3,4,5,6,7,8],(ro 10 rfl ?_)⟩
    have hl326:=H.isLen 1 rfl
    obtain ⟨ae327,ce327,Fe327,H⟩:=H.jS 1 rfl s.qw.length s.qw.length qf qf qf
    refine zt (Sv ae327 ((bags[s.qw.length]!).length) ce327) isAgg24 rfl (H.zu 1 rfl 0 rfl) (⟨H.pick [1,3,4,5] [4,5,6,7,8,9,10],(ro 11 rfl (xP [Sv qR t.qF.length qP,Sv a321 ((bags.take s.qw.length).length) c8,Sv ae327 ((bags[s.qw.length]!).length) ce327] [(0,Sv qR t.qF.length qP),(1,Sv a321 ((bags.take s.qw.length).length) c8),(2,Sv ae327 ((bags[s.qw.length]!).length) ce327)] (⟨H.pick [1,3,4,5] [4,5,6,7,8,9,10],(ro 12 rfl ?_)⟩)))⟩)
    obtain ⟨cp0,cp1,cp2,cp3⟩:=copy_pre (al:=t.qF) E_bags p8 p9.2 p12
    have sz331:=H.base.size
    refine oc (copied_ok _ (⟨t.qF,(bags.take s.qw.length),bags[s.qw.length]!⟩:qA) (H.get 7 rfl).1 (H.get 2 rfl).1 (H.get 0 rfl).1 qg qg qg qg) ?_
    rintro _ w329 ⟨ra328Alive,rn328Alive,rc328Alive,ra328Bags,rn328Bags,rc328Bags,rx328Bags,rF328Bags,ra328Around,rn328Around,rc328Around,rfl,M,K⟩ _
    replace N:=N.merge sz331 qm M
    replace H:=H.merge K M
    obtain rfl:=H.rowNB 0 rfl
    obtain rfl:=H.zi (α:=yLI) 1 rfl 0 rfl qj
    obtain rfl:=H.vM 2 rfl
    refine ⟨H.pick [4,6,7,8] [5,6,7,8,9,10,11],(ro 14 rfl (xu H 3 [Sv ra328Alive (((⟨t.qF,(bags.take s.qw.length),bags[s.qw.length]!⟩:qA).qF).length) rc328Alive,Sv ra328Bags (((⟨t.qF,(bags.take s.qw.length),bags[s.qw.length]!⟩:qA).qG).length) rc328Bags,Sv ra328Around (((⟨t.qF,(bags.take s.qw.length),bags[s.qw.length]!⟩:qA).qH).length) rc328Around] sizeOf31 fun w336 H=>⟨H.pick [4,6,7,8] [5,6,7,8,9,10,11],(xg qh (?_))⟩))⟩
    exact meet ⟨_,b314,ra328Alive,rc328Alive,ra328Bags,rc328Bags,ra328Around,rc328Around,rx328Bags,rF328Bags,uE4,N,H.pick [3,0,1,2,4,5,6,7,8] [0,6,7,8,9,10]⟩
   obtain ⟨a337,c338,G339,s340,h341,H⟩:=H.jV 2 rfl 0 rfl (iv:=s.qw.length) s.qw.length qf qf
   refine zt (Sv a337 ((bags[s.qw.length]!).length) c338) isAgg24 rfl (h341) (⟨H.pick [1,3,4,5] [1,2,3,4,5,6,7],(ro 5 rfl ?_)⟩)
   obtain ⟨G342,hg344,hn343,H⟩:=H.Q3 (α:=yLI) 2 rfl 1 rfl qj
   have hl349:=H.isLen 0 rfl
   refine o_head H 0 rfl s.qw.length underlying29 ti24 rfl rfl qf qf fun a345 G346 hG347 H=>?_
   have hl348:(bags.take s.qw.length).length=s.qw.length:=List.length_take_of_le qf
   refine ⟨H.pick [1,3,4,5] [3,4,5,6,7,8,9],(ro 11 rfl (xP [Sv qR t.qF.length qP,Sv a345 ((bags.take s.qw.length).length) c8,Sv a337 ((bags[s.qw.length]!).length) c338] [(0,Sv qR t.qF.length qP),(1,Sv a345 ((bags.take s.qw.length).length) c8),(2,Sv a337 ((bags[s.qw.length]!).length) c338)] (⟨H.pick [1,3,4,5] [3,4,5,6,7,8,9],(ro 12 rfl ?_)⟩)))⟩
   obtain ⟨cp0,cp1,cp2,cp3⟩:=copy_pre (al:=t.qF) E_bags p8 p9.2 p12
   have sz353:=H.base.size
   refine oc (copied_ok _ (⟨t.qF,(bags.take s.qw.length),bags[s.qw.length]!⟩:qA) (H.get 6 rfl).1 (H.get 0 rfl).1 (H.get 2 rfl).1 qg qg qg qg) ?_
   rintro _ w351 ⟨ra350Alive,rn350Alive,rc350Alive,ra350Bags,rn350Bags,rc350Bags,rx350Bags,rF350Bags,ra350Around,rn350Around,rc350Around,rfl,M,K⟩ _
   replace N:=N.merge sz353 qm M
   replace H:=H.merge K M
   obtain rfl:=H.rowNB 0 rfl
   obtain rfl:=H.zi (α:=yLI) 1 rfl 0 rfl qj
   obtain rfl:=H.vM 2 rfl
   refine ⟨H.pick [4,6,7,8] [4,5,6,7,8,9,10],(ro 14 rfl (xu H 3 [Sv ra350Alive (((⟨t.qF,(bags.take s.qw.length),bags[s.qw.length]!⟩:qA).qF).length) rc350Alive,Sv ra350Bags (((⟨t.qF,(bags.take s.qw.length),bags[s.qw.length]!⟩:qA).qG).length) rc350Bags,Sv ra350Around (((⟨t.qF,(bags.take s.qw.length),bags[s.qw.length]!⟩:qA).qH).length) rc350Around] sizeOf31 fun w358 H=>⟨H.pick [4,6,7,8] [4,5,6,7,8,9,10],(xg qh (?_))⟩))⟩
   exact meet ⟨_,b314,ra350Alive,rc350Alive,ra350Bags,rc350Bags,ra350Around,rc350Around,rx350Bags,rF350Bags,uE4,N,H.pick [3,0,1,2,4,5,6,7,8] [0,5,6,7,8,9]⟩
  refine r_have (fun ρ w361=>∃ (zl:Env) (b359:Nat),ρ=upd (upd (upd (upd (upd (upd (upd (upd (upd zl 3 (pp b1 0)) 6 (pp b5 0)) 9 (Sv (aa b36 0) s.qw.length s.qw.length)) 13 (pp b359 0)) 77 (Sv qR t.qF.length qP)) 78 (Sv (aa b240 0) (t.qG.length+1) c8)) 80 (yI s.qw.length)) 82 (Sv (aa b240 0) (t.qG.length+1) c8)) 83 (.agg #[yI s.xf,Sv qC s.qw.length qB,Sv qK s.qx.length qI])∧Fresh w.heap.size []∧St w w361 [.box b359 [yN,yN,yN] 31,rr (aa b36 0) s.qw.length s.qw.length 4 1 ((yu s counts s.qw.length i).map (Value.bool)),rr (aa b240 0) (t.qG.length+1) c8 24 1 x_bags,.box b5 [yN,yN,yN] 31,.box b3 (yT t qR qP xq xn qN qM) 31,.box b1 (yS s qC qB qK qI) 27] [qX false F_bags x_bags bags,sF false qY qC qB s.qw,sF false xK qK qI s.qx,sF false zq qR qP t.qF,sF false zX xq xn t.qG,sF false xN qN qM t.qH,sF false Fcounts acounts ccounts counts]) 7 #[true,true,true,true,true,false,true,true,false,false,false,false,false,true,false] ?_ fun L360=>?_
  ·skip
   rintro ρ w362 ⟨zl,b359,rfl,N,H⟩
   refine zH [5,8] qh qm (vg rfl ?_ (vg rfl ?_ zI))
   ·skip
    obtain ⟨G363,hg365,hn364,H⟩:=H.Q3 (α:=yLI) 2 rfl 0 rfl qj
    have hl370:=H.isLen 0 rfl
    refine o_head H 0 rfl s.qw.length underlying29 ti24 rfl rfl qf qf fun a366 G367 hG368 H=>?_
    have hl369:(bags.take s.qw.length).length=s.qw.length:=List.length_take_of_le qf
    refine ⟨H.pick [1,3,4,5] [2,3,4,5,6,7,8],(ro 8 rfl (oq (XR _ s (H.get 3 rfl).1 (H.get 4 rfl).1) H fun w372 H=>⟨H.pick [1,3,4,5] [2,3,4,5,6,7,8],?_⟩))⟩
    obtain ⟨ae374,ce374,Fe374,H⟩:=H.jS 1 rfl s.qw.length s.qw.length qf qf qf
    refine tI 9 rfl rfl rfl (H.pick [1,3,4,5] [4,5,6,7,8,9,10]) ?_
    refine ro 10 rfl (zt (Sv ae374 ((bags[s.qw.length]!).length) ce374) isAgg24 rfl (H.zu 1 rfl 0 rfl) (⟨H.pick [1,3,4,5] [4,5,6,7,8,9,10],(ro 11 rfl (xP [Sv qR t.qF.length qP,Sv a366 ((bags.take s.qw.length).length) c8,Sv ae374 ((bags[s.qw.length]!).length) ce374] [(0,Sv qR t.qF.length qP),(1,Sv a366 ((bags.take s.qw.length).length) c8),(2,Sv ae374 ((bags[s.qw.length]!).length) ce374)] (⟨H.pick [1,3,4,5] [4,5,6,7,8,9,10],(ro 12 rfl ?_)⟩)))⟩))
    obtain ⟨cp0,cp1,cp2,cp3⟩:=copy_pre (al:=t.qF) E_bags p8 p9.2 p12
    have sz378:=H.base.size
    refine oc (copied_ok _ (⟨t.qF,(bags.take s.qw.length),bags[s.qw.length]!⟩:qA) (H.get 7 rfl).1 (H.get 2 rfl).1 (H.get 0 rfl).1 qg qg qg qg) ?_
    rintro _ w376 ⟨ra375Alive,rn375Alive,rc375Alive,ra375Bags,rn375Bags,rc375Bags,rx375Bags,rF375Bags,ra375Around,rn375Around,rc375Around,rfl,M,K⟩ _
    replace N:=N.merge sz378 qm M
    replace H:=H.merge K M
    obtain rfl:=H.rowNB 0 rfl
    obtain rfl:=H.zi (α:=yLI) 1 rfl 0 rfl qj
    obtain rfl:=H.vM 2 rfl
    refine ⟨H.pick [4,6,7,8] [5,6,7,8,9,10,11],(ro 14 rfl (xu H 3 [Sv ra375Alive (((⟨t.qF,(bags.take s.qw.length),bags[s.qw.length]!⟩:qA).qF).length) rc375Alive,Sv ra375Bags (((⟨t.qF,(bags.take s.qw.length),bags[s.qw.length]!⟩:qA).qG).length) rc375Bags,Sv ra375Around (((⟨t.qF,(bags.take s.qw.length),bags[s.qw.length]!⟩:qA).qH).length) rc375Around] sizeOf31 fun w383 H=>⟨H.pick [4,6,7,8] [5,6,7,8,9,10,11],(xg qh (?_))⟩))⟩
    exact meet ⟨_,b359,ra375Alive,rc375Alive,ra375Bags,rc375Bags,ra375Around,rc375Around,rx375Bags,rF375Bags,uE4,N,H.pick [3,0,1,2,4,5,6,7,8] [0,6,7,8,9,10]⟩
   refine oq (XR _ s (H.get 1 rfl).1 (H.get 2 rfl).1) H fun w385 H=>⟨H.pick [1,3,4,5] [0,1,2,3,4,5,6],(tI 9 rfl rfl rfl (H.pick [1,3,4,5] [0,1,2,3,4,5,6]) ?_)⟩
   exact Xf L315 ⟨_,b359,uE8,N,H⟩
  have S:=H.jG [0,2,3,4] [0,1,2,3,4,5,6]
  refine tF 0 rfl rfl S ?_
  refine tL 1 rfl rfl (fun _ h=>h.cell 2 rfl rfl) S ?_
  refine rtp 2 (Sv (aa b240 0) (t.qG.length+1) c8) S ?_
  refine rt 3 (.agg #[yI s.xf,Sv qC s.qw.length qB,Sv qK s.qx.length qI]) (yK (cs:=(yS s qC qB qK qI)) isAgg27 sizeOf27 rfl (fun _ h=>qJ (h.cells 3 rfl) 0 3)) S ?_
  refine rtp 6 (Sv (aa b240 0) (t.qG.length+1) c8) S ?_
  refine rt 7 (.agg #[yI s.xf,Sv qC s.qw.length qB,Sv qK s.qx.length qI]) (yK (cs:=(yS s qC qB qK qI)) isAgg27 sizeOf27 rfl (fun _ h=>qJ (h.cells 3 rfl) 0 3)) S ?_
  refine zH [4,13] qh qm (vg rfl ?_ (vg rfl ?_ zI))
  ·skip
   refine oq (XR _ s (H.get 1 rfl).1 (H.get 2 rfl).1) H fun w388 H=>⟨H.pick [0,2,3,4] [0,1,2,3,4,5,6],(zH [5,8,13] qh qm (vg rfl ?_ (vg rfl ?_ (vg rfl ?_ zI))))⟩
   ·skip
    obtain ⟨G390,hg392,hn391,H⟩:=H.Q3 (α:=yLI) 1 rfl 0 rfl qj
    have hl397:=H.isLen 0 rfl
    refine o_head H 0 rfl s.qw.length underlying29 ti24 rfl rfl qf qf fun a393 G394 hG395 H=>?_
    have hl396:(bags.take s.qw.length).length=s.qw.length:=List.length_take_of_le qf
    refine ⟨H.pick [0,2,3,4] [2,3,4,5,6,7,8],(zH [8,13] qh qm (vg rfl ?_ (vg rfl ?_ zI)))⟩
    ·skip
     refine oq (XR _ s (H.get 3 rfl).1 (H.get 4 rfl).1) H fun w399 H=>⟨H.pick [0,2,3,4] [2,3,4,5,6,7,8],?_⟩
     obtain ⟨ae401,ce401,Fe401,H⟩:=H.jS 1 rfl s.qw.length s.qw.length qf qf qf
     refine tI 9 rfl rfl rfl (H.pick [0,2,3,4] [4,5,6,7,8,9,10]) ?_
     exact Xf L296 ⟨_,a393,G394,G390,uE6,N,H.pick [0,1,2,3,4] [2,3,4,5,6,7,8,9,10]⟩
    refine xx H ti31 [yN,yN,yN] fun b402 w403 H=>⟨H.pick [1,3,4,5] [2,3,4,5,6,7,8],(ro 8 rfl (oq (XR _ s (H.get 3 rfl).1 (H.get 4 rfl).1) H fun w405 H=>⟨H.pick [1,3,4,5] [2,3,4,5,6,7,8],?_⟩))⟩
    obtain ⟨ae407,ce407,Fe407,H⟩:=H.jS 1 rfl s.qw.length s.qw.length qf qf qf
    refine tI 9 rfl rfl rfl (H.pick [1,3,4,5] [4,5,6,7,8,9,10]) ?_
    refine ro 10 rfl (zt (Sv ae407 ((bags[s.qw.length]!).length) ce407) isAgg24 rfl (H.zu 1 rfl 0 rfl) (⟨H.pick [1,3,4,5] [4,5,6,7,8,9,10],(ro 11 rfl (xP [Sv qR t.qF.length qP,Sv a393 ((bags.take s.qw.length).length) c8,Sv ae407 ((bags[s.qw.length]!).length) ce407] [(0,Sv qR t.qF.length qP),(1,Sv a393 ((bags.take s.qw.length).length) c8),(2,Sv ae407 ((bags[s.qw.length]!).length) ce407)] (⟨H.pick [1,3,4,5] [4,5,6,7,8,9,10],(ro 12 rfl ?_)⟩)))⟩))
    obtain ⟨cp0,cp1,cp2,cp3⟩:=copy_pre (al:=t.qF) E_bags p8 p9.2 p12
    have sz411:=H.base.size
    refine oc (copied_ok _ (⟨t.qF,(bags.take s.qw.length),bags[s.qw.length]!⟩:qA) (H.get 7 rfl).1 (H.get 2 rfl).1 (H.get 0 rfl).1 qg qg qg qg) ?_
    rintro _ w409 ⟨ra408Alive,rn408Alive,rc408Alive,ra408Bags,rn408Bags,rc408Bags,rx408Bags,rF408Bags,ra408Around,rn408Around,rc408Around,rfl,M,K⟩ _
    replace N:=N.merge sz411 qm M
    replace H:=H.merge K M
    obtain rfl:=H.rowNB 0 rfl
    obtain rfl:=H.zi (α:=yLI) 1 rfl 0 rfl qj
    obtain rfl:=H.vM 2 rfl
    refine ⟨H.pick [4,6,7,8] [5,6,7,8,9,10,11],(ro 14 rfl (xu H 3 [Sv ra408Alive (((⟨t.qF,(bags.take s.qw.length),bags[s.qw.length]!⟩:qA).qF).length) rc408Alive,Sv ra408Bags (((⟨t.qF,(bags.take s.qw.length),bags[s.qw.length]!⟩:qA).qG).length) rc408Bags,Sv ra408Around (((⟨t.qF,(bags.take s.qw.length),bags[s.qw.length]!⟩:qA).qH).length) rc408Around] sizeOf31 fun w416 H=>⟨H.pick [4,6,7,8] [5,6,7,8,9,10,11],(xg qh (?_))⟩))⟩
    exact meet ⟨_,b402,ra408Alive,rc408Alive,ra408Bags,rc408Bags,ra408Around,rc408Around,rx408Bags,rF408Bags,uE4,N,H.pick [3,0,1,2,4,5,6,7,8] [0,6,7,8,9,10]⟩
   ·skip
    refine oq (XR _ s (H.get 1 rfl).1 (H.get 2 rfl).1) H fun w418 H=>⟨H.pick [0,2,3,4] [0,1,2,3,4,5,6],(tI 9 rfl rfl rfl (H.pick [0,2,3,4] [0,1,2,3,4,5,6]) ?_)⟩
    refine zH [5,10,13] qh qm (vg rfl ?_ (vg rfl ?_ (vg rfl ?_ zI)))
    ·skip
     obtain ⟨G420,hg422,hn421,H⟩:=H.Q3 (α:=yLI) 1 rfl 0 rfl qj
     have hl427:=H.isLen 0 rfl
     refine o_head H 0 rfl s.qw.length underlying29 ti24 rfl rfl qf qf fun a423 G424 hG425 H=>?_
     have hl426:(bags.take s.qw.length).length=s.qw.length:=List.length_take_of_le qf
     refine ⟨H.pick [0,2,3,4] [2,3,4,5,6,7,8],(Xf L296 ⟨_,a423,G424,G420,uE6,N,H⟩)⟩
    ·skip
     obtain ⟨a428,c429,G430,s431,h432,H⟩:=H.jV 1 rfl 0 rfl (iv:=s.qw.length) s.qw.length qf qf
     refine zt (Sv a428 ((bags[s.qw.length]!).length) c429) isAgg24 rfl (h432) (⟨H.pick [0,2,3,4] [1,2,3,4,5,6,7],(zH [5,13] qh qm (vg rfl ?_ (vg rfl ?_ zI)))⟩)
     ·skip
      obtain ⟨G433,hg435,hn434,H⟩:=H.Q3 (α:=yLI) 1 rfl 1 rfl qj
      have hl440:=H.isLen 0 rfl
      refine o_head H 0 rfl s.qw.length underlying29 ti24 rfl rfl qf qf fun a436 G437 hG438 H=>?_
      have hl439:(bags.take s.qw.length).length=s.qw.length:=List.length_take_of_le qf
      refine ⟨H.pick [0,2,3,4] [3,4,5,6,7,8,9],(Xf L257 ⟨_,a428,c429,a436,G437,G430,uE6,N,H.pick [0,1,2,3,4] [0,2,3,4,5,6,7,8,9]⟩)⟩
     refine xx H ti31 [yN,yN,yN] fun b441 w442 H=>⟨H.pick [1,3,4,5] [1,2,3,4,5,6,7],(ro 5 rfl ?_)⟩
     obtain ⟨G443,hg445,hn444,H⟩:=H.Q3 (α:=yLI) 2 rfl 1 rfl qj
     have hl450:=H.isLen 0 rfl
     refine o_head H 0 rfl s.qw.length underlying29 ti24 rfl rfl qf qf fun a446 G447 hG448 H=>?_
     have hl449:(bags.take s.qw.length).length=s.qw.length:=List.length_take_of_le qf
     refine ⟨H.pick [1,3,4,5] [3,4,5,6,7,8,9],(ro 11 rfl (xP [Sv qR t.qF.length qP,Sv a446 ((bags.take s.qw.length).length) c8,Sv a428 ((bags[s.qw.length]!).length) c429] [(0,Sv qR t.qF.length qP),(1,Sv a446 ((bags.take s.qw.length).length) c8),(2,Sv a428 ((bags[s.qw.length]!).length) c429)] (⟨H.pick [1,3,4,5] [3,4,5,6,7,8,9],(ro 12 rfl ?_)⟩)))⟩
     obtain ⟨cp0,cp1,cp2,cp3⟩:=copy_pre (al:=t.qF) E_bags p8 p9.2 p12
     have sz454:=H.base.size
     refine oc (copied_ok _ (⟨t.qF,(bags.take s.qw.length),bags[s.qw.length]!⟩:qA) (H.get 6 rfl).1 (H.get 0 rfl).1 (H.get 2 rfl).1 qg qg qg qg) ?_
     rintro _ w452 ⟨ra451Alive,rn451Alive,rc451Alive,ra451Bags,rn451Bags,rc451Bags,rx451Bags,rF451Bags,ra451Around,rn451Around,rc451Around,rfl,M,K⟩ _
     replace N:=N.merge sz454 qm M
     replace H:=H.merge K M
     obtain rfl:=H.rowNB 0 rfl
     obtain rfl:=H.zi (α:=yLI) 1 rfl 0 rfl qj
     obtain rfl:=H.vM 2 rfl
     refine ⟨H.pick [4,6,7,8] [4,5,6,7,8,9,10],(ro 14 rfl (xu H 3 [Sv ra451Alive (((⟨t.qF,(bags.take s.qw.length),bags[s.qw.length]!⟩:qA).qF).length) rc451Alive,Sv ra451Bags (((⟨t.qF,(bags.take s.qw.length),bags[s.qw.length]!⟩:qA).qG).length) rc451Bags,Sv ra451Around (((⟨t.qF,(bags.take s.qw.length),bags[s.qw.length]!⟩:qA).qH).length) rc451Around] sizeOf31 fun w459 H=>⟨H.pick [4,6,7,8] [4,5,6,7,8,9,10],(xg qh (?_))⟩))⟩
     exact meet ⟨_,b441,ra451Alive,rc451Alive,ra451Bags,rc451Bags,ra451Around,rc451Around,rx451Bags,rF451Bags,uE4,N,H.pick [3,0,1,2,4,5,6,7,8] [0,5,6,7,8,9]⟩
    refine xx H ti31 [yN,yN,yN] fun b460 w461 H=>⟨H.pick [1,3,4,5] [0,1,2,3,4,5,6],(Xf L315 ⟨_,b460,uE8,N,H⟩)⟩
   refine xx H ti31 [yN,yN,yN] fun b462 w463 H=>⟨H.pick [1,3,4,5] [0,1,2,3,4,5,6],(Xf L360 ⟨_,b462,uE9,N,H⟩)⟩
  refine xx H ti31 [yN,yN,yN] fun b464 w465 H=>⟨H.pick [1,3,4,5] [0,1,2,3,4,5,6],(ro 4 rfl (oq (XR _ s (H.get 1 rfl).1 (H.get 2 rfl).1) H fun w467 H=>⟨H.pick [1,3,4,5] [0,1,2,3,4,5,6],(Xf L360 ⟨_,b464,uE9,N,H⟩)⟩))⟩
 clear H N
 rintro ρ w469 ⟨zl,b241,ra242,rc243,ra244,rc245,ra246,rc247,rx248,rF249,rfl,N,H⟩
 refine t_n (zcc (sp (Sv (aa b36 0) s.qw.length s.qw.length) (oN rfl (sw (o_sub s.qw.length 1 rfl rfl qf (sp (yI (s.qw.length - 1)) (zjn (qZ ?_))))))))
 obtain rfl:i=s.qx.length:=by omega
 have hl:=stepped_live p1 E_bags qf
 obtain ⟨s1,s2⟩:=step_tab E_bags
 rw [show (⟨t.qF,(bags.take s.qw.length),bags[s.qw.length]!⟩:qA)=xE s t counts from by rw [show bags.take s.qw.length=_ from s1,show bags[s.qw.length]! =_ from s2];rfl] at H
 refine zU (fun m' ρ w470=>∃ (zl:Env) (c:Int) (out_Alive:List Bool) (out_Bags:yLL) (Qq:List Value) (jX:yLN) (j:Nat),ρ=upd (upd (upd (upd (upd zl 3 (pp b1 0)) 6 (pp b5 0)) 9 (Sv (aa b36 0) s.qw.length s.qw.length)) 13 (pp b241 0)) 14 (yI c)∧out_Alive=(xG s counts (xE s t counts) j).qF∧out_Bags=(xG s counts (xE s t counts) j).qG∧(c=(s.qw.length:Int) - 1 - j)∧(j+1≤s.qw.length)∧m' =(c:Int).toNat∧Fresh w.heap.size [jX]∧St w w470 [.box b241 [Sv ra242 (((xE s t counts).qF).length) rc243,Sv ra244 (((xE s t counts).qG).length) rc245,Sv ra246 (((xE s t counts).qH).length) rc247] 31,rr ra242 (((xE s t counts).qF).length) rc243 4 1 (out_Alive.map (Value.bool)),rr ra244 (((xE s t counts).qG).length) rc245 24 1 Qq,rr ra246 (((xE s t counts).qH).length) rc247 2 1 (((xE s t counts).qH).map (Value.int .i64)),rr (aa b36 0) s.qw.length s.qw.length 4 1 ((yu s counts s.qw.length s.qx.length).map (Value.bool)),.box b5 [yN,yN,yN] 31,.box b3 (yT t qR qP xq xn qN qM) 31,.box b1 (yS s qC qB qK qI) 27] [qX true jX Qq out_Bags,sF false qY qC qB s.qw,sF false xK qK qI s.qx,sF false zq qR qP t.qF,sF false zX xq xn t.qG,sF false xN qN qM t.qH]) (((s.qw.length - 1):Int).toNat) ⟨_,s.qw.length - 1,(xE s t counts).qF,(xE s t counts).qG,rx248,rF249,0,uE5,(by rfl),(by rfl),qf,qf,rfl,N,H.pick [0,1,2,3,4,6,7,8] [0,1,2,3,4,5]⟩ ?_
 clear H N
 rintro m' ρ w471 ⟨zl,c,out_Alive,out_Bags,Qq,jX,j,rfl,rfl,rfl,ic,jc,rfl,N,H⟩
 have hn_out_Alive:=H.rowNB 1 rfl
 have hn_out_Bags:=H.zi (α:=yLI) 2 rfl 0 rfl qj
 have L:=meltDown_live (counts:=counts) p0 hl j qf
 have L1:=L.alive
 have L2:=L.root
 have L3:=L.bags.1
 rw [← Qr s counts (xE s t counts) j] at H
 refine zcc (sps [yI c,Bv (decide ((c:Int) > 0))] (zjn (cD rfl (fun h472=>?_) (fun h472=>?_))))
 ·skip
  refine xe (t_n (zg (qZ (zcr (sps [Sv (aa b36 0) s.qw.length s.qw.length,yI c] (oI rfl rfl (oL rfl (H.rowBool 4 rfl (iv:=c) (i:=c.toNat) qf qf) (zjn (xI ((yu s counts s.qw.length s.qx.length)[c.toNat]!) rfl (fun h473=>?_) (fun h473=>?_))))))))))
  ·skip
   refine zn (sw (zB (yS s qC qB qK qI) isAgg27 sizeOf27 rfl (qJ (H.cells 7 rfl) 0 3) (sp (yI c) (sw (vC #[.agg #[yI s.xf,Sv qC s.qw.length qB,Sv qK s.qx.length qI],pp b241 0,yI c] rfl rfl call107 (en func107 ntmps107 ?_))))))
   refine zcr (sw (vF H (yS s qC qB qK qI) fun b474 w475 H=>zjn (zg ?_)))
   refine yj rfl H fun H=>rt 0 (.agg #[yI s.xf,Sv qC s.qw.length qB,Sv qK s.qx.length qI]) (yK (cs:=(yS s qC qB qK qI)) isAgg27 sizeOf27 rfl (fun _ h=>qJ (h.cells 0 rfl) 0 3)) H ?_
   refine rtp 1 (pp b241 0) H ?_
   refine rtp 2 (pp b241 0) H ?_
   refine rt 3 (.agg #[Sv ra242 (((xE s t counts).qF).length) rc243,Sv ra244 (((xE s t counts).qG).length) rc245,Sv ra246 (((xG s counts (xE s t counts) j).qH).length) rc247]) (yK (cs:=[Sv ra242 (((xE s t counts).qF).length) rc243,Sv ra244 (((xE s t counts).qG).length) rc245,Sv ra246 (((xG s counts (xE s t counts) j).qH).length) rc247]) isAgg31 sizeOf31 rfl (fun _ h=>qJ (h.cells 1 rfl) 0 3)) H ?_
   refine rtp 4 (yI c) H ?_
   refine ro 5 rfl ?_
   obtain ⟨G477,hn478,h479⟩:=H.rowIsB 2 rfl
   obtain ⟨G480,hn481,h482⟩:=H.rowIsR (α:=yLI) 3 rfl 0 rfl qj
   obtain ⟨G483,hn484,h485⟩:=H.rowIsI 4 rfl
   refine oq (args_eq (by rw [← hn478,← hn481]) (parentNow_ok _ s (xG s counts (xE s t counts) j) c (H.get 1 rfl).1 (H.get 2 rfl).1 (hn478▸h479) (hn481▸h482) h485 qg qg qg)) H fun w487 H=>?_
   have pin:=X9 (s:=s) (t:=(xG s counts (xE s t counts) j)) (c:=c) p0.1 L2 qf qf
   refine ⟨H,(rtp 6 (yI (xh s (xG s counts (xE s t counts) j) c)) H ?_)⟩
   refine xg qh (t_n (zg ?_))
   obtain ⟨b489,rfl⟩:=H.Qc 3 rfl qf
   refine c_cut (fun ρ w492=>∃ (zl:Env) (xs490:List Value) (F491:yLN),ρ=upd (upd (upd zl 1 (pp b241 0)) 2 (yI c)) 3 (pp b474 0)∧Fresh w.heap.size [F491]∧St w w492 [.box b474 (yS s qC qB qK qI) 27,.box b241 [Sv ra242 (((xE s t counts).qF).length) rc243,Sv (aa b489 0) (((xE s t counts).qG).length) rc245,Sv ra246 (((xG s counts (xE s t counts) j).qH).length) rc247] 31,rr ra242 (((xE s t counts).qF).length) rc243 4 1 (((xG s counts (xE s t counts) j).qF).map (Value.bool)),rr (aa b489 0) (((xE s t counts).qG).length) rc245 24 1 xs490,rr ra246 (((xG s counts (xE s t counts) j).qH).length) rc247 2 1 (((xG s counts (xE s t counts) j).qH).map (Value.int .i64)),rr (aa b36 0) s.qw.length s.qw.length 4 1 ((yu s counts s.qw.length s.qx.length).map (Value.bool)),.box b5 [yN,yN,yN] 31,.box b3 (yT t qR qP xq xn qN qM) 31,.box b1 (yS s qC qB qK qI) 27] [qX true F491 xs490 (((xG s counts (xE s t counts) j).qG).set ((xh s (xG s counts (xE s t counts) j) c).toNat) (vZ (((xG s counts (xE s t counts) j).qG)[(xh s (xG s counts (xE s t counts) j) c).toNat]!) (((xG s counts (xE s t counts) j).qG)[c.toNat]!) 1)),sF false qY qC qB s.qw,sF false xK qK qI s.qx,sF false zq qR qP t.qF,sF false zX xq xn t.qG,sF false xN qN qM t.qH]) ?_ ?_
   ·skip
    refine Qe rfl H [0,1,2,4,5,6,7,8] fun H=>?_
    have S:=H.jG [0,1,2,4,5,6,7,8] [0,1,2,3,4,5]
    refine rtp 0 (pp b241 0) S ?_
    refine rtp 1 (pp b241 0) S ?_
    refine tF 2 rfl rfl S ?_
    refine tL 3 rfl rfl (fun _ h=>h.cell 1 rfl rfl) S ?_
    refine rtp 4 (yI (xh s (xG s counts (xE s t counts) j) c)) S ?_
    refine rtp 5 (pp b241 0) S ?_
    refine rtp 6 (pp b241 0) S ?_
    refine tF 7 rfl rfl S ?_
    refine tL 8 rfl rfl (fun _ h=>h.cell 1 rfl rfl) S ?_
    refine rtp 9 (yI (xh s (xG s counts (xE s t counts) j) c)) S ?_
    refine tI 10 rfl rfl rfl S ?_
    refine rtp 12 (pp b241 0) S ?_
    refine rtp 13 (pp b241 0) S ?_
    refine tF 14 rfl rfl S ?_
    refine tL 15 rfl rfl (fun _ h=>h.cell 1 rfl rfl) S ?_
    refine rtp 16 (yI c) S ?_
    refine tI 17 rfl rfl rfl S ?_
    refine zH [11,18] qh qm (vg rfl ?_ (vg rfl ?_ zI))
    ·skip
     obtain ⟨a494,c495,G496,s497,h498,H⟩:=H.jV 3 rfl 0 rfl (iv:=xh s (xG s counts (xE s t counts) j) c) ((xh s (xG s counts (xE s t counts) j) c).toNat) qf qf
     refine zt (Sv a494 ((((xG s counts (xE s t counts) j).qG)[(xh s (xG s counts (xE s t counts) j) c).toNat]!).length) c495) isAgg24 rfl (h498) (⟨H.pick [0,1,2,4,5,6,7,8] [1,2,3,4,5,6],(ro 18 rfl ?_)⟩)
     obtain ⟨a499,c500,G501,s502,h503,H⟩:=H.jV 3 rfl 1 rfl (iv:=c) c.toNat qf qf
     refine zt (Sv a499 ((((xG s counts (xE s t counts) j).qG)[c.toNat]!).length) c500) isAgg24 rfl (h503) (⟨H.pick [0,1,2,4,5,6,7,8] [2,3,4,5,6,7],(ro 19 rfl ?_)⟩)
     obtain ⟨u1,u2,u4⟩:=L.rows p0 (bnd_le qf) (p:=(xh s (xG s counts (xE s t counts) j) c).toNat) (c:=c.toNat) qf qf
     have sz504:=H.base.size
     have lt505:=H.ltN (L:=[jX]) [2]
     refine oc (Xq _ (((xG s counts (xE s t counts) j).qG)[(xh s (xG s counts (xE s t counts) j) c).toNat]!) (((xG s counts (xE s t counts) j).qG)[c.toNat]!) 1 (H.get 1 rfl).1 (H.get 0 rfl).1 qg qg qg) ?_
     rintro v509 w507 r509 x508
     replace H:=H.zW x508 r509
     obtain ⟨a510,c511,rfl,hc512,hm513⟩:=H.jY 0 rfl
     refine ⟨H.pick [1,2,3,5,6,7,8,9] [2,3,4,5,6,7],(tI 20 rfl rfl rfl (H.pick [1,2,3,5,6,7,8,9] [2,3,4,5,6,7]) ?_)⟩
     refine ro 21 rfl ?_
     obtain ⟨G515,N,hn516,H⟩:=H.vz 0 rfl N (H.jJ [2])
     refine yh true H 4 rfl 3 rfl (Sv a510 ((vZ (((xG s counts (xE s t counts) j).qG)[(xh s (xG s counts (xE s t counts) j) c).toNat]!) (((xG s counts (xE s t counts) j).qG)[c.toNat]!) 1).length) c511) 0 rfl rfl sizeOf24 rfl rfl (i:=((xh s (xG s counts (xE s t counts) j) c).toNat)) qf qf qm fun w514 xs517 F518 hs519 H=>?_
     replace N:Fresh w.heap.size [F518]:=(N.pick [1,0]).repl hs519
     refine ⟨H.pick [1,2,3,5,6,7,8,9] [4,5,6,7,8,9],(xg qh ((meet ⟨_,xs517,F518,uE3,N,H.pick [1,2,3,4,5,6,7,8,9] [0,5,6,7,8,9]⟩)))⟩
    obtain ⟨a520,c521,G522,s523,h524,H⟩:=H.jV 3 rfl 0 rfl (iv:=c) c.toNat qf qf
    refine zt (Sv a520 ((((xG s counts (xE s t counts) j).qG)[c.toNat]!).length) c521) isAgg24 rfl (h524) (⟨H.pick [0,1,2,4,5,6,7,8] [1,2,3,4,5,6],(ro 11 rfl ?_)⟩)
    obtain ⟨a525,c526,G527,s528,h529,H⟩:=H.jV 3 rfl 1 rfl (iv:=xh s (xG s counts (xE s t counts) j) c) ((xh s (xG s counts (xE s t counts) j) c).toNat) qf qf
    refine zt (Sv a525 ((((xG s counts (xE s t counts) j).qG)[(xh s (xG s counts (xE s t counts) j) c).toNat]!).length) c526) isAgg24 rfl (h529) (⟨H.pick [0,1,2,4,5,6,7,8] [2,3,4,5,6,7],(ro 19 rfl ?_)⟩)
    obtain ⟨u1,u2,u4⟩:=L.rows p0 (bnd_le qf) (p:=(xh s (xG s counts (xE s t counts) j) c).toNat) (c:=c.toNat) qf qf
    have sz530:=H.base.size
    have lt531:=H.ltN (L:=[jX]) [2]
    refine oc (Xq _ (((xG s counts (xE s t counts) j).qG)[(xh s (xG s counts (xE s t counts) j) c).toNat]!) (((xG s counts (xE s t counts) j).qG)[c.toNat]!) 1 (H.get 0 rfl).1 (H.get 1 rfl).1 qg qg qg) ?_
    rintro v535 w533 r535 x534
    replace H:=H.zW x534 r535
    obtain ⟨a536,c537,rfl,hc538,hm539⟩:=H.jY 0 rfl
    refine ⟨H.pick [1,2,3,5,6,7,8,9] [2,3,4,5,6,7],(tI 20 rfl rfl rfl (H.pick [1,2,3,5,6,7,8,9] [2,3,4,5,6,7]) ?_)⟩
    refine ro 21 rfl ?_
    obtain ⟨G541,N,hn542,H⟩:=H.vz 0 rfl N (H.jJ [2])
    refine yh true H 4 rfl 3 rfl (Sv a536 ((vZ (((xG s counts (xE s t counts) j).qG)[(xh s (xG s counts (xE s t counts) j) c).toNat]!) (((xG s counts (xE s t counts) j).qG)[c.toNat]!) 1).length) c537) 0 rfl rfl sizeOf24 rfl rfl (i:=((xh s (xG s counts (xE s t counts) j) c).toNat)) qf qf qm fun w540 xs543 F544 hs545 H=>?_
    replace N:Fresh w.heap.size [F544]:=(N.pick [1,0]).repl hs545
    refine ⟨H.pick [1,2,3,5,6,7,8,9] [4,5,6,7,8,9],(xg qh ((meet ⟨_,xs543,F544,uE3,N,H.pick [1,2,3,4,5,6,7,8,9] [0,5,6,7,8,9]⟩)))⟩
   clear H N
   rintro ρ w546 ⟨zl,xs490,F491,rfl,N,H⟩
   refine t_n (zg ?_)
   refine Qe rfl H [0,1,2,4,5,6,7,8] fun H=>?_
   have S:=H.jG [0,1,2,4,5,6,7,8] [0,1,2,3,4,5]
   refine rtp 0 (pp b241 0) S ?_
   refine rtp 1 (pp b241 0) S ?_
   refine tF 2 rfl rfl S ?_
   refine tL 3 rfl rfl (fun _ h=>h.cell 1 rfl rfl) S ?_
   refine rtp 4 (yI c) S ?_
   refine tF 5 rfl rfl S ?_
   refine tL 6 rfl rfl (fun _ h=>h.cell 0 rfl rfl) S ?_
   refine ro 7 rfl (zf H underlying24 ti2 s.xf.toNat rfl rfl qf qf qf fun b548 w549 H=>⟨H.pick [1,2,3,5,6,7,8,9] [0,1,2,3,4,5],(tI 8 rfl rfl rfl (H.pick [1,2,3,5,6,7,8,9] [0,1,2,3,4,5]) ?_)⟩)
   refine ro 9 rfl ?_
   obtain ⟨G551,N,hn552,H⟩:=H.vz 0 rfl N (H.jJ [0])
   refine yh true H 4 rfl 1 rfl (Sv (aa b548 0) s.xf.toNat s.xf.toNat) 0 rfl rfl sizeOf24 rfl rfl (i:=c.toNat) qf qf qm fun w550 xs553 F554 hs555 H=>?_
   replace N:Fresh w.heap.size [F554]:=(N.pick [1,0]).repl hs555
   refine ⟨H.pick [1,2,3,5,6,7,8,9] [2,3,4,5,6,7],(xg qh (t_n (zn (sps [pp b241 0,pp b241 0] (oF rfl (oL rfl (H.cell 2 rfl rfl) (sp (yI c) ?_)))))))⟩
   obtain ⟨b556,rfl⟩:=H.Qc 3 rfl qf
   refine oI rfl rfl (sw (QK H 3 rfl false sizeOf4 rfl rfl (i:=c.toNat) qf qf fun w557 H=>zo (ret0 rfl ⟨_,rfl,?_⟩)))
   replace H:=H.erases [1,0]
   dsimp only [ja,List.eraseIdx] at H
   refine zo (b_n (t_n (zn (sp (yI c) (sw (o_sub c 1 rfl rfl qf (sp (yI (c - 1)) (zo ?_))))))))
   rw [Qr] at H
   refine xm (m' :=((c - 1):Int).toNat) qf ⟨_,c - 1,(((xG s counts (xE s t counts) j).qF).set c.toNat false),((((xG s counts (xE s t counts) j).qG).set ((xh s (xG s counts (xE s t counts) j) c).toNat) (vZ (((xG s counts (xE s t counts) j).qG)[(xh s (xG s counts (xE s t counts) j) c).toNat]!) (((xG s counts (xE s t counts) j).qG)[c.toNat]!) 1)).set c.toNat (List.replicate s.xf.toNat (0:Int))),xs553,F554,j+1,uE5,?_,?_,?_,?_,rfl,N,H.pick [0,1,2,3,4,5,6,7] [0,3,4,5,6,7]⟩
   · first | (rw [meltDown_yesL (c:=c) ‹_› qf qf rfl ic];rfl) | rw [meltDown_noL (c:=c) ‹_› qf qf rfl ic]
   · first | (rw [meltDown_yesL (c:=c) ‹_› qf qf rfl ic];rfl) | rw [meltDown_noL (c:=c) ‹_› qf qf rfl ic]
   · omega
   · omega
  refine xe (b_n (t_n (zn (sp (yI c) (sw (o_sub c 1 rfl rfl qf (sp (yI (c - 1)) (zo ?_))))))))
  rw [Qr] at H
  refine xm (m' :=((c - 1):Int).toNat) qf ⟨_,c - 1,((xG s counts (xE s t counts) j).qF),((xG s counts (xE s t counts) j).qG),Qq,jX,j+1,uE5,?_,?_,?_,?_,rfl,N,H⟩
  · first | (rw [meltDown_yesL (c:=c) ‹_› qf qf rfl ic];rfl) | rw [meltDown_noL (c:=c) ‹_› qf qf rfl ic]
  · first | (rw [meltDown_yesL (c:=c) ‹_› qf qf rfl ic];rfl) | rw [meltDown_noL (c:=c) ‹_› qf qf rfl ic]
  · omega
  · omega
 refine zx4 (zcr (sw (zB (yS s qC qB qK qI) isAgg27 sizeOf27 rfl (qJ (H.cells 7 rfl) 0 3) (sw (zB [Sv ra242 (((xE s t counts).qF).length) rc243,Sv ra244 (((xE s t counts).qG).length) rc245,Sv ra246 (((xG s counts (xE s t counts) j).qH).length) rc247] isAgg31 sizeOf31 rfl (qJ (H.cells 0 rfl) 0 3) ?_)))))
 refine sw (vC #[.agg #[yI s.xf,Sv qC s.qw.length qB,Sv qK s.qx.length qI],.agg #[Sv ra242 (((xE s t counts).qF).length) rc243,Sv ra244 (((xE s t counts).qG).length) rc245,Sv ra246 (((xG s counts (xE s t counts) j).qH).length) rc247]] rfl rfl call108 (en func108 ntmps108 ?_))
 refine zcr (sw (vF H (yS s qC qB qK qI) fun b558 w559 H=>sw (vF H [Sv ra242 (((xE s t counts).qF).length) rc243,Sv ra244 (((xE s t counts).qG).length) rc245,Sv ra246 (((xG s counts (xE s t counts) j).qH).length) rc247] fun b560 w561 H=>sw (xx H ti31 [yN,yN,yN] fun b562 w563 H=>sp (yI 0) (zjcc ?_)))))
 refine sw (zB (yS s qC qB qK qI) isAgg27 sizeOf27 rfl (qJ (H.cells 2 rfl) 0 3) (sw (zB [Sv ra242 (((xE s t counts).qF).length) rc243,Sv ra244 (((xE s t counts).qG).length) rc245,Sv ra246 (((xG s counts (xE s t counts) j).qH).length) rc247] isAgg31 sizeOf31 rfl (qJ (H.cells 1 rfl) 0 3) ?_)))
 obtain ⟨G564,hn565,h566⟩:=H.rowIsB 4 rfl
 obtain ⟨G567,hn568,h569⟩:=H.rowIsR (α:=yLI) 5 rfl 0 rfl qj
 obtain ⟨G570,hn571,h572⟩:=H.rowIsI 6 rfl
 refine sw (oq (args_eq (by rw [← hn565,← hn568]) (validState_ok _ s (xG s counts (xE s t counts) j) (H.get 1 rfl).1 (H.get 2 rfl).1 (hn565▸h566) (hn568▸h569) h572)) H fun w574 H=>sp (Bv (!(dec (vw s∧xJ s (xG s counts (xE s t counts) j))))) (zjn (cQ rfl (fun h576=>?_) (fun h576=>?_))))
 ·skip
  refine zcr (sw (xP [yN,yN,yN] [] (sw (xu H 0 [yN,yN,yN] sizeOf31 fun w577 H=>sp (yI 3) (zjr (t_r (retC2 H 0 rfl (yI 3) rfl isAgg31 sizeOf31 rfl rfl ⟨_,rfl,?_⟩)))))))
  replace H:=H.erases [2,1,0]
  dsimp only [ja,List.eraseIdx] at H
  refine sps [.agg #[yN,yN,yN],yI 3] (sw (xu H 5 [yN,yN,yN] sizeOf31 fun w578 H=>sp (yI 3) (zjr ?_)))
  replace H:=H.nilRowB 4
  replace H:=H.nilRow 24 1
  replace H:=H.jD (α:=yLI)
  replace H:=H.nilRowI 2
  refine retC2 H 8 rfl (yI 3) rfl isAgg31 sizeOf31 rfl rfl ⟨_,rfl,?_,H.base⟩
  rw [X8 p3,stepRes,show xB s - 1=j by omega,told_no (fun h=>‹¬ (vw s∧_)› ⟨p0,h⟩)]
  exact ⟨none,0,0,none,0,0,[],[],none,0,0,rfl,(N.emp.pick [0]),H.pick [2,1,0] [0]⟩
 refine xe (t_n (zcr (sw (zB [Sv ra242 (((xE s t counts).qF).length) rc243,Sv ra244 (((xE s t counts).qG).length) rc245,Sv ra246 (((xG s counts (xE s t counts) j).qH).length) rc247] isAgg31 sizeOf31 rfl (qJ (H.cells 1 rfl) 0 3) (sw (xu H 0 [Sv ra242 (((xE s t counts).qF).length) rc243,Sv ra244 (((xE s t counts).qG).length) rc245,Sv ra246 (((xG s counts (xE s t counts) j).qH).length) rc247] sizeOf31 fun w579 H=>sp (yI 0) (zjr (retC2 H 0 rfl (yI 0) rfl isAgg31 sizeOf31 rfl rfl ⟨_,rfl,?_⟩))))))))
 replace H:=H.erases [2,1,0]
 dsimp only [ja,List.eraseIdx] at H
 refine sps [.agg #[Sv ra242 (((xE s t counts).qF).length) rc243,Sv ra244 (((xE s t counts).qG).length) rc245,Sv ra246 (((xG s counts (xE s t counts) j).qH).length) rc247],yI 0] (sw (xu H 5 [Sv ra242 (((xE s t counts).qF).length) rc243,Sv ra244 (((xE s t counts).qG).length) rc245,Sv ra246 (((xG s counts (xE s t counts) j).qH).length) rc247] sizeOf31 fun w580 H=>sp (yI 0) (zjr (retC2 H 5 rfl (yI 0) rfl isAgg31 sizeOf31 rfl rfl ⟨_,rfl,?_,H.base⟩))))
 rw [X8 p3,stepRes,show xB s - 1=j by omega,told_yes (‹vw s∧_›:vw s∧_).2]
 exact ⟨ra242,((xE s t counts).qF).length,rc243,ra244,((xE s t counts).qG).length,rc245,Qq,jX,ra246,((xG s counts (xE s t counts) j).qH).length,rc247,rfl,N,H.pick [1,2,3] [0]⟩
theorem countsCode1_ok (w:World) (n:Int):Calls Tryz.prog 150 #[yI n] w (Ret (fun v w' =>v=Bv (!isCnt n)) w):=by
 refine en func150 ntmps150 ?_
 have H:=St.start w
 have N:=Fresh.nil w.heap.size
 refine zcr (sp (Bv false) (zjc (sp (yI n) (sw (oq (Xj w n 0 1000) H fun w1 H=>sps [Bv (!(inR n 0 1000)),Bv (!(inR n 0 1000))] (zjr (ret1 (Bv (!(inR n 0 1000))) rfl rfl ⟨_,rfl,?_,H.base⟩)))))))
 rfl

theorem countsCode_ok (w:World) (s:qy) (t:qA) (counts:yLI) {qC:yOA} {qY:yLN} {qK:yOA} {xK:yLN} {qR:yOA} {zq:yLN} {xq:yOA} {zX:yLN} {qN:yOA} {xN:yLN} {acounts:yOA} {Fcounts:yLN} (qW:qU.rep w qY [Sv qC s.qw.length qB] s.qw) (xF:qU.rep w xK [Sv qK s.qx.length qI] s.qx) (zy:qU.rep w zq [Sv qR t.qF.length qP] t.qF) (ve:qU.rep w zX [Sv xq t.qG.length xn] t.qG) (xW:qU.rep w xN [Sv qN t.qH.length qM] t.qH) (hcounts:qU.rep w Fcounts [Sv acounts counts.length ccounts] counts):Calls Tryz.prog 82 #[.agg #[yI s.xf,Sv qC s.qw.length qB,Sv qK s.qx.length qI],.agg #[Sv qR t.qF.length qP,Sv xq t.qG.length xn,Sv qN t.qH.length qM],Sv acounts counts.length ccounts] w (Ret (fun v w' =>v=yI (QM s t counts)) w):=by
 refine en func82 ntmps82 ?_
 have H:=((((((St.start w).arg hcounts).arg xW).arg ve).arg zy).arg xF).arg qW
 have vH:=qQ qW
 have jM:=qQ xF
 have Qg:=qQ zy
 have QZ:=qQ ve
 have yC:=qQ xW
 have nhcounts:=qQ hcounts
 clear qW xF zy ve xW hcounts
 have N:=Fresh.nil w.heap.size
 refine zcr (sw (vF H (yS s qC qB qK qI) fun b1 w2 H=>sw (vF H (yT t qR qP xq xn qN qM) fun b3 w4 H=>sp (yI 0) (zjn (zg (qZ (zcr (sw (zB (yS s qC qB qK qI) isAgg27 sizeOf27 rfl (qJ (H.cells 1 rfl) 0 3) ?_)))))))))
 refine sw (zB (yT t qR qP xq xn qN qM) isAgg31 sizeOf31 rfl (qJ (H.cells 0 rfl) 0 3) (sw (oq (validState_ok _ s t (H.get 0 rfl).1 (H.get 1 rfl).1 (H.get 2 rfl).1 (H.get 3 rfl).1 (H.get 4 rfl).1) H fun w6 H=>sps [Bv (!(dec (vw s∧xJ s t))),Bv (!(dec (vw s∧xJ s t)))] (zjn (cQ rfl (fun h8=>?_) (fun h8=>?_))))))
 ·skip
  refine zcr (sp (yI 1) (zjr (b_r (t_r (ret1 (yI 1) rfl rfl ⟨_,rfl,?_,H.base⟩)))))
  rw [ask_1 ‹_›]
 refine zcr (sp (Sv acounts counts.length ccounts) (oN rfl (oF rfl (oL rfl (H.cell 1 rfl rfl) (oN rfl (sps [Bv ((counts.length:Int) != s.qx.length),Bv ((counts.length:Int) != s.qx.length)] ?_))))))
 cases h9:((counts.length:Int) != s.qx.length)
 ·skip
  replace h9:=zh h9
  refine qL 19 rfl rfl (sp (Sv acounts counts.length ccounts) (qL 19 rfl rfl (sw (oq (containsFuncI_ok _ counts 150 #[] (fun k=> !isCnt (counts[k]!)) (H.get 5 rfl).1 call150 (fun k w' hk e=>countsCode1_ok w' _)) H fun w10 H=>sps [Bv (anyTo (fun k=> !isCnt (counts[k]!)) counts.length),Bv (anyTo (fun k=> !isCnt (counts[k]!)) counts.length)] (zjn (xI (anyTo (fun k=> !isCnt (counts[k]!)) counts.length) rfl (fun h12=>?_) (fun h12=>?_)))))))
  ·skip
   refine zcr (sp (yI 2) (zjr (b_r (t_r (ret1 (yI 2) rfl rfl ⟨_,rfl,?_,H.base⟩)))))
   rw [ask_2 ‹vw s∧xJ s t› (fun h=>by first | (have:=h.1;omega) | (have z:=anyCnt_iff.2 h.2;rw [‹anyTo _ _=true›] at z;cases z))]
  refine xe (b_n (t_n (zcr (sp (yI 0) (zjr (ret1 (yI 0) rfl rfl ⟨_,rfl,?_,H.base⟩))))))
  rw [ask_0 ‹vw s∧xJ s t› ⟨by omega,anyCnt_iff.1 (by rw [‹anyTo _ _=false›];rfl)⟩]
 replace h9:=bne_iff_ne.1 h9
 refine xU [20,21] (sps [Bv true,Bv true] (zjn (xI true rfl (fun _=>zcr (sp (yI 2) (zjr (b_r (t_r (ret1 (yI 2) rfl rfl ⟨_,rfl,?_,H.base⟩)))))) (fun h=>absurd h qj))))
 rw [ask_2 ‹vw s∧xJ s t› (fun h=>by first | (have:=h.1;omega) | (have z:=anyCnt_iff.2 h.2;rw [‹anyTo _ _=true›] at z;cases z))]

theorem indexI_ok (w:World) (l:yLI) (x:Int) {al:yOA} {Fl:yLN} (hl:qU.rep w Fl [Sv al l.length cl] l):Calls Tryz.prog 139 #[Sv al l.length cl,yI x] w (Ret (fun v w' =>v=yI (firstIdx (fun k=>x == l[k]!) l.length)) w):=by
 refine en func139 ntmps139 ?_
 have H:=(St.start w).arg hl
 have nhl:=qQ hl
 clear hl
 have N:=Fresh.nil w.heap.size
 refine zcr (sp (yI 0) (zjcc (sp (Sv al l.length cl) (oN rfl (sp (yI 0) (zjn (qZ ?_)))))))
 refine zU (fun m' ρ w1=>∃ (zl:Env) (i:Nat),ρ=upd (upd (upd (upd zl 0 (Sv al l.length cl)) 1 (yI x)) 7 (yI l.length)) 8 (yI i)∧((i:Int)≤l.length)∧(noneTo (fun k=>x == l[k]!) i)∧m' =(l.length - (i:Int)).toNat∧Fresh w.heap.size []∧St w w1 [] [sF false Fl al cl l]) ((l.length - (0:Int)).toNat) ⟨_,0,uE4,qf,(by exact fun j hj=>by omega),rfl,N,H⟩ ?_
 clear H N
 rintro m' ρ w2 ⟨zl,i,rfl,i0,i1,rfl,N,H⟩
 refine zcr (sp (Bv (decide ((i:Int) < l.length))) (zjn (zg (cD rfl (fun h3=>?_) (fun h3=>?_)))))
 ·skip
  refine xe (t_n (zg (qZ (zcr (sps [yI i,yI i] (zjc (sps [yI x,Sv al l.length cl,yI i] ?_)))))))
  obtain ⟨b4,o5,rfl⟩:=H.addr 0 rfl qf
  refine oI rfl rfl (oL rfl (H.jg 0 rfl i qf qf) (sp (Bv ((x:Int) == (l[i]!))) (zjn (cE rfl (fun h7=>?_) (fun h7=>?_)))))
  ·skip
   refine zcr (sps [yI i,yI i] (zjr (zr5 (ret1 (yI i) rfl rfl ⟨_,rfl,?_,H.base⟩))))
   rw [firstIdx_some (k:=i) qf i1 (by simpa using ‹x=l[i]!›)]
  refine xe (b_n (t_n (zn (sw (zN i 1 rfl rfl qf (sp (yI (i+1)) (zo (xm (m' :=(l.length - ((i+1):Int)).toNat) qf ⟨_,i+1,uE4,?_,?_,rfl,N,H⟩))))))))
  · omega
  · exact noneTo_succ ‹_› (by simpa using ‹x≠l[i]!›)
 refine zx4 (zcr (sp (yI (-1)) (zjr (ret1 (yI (-1)) rfl rfl ⟨_,rfl,?_,H.base⟩))))
 rw [firstIdx_none (fun j hj=>i1 j qf)]

theorem containsI_ok (w:World) (l:yLI) (x:Int) {al:yOA} {Fl:yLN} (hl:qU.rep w Fl [Sv al l.length cl] l):Calls Tryz.prog 75 #[Sv al l.length cl,yI x] w (Ret (fun v w' =>v=Bv (dec ((x:Int)∈l))) w):=by
 refine en func75 ntmps75 ?_
 have H:=(St.start w).arg hl
 have nhl:=qQ hl
 clear hl
 have N:=Fresh.nil w.heap.size
 refine zcr (sp (Bv false) (zjc (sps [Sv al l.length cl,yI x] (sw (oq (indexI_ok _ l x (H.get 0 rfl).1) H fun w2 H=>sps [Bv (decide ((firstIdx (fun k=>x == l[k]!) l.length:Int)≥0)),Bv (decide ((firstIdx (fun k=>x == l[k]!) l.length:Int)≥0))] (zjr (ret1 (Bv (decide ((firstIdx (fun k=>x == l[k]!) l.length:Int)≥0))) rfl rfl ⟨_,rfl,?_,H.base⟩)))))))
 rw [anyTo_first,anyTo_mem]

theorem minI_ok (w:World) (l:yLI) {al:yOA} {Fl:yLN} (hl:qU.rep w Fl [Sv al l.length cl] l) (p0:1≤l.length):Calls Tryz.prog 128 #[Sv al l.length cl] w (Ret (fun v w' =>v=yI (minL l)) w):=by
 refine en func128 ntmps128 ?_
 have H:=(St.start w).arg hl
 have nhl:=qQ hl
 clear hl
 have N:=Fresh.nil w.heap.size
 refine zcr (sp (yI 0) (zjcc (sp (Sv al l.length cl) (oN rfl (sp (Bv (decide ((l.length:Int) < 1))) (zjn (cD rfl (fun h1=>?_) (fun h1=>?_))))))))
 ·skip
  exfalso;omega
 refine xe (t_n (zcr (sp (Sv al l.length cl) ?_)))
 obtain ⟨b2,o3,rfl⟩:=H.addr 0 rfl qf
 refine oI rfl rfl (oL rfl (H.jg 0 rfl 0 qf qf) (sp (yI (l[0]!)) (zjcc (sp (yI 1) (zjn (qZ ?_))))))
 refine zU (fun m' ρ w5=>∃ (zl:Env) (m:Int) (i:Nat),ρ=upd (upd (upd zl 0 (Sv (aa b2 o3) l.length cl)) 3 (yI m)) 4 (yI i)∧m=minTo l i∧((i:Int)≤l.length)∧(1≤i)∧m' =(l.length - (i:Int)).toNat∧Fresh w.heap.size []∧St w w5 [] [sF false Fl (aa b2 o3) cl l]) ((l.length - (1:Int)).toNat) ⟨_,l[0]!,1,uE3,(by exact (minTo_one l).symm),qf,qf,rfl,N,H⟩ ?_
 clear H N
 rintro m' ρ w6 ⟨zl,m,i,rfl,rfl,i0,i2,rfl,N,H⟩
 refine zcc (sps [yI i,Sv (aa b2 o3) l.length cl] (oN rfl (sp (Bv (decide ((i:Int) < l.length))) (zjn (cD rfl (fun h7=>?_) (fun h7=>?_))))))
 ·skip
  refine xe (t_n (zg (qZ (zn (sps [yI (minTo l i),Sv (aa b2 o3) l.length cl,yI i] (oI rfl rfl (oL rfl (H.jg 0 rfl i qf qf) (sw (o_min (minTo l i) (l[i]!) rfl rfl (sp (yI (min (minTo l i) (l[i]!))) (zo (b_n (t_n (zn (sp (yI i) (sw (zN i 1 rfl rfl qf (sp (yI (i+1)) (zo (xm (m' :=(l.length - ((i+1):Int)).toNat) qf ⟨_,min (minTo l i) (l[i]!),i+1,uE3,?_,?_,?_,rfl,N,H⟩))))))))))))))))))))
  · exact (minTo_succ qf).symm
  · omega
  · omega
 refine zx4 (zcr (sps [yI (minTo l i),yI (minTo l i)] (zjr (ret1 (yI (minTo l i)) rfl rfl ⟨_,rfl,?_,H.base⟩))))
 obtain rfl:i=l.length:=by omega
 rfl

theorem implBy_ok (w:World) (s:qy) (t:qA) (counts:yLI) {qC:yOA} {qY:yLN} {qK:yOA} {xK:yLN} {qR:yOA} {zq:yLN} {xq:yOA} {zX:yLN} {qN:yOA} {xN:yLN} {acounts:yOA} {Fcounts:yLN} (qW:qU.rep w qY [Sv qC s.qw.length qB] s.qw) (xF:qU.rep w xK [Sv qK s.qx.length qI] s.qx) (zy:qU.rep w zq [Sv qR t.qF.length qP] t.qF) (ve:qU.rep w zX [Sv xq t.qG.length xn] t.qG) (xW:qU.rep w xN [Sv qN t.qH.length qM] t.qH) (hcounts:qU.rep w Fcounts [Sv acounts counts.length ccounts] counts):Calls Tryz.prog 27 #[.agg #[yI s.xf,Sv qC s.qw.length qB,Sv qK s.qx.length qI],.agg #[Sv qR t.qF.length qP,Sv xq t.qG.length xn,Sv qN t.qH.length qM],Sv acounts counts.length ccounts] w (Ret (fun v w' =>∃ (ra0Alive:yOA) (rn0Alive:Nat) (rc0Alive:Nat) (ra0Bags:yOA) (rn0Bags:Nat) (rc0Bags:Nat) (rx0Bags:List Value) (rF0Bags:yLN) (ra0Around:yOA) (rn0Around:Nat) (rc0Around:Nat),v=.tuple #[.agg #[Sv ra0Alive rn0Alive rc0Alive,Sv ra0Bags rn0Bags rc0Bags,Sv ra0Around rn0Around rc0Around],yI ((xO s t counts).2)]∧Fresh w.heap.size [rF0Bags]∧St w w' [rr ra0Alive rn0Alive rc0Alive 4 1 ((((xO s t counts).1).qF).map (Value.bool)),rr ra0Bags rn0Bags rc0Bags 24 1 rx0Bags,rr ra0Around rn0Around rc0Around 2 1 ((((xO s t counts).1).qH).map (Value.int .i64))] [qX true rF0Bags rx0Bags (((xO s t counts).1).qG)]) w):=by
 refine en func27 ntmps27 ?_
 have H:=((((((St.start w).arg hcounts).arg xW).arg ve).arg zy).arg xF).arg qW
 have vH:=qQ qW
 have jM:=qQ xF
 have Qg:=qQ zy
 have QZ:=qQ ve
 have yC:=qQ xW
 have nhcounts:=qQ hcounts
 clear qW xF zy ve xW hcounts
 have N:=Fresh.nil w.heap.size
 refine zcr (sw (vF H (yS s qC qB qK qI) fun b1 w2 H=>sw (vF H (yT t qR qP xq xn qN qM) fun b3 w4 H=>sw (xx H ti31 [yN,yN,yN] fun b5 w6 H=>sp (yI 0) (zjcc (sw (zB (yS s qC qB qK qI) isAgg27 sizeOf27 rfl (qJ (H.cells 2 rfl) 0 3) ?_)))))))
 refine sw (zB (yT t qR qP xq xn qN qM) isAgg31 sizeOf31 rfl (qJ (H.cells 1 rfl) 0 3) (sp (Sv acounts counts.length ccounts) (sw (oq (countsCode_ok _ s t counts (H.get 0 rfl).1 (H.get 1 rfl).1 (H.get 2 rfl).1 (H.get 3 rfl).1 (H.get 4 rfl).1 (H.get 5 rfl).1) H fun w8 H=>sp (yI (QM s t counts)) (zjc (sps [yI (QM s t counts),Bv ((QM s t counts:Int) != 0)] (zjn (xI ((QM s t counts:Int) != 0) rfl (fun h10=>?_) (fun h10=>?_)))))))))
 ·skip
  replace h10:=bne_iff_ne.1 h10
  refine zcr (sw (xP [yN,yN,yN] [] (sp (yI (QM s t counts)) (sw (xu H 0 [yN,yN,yN] sizeOf31 fun w11 H=>sp (yI (QM s t counts)) (zjr (t_r ?_)))))))
  replace H:=H.nilRowB 4
  replace H:=H.nilRow 24 1
  replace H:=H.jD (α:=yLI)
  replace H:=H.nilRowI 2
  refine retC2 H 3 rfl (yI (QM s t counts)) rfl isAgg31 sizeOf31 rfl rfl ⟨_,rfl,?_,H.base⟩
  rw [by_bad ‹_›]
  exact ⟨none,0,0,none,0,0,[],[],none,0,0,rfl,N.emp,H.pick [2,1,0] [0]⟩
 replace h10:=zh h10
 refine xe (t_n (zcc (sw (zB (yS s qC qB qK qI) isAgg27 sizeOf27 rfl (qJ (H.cells 2 rfl) 0 3) (sw (zB (yT t qR qP xq xn qN qM) isAgg31 sizeOf31 rfl (qJ (H.cells 1 rfl) 0 3) (sp (Sv acounts counts.length ccounts) ?_)))))))
 obtain ⟨k1,k2,k3⟩:=ask_ok ‹QM s t counts=0›
 have kn:1≤xY s:=by have:=k1.1.1.1;unfold xY;omega
 have k7:=k2.2.1
 have k8:=k1.2.1
 have k9:=k3.1
 have k10:=k1.1.2.1
 have k11:xB s=s.qw.length:=rfl
 refine sw (vC #[.agg #[yI s.xf,Sv qC s.qw.length qB,Sv qK s.qx.length qI],.agg #[Sv qR t.qF.length qP,Sv xq t.qG.length xn,Sv qN t.qH.length qM],Sv acounts counts.length ccounts] rfl rfl call83 (en func83 ntmps83 ?_))
 refine zcr (sw (vF H (yS s qC qB qK qI) fun b12 w13 H=>sw (vF H (yT t qR qP xq xn qN qM) fun b14 w15 H=>sps [yN,Bv false] (zjn (zg ?_)))))
 refine yj rfl H fun H=>tF 0 rfl rfl H ?_
 refine tL 1 rfl rfl (fun _ h=>h.cell 0 rfl rfl) H ?_
 refine rt 3 (.agg #[yI s.xf,Sv qC s.qw.length qB,Sv qK s.qx.length qI]) (yK (cs:=(yS s qC qB qK qI)) isAgg27 sizeOf27 rfl (fun _ h=>qJ (h.cells 1 rfl) 0 3)) H ?_
 refine rt 4 (.agg #[Sv qR t.qF.length qP,Sv xq t.qG.length xn,Sv qN t.qH.length qM]) (yK (cs:=(yT t qR qP xq xn qN qM)) isAgg31 sizeOf31 rfl (fun _ h=>qJ (h.cells 0 rfl) 0 3)) H ?_
 refine ro 2 rfl ?_
 have sz20:=H.base.size
 refine oc (cloneSS_ok _ t.qG (H.get 3 rfl).1 qg) ?_
 rintro _ w18 ⟨ra17,rn17,rc17,rx17,rF17,rfl,hG22,K⟩ _
 replace H:=H.mergeIn K 3 rfl hG22
 obtain rfl:=H.zi (α:=yLI) 0 rfl 0 rfl qj
 refine ⟨H.pick [1,2,3,4,5] [1,2,3,4,5,6],(ro 5 rfl ?_)⟩
 have sz26:=H.base.size
 refine oc (applicable_ok _ s t (H.get 1 rfl).1 (H.get 2 rfl).1 (H.get 3 rfl).1 (H.get 4 rfl).1 (H.get 5 rfl).1 qg qg) ?_
 rintro _ w24 ⟨ra23,rn23,rc23,rfl,M,K⟩ _
 replace H:=H.merge K M
 obtain rfl:=H.vM 0 rfl
 have al:(appls s t).length≤s.qx.length:=applL_le s t s.qx.length
 refine ⟨H.pick [2,3,4,5,6] [1,2,3,4,5,6],?_⟩
 have S:=H.jG [2,3,4,5,6] [1,2,3,4,5,6]
 refine rtp 6 (Sv ra17 t.qG.length rc17) S ?_
 refine rtp 7 (Sv ra23 ((appls s t).length) rc23) S ?_
 refine xg qh (t_n (zcc (sp (Sv acounts counts.length ccounts) (oN rfl (sp (yI 0) (zjn (qZ ?_)))))))
 refine zU (fun m' ρ w29=>∃ (zl:Env) (i:Nat) (rest:yLL) (x_rest:List Value) (F_rest:yLN),ρ=upd (upd (upd (upd (upd (upd zl 3 (pp b12 0)) 8 (Sv ra17 t.qG.length rc17)) 9 (Sv ra23 ((appls s t).length) rc23)) 19 (Sv acounts counts.length ccounts)) 20 (yI counts.length)) 21 (yI i)∧rest=Q7 s t counts i∧((i:Int)≤counts.length)∧(GoodTo s t counts i)∧m' =(counts.length - (i:Int)).toNat∧Fresh w.heap.size []∧St w w29 [rr ra23 ((appls s t).length) rc23 2 1 ((appls s t).map (Value.int .i64)),rr ra17 t.qG.length rc17 24 1 x_rest,.box b14 (yT t qR qP xq xn qN qM) 31,.box b12 (yS s qC qB qK qI) 27,.box b5 [yN,yN,yN] 31,.box b3 (yT t qR qP xq xn qN qM) 31,.box b1 (yS s qC qB qK qI) 27] [qX false F_rest x_rest rest,sF false qY qC qB s.qw,sF false xK qK qI s.qx,sF false zq qR qP t.qF,sF false zX xq xn t.qG,sF false xN qN qM t.qH,sF false Fcounts acounts ccounts counts]) ((counts.length - (0:Int)).toNat) ⟨_,0,t.qG,rx17,rF17,uE6,(by rfl),qf,(by exact fun j hj=>by omega),rfl,N,H⟩ ?_
 clear H N
 rintro m' ρ w30 ⟨zl,i,rest,x_rest,F_rest,rfl,rfl,i0,i1,rfl,N,H⟩
 have hn_rest:=H.zi (α:=yLI) 1 rfl 0 rfl qj
 have rl:=restR_len (s:=s) (t:=t) (counts:=counts) i
 refine zcr (sp (Bv (decide ((i:Int) < counts.length))) (zjn (zg (cD rfl (fun h31=>?_) (fun h31=>?_)))))
 ·skip
  have q:=k1.rule (i:=i) qf
  have qc:=q.1
  have qk:=q.cell
  have b1:=q.2.2.2.2.1
  have p10:=k3.bd (i:=i) qf
  refine xe (t_n (zg (qZ (zcr (sp (yI i) ?_)))))
  obtain ⟨b32,o33,rfl⟩:=H.addr 6 rfl qf
  refine oI rfl rfl (oL rfl (H.jg 6 rfl i qf qf) (sps [yI i,yI (counts[i]!)] (zjcc (sps [yI (counts[i]!),Bv ((counts[i]! :Int) == 0)] (zjn (cE rfl (fun h35=>?_) (fun h35=>?_)))))))
  ·skip
   refine c_exit (t_x (b_x (t_n (zn (sw (zN i 1 rfl rfl qf (sp (yI (i+1)) (zo (xm (m' :=(counts.length - ((i+1):Int)).toNat) qf ⟨_,i+1,(Q7 s t counts i),x_rest,F_rest,uE6,?_,?_,?_,rfl,N,H⟩)))))))))
   · first | rfl | exact (restR_skip k1 k2 qf ‹_›).symm
   · omega
   · exact i1.succ (fun h=>by obtain ⟨u,v⟩:=h;first | omega | exact v ((mem_appls qf).1 ‹_›))
  refine xe (t_n (zcc (sps [Sv ra23 ((appls s t).length) rc23,yI i] ?_)))
  obtain ⟨G36,hn37,h38⟩:=H.rowIsI 0 rfl
  refine sw (oq (containsI_ok _ (appls s t) i h38) H fun w40 H=>sp (Bv (!(dec ((i:Int)∈(appls s t))))) (zjn (cQ rfl (fun h42=>?_) (fun h42=>?_))))
  ·skip
   refine zcr (sps [yN,Bv false] (zjr (t_r (zr5 (ret2 yN (Bv false) rfl rfl rfl ⟨_,rfl,?_⟩)))))
   replace H:=H.erases [3,2,1,0]
   dsimp only [ja,List.eraseIdx] at H
   refine sps [.tuple #[yN,Bv false],yN,Bv false,yN,Bv false] (zjc (sps [Bv false,Bv true] (zjn (xI true rfl (fun _=>zcr (sw (xP [yN,yN,yN] [] (sw (xu H 0 [yN,yN,yN] sizeOf31 fun w43 H=>sp (yI 4) (zjr (t_r ?_))))))) (fun h=>absurd h qj)))))
   replace H:=H.nilRowB 4
   replace H:=H.nilRow 24 1
   replace H:=H.jD (α:=yLI)
   replace H:=H.nilRowI 2
   refine retC2 H 3 rfl (yI 4) rfl isAgg31 sizeOf31 rfl rfl ⟨_,rfl,?_,H.base⟩
   rw [by_ok ‹_›,stepBy_no (fun h=>by first | exact h.1 i qf ⟨by omega,fun a=>‹¬ (i:Int)∈appls s t› ((mem_appls qf).2 a)⟩ | (have e:i=counts.length:=qf;have h2:=h.2;rw [← e] at h2;exact (minL_neg qf).1 ‹minL ((Q7 s t counts i)[i_1]!) < 0› (h2 i_1 qf)))]
   exact ⟨none,0,0,none,0,0,[],[],none,0,0,rfl,N.emp,H.pick [2,1,0] [0]⟩
  refine xe (t_n (zcr (oF rfl (oL rfl (H.cell 3 rfl rfl) (sp (yI i) ?_)))))
  obtain ⟨b44,o45,rfl⟩:=H.addr 2 rfl qf
  obtain ⟨QT,QP,Fe47Need,QV,QR,Fe47Have,QU,QQ,Fe47Lack,Qz,Qx,Fe47Here,Q5,Q4,Fe47Out,Qy,Qw,Fe47Into,H⟩:=H.yY 2 rfl i i qf qf qf
  refine oI rfl rfl (sw (zB [yI ((s.qx[i]!).qE),yI ((s.qx[i]!).vI),Sv QT (((s.qx[i]!).xM).length) QP,Sv QV (((s.qx[i]!).zF).length) QR,Sv QU (((s.qx[i]!).zD).length) QQ,Sv Qz (((s.qx[i]!).zC).length) Qx,Sv Q5 (((s.qx[i]!).jI).length) Q4,Sv Qy (((s.qx[i]!).qO).length) Qw,Bv ((s.qx[i]!).zV)] isAgg56 sizeOf56 rfl (qJ (H.get 6 rfl) 0 9) ?_))
  refine sw (xx H ti56 [yI 0,yI 0,yN,yN,yN,yN,yN,yN,Bv false] fun b48 w49 H=>sw (xu H 0 [yI ((s.qx[i]!).qE),yI ((s.qx[i]!).vI),Sv QT (((s.qx[i]!).xM).length) QP,Sv QV (((s.qx[i]!).zF).length) QR,Sv QU (((s.qx[i]!).zD).length) QQ,Sv Qz (((s.qx[i]!).zC).length) Qx,Sv Q5 (((s.qx[i]!).jI).length) Q4,Sv Qy (((s.qx[i]!).qO).length) Qw,Bv ((s.qx[i]!).zV)] sizeOf56 fun w50 H=>zjn ?_))
  refine Qe rfl H [0,1,3,4,5,6,7] fun H=>?_
  have S:=H.jG [0,1,3,4,5,6,7] [0,1,2,3,4,5,6,7,8,9,10,11,12,13]
  refine rtp 0 (Sv ra17 t.qG.length rc17) S ?_
  refine tF 1 rfl rfl S ?_
  refine tL 2 rfl rfl (fun _ h=>h.cell 0 rfl rfl) S ?_
  refine rtp 3 (Sv ra17 t.qG.length rc17) S ?_
  refine tF 4 rfl rfl S ?_
  refine tL 5 rfl rfl (fun _ h=>h.cell 0 rfl rfl) S ?_
  obtain ⟨b52,rfl⟩:=H.Qc 2 rfl qf
  have S:=H.jG [0,1,3,4,5,6,7] [0,1,2,3,4,5,6,7,8,9,10,11,12,13]
  refine tI 6 rfl rfl rfl S ?_
  refine tF 8 rfl rfl S ?_
  refine tL 9 rfl rfl (fun _ h=>h.cell 0 rfl rfl) S ?_
  refine rtp 10 (yI (counts[i]!)) S ?_
  refine rt 11 (yI (-(counts[i]!))) (y_neg (counts[i]!) rfl qf) S ?_
  refine ro 7 rfl ?_
  obtain ⟨a53,c54,G55,s56,h57,H⟩:=H.jV 2 rfl 7 rfl (iv:=(s.qx[i]!).qE) (((s.qx[i]!).qE).toNat) qf qf
  refine zt (Sv a53 (((Q7 s t counts i)[((s.qx[i]!).qE).toNat]!).length) c54) isAgg24 rfl (h57) (⟨H.pick [0,1,3,4,5,6,7] [1,2,3,4,5,6,7,8,9,10,11,12,13,14],(ro 12 rfl ?_)⟩)
  obtain ⟨u1,u2⟩:=restR_row (c:=(s.qx[i]!).qE.toNat) k1 k2 k3 (show i≤_ by omega) qk
  have u3:=b1.len
  have u4:=b1.jU (t:= -(counts[i]!)) qf
  have sz58:=H.base.size
  refine oc (Xq _ ((Q7 s t counts i)[((s.qx[i]!).qE).toNat]!) ((s.qx[i]!).xM) (-(counts[i]!)) (H.get 0 rfl).1 (H.get 1 rfl).1 qg qg qg) ?_
  rintro v63 w61 r63 x62
  replace H:=H.zW x62 r63
  obtain ⟨a64,c65,rfl,hc66,hm67⟩:=H.jY 0 rfl
  refine ⟨H.pick [1,2,4,5,6,7,8] [1,2,3,4,5,6,7,8,9,10,11,12,13,14],(tI 13 rfl rfl rfl (H.pick [1,2,4,5,6,7,8] [1,2,3,4,5,6,7,8,9,10,11,12,13,14]) ?_)⟩
  refine ro 14 rfl ?_
  obtain ⟨G69,N,hn70,H⟩:=H.vz 0 rfl N (H.jJ [])
  refine yh false H 3 rfl 9 rfl (Sv a64 ((vZ ((Q7 s t counts i)[((s.qx[i]!).qE).toNat]!) ((s.qx[i]!).xM) (-(counts[i]!))).length) c65) 0 rfl rfl sizeOf24 rfl rfl (i:=(((s.qx[i]!).qE).toNat)) qf qf qm fun w68 xs71 F72 hs73 H=>⟨H.pick [1,2,4,5,6,7,8] [3,4,5,6,7,8,9,10,11,12,13,14,15,16],(xg qh (b_n (t_n (zn (sw (zN i 1 rfl rfl qf (sp (yI (i+1)) (zo ?_))))))))⟩
  refine xm (m' :=(counts.length - ((i+1):Int)).toNat) qf ⟨_,i+1,((Q7 s t counts i).set (((s.qx[i]!).qE).toNat) (vZ ((Q7 s t counts i)[((s.qx[i]!).qE).toNat]!) ((s.qx[i]!).xM) (-(counts[i]!)))),xs71,F72,uE6,?_,?_,?_,rfl,(N.pick []),H.pick [2,3,4,5,6,7,8] [0,11,12,13,14,15,16]⟩
  · first | rfl | exact (restR_skip k1 k2 qf ‹_›).symm
  · omega
  · exact i1.succ (fun h=>by obtain ⟨u,v⟩:=h;first | omega | exact v ((mem_appls qf).1 ‹_›))
 refine zx4 (zcr (sps [Sv ra17 t.qG.length rc17,Sv ra17 t.qG.length rc17] (sw (vC #[Sv ra17 t.qG.length rc17,.func (.func 151) #[] #[]] rfl rfl call140 (en func140 ntmps140 ?_)))))
 refine zcr (sp (Bv false) (zjc (sps [Sv ra17 t.qG.length rc17,.func (.func 151) #[] #[]] (sw (vC #[Sv ra17 t.qG.length rc17,.func (.func 151) #[] #[]] rfl rfl call186 (en func186 ntmps186 ?_))))))
 refine zcr (sp (yI 0) (zjcc (sp (Sv ra17 t.qG.length rc17) (oN rfl (sp (yI 0) (zjn (qZ ?_)))))))
 refine zU (fun m' ρ w74=>∃ (zl:Env) (i_1:Nat),ρ=upd (upd (upd (upd zl 0 (Sv ra17 t.qG.length rc17)) 1 (.func (.func 151) #[] #[])) 7 (yI t.qG.length)) 8 (yI i_1)∧((i_1:Int)≤t.qG.length)∧(NonNeg (Q7 s t counts i) i_1)∧m' =(t.qG.length - (i_1:Int)).toNat∧Fresh w.heap.size []∧St w w74 [rr ra23 ((appls s t).length) rc23 2 1 ((appls s t).map (Value.int .i64)),rr ra17 t.qG.length rc17 24 1 x_rest,.box b14 (yT t qR qP xq xn qN qM) 31,.box b12 (yS s qC qB qK qI) 27,.box b5 [yN,yN,yN] 31,.box b3 (yT t qR qP xq xn qN qM) 31,.box b1 (yS s qC qB qK qI) 27] [qX false F_rest x_rest (Q7 s t counts i),sF false qY qC qB s.qw,sF false xK qK qI s.qx,sF false zq qR qP t.qF,sF false zX xq xn t.qG,sF false xN qN qM t.qH,sF false Fcounts acounts ccounts counts]) ((t.qG.length - (0:Int)).toNat) ⟨_,0,uE4,qf,(by exact fun j hj=>by omega),rfl,N,H⟩ ?_
 clear H N
 rintro m' ρ w75 ⟨zl,i_1,rfl,i0,i2,rfl,N,H⟩
 refine zcr (sp (Bv (decide ((i_1:Int) < t.qG.length))) (zjn (zg (cD rfl (fun h76=>?_) (fun h76=>?_)))))
 ·skip
  refine xe (t_n (zg (qZ (zcr (sps [yI i_1,yI i_1] (zjc (sps [.func (.func 151) #[] #[],Sv ra17 t.qG.length rc17,yI i_1] ?_)))))))
  obtain ⟨b77,rfl⟩:=H.Qc 1 rfl qf
  refine oI rfl rfl ?_
  obtain ⟨a78,c79,G80,s81,h82,H⟩:=H.jV 1 rfl 0 rfl (iv:=i_1) i_1 qf qf
  refine oL rfl (h82) (sw (vC #[Sv a78 (((Q7 s t counts i)[i_1]!).length) c79] rfl rfl call151 (en func151 ntmps151 ?_)))
  refine zcr (sp (Bv false) (zjc (sp (Sv a78 (((Q7 s t counts i)[i_1]!).length) c79) ?_)))
  obtain ⟨u1,u2⟩:=restR_row (c:=i_1) k1 k2 k3 (show i≤_ by omega) qf
  refine sw (oq (minI_ok _ ((Q7 s t counts i)[i_1]!) (H.get 0 rfl).1 qg) H fun w84 H=>sps [Bv (decide ((minL ((Q7 s t counts i)[i_1]!):Int) < 0)),Bv (decide ((minL ((Q7 s t counts i)[i_1]!):Int) < 0))] (zjr (ret1 (Bv (decide ((minL ((Q7 s t counts i)[i_1]!):Int) < 0))) rfl rfl ⟨_,rfl,(zjn (cD rfl (fun h86=>?_) (fun h86=>?_)))⟩)))
  ·skip
   refine zcr (sps [yI i_1,yI i_1] (zjr (zr5 (ret1 (yI i_1) rfl rfl ⟨_,rfl,(sw (o_pure (Bv true) (by show some (Value.bool (decide ((i_1:Int)≥0)))=some (Value.bool true);rw [decide_eq_true qf]) (sp (Bv true) (zjr (ret1 (Bv true) rfl rfl ⟨_,rfl,(sps [Bv false,Sv (aa b77 0) t.qG.length rc17,Bv false] (zjr (ret2 (Sv (aa b77 0) t.qG.length rc17) (Bv false) rfl rfl rfl ⟨_,rfl,?_⟩)))⟩)))))⟩))))
   replace H:=H.erases [3,2,0]
   dsimp only [ja,List.eraseIdx] at H
   refine sps [.tuple #[Sv (aa b77 0) t.qG.length rc17,Bv false],Sv (aa b77 0) t.qG.length rc17,Bv false,Sv (aa b77 0) t.qG.length rc17,Bv false] (zjc (sps [Bv false,Bv true] (zjn (xI true rfl (fun _=>zcr (sw (xP [yN,yN,yN] [] (sw (xu H 1 [yN,yN,yN] sizeOf31 fun w87 H=>sp (yI 4) (zjr (t_r ?_))))))) (fun h=>absurd h qj)))))
   replace H:=H.nilRowB 4
   replace H:=H.nilRow 24 1
   replace H:=H.jD (α:=yLI)
   replace H:=H.nilRowI 2
   refine retC2 H 4 rfl (yI 4) rfl isAgg31 sizeOf31 rfl rfl ⟨_,rfl,?_,H.base⟩
   rw [by_ok ‹_›,stepBy_no (fun h=>by first | exact h.1 i qf ⟨by omega,fun a=>‹¬ (i:Int)∈appls s t› ((mem_appls qf).2 a)⟩ | (have e:i=counts.length:=qf;have h2:=h.2;rw [← e] at h2;exact (minL_neg qf).1 ‹minL ((Q7 s t counts i)[i_1]!) < 0› (h2 i_1 qf)))]
   exact ⟨none,0,0,none,0,0,[],[],none,0,0,rfl,N.emp,H.pick [2,1,0] [0]⟩
  refine xe (b_n (t_n (zn (sw (zN i_1 1 rfl rfl qf (sp (yI (i_1+1)) (zo (xm (m' :=(t.qG.length - ((i_1+1):Int)).toNat) qf ⟨_,i_1+1,uE4,?_,?_,rfl,N,H.pick [0,1,2,3,4,5,6] [1,2,3,4,5,6,7]⟩))))))))
  · omega
  · exact i2.succ (Classical.byContradiction fun h=>‹¬ minL ((Q7 s t counts i)[i_1]!) < 0› ((minL_neg qf).2 h))
 refine zx4 (zcr (sp (yI (-1)) (zjr (ret1 (yI (-1)) rfl rfl ⟨_,rfl,(sps [Bv false,Bv false] (zjr (ret1 (Bv false) rfl rfl ⟨_,rfl,(sps [Bv true,Sv ra17 t.qG.length rc17,Bv true] (zjr (ret2 (Sv ra17 t.qG.length rc17) (Bv true) rfl rfl rfl ⟨_,rfl,?_⟩)))⟩)))⟩))))
 replace H:=H.erases [3,2,0]
 dsimp only [ja,List.eraseIdx] at H
 refine sps [.tuple #[Sv ra17 t.qG.length rc17,Bv true],Sv ra17 t.qG.length rc17,Bv true,Sv ra17 t.qG.length rc17,Bv true] (zjc (sps [Bv true,Bv false] (zjn (xI false rfl (fun h=>absurd h qj) (fun _=>xe (t_n (zcr (sw (zB (yS s qC qB qK qI) isAgg27 sizeOf27 rfl (qJ (H.cells 3 rfl) 0 3) ?_)))))))))
 refine sw (zB (yT t qR qP xq xn qN qM) isAgg31 sizeOf31 rfl (qJ (H.cells 2 rfl) 0 3) (sp (Sv acounts counts.length ccounts) ?_))
 have k5:IsCh s t counts:=⟨fun j hj=>i1 j qf,by have e:i=counts.length:=qf;rw [← e];exact fun p hp=>i2 p qf⟩
 have sz91:=H.base.size
 refine sw (oc (step_ok _ s t counts (H.get 1 rfl).1 (H.get 2 rfl).1 (H.get 3 rfl).1 (H.get 4 rfl).1 (H.get 5 rfl).1 (H.get 6 rfl).1 qg qg qg qg) ?_)
 rintro _ w89 ⟨ra88aAlive,rn88aAlive,rc88aAlive,ra88aBags,rn88aBags,rc88aBags,rx88aBags,rF88aBags,ra88aAround,rn88aAround,rc88aAround,rfl,M,K⟩ _
 replace N:=N.merge sz91 qm M
 replace H:=H.merge K M
 obtain rfl:=H.rowNB 0 rfl
 obtain rfl:=H.zi (α:=yLI) 1 rfl 0 rfl qj
 obtain rfl:=H.vM 2 rfl
 refine sps [.agg #[Sv ra88aAlive ((((yP s t counts).1).qF).length) rc88aAlive,Sv ra88aBags ((((yP s t counts).1).qG).length) rc88aBags,Sv ra88aAround ((((yP s t counts).1).qH).length) rc88aAround],yI ((yP s t counts).2)] (sw (xu H 4 [Sv ra88aAlive ((((yP s t counts).1).qF).length) rc88aAlive,Sv ra88aBags ((((yP s t counts).1).qG).length) rc88aBags,Sv ra88aAround ((((yP s t counts).1).qH).length) rc88aAround] sizeOf31 fun w96 H=>sp (yI ((yP s t counts).2)) (zjr ?_)))
 refine retC2 H 4 rfl (yI ((yP s t counts).2)) rfl isAgg31 sizeOf31 rfl rfl ⟨_,rfl,?_,H.base⟩
 rw [by_ok ‹_›]
 exact ⟨ra88aAlive,(((yP s t counts).1).qF).length,rc88aAlive,ra88aBags,(((yP s t counts).1).qG).length,rc88aBags,rx88aBags,rF88aBags,ra88aAround,(((yP s t counts).1).qH).length,rc88aAround,rfl,N,H.pick [0,1,2] [0]⟩

theorem sizeR_ok (w:World) (l:List jy) {al:yOA} {Fl:yLN} (hl:qU.rep w Fl [Sv al l.length cl] l):Calls Tryz.prog 138 #[Sv al l.length cl] w (Ret (fun v w' =>v=yI l.length) w):=by
 refine en func138 ntmps138 ?_
 have H:=(St.start w).arg hl
 have nhl:=qQ hl
 clear hl
 have N:=Fresh.nil w.heap.size
 refine zcr (sp (yI 0) (zjc (sp (Sv al l.length cl) (oN rfl (sp (yI l.length) (zjr (ret1 (yI l.length) rfl rfl ⟨_,rfl,?_,H.base⟩)))))))
 rfl
theorem l01Full_ok (w:World) (rest:yLI) (parts:yLL) {arest:yOA} {crest:Nat} {Frest:yLN} {xZ:yOA} {xQ:Nat} {Fparts:yLN} (hrest:qU.rep w Frest [Sv arest rest.length crest] rest) (hparts:qU.rep w Fparts [Sv xZ parts.length xQ] parts) (p0:XU parts rest):Calls Tryz.prog 222 #[Sv arest rest.length crest,Sv xZ parts.length xQ] w (Ret (fun v w' =>v=Bv (dec (FullOk parts rest))) w):=by
 refine en func222 ntmps222 ?_
 have H:=((St.start w).arg hparts).arg hrest
 have nhrest:=qQ hrest
 have nhparts:=qQ hparts
 clear hrest hparts
 have N:=Fresh.nil w.heap.size
 refine zcr (sp (Bv false) (zjcc (sp (yI 0) (zjn (qZ ?_)))))
 refine zU (fun m' ρ w1=>∃ (zl:Env) (i:Nat),ρ=upd (upd (upd zl 0 (Sv arest rest.length crest)) 1 (Sv xZ parts.length xQ)) 5 (yI i)∧((i:Int)≤parts.length)∧(FullTo parts rest i)∧m' =(parts.length - (i:Int)).toNat∧Fresh w.heap.size []∧St w w1 [] [sF false Frest arest crest rest,sF false Fparts xZ xQ parts]) ((parts.length - (0:Int)).toNat) ⟨_,0,uE3,qf,(by exact fun j hj=>by omega),rfl,N,H⟩ ?_
 clear H N
 rintro m' ρ w2 ⟨zl,i,rfl,i0,i1,rfl,N,H⟩
 refine zcc (sps [yI i,Sv xZ parts.length xQ] (oN rfl (sp (Bv (decide ((i:Int) < parts.length))) (zjn (cD rfl (fun h3=>?_) (fun h3=>?_))))))
 ·skip
  refine xe (t_n (zg (qZ (zcr (sps [Sv xZ parts.length xQ,yI i] ?_)))))
  obtain ⟨b4,o5,rfl⟩:=H.addr 1 rfl qf
  obtain ⟨ae7,ce7,Fe7,H⟩:=H.jS 1 rfl i i qf qf qf
  refine oI rfl rfl (oL rfl (H.zu 1 rfl 0 rfl) (sp (Sv arest rest.length crest) ?_))
  obtain ⟨t1,t2⟩:=p0.times (k:=i) qf
  refine sw (oq (l01Within_ok _ (parts[i]!) rest (H.get 0 rfl).1 (H.get 2 rfl).1 qg) H fun w9 H=>zjn (xI (within (parts[i]!) rest) rfl (fun h11=>?_) (fun h11=>?_)))
  ·skip
   refine zcr (sp (Bv false) (zjr (zr5 (ret1 (Bv false) rfl rfl ⟨_,rfl,?_,H.base⟩))))
   rw [xk (fun h=>by have:=h i qf;simp_all)]
  refine xe (b_n (t_n (zn (sp (yI i) (sw (zN i 1 rfl rfl qf (sp (yI (i+1)) (zo (xm (m' :=(parts.length - ((i+1):Int)).toNat) qf ⟨_,i+1,uE3,?_,?_,rfl,N,H.pick [] [2,3]⟩)))))))))
  · omega
  · exact i1.succ ‹_›
 refine zx4 (zcr (sp (Bv true) (zjr (ret1 (Bv true) rfl rfl ⟨_,rfl,?_,H.base⟩))))
 rw [yl (show FullOk parts rest from fun j hj=>i1 j qf)]

def l01Pack_ok_S (f:Nat):Prop:=∀ {W0 w:World} {ps:List Prv} {Γ:List Fact} {Ns:List yLN} (rest:yLI) (parts:yLL) (vK:yLI) (out:yLL) (arest:yOA) (crest:Nat) (Frest:yLN) (xZ:yOA) (xQ:Nat) (Fparts:yLN) (abegin:yOA) (cbegin:Nat) (Fbegin:yLN) (bout:Nat) (raout:yOA) (rnout:Nat) (rcout:Nat) (rxout:List Value) (rFout:yLN) (H:St W0 w ((.box bout [Sv raout rnout rcout] 29) :: (rr raout rnout rcout 24 1 rxout) :: ps) ((sF false Frest arest crest rest) :: (sF false Fparts xZ xQ parts) :: (sF false Fbegin abegin cbegin vK) :: (qX true rFout rxout out) :: Γ)) (N:Fresh W0.heap.size (rFout :: Ns)) (K0:Kept Ns Γ) (p0:vK.length+f=parts.length) (p1:XU parts rest) (p2:out.length≤2000),Calls Tryz.prog 196 #[Sv arest rest.length crest,Sv xZ parts.length xQ,Sv abegin vK.length cbegin,pp bout 0] w (fun e w' =>∃ v,e=.returned v∧∃ (raout_:yOA) (rnout_:Nat) (rcout_:Nat) (rxout_:List Value) (rFout_:yLN),v=.tuple #[]∧Fresh W0.heap.size (rFout_ :: Ns)∧St W0 w' ((.box bout [Sv raout_ rnout_ rcout_] 29) :: (rr raout_ rnout_ rcout_ 24 1 rxout_) :: ps) ((sF false Frest arest crest rest) :: (sF false Fparts xZ xQ parts) :: (sF false Fbegin abegin cbegin vK) :: (qX true rFout_ rxout_ (gath out (begins vK (packs parts (parts.length - vK.length) vK.length rest)))) :: Γ))
theorem l01Pack_ok_step (f:Nat) (IH:∀ k,k < f→l01Pack_ok_S k) {W0 w:World} {ps:List Prv} {Γ:List Fact} {Ns:List yLN} (rest:yLI) (parts:yLL) (vK:yLI) (out:yLL) (arest:yOA) (crest:Nat) (Frest:yLN) (xZ:yOA) (xQ:Nat) (Fparts:yLN) (abegin:yOA) (cbegin:Nat) (Fbegin:yLN) (bout:Nat) (raout:yOA) (rnout:Nat) (rcout:Nat) (rxout:List Value) (rFout:yLN) (H:St W0 w ((.box bout [Sv raout rnout rcout] 29) :: (rr raout rnout rcout 24 1 rxout) :: ps) ((sF false Frest arest crest rest) :: (sF false Fparts xZ xQ parts) :: (sF false Fbegin abegin cbegin vK) :: (qX true rFout rxout out) :: Γ)) (N:Fresh W0.heap.size (rFout :: Ns)) (K0:Kept Ns Γ) (p0:vK.length+f=parts.length) (p1:XU parts rest) (p2:out.length≤2000):Calls Tryz.prog 196 #[Sv arest rest.length crest,Sv xZ parts.length xQ,Sv abegin vK.length cbegin,pp bout 0] w (fun e w' =>∃ v,e=.returned v∧∃ (raout_:yOA) (rnout_:Nat) (rcout_:Nat) (rxout_:List Value) (rFout_:yLN),v=.tuple #[]∧Fresh W0.heap.size (rFout_ :: Ns)∧St W0 w' ((.box bout [Sv raout_ rnout_ rcout_] 29) :: (rr raout_ rnout_ rcout_ 24 1 rxout_) :: ps) ((sF false Frest arest crest rest) :: (sF false Fparts xZ xQ parts) :: (sF false Fbegin abegin cbegin vK) :: (qX true rFout_ rxout_ (gath out (begins vK (packs parts (parts.length - vK.length) vK.length rest)))) :: Γ)):=by
 refine en func196 ntmps196 ?_
 have nhrest:=qQ (H.get 0 rfl).1
 have nhparts:=qQ (H.get 1 rfl).1
 have nhbegin:=qQ (H.get 2 rfl).1
 obtain rfl:=H.zi (α:=yLI) 1 rfl 3 rfl qj
 have p3:=p1.small
 refine zcr (sp (Sv abegin vK.length cbegin) (oN rfl (sp (yI vK.length) (zjcc (sps [yI vK.length,Sv xZ parts.length xQ] (oN rfl (sp (Bv ((vK.length:Int) == parts.length)) (zjn (cE rfl (fun h1=>?_) (fun h1=>?_))))))))))
 ·skip
  refine zcc (sps [Sv arest rest.length crest,Sv xZ parts.length xQ] (sw (oq (l01Full_ok _ rest parts (H.get 0 rfl).1 (H.get 1 rfl).1 qg) H fun w3 H=>zjn (cP rfl (fun h5=>?_) (fun h5=>?_)))))
  ·skip
   refine c_cut (fun ρ w11=>∃ (zl:Env) (a6:yOA) (c7:Nat) (a8:yOA) (c9:Nat) (G10:yLN),ρ=zl∧Fresh W0.heap.size ((rFout++G10) :: Ns)∧St W0 w11 ((.box bout [Sv a6 (out.length+1) c7] 29) :: (rr a6 (out.length+1) c7 24 1 (rxout++[Sv a8 vK.length c9])) :: ps) ((qX true (rFout++G10) (rxout++[Sv a8 vK.length c9]) (out++[vK])) :: (sF true G10 a8 c9 vK) :: (sF false Frest arest crest rest) :: (sF false Fparts xZ xQ parts) :: (sF false Fbegin abegin cbegin vK) :: Γ)) ?_ ?_
   ·skip
    refine XG rfl H [] [0,1,2,3] fun H=>?_
    have S:=H.jG [] [0,1,2,3]
    refine rtp 0 (pp bout 0) S ?_
    refine rtp 1 (pp bout 0) S ?_
    refine rtp 2 (pp bout 0) S ?_
    refine rtp 4 (Sv abegin vK.length cbegin) S ?_
    refine zH [3,5] qh qm (vg rfl ?_ (vg rfl ?_ zI))
    ·skip
     refine zt (Sv raout out.length rcout) isAgg29 rfl (H.cell 0 rfl rfl) (⟨H.pick [] [0,1,2,3],(ro 5 rfl ?_)⟩)
     have sz13:=H.base.size
     have lt14:=all_two (H.ltN (L:=[rFout]) [3]) (H.ltK (K0.behind 4 rfl))
     refine oc (l00Own_ok _ vK (H.get 2 rfl).1 qg) ?_
     rintro v18 w16 r18 x17
     replace H:=H.zW x17 r18
     obtain ⟨a19,c20,rfl,hc21,hm22⟩:=H.jY 0 rfl
     refine ⟨H.pick [] [0,1,2,3],(ro 6 rfl (zJ H underlying29 ti24 [Sv a19 vK.length c20] fun b23 w24 H=>⟨H.pick [] [0,1,2,3],(ro 7 rfl ?_)⟩))⟩
     obtain ⟨G28,N,hn29,H⟩:=H.vz 1 rfl N (fun F hF b hb=>(List.mem_append.1 (show F∈[rFout]++Ns from hF)).elim (fun h=>(H.jJ (L:=[rFout]) [3]) F h b hb) fun h=>H.XI (K0.behind 4 rfl) F h b hb)
     try dsimp only [List.set] at H
     refine zM H 3 rfl 0 rfl underlying29 ti24 rfl qj rfl rfl rfl (by simp [Value.oneCell',Value.cells]) qp qf fun a25 c26 w27 H=>?_
     try dsimp only [List.set] at H
     replace H:=H.y5 4 rfl 0 rfl
     replace N:Fresh W0.heap.size ((rFout++G28) :: Ns):=(N.xH 2 [1,0] qo).join
     refine ⟨H.pick [] [2,3,4,5],(rtp 8 (pp bout 0) (H.pick [] [2,3,4,5]) ?_)⟩
     refine ro 9 rfl (xX H 2 [Sv a25 (out.length+1) c26] sizeOf29 fun w30 H=>?_)
     try dsimp only [List.set] at H
     refine ⟨H.pick [] [2,3,4,5],(xg qh ((meet ⟨_,a25,c26,a19,c20,G28,(by exact rfl),N,H.xH 4 6 [2,3] [0,1,2,3,4] qo qo⟩)))⟩
    have sz31:=H.base.size
    have lt32:=all_two (H.ltN (L:=[rFout]) [3]) (H.ltK (K0.behind 4 rfl))
    refine oc (l00Own_ok _ vK (H.get 2 rfl).1 qg) ?_
    rintro v36 w34 r36 x35
    replace H:=H.zW x35 r36
    obtain ⟨a37,c38,rfl,hc39,hm40⟩:=H.jY 0 rfl
    refine ⟨H.pick [] [0,1,2,3],(zH [3,6] qh qm (vg rfl ?_ (vg rfl ?_ zI)))⟩
    ·skip
     refine zt (Sv raout out.length rcout) isAgg29 rfl (H.cell 1 rfl rfl) (⟨H.pick [] [0,1,2,3],(ro 6 rfl (zJ H underlying29 ti24 [Sv a37 vK.length c38] fun b41 w42 H=>⟨H.pick [] [0,1,2,3],(ro 7 rfl ?_)⟩))⟩)
     obtain ⟨G46,N,hn47,H⟩:=H.vz 1 rfl N (fun F hF b hb=>(List.mem_append.1 (show F∈[rFout]++Ns from hF)).elim (fun h=>(H.jJ (L:=[rFout]) [3]) F h b hb) fun h=>H.XI (K0.behind 4 rfl) F h b hb)
     try dsimp only [List.set] at H
     refine zM H 3 rfl 0 rfl underlying29 ti24 rfl qj rfl rfl rfl (by simp [Value.oneCell',Value.cells]) qp qf fun a43 c44 w45 H=>?_
     try dsimp only [List.set] at H
     replace H:=H.y5 4 rfl 0 rfl
     replace N:Fresh W0.heap.size ((rFout++G46) :: Ns):=(N.xH 2 [1,0] qo).join
     refine ⟨H.pick [] [2,3,4,5],(rtp 8 (pp bout 0) (H.pick [] [2,3,4,5]) ?_)⟩
     refine ro 9 rfl (xX H 2 [Sv a43 (out.length+1) c44] sizeOf29 fun w48 H=>?_)
     try dsimp only [List.set] at H
     refine ⟨H.pick [] [2,3,4,5],(xg qh ((meet ⟨_,a43,c44,a37,c38,G46,(by exact rfl),N,H.xH 4 6 [2,3] [0,1,2,3,4] qo qo⟩)))⟩
    refine zJ H underlying29 ti24 [Sv a37 vK.length c38] fun b49 w50 H=>⟨H.pick [] [0,1,2,3],(ro 3 rfl (zt (Sv raout out.length rcout) isAgg29 rfl (H.cell 2 rfl rfl) (⟨H.pick [] [0,1,2,3],(ro 7 rfl ?_)⟩)))⟩
    obtain ⟨G54,N,hn55,H⟩:=H.vz 1 rfl N (fun F hF b hb=>(List.mem_append.1 (show F∈[rFout]++Ns from hF)).elim (fun h=>(H.jJ (L:=[rFout]) [3]) F h b hb) fun h=>H.XI (K0.behind 4 rfl) F h b hb)
    try dsimp only [List.set] at H
    refine zM H 3 rfl 0 rfl underlying29 ti24 rfl qj rfl rfl rfl (by simp [Value.oneCell',Value.cells]) qp qf fun a51 c52 w53 H=>?_
    try dsimp only [List.set] at H
    replace H:=H.y5 4 rfl 0 rfl
    replace N:Fresh W0.heap.size ((rFout++G54) :: Ns):=(N.xH 2 [1,0] qo).join
    refine ⟨H.pick [] [2,3,4,5],(rtp 8 (pp bout 0) (H.pick [] [2,3,4,5]) ?_)⟩
    refine ro 9 rfl (xX H 2 [Sv a51 (out.length+1) c52] sizeOf29 fun w56 H=>?_)
    try dsimp only [List.set] at H
    refine ⟨H.pick [] [2,3,4,5],(xg qh ((meet ⟨_,a51,c52,a37,c38,G54,(by exact rfl),N,H.xH 4 6 [2,3] [0,1,2,3,4] qo qo⟩)))⟩
   clear H N
   rintro ρ w57 ⟨zl,a6,c7,a8,c9,G10,rfl,N,H⟩
   refine t_n (c_ret (t_r (ret0' rfl ⟨_,rfl,?_⟩)))
   rw [pack_full qf ‹_› p2]
   exact ⟨a6,out.length+1,c7,rxout++[Value.slice a8 vK.length c9],(rFout++G10),rfl,N,H.xH 2 5 [0,1] [2,3,4,0] qo qo⟩
  refine xe (t_n (c_ret (t_r (ret0' rfl ⟨_,rfl,?_⟩))))
  rw [pack_none qf ‹_› p2]
  exact ⟨raout,out.length,rcout,rxout,rFout,rfl,N,H.xH 2 4 [0,1] [0,1,2,3] qo qo⟩
 refine xe (t_n (zcr (sp (yI 0) (zjn (qZ ?_)))))
 obtain ⟨t1,t2,t3,t4,t5,t6⟩:=p1.times (k:=vK.length) qf
 refine zU (fun m' ρ w58=>∃ (zl:Env) (n:Nat) (jH:yOA) (zY:Nat) (vV:Nat) (out_1:yLL) (x_out:List Value) (XO:yLN),ρ=upd (upd (upd (upd (upd (upd zl 0 (Sv arest rest.length crest)) 1 (Sv xZ parts.length xQ)) 2 (Sv abegin vK.length cbegin)) 3 (pp bout 0)) 8 (yI vK.length)) 9 (yI n)∧out_1=gath out (begins vK (jL parts (f - 1) vK.length rest n))∧((n:Int)≤vY (parts[vK.length]!) rest+1)∧m' =(vY (parts[vK.length]!) rest+1 - (n:Int)).toNat∧Fresh W0.heap.size (XO :: Ns)∧St W0 w58 ((.box bout [Sv jH zY vV] 29) :: (rr jH zY vV 24 1 x_out) :: ps) ((sF false Frest arest crest rest) :: (sF false Fparts xZ xQ parts) :: (sF false Fbegin abegin cbegin vK) :: (qX true XO x_out out_1) :: Γ)) ((vY (parts[vK.length]!) rest+1 - (0:Int)).toNat) ⟨_,0,raout,out.length,rcout,out,rxout,rFout,uE6,(by exact pack_start p2),qf,rfl,N,H⟩ ?_
 clear H N
 rintro m' ρ w59 ⟨zl,n,jH,zY,vV,out_1,x_out,XO,rfl,rfl,i0,rfl,N,H⟩
 have hn_out:=H.zi (α:=yLI) 1 rfl 3 rfl qj
 have gl:=gath_len out (begins vK (jL parts (f - 1) vK.length rest n))
 refine zcc (sps [yI n,Sv xZ parts.length xQ,yI vK.length] ?_)
 obtain ⟨b60,o61,rfl⟩:=H.addr 1 rfl qf
 obtain ⟨ae63,ce63,Fe63,H⟩:=H.jS 1 rfl vK.length vK.length qf qf qf
 refine oI rfl rfl (oL rfl (H.zu 1 rfl 0 rfl) (sp (Sv arest rest.length crest) ?_))
 obtain ⟨t1,t2,t3,t4,t5,t6⟩:=p1.times (k:=vK.length) qf
 refine sw (oq (l01Times_ok _ (parts[vK.length]!) rest (H.get 0 rfl).1 (H.get 2 rfl).1 qg qg qg) H fun w65 H=>sps [Bv (decide ((n:Int)≤(vY (parts[vK.length]!) rest))),Bv (decide ((n:Int)≤(vY (parts[vK.length]!) rest)))] ?_)
 cases h67:(decide ((n:Int)≤(vY (parts[vK.length]!) rest)))
 ·skip
  replace h67:=of_decide_eq_false h67
  refine xU [37,38,39,40,41] (sp (Bv false) (zjn (xI false rfl (fun h=>absurd h qj) (fun _=>c_exit (t_x (t_x (b_x (ret0 rfl ⟨_,rfl,?_⟩))))))))
  rw [pack_end p0 qf qf qf (by first | (left;omega) | (right;omega))]
  exact ⟨jH,zY,vV,x_out,XO,rfl,N,H.xH 2 6 [0,1] [2,3,4,5] qo qo⟩
 replace h67:=of_decide_eq_true h67
 refine qL 36 rfl rfl (sp (pp bout 0) (qL 36 rfl rfl (sp (pp bout 0) (qL 36 rfl rfl (oL rfl (H.cell 0 rfl rfl) (qL 36 rfl rfl (oN rfl (qL 36 rfl rfl (sps [Bv (decide ((zY:Int)≤2000)),Bv (decide ((zY:Int)≤2000))] (zjn (cD rfl (fun h68=>?_) (fun h68=>?_))))))))))))
 ·skip
  refine xe (t_n (zg (qZ (zn (sps [Sv arest rest.length crest,Sv (aa b60 o61) parts.length xQ,yI vK.length] (oI rfl rfl (oL rfl (H.zu 1 rfl 0 rfl) (sp (yI n) (sw (o_neg n rfl qf ?_))))))))))
  obtain ⟨u1,u2,u3,u4⟩:=p1.plus (k:=vK.length) qf (n:=(n:Int)) qf qf
  have sz69:=H.base.size
  have lt70:=all_two (H.ltN (L:=[XO]) [5]) (H.ltK (K0.behind 6 rfl))
  refine sw (oc (l01Plus_ok _ rest (parts[vK.length]!) (-n) (H.get 2 rfl).1 (H.get 0 rfl).1 qg qg qg) ?_)
  rintro v74 w72 r74 x73
  replace H:=H.zW x73 r74
  obtain ⟨a75,c76,rfl,hc77,hm78⟩:=H.jY 0 rfl
  refine sps [Sv (aa b60 o61) parts.length xQ,Sv abegin vK.length cbegin] ?_
  have sz79:=H.base.size
  have lt80:=all_two (H.ltN (L:=[XO]) [5]) (H.ltK (K0.behind 6 rfl))
  refine sw (oc (l00Own_ok _ vK (H.get 4 rfl).1 qg) ?_)
  rintro v84 w82 r84 x83
  replace H:=H.zW x83 r84
  obtain ⟨a85,c86,rfl,hc87,hm88⟩:=H.jY 0 rfl
  refine sp (yI n) (sw (zJ H underlying24 ti2 [yI n] fun b89 w90 H=>sw (zM H 1 rfl 0 rfl underlying24 ti2 rfl qj rfl rfl rfl (by simp [Value.oneCell',Value.cells]) qp qf fun a91 c92 w93 H=>?_)))
  rw [snocI] at H
  try dsimp only [List.set] at H
  refine sp (pp bout 0) ?_
  obtain ⟨G94,N,hn95,H⟩:=H.vz 2 rfl N (fun F hF b hb=>(List.mem_append.1 (show F∈[XO]++Ns from hF)).elim (fun h=>(H.jJ (L:=[XO]) [5]) F h b hb) fun h=>H.XI (K0.behind 6 rfl) F h b hb)
  try dsimp only [List.set] at H
  replace H:=H.unfreeI 0 rfl
  obtain ⟨G96,N,hn97,H⟩:=H.vz 1 rfl N (fun F hF b hb=>(List.mem_append.1 (show F∈[G94,XO]++Ns from hF)).elim (fun h=>(H.jJ (L:=[G94,XO]) [0,7]) F h b hb) fun h=>H.XI (K0.behind 8 rfl) F h b hb)
  try dsimp only [List.set] at H
  replace H:=H.unfreeI 0 rfl
  have hn98:=H.isLen 0 rfl
  have H1:St W0 w93 ((.box bout [Sv jH zY vV] 29) :: (.row (Sv jH zY vV) 24 1 zY x_out) :: (.box b89 [yI n] 2) :: (.row yN 0 1 0 []) :: (.row yN 0 1 0 []) :: ps) ((isF false G94 (Sv a75 ((vZ rest (parts[vK.length]!) (-n)).length) c76) (vZ rest (parts[vK.length]!) (-n))) :: (isF false Fparts (Sv (aa b60 o61) parts.length xQ) parts) :: (isF false G96 (Sv a91 ((vK++[(n:Int)]).length) c92) (vK++[(n:Int)])) :: (qX true XO x_out (gath out (begins vK (jL parts (f - 1) vK.length rest n)))) :: (isF false G96 (Sv a91 (vK.length+1) c92) (vK++[(n:Int)])) :: (isF true G96 (Sv a91 (vK.length+1) c92) (vK++[(n:Int)])) :: (isF false G94 (Sv a75 ((vZ rest (parts[vK.length]!) (-n)).length) c76) (vZ rest (parts[vK.length]!) (-n))) :: (isF true G94 (Sv a75 ((vZ rest (parts[vK.length]!) (-n)).length) c76) (vZ rest (parts[vK.length]!) (-n))) :: (isF false Fe63 (Sv ae63 ((parts[vK.length]!).length) ce63) (parts[vK.length]!)) :: (atF b60 (o61+(vK.length:Int).toNat * 1) [Sv ae63 ((parts[vK.length]!).length) ce63]) :: (isF false Frest (Sv arest rest.length crest) rest) :: (isF false Fparts (Sv (aa b60 o61) parts.length xQ) parts) :: (isF false Fbegin (Sv abegin vK.length cbegin) vK) :: Γ):=by (try rw [← hn98]);exact H.xH 5 10 [3,4,0,1,2] [2,7,0,9,0,1,2,3,4,5,6,7,8] qo qo
  have N1:Fresh _ (XO :: G96 :: G94 :: Ns):=(N.xH 3 [2,0,1] qo)
  have K1:Kept (Ns) ((isF false G96 (Sv a91 (vK.length+1) c92) (vK++[(n:Int)])) :: (isF true G96 (Sv a91 (vK.length+1) c92) (vK++[(n:Int)])) :: (sF false G94 a75 c76 (vZ rest (parts[vK.length]!) (-n))) :: (sF true G94 a75 c76 (vZ rest (parts[vK.length]!) (-n))) :: (sF false Fe63 ae63 ce63 (parts[vK.length]!)) :: (atF b60 (o61+(vK.length:Int).toNat * 1) [Sv ae63 ((parts[vK.length]!).length) ce63]) :: (sF false Frest arest crest rest) :: (sF false Fparts (aa b60 o61) xQ parts) :: (sF false Fbegin abegin cbegin vK) :: Γ):=K0.behind 9 rfl
  replace K1:=K1.cons (F:=G94) 2 rfl rfl
  replace K1:=K1.cons (F:=G96) 0 rfl rfl
  refine sw (xR #[Sv a75 ((vZ rest (parts[vK.length]!) (-n)).length) c76,Sv (aa b60 o61) parts.length xQ,Sv a91 (vK.length+1) c92,pp bout 0] rfl rfl call196 (args_eq (by first | rfl | rw [hn98]) (IH (f - 1) qf (vZ rest (parts[vK.length]!) (-n)) parts (vK++[(n:Int)]) (gath out (begins vK (jL parts (f - 1) vK.length rest n))) a75 c76 G94 (aa b60 o61) xQ Fparts a91 c92 G96 bout jH zY vV x_out XO H1 N1 K1 (by simp only [List.length_append,List.length_cons,List.length_nil];omega) (by first | assumption | exact u4) (by first | assumption | (simp only [List.length_nil];omega) | omega))) ?_)
  clear H H1 N1 K1
  rintro _ w99 ⟨ra100,rn100,rc100,rx100,rF100,rfl,N,H⟩
  obtain rfl:=H.zi (α:=yLI) 1 rfl 3 rfl qj
  refine zo (b_n (t_n (zn (sp (yI n) (sw (zN n 1 rfl rfl qf (sp (yI (n+1)) (zo ?_))))))))
  refine xm (m' :=(vY (parts[vK.length]!) rest+1 - ((n+1):Int)).toNat) qf ⟨_,n+1,ra100,(gath (gath out (begins vK (jL parts (f - 1) vK.length rest n))) (begins (vK++[(n:Int)]) (packs parts (parts.length - (vK++[(n:Int)]).length) (vK++[(n:Int)]).length (vZ rest (parts[vK.length]!) (-n))))).length,rc100,(gath (gath out (begins vK (jL parts (f - 1) vK.length rest n))) (begins (vK++[(n:Int)]) (packs parts (parts.length - (vK++[(n:Int)]).length) (vK++[(n:Int)]).length (vZ rest (parts[vK.length]!) (-n))))),rx100,rF100,uE6,?_,?_,rfl,(N.xH 3 [0] qo),H.xH 5 13 [0,1] [10,11,12,3] qo qo⟩
  · exact pack_step p0 qf qf
  · omega
 refine c_exit (t_x (t_x (b_x (ret0 rfl ⟨_,rfl,?_⟩))))
 rw [pack_end p0 qf qf qf (by first | (left;omega) | (right;omega))]
 exact ⟨jH,zY,vV,x_out,XO,rfl,N,H.xH 2 6 [0,1] [2,3,4,5] qo qo⟩

theorem l01Pack_ok (f:Nat):l01Pack_ok_S f:=Nat.strongRecOn (motive:=l01Pack_ok_S) f fun f IH=>by unfold l01Pack_ok_S;intros;apply l01Pack_ok_step f IH <;> assumption

theorem l01All_ok (w:World) (b:yLI) (parts:yLL) {ab:yOA} {Fb:yLN} {xZ:yOA} {xQ:Nat} {Fparts:yLN} (hb:qU.rep w Fb [Sv ab b.length cb] b) (hparts:qU.rep w Fparts [Sv xZ parts.length xQ] parts) (p0:XU parts b):Calls Tryz.prog 164 #[Sv ab b.length cb,Sv xZ parts.length xQ] w (Ret (fun v w' =>∃ (ra0:yOA) (rn0:Nat) (rc0:Nat) (rx0:List Value) (rF0:yLN),v=.tuple #[Sv ra0 rn0 rc0,yI ((vk b parts).2)]∧Fresh w.heap.size [rF0]∧St w w' [rr ra0 rn0 rc0 24 1 rx0] [qX true rF0 rx0 ((vk b parts).1)]) w):=by
 refine en func164 ntmps164 ?_
 have H:=((St.start w).arg hparts).arg hb
 have nhb:=qQ hb
 have nhparts:=qQ hparts
 clear hb hparts
 have N:=Fresh.nil w.heap.size
 have p3:=p0.small
 have p4:=p0.smallB
 refine zcr (sps [yN,yI 0] (zjcc (sp (Sv ab b.length cb) (sw (oq (XC _ b (H.get 0 rfl).1 (by first | assumption | exact vG ql | exact yF ql)) H fun w1 H=>sp (Bv (decide ((QJ b:Int) > 16))) (zjn (cD rfl (fun h3=>?_) (fun h3=>?_))))))))
 ·skip
  refine zcr (sw (jR H underlying29 ti24 fun b4 w5 H=>sps [Sv (aa b4 0) 0 0,yI 3] (zjr (t_r ?_))))
  replace H:=H.boxRow 0 rfl 1 0 rfl qj
  replace H:=H.jD (α:=yLI)
  refine ret2 (Sv (aa b4 0) 0 0) (yI 3) rfl rfl rfl ⟨_,rfl,?_,H.base⟩
  first | rw [all_a ql] | rw [all_b ql ql]
  exact ⟨(aa b4 0),0,0,[],[],rfl,N.emp,H.pick [0] [0]⟩
 refine xe (t_n (zcr (sw (jR H underlying29 ti24 fun b6 w7 H=>sw (xx H ti29 [yN] fun b8 w9 H=>sw (xX H 0 [Sv (aa b6 0) 0 0] sizeOf29 fun w10 H=>zjc (sps [Sv ab b.length cb,Sv xZ parts.length xQ] (sw (jR H underlying24 ti2 fun b11 w12 H=>?_)))))))))
 replace H:=H.boxRowI 0 [] 0
 obtain ⟨G13,N,hn14,H⟩:=H.vz 0 rfl N (H.jJ [])
 replace H:=H.unfreeI 0 rfl
 have hn15:=H.isLen 0 rfl
 replace H:=H.boxRow 2 rfl 1 0 rfl qj
 replace H:=H.jD (α:=yLI)
 have H1:St w w12 [.box b8 [Sv (aa b6 0) 0 0] 29,.row (Sv (aa b6 0) 0 0) 24 1 0 [],.row yN 0 1 0 []] [isF false Fb (Sv ab b.length cb) b,isF false Fparts (Sv xZ parts.length xQ) parts,isF false G13 (Sv (aa b11 0) (([]:yLI).length) 0) ([]:yLI),qX true [] [] ([]:yLL),isF false G13 (Sv (aa b11 0) 0 0) ([]:yLI),isF true G13 (Sv (aa b11 0) 0 0) ([]:yLI),isF false Fb (Sv ab b.length cb) b,isF false Fparts (Sv xZ parts.length xQ) parts]:=by (try rw [← hn15]);exact H.pick [1,2,0] [3,4,1,0,1,2,3,4]
 have N1:Fresh _ [[],G13]:=N.emp
 have K1:Kept [] [isF false G13 (Sv (aa b11 0) 0 0) ([]:yLI),isF true G13 (Sv (aa b11 0) 0 0) ([]:yLI),sF false Fb ab cb b,sF false Fparts xZ xQ parts]:=Kept.nil _
 replace K1:=K1.cons (F:=G13) 0 rfl rfl
 refine sw (xR #[Sv ab b.length cb,Sv xZ parts.length xQ,Sv (aa b11 0) 0 0,pp b8 0] rfl rfl call196 (args_eq (by first | rfl | rw [hn15]) (l01Pack_ok (parts.length - ([]:yLI).length) b parts ([]:yLI) ([]:yLL) ab cb Fb xZ xQ Fparts (aa b11 0) 0 G13 b8 (aa b6 0) 0 0 [] [] H1 N1 K1 (by simp only [List.length_append,List.length_cons,List.length_nil];omega) (by first | assumption | exact u4) (by first | assumption | (simp only [List.length_nil];omega) | omega))) ?_)
 clear H H1 N1 K1
 rintro _ w16 ⟨ra17,rn17,rc17,rx17,rF17,rfl,N,H⟩
 obtain rfl:=H.zi (α:=yLI) 1 rfl 3 rfl qj
 refine zjcc (oL rfl (H.cell 0 rfl rfl) (oN rfl (sp (Bv (decide (((gath ([]:yLL) (begins ([]:yLI) (packs parts (parts.length - ([]:yLI).length) ([]:yLI).length b))).length:Int) > 2000))) (zjn (cD rfl (fun h18=>?_) (fun h18=>?_))))))
 ·skip
  refine zcr (sw (jR H underlying29 ti24 fun b19 w20 H=>sps [Sv (aa b19 0) 0 0,yI 3] (zjr (t_r ?_))))
  replace H:=H.boxRow 0 rfl 1 0 rfl qj
  replace H:=H.jD (α:=yLI)
  refine ret2 (Sv (aa b19 0) 0 0) (yI 3) rfl rfl rfl ⟨_,rfl,?_,H.base⟩
  first | rw [all_a ql] | rw [all_b ql ql]
  exact ⟨(aa b19 0),0,0,[],[],rfl,(N.emp.pick [0]),H.pick [0] [0]⟩
 refine xe (t_n (zcr (oL rfl (H.cell 0 rfl rfl) (sps [Sv ra17 ((gath ([]:yLL) (begins ([]:yLI) (packs parts (parts.length - ([]:yLI).length) ([]:yLI).length b))).length) rc17,yI 0] (zjr (ret2 (Sv ra17 ((gath ([]:yLL) (begins ([]:yLI) (packs parts (parts.length - ([]:yLI).length) ([]:yLI).length b))).length) rc17) (yI 0) rfl rfl rfl ⟨_,rfl,?_,H.base⟩))))))
 rw [all_0 ql ql]
 exact ⟨ra17,(gath ([]:yLL) (begins ([]:yLI) (packs parts (parts.length - ([]:yLI).length) ([]:yLI).length b))).length,rc17,rx17,rF17,rfl,(N.pick [0]),H.pick [1] [3]⟩
theorem l03Before_ok (w:World) (a:yLI) (b:yLI) {aa:yOA} {ca:Nat} {Fa:yLN} {ab:yOA} {Fb:yLN} (ha:qU.rep w Fa [Sv aa a.length ca] a) (hb:qU.rep w Fb [Sv ab b.length cb] b) (p0:a.length=b.length):Calls Tryz.prog 146 #[Sv aa a.length ca,Sv ab b.length cb] w (Ret (fun v w' =>v=Bv (dec (ahead a b))) w):=by
 refine en func146 ntmps146 ?_
 have H:=((St.start w).arg hb).arg ha
 have nha:=qQ ha
 have nhb:=qQ hb
 clear ha hb
 have N:=Fresh.nil w.heap.size
 refine zcr (sp (Bv false) (zjcc (sp (yI 0) (zjn (qZ ?_)))))
 refine zU (fun m' ρ w1=>∃ (zl:Env) (i:Nat),ρ=upd (upd (upd zl 0 (Sv aa a.length ca)) 1 (Sv ab b.length cb)) 5 (yI i)∧((i:Int)≤a.length)∧(SameTo a b i)∧m' =(a.length - (i:Int)).toNat∧Fresh w.heap.size []∧St w w1 [] [sF false Fa aa ca a,sF false Fb ab cb b]) ((a.length - (0:Int)).toNat) ⟨_,0,uE3,qf,(by exact fun j hj=>by omega),rfl,N,H⟩ ?_
 clear H N
 rintro m' ρ w2 ⟨zl,i,rfl,i0,i1,rfl,N,H⟩
 refine zcc (sps [yI i,Sv aa a.length ca] (oN rfl (sp (Bv (decide ((i:Int) < a.length))) (zjn (cD rfl (fun h3=>?_) (fun h3=>?_))))))
 ·skip
  refine xe (t_n (zg (qZ (zg ?_))))
  refine yj rfl H fun H=>rtp 0 (Sv aa a.length ca) H ?_
  refine rtp 1 (yI i) H ?_
  obtain ⟨b5,o6,rfl⟩:=H.addr 0 rfl qf
  refine tI 2 rfl rfl rfl H ?_
  refine tL 3 rfl rfl (fun _ h=>h.QG 0 rfl i qf) H ?_
  refine rtp 4 (Sv ab b.length cb) H ?_
  refine rtp 5 (yI i) H ?_
  obtain ⟨b8,o9,rfl⟩:=H.addr 1 rfl qf
  refine tI 6 rfl rfl rfl H ?_
  refine tL 7 rfl rfl (fun _ h=>h.QG 1 rfl i qf) H ?_
  refine rtp 8 (Bv ((a[i]! :Int) != (b[i]!))) H ?_
  refine xg qh (t_n (xI ((a[i]! :Int) != (b[i]!)) rfl (fun h11=>?_) (fun h11=>?_)))
  ·skip
   replace h11:=bne_iff_ne.1 h11
   refine zg ?_
   refine yj rfl H fun H=>rtp 0 (Sv (aa b5 o6) a.length ca) H ?_
   refine rtp 1 (yI i) H ?_
   refine tI 2 rfl rfl rfl H ?_
   refine tL 3 rfl rfl (fun _ h=>h.QG 0 rfl i qf) H ?_
   refine rtp 4 (Sv (aa b8 o9) b.length cb) H ?_
   refine rtp 5 (yI i) H ?_
   refine tI 6 rfl rfl rfl H ?_
   refine tL 7 rfl rfl (fun _ h=>h.QG 1 rfl i qf) H ?_
   refine rtp 8 (Bv (decide ((a[i]! :Int) < (b[i]!)))) H ?_
   refine rtp 9 (Bv (decide ((a[i]! :Int) < (b[i]!)))) H ?_
   refine xg qh (t_n (c_ret (zr5 (ret1 (Bv (decide ((a[i]! :Int) < (b[i]!)))) rfl rfl ⟨_,rfl,?_,H.base⟩))))
   first | rw [xk (ahead_same (show SameTo a b a.length from fun j hj=>i1 j qf))] | rw [show decide (a[i]! < b[i]!)=dec (ahead a b) from dec_eq ⟨fun h=>ahead_yes i1 qf (of_decide_eq_true h),fun h=>decide_eq_true (Classical.byContradiction fun h1=>ahead_no i1 h1 ‹_› h)⟩]
  replace h11:=zh h11
  refine xe (b_n (t_n (zn (sp (yI i) (sw (zN i 1 rfl rfl qf (sp (yI (i+1)) (zo (xm (m' :=(a.length - ((i+1):Int)).toNat) qf ⟨_,i+1,uE3,?_,?_,rfl,N,H⟩)))))))))
  · omega
  · exact i1.succ qg
 refine zx4 (zcr (sp (Bv false) (zjr (ret1 (Bv false) rfl rfl ⟨_,rfl,?_,H.base⟩))))
 first | rw [xk (ahead_same (show SameTo a b a.length from fun j hj=>i1 j qf))] | rw [show decide (a[i]! < b[i]!)=dec (ahead a b) from dec_eq ⟨fun h=>ahead_yes i1 qf (of_decide_eq_true h),fun h=>decide_eq_true (Classical.byContradiction fun h1=>ahead_no i1 h1 ‹_› h)⟩]

theorem l03Count_ok (w:World) (all:List yLL) {aall:yOA} {call:Nat} {Fall:yLN} (hall:qU.rep w Fall [Sv aall all.length call] all) (p0:∀ j,j≤all.length→((QB all j:Nat):Int)≤2862423051509815793):Calls Tryz.prog 94 #[Sv aall all.length call] w (Ret (fun v w' =>v=yI ((QB all all.length:Nat):Int)) w):=by
 refine en func94 ntmps94 ?_
 have H:=(St.start w).arg hall
 have nhall:=qQ hall
 clear hall
 have N:=Fresh.nil w.heap.size
 refine zcr (sp (yI 0) (zjc (sp (yI 1) (zjcc (sp (yI 0) (zjn (qZ ?_)))))))
 refine zU (fun m' ρ w1=>∃ (zl:Env) (n:Int) (i:Nat),ρ=upd (upd (upd zl 0 (Sv aall all.length call)) 3 (yI n)) 4 (yI i)∧n=((QB all i:Nat):Int)∧((i:Int)≤all.length)∧m' =(all.length - (i:Int)).toNat∧Fresh w.heap.size []∧St w w1 [] [sF false Fall aall call all]) ((all.length - (0:Int)).toNat) ⟨_,1,0,uE3,(by rfl),qf,rfl,N,H⟩ ?_
 clear H N
 rintro m' ρ w2 ⟨zl,n,i,rfl,rfl,i0,rfl,N,H⟩
 have pm:=prod_mul all i
 have pb:=fun h=>p0 (i+1) h
 have pn:=Int.natCast_nonneg (QB all (i+1))
 refine zcc (sps [yI i,Sv aall all.length call] (oN rfl (sp (Bv (decide ((i:Int) < all.length))) (zjn (cD rfl (fun h3=>?_) (fun h3=>?_))))))
 ·skip
  refine xe (t_n (zg (qZ (zn (sps [yI ((QB all i:Nat):Int),Sv aall all.length call,yI i] ?_)))))
  obtain ⟨b4,o5,rfl⟩:=H.addr 0 rfl qf
  obtain ⟨ae7,ce7,Fe7,H⟩:=H.jS 0 rfl i i qf qf qf
  refine oI rfl rfl (oL rfl (H.zu 1 rfl 0 rfl) (oN rfl (sw (o_mul ((QB all i:Nat):Int) ((all[i]!).length) rfl rfl qf (sp (yI (((QB all i:Nat):Int) * ((all[i]!).length))) (zo (b_n (t_n (zn (sp (yI i) (sw (zN i 1 rfl rfl qf (sp (yI (i+1)) (zo (xm (m' :=(all.length - ((i+1):Int)).toNat) qf ⟨_,((QB all i:Nat):Int) * ((all[i]!).length),i+1,uE3,?_,?_,rfl,N,H.pick [] [2]⟩)))))))))))))))
  · exact prod_mul all i
  · omega
 refine zx4 (zcr (sps [yI ((QB all i:Nat):Int),yI ((QB all i:Nat):Int)] (zjr (ret1 (yI ((QB all i:Nat):Int)) rfl rfl ⟨_,rfl,?_,H.base⟩))))
 rw [show i=all.length by omega]

theorem l03Choices_ok (w:World) (s:qy) (t:qA) {bs os:Nat} {qC:yOA} {qY:yLN} {qK:yOA} {xK:yLN} {bt ot:Nat} {qR:yOA} {zq:yLN} {xq:yOA} {zX:yLN} {qN:yOA} {xN:yLN} (hs:jQ w bs os (yS s qC qB qK qI)) (qW:qU.rep w qY [Sv qC s.qw.length qB] s.qw) (xF:qU.rep w xK [Sv qK s.qx.length qI] s.qx) (ht:jQ w bt ot (yT t qR qP xq xn qN qM)) (zy:qU.rep w zq [Sv qR t.qF.length qP] t.qF) (ve:qU.rep w zX [Sv xq t.qG.length xn] t.qG) (xW:qU.rep w xN [Sv qN t.qH.length qM] t.qH) (p0:vw s) (p1:xJ s t):Calls Tryz.prog 80 #[pp bs os,pp bt ot] w (Ret (fun v w' =>∃ (ra0:yOA) (rn0:Nat) (rc0:Nat) (rx0:List Value) (rF0:yLN),v=.tuple #[Sv ra0 rn0 rc0,yI ((Qd s t).2)]∧Fresh w.heap.size [rF0]∧St w w' [rr ra0 rn0 rc0 24 1 rx0] [qX true rF0 rx0 ((Qd s t).1)]) w):=by
 refine en func80 ntmps80 ?_
 have H:=(((((((St.start w).arg xW).arg ve).arg zy).argAt ht).arg xF).arg qW).argAt hs
 have vH:=qQ qW
 have jM:=qQ xF
 have Qg:=qQ zy
 have QZ:=qQ ve
 have yC:=qQ xW
 clear hs qW xF ht zy ve xW
 have N:=Fresh.nil w.heap.size
 have p2:=p0.2.1
 have p3:=p0.1.2.1
 have p4:=p1.1
 have p5:=p1.2.1
 refine zcr (sps [yN,yI 0] (zjc (sps [pp bs os,pp bt ot] (sw (vC #[pp bs os,pp bt ot] rfl rfl call93 (en func93 ntmps93 ?_))))))
 refine zcr (sps [yN,yN,yI 0] (zjc (sps [pp bs os,pp bt ot] ?_)))
 have sz4:=H.base.size
 refine sw (oc (l03Applicable_ok _ s t (qJ (H.get 0 rfl) 0 3) (H.get 1 rfl).1 (H.get 2 rfl).1 (qJ (H.get 3 rfl) 0 3) (H.get 4 rfl).1 (H.get 5 rfl).1 (H.get 6 rfl).1 qg qg) ?_)
 rintro _ w2 ⟨ra1,rn1,rc1,rfl,M,K⟩ _
 replace H:=H.merge K M
 obtain rfl:=H.rowNB 0 rfl
 have al:=appl_len s t
 refine sp (Sv ra1 ((appl s t).length) rc1) (zjc (sw (jR H underlying113 ti165 fun b7 w8 H=>sp (Sv (aa b7 0) 0 0) (zjc (sw (jR H underlying114 ti29 fun b9 w10 H=>sp (Sv (aa b9 0) 0 0) (zjcc (sp (yI 0) (zjn (qZ ?_))))))))))
 refine zU (fun m' ρ w11=>∃ (zl:Env) (c:Nat),ρ=upd (upd (upd (upd (upd (upd zl 0 (pp bs os)) 1 (pp bt ot)) 7 (Sv ra1 ((appl s t).length) rc1)) 8 (Sv (aa b7 0) 0 0)) 9 (Sv (aa b9 0) 0 0)) 10 (yI c)∧((c:Int)≤s.qw.length)∧m' =(s.qw.length - (c:Int)).toNat∧Fresh w.heap.size []∧St w w11 [.box b9 [] 29,.box b7 [] 165,rr ra1 ((appl s t).length) rc1 4 1 ((appl s t).map (Value.bool))] [atF bs os (yS s qC qB qK qI),sF false qY qC qB s.qw,sF false xK qK qI s.qx,atF bt ot (yT t qR qP xq xn qN qM),sF false zq qR qP t.qF,sF false zX xq xn t.qG,sF false xN qN qM t.qH]) ((s.qw.length - (0:Int)).toNat) ⟨_,0,uE6,qf,rfl,N,H⟩ ?_
 clear H N
 rintro m' ρ w12 ⟨zl,c,rfl,i0,rfl,N,H⟩
 refine zcc (sps [yI c,pp bs os,pp bs os] (oF rfl (oL rfl (H.zu 0 rfl 1 rfl) (oN rfl (sp (Bv (decide ((c:Int) < s.qw.length))) (zjn (cD rfl (fun h13=>?_) (fun h13=>?_))))))))
 ·skip
  refine xe (t_n (zg (qZ (zcr (sps [pp bs os,Sv ra1 ((appl s t).length) rc1,yI c] (sw (vC #[pp bs os,Sv ra1 ((appl s t).length) rc1,yI c] rfl rfl call163 (en func163 ntmps163 ?_))))))))
  refine zcr (sps [yN,yN] (zjc (sw (jR H underlying165 ti3 fun b14 w15 H=>sp (Sv (aa b14 0) 0 0) (zjc (sw (jR H underlying29 ti24 fun b16 w17 H=>sp (Sv (aa b16 0) 0 0) (zjcc (sp (yI 0) (zjn (qZ ?_)))))))))))
  replace H:=H.boxRowI 1 [] 0
  replace H:=H.boxRow 0 rfl 1 0 rfl qj
  replace H:=H.jD (α:=yLI)
  replace H:=H.unfree 0 rfl
  refine zU (fun m' ρ w18=>∃ (zl:Env) (jK:yOA) (vS:Nat) (jE:Nat) (rules:yLI) (yx:yOA) (jP:Nat) (yw:Nat) (needs:yLL) (Xk:List Value) (X7:yLN) (i:Nat),ρ=upd (upd (upd (upd (upd (upd zl 0 (pp bs os)) 1 (Sv ra1 ((appl s t).length) rc1)) 2 (yI c)) 8 (Sv jK vS jE)) 9 (Sv yx jP yw)) 10 (yI i)∧rules=(cellT s t i c)∧needs=(x8 s (cellT s t i c))∧((i:Int)≤((appl s t).length))∧m' =(((appl s t).length) - (i:Int)).toNat∧Fresh w.heap.size []∧St w w18 [rr yx jP yw 24 1 Xk,rr jK vS jE 3 1 (rules.map (Value.int .i64)),.box b9 [] 29,.box b7 [] 165,rr ra1 ((appl s t).length) rc1 4 1 ((appl s t).map (Value.bool))] [qX false X7 Xk needs,atF bs os (yS s qC qB qK qI),sF false qY qC qB s.qw,sF false xK qK qI s.qx,atF bt ot (yT t qR qP xq xn qN qM),sF false zq qR qP t.qF,sF false zX xq xn t.qG,sF false xN qN qM t.qH]) ((((appl s t).length) - (0:Int)).toNat) ⟨_,(aa b14 0),0,0,([]:yLI),(aa b16 0),0,0,([]:yLL),[],[],0,uE6,(by rfl),(by rfl),qf,rfl,N,H.pick [0,1,2,3,4] [0,2,3,4,5,6,7,8]⟩ ?_
  clear H N
  rintro m' ρ w19 ⟨zl,jK,vS,jE,rules,yx,jP,yw,needs,Xk,X7,i,rfl,rfl,rfl,i0,rfl,N,H⟩
  have hn_rules:=H.vM 1 rfl
  have hn_needs:=H.zi (α:=yLI) 0 rfl 0 rfl qj
  have tl:=cellT_le s t i c
  have nl:=Xt s (cellT s t i c)
  refine zcc (sps [yI i,Sv ra1 ((appl s t).length) rc1] (oN rfl (sp (Bv (decide ((i:Int) < ((appl s t).length)))) (zjn (cD rfl (fun h20=>?_) (fun h20=>?_))))))
  ·skip
   refine xe (t_n (zg (qZ (zcr (sps [Sv ra1 ((appl s t).length) rc1,yI i] ?_)))))
   obtain ⟨b21,rfl⟩:=H.Qc 4 rfl qf
   refine oI rfl rfl (oL rfl (H.rowBool 4 rfl (iv:=i) (i:=i) qf qf) (sp (Bv ((appl s t)[i]!)) ?_))
   cases h22:((appl s t)[i]!)
   ·skip
    refine xU [24,25,26,27,28,29,30,31,32,33] (sp (Bv false) (zjn (xI false rfl (fun h=>absurd h qj) (fun _=>xe (b_n (t_n (zn (sp (yI i) (sw (zN i 1 rfl rfl qf (sp (yI (i+1)) (zo (xm (m' :=(((appl s t).length) - ((i+1):Int)).toNat) qf ⟨_,jK,vS,jE,(cellT s t i c),yx,jP,yw,(x8 s (cellT s t i c)),Xk,X7,i+1,uE6,?_,?_,?_,rfl,N,H⟩)))))))))))))
    · first | exact cellT_yes (Xi qf ‹_›) ‹_› | exact Xe (QE qf ‹_›) | exact QH ‹_›
    · first | exact needs_yes (Xi qf ‹_›) ‹_› | exact congrArg (x8 s) (Xe (QE qf ‹_›)) | exact congrArg (x8 s) (QH ‹_›)
    · omega
   refine qL 23 rfl rfl (sp (pp bs os) (qL 23 rfl rfl (sp (pp bs os) (qL 23 rfl rfl (oF rfl (qL 23 rfl rfl (oL rfl (H.zu 1 rfl 2 rfl) (qL 23 rfl rfl (sp (yI i) (qL 23 rfl rfl ?_))))))))))
   obtain ⟨b23,o24,rfl⟩:=H.addr 3 rfl qf
   obtain ⟨ae26Need,ce26Need,Fe26Need,ae26Have,ce26Have,Fe26Have,ae26Lack,ce26Lack,Fe26Lack,ae26Here,ce26Here,Fe26Here,ae26Out,ce26Out,Fe26Out,ae26Into,ce26Into,Fe26Into,H⟩:=H.yY 3 rfl i i qf qf qf
   refine oI rfl rfl (qL 23 rfl rfl (oF rfl (qL 23 rfl rfl (oL rfl (H.zu 6 rfl 0 rfl) (qL 23 rfl rfl (sp (yI c) (qL 23 rfl rfl (sps [Bv (((s.qx[i]!).qE:Int) == c),Bv (((s.qx[i]!).qE:Int) == c)] (zjn (cE rfl (fun h27=>?_) (fun h27=>?_)))))))))))
   ·skip
    refine zcr (sps [Sv jK vS jE,yI i] (sw (zJ H underlying165 ti3 [yI i] fun b28 w29 H=>sw (zM H 2 rfl 0 rfl underlying165 ti3 rfl qj rfl rfl rfl (by simp [Value.oneCell',Value.cells]) qp qf fun a30 c31 w32 H=>?_))))
    rw [snocI] at H
    refine sp (Sv a30 (vS+1) c31) (zjn (zn (sps [Sv yx jP yw,pp bs os,pp bs os] (oF rfl (oL rfl (H.zu 8 rfl 2 rfl) (sp (yI i) (oI rfl rfl (oF rfl (oL rfl (H.zu 6 rfl 2 rfl) (sw (zJ H underlying29 ti24 [Sv ae26Need (((s.qx[i]!).xM).length) ce26Need] fun b33 w34 H=>sw (zM H 2 rfl 0 rfl underlying29 ti24 rfl qj rfl rfl rfl (by simp [Value.oneCell',Value.cells]) qp qf fun a35 c36 w37 H=>?_))))))))))))
    replace H:=H.y5 7 rfl 0 rfl
    refine sp (Sv a35 (jP+1) c36) (zo (b_n (t_n (zn (sp (yI i) (sw (zN i 1 rfl rfl qf (sp (yI (i+1)) (zo (xm (m' :=(((appl s t).length) - ((i+1):Int)).toNat) qf ⟨_,a30,vS+1,c31,((cellT s t i c)++[(i:Int)]),a35,jP+1,c36,((x8 s (cellT s t i c))++[(s.qx[i]!).xM]),Xk++[Sv ae26Need (((s.qx[i]!).xM).length) ce26Need],(X7++Fe26Need),i+1,uE6,?_,?_,?_,rfl,N,H.pick [2,3,4,5,6] [0,9,10,11,12,13,14,15]⟩))))))))))
    · first | exact cellT_yes (Xi qf ‹_›) ‹_› | exact Xe (QE qf ‹_›) | exact QH ‹_›
    · first | exact needs_yes (Xi qf ‹_›) ‹_› | exact congrArg (x8 s) (Xe (QE qf ‹_›)) | exact congrArg (x8 s) (QH ‹_›)
    · omega
   refine xe (b_n (t_n (zn (sp (yI i) (sw (zN i 1 rfl rfl qf (sp (yI (i+1)) (zo (xm (m' :=(((appl s t).length) - ((i+1):Int)).toNat) qf ⟨_,jK,vS,jE,(cellT s t i c),yx,jP,yw,(x8 s (cellT s t i c)),Xk,X7,i+1,uE6,?_,?_,?_,rfl,N,H.pick [0,1,2,3,4] [7,8,9,10,11,12,13,14]⟩)))))))))
   · first | exact cellT_yes (Xi qf ‹_›) ‹_› | exact Xe (QE qf ‹_›) | exact QH ‹_›
   · first | exact needs_yes (Xi qf ‹_›) ‹_› | exact congrArg (x8 s) (Xe (QE qf ‹_›)) | exact congrArg (x8 s) (QH ‹_›)
   · omega
  refine zx4 (zcr (sps [Sv jK vS jE,Sv yx jP yw,Sv jK vS jE,Sv yx jP yw] (zjr (ret2 (Sv jK vS jE) (Sv yx jP yw) rfl rfl rfl ⟨_,rfl,?_⟩))))
  obtain rfl:i=s.qx.length:=by omega
  rw [show cellT s t s.qx.length c=zG s t c from rfl] at H hn_rules hn_needs
  refine sps [.tuple #[Sv jK vS jE,Sv yx jP yw],Sv jK vS jE,Sv yx jP yw,Sv jK vS jE,Sv yx jP yw] (zjc (sp (Sv jK vS jE) (oN rfl (sps [Bv (decide ((vS:Int) > 0)),Bv (decide ((vS:Int) > 0))] ?_))))
  cases h38:(decide ((vS:Int) > 0))
  ·skip
   replace h38:=of_decide_eq_false h38
   refine xU [43,44,45,46,47,48,49,50,51] (sp (Bv false) (zjn (xI false rfl (fun h=>absurd h qj) (fun _=>xe (b_n (t_n (zn (sp (yI c) (sw (zN c 1 rfl rfl qf (sp (yI (c+1)) (zo (xm (m' :=(s.qw.length - ((c+1):Int)).toNat) qf ⟨_,c+1,uE6,?_,rfl,N,H.pick [2,3,4] [1,2,3,4,5,6,7]⟩)))))))))))))
   · omega
  replace h38:=of_decide_eq_true h38
  refine qL 42 rfl rfl (sp (pp bt ot) (qL 42 rfl rfl (sp (pp bt ot) (qL 42 rfl rfl (oF rfl (qL 42 rfl rfl (oL rfl (H.zu 4 rfl 1 rfl) (qL 42 rfl rfl (sp (yI c) (qL 42 rfl rfl ?_))))))))))
  obtain ⟨b39,o40,rfl⟩:=H.addr 6 rfl qf
  obtain ⟨ae42,ce42,Fe42,H⟩:=H.jS 6 rfl c c qf qf qf
  refine oI rfl rfl (qL 42 rfl rfl (oL rfl (H.zu 1 rfl 0 rfl) (qL 42 rfl rfl ?_)))
  have sm:=vG (p1.2.2.2.2 c qf).1
  refine sw (oq (XC _ (t.qG[c]!) (H.get 0 rfl).1 (by first | assumption | exact vG ql | exact yF ql)) H fun w43 H=>qL 42 rfl rfl (sps [Bv (decide ((QJ (t.qG[c]!):Int) > 16)),Bv (decide ((QJ (t.qG[c]!):Int) > 16))] (zjn (cD rfl (fun h45=>?_) (fun h45=>?_)))))
  ·skip
   refine zcr (sps [Sv (aa b7 0) 0 0,Sv (aa b9 0) 0 0,Sv (aa b7 0) 0 0,Sv (aa b9 0) 0 0,yI 3] (zjr (zr5 (ret3 (Sv (aa b7 0) 0 0) (Sv (aa b9 0) 0 0) (yI 3) rfl rfl rfl rfl ⟨_,rfl,?_⟩))))
   replace H:=H.erases [4,1,0]
   dsimp only [ja,List.eraseIdx] at H
   refine sps [.tuple #[Sv (aa b7 0) 0 0,Sv (aa b9 0) 0 0,yI 3],Sv (aa b7 0) 0 0,Sv (aa b9 0) 0 0,yI 3,Sv (aa b7 0) 0 0,Sv (aa b9 0) 0 0,yI 3] (zjcc (sps [yI 3,Bv true] (zjn (xI true rfl (fun _=>zcr (sw (jR H underlying29 ti24 fun b46 w47 H=>sps [yI 3,Sv (aa b46 0) 0 0,yI 3] (zjr (t_r ?_))))) (fun h=>absurd h qj)))))
   replace H:=H.boxRow 0 rfl 1 0 rfl qj
   replace H:=H.jD (α:=yLI)
   refine ret2 (Sv (aa b46 0) 0 0) (yI 3) rfl rfl rfl ⟨_,rfl,?_,H.base⟩
   first | rw [cho_3 (.inl (bad_sum (c:=c) qf qf qf))] | rw [cho_3 (.inr qf)]
   exact ⟨(aa b46 0),0,0,[],[],rfl,N.emp,H.pick [0] [0]⟩
  refine xe (b_n (t_n (zn (sp (yI c) (sw (zN c 1 rfl rfl qf (sp (yI (c+1)) (zo (xm (m' :=(s.qw.length - ((c+1):Int)).toNat) qf ⟨_,c+1,uE6,?_,rfl,N,H.pick [2,3,4] [3,4,5,6,7,8,9]⟩)))))))))
  · omega
 refine zx4 (zcc (sp (yI 0) (zjn (qZ ?_))))
 replace H:=H.boxRow 1 rfl 1 0 rfl qj
 replace H:=H.jD (α:=yLI)
 replace H:=H.boxRow 0 rfl 1 0 rfl qj
 replace H:=H.jD (α:=yLL)
 refine zU (fun m' ρ w48=>∃ (zl:Env) (jK:yOA) (vS:Nat) (jE:Nat) (rules:yLL) (x_rules:List Value) (F_rules:yLN) (a_all:yOA) (Xl:Nat) (Vg:Nat) (all:List yLL) (x_all:List Value) (F_all:yLN) (c_1:Nat),ρ=upd (upd (upd (upd (upd (upd zl 0 (pp bs os)) 1 (pp bt ot)) 7 (Sv ra1 ((appl s t).length) rc1)) 8 (Sv jK vS jE)) 9 (Sv a_all Xl Vg)) 13 (yI c_1)∧rules=(qV s t c_1)∧all=(xy s t c_1)∧((c_1:Int)≤s.qw.length)∧(GoodP s t c_1)∧m' =(s.qw.length - (c_1:Int)).toNat∧Fresh w.heap.size [F_rules,F_all]∧St w w48 [rr a_all Xl Vg 29 1 x_all,rr jK vS jE 165 1 x_rules,rr ra1 ((appl s t).length) rc1 4 1 ((appl s t).map (Value.bool))] [qX true F_rules x_rules rules,qX true F_all x_all all,atF bs os (yS s qC qB qK qI),sF false qY qC qB s.qw,sF false xK qK qI s.qx,atF bt ot (yT t qR qP xq xn qN qM),sF false zq qR qP t.qF,sF false zX xq xn t.qG,sF false xN qN qM t.qH]) ((s.qw.length - (0:Int)).toNat) ⟨_,(aa b7 0),0,0,([]:yLL),[],[],(aa b9 0),0,0,([]:List yLL),[],[],0,uE6,(by rfl),(by rfl),qf,(by exact fun j hj=>by omega),rfl,N.emp.emp,H⟩ ?_
 clear H N
 rintro m' ρ w49 ⟨zl,jK,vS,jE,rules,x_rules,F_rules,a_all,Xl,Vg,all,x_all,F_all,c_1,rfl,rfl,rfl,i0,gp,rfl,N,H⟩
 have hn_rules:=H.zi (α:=yLI) 1 rfl 0 rfl qj
 have hn_all:=H.zi (α:=yLL) 0 rfl 1 rfl qj
 have rl:=rules_le s t c_1
 have pl:=packsL_le s t c_1
 refine zcc (sps [yI c_1,pp bs os,pp bs os] (oF rfl (oL rfl (H.zu 2 rfl 1 rfl) (oN rfl (sp (Bv (decide ((c_1:Int) < s.qw.length))) (zjn (cD rfl (fun h50=>?_) (fun h50=>?_))))))))
 ·skip
  refine xe (t_n (zg (qZ (zcr (sps [pp bs os,Sv ra1 ((appl s t).length) rc1,yI c_1] (sw (vC #[pp bs os,Sv ra1 ((appl s t).length) rc1,yI c_1] rfl rfl call163 (en func163 ntmps163 ?_))))))))
  refine zcr (sps [yN,yN] (zjc (sw (jR H underlying165 ti3 fun b51 w52 H=>sp (Sv (aa b51 0) 0 0) (zjc (sw (jR H underlying29 ti24 fun b53 w54 H=>sp (Sv (aa b53 0) 0 0) (zjcc (sp (yI 0) (zjn (qZ ?_)))))))))))
  replace H:=H.boxRowI 1 [] 0
  replace H:=H.boxRow 0 rfl 1 0 rfl qj
  replace H:=H.jD (α:=yLI)
  replace H:=H.unfree 0 rfl
  refine zU (fun m' ρ w55=>∃ (zl:Env) (Qk:yOA) (yQ:Nat) (Qj:Nat) (rules_1:yLI) (yx:yOA) (jP:Nat) (yw:Nat) (needs:yLL) (Xk:List Value) (X7:yLN) (i:Nat),ρ=upd (upd (upd (upd (upd (upd zl 0 (pp bs os)) 1 (Sv ra1 ((appl s t).length) rc1)) 2 (yI c_1)) 8 (Sv Qk yQ Qj)) 9 (Sv yx jP yw)) 10 (yI i)∧rules_1=(cellT s t i c_1)∧needs=(x8 s (cellT s t i c_1))∧((i:Int)≤((appl s t).length))∧m' =(((appl s t).length) - (i:Int)).toNat∧Fresh w.heap.size [F_rules,F_all]∧St w w55 [rr yx jP yw 24 1 Xk,rr Qk yQ Qj 3 1 (rules_1.map (Value.int .i64)),rr a_all Xl Vg 29 1 x_all,rr jK vS jE 165 1 x_rules,rr ra1 ((appl s t).length) rc1 4 1 ((appl s t).map (Value.bool))] [qX false X7 Xk needs,qX true F_rules x_rules (qV s t c_1),qX true F_all x_all (xy s t c_1),atF bs os (yS s qC qB qK qI),sF false qY qC qB s.qw,sF false xK qK qI s.qx,atF bt ot (yT t qR qP xq xn qN qM),sF false zq qR qP t.qF,sF false zX xq xn t.qG,sF false xN qN qM t.qH]) ((((appl s t).length) - (0:Int)).toNat) ⟨_,(aa b51 0),0,0,([]:yLI),(aa b53 0),0,0,([]:yLL),[],[],0,uE6,(by rfl),(by rfl),qf,rfl,N,H.pick [0,1,2,3,4] [0,2,3,4,5,6,7,8,9,10]⟩ ?_
  clear H N
  rintro m' ρ w56 ⟨zl,Qk,yQ,Qj,rules_1,yx,jP,yw,needs,Xk,X7,i,rfl,rfl,rfl,i0,rfl,N,H⟩
  have hn_rules:=H.vM 1 rfl
  have hn_needs:=H.zi (α:=yLI) 0 rfl 0 rfl qj
  have tl:=cellT_le s t i c_1
  have nl:=Xt s (cellT s t i c_1)
  refine zcc (sps [yI i,Sv ra1 ((appl s t).length) rc1] (oN rfl (sp (Bv (decide ((i:Int) < ((appl s t).length)))) (zjn (cD rfl (fun h57=>?_) (fun h57=>?_))))))
  ·skip
   refine xe (t_n (zg (qZ (zcr (sps [Sv ra1 ((appl s t).length) rc1,yI i] ?_)))))
   obtain ⟨b58,rfl⟩:=H.Qc 4 rfl qf
   refine oI rfl rfl (oL rfl (H.rowBool 4 rfl (iv:=i) (i:=i) qf qf) (sp (Bv ((appl s t)[i]!)) ?_))
   cases h59:((appl s t)[i]!)
   ·skip
    refine xU [24,25,26,27,28,29,30,31,32,33] (sp (Bv false) (zjn (xI false rfl (fun h=>absurd h qj) (fun _=>xe (b_n (t_n (zn (sp (yI i) (sw (zN i 1 rfl rfl qf (sp (yI (i+1)) (zo (xm (m' :=(((appl s t).length) - ((i+1):Int)).toNat) qf ⟨_,Qk,yQ,Qj,(cellT s t i c_1),yx,jP,yw,(x8 s (cellT s t i c_1)),Xk,X7,i+1,uE6,?_,?_,?_,rfl,N,H⟩)))))))))))))
    · first | exact cellT_yes (Xi qf ‹_›) ‹_› | exact Xe (QE qf ‹_›) | exact QH ‹_›
    · first | exact needs_yes (Xi qf ‹_›) ‹_› | exact congrArg (x8 s) (Xe (QE qf ‹_›)) | exact congrArg (x8 s) (QH ‹_›)
    · omega
   refine qL 23 rfl rfl (sp (pp bs os) (qL 23 rfl rfl (sp (pp bs os) (qL 23 rfl rfl (oF rfl (qL 23 rfl rfl (oL rfl (H.zu 3 rfl 2 rfl) (qL 23 rfl rfl (sp (yI i) (qL 23 rfl rfl ?_))))))))))
   obtain ⟨b60,o61,rfl⟩:=H.addr 5 rfl qf
   obtain ⟨ae63Need,ce63Need,Fe63Need,ae63Have,ce63Have,Fe63Have,ae63Lack,ce63Lack,Fe63Lack,ae63Here,ce63Here,Fe63Here,ae63Out,ce63Out,Fe63Out,ae63Into,ce63Into,Fe63Into,H⟩:=H.yY 5 rfl i i qf qf qf
   refine oI rfl rfl (qL 23 rfl rfl (oF rfl (qL 23 rfl rfl (oL rfl (H.zu 6 rfl 0 rfl) (qL 23 rfl rfl (sp (yI c_1) (qL 23 rfl rfl (sps [Bv (((s.qx[i]!).qE:Int) == c_1),Bv (((s.qx[i]!).qE:Int) == c_1)] (zjn (cE rfl (fun h64=>?_) (fun h64=>?_)))))))))))
   ·skip
    refine zcr (sps [Sv Qk yQ Qj,yI i] (sw (zJ H underlying165 ti3 [yI i] fun b65 w66 H=>sw (zM H 2 rfl 0 rfl underlying165 ti3 rfl qj rfl rfl rfl (by simp [Value.oneCell',Value.cells]) qp qf fun a67 c68 w69 H=>?_))))
    rw [snocI] at H
    refine sp (Sv a67 (yQ+1) c68) (zjn (zn (sps [Sv yx jP yw,pp bs os,pp bs os] (oF rfl (oL rfl (H.zu 10 rfl 2 rfl) (sp (yI i) (oI rfl rfl (oF rfl (oL rfl (H.zu 6 rfl 2 rfl) (sw (zJ H underlying29 ti24 [Sv ae63Need (((s.qx[i]!).xM).length) ce63Need] fun b70 w71 H=>sw (zM H 2 rfl 0 rfl underlying29 ti24 rfl qj rfl rfl rfl (by simp [Value.oneCell',Value.cells]) qp qf fun a72 c73 w74 H=>?_))))))))))))
    replace H:=H.y5 7 rfl 0 rfl
    refine sp (Sv a72 (jP+1) c73) (zo (b_n (t_n (zn (sp (yI i) (sw (zN i 1 rfl rfl qf (sp (yI (i+1)) (zo (xm (m' :=(((appl s t).length) - ((i+1):Int)).toNat) qf ⟨_,a67,yQ+1,c68,((cellT s t i c_1)++[(i:Int)]),a72,jP+1,c73,((x8 s (cellT s t i c_1))++[(s.qx[i]!).xM]),Xk++[Sv ae63Need (((s.qx[i]!).xM).length) ce63Need],(X7++Fe63Need),i+1,uE6,?_,?_,?_,rfl,N,H.pick [2,3,4,5,6] [0,9,10,11,12,13,14,15,16,17]⟩))))))))))
    · first | exact cellT_yes (Xi qf ‹_›) ‹_› | exact Xe (QE qf ‹_›) | exact QH ‹_›
    · first | exact needs_yes (Xi qf ‹_›) ‹_› | exact congrArg (x8 s) (Xe (QE qf ‹_›)) | exact congrArg (x8 s) (QH ‹_›)
    · omega
   refine xe (b_n (t_n (zn (sp (yI i) (sw (zN i 1 rfl rfl qf (sp (yI (i+1)) (zo (xm (m' :=(((appl s t).length) - ((i+1):Int)).toNat) qf ⟨_,Qk,yQ,Qj,(cellT s t i c_1),yx,jP,yw,(x8 s (cellT s t i c_1)),Xk,X7,i+1,uE6,?_,?_,?_,rfl,N,H.pick [0,1,2,3,4] [7,8,9,10,11,12,13,14,15,16]⟩)))))))))
   · first | exact cellT_yes (Xi qf ‹_›) ‹_› | exact Xe (QE qf ‹_›) | exact QH ‹_›
   · first | exact needs_yes (Xi qf ‹_›) ‹_› | exact congrArg (x8 s) (Xe (QE qf ‹_›)) | exact congrArg (x8 s) (QH ‹_›)
   · omega
  refine zx4 (zcr (sps [Sv Qk yQ Qj,Sv yx jP yw,Sv Qk yQ Qj,Sv yx jP yw] (zjr (ret2 (Sv Qk yQ Qj) (Sv yx jP yw) rfl rfl rfl ⟨_,rfl,?_⟩))))
  obtain rfl:i=s.qx.length:=by omega
  rw [show cellT s t s.qx.length c_1=zG s t c_1 from rfl] at H hn_rules hn_needs
  refine sps [.tuple #[Sv Qk yQ Qj,Sv yx jP yw],Sv Qk yQ Qj,Sv yx jP yw,Sv Qk yQ Qj,Sv yx jP yw] (zjcc (sp (Sv Qk yQ Qj) (oN rfl (sp (Bv ((yQ:Int) == 0)) (zjn (cE rfl (fun h75=>?_) (fun h75=>?_)))))))
  ·skip
   refine c_exit (t_x (b_x (t_n (zn (sp (yI c_1) (sw (zN c_1 1 rfl rfl qf (sp (yI (c_1+1)) (zo (xm (m' :=(s.qw.length - ((c_1+1):Int)).toNat) qf ⟨_,jK,vS,jE,(qV s t c_1),x_rules,F_rules,a_all,Xl,Vg,(xy s t c_1),x_all,F_all,c_1+1,uE6,?_,?_,?_,?_,rfl,N,H.pick [2,3,4] [1,2,3,4,5,6,7,8,9]⟩))))))))))
   · first | exact rules_yes qf | exact rules_no qf
   · first | exact packsL_yes qf | exact packsL_no qf
   · omega
   · exact gp.succ (by first | exact .inl qf | exact .inr (show (vk _ _).2=0 from ‹_›))
  refine xe (t_n (zcr (sps [pp bt ot,pp bt ot] (oF rfl (oL rfl (H.zu 6 rfl 1 rfl) (sp (yI c_1) ?_))))))
  obtain ⟨b76,o77,rfl⟩:=H.addr 8 rfl qf
  obtain ⟨ae79,ce79,Fe79,H⟩:=H.jS 8 rfl c_1 c_1 qf qf qf
  refine oI rfl rfl (oL rfl (H.zu 1 rfl 0 rfl) (sp (Sv yx jP yw) ?_))
  obtain ⟨G80,hn81,h82⟩:=H.rowIsR (α:=yLI) 0 rfl 2 rfl qj
  have cp:=cell_pack p0 p1 (c:=c_1) qf
  have sz86:=H.base.size
  have lt87:=H.ltN (L:=[F_rules,F_all]) [3,4]
  refine sw (oc (args_eq (by rw [← hn81]) (l01All_ok _ (t.qG[c_1]!) (x8 s (zG s t c_1)) (H.get 0 rfl).1 (hn81▸h82) qg)) ?_)
  rintro _ w84 ⟨ra83a,rn83a,rc83a,rx83a,rF83a,rfl,M,K⟩ _
  replace N:=N.merge sz86 lt87 M
  replace H:=H.merge K M
  obtain rfl:=H.zi (α:=yLI) 0 rfl 0 rfl qj
  refine sps [.tuple #[Sv ra83a (((vk (t.qG[c_1]!) (x8 s (zG s t c_1))).1).length) rc83a,yI ((vk (t.qG[c_1]!) (x8 s (zG s t c_1))).2)],Sv ra83a (((vk (t.qG[c_1]!) (x8 s (zG s t c_1))).1).length) rc83a,yI ((vk (t.qG[c_1]!) (x8 s (zG s t c_1))).2),Sv ra83a (((vk (t.qG[c_1]!) (x8 s (zG s t c_1))).1).length) rc83a,yI ((vk (t.qG[c_1]!) (x8 s (zG s t c_1))).2)] (zjcc (sps [yI ((vk (t.qG[c_1]!) (x8 s (zG s t c_1))).2),Bv (((vk (t.qG[c_1]!) (x8 s (zG s t c_1))).2:Int) != 0)] (zjn ?_)))
  refine xI (((vk (t.qG[c_1]!) (x8 s (zG s t c_1))).2:Int) != 0) rfl (fun h89=>?_) (fun h89=>?_)
  ·skip
   replace h89:=bne_iff_ne.1 h89
   refine zcr (sps [Sv jK vS jE,Sv a_all Xl Vg,yI ((vk (t.qG[c_1]!) (x8 s (zG s t c_1))).2),Sv jK vS jE,Sv a_all Xl Vg,yI ((vk (t.qG[c_1]!) (x8 s (zG s t c_1))).2)] (zjr (t_r (zr5 (ret3 (Sv jK vS jE) (Sv a_all Xl Vg) (yI ((vk (t.qG[c_1]!) (x8 s (zG s t c_1))).2)) rfl rfl rfl rfl ⟨_,rfl,?_⟩)))))
   replace H:=H.erases [5,2,1,0]
   dsimp only [ja,List.eraseIdx] at H
   refine sps [.tuple #[Sv jK vS jE,Sv a_all Xl Vg,yI ((vk (t.qG[c_1]!) (x8 s (zG s t c_1))).2)],Sv jK vS jE,Sv a_all Xl Vg,yI ((vk (t.qG[c_1]!) (x8 s (zG s t c_1))).2),Sv jK vS jE,Sv a_all Xl Vg,yI ((vk (t.qG[c_1]!) (x8 s (zG s t c_1))).2)] (zjcc (sps [yI ((vk (t.qG[c_1]!) (x8 s (zG s t c_1))).2),Bv (((vk (t.qG[c_1]!) (x8 s (zG s t c_1))).2:Int) != 0)] (zjn ?_)))
   refine xI (((vk (t.qG[c_1]!) (x8 s (zG s t c_1))).2:Int) != 0) rfl (fun h90=>?_) (fun h=>absurd (zh h) h89)
   replace h90:=bne_iff_ne.1 h90
   refine zcr (sw (jR H underlying29 ti24 fun b91 w92 H=>sps [yI ((vk (t.qG[c_1]!) (x8 s (zG s t c_1))).2),Sv (aa b91 0) 0 0,yI ((vk (t.qG[c_1]!) (x8 s (zG s t c_1))).2)] (zjr (t_r ?_))))
   replace H:=H.boxRow 0 rfl 1 0 rfl qj
   replace H:=H.jD (α:=yLI)
   refine ret2 (Sv (aa b91 0) 0 0) (yI ((vk (t.qG[c_1]!) (x8 s (zG s t c_1))).2)) rfl rfl rfl ⟨_,rfl,?_,H.base⟩
   rw [cho_code (bad_code (c:=c_1) qf qf ‹_›) ‹_›]
   exact ⟨(aa b91 0),0,0,[],[],rfl,(N.emp.pick [0]),H.pick [0] [0]⟩
  replace h89:=zh h89
  refine xe (t_n (zcr (sps [Sv jK vS jE,Sv Qk yQ Qj] (sw (zJ H underlying113 ti165 [Sv Qk yQ Qj] fun b93 w94 H=>?_)))))
  obtain ⟨G98,N,hn99,H⟩:=H.vz 3 rfl N (H.jJ [0,4,5])
  refine sw (zM H 5 rfl 0 rfl underlying113 ti165 rfl qj rfl rfl rfl (by simp [Value.oneCell',Value.cells]) qp qf fun a95 c96 w97 H=>?_)
  replace H:=H.y5 5 rfl 0 rfl
  replace N:Fresh w.heap.size [(F_rules++G98),rF83a,F_all]:=(N.pick [2,0,1,3]).join
  refine sp (Sv a95 (vS+1) c96) (zjn (zn (sps [Sv a_all Xl Vg,Sv ra83a (((vk (t.qG[c_1]!) (x8 s (zG s t c_1))).1).length) rc83a] (sw (zJ H underlying114 ti29 [Sv ra83a (((vk (t.qG[c_1]!) (x8 s (zG s t c_1))).1).length) rc83a] fun b100 w101 H=>?_)))))
  have H0:=H
  obtain ⟨G105,hg107,hn106,H⟩:=H.Q3 (α:=yLI) 2 rfl 2 rfl qj
  replace N:Fresh w.heap.size [G105,(F_rules++G98),F_all]:=Fresh.ice (N.pick [1,0,2]) H0 2 hg107.1 hg107.2 (H0.jJ [0,7])
  clear H0
  refine sw (zM H 5 rfl 0 rfl underlying114 ti29 rfl qj rfl rfl rfl (by simp [Value.oneCell',Value.cells]) qp qf fun a102 c103 w104 H=>?_)
  replace H:=H.y5 8 rfl 0 rfl
  replace N:Fresh w.heap.size [(F_all++G105),(F_rules++G98)]:=(N.pick [2,0,1]).join
  refine sp (Sv a102 (Xl+1) c103) (zo (b_n (t_n (zn (sp (yI c_1) (sw (zN c_1 1 rfl rfl qf (sp (yI (c_1+1)) (zo ?_)))))))))
  refine xm (m' :=(s.qw.length - ((c_1+1):Int)).toNat) qf ⟨_,a95,vS+1,c96,((qV s t c_1)++[(zG s t c_1)]),x_rules++[Sv Qk yQ Qj],(F_rules++G98),a102,Xl+1,c103,((xy s t c_1)++[(vk (t.qG[c_1]!) (x8 s (zG s t c_1))).1]),x_all++[Sv ra83a (((vk (t.qG[c_1]!) (x8 s (zG s t c_1))).1).length) rc83a],(F_all++G105),c_1+1,uE6,?_,?_,?_,?_,rfl,(N.pick [1,0]),H.pick [5,6,7] [2,0,10,11,12,13,14,15,16]⟩
  · first | exact rules_yes qf | exact rules_no qf
  · first | exact packsL_yes qf | exact packsL_no qf
  · omega
  · exact gp.succ (by first | exact .inl qf | exact .inr (show (vk _ _).2=0 from ‹_›))
 refine zx4 (zcr (sps [Sv jK vS jE,Sv a_all Xl Vg,Sv jK vS jE,Sv a_all Xl Vg,yI 0] (zjr (ret3 (Sv jK vS jE) (Sv a_all Xl Vg) (yI 0) rfl rfl rfl rfl ⟨_,rfl,?_⟩))))
 replace H:=H.erases [2]
 dsimp only [ja,List.eraseIdx] at H
 obtain rfl:c_1=s.qw.length:=by omega
 have kb:=prod_bd p0 p1 (k:=s.qw.length) qf gp
 have kn:=packsL_ne p0 p1 (k:=s.qw.length) qf gp
 have kr:=rules_le s t s.qw.length
 have kl:=packsL_le s t s.qw.length
 refine sps [.tuple #[Sv jK vS jE,Sv a_all Xl Vg,yI 0],Sv jK vS jE,Sv a_all Xl Vg,yI 0,Sv jK vS jE,Sv a_all Xl Vg,yI 0] (zjcc (sps [yI 0,Bv false] (zjn (xI false rfl (fun h=>absurd h qj) (fun _=>xe (t_n (zcc (sp (Sv a_all Xl Vg) ?_))))))))
 obtain ⟨G108,hn109,h110⟩:=H.rowIsR (α:=yLL) 0 rfl 1 rfl qj
 refine sw (oq (args_eq (by rw [← hn109]) (l03Count_ok _ (xy s t s.qw.length) (hn109▸h110) qg)) H fun w112 H=>sp (Bv (decide ((((QB (xy s t s.qw.length) (xy s t s.qw.length).length:Nat):Int):Int) > 300))) (zjn (cD rfl (fun h114=>?_) (fun h114=>?_))))
 ·skip
  refine zcr (sw (jR H underlying29 ti24 fun b115 w116 H=>sps [Sv (aa b115 0) 0 0,yI 3] (zjr (t_r ?_))))
  replace H:=H.boxRow 0 rfl 1 0 rfl qj
  replace H:=H.jD (α:=yLI)
  refine ret2 (Sv (aa b115 0) 0 0) (yI 3) rfl rfl rfl ⟨_,rfl,?_,H.base⟩
  first | rw [cho_3 (.inl (bad_sum (c:=c) qf qf qf))] | rw [cho_3 (.inr qf)]
  exact ⟨(aa b115 0),0,0,[],[],rfl,(N.emp.pick [0]),H.pick [0] [0]⟩
 have kc:¬ QB (xy s t s.qw.length) (xy s t s.qw.length).length > 300:=by omega
 refine xe (t_n (zcr (sps [pp bs os,pp bs os] (oF rfl (oL rfl (H.zu 2 rfl 2 rfl) (oN rfl (sw (zf H underlying24 ti2 s.qx.length rfl rfl qf qf qf fun b117 w118 H=>sw (zJ H underlying29 ti24 [Sv (aa b117 0) s.qx.length s.qx.length] fun b119 w120 H=>sp (Sv (aa b119 0) 1 1) (zjcc (sp (yI 0) (zjn (qZ ?_)))))))))))))
 have H0:=H
 obtain ⟨G121,hg123,hn122,H⟩:=H.Q3 (α:=yLI) 3 rfl 0 rfl qj
 replace N:Fresh w.heap.size [G121,F_all]:=Fresh.ice N H0 3 hg123.1 hg123.2 (H0.jJ [1])
 clear H0
 have H0:=H
 obtain ⟨G124,hg126,hn125,H⟩:=H.Q3 (α:=yLL) 2 rfl 2 rfl qj
 replace N:Fresh w.heap.size [G124,G121]:=Fresh.ice (N.pick [1,0]) H0 2 hg126.1 hg126.2 (H0.jJ [0])
 clear H0
 replace H:=H.boxRow 0 rfl 1 1 rfl qj
 replace H:=H.jD (α:=yLI)
 obtain ⟨G127,N,hn128,H⟩:=H.vz 1 rfl N (H.jJ [1,2])
 replace H:=H.XW true 0 rfl 1 rfl qm
 replace N:Fresh w.heap.size [(G127++[]),G124,G121]:=(N.emp.pick [1,0,2,3]).join
 refine zU (fun m' ρ w129=>∃ (zl:Env) (jH:yOA) (zY:Nat) (vV:Nat) (out:yLL) (x_out:List Value) (XO:yLN) (i:Nat),ρ=upd (upd (upd (upd zl 6 (Sv jK vS jE)) 7 (Sv a_all Xl Vg)) 9 (Sv jH zY vV)) 10 (yI i)∧out=(jw s.qx.length (qV s t s.qw.length) (xy s t s.qw.length) i)∧((i:Int)≤Xl)∧m' =(Xl - (i:Int)).toNat∧Fresh w.heap.size [G124,G121,XO]∧St w w129 [rr jH zY vV 24 1 x_out] [qX true XO x_out out,isF true G124 (Sv a_all Xl Vg) (xy s t s.qw.length),isF true G121 (Sv jK vS jE) (qV s t s.qw.length)]) ((Xl - (0:Int)).toNat) ⟨_,(aa b119 0),1,1,[(List.replicate s.qx.length (0:Int))],[Sv (aa b117 0) s.qx.length s.qx.length],(G127++[]),0,uE4,(by rfl),qf,rfl,(N.pick [1,2,0]),H.pick [0] [0,3,4]⟩ ?_
 clear H N
 rintro m' ρ w130 ⟨zl,jH,zY,vV,out,x_out,XO,i,rfl,rfl,i0,rfl,N,H⟩
 have hn_out:=H.zi (α:=yLI) 0 rfl 0 rfl qj
 refine zcc (sps [yI i,Sv a_all Xl Vg] (oN rfl (sp (Bv (decide ((i:Int) < Xl))) (zjn (cD rfl (fun h131=>?_) (fun h131=>?_))))))
 ·skip
  have ga:=G_le (n:=s.qx.length) (rs:=(qV s t s.qw.length)) (i:=i) kn kc qf
  obtain ⟨gb,gc⟩:=cell_few (s:=s) (t:=t) (n:=s.qw.length) (i:=i) p0 qf
  refine xe (t_n (zg (qZ (zcr (sw (jR H underlying29 ti24 fun b132 w133 H=>sp (Sv (aa b132 0) 0 0) (zjcc (sp (yI 0) (zjn (qZ ?_))))))))))
  replace H:=H.boxRow 0 rfl 1 0 rfl qj
  replace H:=H.jD (α:=yLI)
  refine zU (fun m' ρ w134=>∃ (zl:Env) (a_next:yOA) (n_next:Nat) (c_next:Nat) (next:yLL) (x_next:List Value) (F_next:yLN) (k:Nat),ρ=upd (upd (upd (upd (upd (upd zl 6 (Sv jK vS jE)) 7 (Sv a_all Xl Vg)) 9 (Sv jH zY vV)) 10 (yI i)) 11 (Sv a_next n_next c_next)) 12 (yI k)∧next=(nextK (jw s.qx.length (qV s t s.qw.length) (xy s t s.qw.length) i) ((qV s t s.qw.length)[i]!) ((xy s t s.qw.length)[i]!) k)∧((k:Int)≤zY)∧m' =(zY - (k:Int)).toNat∧Fresh w.heap.size [G124,G121,XO,F_next]∧St w w134 [rr a_next n_next c_next 24 1 x_next,rr jH zY vV 24 1 x_out] [qX true F_next x_next next,qX true XO x_out (jw s.qx.length (qV s t s.qw.length) (xy s t s.qw.length) i),isF true G124 (Sv a_all Xl Vg) (xy s t s.qw.length),isF true G121 (Sv jK vS jE) (qV s t s.qw.length)]) ((zY - (0:Int)).toNat) ⟨_,(aa b132 0),0,0,([]:yLL),[],[],0,uE6,(by rfl),qf,rfl,(N.emp.pick [1,2,3,0]),H⟩ ?_
  clear H N
  rintro m' ρ w135 ⟨zl,a_next,n_next,c_next,next,x_next,F_next,k,rfl,rfl,i0,rfl,N,H⟩
  have hn_next:=H.zi (α:=yLI) 0 rfl 0 rfl qj
  refine zcc (sps [yI k,Sv jH zY vV] (oN rfl (sp (Bv (decide ((k:Int) < zY))) (zjn (cD rfl (fun h136=>?_) (fun h136=>?_))))))
  ·skip
   refine xe (t_n (zg (qZ (zcr (sp (yI 0) (zjn (qZ ?_)))))))
   refine zU (fun m' ρ w137=>∃ (zl:Env) (QW:yOA) (Qa:Nat) (QS:Nat) (next_1:yLL) (Xc:List Value) (Qp:yLN) (x:Nat),ρ=upd (upd (upd (upd (upd (upd (upd zl 6 (Sv jK vS jE)) 7 (Sv a_all Xl Vg)) 9 (Sv jH zY vV)) 10 (yI i)) 11 (Sv QW Qa QS)) 12 (yI k)) 13 (yI x)∧next_1=(nextX (jw s.qx.length (qV s t s.qw.length) (xy s t s.qw.length) i) ((qV s t s.qw.length)[i]!) ((xy s t s.qw.length)[i]!) k x)∧((x:Int)≤(((xy s t s.qw.length)[i]!).length))∧m' =((((xy s t s.qw.length)[i]!).length) - (x:Int)).toNat∧Fresh w.heap.size [G124,G121,XO,Qp]∧St w w137 [rr QW Qa QS 24 1 Xc,rr jH zY vV 24 1 x_out] [qX true Qp Xc next_1,qX true XO x_out (jw s.qx.length (qV s t s.qw.length) (xy s t s.qw.length) i),isF true G124 (Sv a_all Xl Vg) (xy s t s.qw.length),isF true G121 (Sv jK vS jE) (qV s t s.qw.length)]) (((((xy s t s.qw.length)[i]!).length) - (0:Int)).toNat) ⟨_,a_next,n_next,c_next,(nextK (jw s.qx.length (qV s t s.qw.length) (xy s t s.qw.length) i) ((qV s t s.qw.length)[i]!) ((xy s t s.qw.length)[i]!) k),x_next,F_next,0,uE7,(by exact nextX_zero _ _ _ _),qf,rfl,N,H⟩ ?_
   clear H N
   rintro m' ρ w138 ⟨zl,QW,Qa,QS,next_1,Xc,Qp,x,rfl,rfl,i0,rfl,N,H⟩
   have hn_next:=H.zi (α:=yLI) 0 rfl 0 rfl qj
   refine zcc (sps [yI x,Sv a_all Xl Vg,yI i] ?_)
   have hl141:=H.isLen 2 rfl
   obtain ⟨b139,o140,rfl⟩:=H.addr 2 rfl qf
   obtain ⟨ae142,ce142,Fe142,H⟩:=H.jS 2 rfl i i qf qf qf
   refine oI rfl rfl (oL rfl (H.zu 1 rfl 0 rfl) (oN rfl (sp (Bv (decide ((x:Int) < (((xy s t s.qw.length)[i]!).length)))) (zjn (cD rfl (fun h143=>?_) (fun h143=>?_))))))
   ·skip
    have nx:=next_le (n:=s.qx.length) (rs:=(qV s t s.qw.length)) (i:=i) (k:=k) (x:=x) kn kc qf qf qf
    have g1:=prodG_at (n:=s.qx.length) (rs:=(qV s t s.qw.length)) (all:=(xy s t s.qw.length)) (i:=i) (k:=k) qf
    have g2:=pack_at (s:=s) (t:=t) (n:=s.qw.length) (i:=i) (x:=x) qf qf
    refine xe (t_n (zg (qZ (zcr (sps [Sv jH zY vV,yI k] ?_)))))
    obtain ⟨b144,rfl⟩:=H.Qc 1 rfl qf
    refine oI rfl rfl ?_
    obtain ⟨a145,c146,G147,s148,h149,hx150,hy151,H⟩:=H.rowElemX 1 rfl 3 rfl (iv:=k) k qf qf
    refine oL rfl (H.rowGet 1 rfl hx150) ?_
    have sz152:=H.base.size
    have lt153:=H.ltN (L:=[G124,G121,XO,Qp]) [5,6,4,3]
    refine sw (oc (l00Own_ok _ ((jw s.qx.length (qV s t s.qw.length) (xy s t s.qw.length) i)[k]!) (H.get 0 rfl).1 qg) ?_)
    rintro v157 w155 r157 x156
    replace H:=H.zW x156 r157
    obtain ⟨a158,c159,rfl,hc160,hm161⟩:=H.jY 0 rfl
    refine sp (Sv a158 (((jw s.qx.length (qV s t s.qw.length) (xy s t s.qw.length) i)[k]!).length) c159) (zjcc (sp (yI 0) (zjn (qZ ?_))))
    refine zU (fun m' ρ w162=>∃ (zl:Env) (r:Nat) (own:yLI),ρ=upd (upd (upd (upd (upd (upd (upd (upd (upd zl 6 (Sv jK vS jE)) 7 (Sv (aa b139 o140) Xl Vg)) 9 (Sv (aa b144 0) zY vV)) 10 (yI i)) 11 (Sv QW Qa QS)) 12 (yI k)) 13 (yI x)) 14 (Sv a158 (((jw s.qx.length (qV s t s.qw.length) (xy s t s.qw.length) i)[k]!).length) c159)) 15 (yI r)∧own=(setTo ((jw s.qx.length (qV s t s.qw.length) (xy s t s.qw.length) i)[k]!) ((qV s t s.qw.length)[i]!) (((xy s t s.qw.length)[i]!)[x]!) r)∧((r:Int)≤(((qV s t s.qw.length)[i]!).length))∧m' =((((qV s t s.qw.length)[i]!).length) - (r:Int)).toNat∧Fresh w.heap.size [G124,G121,XO,Qp]∧St w w162 [rr a158 (((jw s.qx.length (qV s t s.qw.length) (xy s t s.qw.length) i)[k]!).length) c159 2 1 (own.map (Value.int .i64)),rr QW Qa QS 24 1 Xc,rr (aa b144 0) zY vV 24 1 x_out] [sF true Fe142 ae142 ce142 ((xy s t s.qw.length)[i]!),atF b139 (o140+(i:Int).toNat * 1) [Sv ae142 (((xy s t s.qw.length)[i]!).length) ce142],qX true Qp Xc (nextX (jw s.qx.length (qV s t s.qw.length) (xy s t s.qw.length) i) ((qV s t s.qw.length)[i]!) ((xy s t s.qw.length)[i]!) k x),qX true XO x_out (jw s.qx.length (qV s t s.qw.length) (xy s t s.qw.length) i),isF true G124 (Sv (aa b139 o140) Xl Vg) (xy s t s.qw.length),isF true G121 (Sv jK vS jE) (qV s t s.qw.length)]) (((((qV s t s.qw.length)[i]!).length) - (0:Int)).toNat) ⟨_,0,((jw s.qx.length (qV s t s.qw.length) (xy s t s.qw.length) i)[k]!),uE9,(by rfl),qf,rfl,N,H.pick [0,1,2] [1,2,3,4,5,6]⟩ ?_
    clear H N
    rintro m' ρ w163 ⟨zl,r,own,rfl,rfl,i0,rfl,N,H⟩
    have hn_own:=H.vM 0 rfl
    have sl:=setTo_len ((jw s.qx.length (qV s t s.qw.length) (xy s t s.qw.length) i)[k]!) ((qV s t s.qw.length)[i]!) (((xy s t s.qw.length)[i]!)[x]!) r
    refine zcc (sps [yI r,Sv jK vS jE,yI i] ?_)
    have hl166:=H.isLen 5 rfl
    obtain ⟨b164,o165,rfl⟩:=H.addr 5 rfl qf
    obtain ⟨ae167,ce167,Fe167,H⟩:=H.jS 5 rfl i i qf qf qf
    refine oI rfl rfl (oL rfl (H.zu 1 rfl 0 rfl) (oN rfl (sp (Bv (decide ((r:Int) < (((qV s t s.qw.length)[i]!).length)))) (zjn (cD rfl (fun h168=>?_) (fun h168=>?_))))))
    ·skip
     obtain ⟨g3,g4⟩:=choice_at (s:=s) (t:=t) (n:=s.qw.length) (i:=i) (r:=r) qf qf
     refine xe (t_n (zg (qZ ?_)))
     refine Qe rfl H [1,2] fun H=>?_
     have S:=H.jG [1,2] [0,1,2,3,4,5,6,7]
     refine rtp 0 (Sv a158 (((jw s.qx.length (qV s t s.qw.length) (xy s t s.qw.length) i)[k]!).length) c159) S ?_
     refine rtp 1 (Sv (aa b164 o165) vS jE) S ?_
     refine rtp 2 (yI i) S ?_
     refine tI 3 rfl rfl rfl S ?_
     refine tL 4 rfl rfl (fun _ h=>h.zu 1 rfl 0 rfl) S ?_
     refine rtp 5 (yI r) S ?_
     obtain ⟨b170,o171,rfl⟩:=H.addr 0 rfl qf
     have S:=H.jG [1,2] [0,1,2,3,4,5,6,7]
     refine tI 6 rfl rfl rfl S ?_
     refine tL 7 rfl rfl (fun _ h=>h.QG 0 rfl r qf) S ?_
     refine rtp 8 (Sv (aa b139 o140) Xl Vg) S ?_
     refine rtp 9 (yI i) S ?_
     refine tI 10 rfl rfl rfl S ?_
     refine tL 11 rfl rfl (fun _ h=>h.zu 3 rfl 0 rfl) S ?_
     refine rtp 12 (yI x) S ?_
     obtain ⟨b173,o174,rfl⟩:=H.addr 2 rfl qf
     obtain ⟨ae176,ce176,Fe176,H⟩:=H.jS 2 rfl x x qf qf qf
     have S:=H.jG [1,2] [2,3,4,5,6,7,8,9]
     refine tI 13 rfl rfl rfl S ?_
     refine rtp 15 (yI r) S ?_
     refine ro 14 rfl (zt (Sv ae176 ((((xy s t s.qw.length)[i]!)[x]!).length) ce176) isAgg24 rfl (H.zu 1 rfl 0 rfl) (⟨H.pick [1,2] [2,3,4,5,6,7,8,9],?_⟩))
     obtain ⟨b177,o178,rfl⟩:=H.addr 0 rfl qf
     refine tI 16 rfl rfl rfl (H.pick [1,2] [2,3,4,5,6,7,8,9]) ?_
     refine ro 17 rfl (zt (yI ((((xy s t s.qw.length)[i]!)[x]!)[r]!)) isAgg2 rfl (H.jg 0 rfl r qf qf) (⟨H.pick [1,2] [2,3,4,5,6,7,8,9],?_⟩))
     obtain ⟨b180,rfl⟩:=H.Qc 0 rfl qf
     refine tI 18 rfl rfl rfl (H.pick [1,2] [2,3,4,5,6,7,8,9]) ?_
     refine ro 19 rfl (Va H 0 rfl ((((xy s t s.qw.length)[i]!)[x]!)[r]!) sizeOf2 rfl rfl (i:=((((qV s t s.qw.length)[i]!)[r]!).toNat)) qf qf fun w181 H=>⟨H.pick [1,2] [2,3,4,5,6,7,8,9],(xg qh (b_n (t_n (zn (sp (yI r) (sw (zN r 1 rfl rfl qf (sp (yI (r+1)) (zo ?_)))))))))⟩)
     refine xm (m' :=((((qV s t s.qw.length)[i]!).length) - ((r+1):Int)).toNat) qf ⟨_,r+1,((setTo ((jw s.qx.length (qV s t s.qw.length) (xy s t s.qw.length) i)[k]!) ((qV s t s.qw.length)[i]!) (((xy s t s.qw.length)[i]!)[x]!) r).set ((((qV s t s.qw.length)[i]!)[r]!).toNat) ((((xy s t s.qw.length)[i]!)[x]!)[r]!)),uE9,?_,?_,rfl,N,H.pick [0,1,2] [4,5,6,7,8,9]⟩
     · rfl
     · omega
    refine zx4 (zn (sps [Sv QW Qa QS,Sv a158 (((jw s.qx.length (qV s t s.qw.length) (xy s t s.qw.length) i)[k]!).length) c159] (sw (zJ H underlying29 ti24 [Sv a158 (((jw s.qx.length (qV s t s.qw.length) (xy s t s.qw.length) i)[k]!).length) c159] fun b182 w183 H=>?_))))
    obtain ⟨G187,N,hn188,H⟩:=H.vz 1 rfl N (H.jJ [6,7,5,4])
    refine sw (zM H 2 rfl 0 rfl underlying29 ti24 rfl qj rfl rfl rfl (by simp [Value.oneCell',Value.cells]) qp qf fun a184 c185 w186 H=>?_)
    replace H:=H.y5 5 rfl 0 rfl
    replace N:Fresh w.heap.size [(Qp++G187),G124,G121,XO]:=(N.pick [4,0,1,2,3]).join
    refine sp (Sv a184 (Qa+1) c185) (zo (b_n (t_n (zn (sp (yI x) (sw (zN x 1 rfl rfl qf (sp (yI (x+1)) (zo ?_)))))))))
    refine xm (m' :=((((xy s t s.qw.length)[i]!).length) - ((x+1):Int)).toNat) qf ⟨_,a184,Qa+1,c185,((nextX (jw s.qx.length (qV s t s.qw.length) (xy s t s.qw.length) i) ((qV s t s.qw.length)[i]!) ((xy s t s.qw.length)[i]!) k x)++[(setTo ((jw s.qx.length (qV s t s.qw.length) (xy s t s.qw.length) i)[k]!) ((qV s t s.qw.length)[i]!) (((xy s t s.qw.length)[i]!)[x]!) r)]),Xc++[Sv a158 (((jw s.qx.length (qV s t s.qw.length) (xy s t s.qw.length) i)[k]!).length) c159],(Qp++G187),x+1,uE7,?_,?_,rfl,(N.pick [1,2,3,0]),H.pick [2,3] [0,7,8,9]⟩
    · exact nextX_succ qf (by rw [show r=((qV s t s.qw.length)[i]!).length by omega];rfl)
    · omega
   refine c_exit (t_x (t_x (b_x (b_n (t_n (zn (sp (yI k) (sw (zN k 1 rfl rfl qf (sp (yI (k+1)) (zo (xm (m' :=(zY - ((k+1):Int)).toNat) qf ⟨_,QW,Qa,QS,(nextX (jw s.qx.length (qV s t s.qw.length) (xy s t s.qw.length) i) ((qV s t s.qw.length)[i]!) ((xy s t s.qw.length)[i]!) k x),Xc,Qp,k+1,uE6,?_,?_,rfl,N,H.pick [0,1] [2,3,4,5]⟩))))))))))))
   · exact nextX_end qf qf
   · omega
  refine zx4 (zn (sps [Sv a_next n_next c_next,Sv a_next n_next c_next] (zo (b_n (t_n (zn (sp (yI i) (sw (zN i 1 rfl rfl qf (sp (yI (i+1)) (zo (xm (m' :=(Xl - ((i+1):Int)).toNat) qf ⟨_,a_next,n_next,c_next,(nextK (jw s.qx.length (qV s t s.qw.length) (xy s t s.qw.length) i) ((qV s t s.qw.length)[i]!) ((xy s t s.qw.length)[i]!) k),x_next,F_next,i+1,uE4,?_,?_,rfl,(N.pick [0,1,3]),H.pick [0] [0,2,3]⟩))))))))))))
  · rw [show k=(jw s.qx.length (qV s t s.qw.length) (xy s t s.qw.length) i).length by omega];rfl
  · omega
 refine zx4 (zcc (sp (yI 1) (zjn (qZ ?_))))
 have on:0 < (jw s.qx.length (qV s t s.qw.length) (xy s t s.qw.length) i).length:=by rw [XP,show i=(xy s t s.qw.length).length by omega];exact prod_mono kn (Nat.zero_le _) (Nat.le_refl _)
 have on2:=G_le (n:=s.qx.length) (rs:=(qV s t s.qw.length)) (i:=i) kn kc qf
 refine zU (fun m' ρ w189=>∃ (zl:Env) (i_1:Nat) (out_1:yLL) (XY:List Value) (Xv:yLN),ρ=upd (upd zl 9 (Sv jH zY vV)) 16 (yI i_1)∧((i_1:Int)≤zY)∧((jw s.qx.length (qV s t s.qw.length) (xy s t s.qw.length) (xy s t s.qw.length).length).Perm out_1)∧(∀ a b,a < b→b < i_1→¬ ahead (out_1[b]!) (out_1[a]!))∧m' =(zY - (i_1:Int)).toNat∧Fresh w.heap.size [Xv]∧St w w189 [rr jH zY vV 24 1 XY] [qX true Xv XY out_1]) ((zY - (1:Int)).toNat) ⟨_,1,(jw s.qx.length (qV s t s.qw.length) (xy s t s.qw.length) i),x_out,XO,uE2,qf,(by rw [show i=(xy s t s.qw.length).length by omega]),(by exact fun a b h1 h2=>by omega),rfl,(N.pick [2]),H.pick [0] [0]⟩ ?_
 clear H N
 rintro m' ρ w190 ⟨zl,i_1,out_1,XY,Xv,rfl,i0,o1,o2,rfl,N,H⟩
 have hn_out:=H.zi (α:=yLI) 0 rfl 0 rfl qj
 refine zcc (sps [yI i_1,Sv jH zY vV] (oN rfl (sp (Bv (decide ((i_1:Int) < zY))) (zjn (cD rfl (fun h191=>?_) (fun h191=>?_))))))
 ·skip
  refine xe (t_n (zg (qZ (zcr (sps [yI i_1,yI i_1] (zjn (qZ ?_)))))))
  refine zU (fun m' ρ w192=>∃ (zl:Env) (k:Int) (out_51:yLL) (x_out_51:List Value) (F_out_51:yLN),ρ=upd (upd (upd zl 9 (Sv jH zY vV)) 16 (yI i_1)) 17 (yI k)∧((jw s.qx.length (qV s t s.qw.length) (xy s t s.qw.length) (xy s t s.qw.length).length).Perm out_51)∧(InsTo out_51 i_1 k.toNat)∧(0≤k∧k≤i_1)∧m' =((k:Int)).toNat∧Fresh w.heap.size [F_out_51]∧St w w192 [rr jH zY vV 24 1 x_out_51] [qX true F_out_51 x_out_51 out_51]) (((i_1:Int)).toNat) ⟨_,i_1,out_1,XY,Xv,uE3,ql,(by exact InsTo.start o2),qf,rfl,N,H⟩ ?_
  clear H N
  rintro m' ρ w193 ⟨zl,k,out_51,x_out_51,F_out_51,rfl,o3,o4,o5,rfl,N,H⟩
  have hn_out:=H.zi (α:=yLI) 0 rfl 0 rfl qj
  refine zg (zg ?_)
  refine yj rfl H fun H=>rtp 0 (yI k) H ?_
  refine rtp 1 (Bv (decide ((k:Int) > 0))) H ?_
  refine rtp 2 (Bv (decide ((k:Int) > 0))) H ?_
  cases h195:(decide ((k:Int) > 0))
  ·skip
   replace h195:=of_decide_eq_false h195
   refine zL [3,4,5,6,7,8,9,10,11,12] 10 (H) (rtp 13 (Bv false) H ?_)
   refine xg qh (t_n (xI false rfl (fun h=>absurd h qj) (fun _=>c_exit (t_x (t_x (b_x (b_n (t_n (zn (sp (yI i_1) (sw (zN i_1 1 rfl rfl qf (sp (yI (i_1+1)) (zo (xm (m' :=(zY - ((i_1+1):Int)).toNat) qf ⟨_,i_1+1,out_51,x_out_51,F_out_51,uE2,?_,?_,?_,rfl,N,H⟩)))))))))))))))
   · omega
   · assumption
   · exact o4.stop (perm_rows o3) qf qf (by first | exact .inl qf | exact .inr (by rw [show k.toNat - 1=(k - 1).toNat by omega];assumption))
  replace h195:=of_decide_eq_true h195
  refine rgp 3 (Sv jH zY vV) 110 H ?_
  refine rgp 4 (yI k) 110 H ?_
  obtain ⟨b196,rfl⟩:=H.Qc 0 rfl qf
  refine gI 5 rfl rfl rfl H ?_
  obtain ⟨a197,c198,G199,s200,h201,hx202,hy203,H⟩:=H.rowElemX 0 rfl 0 rfl (iv:=k) k.toNat qf qf
  have S:=H.jG [0] [1]
  refine gL 6 rfl rfl (fun _ h=>h.rowGet 0 rfl hx202) S ?_
  refine rgp 7 (Sv (aa b196 0) zY vV) 110 S ?_
  refine rgp 8 (yI k) 110 S ?_
  refine rg 9 (yI (k - 1)) 110 (y_sub k 1 rfl rfl qf) S ?_
  refine gI 10 rfl rfl rfl S ?_
  obtain ⟨a204,c205,G206,s207,h208,hx209,hy210,H⟩:=H.rowElemX 0 rfl 1 rfl (iv:=k - 1) ((k - 1).toNat) qf qf
  refine gL 11 rfl rfl (fun _ h=>h.rowGet 0 rfl hx209) (H.pick [0] [2]) ?_
  refine zH [12] qh qm (Xg rfl (e:=110) rfl rfl ?_ zI)
  have g5:=perm_rows o3
  have g6:=g5 k.toNat qf
  have g7:=g5 (k - 1).toNat qf
  refine oq (l03Before_ok _ (out_51[k.toNat]!) (out_51[(k - 1).toNat]!) (H.get 1 rfl).1 (H.get 0 rfl).1 qg) H fun w212 H=>⟨H.pick [0] [2],(rtp 13 (Bv (dec (ahead (out_51[k.toNat]!) (out_51[(k - 1).toNat]!)))) (H.pick [0] [2]) ?_)⟩
  refine xg qh (t_n (cP rfl (fun h214=>?_) (fun h214=>?_)))
  ·skip
   refine xe (t_n (zg (qZ (zcr (sps [Sv (aa b196 0) zY vV,yI k] (oI rfl rfl ?_))))))
   obtain ⟨a215,c216,G217,s218,h219,hx220,hy221,H⟩:=H.rowElemX 0 rfl 2 rfl (iv:=k) k.toNat qf qf
   refine oL rfl (H.rowGet 0 rfl hx220) (sp (Sv a215 ((out_51[k.toNat]!).length) c216) (zjc (sps [Sv (aa b196 0) zY vV,yI k,Sv (aa b196 0) zY vV,yI k] (sw (o_sub k 1 rfl rfl qf (oI rfl rfl ?_))))))
   obtain ⟨a222,c223,G224,s225,h226,hx227,hy228,H⟩:=H.rowElemX 0 rfl 3 rfl (iv:=k - 1) ((k - 1).toNat) qf qf
   refine oL rfl (H.rowGet 0 rfl hx227) (oI rfl rfl (sw (o_storeRow1 H 0 rfl (Sv a222 ((out_51[(k - 1).toNat]!).length) c223) sizeOf24 rfl rfl rfl qf fun w229 H=>zjn (zn (sps [Sv (aa b196 0) zY vV,yI k] (sw (o_sub k 1 rfl rfl qf (sp (Sv a215 ((out_51[k.toNat]!).length) c216) (oI rfl rfl (sw (o_storeRow1 H 0 rfl (Sv a215 ((out_51[k.toNat]!).length) c216) sizeOf24 rfl rfl rfl qf fun w230 H=>?_)))))))))))
   obtain ⟨F231,hF232,H⟩:=H.swapR 4 rfl (k:=(k:Int).toNat) (i:=(k - 1:Int).toNat) qf qf qf hy228 hy221
   replace N:Fresh w.heap.size [F231]:=Fresh.perm N hF232
   refine zo (b_n (t_n (zn (sp (yI k) (sw (o_sub k 1 rfl rfl qf (sp (yI (k - 1)) (zo (xm (m' :=(((k - 1):Int)).toNat) qf ⟨_,k - 1,(swapAt out_51 k.toNat),((x_out_51.set (k:Int).toNat (Sv a222 ((out_51[(k - 1).toNat]!).length) c223)).set (k - 1:Int).toNat (Sv a215 ((out_51[k.toNat]!).length) c216)),F231,uE3,?_,?_,?_,rfl,N,H.pick [0] [0]⟩)))))))))
   · exact perm_swap o3 qf qf
   · rw [show (k - 1).toNat=k.toNat - 1 by omega];exact o4.down (perm_rows o3) qf qf qf (by rw [show k.toNat - 1=(k - 1).toNat by omega];assumption)
   · omega
  refine c_exit (t_x (t_x (b_x (b_n (t_n (zn (sp (yI i_1) (sw (zN i_1 1 rfl rfl qf (sp (yI (i_1+1)) (zo (xm (m' :=(zY - ((i_1+1):Int)).toNat) qf ⟨_,i_1+1,out_51,x_out_51,F_out_51,uE2,?_,?_,?_,rfl,N,H.pick [0] [2]⟩))))))))))))
  · omega
  · assumption
  · exact o4.stop (perm_rows o3) qf qf (by first | exact .inl qf | exact .inr (by rw [show k.toNat - 1=(k - 1).toNat by omega];assumption))
 refine zx4 (zcr (sps [Sv jH zY vV,Sv jH zY vV,yI 0] (zjr (ret2 (Sv jH zY vV) (yI 0) rfl rfl rfl ⟨_,rfl,?_,H.base⟩))))
 rw [cho_0 gp kc o1 (in_order qf o2)]
 exact ⟨jH,zY,vV,XY,Xv,rfl,N,H.pick [0] [0]⟩
theorem isBag_ok (w:World) (l:yLI) {al:yOA} {Fl:yLN} (hl:qU.rep w Fl [Sv al l.length cl] l):Calls Tryz.prog 157 #[Sv al l.length cl] w (Ret (fun v w' =>v=Bv (dec (Ql l))) w):=by
 refine en func157 ntmps157 ?_
 have H:=(St.start w).arg hl
 have nhl:=qQ hl
 clear hl
 have N:=Fresh.nil w.heap.size
 refine zcr (sp (Bv false) (zjc (sp (Sv al l.length cl) (sw (oq (sizeI_ok _ l (H.get 0 rfl).1) H fun w1 H=>sp (Sv al l.length cl) (sw (oq (Xp _ (l.length:Int) l (H.get 0 rfl).1) H fun w3 H=>sp (Bv (dec (zZ (l.length:Int) l))) (zjr (ret1 (Bv (dec (zZ (l.length:Int) l))) rfl rfl ⟨_,rfl,?_,H.base⟩)))))))))
 rw [dec_congr bagAny_okH]

theorem isFull_ok (w:World) (rest:yLI) (parts:yLL) {arest:yOA} {crest:Nat} {Frest:yLN} {xZ:yOA} {xQ:Nat} {Fparts:yLN} (hrest:qU.rep w Frest [Sv arest rest.length crest] rest) (hparts:qU.rep w Fparts [Sv xZ parts.length xQ] parts) (p0:XU parts rest):Calls Tryz.prog 212 #[Sv arest rest.length crest,Sv xZ parts.length xQ] w (Ret (fun v w' =>v=Bv (dec (FullOk parts rest))) w):=by
 refine en func212 ntmps212 ?_
 have H:=((St.start w).arg hparts).arg hrest
 have nhrest:=qQ hrest
 have nhparts:=qQ hparts
 clear hrest hparts
 have N:=Fresh.nil w.heap.size
 refine zcr (sw (vF H [Sv arest rest.length crest] fun b1 w2 H=>sp (Bv false) (zjc (sps [Sv xZ parts.length xQ,.func (.func 232) #[] #[pp b1 0]] (sw (vC #[Sv xZ parts.length xQ,.func (.func 232) #[] #[pp b1 0]] rfl rfl call140 (en func140 ntmps140 ?_)))))))
 refine zcr (sp (Bv false) (zjc (sps [Sv xZ parts.length xQ,.func (.func 232) #[] #[pp b1 0]] (sw (vC #[Sv xZ parts.length xQ,.func (.func 232) #[] #[pp b1 0]] rfl rfl call186 (en func186 ntmps186 ?_))))))
 refine zcr (sp (yI 0) (zjcc (sp (Sv xZ parts.length xQ) (oN rfl (sp (yI 0) (zjn (qZ ?_)))))))
 refine zU (fun m' ρ w3=>∃ (zl:Env) (i:Nat),ρ=upd (upd (upd (upd zl 0 (Sv xZ parts.length xQ)) 1 (.func (.func 232) #[] #[pp b1 0])) 7 (yI parts.length)) 8 (yI i)∧((i:Int)≤parts.length)∧(FullTo parts rest i)∧m' =(parts.length - (i:Int)).toNat∧Fresh w.heap.size []∧St w w3 [.box b1 [Sv arest rest.length crest] 24] [sF false Frest arest crest rest,sF false Fparts xZ xQ parts]) ((parts.length - (0:Int)).toNat) ⟨_,0,uE4,qf,(by first | trivial | exact fun j hj=>by omega),rfl,N,H⟩ ?_
 clear H N
 rintro m' ρ w4 ⟨zl,i,rfl,i0,i1,rfl,N,H⟩
 refine zcr (sp (Bv (decide ((i:Int) < parts.length))) (zjn (zg (cD rfl (fun h5=>?_) (fun h5=>?_)))))
 ·skip
  obtain ⟨t1,t2,t3,t4,t5⟩:=p0.times (k:=i) qf
  refine xe (t_n (zg (qZ (zcr (sps [yI i,yI i] (zjc (sps [.func (.func 232) #[] #[pp b1 0],Sv xZ parts.length xQ,yI i] ?_)))))))
  obtain ⟨b6,o7,rfl⟩:=H.addr 1 rfl qf
  obtain ⟨ae9,ce9,Fe9,H⟩:=H.jS 1 rfl i i qf qf qf
  refine oI rfl rfl (oL rfl (H.zu 1 rfl 0 rfl) (sw (vC #[Sv ae9 ((parts[i]!).length) ce9,pp b1 0] rfl rfl call232 (en func232 ntmps232 ?_))))
  refine zcr (sp (Bv false) (zjc (sp (Sv ae9 ((parts[i]!).length) ce9) (oL rfl (H.cell 0 rfl rfl) (sw (oq (isWithin_ok _ (parts[i]!) rest (H.get 0 rfl).1 (H.get 2 rfl).1 qg qg) H fun w10 H=>sp (Bv (within (parts[i]!) rest)) (zjr (ret1 (Bv (within (parts[i]!) rest)) rfl rfl ⟨_,rfl,(zjn (xI (within (parts[i]!) rest) rfl (fun h12=>?_) (fun h12=>?_)))⟩))))))))
  ·skip
   refine zcr (sps [yI i,yI i] (zjr (zr5 (ret1 (yI i) rfl rfl ⟨_,rfl,(sw (o_pure (Bv true) (by show some (Value.bool (decide ((i:Int)≥0)))=some (Value.bool true);rw [decide_eq_true qf]) (sp (Bv true) (zjr (ret1 (Bv true) rfl rfl ⟨_,rfl,(sps [Bv false,Bv false] (zjr (ret1 (Bv false) rfl rfl ⟨_,rfl,?_,H.base⟩)))⟩)))))⟩))))
   rw [xk (fun h=>by have:=h i qf;simp_all)]
  refine xe (b_n (t_n (zn (sw (zN i 1 rfl rfl qf (sp (yI (i+1)) (zo (xm (m' :=(parts.length - ((i+1):Int)).toNat) qf ⟨_,i+1,uE4,?_,?_,rfl,N,H.pick [0] [2,3]⟩))))))))
  · omega
  · first | trivial | exact i1.succ ‹_›
 refine zx4 (zcr (sp (yI (-1)) (zjr (ret1 (yI (-1)) rfl rfl ⟨_,rfl,(sps [Bv false,Bv false] (zjr (ret1 (Bv false) rfl rfl ⟨_,rfl,(sps [Bv true,Bv true] (zjr (ret1 (Bv true) rfl rfl ⟨_,rfl,?_,H.base⟩)))⟩)))⟩))))
 rw [yl (show FullOk parts rest from fun j hj=>i1 j qf)]

theorem bagAndParts_ok (w:World) (b:yLI) (parts:yLL) {ab:yOA} {Fb:yLN} {xZ:yOA} {xQ:Nat} {Fparts:yLN} (hb:qU.rep w Fb [Sv ab b.length cb] b) (hparts:qU.rep w Fparts [Sv xZ parts.length xQ] parts) (p0:XU parts b) (p1:1≤parts.length):Calls Tryz.prog 228 #[Sv ab b.length cb,Sv xZ parts.length xQ] w (Ret (fun v w' =>v=yI 0) w):=by
 refine en func228 ntmps228 ?_
 have H:=((St.start w).arg hparts).arg hb
 have nhb:=qQ hb
 have nhparts:=qQ hparts
 clear hb hparts
 have N:=Fresh.nil w.heap.size
 obtain ⟨pb,pl,pk⟩:=p0.bags p1
 refine zcr (sp (yI 0) (zjcc (sp (Sv ab b.length cb) (sw (oq (isBag_ok _ b (H.get 0 rfl).1) H fun w2 H=>sp (Bv (!(dec (Ql b)))) (zjn (cQ rfl (fun h4=>?_) (fun h4=>?_))))))))
 ·skip
  refine zcr (sp (yI 1) (zjr (t_r (ret1 (yI 1) rfl rfl ⟨_,rfl,?_,H.base⟩))))
  exfalso;first | omega | exact ‹¬ Ql _› pb
 refine xe (t_n (zcr (sp (Sv ab b.length cb) (oN rfl (sps [Sv xZ parts.length xQ,Sv xZ parts.length xQ] (oN rfl (sw (zf H underlying24 ti2 parts.length rfl rfl qf qf qf fun b5 w6 H=>sw (vC #[yI b.length,Sv xZ parts.length xQ,Sv (aa b5 0) parts.length parts.length] rfl rfl call237 (en func237 ntmps237 ?_))))))))))
 refine zcr (sp (yI 0) (zjcc (sp (Sv xZ parts.length xQ) (sw (vC #[Sv xZ parts.length xQ,.func (.func 239) #[] #[]] rfl rfl call140 (en func140 ntmps140 ?_))))))
 refine zcr (sp (Bv false) (zjc (sps [Sv xZ parts.length xQ,.func (.func 239) #[] #[]] (sw (vC #[Sv xZ parts.length xQ,.func (.func 239) #[] #[]] rfl rfl call186 (en func186 ntmps186 ?_))))))
 refine zcr (sp (yI 0) (zjcc (sp (Sv xZ parts.length xQ) (oN rfl (sp (yI 0) (zjn (qZ ?_)))))))
 refine zU (fun m' ρ w7=>∃ (zl:Env) (i:Nat),ρ=upd (upd (upd (upd zl 0 (Sv xZ parts.length xQ)) 1 (.func (.func 239) #[] #[])) 7 (yI parts.length)) 8 (yI i)∧((i:Int)≤parts.length)∧(True)∧m' =(parts.length - (i:Int)).toNat∧Fresh w.heap.size []∧St w w7 [rr (aa b5 0) parts.length parts.length 2 1 ((List.replicate parts.length (0:Int)).map (Value.int .i64))] [sF false Fb ab cb b,sF false Fparts xZ xQ parts]) ((parts.length - (0:Int)).toNat) ⟨_,0,uE4,qf,(by first | trivial | exact fun j hj=>by omega),rfl,N,H⟩ ?_
 clear H N
 rintro m' ρ w8 ⟨zl,i,rfl,i0,i1,rfl,N,H⟩
 refine zcr (sp (Bv (decide ((i:Int) < parts.length))) (zjn (zg (cD rfl (fun h9=>?_) (fun h9=>?_)))))
 ·skip
  refine xe (t_n (zg (qZ (zcr (sps [yI i,yI i] (zjc (sps [.func (.func 239) #[] #[],Sv xZ parts.length xQ,yI i] ?_)))))))
  obtain ⟨b10,o11,rfl⟩:=H.addr 1 rfl qf
  obtain ⟨ae13,ce13,Fe13,H⟩:=H.jS 1 rfl i i qf qf qf
  refine oI rfl rfl (oL rfl (H.zu 1 rfl 0 rfl) (sw (vC #[Sv ae13 ((parts[i]!).length) ce13] rfl rfl call239 (en func239 ntmps239 ?_))))
  refine zcr (sp (Bv false) (zjc (sp (Sv ae13 ((parts[i]!).length) ce13) (sw (oq (isBag_ok _ (parts[i]!) (H.get 0 rfl).1) H fun w15 H=>sps [Bv (!(dec (Ql (parts[i]!)))),Bv (!(dec (Ql (parts[i]!))))] (zjr (ret1 (Bv (!(dec (Ql (parts[i]!))))) rfl rfl ⟨_,rfl,(zjn (cQ rfl (fun h17=>?_) (fun h17=>?_)))⟩)))))))
  ·skip
   exact absurd (pk i qf).1 h17
  refine xe (b_n (t_n (zn (sw (zN i 1 rfl rfl qf (sp (yI (i+1)) (zo (xm (m' :=(parts.length - ((i+1):Int)).toNat) qf ⟨_,i+1,uE4,?_,?_,rfl,N,H.pick [0] [2,3]⟩))))))))
  · omega
  · first | trivial | exact i1.succ ‹_›
 refine zx4 (zcr (sp (yI (-1)) (zjr (ret1 (yI (-1)) rfl rfl ⟨_,rfl,(sps [Bv false,Bv false] (zjr (ret1 (Bv false) rfl rfl ⟨_,rfl,(zjn (xI false rfl (fun h=>absurd h qj) (fun _=>xe (t_n (zcc (sp (Sv xZ parts.length xQ) (oN rfl (sps [Bv (decide ((parts.length:Int) > 8)),Bv (decide ((parts.length:Int) > 8))] ?_))))))))⟩)))⟩))))
 cases h18:(decide ((parts.length:Int) > 8))
 ·skip
  replace h18:=of_decide_eq_false h18
  refine qL 14 rfl rfl (sp (Sv (aa b5 0) parts.length parts.length) (qL 14 rfl rfl (oN rfl (qL 14 rfl rfl (sp (Sv xZ parts.length xQ) (qL 14 rfl rfl (oN rfl (qL 14 rfl rfl (sps [Bv ((parts.length:Int) != parts.length),Bv ((parts.length:Int) != parts.length)] (zjn (xI ((parts.length:Int) != parts.length) rfl (fun h=>absurd rfl (bne_iff_ne.1 h)) (fun h19=>?_))))))))))))
  replace h19:=zh h19
  refine xe (t_n (zcc (sp (Sv xZ parts.length xQ) (oN rfl (sp (yI 0) (zjn (qZ ?_)))))))
  refine zU (fun m' ρ w20=>∃ (zl:Env) (i_1:Nat),ρ=upd (upd (upd (upd (upd zl 0 (yI b.length)) 2 (Sv (aa b5 0) parts.length parts.length)) 21 (Sv xZ parts.length xQ)) 22 (yI parts.length)) 23 (yI i_1)∧((i_1:Int)≤parts.length)∧m' =(parts.length - (i_1:Int)).toNat∧Fresh w.heap.size []∧St w w20 [rr (aa b5 0) parts.length parts.length 2 1 ((List.replicate parts.length (0:Int)).map (Value.int .i64))] [sF false Fb ab cb b,sF false Fparts xZ xQ parts]) ((parts.length - (0:Int)).toNat) ⟨_,0,uE5,qf,rfl,N,H⟩ ?_
  clear H N
  rintro m' ρ w21 ⟨zl,i_1,rfl,i0,rfl,N,H⟩
  refine zcr (sp (Bv (decide ((i_1:Int) < parts.length))) (zjn (zg (cD rfl (fun h22=>?_) (fun h22=>?_)))))
  ·skip
   obtain ⟨r1,r2,r3⟩:=pk i_1 qf
   have r4:=yF r1
   have r5:(List.replicate parts.length (0:Int))[i_1]! =0:=by rw [getElem!_pos _ i_1 (by simp;omega)];simp
   refine xe (t_n (zg (qZ (zcr (sp (yI i_1) ?_)))))
   obtain ⟨b23,o24,rfl⟩:=H.addr 1 rfl qf
   obtain ⟨ae26,ce26,Fe26,H⟩:=H.jS 1 rfl i_1 i_1 qf qf qf
   refine oI rfl rfl (oL rfl (H.zu 1 rfl 0 rfl) (sps [yI i_1,Sv ae26 ((parts[i_1]!).length) ce26] (zjc (sp (Sv ae26 ((parts[i_1]!).length) ce26) (oN rfl (sps [yI b.length,Bv (((parts[i_1]!).length:Int) != b.length),Bv (((parts[i_1]!).length:Int) != b.length)] ?_))))))
   cases h27:(((parts[i_1]!).length:Int) != b.length)
   ·skip
    replace h27:=zh h27
    refine qL 32 rfl rfl (sp (Sv ae26 ((parts[i_1]!).length) ce26) (qL 32 rfl rfl (sw (oq (XH _ (parts[i_1]!) (H.get 0 rfl).1 (by first | assumption | exact vG ql | exact yF ql)) H fun w28 H=>qL 32 rfl rfl (sps [Bv ((QJ (parts[i_1]!):Int) == 0),Bv ((QJ (parts[i_1]!):Int) == 0),Bv ((QJ (parts[i_1]!):Int) == 0)] ?_)))))
    cases h30:((QJ (parts[i_1]!):Int) == 0)
    ·skip
     replace h30:=ne_of_beq_false h30
     refine qL 37 rfl rfl (sp (Sv (aa b5 0) parts.length parts.length) (qL 37 rfl rfl (sp (yI i_1) (qL 37 rfl rfl (oI rfl rfl (qL 37 rfl rfl (oL rfl (H.rowInt 0 rfl (iv:=i_1) (i:=i_1) qf qf) (qL 37 rfl rfl (sw (oq (Xj w28 ((List.replicate parts.length (0:Int))[i_1]!) 0 1000) H fun w31 H=>qL 37 rfl rfl (sps [Bv (!(inR ((List.replicate parts.length (0:Int))[i_1]!) 0 1000)),Bv (!(inR ((List.replicate parts.length (0:Int))[i_1]!) 0 1000))] (zjn (xI (!(inR ((List.replicate parts.length (0:Int))[i_1]!) 0 1000)) rfl (fun h33=>?_) (fun h33=>?_))))))))))))))
     ·skip
      replace h33:=xC h33
      replace h33:=Xn h33
      refine zcr (sp (yI 2) (zjr (zr5 (ret1 (yI 2) rfl rfl ⟨_,rfl,(sp (yI 2) (zjr (ret1 (yI 2) rfl rfl ⟨_,rfl,?_,H.base⟩)))⟩))))
      exfalso;first | omega | exact ‹¬ Ql _› pb
     replace h33:=xw h33
     replace h33:=QL.1 h33
     refine xe (b_n (t_n (zn (sw (zN i_1 1 rfl rfl qf (sp (yI (i_1+1)) (zo (xm (m' :=(parts.length - ((i_1+1):Int)).toNat) qf ⟨_,i_1+1,uE5,?_,rfl,N,H.pick [0] [2,3]⟩))))))))
     · omega
    replace h30:=eq_of_beq h30
    refine xU [38,39,40,41,42,43] (sp (Bv true) (zjn (xI true rfl (fun _=>zcr (sp (yI 2) (zjr (zr5 (ret1 (yI 2) rfl rfl ⟨_,rfl,(sp (yI 2) (zjr (ret1 (yI 2) rfl rfl ⟨_,rfl,?_,H.base⟩)))⟩))))) (fun h=>absurd h qj))))
    exfalso;first | omega | exact ‹¬ Ql _› pb
   replace h27:=bne_iff_ne.1 h27
   refine xU [33,34,35] (sps [Bv true,Bv true] (xU [38,39,40,41,42,43] (sp (Bv true) (zjn (xI true rfl (fun _=>zcr (sp (yI 2) (zjr (zr5 (ret1 (yI 2) rfl rfl ⟨_,rfl,(sp (yI 2) (zjr (ret1 (yI 2) rfl rfl ⟨_,rfl,?_,H.base⟩)))⟩))))) (fun h=>absurd h qj))))))
   exfalso;first | omega | exact ‹¬ Ql _› pb
  refine zx4 (zcr (sp (yI 0) (zjr (ret1 (yI 0) rfl rfl ⟨_,rfl,(sp (yI 0) (zjr (ret1 (yI 0) rfl rfl ⟨_,rfl,?_,H.base⟩)))⟩))))
  rfl
 replace h18:=of_decide_eq_true h18
 refine xU [15,16,17,18,19] (sp (Bv true) (zjn (xI true rfl (fun _=>zcr (sp (yI 2) (zjr (t_r (ret1 (yI 2) rfl rfl ⟨_,rfl,(sp (yI 2) (zjr (ret1 (yI 2) rfl rfl ⟨_,rfl,?_,H.base⟩)))⟩))))) (fun h=>absurd h qj))))
 exfalso;first | omega | exact ‹¬ Ql _› pb

def packFrom_ok_S (f:Nat):Prop:=∀ {W0 w:World} {ps:List Prv} {Γ:List Fact} {Ns:List yLN} (i:Nat) (rest:yLI) (parts:yLL) (out:yLL) (cs:yLI) (arest:yOA) (crest:Nat) (Frest:yLN) (xZ:yOA) (xQ:Nat) (Fparts:yLN) (bp:Nat) (bi:Nat) (bq:Nat) (bo:Nat) (bl:Nat) (bc:Nat) (bf:Nat) (raout:yOA) (rnout:Nat) (rcout:Nat) (rxout:List Value) (rFout:yLN) (racs:yOA) (rncs:Nat) (rccs:Nat) (H:St W0 w ((.box bp [Sv xZ parts.length xQ] 29) :: (.box bi [.func (.func 211) #[] #[pp bq 0]] 162) :: (.box bq [Sv xZ parts.length xQ] 29) :: (.box bo [pp bl 0] 234) :: (.box bl [Sv raout rnout rcout] 236) :: (.box bc [Sv racs rncs rccs] 24) :: (.box bf [.func (.func 229) #[] #[pp bp 0,pp bi 0,pp bo 0,pp bc 0,pp bf 0]] 237) :: (rr raout rnout rcout 24 1 rxout) :: (rr racs rncs rccs 2 1 (cs.map (Value.int .i64))) :: ps) ((sF false Frest arest crest rest) :: (sF false Fparts xZ xQ parts) :: (qX true rFout rxout out) :: Γ)) (N:Fresh W0.heap.size (rFout :: Ns)) (K0:Kept Ns Γ) (p0:i+f=parts.length) (p1:XU parts rest) (p2:out.length≤2000) (p3:cs.length=parts.length),Calls Tryz.prog 229 #[yI i,Sv arest rest.length crest,pp bp 0,pp bi 0,pp bo 0,pp bc 0,pp bf 0] w (fun e w' =>∃ v,e=.returned v∧∃ (cs_:yLI) (raout_:yOA) (rnout_:Nat) (rcout_:Nat) (rxout_:List Value) (rFout_:yLN),(cs_.length=cs.length)∧(cs_.take i=cs.take i)∧v=Bv (dec ((gath out (begins (cs.take i) (packs parts (parts.length - i) i rest))).length≤2000))∧Fresh W0.heap.size (rFout_ :: Ns)∧St W0 w' ((.box bp [Sv xZ parts.length xQ] 29) :: (.box bi [.func (.func 211) #[] #[pp bq 0]] 162) :: (.box bq [Sv xZ parts.length xQ] 29) :: (.box bo [pp bl 0] 234) :: (.box bl [Sv raout_ rnout_ rcout_] 236) :: (.box bc [Sv racs rncs rccs] 24) :: (.box bf [.func (.func 229) #[] #[pp bp 0,pp bi 0,pp bo 0,pp bc 0,pp bf 0]] 237) :: (rr raout_ rnout_ rcout_ 24 1 rxout_) :: (rr racs rncs rccs 2 1 (cs_.map (Value.int .i64))) :: ps) ((sF false Frest arest crest rest) :: (sF false Fparts xZ xQ parts) :: (qX true rFout_ rxout_ (gath out (begins (cs.take i) (packs parts (parts.length - i) i rest)))) :: Γ))
theorem packFrom_ok_step (f:Nat) (IH:∀ k,k < f→packFrom_ok_S k) {W0 w:World} {ps:List Prv} {Γ:List Fact} {Ns:List yLN} (i:Nat) (rest:yLI) (parts:yLL) (out:yLL) (cs:yLI) (arest:yOA) (crest:Nat) (Frest:yLN) (xZ:yOA) (xQ:Nat) (Fparts:yLN) (bp:Nat) (bi:Nat) (bq:Nat) (bo:Nat) (bl:Nat) (bc:Nat) (bf:Nat) (raout:yOA) (rnout:Nat) (rcout:Nat) (rxout:List Value) (rFout:yLN) (racs:yOA) (rncs:Nat) (rccs:Nat) (H:St W0 w ((.box bp [Sv xZ parts.length xQ] 29) :: (.box bi [.func (.func 211) #[] #[pp bq 0]] 162) :: (.box bq [Sv xZ parts.length xQ] 29) :: (.box bo [pp bl 0] 234) :: (.box bl [Sv raout rnout rcout] 236) :: (.box bc [Sv racs rncs rccs] 24) :: (.box bf [.func (.func 229) #[] #[pp bp 0,pp bi 0,pp bo 0,pp bc 0,pp bf 0]] 237) :: (rr raout rnout rcout 24 1 rxout) :: (rr racs rncs rccs 2 1 (cs.map (Value.int .i64))) :: ps) ((sF false Frest arest crest rest) :: (sF false Fparts xZ xQ parts) :: (qX true rFout rxout out) :: Γ)) (N:Fresh W0.heap.size (rFout :: Ns)) (K0:Kept Ns Γ) (p0:i+f=parts.length) (p1:XU parts rest) (p2:out.length≤2000) (p3:cs.length=parts.length):Calls Tryz.prog 229 #[yI i,Sv arest rest.length crest,pp bp 0,pp bi 0,pp bo 0,pp bc 0,pp bf 0] w (fun e w' =>∃ v,e=.returned v∧∃ (cs_:yLI) (raout_:yOA) (rnout_:Nat) (rcout_:Nat) (rxout_:List Value) (rFout_:yLN),(cs_.length=cs.length)∧(cs_.take i=cs.take i)∧v=Bv (dec ((gath out (begins (cs.take i) (packs parts (parts.length - i) i rest))).length≤2000))∧Fresh W0.heap.size (rFout_ :: Ns)∧St W0 w' ((.box bp [Sv xZ parts.length xQ] 29) :: (.box bi [.func (.func 211) #[] #[pp bq 0]] 162) :: (.box bq [Sv xZ parts.length xQ] 29) :: (.box bo [pp bl 0] 234) :: (.box bl [Sv raout_ rnout_ rcout_] 236) :: (.box bc [Sv racs rncs rccs] 24) :: (.box bf [.func (.func 229) #[] #[pp bp 0,pp bi 0,pp bo 0,pp bc 0,pp bf 0]] 237) :: (rr raout_ rnout_ rcout_ 24 1 rxout_) :: (rr racs rncs rccs 2 1 (cs_.map (Value.int .i64))) :: ps) ((sF false Frest arest crest rest) :: (sF false Fparts xZ xQ parts) :: (qX true rFout_ rxout_ (gath out (begins (cs.take i) (packs parts (parts.length - i) i rest)))) :: Γ)):=by
 refine en func229 ntmps229 ?_
 have nrest:=qQ (H.get 0 rfl).1
 have nparts:=qQ (H.get 1 rfl).1
 obtain rfl:=H.zi (α:=yLI) 7 rfl 2 rfl qj
 obtain rfl:=H.vM 8 rfl
 have p4:=p1.small
 refine zcr (sp (Bv false) (zjcc (sp (yI i) (oL rfl (H.cell 0 rfl rfl) (oN rfl (sp (Bv ((i:Int) == parts.length)) (zjn (cE rfl (fun h1=>?_) (fun h1=>?_)))))))))
 ·skip
  refine zcr (oL rfl (H.cell 1 rfl rfl) (sp (Sv arest rest.length crest) (sw (vC #[Sv arest rest.length crest,pp bq 0] rfl rfl call211 (en func211 ntmps211 ?_)))))
  refine zcr (sp (Bv false) (zjc (sp (Sv arest rest.length crest) (oL rfl (H.cell 2 rfl rfl) (sw (oq (isFull_ok _ rest parts (H.get 0 rfl).1 (H.get 1 rfl).1 qg) H fun w3 H=>sp (Bv (dec (FullOk parts rest))) (zjr (ret1 (Bv (dec (FullOk parts rest))) rfl rfl ⟨_,rfl,(sps [Bv (!(dec (FullOk parts rest))),Bv (!(dec (FullOk parts rest)))] ?_)⟩))))))))
  cases h5:(!(dec (FullOk parts rest)))
  ·skip
   replace h5:=xw h5
   replace h5:=yB h5
   refine qL 19 rfl rfl (oL rfl (H.cell 3 rfl rfl) (qL 19 rfl rfl (oL rfl (H.cell 5 rfl rfl) (qL 19 rfl rfl (sw (vC #[pp bl 0,Sv racs cs.length rccs] rfl rfl call230 (en func230 ntmps230 ?_)))))))
   refine zcr (sp (Bv false) (zjcc (sps [pp bl 0,pp bl 0] (oF rfl (oL rfl (H.cell 4 rfl rfl) (oN rfl (sp (Bv (decide ((out.length:Int) > 2000))) (zjn (cD rfl (fun h6=>?_) (fun h6=>?_))))))))))
   ·skip
    refine zcr (sp (Bv false) (zjr (t_r (ret1 (Bv false) rfl rfl ⟨_,rfl,(sps [Bv false,Bv false] (zjr (t_r (ret1 (Bv false) rfl rfl ⟨_,rfl,?_⟩))))⟩))))
    exfalso;omega
   refine xe (t_n (zg ?_))
   refine c_cut (fun ρ w12=>∃ (zl:Env) (a7:yOA) (c8:Nat) (a9:yOA) (c10:Nat) (G11:yLN),ρ=upd zl 0 (pp bl 0)∧Fresh W0.heap.size ((rFout++G11) :: Ns)∧St W0 w12 ((.box bp [Sv xZ parts.length xQ] 29) :: (.box bi [.func (.func 211) #[] #[pp bq 0]] 162) :: (.box bq [Sv xZ parts.length xQ] 29) :: (.box bo [pp bl 0] 234) :: (.box bl [Sv a7 (out.length+1) c8] 236) :: (.box bc [Sv racs cs.length rccs] 24) :: (.box bf [.func (.func 229) #[] #[pp bp 0,pp bi 0,pp bo 0,pp bc 0,pp bf 0]] 237) :: (rr a7 (out.length+1) c8 24 1 (rxout++[Sv a9 cs.length c10])) :: (rr racs cs.length rccs 2 1 (cs.map (Value.int .i64))) :: ps) ((qX true (rFout++G11) (rxout++[Sv a9 cs.length c10]) (out++[cs])) :: (sF true G11 a9 c10 cs) :: (sF false Frest arest crest rest) :: (sF false Fparts xZ xQ parts) :: Γ)) ?_ ?_
   ·skip
    refine XG rfl H [0,1,2,3,5,6,8] [0,1,2] fun H=>?_
    have S:=H.jG [0,1,2,3,5,6,8] [0,1,2]
    refine rtp 0 (pp bl 0) S ?_
    refine rtp 1 (pp bl 0) S ?_
    refine rtp 2 (pp bl 0) S ?_
    refine tF 3 rfl rfl S ?_
    refine rtp 5 (Sv racs cs.length rccs) S ?_
    refine zH [4,6] qh qm (vg rfl ?_ (vg rfl ?_ zI))
    ·skip
     refine zt (Sv raout out.length rcout) isAgg29 rfl (H.cell 4 rfl rfl) (⟨H.pick [0,1,2,3,5,6,8] [0,1,2],(ro 6 rfl ?_)⟩)
     obtain ⟨G14,hn15,h16⟩:=H.rowIsI 8 rfl
     have sz17:=H.base.size
     have lt18:=all_two (H.ltN (L:=[rFout]) [2]) (H.ltK (K0.behind 3 rfl))
     refine oc (cloneI_ok _ cs h16 qg) ?_
     rintro v22 w20 r22 x21
     replace H:=H.zW x21 r22
     obtain ⟨a23,c24,rfl,hc25,hm26⟩:=H.jY 0 rfl
     refine ⟨H.pick [1,2,3,4,6,7,9] [0,1,2],(ro 7 rfl (zJ H underlying29 ti24 [Sv a23 cs.length c24] fun b27 w28 H=>⟨H.pick [2,3,4,5,7,8,10] [0,1,2],(ro 8 rfl ?_)⟩))⟩
     obtain ⟨G32,N,hn33,H⟩:=H.vz 1 rfl N (fun F hF b hb=>(List.mem_append.1 (show F∈[rFout]++Ns from hF)).elim (fun h=>(H.jJ (L:=[rFout]) [2]) F h b hb) fun h=>H.XI (K0.behind 3 rfl) F h b hb)
     try dsimp only [List.set] at H
     refine zM H 9 rfl 0 rfl underlying29 ti24 rfl qj rfl rfl rfl (by simp [Value.oneCell',Value.cells]) qp qf fun a29 c30 w31 H=>?_
     try dsimp only [List.set] at H
     replace H:=H.y5 3 rfl 0 rfl
     replace N:Fresh W0.heap.size ((rFout++G32) :: Ns):=(N.xH 2 [1,0] qo).join
     refine ⟨H.pick [2,3,4,5,7,8,10] [2,3,4],?_⟩
     have S:=H.jG [2,3,4,5,7,8,10] [2,3,4]
     refine rtp 9 (pp bl 0) S ?_
     refine tF 10 rfl rfl S ?_
     refine ro 11 rfl (xX H 6 [Sv a29 (out.length+1) c30] sizeOf29 fun w34 H=>?_)
     try dsimp only [List.set] at H
     refine ⟨H.pick [2,3,4,5,7,8,10] [2,3,4],(xg qh ((meet ⟨_,a29,c30,a23,c24,G32,uE1,N,H.xH 11 5 [2,3,4,5,6,7,8,9,10] [0,1,2,3] qo qo⟩)))⟩
    obtain ⟨G35,hn36,h37⟩:=H.rowIsI 8 rfl
    have sz38:=H.base.size
    have lt39:=all_two (H.ltN (L:=[rFout]) [2]) (H.ltK (K0.behind 3 rfl))
    refine oc (cloneI_ok _ cs h37 qg) ?_
    rintro v43 w41 r43 x42
    replace H:=H.zW x42 r43
    obtain ⟨a44,c45,rfl,hc46,hm47⟩:=H.jY 0 rfl
    refine ⟨H.pick [1,2,3,4,6,7,9] [0,1,2],(zH [4,7] qh qm (vg rfl ?_ (vg rfl ?_ zI)))⟩
    ·skip
     refine zt (Sv raout out.length rcout) isAgg29 rfl (H.cell 5 rfl rfl) (⟨H.pick [1,2,3,4,6,7,9] [0,1,2],(ro 7 rfl (zJ H underlying29 ti24 [Sv a44 cs.length c45] fun b48 w49 H=>⟨H.pick [2,3,4,5,7,8,10] [0,1,2],(ro 8 rfl ?_)⟩))⟩)
     obtain ⟨G53,N,hn54,H⟩:=H.vz 1 rfl N (fun F hF b hb=>(List.mem_append.1 (show F∈[rFout]++Ns from hF)).elim (fun h=>(H.jJ (L:=[rFout]) [2]) F h b hb) fun h=>H.XI (K0.behind 3 rfl) F h b hb)
     try dsimp only [List.set] at H
     refine zM H 9 rfl 0 rfl underlying29 ti24 rfl qj rfl rfl rfl (by simp [Value.oneCell',Value.cells]) qp qf fun a50 c51 w52 H=>?_
     try dsimp only [List.set] at H
     replace H:=H.y5 3 rfl 0 rfl
     replace N:Fresh W0.heap.size ((rFout++G53) :: Ns):=(N.xH 2 [1,0] qo).join
     refine ⟨H.pick [2,3,4,5,7,8,10] [2,3,4],?_⟩
     have S:=H.jG [2,3,4,5,7,8,10] [2,3,4]
     refine rtp 9 (pp bl 0) S ?_
     refine tF 10 rfl rfl S ?_
     refine ro 11 rfl (xX H 6 [Sv a50 (out.length+1) c51] sizeOf29 fun w55 H=>?_)
     try dsimp only [List.set] at H
     refine ⟨H.pick [2,3,4,5,7,8,10] [2,3,4],(xg qh ((meet ⟨_,a50,c51,a44,c45,G53,uE1,N,H.xH 11 5 [2,3,4,5,6,7,8,9,10] [0,1,2,3] qo qo⟩)))⟩
    refine zJ H underlying29 ti24 [Sv a44 cs.length c45] fun b56 w57 H=>⟨H.pick [2,3,4,5,7,8,10] [0,1,2],(ro 4 rfl (zt (Sv raout out.length rcout) isAgg29 rfl (H.cell 6 rfl rfl) (⟨H.pick [2,3,4,5,7,8,10] [0,1,2],(ro 8 rfl ?_)⟩)))⟩
    obtain ⟨G61,N,hn62,H⟩:=H.vz 1 rfl N (fun F hF b hb=>(List.mem_append.1 (show F∈[rFout]++Ns from hF)).elim (fun h=>(H.jJ (L:=[rFout]) [2]) F h b hb) fun h=>H.XI (K0.behind 3 rfl) F h b hb)
    try dsimp only [List.set] at H
    refine zM H 9 rfl 0 rfl underlying29 ti24 rfl qj rfl rfl rfl (by simp [Value.oneCell',Value.cells]) qp qf fun a58 c59 w60 H=>?_
    try dsimp only [List.set] at H
    replace H:=H.y5 3 rfl 0 rfl
    replace N:Fresh W0.heap.size ((rFout++G61) :: Ns):=(N.xH 2 [1,0] qo).join
    refine ⟨H.pick [2,3,4,5,7,8,10] [2,3,4],?_⟩
    have S:=H.jG [2,3,4,5,7,8,10] [2,3,4]
    refine rtp 9 (pp bl 0) S ?_
    refine tF 10 rfl rfl S ?_
    refine ro 11 rfl (xX H 6 [Sv a58 (out.length+1) c59] sizeOf29 fun w63 H=>?_)
    try dsimp only [List.set] at H
    refine ⟨H.pick [2,3,4,5,7,8,10] [2,3,4],(xg qh ((meet ⟨_,a58,c59,a44,c45,G61,uE1,N,H.xH 11 5 [2,3,4,5,6,7,8,9,10] [0,1,2,3] qo qo⟩)))⟩
   clear H N
   rintro ρ w64 ⟨zl,a7,c8,a9,c10,G11,rfl,N,H⟩
   refine t_n (zcr (sps [pp bl 0,pp bl 0] (oF rfl (oL rfl (H.cell 4 rfl rfl) (oN rfl (sps [Bv (decide ((out.length+1:Int)≤2000)),Bv (decide ((out.length+1:Int)≤2000))] (zjr (ret1 (Bv (decide ((out.length+1:Int)≤2000))) rfl rfl ⟨_,rfl,(sps [Bv (decide ((out.length+1:Int)≤2000)),Bv (decide ((out.length+1:Int)≤2000))] (zjr (t_r (ret1 (Bv (decide ((out.length+1:Int)≤2000))) rfl rfl ⟨_,rfl,?_⟩))))⟩))))))))
   rw [pack_fullI qf p3 ‹FullOk _ _› p2,show decide ((out.length+1:Int)≤2000)=dec ((out++[cs]).length≤2000) from dec_eq (by simp;omega)]
   exact ⟨cs,a7,out.length+1,c8,rxout++[Value.slice a9 cs.length c10],(rFout++G11),(by first | rfl | omega | (have:=‹_=(List.set _ _ _).length›;rw [List.length_set] at this;omega)),(by first | rfl | assumption | exact pack_keep ‹_› j2),rfl,N,H.xH 9 4 [0,1,2,3,4,5,6,7,8] [2,3,0] qo qo⟩
  replace h5:=xC h5
  replace h5:=zO h5
  refine xU [20,21,22] (sps [Bv true,Bv true] (zjr (t_r (ret1 (Bv true) rfl rfl ⟨_,rfl,?_⟩))))
  rw [pack_noneI qf ‹_› p2,yl p2]
  exact ⟨cs,raout,out.length,rcout,rxout,rFout,(by first | rfl | omega | (have:=‹_=(List.set _ _ _).length›;rw [List.length_set] at this;omega)),(by first | rfl | assumption | exact pack_keep ‹_› j2),rfl,N,H.xH 9 3 [0,1,2,3,4,5,6,7,8] [0,1,2] qo qo⟩
 refine xe (t_n (zcc (sp (yI 0) (zjn (qZ ?_)))))
 obtain ⟨t1,t2,t3,t4,t5,t6⟩:=p1.times (k:=i) qf
 refine zU (fun m' ρ w65=>∃ (zl:Env) (n:Nat) (X6:yOA) (X0:Nat) (X5:Nat) (out_lists:yLL) (XX:List Value) (QN:yLN) (cs_1:yLI),ρ=upd (upd (upd (upd (upd (upd zl 0 (yI i)) 1 (Sv arest rest.length crest)) 2 (pp bp 0)) 5 (pp bc 0)) 6 (pp bf 0)) 10 (yI n)∧out_lists=(gath out (begins (cs.take i) (jL parts (f - 1) i rest n)))∧((n:Int)≤vY (parts[i]!) rest+1)∧(cs_1.length=parts.length)∧(cs_1.take i=cs.take i)∧((gath out (begins (cs.take i) (jL parts (f - 1) i rest n))).length≤2000)∧m' =(vY (parts[i]!) rest+1 - (n:Int)).toNat∧Fresh W0.heap.size (QN :: Ns)∧St W0 w65 ((.box bp [Sv xZ parts.length xQ] 29) :: (.box bi [.func (.func 211) #[] #[pp bq 0]] 162) :: (.box bq [Sv xZ parts.length xQ] 29) :: (.box bo [pp bl 0] 234) :: (.box bl [Sv X6 X0 X5] 236) :: (.box bc [Sv racs cs.length rccs] 24) :: (.box bf [.func (.func 229) #[] #[pp bp 0,pp bi 0,pp bo 0,pp bc 0,pp bf 0]] 237) :: (rr X6 X0 X5 24 1 XX) :: (rr racs cs.length rccs 2 1 (cs_1.map (Value.int .i64))) :: ps) ((sF false Frest arest crest rest) :: (sF false Fparts xZ xQ parts) :: (qX true QN XX out_lists) :: Γ)) ((vY (parts[i]!) rest+1 - (0:Int)).toNat) ⟨_,0,raout,out.length,rcout,out,rxout,rFout,cs,uE6,(by exact pack_startI p2),qf,ql,(by rfl),(by rw [← pack_startI p2];exact p2),rfl,N,H⟩ ?_
 clear H N
 rintro m' ρ w66 ⟨zl,n,X6,X0,X5,out_lists,XX,QN,cs_1,rfl,rfl,i0,j1,j2,j3,rfl,N,H⟩
 have hn_out_lists:=H.zi (α:=yLI) 7 rfl 2 rfl qj
 have hn_cs:=H.vM 8 rfl
 refine zcc (sp (yI n) (oL rfl (H.cell 0 rfl rfl) (sp (yI i) ?_)))
 obtain ⟨b67,o68,rfl⟩:=H.addr 1 rfl qf
 obtain ⟨ae70,ce70,Fe70,H⟩:=H.jS 1 rfl i i qf qf qf
 refine oI rfl rfl (oL rfl (H.zu 1 rfl 0 rfl) (sp (Sv arest rest.length crest) ?_))
 obtain ⟨t1,t2,t3,t4,t5,t6⟩:=p1.times (k:=i) qf
 refine sw (oq (timesIn_ok _ (parts[i]!) rest (H.get 0 rfl).1 (H.get 2 rfl).1 qg qg) H fun w72 H=>sp (Bv (decide ((n:Int)≤(vY (parts[i]!) rest)))) (zjn (cD rfl (fun h74=>?_) (fun h74=>?_))))
 ·skip
  refine xe (t_n (zg (qZ (zcr (oL rfl (H.cell 5 rfl rfl) (sps [yI i,yI n] ?_))))))
  obtain ⟨b75,rfl⟩:=H.Qc 8 rfl qf
  refine oI rfl rfl (sw (Va H 8 rfl n sizeOf2 rfl rfl (i:=i) qf qf fun w76 H=>?_))
  try dsimp only [List.set] at H
  refine zjn (zg ?_)
  refine XG rfl H [0,1,2,3,5,6] [0,1,2,3] fun H=>?_
  have S:=H.jG [0,1,2,3,5,6] [0,1,2,3]
  refine tL 0 rfl rfl (fun _ h=>h.cell 5 rfl rfl) S ?_
  refine rtp 1 (yI i) S ?_
  refine rt 2 (yI (i+1)) (y_add i 1 rfl rfl qf) S ?_
  refine rtp 3 (Sv arest rest.length crest) S ?_
  refine tL 4 rfl rfl (fun _ h=>h.cell 0 rfl rfl) S ?_
  refine rtp 5 (yI i) S ?_
  refine tI 6 rfl rfl rfl S ?_
  refine tL 7 rfl rfl (fun _ h=>h.zu 1 rfl 0 rfl) S ?_
  refine rtp 8 (yI n) S ?_
  refine rt 9 (yI (-n)) (y_neg n rfl qf) S ?_
  refine ro 10 rfl ?_
  obtain ⟨u1,u2,u3,u4⟩:=p1.plus (k:=i) qf (n:=(n:Int)) qf qf
  have sz78:=H.base.size
  have lt79:=all_two (H.ltN (L:=[QN]) [4]) (H.ltK (K0.behind 5 rfl))
  refine oc (Xq _ rest (parts[i]!) (-n) (H.get 2 rfl).1 (H.get 0 rfl).1 qg qg qg) ?_
  rintro v83 w81 r83 x82
  replace H:=H.zW x82 r83
  obtain ⟨a84,c85,rfl,hc86,hm87⟩:=H.jY 0 rfl
  refine ⟨H.pick [1,2,3,4,6,7] [0,1,2,3],(ro 11 rfl ?_)⟩
  obtain ⟨G88,N,hn89,H⟩:=H.vz 0 rfl N (fun F hF b hb=>(List.mem_append.1 (show F∈[QN]++Ns from hF)).elim (fun h=>(H.jJ (L:=[QN]) [4]) F h b hb) fun h=>H.XI (K0.behind 5 rfl) F h b hb)
  try dsimp only [List.set] at H
  replace H:=H.unfreeI 0 rfl
  have H1:St W0 w81 ((.box bp [Sv (aa b67 o68) parts.length xQ] 29) :: (.box bi [.func (.func 211) #[] #[pp bq 0]] 162) :: (.box bq [Sv (aa b67 o68) parts.length xQ] 29) :: (.box bo [pp bl 0] 234) :: (.box bl [Sv X6 X0 X5] 236) :: (.box bc [Sv (aa b75 0) cs.length rccs] 24) :: (.box bf [.func (.func 229) #[] #[pp bp 0,pp bi 0,pp bo 0,pp bc 0,pp bf 0]] 237) :: (rr X6 X0 X5 24 1 XX) :: (rr (aa b75 0) cs.length rccs 2 1 ((cs_1.set i n).map (Value.int .i64))) :: (rr none 0 0 0 1 []) :: ps) ((sF false G88 a84 c85 (vZ rest (parts[i]!) (-n))) :: (sF false Fparts (aa b67 o68) xQ parts) :: (qX true QN XX (gath out (begins (cs.take i) (jL parts (f - 1) i rest n)))) :: (sF false G88 a84 c85 (vZ rest (parts[i]!) (-n))) :: (sF true G88 a84 c85 (vZ rest (parts[i]!) (-n))) :: (sF false Fe70 ae70 ce70 (parts[i]!)) :: (atF b67 (o68+(i:Int).toNat * 1) [Sv ae70 ((parts[i]!).length) ce70]) :: (sF false Frest arest crest rest) :: Γ):=H.xH 10 7 [1,2,3,4,5,6,7,8,9,0] [0,5,6,0,1,2,3,4] qo qo
  have N1:Fresh _ (QN :: G88 :: Ns):=(N.xH 2 [1,0] qo)
  have K1:Kept (Ns) ((sF false G88 a84 c85 (vZ rest (parts[i]!) (-n))) :: (sF true G88 a84 c85 (vZ rest (parts[i]!) (-n))) :: (sF false Fe70 ae70 ce70 (parts[i]!)) :: (atF b67 (o68+(i:Int).toNat * 1) [Sv ae70 ((parts[i]!).length) ce70]) :: (sF false Frest arest crest rest) :: Γ):=K0.behind 5 rfl
  replace K1:=K1.cons (F:=G88) 0 rfl rfl
  refine xR #[yI (i+1),Sv a84 ((vZ rest (parts[i]!) (-n)).length) c85,pp bp 0,pp bi 0,pp bo 0,pp bc 0,pp bf 0] rfl rfl call229 (IH (f - 1) qf (i+1) (vZ rest (parts[i]!) (-n)) parts (gath out (begins (cs.take i) (jL parts (f - 1) i rest n))) (cs_1.set i n) a84 c85 G88 (aa b67 o68) xQ Fparts bp bi bq bo bl bc bf X6 X0 X5 XX QN (aa b75 0) cs.length rccs H1 N1 K1 qf (by first | assumption | exact u4) (by first | assumption | exact j3 | (simp;done)) (by first | assumption | (rw [List.length_set];exact j1) | (simp;done))) ?_
  clear H H1 N1 K1
  rintro _ w90 ⟨zl94,ra95,rn96,rc97,rx98,rF99,hx92,hx93,rfl,N,H⟩
  obtain rfl:=H.zi (α:=yLI) 7 rfl 2 rfl qj
  refine ⟨H.pick [0,1,2,3,5,6] [5,6,7,1],(rtp 12 (Bv (!(dec ((gath (gath out (begins (cs.take i) (jL parts (f - 1) i rest n))) (begins ((cs_1.set i n).take (i+1)) (packs parts (parts.length - (i+1)) (i+1) (vZ rest (parts[i]!) (-n))))).length≤2000)))) (H.pick [0,1,2,3,5,6] [5,6,7,1]) ?_)⟩
  refine xg qh (t_n (cQ rfl (fun h100=>?_) (fun h100=>?_)))
  ·skip
   refine zcr (sp (Bv false) (zjr (zr5 (ret1 (Bv false) rfl rfl ⟨_,rfl,?_⟩))))
   have e1:=pack_stepI (out:=out) p0 qf j1 j2 j3
   have e2:=‹¬ (gath (gath _ _) _).length≤2000›
   rw [e1] at e2
   rw [pack_endI (n:=n+1) p0 qf qf qf (.inr e2),← e1,xk (by rw [e1];exact e2)]
   exact ⟨zl94,ra95,(gath (gath out (begins (cs.take i) (jL parts (f - 1) i rest n))) (begins ((cs_1.set i n).take (i+1)) (packs parts (parts.length - (i+1)) (i+1) (vZ rest (parts[i]!) (-n))))).length,rc97,rx98,rF99,(by first | rfl | omega | (have:=‹_=(List.set _ _ _).length›;rw [List.length_set] at this;omega)),(by first | rfl | assumption | exact pack_keep ‹_› j2),rfl,(N.xH 2 [0] qo),H.xH 10 8 [0,1,2,3,4,5,6,7,8] [7,1,2] qo qo⟩
  refine xe (b_n (t_n (zn (sp (yI n) (sw (zN n 1 rfl rfl qf (sp (yI (n+1)) (zo ?_))))))))
  refine xm (m' :=(vY (parts[i]!) rest+1 - ((n+1):Int)).toNat) qf ⟨_,n+1,ra95,(gath (gath out (begins (cs.take i) (jL parts (f - 1) i rest n))) (begins ((cs_1.set i n).take (i+1)) (packs parts (parts.length - (i+1)) (i+1) (vZ rest (parts[i]!) (-n))))).length,rc97,(gath (gath out (begins (cs.take i) (jL parts (f - 1) i rest n))) (begins ((cs_1.set i n).take (i+1)) (packs parts (parts.length - (i+1)) (i+1) (vZ rest (parts[i]!) (-n))))),rx98,rF99,zl94,uE6,?_,?_,?_,?_,?_,rfl,(N.xH 2 [0] qo),H.xH 10 8 [0,1,2,3,4,5,6,7,8] [7,1,2] qo qo⟩
  · exact pack_stepI p0 qf j1 j2 j3
  · omega
  · have:=‹_=(List.set _ _ _).length›;rw [List.length_set] at this;omega
  · exact pack_keep ‹_› j2
  · rw [← pack_stepI p0 qf j1 j2 j3];assumption
 refine zx4 (zcr (sp (Bv true) (zjr (ret1 (Bv true) rfl rfl ⟨_,rfl,?_⟩))))
 rw [pack_endI (f:=f) (n:=n) p0 qf i0 qf (.inl qf),yl j3]
 exact ⟨cs_1,X6,X0,X5,XX,QN,(by first | rfl | omega | (have:=‹_=(List.set _ _ _).length›;rw [List.length_set] at this;omega)),(by first | rfl | assumption | exact pack_keep ‹_› j2),rfl,N,H.xH 9 5 [0,1,2,3,4,5,6,7,8] [2,3,4] qo qo⟩

theorem packFrom_ok (f:Nat):packFrom_ok_S f:=Nat.strongRecOn (motive:=packFrom_ok_S) f fun f IH=>by unfold packFrom_ok_S;intros;apply packFrom_ok_step f IH <;> assumption

theorem maxPack_ok (w:World) (b:yLI) (parts:yLL) {ab:yOA} {Fb:yLN} {xZ:yOA} {xQ:Nat} {Fparts:yLN} (hb:qU.rep w Fb [Sv ab b.length cb] b) (hparts:qU.rep w Fparts [Sv xZ parts.length xQ] parts) (p0:XU parts b) (p1:1≤parts.length):Calls Tryz.prog 189 #[Sv ab b.length cb,Sv xZ parts.length xQ] w (Ret (fun v w' =>∃ (ra0:yOA) (rn0:Nat) (rc0:Nat) (rx0:List Value) (rF0:yLN),v=.tuple #[Sv ra0 rn0 rc0,yI ((vk b parts).2)]∧Fresh w.heap.size [rF0]∧St w w' [rr ra0 rn0 rc0 24 1 rx0] [qX true rF0 rx0 ((vk b parts).1)]) w):=by
 refine en func189 ntmps189 ?_
 have H:=((St.start w).arg hparts).arg hb
 have nhb:=qQ hb
 have nhparts:=qQ hparts
 clear hb hparts
 have N:=Fresh.nil w.heap.size
 have p3:=p0.small
 have p4:=p0.smallB
 refine zcr (sw (vF H [Sv xZ parts.length xQ] fun b1 w2 H=>sps [yN,yI 0] (zjc (sp (Sv ab b.length cb) (oL rfl (H.cell 0 rfl rfl) (sp (.func (.func 211) #[] #[pp b1 0]) (sw (vC #[Sv ab b.length cb,Sv xZ parts.length xQ,.func (.func 211) #[] #[pp b1 0]] rfl rfl call210 (en func210 ntmps210 ?_)))))))))
 refine zcr (sw (vF H [Sv xZ parts.length xQ] fun b3 w4 H=>sw (vF H [.func (.func 211) #[] #[pp b1 0]] fun b5 w6 H=>sps [yN,yI 0] (zjcc (sp (Sv ab b.length cb) (oL rfl (H.cell 1 rfl rfl) (sw (oq (bagAndParts_ok _ b parts (H.get 0 rfl).1 (H.get 1 rfl).1 qg qg) H fun w8 H=>sp (yI 0) (zjc (sps [yI 0,Bv false] (zjn (xI false rfl (fun h=>absurd h qj) (fun _=>xe (t_n (zcc (sp (Sv ab b.length cb) ?_))))))))))))))))
 refine sw (oq (XH _ b (H.get 0 rfl).1 (by first | assumption | exact vG ql | exact yF ql)) H fun w10 H=>sp (Bv (decide ((QJ b:Int) > 16))) (zjn (cD rfl (fun h12=>?_) (fun h12=>?_))))
 ·skip
  refine zcr (sps [yN,yI 3] (zjr (t_r (ret2 yN (yI 3) rfl rfl rfl ⟨_,rfl,?_⟩))))
  replace H:=H.erases [1,0]
  dsimp only [ja,List.eraseIdx] at H
  refine sps [yN,yI 3,yN,yI 3] (zjr ?_)
  replace H:=H.nilRow 24 1
  replace H:=H.jD (α:=yLI)
  refine ret2 yN (yI 3) rfl rfl rfl ⟨_,rfl,?_,H.base⟩
  first | rw [all_a ql] | rw [all_bI (cs:=(List.replicate parts.length (0:Int))) ql qf]
  exact ⟨none,0,0,[],[],rfl,N.emp,H.pick [0] [0]⟩
 refine xe (t_n (zg ?_))
 refine c_cut (fun ρ w17=>∃ (zl:Env) (b13:Nat) (b14:Nat) (b15:Nat) (b16:Nat),ρ=upd (upd (upd (upd (upd zl 0 (Sv ab b.length cb)) 4 (pp b3 0)) 5 (pp b5 0)) 9 (pp b13 0)) 10 (pp b14 0)∧Fresh w.heap.size []∧St w w17 [.box b14 [Sv (aa b15 0) parts.length parts.length] 24,.box b13 [pp b16 0] 234,rr (aa b15 0) parts.length parts.length 2 1 ((List.replicate parts.length (0:Int)).map (Value.int .i64)),.box b16 [yN] 236,.box b5 [.func (.func 211) #[] #[pp b1 0]] 162,.box b3 [Sv xZ parts.length xQ] 29,.box b1 [Sv xZ parts.length xQ] 29] [sF false Fb ab cb b,sF false Fparts xZ xQ parts]) ?_ ?_
 ·skip
  refine yj rfl H fun H=>?_
  refine r_have (fun ρ w23=>∃ (zl:Env) (b19:Nat) (b20:Nat) (b21:Nat),ρ=upd (upd (upd (upd (upd (upd (upd zl 0 (Sv ab b.length cb)) 4 (pp b3 0)) 5 (pp b5 0)) 9 (pp b20 0)) 10 (pp b21 0)) 22 (pp b19 0)) 24 (yI parts.length)∧Fresh w.heap.size []∧St w w23 [.box b21 [yN] 24,.box b20 [.pointer none] 234,.box b19 [yN] 236,.box b5 [.func (.func 211) #[] #[pp b1 0]] 162,.box b3 [Sv xZ parts.length xQ] 29,.box b1 [Sv xZ parts.length xQ] 29] [sF false Fb ab cb b,sF false Fparts xZ xQ parts]) 3 #[true,true,true,true,false,true,true,false,false] ?_ fun L22=>?_
  ·skip
   rintro ρ w24 ⟨zl,b19,b20,b21,rfl,N,H⟩
   refine zH [4,7] qh qm (vg rfl ?_ (vg rfl ?_ zI))
   ·skip
    refine zf H underlying24 ti2 parts.length rfl rfl qf qf qf fun b25 w26 H=>⟨H.pick [4,5,6] [0,1],(ro 7 rfl (xX H 2 [pp b19 0] sizeOf234 fun w27 H=>⟨H.pick [4,5,6] [0,1],(ro 8 rfl (xX H 1 [Sv (aa b25 0) parts.length parts.length] sizeOf24 fun w28 H=>⟨H.pick [4,5,6] [0,1],(xg qh ((meet ⟨_,b20,b21,b25,b19,uE5,N,H.pick [1,2,0,3,4,5,6] [0,1]⟩)))⟩))⟩))⟩
   refine xX H 1 [pp b19 0] sizeOf234 fun w29 H=>⟨H.pick [3,4,5] [0,1],(ro 4 rfl (zf H underlying24 ti2 parts.length rfl rfl qf qf qf fun b30 w31 H=>⟨H.pick [4,5,6] [0,1],(ro 8 rfl (xX H 1 [Sv (aa b30 0) parts.length parts.length] sizeOf24 fun w32 H=>⟨H.pick [4,5,6] [0,1],(xg qh ((meet ⟨_,b20,b21,b30,b19,uE5,N,H.pick [1,2,0,3,4,5,6] [0,1]⟩)))⟩))⟩))⟩
  refine r_have (fun ρ w36=>∃ (zl:Env) (b33:Nat) (b34:Nat),ρ=upd (upd (upd (upd (upd zl 0 (Sv ab b.length cb)) 4 (pp b3 0)) 5 (pp b5 0)) 22 (pp b33 0)) 25 (Sv (aa b34 0) parts.length parts.length)∧Fresh w.heap.size []∧St w w36 [rr (aa b34 0) parts.length parts.length 2 1 ((List.replicate parts.length (0:Int)).map (Value.int .i64)),.box b33 [yN] 236,.box b5 [.func (.func 211) #[] #[pp b1 0]] 162,.box b3 [Sv xZ parts.length xQ] 29,.box b1 [Sv xZ parts.length xQ] 29] [sF false Fb ab cb b,sF false Fparts xZ xQ parts]) 4 #[true,true,true,true,true,false,false,false,false] ?_ fun L35=>?_
  ·skip
   rintro ρ w37 ⟨zl,b33,b34,rfl,N,H⟩
   refine zH [5,6] qh qm (vg rfl ?_ (vg rfl ?_ zI))
   ·skip
    refine xx H ti234 [.pointer none] fun b38 w39 H=>⟨H.pick [3,4,5] [0,1],(ro 6 rfl (xx H ti24 [yN] fun b40 w41 H=>⟨H.pick [4,5,6] [0,1],(ro 7 rfl (xX H 1 [pp b33 0] sizeOf234 fun w42 H=>⟨H.pick [4,5,6] [0,1],(ro 8 rfl (xX H 0 [Sv (aa b34 0) parts.length parts.length] sizeOf24 fun w43 H=>⟨H.pick [4,5,6] [0,1],(xg qh ((meet ⟨_,b38,b40,b34,b33,uE5,N,H⟩)))⟩))⟩))⟩))⟩
   refine xx H ti24 [yN] fun b44 w45 H=>⟨H.pick [3,4,5] [0,1],(ro 5 rfl (xx H ti234 [.pointer none] fun b46 w47 H=>⟨H.pick [4,5,6] [0,1],(ro 7 rfl (xX H 0 [pp b33 0] sizeOf234 fun w48 H=>⟨H.pick [4,5,6] [0,1],(ro 8 rfl (xX H 1 [Sv (aa b34 0) parts.length parts.length] sizeOf24 fun w49 H=>⟨H.pick [4,5,6] [0,1],(xg qh ((meet ⟨_,b46,b44,b34,b33,uE5,N,H.pick [1,0,2,3,4,5,6] [0,1]⟩)))⟩))⟩))⟩))⟩
  refine r_have (fun ρ w53=>∃ (zl:Env) (b50:Nat) (b51:Nat),ρ=upd (upd (upd (upd (upd (upd zl 0 (Sv ab b.length cb)) 4 (pp b3 0)) 5 (pp b5 0)) 9 (pp b51 0)) 22 (pp b50 0)) 24 (yI parts.length)∧Fresh w.heap.size []∧St w w53 [.box b51 [.pointer none] 234,.box b50 [yN] 236,.box b5 [.func (.func 211) #[] #[pp b1 0]] 162,.box b3 [Sv xZ parts.length xQ] 29,.box b1 [Sv xZ parts.length xQ] 29] [sF false Fb ab cb b,sF false Fparts xZ xQ parts]) 4 #[true,true,true,true,false,true,false,false,false] ?_ fun L52=>?_
  ·skip
   rintro ρ w54 ⟨zl,b50,b51,rfl,N,H⟩
   refine zH [4,6] qh qm (vg rfl ?_ (vg rfl ?_ zI))
   ·skip
    refine zf H underlying24 ti2 parts.length rfl rfl qf qf qf fun b55 w56 H=>⟨H.pick [3,4,5] [0,1],(ro 6 rfl (xx H ti24 [yN] fun b57 w58 H=>⟨H.pick [4,5,6] [0,1],(ro 7 rfl (xX H 2 [pp b50 0] sizeOf234 fun w59 H=>⟨H.pick [4,5,6] [0,1],(ro 8 rfl (xX H 0 [Sv (aa b55 0) parts.length parts.length] sizeOf24 fun w60 H=>⟨H.pick [4,5,6] [0,1],(xg qh ((meet ⟨_,b51,b57,b55,b50,uE5,N,H.pick [0,2,1,3,4,5,6] [0,1]⟩)))⟩))⟩))⟩))⟩
   refine xx H ti24 [yN] fun b61 w62 H=>⟨H.pick [3,4,5] [0,1],(Xf L22 ⟨_,b50,b51,b61,uE7,N,H⟩)⟩
  refine r_have (fun ρ w66=>∃ (zl:Env) (b63:Nat) (b64:Nat),ρ=upd (upd (upd (upd (upd (upd zl 0 (Sv ab b.length cb)) 4 (pp b3 0)) 5 (pp b5 0)) 10 (pp b64 0)) 22 (pp b63 0)) 24 (yI parts.length)∧Fresh w.heap.size []∧St w w66 [.box b64 [yN] 24,.box b63 [yN] 236,.box b5 [.func (.func 211) #[] #[pp b1 0]] 162,.box b3 [Sv xZ parts.length xQ] 29,.box b1 [Sv xZ parts.length xQ] 29] [sF false Fb ab cb b,sF false Fparts xZ xQ parts]) 4 #[true,true,true,true,false,false,true,false,false] ?_ fun L65=>?_
  ·skip
   rintro ρ w67 ⟨zl,b63,b64,rfl,N,H⟩
   refine zH [4,5] qh qm (vg rfl ?_ (vg rfl ?_ zI))
   ·skip
    refine zf H underlying24 ti2 parts.length rfl rfl qf qf qf fun b68 w69 H=>⟨H.pick [3,4,5] [0,1],(ro 5 rfl (xx H ti234 [.pointer none] fun b70 w71 H=>⟨H.pick [4,5,6] [0,1],(ro 7 rfl (xX H 0 [pp b63 0] sizeOf234 fun w72 H=>⟨H.pick [4,5,6] [0,1],(ro 8 rfl (xX H 2 [Sv (aa b68 0) parts.length parts.length] sizeOf24 fun w73 H=>⟨H.pick [4,5,6] [0,1],(xg qh ((meet ⟨_,b70,b64,b68,b63,uE5,N,H.pick [2,0,1,3,4,5,6] [0,1]⟩)))⟩))⟩))⟩))⟩
   refine xx H ti234 [.pointer none] fun b74 w75 H=>⟨H.pick [3,4,5] [0,1],(Xf L22 ⟨_,b63,b74,b64,uE7,N,H.pick [1,0,2,3,4,5] [0,1]⟩)⟩
  refine r_have (fun ρ w79=>∃ (zl:Env) (b76:Nat) (b77:Nat),ρ=upd (upd (upd (upd (upd (upd zl 0 (Sv ab b.length cb)) 4 (pp b3 0)) 5 (pp b5 0)) 9 (pp b77 0)) 21 (.agg #[yN])) 25 (Sv (aa b76 0) parts.length parts.length)∧Fresh w.heap.size []∧St w w79 [.box b77 [.pointer none] 234,rr (aa b76 0) parts.length parts.length 2 1 ((List.replicate parts.length (0:Int)).map (Value.int .i64)),.box b5 [.func (.func 211) #[] #[pp b1 0]] 162,.box b3 [Sv xZ parts.length xQ] 29,.box b1 [Sv xZ parts.length xQ] 29] [sF false Fb ab cb b,sF false Fparts xZ xQ parts]) 4 #[true,false,true,true,true,true,false,false,false] ?_ fun L78=>?_
  ·skip
   rintro ρ w80 ⟨zl,b76,b77,rfl,N,H⟩
   refine zH [1,6] qh qm (vg rfl ?_ (vg rfl ?_ zI))
   ·skip
    refine vF H [yN] fun b81 w82 H=>⟨H.pick [3,4,5] [0,1],(ro 6 rfl (xx H ti24 [yN] fun b83 w84 H=>⟨H.pick [4,5,6] [0,1],(ro 7 rfl (xX H 2 [pp b81 0] sizeOf234 fun w85 H=>⟨H.pick [4,5,6] [0,1],(ro 8 rfl (xX H 0 [Sv (aa b76 0) parts.length parts.length] sizeOf24 fun w86 H=>⟨H.pick [4,5,6] [0,1],(xg qh ((meet ⟨_,b77,b83,b76,b81,uE5,N,H.pick [0,2,3,1,4,5,6] [0,1]⟩)))⟩))⟩))⟩))⟩
   refine xx H ti24 [yN] fun b87 w88 H=>⟨H.pick [3,4,5] [0,1],(ro 1 rfl (vF H [yN] fun b89 w90 H=>⟨H.pick [4,5,6] [0,1],(ro 7 rfl (xX H 2 [pp b89 0] sizeOf234 fun w91 H=>⟨H.pick [4,5,6] [0,1],(ro 8 rfl (xX H 1 [Sv (aa b76 0) parts.length parts.length] sizeOf24 fun w92 H=>⟨H.pick [4,5,6] [0,1],(xg qh ((meet ⟨_,b77,b87,b76,b89,uE5,N,H.pick [1,2,3,0,4,5,6] [0,1]⟩)))⟩))⟩))⟩))⟩
  refine r_have (fun ρ w96=>∃ (zl:Env) (b93:Nat) (b94:Nat),ρ=upd (upd (upd (upd (upd (upd zl 0 (Sv ab b.length cb)) 4 (pp b3 0)) 5 (pp b5 0)) 10 (pp b94 0)) 21 (.agg #[yN])) 25 (Sv (aa b93 0) parts.length parts.length)∧Fresh w.heap.size []∧St w w96 [.box b94 [yN] 24,rr (aa b93 0) parts.length parts.length 2 1 ((List.replicate parts.length (0:Int)).map (Value.int .i64)),.box b5 [.func (.func 211) #[] #[pp b1 0]] 162,.box b3 [Sv xZ parts.length xQ] 29,.box b1 [Sv xZ parts.length xQ] 29] [sF false Fb ab cb b,sF false Fparts xZ xQ parts]) 4 #[true,false,true,true,true,false,true,false,false] ?_ fun L95=>?_
  ·skip
   rintro ρ w97 ⟨zl,b93,b94,rfl,N,H⟩
   refine zH [1,5] qh qm (vg rfl ?_ (vg rfl ?_ zI))
   ·skip
    refine vF H [yN] fun b98 w99 H=>⟨H.pick [3,4,5] [0,1],(ro 5 rfl (xx H ti234 [.pointer none] fun b100 w101 H=>⟨H.pick [4,5,6] [0,1],(ro 7 rfl (xX H 0 [pp b98 0] sizeOf234 fun w102 H=>⟨H.pick [4,5,6] [0,1],(ro 8 rfl (xX H 2 [Sv (aa b93 0) parts.length parts.length] sizeOf24 fun w103 H=>⟨H.pick [4,5,6] [0,1],(xg qh ((meet ⟨_,b100,b94,b93,b98,uE5,N,H.pick [2,0,3,1,4,5,6] [0,1]⟩)))⟩))⟩))⟩))⟩
   refine xx H ti234 [.pointer none] fun b104 w105 H=>⟨H.pick [3,4,5] [0,1],(ro 1 rfl (vF H [yN] fun b106 w107 H=>⟨H.pick [4,5,6] [0,1],(ro 7 rfl (xX H 1 [pp b106 0] sizeOf234 fun w108 H=>⟨H.pick [4,5,6] [0,1],(ro 8 rfl (xX H 2 [Sv (aa b93 0) parts.length parts.length] sizeOf24 fun w109 H=>⟨H.pick [4,5,6] [0,1],(xg qh ((meet ⟨_,b104,b94,b93,b106,uE5,N,H.pick [2,1,3,0,4,5,6] [0,1]⟩)))⟩))⟩))⟩))⟩
  refine r_have (fun ρ w113=>∃ (zl:Env) (b110:Nat) (b111:Nat),ρ=upd (upd (upd (upd (upd (upd (upd zl 0 (Sv ab b.length cb)) 4 (pp b3 0)) 5 (pp b5 0)) 9 (pp b110 0)) 10 (pp b111 0)) 21 (.agg #[yN])) 24 (yI parts.length)∧Fresh w.heap.size []∧St w w113 [.box b111 [yN] 24,.box b110 [.pointer none] 234,.box b5 [.func (.func 211) #[] #[pp b1 0]] 162,.box b3 [Sv xZ parts.length xQ] 29,.box b1 [Sv xZ parts.length xQ] 29] [sF false Fb ab cb b,sF false Fparts xZ xQ parts]) 4 #[true,false,true,true,false,true,true,false,false] ?_ fun L112=>?_
  ·skip
   rintro ρ w114 ⟨zl,b110,b111,rfl,N,H⟩
   refine zH [1,4] qh qm (vg rfl ?_ (vg rfl ?_ zI))
   ·skip
    refine vF H [yN] fun b115 w116 H=>⟨H.pick [3,4,5] [0,1],(Xf L22 ⟨_,b115,b110,b111,uE7,N,H.pick [1,2,0,3,4,5] [0,1]⟩)⟩
   refine zf H underlying24 ti2 parts.length rfl rfl qf qf qf fun b117 w118 H=>⟨H.pick [3,4,5] [0,1],(ro 1 rfl (vF H [yN] fun b119 w120 H=>⟨H.pick [4,5,6] [0,1],(ro 7 rfl (xX H 3 [pp b119 0] sizeOf234 fun w121 H=>⟨H.pick [4,5,6] [0,1],(ro 8 rfl (xX H 2 [Sv (aa b117 0) parts.length parts.length] sizeOf24 fun w122 H=>⟨H.pick [4,5,6] [0,1],(xg qh ((meet ⟨_,b110,b111,b117,b119,uE5,N,H.pick [2,3,1,0,4,5,6] [0,1]⟩)))⟩))⟩))⟩))⟩
  refine r_have (fun ρ w125=>∃ (zl:Env) (b123:Nat),ρ=upd (upd (upd (upd (upd zl 0 (Sv ab b.length cb)) 4 (pp b3 0)) 5 (pp b5 0)) 21 (.agg #[yN])) 25 (Sv (aa b123 0) parts.length parts.length)∧Fresh w.heap.size []∧St w w125 [rr (aa b123 0) parts.length parts.length 2 1 ((List.replicate parts.length (0:Int)).map (Value.int .i64)),.box b5 [.func (.func 211) #[] #[pp b1 0]] 162,.box b3 [Sv xZ parts.length xQ] 29,.box b1 [Sv xZ parts.length xQ] 29] [sF false Fb ab cb b,sF false Fparts xZ xQ parts]) 5 #[true,false,true,true,true,false,false,false,false] ?_ fun L124=>?_
  ·skip
   rintro ρ w126 ⟨zl,b123,rfl,N,H⟩
   refine zH [1,5,6] qh qm (vg rfl ?_ (vg rfl ?_ (vg rfl ?_ zI)))
   ·skip
    refine vF H [yN] fun b127 w128 H=>⟨H.pick [2,3,4] [0,1],(Xf L35 ⟨_,b127,b123,uE5,N,H.pick [1,0,2,3,4] [0,1]⟩)⟩
   ·skip
    refine xx H ti234 [.pointer none] fun b129 w130 H=>⟨H.pick [2,3,4] [0,1],(Xf L78 ⟨_,b123,b129,uE6,N,H⟩)⟩
   refine xx H ti24 [yN] fun b131 w132 H=>⟨H.pick [2,3,4] [0,1],(Xf L95 ⟨_,b123,b131,uE6,N,H⟩)⟩
  refine r_have (fun ρ w135=>∃ (zl:Env) (b133:Nat),ρ=upd (upd (upd (upd (upd (upd zl 0 (Sv ab b.length cb)) 4 (pp b3 0)) 5 (pp b5 0)) 9 (pp b133 0)) 21 (.agg #[yN])) 24 (yI parts.length)∧Fresh w.heap.size []∧St w w135 [.box b133 [.pointer none] 234,.box b5 [.func (.func 211) #[] #[pp b1 0]] 162,.box b3 [Sv xZ parts.length xQ] 29,.box b1 [Sv xZ parts.length xQ] 29] [sF false Fb ab cb b,sF false Fparts xZ xQ parts]) 5 #[true,false,true,true,false,true,false,false,false] ?_ fun L134=>?_
  ·skip
   rintro ρ w136 ⟨zl,b133,rfl,N,H⟩
   refine zH [1,4,6] qh qm (vg rfl ?_ (vg rfl ?_ (vg rfl ?_ zI)))
   ·skip
    refine vF H [yN] fun b137 w138 H=>⟨H.pick [2,3,4] [0,1],(Xf L52 ⟨_,b137,b133,uE6,N,H.pick [1,0,2,3,4] [0,1]⟩)⟩
   ·skip
    refine zf H underlying24 ti2 parts.length rfl rfl qf qf qf fun b139 w140 H=>⟨H.pick [2,3,4] [0,1],(Xf L78 ⟨_,b139,b133,uE6,N,H.pick [1,0,2,3,4] [0,1]⟩)⟩
   refine xx H ti24 [yN] fun b141 w142 H=>⟨H.pick [2,3,4] [0,1],(Xf L112 ⟨_,b133,b141,uE7,N,H⟩)⟩
  refine r_have (fun ρ w145=>∃ (zl:Env) (b143:Nat),ρ=upd (upd (upd (upd (upd (upd zl 0 (Sv ab b.length cb)) 4 (pp b3 0)) 5 (pp b5 0)) 10 (pp b143 0)) 21 (.agg #[yN])) 24 (yI parts.length)∧Fresh w.heap.size []∧St w w145 [.box b143 [yN] 24,.box b5 [.func (.func 211) #[] #[pp b1 0]] 162,.box b3 [Sv xZ parts.length xQ] 29,.box b1 [Sv xZ parts.length xQ] 29] [sF false Fb ab cb b,sF false Fparts xZ xQ parts]) 5 #[true,false,true,true,false,false,true,false,false] ?_ fun L144=>?_
  ·skip
   rintro ρ w146 ⟨zl,b143,rfl,N,H⟩
   refine zH [1,4,5] qh qm (vg rfl ?_ (vg rfl ?_ (vg rfl ?_ zI)))
   ·skip
    refine vF H [yN] fun b147 w148 H=>⟨H.pick [2,3,4] [0,1],(Xf L65 ⟨_,b147,b143,uE6,N,H.pick [1,0,2,3,4] [0,1]⟩)⟩
   ·skip
    refine zf H underlying24 ti2 parts.length rfl rfl qf qf qf fun b149 w150 H=>⟨H.pick [2,3,4] [0,1],(Xf L95 ⟨_,b149,b143,uE6,N,H.pick [1,0,2,3,4] [0,1]⟩)⟩
   refine xx H ti234 [.pointer none] fun b151 w152 H=>⟨H.pick [2,3,4] [0,1],(Xf L112 ⟨_,b151,b143,uE7,N,H.pick [1,0,2,3,4] [0,1]⟩)⟩
  refine r_have (fun ρ w156=>∃ (zl:Env) (b153:Nat) (b154:Nat),ρ=upd (upd (upd (upd (upd zl 0 (Sv ab b.length cb)) 4 (pp b3 0)) 5 (pp b5 0)) 9 (pp b154 0)) 25 (Sv (aa b153 0) parts.length parts.length)∧Fresh w.heap.size []∧St w w156 [.box b154 [.pointer none] 234,rr (aa b153 0) parts.length parts.length 2 1 ((List.replicate parts.length (0:Int)).map (Value.int .i64)),.box b5 [.func (.func 211) #[] #[pp b1 0]] 162,.box b3 [Sv xZ parts.length xQ] 29,.box b1 [Sv xZ parts.length xQ] 29] [sF false Fb ab cb b,sF false Fparts xZ xQ parts]) 5 #[false,false,true,true,true,true,false,false,false] ?_ fun L155=>?_
  ·skip
   rintro ρ w157 ⟨zl,b153,b154,rfl,N,H⟩
   refine zH [0,6] qh qm (vg rfl ?_ (vg rfl ?_ zI))
   ·skip
    refine xP [yN] [] (⟨H.pick [2,3,4] [0,1],(Xf L78 ⟨_,b153,b154,uE6,N,H⟩)⟩)
   refine xx H ti24 [yN] fun b158 w159 H=>⟨H.pick [3,4,5] [0,1],(ro 0 rfl (xP [yN] [] (⟨H.pick [3,4,5] [0,1],(ro 1 rfl (vF H [yN] fun b160 w161 H=>⟨H.pick [4,5,6] [0,1],(ro 7 rfl (xX H 2 [pp b160 0] sizeOf234 fun w162 H=>⟨H.pick [4,5,6] [0,1],(ro 8 rfl (xX H 1 [Sv (aa b153 0) parts.length parts.length] sizeOf24 fun w163 H=>⟨H.pick [4,5,6] [0,1],(xg qh ((meet ⟨_,b154,b158,b153,b160,uE5,N,H.pick [1,2,3,0,4,5,6] [0,1]⟩)))⟩))⟩))⟩))⟩)))⟩
  refine r_have (fun ρ w167=>∃ (zl:Env) (b164:Nat) (b165:Nat),ρ=upd (upd (upd (upd (upd zl 0 (Sv ab b.length cb)) 4 (pp b3 0)) 5 (pp b5 0)) 10 (pp b165 0)) 25 (Sv (aa b164 0) parts.length parts.length)∧Fresh w.heap.size []∧St w w167 [.box b165 [yN] 24,rr (aa b164 0) parts.length parts.length 2 1 ((List.replicate parts.length (0:Int)).map (Value.int .i64)),.box b5 [.func (.func 211) #[] #[pp b1 0]] 162,.box b3 [Sv xZ parts.length xQ] 29,.box b1 [Sv xZ parts.length xQ] 29] [sF false Fb ab cb b,sF false Fparts xZ xQ parts]) 5 #[false,false,true,true,true,false,true,false,false] ?_ fun L166=>?_
  ·skip
   rintro ρ w168 ⟨zl,b164,b165,rfl,N,H⟩
   refine zH [0,5] qh qm (vg rfl ?_ (vg rfl ?_ zI))
   ·skip
    refine xP [yN] [] (⟨H.pick [2,3,4] [0,1],(Xf L95 ⟨_,b164,b165,uE6,N,H⟩)⟩)
   refine xx H ti234 [.pointer none] fun b169 w170 H=>⟨H.pick [3,4,5] [0,1],(ro 0 rfl (xP [yN] [] (⟨H.pick [3,4,5] [0,1],(ro 1 rfl (vF H [yN] fun b171 w172 H=>⟨H.pick [4,5,6] [0,1],(ro 7 rfl (xX H 1 [pp b171 0] sizeOf234 fun w173 H=>⟨H.pick [4,5,6] [0,1],(ro 8 rfl (xX H 2 [Sv (aa b164 0) parts.length parts.length] sizeOf24 fun w174 H=>⟨H.pick [4,5,6] [0,1],(xg qh ((meet ⟨_,b169,b165,b164,b171,uE5,N,H.pick [2,1,3,0,4,5,6] [0,1]⟩)))⟩))⟩))⟩))⟩)))⟩
  refine r_have (fun ρ w178=>∃ (zl:Env) (b175:Nat) (b176:Nat),ρ=upd (upd (upd (upd (upd (upd zl 0 (Sv ab b.length cb)) 4 (pp b3 0)) 5 (pp b5 0)) 9 (pp b175 0)) 10 (pp b176 0)) 24 (yI parts.length)∧Fresh w.heap.size []∧St w w178 [.box b176 [yN] 24,.box b175 [.pointer none] 234,.box b5 [.func (.func 211) #[] #[pp b1 0]] 162,.box b3 [Sv xZ parts.length xQ] 29,.box b1 [Sv xZ parts.length xQ] 29] [sF false Fb ab cb b,sF false Fparts xZ xQ parts]) 5 #[false,false,true,true,false,true,true,false,false] ?_ fun L177=>?_
  ·skip
   rintro ρ w179 ⟨zl,b175,b176,rfl,N,H⟩
   refine zH [0,4] qh qm (vg rfl ?_ (vg rfl ?_ zI))
   ·skip
    refine xP [yN] [] (⟨H.pick [2,3,4] [0,1],(Xf L112 ⟨_,b175,b176,uE7,N,H⟩)⟩)
   refine zf H underlying24 ti2 parts.length rfl rfl qf qf qf fun b180 w181 H=>⟨H.pick [3,4,5] [0,1],(ro 0 rfl (xP [yN] [] (⟨H.pick [3,4,5] [0,1],(ro 1 rfl (vF H [yN] fun b182 w183 H=>⟨H.pick [4,5,6] [0,1],(ro 7 rfl (xX H 3 [pp b182 0] sizeOf234 fun w184 H=>⟨H.pick [4,5,6] [0,1],(ro 8 rfl (xX H 2 [Sv (aa b180 0) parts.length parts.length] sizeOf24 fun w185 H=>⟨H.pick [4,5,6] [0,1],(xg qh ((meet ⟨_,b175,b176,b180,b182,uE5,N,H.pick [2,3,1,0,4,5,6] [0,1]⟩)))⟩))⟩))⟩))⟩)))⟩
  refine tL 2 rfl rfl (fun _ h=>h.cell 1 rfl rfl) H ?_
  refine tN 3 rfl rfl H ?_
  refine zH [0,4,5,6] qh qm (vg rfl ?_ (vg rfl ?_ (vg rfl ?_ (vg rfl ?_ zI))))
  ·skip
   refine xP [yN] [] (⟨H,(zH [1,4,5,6] qh qm (vg rfl ?_ (vg rfl ?_ (vg rfl ?_ (vg rfl ?_ zI)))))⟩)
   ·skip
    refine vF H [yN] fun b186 w187 H=>⟨H.pick [1,2,3] [0,1],(zH [4,5,6] qh qm (vg rfl ?_ (vg rfl ?_ (vg rfl ?_ zI))))⟩
    ·skip
     refine zf H underlying24 ti2 parts.length rfl rfl qf qf qf fun b188 w189 H=>⟨H.pick [2,3,4] [0,1],(Xf L35 ⟨_,b186,b188,uE5,N,H⟩)⟩
    ·skip
     refine xx H ti234 [.pointer none] fun b190 w191 H=>⟨H.pick [2,3,4] [0,1],(Xf L52 ⟨_,b186,b190,uE6,N,H⟩)⟩
    refine xx H ti24 [yN] fun b192 w193 H=>⟨H.pick [2,3,4] [0,1],(Xf L65 ⟨_,b186,b192,uE6,N,H⟩)⟩
   ·skip
    refine zf H underlying24 ti2 parts.length rfl rfl qf qf qf fun b194 w195 H=>⟨H.pick [1,2,3] [0,1],(Xf L124 ⟨_,b194,uE5,N,H⟩)⟩
   ·skip
    refine xx H ti234 [.pointer none] fun b196 w197 H=>⟨H.pick [1,2,3] [0,1],(Xf L134 ⟨_,b196,uE6,N,H⟩)⟩
   refine xx H ti24 [yN] fun b198 w199 H=>⟨H.pick [1,2,3] [0,1],(Xf L144 ⟨_,b198,uE6,N,H⟩)⟩
  ·skip
   refine zf H underlying24 ti2 parts.length rfl rfl qf qf qf fun b200 w201 H=>⟨H.pick [1,2,3] [0,1],(zH [0,5,6] qh qm (vg rfl ?_ (vg rfl ?_ (vg rfl ?_ zI))))⟩
   ·skip
    refine xP [yN] [] (⟨H.pick [1,2,3] [0,1],(Xf L124 ⟨_,b200,uE5,N,H⟩)⟩)
   ·skip
    refine xx H ti234 [.pointer none] fun b202 w203 H=>⟨H.pick [2,3,4] [0,1],(Xf L155 ⟨_,b200,b202,uE5,N,H⟩)⟩
   refine xx H ti24 [yN] fun b204 w205 H=>⟨H.pick [2,3,4] [0,1],(Xf L166 ⟨_,b200,b204,uE5,N,H⟩)⟩
  ·skip
   refine xx H ti234 [.pointer none] fun b206 w207 H=>⟨H.pick [1,2,3] [0,1],(zH [0,4,6] qh qm (vg rfl ?_ (vg rfl ?_ (vg rfl ?_ zI))))⟩
   ·skip
    refine xP [yN] [] (⟨H.pick [1,2,3] [0,1],(Xf L134 ⟨_,b206,uE6,N,H⟩)⟩)
   ·skip
    refine zf H underlying24 ti2 parts.length rfl rfl qf qf qf fun b208 w209 H=>⟨H.pick [2,3,4] [0,1],(Xf L155 ⟨_,b208,b206,uE5,N,H.pick [1,0,2,3,4] [0,1]⟩)⟩
   refine xx H ti24 [yN] fun b210 w211 H=>⟨H.pick [2,3,4] [0,1],(Xf L177 ⟨_,b206,b210,uE6,N,H⟩)⟩
  refine xx H ti24 [yN] fun b212 w213 H=>⟨H.pick [1,2,3] [0,1],(zH [0,4,5] qh qm (vg rfl ?_ (vg rfl ?_ (vg rfl ?_ zI))))⟩
  ·skip
   refine xP [yN] [] (⟨H.pick [1,2,3] [0,1],(Xf L144 ⟨_,b212,uE6,N,H⟩)⟩)
  ·skip
   refine zf H underlying24 ti2 parts.length rfl rfl qf qf qf fun b214 w215 H=>⟨H.pick [2,3,4] [0,1],(Xf L166 ⟨_,b214,b212,uE5,N,H.pick [1,0,2,3,4] [0,1]⟩)⟩
  refine xx H ti234 [.pointer none] fun b216 w217 H=>⟨H.pick [2,3,4] [0,1],(Xf L177 ⟨_,b216,b212,uE6,N,H.pick [1,0,2,3,4] [0,1]⟩)⟩
 clear H N
 rintro ρ w218 ⟨zl,b13,b14,b15,b16,rfl,N,H⟩
 refine t_n (zcr (sw (xx H ti237 [.nilFunc] fun b219 w220 H=>zjc (sp (.func (.func 229) #[] #[pp b3 0,pp b5 0,pp b13 0,pp b14 0,pp b219 0]) (sw (xX H 0 [.func (.func 229) #[] #[pp b3 0,pp b5 0,pp b13 0,pp b14 0,pp b219 0]] sizeOf237 fun w221 H=>zjc (oL rfl (H.cell 0 rfl rfl) (sp (Sv ab b.length cb) ?_))))))))
 replace H:=H.nilRow 24 1
 replace H:=H.jD (α:=yLI)
 have H1:St w w221 [.box b3 [Sv xZ parts.length xQ] 29,.box b5 [.func (.func 211) #[] #[pp b1 0]] 162,.box b1 [Sv xZ parts.length xQ] 29,.box b13 [pp b16 0] 234,.box b16 [yN] 236,.box b14 [Sv (aa b15 0) parts.length parts.length] 24,.box b219 [.func (.func 229) #[] #[pp b3 0,pp b5 0,pp b13 0,pp b14 0,pp b219 0]] 237,rr none 0 0 24 1 [],rr (aa b15 0) parts.length parts.length 2 1 ((List.replicate parts.length (0:Int)).map (Value.int .i64))] [sF false Fb ab cb b,sF false Fparts xZ xQ parts,qX true [] [] ([]:yLL)]:=H.pick [7,6,8,3,5,2,1,0,4] [1,2,0]
 have N1:Fresh _ [[]]:=N.emp
 have K1:Kept [] []:=Kept.nil _
 refine sw (xR #[yI 0,Sv ab b.length cb,pp b3 0,pp b5 0,pp b13 0,pp b14 0,pp b219 0] rfl rfl call229 (packFrom_ok parts.length 0 b parts ([]:yLL) (List.replicate parts.length (0:Int)) ab cb Fb xZ xQ Fparts b3 b5 b1 b13 b16 b14 b219 none 0 0 [] [] (aa b15 0) parts.length parts.length H1 N1 K1 qf (by first | assumption | exact u4) (by first | assumption | exact j3 | (simp;done)) (by first | assumption | (rw [List.length_set];exact j1) | (simp;done))) ?_)
 clear H H1 N1 K1
 rintro _ w222 ⟨zl226,ra227,rn228,rc229,rx230,rF231,hx224,hx225,rfl,N,H⟩
 obtain rfl:=H.zi (α:=yLI) 7 rfl 2 rfl qj
 refine zjc (oL rfl (H.cell 3 rfl rfl) (sw (vC #[pp b16 0] rfl rfl call231 (en func231 ntmps231 ?_))))
 refine zcr (sps [yN,yI 0] (zjcc (sps [pp b16 0,pp b16 0] (oF rfl (oL rfl (H.cell 4 rfl rfl) (oN rfl (sp (Bv (decide (((gath ([]:yLL) (begins ((List.replicate parts.length (0:Int)).take 0) (packs parts (parts.length - 0) 0 b))).length:Int) > 2000))) (zjn (cD rfl (fun h232=>?_) (fun h232=>?_))))))))))
 ·skip
  refine zcr (sps [yN,yI 3] (zjr (t_r (ret2 yN (yI 3) rfl rfl rfl ⟨_,rfl,(sps [yN,yI 3,yN,yI 3] (zjr (ret2 yN (yI 3) rfl rfl rfl ⟨_,rfl,?_⟩)))⟩))))
  replace H:=H.erases [8,7,6,5,4,3,1,0]
  dsimp only [ja,List.eraseIdx] at H
  refine sps [yN,yI 3,yN,yI 3] (zjr ?_)
  replace H:=H.nilRow 24 1
  replace H:=H.jD (α:=yLI)
  refine ret2 yN (yI 3) rfl rfl rfl ⟨_,rfl,?_,H.base⟩
  first | rw [all_a ql] | rw [all_bI (cs:=(List.replicate parts.length (0:Int))) ql qf]
  exact ⟨none,0,0,[],[],rfl,(N.emp.pick [0]),H.pick [0] [0]⟩
 refine xe (t_n (zcr (sps [pp b16 0,pp b16 0] (oF rfl (oL rfl (H.cell 4 rfl rfl) (sps [Sv ra227 ((gath ([]:yLL) (begins ((List.replicate parts.length (0:Int)).take 0) (packs parts (parts.length - 0) 0 b))).length) rc229,yI 0] (zjr (ret2 (Sv ra227 ((gath ([]:yLL) (begins ((List.replicate parts.length (0:Int)).take 0) (packs parts (parts.length - 0) 0 b))).length) rc229) (yI 0) rfl rfl rfl ⟨_,rfl,?_⟩))))))))
 refine sps [Sv ra227 ((gath ([]:yLL) (begins ((List.replicate parts.length (0:Int)).take 0) (packs parts (parts.length - 0) 0 b))).length) rc229,yI 0,Sv ra227 ((gath ([]:yLL) (begins ((List.replicate parts.length (0:Int)).take 0) (packs parts (parts.length - 0) 0 b))).length) rc229,yI 0] (zjr (ret2 (Sv ra227 ((gath ([]:yLL) (begins ((List.replicate parts.length (0:Int)).take 0) (packs parts (parts.length - 0) 0 b))).length) rc229) (yI 0) rfl rfl rfl ⟨_,rfl,?_⟩))
 replace H:=H.erases [8,6,5,4,3,1,0]
 dsimp only [ja,List.eraseIdx] at H
 refine sps [Sv ra227 ((gath ([]:yLL) (begins ((List.replicate parts.length (0:Int)).take 0) (packs parts (parts.length - 0) 0 b))).length) rc229,yI 0,Sv ra227 ((gath ([]:yLL) (begins ((List.replicate parts.length (0:Int)).take 0) (packs parts (parts.length - 0) 0 b))).length) rc229,yI 0] (zjr (ret2 (Sv ra227 ((gath ([]:yLL) (begins ((List.replicate parts.length (0:Int)).take 0) (packs parts (parts.length - 0) 0 b))).length) rc229) (yI 0) rfl rfl rfl ⟨_,rfl,?_,H.base⟩))
 rw [all_0I (cs:=(List.replicate parts.length (0:Int))) ql qf]
 exact ⟨ra227,(gath ([]:yLL) (begins ((List.replicate parts.length (0:Int)).take 0) (packs parts (parts.length - 0) 0 b))).length,rc229,rx230,rF231,rfl,N,H.pick [1] [2]⟩
theorem compareL_ok (w:World) (a:yLI) (b:yLI) (aa:yOA) (ca:Nat) (Fa:yLN) (ab:yOA) (cb:Nat) (Fb:yLN) (ha:qU.rep w Fa [Sv aa a.length ca] a) (hb:qU.rep w Fb [Sv ab b.length cb] b):Calls Tryz.prog 149 #[Sv aa a.length ca,Sv ab b.length cb] w (Ret (fun v w' =>v=yI (cmpL a b)∧w' =w) w):=by
 refine en func149 ntmps149 ?_
 have H:=((St.start w).arg hb).arg ha
 have nha:=qQ ha
 have nhb:=qQ hb
 clear ha hb
 have N:=Fresh.nil w.heap.size
 refine zcr (sp (yI 0) (zjcc (sp (Sv aa a.length ca) (oN rfl (sp (yI 0) (zjn (qZ ?_)))))))
 refine zU (fun m' ρ w1=>∃ (zl:Env) (i:Nat),ρ=upd (upd (upd (upd (upd zl 0 (Sv aa a.length ca)) 1 (Sv ab b.length cb)) 9 (Sv aa a.length ca)) 10 (yI a.length)) 11 (yI i)∧((i:Int)≤a.length)∧(w1=w)∧(cmpL a b=cmpL (a.drop i) (b.drop i))∧(i≤b.length)∧m' =(a.length - (i:Int)).toNat∧Fresh w.heap.size []∧St w w1 [] [sF false Fa aa ca a,sF false Fb ab cb b]) ((a.length - (0:Int)).toNat) ⟨_,0,uE5,qf,(by rfl),(by rfl),qf,rfl,N,H⟩ ?_
 clear H N
 rintro m' ρ w2 ⟨zl,i,rfl,i0,wk,i1,i2,rfl,N,H⟩
 refine zcr (sp (Bv (decide ((i:Int) < a.length))) (zjn (zg (cD rfl (fun h3=>?_) (fun h3=>?_)))))
 ·skip
  refine xe (t_n (zg (qZ (zcr (sp (yI i) ?_)))))
  obtain ⟨b4,o5,rfl⟩:=H.addr 0 rfl qf
  refine oI rfl rfl (oL rfl (H.jg 0 rfl i qf qf) (sps [yI i,yI (a[i]!)] (zjcc (sps [yI i,Sv ab b.length cb] (oN rfl (sp (Bv (decide ((i:Int)≥b.length))) (zjn (cD rfl (fun h7=>?_) (fun h7=>?_)))))))))
  ·skip
   refine zcr (sp (yI 1) (zjr (t_r (zr5 (ret1 (yI 1) rfl rfl ⟨_,rfl,(⟨?_,wk⟩),H.base⟩)))))
   rw [i1,show cmpL (a.drop i) (b.drop i)=1 by first | exact cmp_a qf qf | exact cmp_e qf qf ‹_›]
  refine xe (t_n (zcr (sps [Sv ab b.length cb,yI i] ?_)))
  obtain ⟨b8,o9,rfl⟩:=H.addr 1 rfl qf
  refine oI rfl rfl (oL rfl (H.jg 1 rfl i qf qf) (sp (yI (b[i]!)) (zjc (sps [yI (a[i]!),yI (b[i]!)] (sw (vC #[yI (a[i]!),yI (b[i]!)] rfl rfl call191 (en func191 ntmps191 ?_)))))))
  refine zcr (sp (yI 0) (zjc (sp (yI (a[i]!)) (sw (vC #[yI (a[i]!)] rfl rfl call221 (en func221 ntmps221 ?_))))))
  refine zcr (sp (Bv false) (zjc (sps [yI (a[i]!),yI (a[i]!),Bv ((a[i]! :Int) != (a[i]!)),Bv ((a[i]! :Int) != (a[i]!))] (zjr (ret1 (Bv ((a[i]! :Int) != (a[i]!))) rfl rfl ⟨_,rfl,(sp (Bv ((a[i]! :Int) != (a[i]!))) (zjc (sp (yI (b[i]!)) (sw (vC #[yI (b[i]!)] rfl rfl call221 (en func221 ntmps221 ?_))))))⟩)))))
  refine zcr (sp (Bv false) (zjc (sps [yI (b[i]!),yI (b[i]!),Bv ((b[i]! :Int) != (b[i]!)),Bv ((b[i]! :Int) != (b[i]!))] (zjr (ret1 (Bv ((b[i]! :Int) != (b[i]!))) rfl rfl ⟨_,rfl,(sp (Bv ((b[i]! :Int) != (b[i]!))) (zjcc (sp (Bv ((a[i]! :Int) != (a[i]!))) (zjn (xI ((a[i]! :Int) != (a[i]!)) rfl (fun h=>absurd rfl (bne_iff_ne.1 h)) (fun h11=>?_))))))⟩)))))
  replace h11:=zh h11
  refine xe (t_n (zcc (sp (Bv ((b[i]! :Int) != (b[i]!))) (zjn (xI ((b[i]! :Int) != (b[i]!)) rfl (fun h=>absurd rfl (bne_iff_ne.1 h)) (fun h12=>?_))))))
  replace h12:=zh h12
  refine xe (t_n (zcc (sps [yI (a[i]!),yI (b[i]!),Bv (decide ((a[i]! :Int) < (b[i]!)))] (zjn (cD rfl (fun h13=>?_) (fun h13=>?_))))))
  ·skip
   refine zcr (sp (yI (-1)) (zjr (t_r (ret1 (yI (-1)) rfl rfl ⟨_,rfl,(sp (yI (-1)) (zjc (sps [yI (-1),Bv true] (zjn (xI true rfl (fun _=>zcr (sps [yI (-1),yI (-1)] (zjr (zr5 (ret1 (yI (-1)) rfl rfl ⟨_,rfl,(⟨?_,wk⟩),H.base⟩))))) (fun h=>absurd h qj))))))⟩))))
   rw [i1,show cmpL (a.drop i) (b.drop i)= -1 by first | exact cmp_b qf qf | exact cmp_d qf qf ‹_›]
  refine xe (t_n (zcc (sps [yI (a[i]!),yI (b[i]!),Bv (decide ((a[i]! :Int) > (b[i]!)))] (zjn (cD rfl (fun h14=>?_) (fun h14=>?_))))))
  ·skip
   refine zcr (sp (yI 1) (zjr (t_r (ret1 (yI 1) rfl rfl ⟨_,rfl,(sp (yI 1) (zjc (sps [yI 1,Bv true] (zjn (xI true rfl (fun _=>zcr (sps [yI 1,yI 1] (zjr (zr5 (ret1 (yI 1) rfl rfl ⟨_,rfl,(⟨?_,wk⟩),H.base⟩))))) (fun h=>absurd h qj))))))⟩))))
   rw [i1,show cmpL (a.drop i) (b.drop i)=1 by first | exact cmp_a qf qf | exact cmp_e qf qf ‹_›]
  refine xe (t_n (zcr (sp (yI 0) (zjr (ret1 (yI 0) rfl rfl ⟨_,rfl,(sp (yI 0) (zjc (sps [yI 0,Bv false] (zjn (xI false rfl (fun h=>absurd h qj) (fun _=>xe (b_n (t_n (zn (sw (zN i 1 rfl rfl qf (sp (yI (i+1)) (zo (xm (m' :=(a.length - ((i+1):Int)).toNat) qf ⟨_,i+1,uE5,?_,?_,?_,?_,rfl,N,H⟩))))))))))))))⟩)))))
  · omega
  · exact wk
  · exact i1.trans (cmp_f qf qf ‹_› ‹_›)
  · omega
 refine zx4 (zcc (sp (Sv aa a.length ca) (oN rfl (sp (Sv ab b.length cb) (oN rfl (sp (Bv (decide ((a.length:Int) < b.length))) (zjn (cD rfl (fun h15=>?_) (fun h15=>?_)))))))))
 ·skip
  refine zcr (sp (yI (-1)) (zjr (t_r (ret1 (yI (-1)) rfl rfl ⟨_,rfl,(⟨?_,wk⟩),H.base⟩))))
  rw [i1,show cmpL (a.drop i) (b.drop i)= -1 by first | exact cmp_b qf qf | exact cmp_d qf qf ‹_›]
 refine xe (t_n (zcr (sp (yI 0) (zjr (ret1 (yI 0) rfl rfl ⟨_,rfl,(⟨?_,wk⟩),H.base⟩)))))
 rw [i1,cmp_c qf qf]
end
end Go.Proofs.YtcpnclokildllaaGreat
