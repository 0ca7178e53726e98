/- Walks and laws, printed by program and by hand: what each function comes to, for all arguments, part 5. -/
import Derived.Test.YtcpnclokildllaaGreatA4
namespace Go.Proofs.YtcpnclokildllaaGreat
set_option linter.unusedVariables false
set_option linter.unusedSimpArgs false
open Go.Proofs.YtcpnclokildllaaGreat.Tot (tot)
open Go.Proofs.YtcpnclokildllaaGreat.Mark (cnt mrk mkd mkd_mark cnt_mark)
section
open Go.Proofs.Tryz
open Go.RowKit
set_option linter.unusedVariables false
set_option linter.unusedSimpArgs false
set_option maxRecDepth 100000
set_option maxHeartbeats 4000000
def sortL_ren:Go.Shelf.Ren:=⟨fun | 6=>148 | 15=>182 | 14=>190 | 28=>208 | 29=>209 | 20=>213 | 21=>214 | 22=>215 | 23=>216 | 24=>217 | 25=>218 | 26=>219 | 27=>220 | 46=>233 | 47=>224 | 48=>225 | 49=>234 | 50=>235 | 57=>238 | n=>n,fun | 22=>29 | 24=>24 | 25=>172 | 3=>3 | 39=>195 | 0=>0 | 53=>218 | 55=>125 | 4=>4 | 46=>211 | 45=>210 | 50=>215 | 5=>5 | 9=>9 | 66=>227 | 70=>231 | 76=>241 | 77=>242 | n=>n,fun | n=>n⟩
theorem sortL:Go.Proofs.SlLaysF.n6 Tryz.prog sortL_ren:={
  mixed:=by kernel_rfl
  f6:=⟨Tryz.f148.name,by decide,Tryz.func148.trans (congrArg some (by kernel_rfl))⟩
  f14:=⟨Tryz.f190.name,by decide,Tryz.func190.trans (congrArg some (by kernel_rfl))⟩
  f15:=Tryz.func182.trans (congrArg some (by kernel_rfl))
  f20:=⟨Tryz.f213.name,by decide,Tryz.func213.trans (congrArg some (by kernel_rfl))⟩
  f21:=⟨Tryz.f214.name,by decide,Tryz.func214.trans (congrArg some (by kernel_rfl))⟩
  f22:=⟨Tryz.f215.name,by decide,Tryz.func215.trans (congrArg some (by kernel_rfl))⟩
  f23:=⟨Tryz.f216.name,by decide,Tryz.func216.trans (congrArg some (by kernel_rfl))⟩
  f24:=⟨Tryz.f217.name,by decide,Tryz.func217.trans (congrArg some (by kernel_rfl))⟩
  f25:=⟨Tryz.f218.name,by decide,Tryz.func218.trans (congrArg some (by kernel_rfl))⟩
  f26:=⟨Tryz.f219.name,by decide,Tryz.func219.trans (congrArg some (by kernel_rfl))⟩
  f27:=⟨Tryz.f220.name,by decide,Tryz.func220.trans (congrArg some (by kernel_rfl))⟩
  f28:=Tryz.func208.trans (congrArg some (by kernel_rfl))
  f29:=Tryz.func209.trans (congrArg some (by kernel_rfl))
  f46:=⟨Tryz.f233.name,by decide,Tryz.func233.trans (congrArg some (by kernel_rfl))⟩
  f47:=Tryz.func224.trans (congrArg some (by kernel_rfl))
  f48:=Tryz.func225.trans (congrArg some (by kernel_rfl))
  f49:=⟨Tryz.f234.name,by decide,Tryz.func234.trans (congrArg some (by kernel_rfl))⟩
  f50:=⟨Tryz.f235.name,by decide,Tryz.func235.trans (congrArg some (by kernel_rfl))⟩
  f57:=⟨Tryz.f238.name,by decide,Tryz.func238.trans (congrArg some (by kernel_rfl))⟩
  t0:=Tryz.underlying0
  a0:=Tryz.isAgg0
  z0:=Tryz.sizeOf0
  v0:=Tryz.zeroValue0
  t3:=Tryz.underlying3
  a3:=Tryz.isAgg3
  z3:=Tryz.sizeOf3
  v3:=Tryz.zeroValue3
  t4:=Tryz.underlying4
  a4:=Tryz.isAgg4
  z4:=Tryz.sizeOf4
  v4:=Tryz.zeroValue4
  t5:=Tryz.underlying5
  a5:=Tryz.isAgg5
  z5:=Tryz.sizeOf5
  v5:=Tryz.zeroValue5
  t9:=Tryz.underlying9
  a9:=Tryz.isAgg9
  z9:=Tryz.sizeOf9
  v9:=Tryz.zeroValue9
  t22:=Tryz.underlying29
  a22:=Tryz.isAgg29
  z22:=Tryz.sizeOf29
  v22:=Tryz.zeroValue29
  a24:=Tryz.isAgg24
  z24:=Tryz.sizeOf24
  t25:=Tryz.underlying172
  a25:=Tryz.isAgg172
  z25:=Tryz.sizeOf172
  v25:=Tryz.zeroValue172
  t39:=Tryz.underlying195
  a39:=Tryz.isAgg195
  z39:=Tryz.sizeOf195
  v39:=Tryz.zeroValue195
  t45:=Tryz.underlying210
  a45:=Tryz.isAgg210
  z45:=Tryz.sizeOf210
  v45:=Tryz.zeroValue210
  t46:=Tryz.underlying211
  a46:=Tryz.isAgg211
  z46:=Tryz.sizeOf211
  v46:=Tryz.zeroValue211
  t50:=Tryz.underlying215
  a50:=Tryz.isAgg215
  z50:=Tryz.sizeOf215
  v50:=Tryz.zeroValue215
  t53:=Tryz.underlying218
  a53:=Tryz.isAgg218
  z53:=Tryz.sizeOf218
  v53:=Tryz.zeroValue218
  t55:=Tryz.underlying125
  a55:=Tryz.isAgg125
  z55:=Tryz.sizeOf125
  v55:=Tryz.zeroValue125
  t66:=Tryz.underlying227
  a66:=Tryz.isAgg227
  z66:=Tryz.sizeOf227
  v66:=Tryz.zeroValue227
  t70:=Tryz.underlying231
  a70:=Tryz.isAgg231
  z70:=Tryz.sizeOf231
  v70:=Tryz.zeroValue231
  t76:=Tryz.underlying241
  a76:=Tryz.isAgg241
  z76:=Tryz.sizeOf241
  v76:=Tryz.zeroValue241
  t77:=Tryz.underlying242
  a77:=Tryz.isAgg242
  z77:=Tryz.sizeOf242
  v77:=Tryz.zeroValue242 }
theorem cmpSort (W:World) (x y:yLI) (a:yOA) (c:Nat) (F:yLN) (a' :yOA) (c' :Nat) (F' :yLN) (hx:qU.rep W F [Sv a x.length c] x) (hy:qU.rep W F' [Sv a' y.length c'] y):
    Calls Tryz.prog 149 #[Sv a x.length c,Sv a' y.length c'] W fun e w' =>e=.returned (yI (cmpL x y))∧w' =W:=
  (compareL_ok W x y a c F a' c' F' hx hy).mono fun _ _ ⟨_,he,⟨hv,hw⟩,_⟩=>⟨he.trans (by rw [hv]),hw⟩

theorem choices_ok (w:World) (s:qy) (t:qA) {qC:yOA} {qB:Nat} {qY:yLN} {qK:yOA} {qI:Nat} {xK:yLN} {qR:yOA} {qP:Nat} {zq:yLN} {xq:yOA} {xn:Nat} {zX:yLN} {qN:yOA} {qM:Nat} {xN:yLN} (qW:qU.rep w qY [Sv qC s.qw.length qB] s.qw) (xF:qU.rep w xK [Sv qK s.qx.length qI] s.qx) (zy:qU.rep w zq [Sv qR t.qF.length qP] t.qF) (ve:qU.rep w zX [Sv xq t.qG.length xn] t.qG) (xW:qU.rep w xN [Sv qN t.qH.length qM] t.qH) (p0:vw s) (p1:xJ s t):Calls Tryz.prog 81 #[.agg #[yI s.xf,Sv qC s.qw.length qB,Sv qK s.qx.length qI],.agg #[Sv qR t.qF.length qP,Sv xq t.qG.length xn,Sv qN t.qH.length qM]] w (Ret (fun v w' =>∃ (ra0:yOA) (rn0:Nat) (rc0:Nat) (rx0:List Value) (rF0:yLN),v=.tuple #[Sv ra0 rn0 rc0,yI ((Qd s t).2)]∧Fresh w.heap.size [rF0]∧St w w' [rr ra0 rn0 rc0 24 1 rx0] [qX true rF0 rx0 ((Qd s t).1)]) w):=by
 refine en func81 ntmps81 ?_
 have H:=(((((St.start w).arg xW).arg ve).arg zy).arg xF).arg qW
 have vH:=qQ qW
 have jM:=qQ xF
 have Qg:=qQ zy
 have QZ:=qQ ve
 have yC:=qQ xW
 clear qW xF zy ve xW
 have N:=Fresh.nil w.heap.size
 have A:=H.ltN (L:=[qY,xK,zq,zX,xN]) [0,1,2,3,4]
 have p2:=p0.2.1
 have p3:=p0.1.2.1
 have p4:=p1.1
 have p5:=p1.2.1
 refine zcr (sw (vF H (yS s qC qB qK qI) fun b1 w2 H=>sw (vF H (yT t qR qP xq xn qN qM) fun b3 w4 H=>sps [yN,yI 0] (zjc (sw (zB (yS s qC qB qK qI) isAgg27 sizeOf27 rfl (qJ (H.cells 1 rfl) 0 3) ?_))))))
 refine sw (zB (yT t qR qP xq xn qN qM) isAgg31 sizeOf31 rfl (qJ (H.cells 0 rfl) 0 3) (sw (vC #[.agg #[yI s.xf,Sv qC s.qw.length qB,Sv qK s.qx.length qI],.agg #[Sv qR t.qF.length qP,Sv xq t.qG.length xn,Sv qN t.qH.length qM]] rfl rfl call147 (en func147 ntmps147 ?_))))
 refine zcr (sw (vF H (yS s qC qB qK qI) fun b5 w6 H=>sw (vF H (yT t qR qP xq xn qN qM) fun b7 w8 H=>sps [yN,yI 0] (zjc (oF rfl (oL rfl (H.cell 1 rfl rfl) (oN rfl (sw (o_makeZ (⟨[]⟩:OwnI 2) H underlying29 ti24 qj (fun _=>⟨yN,rfl,Or.inl ⟨rfl,rfl,rfl⟩⟩) s.qw.length rfl rfl qf qf qf fun b9 w10 xs11 H=>?_)))))))))
 refine sp (Sv (aa b9 0) s.qw.length s.qw.length) (zjcc (sw (zB (yS s qC qB qK qI) isAgg27 sizeOf27 rfl (qJ (H.cells 2 rfl) 0 3) (sw (zB (yT t qR qP xq xn qN qM) isAgg31 sizeOf31 rfl (qJ (H.cells 1 rfl) 0 3) ?_)))))
 have sz15:=H.base.size
 refine sw (oc (applicable_ok _ s t (H.get 1 rfl).1 (H.get 2 rfl).1 (H.get 3 rfl).1 (H.get 4 rfl).1 (H.get 5 rfl).1 qg qg) ?_)
 rintro _ w13 ⟨ra12,rn12,rc12,rfl,M,K⟩ _
 replace H:=H.merge K M
 obtain rfl:=H.vM 0 rfl
 have al:(appls s t).length≤s.qx.length:=applL_le s t s.qx.length
 refine oN rfl (sp (yI 0) (zjn (qZ ?_)))
 refine zU (fun m' ρ w18=>∃ (zl:Env) (k:Nat) (own:List (OwnI 2)) (x_own:List Value) (F_own:yLN),ρ=upd (upd (upd (upd (upd (upd zl 2 (pp b5 0)) 3 (pp b7 0)) 6 (Sv (aa b9 0) s.qw.length s.qw.length)) 24 (Sv ra12 ((appls s t).length) rc12)) 25 (yI ((appls s t).length))) 26 (yI k)∧own=(ownL 2 s t s.qw.length k)∧((k:Int)≤((appls s t).length))∧m' =(((appls s t).length) - (k:Int)).toNat∧Fresh w.heap.size [F_own]∧St w w18 [rr ra12 ((appls s t).length) rc12 2 1 ((appls s t).map (Value.int .i64)),rr (aa b9 0) s.qw.length s.qw.length 24 1 x_own,.box b7 (yT t qR qP xq xn qN qM) 31,.box b5 (yS s qC qB qK qI) 27,.box b3 (yT t qR qP xq xn qN qM) 31,.box b1 (yS s qC qB qK qI) 27] [qX true F_own x_own own,sF false qY qC qB s.qw,sF false xK qK qI s.qx,sF false zq qR qP t.qF,sF false zX xq xn t.qG,sF false xN qN qM t.qH]) ((((appls s t).length) - (0:Int)).toNat) ⟨_,0,(List.replicate s.qw.length (⟨[]⟩:OwnI 2)),xs11,[],uE6,(by exact ownL_zero 2 s t _),qf,rfl,N.emp,H⟩ ?_
 clear H N
 rintro m' ρ w19 ⟨zl,k,own,x_own,F_own,rfl,rfl,i0,rfl,N,H⟩
 have hn_own:=H.zi (α:=OwnI 2) 1 rfl 0 rfl qj
 have ol:=ownL_len 2 s t s.qw.length k
 refine zcr (sp (Bv (decide ((k:Int) < ((appls s t).length)))) (zjn (zg (cD rfl (fun h20=>?_) (fun h20=>?_)))))
 ·skip
  obtain ⟨a0,a1,a2⟩:=appls_inH (s:=s) (t:=t) (q:=k) qf
  have q:=p0.rule (i:=((appls s t)[k]!).toNat) qf
  have qc:=q.1
  have qk:(s.qx[((appls s t)[k]!).toNat]!).qE.toNat < s.qw.length:=q.cell
  have le:=ownL_le (e:=2) (s:=s) (t:=t) (n:=s.qw.length) (q:=k) (c:=(s.qx[((appls s t)[k]!).toNat]!).qE.toNat) qf
  have sm:=vG (p1.2.2.2.2 (s.qx[((appls s t)[k]!).toNat]!).qE.toNat qf).1
  refine xe (t_n (zg (qZ (zcr ?_))))
  obtain ⟨b21,rfl⟩:=H.Qc 0 rfl qf
  refine oI rfl rfl (oL rfl (H.rowInt 0 rfl (iv:=k) (i:=k) qf qf) (sp (yI ((appls s t)[k]!)) (zjc (oF rfl (oL rfl (H.cell 3 rfl rfl) (sp (yI ((appls s t)[k]!)) ?_))))))
  obtain ⟨b22,o23,rfl⟩:=H.addr 2 rfl qf
  obtain ⟨ae25Need,ce25Need,Fe25Need,ae25Have,ce25Have,Fe25Have,ae25Lack,ce25Lack,Fe25Lack,ae25Here,ce25Here,Fe25Here,ae25Out,ce25Out,Fe25Out,ae25Into,ce25Into,Fe25Into,H⟩:=H.yY 2 rfl ((appls s t)[k]!) (((appls s t)[k]!).toNat) qf qf qf
  refine oI rfl rfl (oF rfl (oL rfl (H.zu 6 rfl 0 rfl) (sp (yI ((s.qx[((appls s t)[k]!).toNat]!).qE)) (zjcc (oF rfl (oL rfl (H.cell 2 rfl rfl) (sp (yI ((s.qx[((appls s t)[k]!).toNat]!).qE)) ?_)))))))
  obtain ⟨b26,o27,rfl⟩:=H.addr 11 rfl qf
  obtain ⟨ae29,ce29,Fe29,H⟩:=H.jS 11 rfl ((s.qx[((appls s t)[k]!).toNat]!).qE) (((s.qx[((appls s t)[k]!).toNat]!).qE).toNat) qf qf qf
  refine oI rfl rfl (oL rfl (H.zu 1 rfl 0 rfl) (sw (oq (XH _ (t.qG[((s.qx[((appls s t)[k]!).toNat]!).qE).toNat]!) (H.get 0 rfl).1 (by first | assumption | exact vG ql | exact yF ql)) H fun w30 H=>sp (Bv (decide ((QJ (t.qG[((s.qx[((appls s t)[k]!).toNat]!).qE).toNat]!):Int) > 16))) (zjn (cD rfl (fun h32=>?_) (fun h32=>?_))))))
  ·skip
   refine zcr (sps [yN,yI 3] (zjr (t_r (zr5 (ret2 yN (yI 3) rfl rfl rfl ⟨_,rfl,?_⟩)))))
   replace H:=H.erases [3,2,1,0]
   dsimp only [ja,List.eraseIdx] at H
   refine sps [.tuple #[yN,yI 3],yN,yI 3,yN,yI 3] (zjcc (sps [yI 3,Bv true] (zjn (xI true rfl (fun _=>zcr (sps [yI 3,yN,yI 3] (zjr (t_r ?_)))) (fun h=>absurd h qj)))))
   replace H:=H.nilRow 24 1
   replace H:=H.jD (α:=yLI)
   refine ret2 yN (yI 3) rfl rfl rfl ⟨_,rfl,?_,H.base⟩
   first | rw [cho_3 (.inl (own_bad p0 (q:=k) qf qf))] | rw [cho_3 (.inr (prod_stop (G:=(jw s.qx.length (qV s t s.qw.length) (xy s t s.qw.length) k_1)) (r:=((qV s t s.qw.length)[k_1]!)) (k:=k_51+1) (i:=k_1) kn qf (XP _) qf (by rw [← nextX_end (x:=k_52) qf qf];omega)))]
   exact ⟨none,0,0,[],[],rfl,(N.emp.pick [0]),H.pick [0] [0]⟩
  refine xe (t_n (zn (sps [Sv (aa b9 0) s.qw.length s.qw.length,yI ((s.qx[((appls s t)[k]!).toNat]!).qE),Sv (aa b9 0) s.qw.length s.qw.length,yI ((s.qx[((appls s t)[k]!).toNat]!).qE)] (oI rfl rfl ?_))))
  replace N:Fresh w.heap.size [F_own]:=N
  obtain ⟨a33,c34,F35,h36,N,H⟩:=H.openI 1 rfl 9 rfl N (iv:=(s.qx[((appls s t)[k]!).toNat]!).qE) (((s.qx[((appls s t)[k]!).toNat]!).qE).toNat) qf qf [sF false qY qC qB s.qw,sF false xK (aa b22 o23) qI s.qx,sF false zq qR qP t.qF,sF false zX (aa b26 o27) xn t.qG,sF false xN qN qM t.qH] (keepA A N [10,11,12,13,14] rfl rfl)
  refine oL rfl h36 (sp (yI ((appls s t)[k]!)) (sw (zJ H underlying24 ti2 [yI ((appls s t)[k]!)] fun b37 w38 H=>sw (zM H 1 rfl 0 rfl underlying24 ti2 rfl qj rfl rfl rfl (by simp [Value.oneCell',Value.cells]) qp qf fun a39 c40 w41 H=>?_))))
  rw [snocI] at H
  refine oI rfl rfl (sw (o_closeI H 3 rfl 1 qj rfl 0 rfl (c:=(((s.qx[((appls s t)[k]!).toNat]!).qE).toNat)) (N:Fresh w.heap.size [F35]) (H.jJ []) sizeOf24 rfl rfl qf qf fun w42 F43 N H=>zo (b_n (t_n (zn (sw (zN k 1 rfl rfl qf (sp (yI (k+1)) (zo ?_)))))))))
  refine xm (m' :=(((appls s t).length) - ((k+1):Int)).toNat) qf ⟨_,k+1,(((ownL 2 s t s.qw.length k).set (((s.qx[((appls s t)[k]!).toNat]!).qE).toNat) ⟨[]⟩).set (((s.qx[((appls s t)[k]!).toNat]!).qE).toNat) ⟨(((ownL 2 s t s.qw.length k)[((s.qx[((appls s t)[k]!).toNat]!).qE).toNat]!).l++[(appls s t)[k]!])⟩),(x_own.set (((s.qx[((appls s t)[k]!).toNat]!).qE).toNat) (Sv a39 ((((ownL 2 s t s.qw.length k)[((s.qx[((appls s t)[k]!).toNat]!).qE).toNat]!).l.length)+1) c40)),F43,uE6,?_,?_,rfl,N,H.pick [2,3,4,5,6,7] [0,2,3,4,5,6]⟩
  · exact ownL_set qf rfl qf qf (by rw [List.set_set])
  · omega
 refine zx4 (zcr (sw (jR H underlying166 ti170 fun b44 w45 H=>sp (Sv (aa b44 0) 0 0) (zjcc (sp (Sv (aa b9 0) s.qw.length s.qw.length) (oN rfl (sp (yI 0) (zjn (qZ ?_)))))))))
 replace H:=H.ofOwn 0 rfl
 rw [ownL_end qf] at H
 have cl:=cellsR_len s t s.qw.length
 replace H:=H.boxRow 0 rfl 2 0 rfl qj
 replace H:=H.jD (α:=inCellD)
 replace H:St _ _ [rr (aa b44 0) 0 0 170 2 [],rr ra12 ((appls s t).length) rc12 2 1 ((appls s t).map (Value.int .i64)),rr (aa b9 0) s.qw.length s.qw.length 24 1 x_own,.box b7 (yT t qR qP xq xn qN qM) 31,.box b5 (yS s qC qB qK qI) 27,.box b3 (yT t qR qP xq xn qN qM) 31,.box b1 (yS s qC qB qK qI) 27] [qX true [] [] ([]:List inCellD),qX true F_own x_own (cellsR s t s.qw.length),qX true F_own x_own (ownL 2 s t s.qw.length k),sF false qY qC qB s.qw,sF false xK qK qI s.qx,sF false zq qR qP t.qF,sF false zX xq xn t.qG,sF false xN qN qM t.qH]:=H
 refine zU (fun m' ρ w46=>∃ (zl:Env) (jH:yOA) (zY:Nat) (vV:Nat) (out:List inCellD) (x_out:List Value) (XO:yLN) (c:Nat),ρ=upd (upd (upd (upd (upd (upd zl 2 (pp b5 0)) 3 (pp b7 0)) 10 (Sv jH zY vV)) 55 (Sv (aa b9 0) s.qw.length s.qw.length)) 56 (yI s.qw.length)) 57 (yI c)∧out=(Qo s t c)∧((c:Int)≤s.qw.length)∧(GoodP s t c)∧m' =(s.qw.length - (c:Int)).toNat∧Fresh w.heap.size [F_own]∧St w w46 [rr jH zY vV 170 2 x_out,rr ra12 ((appls s t).length) rc12 2 1 ((appls s t).map (Value.int .i64)),rr (aa b9 0) s.qw.length s.qw.length 24 1 x_own,.box b7 (yT t qR qP xq xn qN qM) 31,.box b5 (yS s qC qB qK qI) 27,.box b3 (yT t qR qP xq xn qN qM) 31,.box b1 (yS s qC qB qK qI) 27] [qX true XO x_out out,qX true F_own x_own (cellsR s t s.qw.length),qX true F_own x_own (ownL 2 s t s.qw.length k),sF false qY qC qB s.qw,sF false xK qK qI s.qx,sF false zq qR qP t.qF,sF false zX xq xn t.qG,sF false xN qN qM t.qH]) ((s.qw.length - (0:Int)).toNat) ⟨_,(aa b44 0),0,0,([]:List inCellD),[],[],0,uE6,(by rfl),qf,(by exact fun j hj=>by omega),rfl,N,H⟩ ?_
 clear H N
 rintro m' ρ w47 ⟨zl,jH,zY,vV,out,x_out,XO,c,rfl,rfl,i0,gp,rfl,N,H⟩
 have hn_out:=H.zi (α:=inCellD) 0 rfl 0 rfl qj
 have ce:=cells_len s t c
 have rl:=rules_le s t c
 refine zcr (sp (Bv (decide ((c:Int) < s.qw.length))) (zjn (zg (cD rfl (fun h48=>?_) (fun h48=>?_)))))
 ·skip
  refine xe (t_n (zg (qZ (zcr (sp (yI c) (oI rfl rfl ?_))))))
  obtain ⟨a49,c50,G51,s52,h53,H⟩:=H.jV 2 rfl 1 rfl (iv:=c) c qf qf
  refine oL rfl (h53) (sps [yI c,Sv a49 (((cellsR s t s.qw.length)[c]!).length) c50] (zjcc (sp (Sv a49 (((cellsR s t s.qw.length)[c]!).length) c50) (oN rfl (sp (Bv ((((cellsR s t s.qw.length)[c]!).length:Int) == 0)) (zjn (cE rfl (fun h54=>?_) (fun h54=>?_))))))))
  ·skip
   rw [cellsR_get (s:=s) (t:=t) (n:=s.qw.length) (c:=c) qf] at H h54 ⊢
   refine c_exit (t_x (b_x (t_n (zn (sw (zN c 1 rfl rfl qf (sp (yI (c+1)) (zo (xm (m' :=(s.qw.length - ((c+1):Int)).toNat) qf ⟨_,jH,zY,vV,(Qo s t c),x_out,XO,c+1,uE6,?_,?_,?_,rfl,N,H.pick [0,1,2,3,4,5,6] [1,2,3,4,5,6,7,8]⟩)))))))))
   · first | exact cells_yes qf | exact cells_no qf
   · omega
   · exact gp.succ (by first | exact .inl qf | exact .inr (show (vk _ _).2=0 from ‹_›))
  rw [cellsR_get (s:=s) (t:=t) (n:=s.qw.length) (c:=c) qf] at H h54 ⊢
  refine xe (t_n (zcr (sw (jR H underlying29 ti24 fun b55 w56 H=>sp (Sv (aa b55 0) 0 0) (zjcc (sp (Sv a49 ((zG s t c).length) c50) (oN rfl (sp (yI 0) (zjn (qZ ?_))))))))))
  replace H:=H.boxRow 0 rfl 1 0 rfl qj
  replace H:=H.jD (α:=yLI)
  replace H:=H.unfree 0 rfl
  refine zU (fun m' ρ w57=>∃ (zl:Env) (yx:yOA) (jP:Nat) (yw:Nat) (needs:yLL) (Xk:List Value) (X7:yLN) (k_1:Nat),ρ=upd (upd (upd (upd (upd (upd (upd (upd (upd (upd (upd (upd zl 2 (pp b5 0)) 3 (pp b7 0)) 10 (Sv jH zY vV)) 11 (yI c)) 12 (Sv a49 ((zG s t c).length) c50)) 13 (Sv yx jP yw)) 55 (Sv (aa b9 0) s.qw.length s.qw.length)) 56 (yI s.qw.length)) 57 (yI c)) 66 (Sv a49 ((zG s t c).length) c50)) 67 (yI ((zG s t c).length))) 68 (yI k_1)∧needs=(x8 s ((zG s t c).take k_1))∧((k_1:Int)≤((zG s t c).length))∧m' =(((zG s t c).length) - (k_1:Int)).toNat∧Fresh w.heap.size [F_own]∧St w w57 [rr yx jP yw 24 1 Xk,rr jH zY vV 170 2 x_out,rr ra12 ((appls s t).length) rc12 2 1 ((appls s t).map (Value.int .i64)),rr (aa b9 0) s.qw.length s.qw.length 24 1 x_own,.box b7 (yT t qR qP xq xn qN qM) 31,.box b5 (yS s qC qB qK qI) 27,.box b3 (yT t qR qP xq xn qN qM) 31,.box b1 (yS s qC qB qK qI) 27] [qX false X7 Xk needs,sF true G51 a49 c50 (zG s t c),qX true XO x_out (Qo s t c),qX true F_own x_own (cellsR s t s.qw.length),qX true F_own x_own (ownL 2 s t s.qw.length k),sF false qY qC qB s.qw,sF false xK qK qI s.qx,sF false zq qR qP t.qF,sF false zX xq xn t.qG,sF false xN qN qM t.qH]) ((((zG s t c).length) - (0:Int)).toNat) ⟨_,(aa b55 0),0,0,([]:yLL),[],[],0,uE12,(by rfl),qf,rfl,N,H.pick [0,1,2,3,4,5,6,7] [0,2,3,4,5,6,7,8,9,10]⟩ ?_
  clear H N
  rintro m' ρ w58 ⟨zl,yx,jP,yw,needs,Xk,X7,k_1,rfl,rfl,i0,rfl,N,H⟩
  have hn_needs:=H.zi (α:=yLI) 0 rfl 0 rfl qj
  have nl:=Xt s ((zG s t c).take k_1)
  have tl:=List.length_take_le k_1 (zG s t c)
  have cl8:=cellR_len (t:=t) p0 c
  refine zcr (sp (Bv (decide ((k_1:Int) < ((zG s t c).length)))) (zjn (zg (cD rfl (fun h59=>?_) (fun h59=>?_)))))
  ·skip
   obtain ⟨e1,e2,e3,e4⟩:=cellR_at (s:=s) (t:=t) (c:=c) (j:=k_1) qf
   refine xe (t_n (zg (qZ (zcr ?_))))
   obtain ⟨b60,o61,rfl⟩:=H.addr 1 rfl qf
   refine oI rfl rfl (oL rfl (H.jg 1 rfl k_1 qf qf) (sp (yI ((zG s t c)[k_1]!)) (zjn (zn (sp (Sv yx jP yw) (oF rfl (oL rfl (H.cell 5 rfl rfl) (sp (yI ((zG s t c)[k_1]!)) ?_))))))))
   obtain ⟨b63,o64,rfl⟩:=H.addr 6 rfl qf
   obtain ⟨ae66Need,ce66Need,Fe66Need,ae66Have,ce66Have,Fe66Have,ae66Lack,ce66Lack,Fe66Lack,ae66Here,ce66Here,Fe66Here,ae66Out,ce66Out,Fe66Out,ae66Into,ce66Into,Fe66Into,H⟩:=H.yY 6 rfl ((zG s t c)[k_1]!) (((zG s t c)[k_1]!).toNat) qf qf qf
   refine oI rfl rfl (oF rfl (oL rfl (H.zu 6 rfl 2 rfl) (sw (zJ H underlying29 ti24 [Sv ae66Need (((s.qx[((zG s t c)[k_1]!).toNat]!).xM).length) ce66Need] fun b67 w68 H=>sw (zM H 1 rfl 0 rfl underlying29 ti24 rfl qj rfl rfl rfl (by simp [Value.oneCell',Value.cells]) qp qf fun a69 c70 w71 H=>?_)))))
   replace H:=H.y5 7 rfl 0 rfl
   refine sp (Sv a69 (jP+1) c70) (zo (b_n (t_n (zn (sw (zN k_1 1 rfl rfl qf (sp (yI (k_1+1)) (zo (xm (m' :=(((zG s t c).length) - ((k_1+1):Int)).toNat) qf ⟨_,a69,jP+1,c70,((x8 s ((zG s t c).take k_1))++[(s.qx[((zG s t c)[k_1]!).toNat]!).xM]),Xk++[Sv ae66Need (((s.qx[((zG s t c)[k_1]!).toNat]!).xM).length) ce66Need],(X7++Fe66Need),k_1+1,uE12,?_,?_,rfl,N,H.pick [1,2,3,4,5,6,7,8] [0,9,10,11,12,13,14,15,16,17]⟩)))))))))
   · exact needs_take qf
   · omega
  rw [List.take_of_length_le (l:=zG s t c) (i:=k_1) qf] at H
  refine zx4 (zcr (oF rfl (oL rfl (H.cell 4 rfl rfl) (sp (yI c) ?_))))
  obtain ⟨b72,o73,rfl⟩:=H.addr 8 rfl qf
  obtain ⟨ae75,ce75,Fe75,H⟩:=H.jS 8 rfl c c qf qf qf
  refine oI rfl rfl (oL rfl (H.zu 1 rfl 0 rfl) (sp (Sv yx jP yw) ?_))
  obtain ⟨G76,hn77,h78⟩:=H.rowIsR (α:=yLI) 0 rfl 2 rfl qj
  have cp:=cell_pack p0 p1 (c:=c) qf
  have nl2:=Xt s (zG s t c)
  have sz82:=H.base.size
  have lt83:=H.ltN (L:=[F_own]) [5]
  refine sw (oc (args_eq (by rw [← hn77]) (maxPack_ok _ (t.qG[c]!) (x8 s (zG s t c)) (H.get 0 rfl).1 (hn77▸h78) qg qg)) ?_)
  rintro _ w80 ⟨ra79a,rn79a,rc79a,rx79a,rF79a,rfl,M,K⟩ _
  replace N:=N.merge sz82 lt83 M
  replace H:=H.merge K M
  obtain rfl:=H.zi (α:=yLI) 0 rfl 0 rfl qj
  refine sps [.tuple #[Sv ra79a (((vk (t.qG[c]!) (x8 s (zG s t c))).1).length) rc79a,yI ((vk (t.qG[c]!) (x8 s (zG s t c))).2)],Sv ra79a (((vk (t.qG[c]!) (x8 s (zG s t c))).1).length) rc79a,yI ((vk (t.qG[c]!) (x8 s (zG s t c))).2),Sv ra79a (((vk (t.qG[c]!) (x8 s (zG s t c))).1).length) rc79a,yI ((vk (t.qG[c]!) (x8 s (zG s t c))).2)] (zjcc (sps [yI ((vk (t.qG[c]!) (x8 s (zG s t c))).2),Bv (((vk (t.qG[c]!) (x8 s (zG s t c))).2:Int) != 0)] (zjn ?_)))
  refine xI (((vk (t.qG[c]!) (x8 s (zG s t c))).2:Int) != 0) rfl (fun h85=>?_) (fun h85=>?_)
  ·skip
   replace h85:=bne_iff_ne.1 h85
   refine zcr (sps [yI ((vk (t.qG[c]!) (x8 s (zG s t c))).2),yN,yI ((vk (t.qG[c]!) (x8 s (zG s t c))).2)] (zjr (t_r (zr5 (ret2 yN (yI ((vk (t.qG[c]!) (x8 s (zG s t c))).2)) rfl rfl rfl ⟨_,rfl,?_⟩)))))
   replace H:=H.erases [6,5,4,3,2,1,0]
   dsimp only [ja,List.eraseIdx] at H
   refine sps [.tuple #[yN,yI ((vk (t.qG[c]!) (x8 s (zG s t c))).2)],yN,yI ((vk (t.qG[c]!) (x8 s (zG s t c))).2),yN,yI ((vk (t.qG[c]!) (x8 s (zG s t c))).2)] (zjcc (sps [yI ((vk (t.qG[c]!) (x8 s (zG s t c))).2),Bv (((vk (t.qG[c]!) (x8 s (zG s t c))).2:Int) != 0)] (zjn (xI (((vk (t.qG[c]!) (x8 s (zG s t c))).2:Int) != 0) rfl (fun h86=>?_) (fun h=>absurd (zh h) h85)))))
   replace h86:=bne_iff_ne.1 h86
   refine zcr (sps [yI ((vk (t.qG[c]!) (x8 s (zG s t c))).2),yN,yI ((vk (t.qG[c]!) (x8 s (zG s t c))).2)] (zjr (t_r ?_)))
   replace H:=H.nilRow 24 1
   replace H:=H.jD (α:=yLI)
   refine ret2 yN (yI ((vk (t.qG[c]!) (x8 s (zG s t c))).2)) rfl rfl rfl ⟨_,rfl,?_,H.base⟩
   rw [cho_code (bad_code (c:=c) qf qf ‹_›) ‹_›]
   exact ⟨none,0,0,[],[],rfl,(N.emp.pick [0]),H.pick [0] [0]⟩
  replace h85:=zh h85
  refine xe (t_n (zn (sps [Sv jH zY vV,Sv a49 ((zG s t c).length) c50,Sv ra79a (((vk (t.qG[c]!) (x8 s (zG s t c))).1).length) rc79a] (sw (xP [Sv a49 ((zG s t c).length) c50,Sv ra79a (((vk (t.qG[c]!) (x8 s (zG s t c))).1).length) rc79a] [(0,Sv a49 ((zG s t c).length) c50),(1,Sv ra79a (((vk (t.qG[c]!) (x8 s (zG s t c))).1).length) rc79a)] (sw (zJ H underlying166 ti170 [Sv a49 ((zG s t c).length) c50,Sv ra79a (((vk (t.qG[c]!) (x8 s (zG s t c))).1).length) rc79a] fun b87 w88 H=>?_)))))))
  have H0:=H
  obtain ⟨G92,hg94,hn93,H⟩:=H.Q3 (α:=yLI) 1 rfl 0 rfl qj
  replace N:Fresh w.heap.size [G92,F_own]:=Fresh.ice N H0 1 hg94.1 hg94.2 (H0.jJ [6])
  clear H0
  refine sw (zM H 3 rfl 0 rfl underlying166 ti170 rfl qj rfl rfl rfl (by simp [Value.oneCell',Value.cells]) qp qf fun a89 c90 w91 H=>?_)
  replace H:=H.snoc_inCellD 6 rfl 5 rfl 0 rfl
  refine sp (Sv a89 (zY+1) c90) (zo (b_n (t_n (zn (sw (zN c 1 rfl rfl qf (sp (yI (c+1)) (zo (xm (m' :=(s.qw.length - ((c+1):Int)).toNat) qf ⟨_,a89,zY+1,c90,((Qo s t c)++[⟨zG s t c,(vk (t.qG[c]!) (x8 s (zG s t c))).1⟩]),x_out++[Sv a49 ((zG s t c).length) c50,Sv ra79a (((vk (t.qG[c]!) (x8 s (zG s t c))).1).length) rc79a],(XO++(G51++G92)),c+1,uE6,?_,?_,?_,rfl,(N.pick [1]),H.pick [3,4,5,6,7,8,9] [0,8,9,10,11,12,13,14]⟩)))))))))
  · first | exact cells_yes qf | exact cells_no qf
  · omega
  · exact gp.succ (by first | exact .inl qf | exact .inr (show (vk _ _).2=0 from ‹_›))
 refine zx4 (zcr (sps [Sv jH zY vV,Sv jH zY vV,yI 0] (zjr (ret2 (Sv jH zY vV) (yI 0) rfl rfl rfl ⟨_,rfl,?_⟩))))
 replace H:=H.erases [4,3,2,1]
 dsimp only [ja,List.eraseIdx] at H
 obtain rfl:c=s.qw.length:=by omega
 have kn:=packsL_ne p0 p1 (k:=s.qw.length) qf gp
 have kr:=rules_le s t s.qw.length
 have kl:=packsL_le s t s.qw.length
 have ce:=cells_len s t s.qw.length
 refine sps [.tuple #[Sv jH zY vV,yI 0],Sv jH zY vV,yI 0,Sv jH zY vV,yI 0] (zjcc (sps [yI 0,Bv false] (zjn (xI false rfl (fun h=>absurd h qj) (fun _=>xe (t_n (zcr (oF rfl (oL rfl (H.cell 2 rfl rfl) (oN rfl (sw (zf H underlying24 ti2 s.qx.length rfl rfl qf qf qf fun b95 w96 H=>sw (zJ H underlying29 ti24 [Sv (aa b95 0) s.qx.length s.qx.length] fun b97 w98 H=>sp (Sv (aa b97 0) 1 1) (zjcc ?_))))))))))))))
 refine sp (Sv jH zY vV) (oN rfl (sp (yI 0) (zjn (qZ ?_))))
 obtain ⟨G99,hg101,hn100,H⟩:=H.Q3 (α:=inCellD) 2 rfl 0 rfl qj
 replace H:=H.boxRow 0 rfl 1 1 rfl qj
 replace H:=H.jD (α:=yLI)
 obtain ⟨G102,N,hn103,H⟩:=H.vz 1 rfl N (H.jJ [3])
 replace H:=H.XW true 0 rfl 1 rfl qm
 replace N:Fresh w.heap.size [(G102++[]),F_own]:=(N.emp.pick [1,0,2]).join
 refine zU (fun m' ρ w104=>∃ (zl:Env) (a_out_1:yOA) (Qn:Nat) (XN:Nat) (out_1:yLL) (XY:List Value) (Xv:yLN) (k_1:Nat),ρ=upd (upd (upd (upd zl 8 (Sv a_out_1 Qn XN)) 33 (Sv jH zY vV)) 34 (yI zY)) 35 (yI k_1)∧out_1=(jw s.qx.length (qV s t s.qw.length) (xy s t s.qw.length) k_1)∧((k_1:Int)≤zY)∧((jw s.qx.length (qV s t s.qw.length) (xy s t s.qw.length) k_1).length≤300)∧m' =(zY - (k_1:Int)).toNat∧Fresh w.heap.size [Xv]∧St w w104 [rr a_out_1 Qn XN 24 1 XY,.box b3 (yT t qR qP xq xn qN qM) 31,.box b1 (yS s qC qB qK qI) 27] [qX true Xv XY out_1,isF true G99 (Sv jH zY vV) (Qo s t s.qw.length),sF false qY qC qB s.qw,sF false xK qK qI s.qx,sF false zq qR qP t.qF,sF false zX xq xn t.qG,sF false xN qN qM t.qH]) ((zY - (0:Int)).toNat) ⟨_,(aa b97 0),1,1,[(List.replicate s.qx.length (0:Int))],[Sv (aa b95 0) s.qx.length s.qx.length],(G102++[]),0,uE4,(by rfl),qf,(by rw [XP];show 1≤300;omega),rfl,(N.pick [0]),H.pick [0,3,4] [0,3,7,8,9,10,11]⟩ ?_
 clear H N
 rintro m' ρ w105 ⟨zl,a_out_1,Qn,XN,out_1,XY,Xv,k_1,rfl,rfl,i0,g3,rfl,N,H⟩
 have hn_out:=H.zi (α:=yLI) 0 rfl 0 rfl qj
 refine zcr (sp (Bv (decide ((k_1:Int) < zY))) (zjn (zg (cD rfl (fun h106=>?_) (fun h106=>?_)))))
 ·skip
  obtain ⟨gb,gc⟩:=cell_few (s:=s) (t:=t) (n:=s.qw.length) (i:=k_1) p0 qf
  refine xe (t_n (zg (qZ (zcr ?_))))
  have hl109:=H.isLen 1 rfl
  obtain ⟨b107,o108,rfl⟩:=H.addr 1 rfl qf
  obtain ⟨ae110rules,ce110rules,Fe110rules,ae110packings,ce110packings,Fe110packings,H⟩:=H.elem_inCellD 1 rfl k_1 k_1 qf qf qf
  refine oI rfl rfl (sw (zB [Sv ae110rules ((((Qo s t s.qw.length)[k_1]!).frules).length) ce110rules,Sv ae110packings ((((Qo s t s.qw.length)[k_1]!).fpackings).length) ce110packings] isAgg170 sizeOf170 rfl (qJ (H.get 2 rfl) 0 2) (sw (xx H ti170 [yN,yN] fun b111 w112 H=>sw (xu H 0 [Sv ae110rules ((((Qo s t s.qw.length)[k_1]!).frules).length) ce110rules,Sv ae110packings ((((Qo s t s.qw.length)[k_1]!).fpackings).length) ce110packings] sizeOf170 fun w113 H=>zjc (sw (jR H underlying29 ti24 fun b114 w115 H=>?_)))))))
  refine sp (Sv (aa b114 0) 0 0) (zjcc (sp (Sv a_out_1 Qn XN) (oN rfl (sp (yI 0) (zjn (qZ ?_))))))
  obtain ⟨ce1,ce2⟩:=cells_at (s:=s) (t:=t) (k:=s.qw.length) (i:=k_1) qf
  rw [ce1,ce2] at H
  replace H:=H.boxRow 0 rfl 1 0 rfl qj
  replace H:=H.jD (α:=yLI)
  refine zU (fun m' ρ w116=>∃ (zl:Env) (a_next:yOA) (n_next:Nat) (c_next:Nat) (next:yLL) (x_next:List Value) (F_next:yLN) (k_51:Nat),ρ=upd (upd (upd (upd (upd (upd (upd (upd zl 10 (pp b111 0)) 11 (Sv a_next n_next c_next)) 33 (Sv (aa b107 o108) zY vV)) 34 (yI zY)) 35 (yI k_1)) 40 (Sv a_out_1 Qn XN)) 41 (yI Qn)) 42 (yI k_51)∧next=(nextK (jw s.qx.length (qV s t s.qw.length) (xy s t s.qw.length) k_1) ((qV s t s.qw.length)[k_1]!) ((xy s t s.qw.length)[k_1]!) k_51)∧((k_51:Int)≤Qn)∧((nextK (jw s.qx.length (qV s t s.qw.length) (xy s t s.qw.length) k_1) ((qV s t s.qw.length)[k_1]!) ((xy s t s.qw.length)[k_1]!) k_51).length≤300)∧m' =(Qn - (k_51:Int)).toNat∧Fresh w.heap.size [Xv,F_next]∧St w w116 [rr a_next n_next c_next 24 1 x_next,.box b111 [Sv ae110rules (((qV s t s.qw.length)[k_1]!).length) ce110rules,Sv ae110packings (((xy s t s.qw.length)[k_1]!).length) ce110packings] 170,rr a_out_1 Qn XN 24 1 XY,.box b3 (yT t qR qP xq xn qN qM) 31,.box b1 (yS s qC qB qK qI) 27] [qX true F_next x_next next,sF true Fe110rules ae110rules ce110rules ((qV s t s.qw.length)[k_1]!),sF true Fe110packings ae110packings ce110packings ((xy s t s.qw.length)[k_1]!),atF b107 (o108+(k_1:Int).toNat * 2) [Sv ae110rules (((qV s t s.qw.length)[k_1]!).length) ce110rules,Sv ae110packings (((xy s t s.qw.length)[k_1]!).length) ce110packings],qX true Xv XY (jw s.qx.length (qV s t s.qw.length) (xy s t s.qw.length) k_1),isF true G99 (Sv (aa b107 o108) zY vV) (Qo s t s.qw.length),sF false qY qC qB s.qw,sF false xK qK qI s.qx,sF false zq qR qP t.qF,sF false zX xq xn t.qG,sF false xN qN qM t.qH]) ((Qn - (0:Int)).toNat) ⟨_,(aa b114 0),0,0,([]:yLL),[],[],0,uE8,(by rfl),qf,(by show 0≤300;omega),rfl,(N.emp.pick [1,0]),H⟩ ?_
  clear H N
  rintro m' ρ w117 ⟨zl,a_next,n_next,c_next,next,x_next,F_next,k_51,rfl,rfl,i0,n3,rfl,N,H⟩
  have hn_next:=H.zi (α:=yLI) 0 rfl 0 rfl qj
  refine zcr (sp (Bv (decide ((k_51:Int) < Qn))) (zjn (zg (cD rfl (fun h118=>?_) (fun h118=>?_)))))
  ·skip
   refine xe (t_n (zg (qZ (zcr ?_))))
   obtain ⟨b119,rfl⟩:=H.Qc 2 rfl qf
   refine oI rfl rfl ?_
   obtain ⟨a120,c121,G122,s123,h124,H⟩:=H.jV 2 rfl 4 rfl (iv:=k_51) k_51 qf qf
   refine oL rfl (h124) (sp (Sv a120 (((jw s.qx.length (qV s t s.qw.length) (xy s t s.qw.length) k_1)[k_51]!).length) c121) (zjcc (oF rfl (oL rfl (H.cell 1 rfl rfl) (oN rfl (sp (yI 0) (zjn (qZ ?_))))))))
   refine zU (fun m' ρ w125=>∃ (zl:Env) (QW:yOA) (Qa:Nat) (QS:Nat) (next_1:yLL) (Xc:List Value) (Qp:yLN) (k_52:Nat),ρ=upd (upd (upd (upd (upd (upd (upd (upd (upd (upd (upd (upd zl 10 (pp b111 0)) 11 (Sv QW Qa QS)) 13 (Sv a120 (((jw s.qx.length (qV s t s.qw.length) (xy s t s.qw.length) k_1)[k_51]!).length) c121)) 33 (Sv (aa b107 o108) zY vV)) 34 (yI zY)) 35 (yI k_1)) 40 (Sv (aa b119 0) Qn XN)) 41 (yI Qn)) 42 (yI k_51)) 47 (Sv ae110packings (((xy s t s.qw.length)[k_1]!).length) ce110packings)) 48 (yI (((xy s t s.qw.length)[k_1]!).length))) 49 (yI k_52)∧next_1=(nextX (jw s.qx.length (qV s t s.qw.length) (xy s t s.qw.length) k_1) ((qV s t s.qw.length)[k_1]!) ((xy s t s.qw.length)[k_1]!) k_51 k_52)∧((k_52:Int)≤(((xy s t s.qw.length)[k_1]!).length))∧m' =((((xy s t s.qw.length)[k_1]!).length) - (k_52:Int)).toNat∧Fresh w.heap.size [Xv,Qp]∧St w w125 [rr QW Qa QS 24 1 Xc,.box b111 [Sv ae110rules (((qV s t s.qw.length)[k_1]!).length) ce110rules,Sv ae110packings (((xy s t s.qw.length)[k_1]!).length) ce110packings] 170,rr (aa b119 0) Qn XN 24 1 XY,.box b3 (yT t qR qP xq xn qN qM) 31,.box b1 (yS s qC qB qK qI) 27] [sF true G122 a120 c121 ((jw s.qx.length (qV s t s.qw.length) (xy s t s.qw.length) k_1)[k_51]!),qX true Qp Xc next_1,sF true Fe110rules ae110rules ce110rules ((qV s t s.qw.length)[k_1]!),sF true Fe110packings ae110packings ce110packings ((xy s t s.qw.length)[k_1]!),atF b107 (o108+(k_1:Int).toNat * 2) [Sv ae110rules (((qV s t s.qw.length)[k_1]!).length) ce110rules,Sv ae110packings (((xy s t s.qw.length)[k_1]!).length) ce110packings],qX true Xv XY (jw s.qx.length (qV s t s.qw.length) (xy s t s.qw.length) k_1),isF true G99 (Sv (aa b107 o108) zY vV) (Qo s t s.qw.length),sF false qY qC qB s.qw,sF false xK qK qI s.qx,sF false zq qR qP t.qF,sF false zX xq xn t.qG,sF false xN qN qM t.qH]) (((((xy s t s.qw.length)[k_1]!).length) - (0:Int)).toNat) ⟨_,a_next,n_next,c_next,(nextK (jw s.qx.length (qV s t s.qw.length) (xy s t s.qw.length) k_1) ((qV s t s.qw.length)[k_1]!) ((xy s t s.qw.length)[k_1]!) k_51),x_next,F_next,0,uE12,(by exact nextX_zero _ _ _ _),qf,rfl,N,H⟩ ?_
   clear H N
   rintro m' ρ w126 ⟨zl,QW,Qa,QS,next_1,Xc,Qp,k_52,rfl,rfl,i0,rfl,N,H⟩
   have hn_next:=H.zi (α:=yLI) 0 rfl 1 rfl qj
   refine zcr (sp (Bv (decide ((k_52:Int) < (((xy s t s.qw.length)[k_1]!).length)))) (zjn (zg (cD rfl (fun h127=>?_) (fun h127=>?_)))))
   ·skip
    have nx:=nextX_len (r:=((qV s t s.qw.length)[k_1]!)) (show k_51 < (jw s.qx.length (qV s t s.qw.length) (xy s t s.qw.length) k_1).length by omega) (show k_52≤((xy s t s.qw.length)[k_1]!).length by omega)
    have nk:=nextK_len (r:=((qV s t s.qw.length)[k_1]!)) (P:=((xy s t s.qw.length)[k_1]!)) (show k_51≤(jw s.qx.length (qV s t s.qw.length) (xy s t s.qw.length) k_1).length by omega)
    have g1:=prodG_at (n:=s.qx.length) (rs:=(qV s t s.qw.length)) (all:=(xy s t s.qw.length)) (i:=k_1) (k:=k_51) qf
    have g2:=pack_at (s:=s) (t:=t) (n:=s.qw.length) (i:=k_1) (x:=k_52) qf qf
    refine xe (t_n (zg (qZ (zcr ?_))))
    obtain ⟨b128,o129,rfl⟩:=H.addr 3 rfl qf
    obtain ⟨ae131,ce131,Fe131,H⟩:=H.jS 3 rfl k_52 k_52 qf qf qf
    refine oI rfl rfl (oL rfl (H.zu 1 rfl 0 rfl) (sp (Sv ae131 ((((xy s t s.qw.length)[k_1]!)[k_52]!).length) ce131) (zjc (sp (Sv a120 (((jw s.qx.length (qV s t s.qw.length) (xy s t s.qw.length) k_1)[k_51]!).length) c121) ?_))))
    have sz132:=H.base.size
    have lt133:=H.ltN (L:=[Xv,Qp]) [7,3]
    refine sw (oc (cloneI_ok _ ((jw s.qx.length (qV s t s.qw.length) (xy s t s.qw.length) k_1)[k_51]!) (H.get 2 rfl).1 qg) ?_)
    rintro v137 w135 r137 x136
    replace H:=H.zW x136 r137
    obtain ⟨a138,c139,rfl,hc140,hm141⟩:=H.jY 0 rfl
    refine sp (Sv a138 (((jw s.qx.length (qV s t s.qw.length) (xy s t s.qw.length) k_1)[k_51]!).length) c139) (zjcc (oF rfl (oL rfl (H.cell 2 rfl rfl) (oN rfl (sp (yI 0) (zjn (qZ ?_)))))))
    refine zU (fun m' ρ w142=>∃ (zl:Env) (k_53:Nat) (own_1:yLI),ρ=upd (upd (upd (upd (upd (upd (upd (upd (upd (upd (upd (upd (upd (upd (upd (upd (upd zl 10 (pp b111 0)) 11 (Sv QW Qa QS)) 13 (Sv a120 (((jw s.qx.length (qV s t s.qw.length) (xy s t s.qw.length) k_1)[k_51]!).length) c121)) 15 (Sv ae131 ((((xy s t s.qw.length)[k_1]!)[k_52]!).length) ce131)) 16 (Sv a138 (((jw s.qx.length (qV s t s.qw.length) (xy s t s.qw.length) k_1)[k_51]!).length) c139)) 33 (Sv (aa b107 o108) zY vV)) 34 (yI zY)) 35 (yI k_1)) 40 (Sv (aa b119 0) Qn XN)) 41 (yI Qn)) 42 (yI k_51)) 47 (Sv (aa b128 o129) (((xy s t s.qw.length)[k_1]!).length) ce110packings)) 48 (yI (((xy s t s.qw.length)[k_1]!).length))) 49 (yI k_52)) 56 (Sv ae110rules (((qV s t s.qw.length)[k_1]!).length) ce110rules)) 57 (yI (((qV s t s.qw.length)[k_1]!).length))) 58 (yI k_53)∧own_1=(setTo ((jw s.qx.length (qV s t s.qw.length) (xy s t s.qw.length) k_1)[k_51]!) ((qV s t s.qw.length)[k_1]!) (((xy s t s.qw.length)[k_1]!)[k_52]!) k_53)∧((k_53:Int)≤(((qV s t s.qw.length)[k_1]!).length))∧m' =((((qV s t s.qw.length)[k_1]!).length) - (k_53:Int)).toNat∧Fresh w.heap.size [Xv,Qp]∧St w w142 [rr a138 (((jw s.qx.length (qV s t s.qw.length) (xy s t s.qw.length) k_1)[k_51]!).length) c139 2 1 (own_1.map (Value.int .i64)),rr QW Qa QS 24 1 Xc,.box b111 [Sv ae110rules (((qV s t s.qw.length)[k_1]!).length) ce110rules,Sv (aa b128 o129) (((xy s t s.qw.length)[k_1]!).length) ce110packings] 170,rr (aa b119 0) Qn XN 24 1 XY,.box b3 (yT t qR qP xq xn qN qM) 31,.box b1 (yS s qC qB qK qI) 27] [sF true Fe131 ae131 ce131 (((xy s t s.qw.length)[k_1]!)[k_52]!),atF b128 (o129+(k_52:Int).toNat * 1) [Sv ae131 ((((xy s t s.qw.length)[k_1]!)[k_52]!).length) ce131],sF true G122 a120 c121 ((jw s.qx.length (qV s t s.qw.length) (xy s t s.qw.length) k_1)[k_51]!),qX true Qp Xc (nextX (jw s.qx.length (qV s t s.qw.length) (xy s t s.qw.length) k_1) ((qV s t s.qw.length)[k_1]!) ((xy s t s.qw.length)[k_1]!) k_51 k_52),sF true Fe110rules ae110rules ce110rules ((qV s t s.qw.length)[k_1]!),sF true Fe110packings (aa b128 o129) ce110packings ((xy s t s.qw.length)[k_1]!),atF b107 (o108+(k_1:Int).toNat * 2) [Sv ae110rules (((qV s t s.qw.length)[k_1]!).length) ce110rules,Sv (aa b128 o129) (((xy s t s.qw.length)[k_1]!).length) ce110packings],qX true Xv XY (jw s.qx.length (qV s t s.qw.length) (xy s t s.qw.length) k_1),isF true G99 (Sv (aa b107 o108) zY vV) (Qo s t s.qw.length),sF false qY qC qB s.qw,sF false xK qK qI s.qx,sF false zq qR qP t.qF,sF false zX xq xn t.qG,sF false xN qN qM t.qH]) (((((qV s t s.qw.length)[k_1]!).length) - (0:Int)).toNat) ⟨_,0,((jw s.qx.length (qV s t s.qw.length) (xy s t s.qw.length) k_1)[k_51]!),uE17,(by rfl),qf,rfl,N,H⟩ ?_
    clear H N
    rintro m' ρ w143 ⟨zl,k_53,own_1,rfl,rfl,i0,rfl,N,H⟩
    have hn_own:=H.vM 0 rfl
    have sl:=setTo_len ((jw s.qx.length (qV s t s.qw.length) (xy s t s.qw.length) k_1)[k_51]!) ((qV s t s.qw.length)[k_1]!) (((xy s t s.qw.length)[k_1]!)[k_52]!) k_53
    refine zcr (sp (Bv (decide ((k_53:Int) < (((qV s t s.qw.length)[k_1]!).length)))) (zjn (zg (cD rfl (fun h144=>?_) (fun h144=>?_)))))
    ·skip
     obtain ⟨g3',g4⟩:=choice_at (s:=s) (t:=t) (n:=s.qw.length) (i:=k_1) (r:=k_53) qf qf
     refine xe (t_n (zg (qZ (zcr (sp (yI k_53) ?_)))))
     obtain ⟨b145,o146,rfl⟩:=H.addr 4 rfl qf
     refine oI rfl rfl (oL rfl (H.jg 4 rfl k_53 qf qf) (sps [yI k_53,yI (((qV s t s.qw.length)[k_1]!)[k_53]!)] (zjn (zn (sps [Sv a138 (((jw s.qx.length (qV s t s.qw.length) (xy s t s.qw.length) k_1)[k_51]!).length) c139,yI (((qV s t s.qw.length)[k_1]!)[k_53]!),Sv ae131 ((((xy s t s.qw.length)[k_1]!)[k_52]!).length) ce131,yI k_53] ?_)))))
     obtain ⟨b148,o149,rfl⟩:=H.addr 0 rfl qf
     refine oI rfl rfl (oL rfl (H.jg 0 rfl k_53 qf qf) ?_)
     obtain ⟨b151,rfl⟩:=H.Qc 0 rfl qf
     refine oI rfl rfl (sw (Va H 0 rfl ((((xy s t s.qw.length)[k_1]!)[k_52]!)[k_53]!) sizeOf2 rfl rfl (i:=((((qV s t s.qw.length)[k_1]!)[k_53]!).toNat)) qf qf fun w152 H=>zo (b_n (t_n (zn (sw (zN k_53 1 rfl rfl qf (sp (yI (k_53+1)) (zo ?_)))))))))
     refine xm (m' :=((((qV s t s.qw.length)[k_1]!).length) - ((k_53+1):Int)).toNat) qf ⟨_,k_53+1,((setTo ((jw s.qx.length (qV s t s.qw.length) (xy s t s.qw.length) k_1)[k_51]!) ((qV s t s.qw.length)[k_1]!) (((xy s t s.qw.length)[k_1]!)[k_52]!) k_53).set ((((qV s t s.qw.length)[k_1]!)[k_53]!).toNat) ((((xy s t s.qw.length)[k_1]!)[k_52]!)[k_53]!)),uE17,?_,?_,rfl,N,H⟩
     · rfl
     · omega
    refine zx4 (zn (sps [Sv QW Qa QS,Sv a138 (((jw s.qx.length (qV s t s.qw.length) (xy s t s.qw.length) k_1)[k_51]!).length) c139] (sw (zJ H underlying29 ti24 [Sv a138 (((jw s.qx.length (qV s t s.qw.length) (xy s t s.qw.length) k_1)[k_51]!).length) c139] fun b153 w154 H=>?_))))
    obtain ⟨G158,N,hn159,H⟩:=H.vz 1 rfl N (H.jJ [7,3])
    refine sw (zM H 2 rfl 0 rfl underlying29 ti24 rfl qj rfl rfl rfl (by simp [Value.oneCell',Value.cells]) qp qf fun a155 c156 w157 H=>?_)
    replace H:=H.y5 4 rfl 0 rfl
    replace N:Fresh w.heap.size [(Qp++G158),Xv]:=(N.pick [2,0,1]).join
    refine sp (Sv a155 (Qa+1) c156) (zo (b_n (t_n (zn (sw (zN k_52 1 rfl rfl qf (sp (yI (k_52+1)) (zo ?_))))))))
    refine xm (m' :=((((xy s t s.qw.length)[k_1]!).length) - ((k_52+1):Int)).toNat) qf ⟨_,a155,Qa+1,c156,((nextX (jw s.qx.length (qV s t s.qw.length) (xy s t s.qw.length) k_1) ((qV s t s.qw.length)[k_1]!) ((xy s t s.qw.length)[k_1]!) k_51 k_52)++[(setTo ((jw s.qx.length (qV s t s.qw.length) (xy s t s.qw.length) k_1)[k_51]!) ((qV s t s.qw.length)[k_1]!) (((xy s t s.qw.length)[k_1]!)[k_52]!) k_53)]),Xc++[Sv a138 (((jw s.qx.length (qV s t s.qw.length) (xy s t s.qw.length) k_1)[k_51]!).length) c139],(Qp++G158),k_52+1,uE12,?_,?_,rfl,(N.pick [1,0]),H.pick [2,3,4,5,6] [4,0,6,7,8,9,10,11,12,13,14,15]⟩
    · exact nextX_succ qf (by rw [show k_53=((qV s t s.qw.length)[k_1]!).length by omega];rfl)
    · omega
   refine zx4 (zcr (sp (Sv QW Qa QS) (oN rfl (sp (Bv (decide ((Qa:Int) > 300))) (zjn (cD rfl (fun h160=>?_) (fun h160=>?_)))))))
   ·skip
    refine zcr (sps [yN,yI 3] (zjr (zr5 (zr5 ?_))))
    replace H:=H.nilRow 24 1
    replace H:=H.jD (α:=yLI)
    refine ret2 yN (yI 3) rfl rfl rfl ⟨_,rfl,?_,H.base⟩
    first | rw [cho_3 (.inl (own_bad p0 (q:=k) qf qf))] | rw [cho_3 (.inr (prod_stop (G:=(jw s.qx.length (qV s t s.qw.length) (xy s t s.qw.length) k_1)) (r:=((qV s t s.qw.length)[k_1]!)) (k:=k_51+1) (i:=k_1) kn qf (XP _) qf (by rw [← nextX_end (x:=k_52) qf qf];omega)))]
    exact ⟨none,0,0,[],[],rfl,(N.emp.pick [0]),H.pick [0] [0]⟩
   refine xe (b_n (t_n (zn (sw (zN k_51 1 rfl rfl qf (sp (yI (k_51+1)) (zo (xm (m' :=(Qn - ((k_51+1):Int)).toNat) qf ⟨_,QW,Qa,QS,(nextX (jw s.qx.length (qV s t s.qw.length) (xy s t s.qw.length) k_1) ((qV s t s.qw.length)[k_1]!) ((xy s t s.qw.length)[k_1]!) k_51 k_52),Xc,Qp,k_51+1,uE8,?_,?_,?_,rfl,N,H.pick [0,1,2,3,4] [1,2,3,4,5,6,7,8,9,10,11]⟩))))))))
   · exact nextX_end qf qf
   · omega
   · rw [← nextX_end (x:=k_52) qf qf];omega
  refine zx4 (zn (sps [Sv a_next n_next c_next,Sv a_next n_next c_next] (zo (b_n (t_n (zn (sw (zN k_1 1 rfl rfl qf (sp (yI (k_1+1)) (zo (xm (m' :=(zY - ((k_1+1):Int)).toNat) qf ⟨_,a_next,n_next,c_next,(nextK (jw s.qx.length (qV s t s.qw.length) (xy s t s.qw.length) k_1) ((qV s t s.qw.length)[k_1]!) ((xy s t s.qw.length)[k_1]!) k_51),x_next,F_next,k_1+1,uE4,?_,?_,?_,rfl,(N.pick [1]),H.pick [0,3,4] [0,5,6,7,8,9,10]⟩)))))))))))
  · rw [show k_51=(jw s.qx.length (qV s t s.qw.length) (xy s t s.qw.length) k_1).length by omega];rfl
  · omega
  · show (nextK (jw s.qx.length (qV s t s.qw.length) (xy s t s.qw.length) k_1) ((qV s t s.qw.length)[k_1]!) ((xy s t s.qw.length)[k_1]!) (jw s.qx.length (qV s t s.qw.length) (xy s t s.qw.length) k_1).length).length≤300;rw [← show k_51=(jw s.qx.length (qV s t s.qw.length) (xy s t s.qw.length) k_1).length by omega];exact n3
 obtain rfl:k_1=(xy s t s.qw.length).length:=by omega
 have on:0 < (jw s.qx.length (qV s t s.qw.length) (xy s t s.qw.length) (xy s t s.qw.length).length).length:=by rw [XP];exact prod_mono kn (Nat.zero_le _) (Nat.le_refl _)
 have kc:¬ QB (xy s t s.qw.length) (xy s t s.qw.length).length > 300:=by rw [XP] at g3;omega
 refine zx4 (zcr (sp (Sv a_out_1 Qn XN) ?_))
 obtain ⟨b161,rfl⟩:=H.Qc 0 rfl qf
 refine sw (xR #[Sv (aa b161 0) Qn XN,.func (.func 149) #[] #[]] rfl rfl call148 (sortRow sortL call149 cmpSort H 0 rfl 0 rfl qf qf) ?_)
 rintro _ w162 ⟨xs163,F164,l165,rfl,hF166,hp167,hs168,H⟩
 replace N:Fresh w.heap.size [F164]:=Fresh.perm N hF166
 refine zjc (sps [Sv (aa b161 0) Qn XN,Sv (aa b161 0) Qn XN,yI 0] (zjr (ret2 (Sv (aa b161 0) Qn XN) (yI 0) rfl rfl rfl ⟨_,rfl,?_,H.base⟩)))
 rw [cho_0 gp kc hp167 (in_order (Nat.le_refl _) fun a b h1 h2 h3=>hs168 a b h1 h2 ((cmpL_ahead ((perm_rows hp167 b qf).trans (perm_rows hp167 a qf).symm)).2 h3))]
 exact ⟨(aa b161 0),Qn,XN,xs163,F164,rfl,N,H.pick [0] [0]⟩
end
section
open Go.RowKit
set_option linter.unusedVariables false
set_option linter.unusedSimpArgs false
set_option maxRecDepth 100000
set_option maxHeartbeats 4000000
theorem dNext_ok {W0 w:World} {ps:List Prv} {Γ:List Fact} {Ns:List yLN} (code:List UInt8) (ip:Int) (sd:Int) (bs:Nat) (ac:yOA) (cc:Nat) (Fc:yLN) (H:St W0 w ((.box bs [Sv ac code.length cc,.int .i64 ip,.int .u64 sd] 127) :: ps) ((sF false Fc ac cc code) :: Γ)) (N:Fresh W0.heap.size (Ns)) (K0:Kept Ns Γ) (q0:0≤ip∧ip≤100000):Calls Tryz.prog 126 #[.pointer (some ⟨bs,0,none⟩)] w (fun e w' =>∃ v,e=.returned v∧∃ (ip_:Int) (sd_:Int) (v_:Int),(ip≤ip_∧ip_≤ip+1)∧(0≤v_∧v_≤255)∧v=.int .i64 v_∧Fresh W0.heap.size (Ns)∧St W0 w' ((.box bs [Sv ac code.length cc,.int .i64 ip_,.int .u64 sd_] 127) :: ps) ((sF false Fc ac cc code) :: Γ)):=by
 refine en Tryz.func126 Tryz.ntmps126 ?_
 have ncode:=qQ (H.get 0 rfl).1
 refine zcr (sp (.int .i64 0) (zjc (sp (.int .i64 0) (zjn (zg (zg ?_))))))
 refine XG rfl H [0] [0] fun H=>?_
 have S:=H.jG [0] [0]
 refine rtp 0 (.pointer (some ⟨bs,0,none⟩)) S ?_
 refine rtp 1 (.pointer (some ⟨bs,0,none⟩)) S ?_
 refine tF 2 rfl rfl S ?_
 refine tL 3 rfl rfl (fun _ h=>h.cell 0 rfl rfl) S ?_
 refine rtp 4 (.pointer (some ⟨bs,0,none⟩)) S ?_
 refine rtp 5 (.pointer (some ⟨bs,0,none⟩)) S ?_
 refine tF 6 rfl rfl S ?_
 refine tL 7 rfl rfl (fun _ h=>h.cell 0 rfl rfl) S ?_
 refine tN 8 rfl rfl S ?_
 refine rtp 9 (Bv (decide ((ip:Int) < code.length))) S ?_
 refine xg qh (t_n (cD rfl (fun h2=>?_) (fun h2=>?_)))
 ·skip
  refine XG rfl H [0] [0] fun H=>?_
  have S:=H.jG [0] [0]
  refine rtp 0 (.pointer (some ⟨bs,0,none⟩)) S ?_
  refine rtp 1 (.pointer (some ⟨bs,0,none⟩)) S ?_
  refine tF 2 rfl rfl S ?_
  refine tL 3 rfl rfl (fun _ h=>h.cell 0 rfl rfl) S ?_
  refine rtp 4 (.pointer (some ⟨bs,0,none⟩)) S ?_
  refine rtp 5 (.pointer (some ⟨bs,0,none⟩)) S ?_
  refine tF 6 rfl rfl S ?_
  refine tL 7 rfl rfl (fun _ h=>h.cell 0 rfl rfl) S ?_
  obtain ⟨b4,o5,rfl⟩:=H.addr 0 rfl qf
  refine tI 8 rfl rfl rfl (H.pick [0] [0]) ?_
  refine ro 9 rfl ?_
  have hb7:=byte_lt (code[ip.toNat]!)
  refine zt (.int .u8 (((code[ip.toNat]!).toNat:Nat):Int)) Tryz.isAgg5 rfl (H.elemByte 0 rfl ip ip.toNat qf qf qf) (⟨H.pick [0] [0],(ro 10 rfl (o_convI (((code[ip.toNat]!).toNat:Nat):Int) Tryz.underlying5 Tryz.underlying3 rfl qf (⟨H.pick [0] [0],(rtp 11 (.int .i64 (((code[ip.toNat]!).toNat:Nat):Int)) (H.pick [0] [0]) ?_)⟩)))⟩)
  refine xg qh (t_n (zcr (sps [.pointer (some ⟨bs,0,none⟩),.pointer (some ⟨bs,0,none⟩)] (oF rfl (oL rfl (H.cell 0 rfl rfl) (sw (zN ip 1 rfl rfl qf (sp (.pointer (some ⟨bs,0,none⟩)) (oF rfl (sw (xX H 0 [Sv (some ⟨b4,o5,none⟩) code.length cc,.int .i64 (ip+1),.int .u64 sd] Tryz.sizeOf3 fun w8 H=>?_)))))))))))
  try dsimp only [List.set] at H
  refine zjc (sps [.pointer (some ⟨bs,0,none⟩),.pointer (some ⟨bs,0,none⟩),.pointer (some ⟨bs,0,none⟩)] (oF rfl (oL rfl (H.cell 0 rfl rfl) (sw (o_mulU sd 6364136223846793005 rfl rfl fun r9=>sp (.int .i64 (((code[ip.toNat]!).toNat:Nat):Int)) (sw (o_convU (((code[ip.toNat]!).toNat:Nat):Int) Tryz.underlying3 Tryz.underlying125 rfl fun r10=>sw (o_addU r9 r10 rfl rfl fun r11=>sw (o_addU r11 1442695040888963407 rfl rfl fun r12=>sp (.pointer (some ⟨bs,0,none⟩)) (oF rfl (sw (xX H 0 [Sv (some ⟨b4,o5,none⟩) code.length cc,.int .i64 (ip+1),.int .u64 r12] Tryz.sizeOf125 fun w13 H=>?_))))))))))))
  try dsimp only [List.set] at H
  refine zjn (zg (zg ?_))
  refine XG rfl H [0] [0] fun H=>?_
  have S:=H.jG [0] [0]
  refine rtp 0 (.pointer (some ⟨bs,0,none⟩)) S ?_
  refine rtp 1 (.pointer (some ⟨bs,0,none⟩)) S ?_
  refine tF 2 rfl rfl S ?_
  refine tL 3 rfl rfl (fun _ h=>h.cell 0 rfl rfl) S ?_
  refine rtp 4 (.pointer (some ⟨bs,0,none⟩)) S ?_
  refine rtp 5 (.pointer (some ⟨bs,0,none⟩)) S ?_
  refine tF 6 rfl rfl S ?_
  refine tL 7 rfl rfl (fun _ h=>h.cell 0 rfl rfl) S ?_
  refine tN 8 rfl rfl S ?_
  refine rtp 9 (Bv (decide ((ip+1:Int)≤code.length))) S ?_
  refine xg qh (t_n (cD rfl (fun h15=>?_) (fun h15=>?_)))
  ·skip
   refine zcr (sps [.int .i64 (((code[ip.toNat]!).toNat:Nat):Int),.int .i64 (((code[ip.toNat]!).toNat:Nat):Int)] (zjr (t_r (ret1 (.int .i64 (((code[ip.toNat]!).toNat:Nat):Int)) rfl rfl ⟨_,rfl,(⟨ip+1,r12,(((code[ip.toNat]!).toNat:Nat):Int),qf,qf,rfl,N,H.xH 1 1 [0] [0] qo qo⟩)⟩))))
  ·skip
   refine xe (t_n (zcr (sps [.pointer (some ⟨bs,0,none⟩),.pointer (some ⟨bs,0,none⟩)] (oF rfl (oL rfl (H.cell 0 rfl rfl) (sw (o_shrU r12 40 qj rfl rfl fun r16=>sw (o_andU r16 rfl rfl fun r17 hr17=>sw (o_convI r17 Tryz.underlying125 Tryz.underlying2 rfl qf (sp (.int .i64 r17) (zjr (ret1 (.int .i64 r17) rfl rfl ⟨_,rfl,(⟨ip+1,r12,r17,qf,qf,rfl,N,H.xH 1 1 [0] [0] qo qo⟩)⟩))))))))))))
 ·skip
  refine xe (t_n (zcr (sps [.pointer (some ⟨bs,0,none⟩),.pointer (some ⟨bs,0,none⟩)] (oF rfl (oL rfl (H.cell 0 rfl rfl) (sw (zN ip 1 rfl rfl qf (sp (.pointer (some ⟨bs,0,none⟩)) (oF rfl (sw (xX H 0 [Sv ac code.length cc,.int .i64 (ip+1),.int .u64 sd] Tryz.sizeOf3 fun w18 H=>?_)))))))))))
  try dsimp only [List.set] at H
  refine zjc (sps [.pointer (some ⟨bs,0,none⟩),.pointer (some ⟨bs,0,none⟩),.pointer (some ⟨bs,0,none⟩)] (oF rfl (oL rfl (H.cell 0 rfl rfl) (sw (o_mulU sd 6364136223846793005 rfl rfl fun r19=>sp (.int .i64 0) (sw (o_convU 0 Tryz.underlying3 Tryz.underlying125 rfl fun r20=>sw (o_addU r19 r20 rfl rfl fun r21=>sw (o_addU r21 1442695040888963407 rfl rfl fun r22=>sp (.pointer (some ⟨bs,0,none⟩)) (oF rfl (sw (xX H 0 [Sv ac code.length cc,.int .i64 (ip+1),.int .u64 r22] Tryz.sizeOf125 fun w23 H=>?_))))))))))))
  try dsimp only [List.set] at H
  refine zjn (zg (zg ?_))
  refine XG rfl H [0] [0] fun H=>?_
  have S:=H.jG [0] [0]
  refine rtp 0 (.pointer (some ⟨bs,0,none⟩)) S ?_
  refine rtp 1 (.pointer (some ⟨bs,0,none⟩)) S ?_
  refine tF 2 rfl rfl S ?_
  refine tL 3 rfl rfl (fun _ h=>h.cell 0 rfl rfl) S ?_
  refine rtp 4 (.pointer (some ⟨bs,0,none⟩)) S ?_
  refine rtp 5 (.pointer (some ⟨bs,0,none⟩)) S ?_
  refine tF 6 rfl rfl S ?_
  refine tL 7 rfl rfl (fun _ h=>h.cell 0 rfl rfl) S ?_
  refine tN 8 rfl rfl S ?_
  refine rtp 9 (Bv (decide ((ip+1:Int)≤code.length))) S ?_
  refine xg qh (t_n (cD rfl (fun h25=>?_) (fun h25=>?_)))
  ·skip
   refine zcr (sps [.int .i64 0,.int .i64 0] (zjr (t_r (ret1 (.int .i64 0) rfl rfl ⟨_,rfl,(⟨ip+1,r22,0,qf,qf,rfl,N,H.xH 1 1 [0] [0] qo qo⟩)⟩))))
  ·skip
   refine xe (t_n (zcr (sps [.pointer (some ⟨bs,0,none⟩),.pointer (some ⟨bs,0,none⟩)] (oF rfl (oL rfl (H.cell 0 rfl rfl) (sw (o_shrU r22 40 qj rfl rfl fun r26=>sw (o_andU r26 rfl rfl fun r27 hr27=>sw (o_convI r27 Tryz.underlying125 Tryz.underlying2 rfl qf (sp (.int .i64 r27) (zjr (ret1 (.int .i64 r27) rfl rfl ⟨_,rfl,(⟨ip+1,r22,r27,qf,qf,rfl,N,H.xH 1 1 [0] [0] qo qo⟩)⟩))))))))))))

theorem jZ {W0 w:World} {ps:List Prv} {Γ:List Fact} {Ns:List yLN} (code:List UInt8) (ip:Int) (sd:Int) (bs:Nat) (ac:yOA) (cc:Nat) (Fc:yLN) (nn:Int) (H:St W0 w ((.box bs [Sv ac code.length cc,.int .i64 ip,.int .u64 sd] 127) :: ps) ((sF false Fc ac cc code) :: Γ)) (N:Fresh W0.heap.size (Ns)) (K0:Kept Ns Γ) (q0:0≤ip∧ip≤90000):Calls Tryz.prog 68 #[.pointer (some ⟨bs,0,none⟩),.int .i64 nn] w (fun e w' =>∃ v,e=.returned v∧∃ (ip_:Int) (sd_:Int) (v_:Int),(ip≤ip_∧ip_≤ip+2)∧(0≤v_∧(v_ < nn∨v_=0))∧v=.int .i64 v_∧Fresh W0.heap.size (Ns)∧St W0 w' ((.box bs [Sv ac code.length cc,.int .i64 ip_,.int .u64 sd_] 127) :: ps) ((sF false Fc ac cc code) :: Γ)):=by
 refine en Tryz.func68 Tryz.ntmps68 ?_
 have ncode:=qQ (H.get 0 rfl).1
 refine zcr (sp (.int .i64 0) (zjcc (sps [.int .i64 nn,Bv (decide ((nn:Int)≤1))] (zjn (cD rfl (fun h1=>?_) (fun h1=>?_))))))
 ·skip
  refine zcr (sp (.int .i64 0) (zjr (t_r (ret1 (.int .i64 0) rfl rfl ⟨_,rfl,(⟨ip,sd,0,qf,(by first | omega | exact ⟨hm _,.inl (hm2 _)⟩),rfl,N,H.xH 1 1 [0] [0] qo qo⟩)⟩))))
 ·skip
  refine xe (t_n (zcr (sp (.pointer (some ⟨bs,0,none⟩)) ?_)))
  have H1:St W0 w ((.box bs [Sv ac code.length cc,.int .i64 ip,.int .u64 sd] 127) :: ps) ((sF false Fc ac cc code) :: Γ):=H.xH 1 1 [0] [0] qo qo
  have N1:Fresh _ (Ns):=N
  have K1:Kept (Ns) (Γ):=K0.behind 0 rfl
  refine sw (xR #[.pointer (some ⟨bs,0,none⟩)] rfl rfl Tryz.call126 (dNext_ok code ip sd bs ac cc Fc H1 N1 K1 qg) ?_)
  clear H H1 N1 K1
  rintro _ w2 ⟨zi6,zi7,zi8,hx4,hx5,rfl,N,H⟩
  refine sp (.int .i64 zi8) (zjcc (sps [.int .i64 nn,Bv (decide ((nn:Int) > 200))] (zjn (cD rfl (fun h9=>?_) (fun h9=>?_)))))
  ·skip
   refine zn (sp (.int .i64 zi8) (sw (o_mul zi8 256 rfl rfl qf (sp (.pointer (some ⟨bs,0,none⟩)) ?_))))
   have H1:St W0 w2 ((.box bs [Sv ac code.length cc,.int .i64 zi6,.int .u64 zi7] 127) :: ps) ((sF false Fc ac cc code) :: Γ):=H.xH 1 1 [0] [0] qo qo
   have N1:Fresh _ (Ns):=N
   have K1:Kept (Ns) (Γ):=K0.behind 0 rfl
   refine sw (xR #[.pointer (some ⟨bs,0,none⟩)] rfl rfl Tryz.call126 (dNext_ok code zi6 zi7 bs ac cc Fc H1 N1 K1 qg) ?_)
   clear H H1 N1 K1
   rintro _ w10 ⟨zi14,zi15,zi16,hx12,hx13,rfl,N,H⟩
   refine sw (zN (zi8 * 256) zi16 rfl rfl qf (sp (.int .i64 ((zi8 * 256)+zi16)) (zjc (sps [.int .i64 ((zi8 * 256)+zi16),.int .i64 nn] (sw (o_rem ((zi8 * 256)+zi16) nn rfl rfl qf qf qf (sp (.int .i64 (((zi8 * 256)+zi16) % nn)) (zjr (ret1 (.int .i64 (((zi8 * 256)+zi16) % nn)) rfl rfl ⟨_,rfl,?_⟩)))))))))
   have hm:=fun (x:Int)=>Int.emod_nonneg x (show nn≠0 by omega)
   have hm2:=fun (x:Int)=>Int.emod_lt_of_pos x (show 0 < nn by omega)
   exact ⟨zi14,zi15,((zi8 * 256)+zi16) % nn,qf,(by first | omega | exact ⟨hm _,.inl (hm2 _)⟩),rfl,N,H.xH 1 1 [0] [0] qo qo⟩
  ·skip
   refine xe (t_n (zcr (sps [.int .i64 zi8,.int .i64 nn] (sw (o_rem zi8 nn rfl rfl qf qf qf (sp (.int .i64 (zi8 % nn)) (zjr (ret1 (.int .i64 (zi8 % nn)) rfl rfl ⟨_,rfl,?_⟩))))))))
   have hm:=fun (x:Int)=>Int.emod_nonneg x (show nn≠0 by omega)
   have hm2:=fun (x:Int)=>Int.emod_lt_of_pos x (show 0 < nn by omega)
   exact ⟨zi6,zi7,zi8 % nn,qf,(by first | omega | exact ⟨hm _,.inl (hm2 _)⟩),rfl,N,H.xH 1 1 [0] [0] qo qo⟩

theorem dOne_ok {W0 w:World} {ps:List Prv} {Γ:List Fact} {Ns:List yLN} (code:List UInt8) (ip:Int) (sd:Int) (bs:Nat) (ac:yOA) (cc:Nat) (Fc:yLN) (nn:Int) (H:St W0 w ((.box bs [Sv ac code.length cc,.int .i64 ip,.int .u64 sd] 127) :: ps) ((sF false Fc ac cc code) :: Γ)) (N:Fresh W0.heap.size (Ns)) (K0:Kept Ns Γ) (q0:0≤ip∧ip≤90000):Calls Tryz.prog 66 #[.pointer (some ⟨bs,0,none⟩),.int .i64 nn] w (fun e w' =>∃ v,e=.returned v∧∃ (ip_:Int) (sd_:Int) (v_:Bool),(ip≤ip_∧ip_≤ip+2)∧v=Bv v_∧Fresh W0.heap.size (Ns)∧St W0 w' ((.box bs [Sv ac code.length cc,.int .i64 ip_,.int .u64 sd_] 127) :: ps) ((sF false Fc ac cc code) :: Γ)):=by
 refine en Tryz.func66 Tryz.ntmps66 ?_
 have ncode:=qQ (H.get 0 rfl).1
 refine zcr (sp (Bv false) (zjc (sps [.pointer (some ⟨bs,0,none⟩),.int .i64 nn] ?_)))
 have H1:St W0 w ((.box bs [Sv ac code.length cc,.int .i64 ip,.int .u64 sd] 127) :: ps) ((sF false Fc ac cc code) :: Γ):=H.xH 1 1 [0] [0] qo qo
 have N1:Fresh _ (Ns):=N
 have K1:Kept (Ns) (Γ):=K0.behind 0 rfl
 refine sw (xR #[.pointer (some ⟨bs,0,none⟩),.int .i64 nn] rfl rfl Tryz.call68 (jZ code ip sd bs ac cc Fc nn H1 N1 K1 qg) ?_)
 clear H H1 N1 K1
 rintro _ w1 ⟨zi5,zi6,zi7,hx3,hx4,rfl,N,H⟩
 refine sps [Bv ((zi7:Int) == 0),Bv ((zi7:Int) == 0)] (zjr (ret1 (Bv ((zi7:Int) == 0)) rfl rfl ⟨_,rfl,(⟨zi5,zi6,(zi7:Int) == 0,qf,rfl,N,H.xH 1 1 [0] [0] qo qo⟩)⟩))

theorem dFew_ok {W0 w:World} {ps:List Prv} {Γ:List Fact} {Ns:List yLN} (code:List UInt8) (ip:Int) (sd:Int) (bs:Nat) (ac:yOA) (cc:Nat) (Fc:yLN) (kk:Int) (most:Int) (H:St W0 w ((.box bs [Sv ac code.length cc,.int .i64 ip,.int .u64 sd] 127) :: ps) ((sF false Fc ac cc code) :: Γ)) (N:Fresh W0.heap.size (Ns)) (K0:Kept Ns Γ) (q0:0≤ip∧ip≤80000) (q1:1≤kk∧kk≤8) (q2:1≤most∧most≤6):Calls Tryz.prog 145 #[.pointer (some ⟨bs,0,none⟩),.int .i64 kk,.int .i64 most] w (fun e w' =>∃ v,e=.returned v∧∃ (ip_:Int) (sd_:Int) (out_:yLI) (rao:yOA) (rno:Nat) (rco:Nat),(ip≤ip_∧ip_≤ip+20)∧(vJ kk most out_)∧v=Sv rao rno rco∧Fresh W0.heap.size (Ns)∧St W0 w' ((.box bs [Sv ac code.length cc,.int .i64 ip_,.int .u64 sd_] 127) :: (rr rao rno rco 2 1 (out_.map (Value.int .i64))) :: ps) ((sF false Fc ac cc code) :: Γ)):=by
 refine en Tryz.func145 Tryz.ntmps145 ?_
 have ncode:=qQ (H.get 0 rfl).1
 refine zcr (sp (Sv none 0 0) (zjc (sp (.int .i64 kk) (sw (zf H Tryz.underlying24 ti2 kk.toNat rfl rfl qf qf qf fun b1 w2 H=>sp (Sv (some ⟨b1,0,none⟩) kk.toNat kk.toNat) (zjcc (sps [.pointer (some ⟨bs,0,none⟩),.int .i64 most] (sw (zN most 1 rfl rfl qf ?_)))))))))
 have H1:St W0 w2 ((.box bs [Sv ac code.length cc,.int .i64 ip,.int .u64 sd] 127) :: (rr (some ⟨b1,0,none⟩) kk.toNat kk.toNat 2 1 ((List.replicate kk.toNat (0:Int)).map (Value.int .i64))) :: ps) ((sF false Fc ac cc code) :: Γ):=H.xH 2 1 [1,0] [0] qo qo
 have N1:Fresh _ (Ns):=N
 have K1:Kept (Ns) (Γ):=K0.behind 0 rfl
 refine sw (xR #[.pointer (some ⟨bs,0,none⟩),.int .i64 (most+1)] rfl rfl Tryz.call68 (jZ code ip sd bs ac cc Fc (most+1) H1 N1 K1 qg) ?_)
 clear H H1 N1 K1
 rintro _ w3 ⟨zi7,zi8,zi9,hx5,hx6,rfl,N,H⟩
 refine sp (.int .i64 zi9) (zjn (qZ ?_))
 refine zU (fun m' ρ w10=>∃ (zl:Env) (k:Int) (s_at:Int) (s_seed:Int) (out:yLI),ρ=upd (upd (upd (upd zl 0 (.pointer (some ⟨bs,0,none⟩))) 1 (.int .i64 kk)) 7 (Sv (some ⟨b1,0,none⟩) kk.toNat kk.toNat)) 8 (.int .i64 k)∧(0≤k∧k≤most)∧(ip≤s_at∧s_at+2 * k≤ip+20)∧(vJ kk (most - k) out)∧m' =k.toNat∧Fresh W0.heap.size (Ns)∧St W0 w10 ((.box bs [Sv ac code.length cc,.int .i64 s_at,.int .u64 s_seed] 127) :: (rr (some ⟨b1,0,none⟩) kk.toNat kk.toNat 2 1 (out.map (Value.int .i64))) :: ps) ((sF false Fc ac cc code) :: Γ)) (zi9.toNat) ⟨_,zi9,zi7,zi8,(List.replicate kk.toNat (0:Int)),uE4,qf,qf,(by exact vJ.zero qf qf),rfl,N,H⟩ ?_
 clear H N
 rintro m' ρ w11 ⟨zl,k,s_at,s_seed,out,rfl,i1,i2,i3,rfl,N,H⟩
 have hn_out:=H.vM 1 rfl
 have i4:=i3.len qf
 refine zcc (sps [.int .i64 k,Bv (decide ((k:Int) > 0))] (zjn (cD rfl (fun h12=>?_) (fun h12=>?_))))
 ·skip
  refine xe (t_n (zg (qZ (zn (sps [Sv (some ⟨b1,0,none⟩) kk.toNat kk.toNat,.pointer (some ⟨bs,0,none⟩),.int .i64 kk] ?_)))))
  have H1:St W0 w11 ((.box bs [Sv ac code.length cc,.int .i64 s_at,.int .u64 s_seed] 127) :: (rr (some ⟨b1,0,none⟩) kk.toNat kk.toNat 2 1 (out.map (Value.int .i64))) :: ps) ((sF false Fc ac cc code) :: Γ):=H.xH 2 1 [0,1] [0] qo qo
  have N1:Fresh _ (Ns):=N
  have K1:Kept (Ns) (Γ):=K0.behind 0 rfl
  refine sw (xR #[.pointer (some ⟨bs,0,none⟩),.int .i64 kk] rfl rfl Tryz.call68 (jZ code s_at s_seed bs ac cc Fc kk H1 N1 K1 qg) ?_)
  clear H H1 N1 K1
  rintro _ w13 ⟨zi17,zi18,zi19,hx15,hx16,rfl,N,H⟩
  have i5:=i3.2 zi19.toNat qf
  refine oI rfl rfl (oL rfl (H.rowInt 1 rfl (iv:=zi19) (i:=zi19.toNat) qf qf) (sw (zN (out[zi19.toNat]!) 1 rfl rfl qf (oI rfl rfl (sw (Va H 1 rfl ((out[zi19.toNat]!)+1) Tryz.sizeOf2 rfl rfl (i:=zi19.toNat) qf qf fun w20 H=>?_))))))
  try dsimp only [List.set] at H
  refine zo (b_n (t_n (zn (sp (.int .i64 k) (sw (o_sub k 1 rfl rfl qf (sp (.int .i64 (k - 1)) (zo (xm (m' :=(k - 1).toNat) qf ⟨_,k - 1,zi17,zi18,(out.set zi19.toNat ((out[zi19.toNat]!)+1)),uE4,?_,?_,?_,rfl,N,H⟩)))))))))
  · omega
  · omega
  · exact i3.up qf qf
 ·skip
  refine zx4 (zcr (sps [Sv (some ⟨b1,0,none⟩) kk.toNat kk.toNat,Sv (some ⟨b1,0,none⟩) kk.toNat kk.toNat] (zjr (ret1 (Sv (some ⟨b1,0,none⟩) kk.toNat kk.toNat) rfl rfl ⟨_,rfl,(⟨s_at,s_seed,out,(some ⟨b1,0,none⟩),kk.toNat,kk.toNat,qf,(by rw [show most=most - k by omega];exact i3),rfl,N,H.xH 2 1 [0,1] [0] qo qo⟩)⟩))))

theorem zT {W0 w:World} {ps:List Prv} {Γ:List Fact} {Ns:List yLN} (code:List UInt8) (ip:Int) (sd:Int) (bs:Nat) (ac:yOA) (cc:Nat) (Fc:yLN) (kk:Int) (most:Int) (H:St W0 w ((.box bs [Sv ac code.length cc,.int .i64 ip,.int .u64 sd] 127) :: ps) ((sF false Fc ac cc code) :: Γ)) (N:Fresh W0.heap.size (Ns)) (K0:Kept Ns Γ) (q0:0≤ip∧ip≤70000) (q1:1≤kk∧kk≤8) (q2:1≤most∧most≤6):Calls Tryz.prog 188 #[.pointer (some ⟨bs,0,none⟩),.int .i64 kk,.int .i64 most] w (fun e w' =>∃ v,e=.returned v∧∃ (ip_:Int) (sd_:Int) (out_:yLI) (rao:yOA) (rno:Nat) (rco:Nat),(ip≤ip_∧ip_≤ip+24)∧(vJ kk most out_∧QJ out_≠0)∧v=Sv rao rno rco∧Fresh W0.heap.size (Ns)∧St W0 w' ((.box bs [Sv ac code.length cc,.int .i64 ip_,.int .u64 sd_] 127) :: (rr rao rno rco 2 1 (out_.map (Value.int .i64))) :: ps) ((sF false Fc ac cc code) :: Γ)):=by
 refine en Tryz.func188 Tryz.ntmps188 ?_
 have ncode:=qQ (H.get 0 rfl).1
 refine zcr (sp (Sv none 0 0) (zjc (sps [.pointer (some ⟨bs,0,none⟩),.int .i64 kk,.int .i64 most] ?_)))
 have H1:St W0 w ((.box bs [Sv ac code.length cc,.int .i64 ip,.int .u64 sd] 127) :: ps) ((sF false Fc ac cc code) :: Γ):=H.xH 1 1 [0] [0] qo qo
 have N1:Fresh _ (Ns):=N
 have K1:Kept (Ns) (Γ):=K0.behind 0 rfl
 refine sw (xR #[.pointer (some ⟨bs,0,none⟩),.int .i64 kk,.int .i64 most] rfl rfl Tryz.call145 (dFew_ok code ip sd bs ac cc Fc kk most H1 N1 K1 qg qg qg) ?_)
 clear H H1 N1 K1
 rintro _ w1 ⟨zi5,zi6,zl7,ra8,rn9,rc10,hx3,hx4,rfl,N,H⟩
 obtain rfl:=H.vM 1 rfl
 have j1:=(‹vJ kk most _›:vJ kk most zl7)
 have j2:=j1.small q1 qf
 have j3:=j1.len qf
 refine sp (Sv ra8 zl7.length rc10) (zjcc (sp (Sv ra8 zl7.length rc10) ?_))
 obtain ⟨G11,hn12,h13⟩:=H.rowIsI 1 rfl
 refine sw (oq (XC _ zl7 h13 (by first | assumption | exact vG ql | exact yF ql)) H fun w14 H=>sp (Bv ((QJ zl7:Int) == 0)) (zjn (cE rfl (fun h16=>?_) (fun h16=>?_))))
 ·skip
  refine zn (sps [Sv ra8 zl7.length rc10,.pointer (some ⟨bs,0,none⟩),.int .i64 kk] ?_)
  have H1:St W0 w14 ((.box bs [Sv ac code.length cc,.int .i64 zi5,.int .u64 zi6] 127) :: (rr ra8 zl7.length rc10 2 1 (zl7.map (Value.int .i64))) :: ps) ((sF false Fc ac cc code) :: Γ):=H.xH 2 1 [0,1] [0] qo qo
  have N1:Fresh _ (Ns):=N
  have K1:Kept (Ns) (Γ):=K0.behind 0 rfl
  refine sw (xR #[.pointer (some ⟨bs,0,none⟩),.int .i64 kk] rfl rfl Tryz.call68 (jZ code zi5 zi6 bs ac cc Fc kk H1 N1 K1 qg) ?_)
  clear H H1 N1 K1
  rintro _ w17 ⟨zi21,zi22,zi23,hx19,hx20,rfl,N,H⟩
  obtain ⟨b24,rfl⟩:=H.Qc 1 rfl qf
  refine oI rfl rfl (sw (Va H 1 rfl 1 Tryz.sizeOf2 rfl rfl (i:=zi23.toNat) qf qf fun w25 H=>?_))
  try dsimp only [List.set] at H
  refine zjc (sps [Sv (some ⟨b24,0,none⟩) zl7.length rc10,Sv (some ⟨b24,0,none⟩) zl7.length rc10] (zjr (ret1 (Sv (some ⟨b24,0,none⟩) zl7.length rc10) rfl rfl ⟨_,rfl,(⟨zi21,zi22,(zl7.set zi23.toNat 1),(some ⟨b24,0,none⟩),zl7.length,rc10,qf,(by first | exact ⟨j1,by assumption⟩ | exact ⟨j1.put qf,j1.one q1 qf ‹_› qf⟩),rfl,N,H.xH 2 1 [0,1] [0] qo qo⟩)⟩)))
 ·skip
  refine xe (t_n (zcr (sps [Sv ra8 zl7.length rc10,Sv ra8 zl7.length rc10] (zjr (ret1 (Sv ra8 zl7.length rc10) rfl rfl ⟨_,rfl,(⟨zi5,zi6,zl7,ra8,zl7.length,rc10,qf,(by first | exact ⟨j1,by assumption⟩ | exact ⟨j1.put qf,j1.one q1 qf ‹_› qf⟩),rfl,N,H.xH 2 1 [0,1] [0] qo qo⟩)⟩)))))
end
end Go.Proofs.YtcpnclokildllaaGreat
