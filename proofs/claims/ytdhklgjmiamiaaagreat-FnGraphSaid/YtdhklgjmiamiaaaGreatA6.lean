/- Walks and laws, printed by program and by hand: what each function comes to, for all arguments, part 6. -/
import Derived.Test.YtdhklgjmiamiaaaGreatA5
import Derived.Shelf.SlicesE.Reverse
import Derived.Ground.SlgnProg
namespace Go.Proofs.YtdhklgjmiamiaaaGreat
set_option linter.unusedVariables false
set_option linter.unusedSimpArgs false
open Go.Proofs.YtdhklgjmiamiaaaGreat.Tot (tot)
open Go.Proofs.YtdhklgjmiamiaaaGreat.Mark (cnt mrk mkd mkd_mark cnt_mark)
section
open Go.Proofs.Tryz
open Go.RowKit
set_option linter.unusedVariables false
set_option linter.unusedSimpArgs false
set_option maxRecDepth 100000
set_option maxHeartbeats 4000000
def sortL_ren:Go.Shelf.Ren:=⟨fun | 6=>78 | 15=>133 | 14=>132 | 28=>178 | 29=>179 | 20=>170 | 21=>171 | 22=>172 | 23=>173 | 24=>174 | 25=>175 | 26=>176 | 27=>177 | 46=>199 | 47=>200 | 48=>201 | 49=>202 | 50=>203 | 57=>217 | n=>n,fun | 22=>29 | 24=>24 | 25=>110 | 3=>3 | 39=>155 | 0=>0 | 53=>198 | 55=>113 | 4=>4 | 46=>191 | 45=>190 | 50=>195 | 5=>5 | 9=>9 | 66=>214 | 70=>218 | 76=>229 | 77=>230 | n=>n,fun | n=>n⟩
theorem sortL:Go.Proofs.SlLaysF.n6 Tryz.prog sortL_ren:={
  mixed:=by kernel_rfl
  f6:=⟨Tryz.f78.name,by decide,Tryz.func78.trans (congrArg some (by kernel_rfl))⟩
  f14:=⟨Tryz.f132.name,by decide,Tryz.func132.trans (congrArg some (by kernel_rfl))⟩
  f15:=Tryz.func133.trans (congrArg some (by kernel_rfl))
  f20:=⟨Tryz.f170.name,by decide,Tryz.func170.trans (congrArg some (by kernel_rfl))⟩
  f21:=⟨Tryz.f171.name,by decide,Tryz.func171.trans (congrArg some (by kernel_rfl))⟩
  f22:=⟨Tryz.f172.name,by decide,Tryz.func172.trans (congrArg some (by kernel_rfl))⟩
  f23:=⟨Tryz.f173.name,by decide,Tryz.func173.trans (congrArg some (by kernel_rfl))⟩
  f24:=⟨Tryz.f174.name,by decide,Tryz.func174.trans (congrArg some (by kernel_rfl))⟩
  f25:=⟨Tryz.f175.name,by decide,Tryz.func175.trans (congrArg some (by kernel_rfl))⟩
  f26:=⟨Tryz.f176.name,by decide,Tryz.func176.trans (congrArg some (by kernel_rfl))⟩
  f27:=⟨Tryz.f177.name,by decide,Tryz.func177.trans (congrArg some (by kernel_rfl))⟩
  f28:=Tryz.func178.trans (congrArg some (by kernel_rfl))
  f29:=Tryz.func179.trans (congrArg some (by kernel_rfl))
  f46:=⟨Tryz.f199.name,by decide,Tryz.func199.trans (congrArg some (by kernel_rfl))⟩
  f47:=Tryz.func200.trans (congrArg some (by kernel_rfl))
  f48:=Tryz.func201.trans (congrArg some (by kernel_rfl))
  f49:=⟨Tryz.f202.name,by decide,Tryz.func202.trans (congrArg some (by kernel_rfl))⟩
  f50:=⟨Tryz.f203.name,by decide,Tryz.func203.trans (congrArg some (by kernel_rfl))⟩
  f57:=⟨Tryz.f217.name,by decide,Tryz.func217.trans (congrArg some (by kernel_rfl))⟩
  t0:=Tryz.underlying0
  a0:=Tryz.isAgg0
  z0:=Tryz.sizeOf0
  v0:=Tryz.zeroValue0
  t3:=Tryz.underlying3
  a3:=Tryz.isAgg3
  z3:=Tryz.sizeOf3
  v3:=Tryz.zeroValue3
  t4:=Tryz.underlying4
  a4:=Tryz.isAgg4
  z4:=Tryz.sizeOf4
  v4:=Tryz.zeroValue4
  t5:=Tryz.underlying5
  a5:=Tryz.isAgg5
  z5:=Tryz.sizeOf5
  v5:=Tryz.zeroValue5
  t9:=Tryz.underlying9
  a9:=Tryz.isAgg9
  z9:=Tryz.sizeOf9
  v9:=Tryz.zeroValue9
  t22:=Tryz.underlying29
  a22:=Tryz.isAgg29
  z22:=Tryz.sizeOf29
  v22:=Tryz.zeroValue29
  a24:=Tryz.isAgg24
  z24:=Tryz.sizeOf24
  t25:=Tryz.underlying110
  a25:=Tryz.isAgg110
  z25:=Tryz.sizeOf110
  v25:=Tryz.zeroValue110
  t39:=Tryz.underlying155
  a39:=Tryz.isAgg155
  z39:=Tryz.sizeOf155
  v39:=Tryz.zeroValue155
  t45:=Tryz.underlying190
  a45:=Tryz.isAgg190
  z45:=Tryz.sizeOf190
  v45:=Tryz.zeroValue190
  t46:=Tryz.underlying191
  a46:=Tryz.isAgg191
  z46:=Tryz.sizeOf191
  v46:=Tryz.zeroValue191
  t50:=Tryz.underlying195
  a50:=Tryz.isAgg195
  z50:=Tryz.sizeOf195
  v50:=Tryz.zeroValue195
  t53:=Tryz.underlying198
  a53:=Tryz.isAgg198
  z53:=Tryz.sizeOf198
  v53:=Tryz.zeroValue198
  t55:=Tryz.underlying113
  a55:=Tryz.isAgg113
  z55:=Tryz.sizeOf113
  v55:=Tryz.zeroValue113
  t66:=Tryz.underlying214
  a66:=Tryz.isAgg214
  z66:=Tryz.sizeOf214
  v66:=Tryz.zeroValue214
  t70:=Tryz.underlying218
  a70:=Tryz.isAgg218
  z70:=Tryz.sizeOf218
  v70:=Tryz.zeroValue218
  t76:=Tryz.underlying229
  a76:=Tryz.isAgg229
  z76:=Tryz.sizeOf229
  v76:=Tryz.zeroValue229
  t77:=Tryz.underlying230
  a77:=Tryz.isAgg230
  z77:=Tryz.sizeOf230
  v77:=Tryz.zeroValue230 }
theorem cmpSort (W:World) (x y:yLI) (a:yOA) (c:Nat) (F:yLN) (a' :yOA) (c' :Nat) (F' :yLN) (hx:qO.rep W F [.slice a x.length c] x) (hy:qO.rep W F' [.slice a' y.length c'] y):
    Calls Tryz.prog 79 #[.slice a x.length c,.slice a' y.length c'] W fun e w' =>e=.returned (yI (cmpL x y))∧w' =W:=
  (compareL_ok W x y a c F a' c' F' hx hy).mono fun _ _ ⟨_,he,⟨hv,hw⟩,_⟩=>⟨he.trans (by rw [hv]),hw⟩

theorem choices_ok (w:World) (s:qE) (t:qF) {qJ:yOA} {qI:Nat} {xu:yLN} {qV:yOA} {qQ:Nat} {zh:yLN} {xg:yOA} {xf:Nat} {zu:yLN} {xF:yOA} {xA:Nat} {zU:yLN} {qU:yOA} {qR:Nat} {x9:yLN} (qX:qO.rep w xu [.slice qJ s.qA.length qI] s.qA) (xn:qO.rep w zh [.slice qV s.qB.length qQ] s.qB) (xR:qO.rep w zu [.slice xg t.qG.length xf] t.qG) (zn:qO.rep w zU [.slice xF t.qN.length xA] t.qN) (xy:qO.rep w x9 [.slice qU t.qH.length qR] t.qH) (p0:vK s) (p1:xX s t):Calls Tryz.prog 108 #[.agg #[yI s.xP,.slice qJ s.qA.length qI,.slice qV s.qB.length qQ],.agg #[.slice xg t.qG.length xf,.slice xF t.qN.length xA,.slice qU t.qH.length qR]] w (Ret (fun v w' =>∃ (ra0:yOA) (rn0:Nat) (rc0:Nat) (rx0:List Value) (rF0:yLN),v=.tuple #[.slice ra0 rn0 rc0,yI ((zy s t).2)]∧Fresh w.heap.size [rF0]∧St w w' [rr ra0 rn0 rc0 24 1 rx0] [xB true rF0 rx0 ((zy s t).1)]) w):=by
 refine en func108 ntmps108 ?_
 have H:=(((((St.start w).arg xy).arg zn).arg xR).arg xn).arg qX
 have zN:=qM qX
 have vW:=qM xn
 have jO:=qM xR
 have yH:=qM zn
 have jg:=qM xy
 clear qX xn xR zn xy
 have N:=Fresh.nil w.heap.size
 have A:=H.ltN (L:=[xu,zh,zu,zU,x9]) [0,1,2,3,4]
 have p2:=p0.2.1
 have p3:=p0.1.2.1
 have p4:=p1.1
 have p5:=p1.2.1
 refine zcr (sw (zS H (yS s qJ qI qV qQ) fun b1 w2 H=>sw (zS H (yT t xg xf xF xA qU qR) fun b3 w4 H=>sq 1 (sp (yI 0) (zjc (sw (xI (yS s qJ qI qV qQ) isAgg27 sizeOf27 rfl (qC (H.cells 1 rfl) 0 3) ?_)))))))
 refine sw (xI (yT t xg xf xF xA qU qR) isAgg31 sizeOf31 rfl (qC (H.cells 0 rfl) 0 3) (sw (zQ #[.agg #[yI s.xP,.slice qJ s.qA.length qI,.slice qV s.qB.length qQ],.agg #[.slice xg t.qG.length xf,.slice xF t.qN.length xA,.slice qU t.qH.length qR]] rfl rfl call158 (en func158 ntmps158 ?_))))
 refine zcr (sw (zS H (yS s qJ qI qV qQ) fun b5 w6 H=>sw (zS H (yT t xg xf xF xA qU qR) fun b7 w8 H=>sq 1 (sp (yI 0) (zjc (oF rfl (oL rfl (H.cell 1 rfl rfl) (oN rfl (sw (o_makeZ (⟨[]⟩:OwnI 2) H underlying29 ti24 qj (fun _=>⟨yN,rfl,Or.inl ⟨rfl,rfl,rfl⟩⟩) s.qA.length rfl rfl qf qf qf fun b9 w10 xs11 H=>?_))))))))))
 refine sq 1 (zjcc (sw (xI (yS s qJ qI qV qQ) isAgg27 sizeOf27 rfl (qC (H.cells 2 rfl) 0 3) (sw (xI (yT t xg xf xF xA qU qR) isAgg31 sizeOf31 rfl (qC (H.cells 1 rfl) 0 3) ?_)))))
 have sz15:=H.base.size
 refine sw (oc (applicable_ok _ s t (H.get 1 rfl).1 (H.get 2 rfl).1 (H.get 3 rfl).1 (H.get 4 rfl).1 (H.get 5 rfl).1 qg qg) ?_)
 rintro _ w13 ⟨ra12,rn12,rc12,rfl,M,K⟩ _
 replace H:=H.merge K M
 obtain rfl:=H.jm 0 rfl
 have al:(appls s t).length≤s.qB.length:=applL_le s t s.qB.length
 refine oN rfl (sp (yI 0) (zjn (qY ?_)))
 refine zq ((fun Z0 Z1 Z2 Z3 Z4 Z5 Z6 Z7 Z8 Z9=>fun m' ρ w18=>∃ (xM:Env) (k:Nat) (own:List (OwnI 2)) (x_own:List Value) (F_own:yLN),ρ=upd (upd (upd (upd (upd (upd xM 2 (pp b5 0)) 3 (pp b7 0)) 6 (.slice (aa b9 0) s.qA.length s.qA.length)) 24 (.slice ra12 ((appls s t).length) rc12)) 25 (yI ((appls s t).length))) 26 (yI k)∧own=(ownL 2 s t s.qA.length k)∧((k:Int)≤((appls s t).length))∧m' =(((appls s t).length) - (k:Int)).toNat∧Fresh w.heap.size [F_own]∧St w w18 [Z0,rr (aa b9 0) s.qA.length s.qA.length 24 1 x_own,Z1,Z2,Z3,Z4] [xB true F_own x_own own,Z5,Z6,Z7,Z8,Z9]) _ _ _ _ _ _ _ _ _ _) ((((appls s t).length) - (0:Int)).toNat) ⟨_,0,(List.replicate s.qA.length (⟨[]⟩:OwnI 2)),xs11,[],uE6,(by exact ownL_zero 2 s t _),qf,rfl,N.emp,H⟩ ?_
 clear H N
 rintro m' ρ w19 ⟨xM,k,own,x_own,F_own,rfl,rfl,i0,rfl,N,H⟩
 have hn_own:=H.xK (α:=OwnI 2) 1 rfl 0 rfl qj
 have ol:=ownL_len 2 s t s.qA.length k
 refine zcr (sq 1 (zjn (xQ (cD rfl (fun h20=>?_) (fun h20=>?_)))))
 ·skip
  obtain ⟨a0,a1,a2⟩:=appls_inH (s:=s) (t:=t) (q:=k) qf
  have q:=p0.rule (i:=((appls s t)[k]!).toNat) qf
  have qc:=q.1
  have qk:(s.qB[((appls s t)[k]!).toNat]!).qP.toNat < s.qA.length:=q.cell
  have le:=ownL_le (e:=2) (s:=s) (t:=t) (n:=s.qA.length) (q:=k) (c:=(s.qB[((appls s t)[k]!).toNat]!).qP.toNat) qf
  have sm:=vg (p1.2.2.2.2 (s.qB[((appls s t)[k]!).toNat]!).qP.toNat qf).1
  refine qW (t_n (xQ (qY (zcr ?_))))
  obtain ⟨b21,rfl⟩:=H.jW 0 rfl qf
  refine oI rfl rfl (oL rfl (H.rowInt 0 rfl (iv:=k) (i:=k) qf qf) (sq 1 (zjc (oF rfl (oL rfl (H.cell 3 rfl rfl) (sq 1 ?_))))))
  obtain ⟨b22,o23,rfl⟩:=H.addr 2 rfl qf
  obtain ⟨ae25Need,ce25Need,Fe25Need,ae25Have,ce25Have,Fe25Have,ae25Lack,ce25Lack,Fe25Lack,ae25Here,ce25Here,Fe25Here,ae25Out,ce25Out,Fe25Out,ae25Into,ce25Into,Fe25Into,H⟩:=H.yA 2 rfl ((appls s t)[k]!) (((appls s t)[k]!).toNat) qf qf qf
  refine oI rfl rfl (oF rfl (oL rfl (H.x8 6 rfl 0 rfl) (sq 1 (zjcc (oF rfl (oL rfl (H.cell 2 rfl rfl) (sq 1 ?_)))))))
  obtain ⟨b26,o27,rfl⟩:=H.addr 11 rfl qf
  obtain ⟨ae29,ce29,Fe29,H⟩:=H.vX 11 rfl ((s.qB[((appls s t)[k]!).toNat]!).qP) (((s.qB[((appls s t)[k]!).toNat]!).qP).toNat) qf qf qf
  refine oI rfl rfl (oL rfl (H.x8 1 rfl 0 rfl) (sw (oq (XM _ (t.qN[((s.qB[((appls s t)[k]!).toNat]!).qP).toNat]!) (H.get 0 rfl).1 (by first | assumption | exact vg ql | exact yB ql)) H fun w30 H=>sp (.bool (decide ((QM (t.qN[((s.qB[((appls s t)[k]!).toNat]!).qP).toNat]!):Int) > 16))) (zjn (cD rfl (fun h32=>?_) (fun h32=>?_))))))
  ·skip
   refine zcr (sq 1 (sp (yI 3) (zjr (t_r (zr5 (ret2 yN (yI 3) rfl rfl rfl ⟨_,rfl,?_⟩))))))
   replace H:=H.erases [3,2,1,0]
   dsimp only [vV,List.eraseIdx] at H
   refine sq 2 (sp (yI 3) (sq 1 (sp (yI 3) (zjcc (sp (yI 3) (sp (.bool true) (zjn (xE true rfl (fun _=>zcr (sp (yI 3) (sq 1 (sp (yI 3) (zjr (t_r ?_)))))) (fun h=>absurd h qj)))))))))
   replace H:=H.nilRow 24 1
   replace H:=H.zW (α:=yLI)
   refine ret2 yN (yI 3) rfl rfl rfl ⟨_,rfl,?_,H.base⟩
   first | rw [cho_3 (.inl (own_bad p0 (q:=k) qf qf))] | rw [cho_3 (.inr (prod_stop (G:=(yO s.qB.length (xC s t s.qA.length) (zi s t s.qA.length) k_1)) (r:=((xC s t s.qA.length)[k_1]!)) (k:=k_51+1) (i:=k_1) kn qf (QT _) qf (by rw [← nextX_end (x:=k_52) qf qf];omega)))]
   exact ⟨none,0,0,[],[],rfl,(N.emp.pick [0]),H.pick [0] [0]⟩
  refine qW (t_n (xU (sq 4 (oI rfl rfl ?_))))
  replace N:Fresh w.heap.size [F_own]:=N
  obtain ⟨a33,c34,F35,h36,N,H⟩:=H.openI 1 rfl 9 rfl N (iv:=(s.qB[((appls s t)[k]!).toNat]!).qP) (((s.qB[((appls s t)[k]!).toNat]!).qP).toNat) qf qf [sF false xu qJ qI s.qA,sF false zh (aa b22 o23) qQ s.qB,sF false zu xg xf t.qG,sF false zU (aa b26 o27) xA t.qN,sF false x9 qU qR t.qH] (keepA A N [10,11,12,13,14] rfl rfl)
  refine oL rfl h36 (sq 1 (sw (zf H underlying24 ti2 [yI ((appls s t)[k]!)] fun b37 w38 H=>sw (zk H 1 rfl 0 rfl underlying24 ti2 rfl qj rfl rfl rfl qw qp qf fun a39 c40 w41 H=>?_))))
  rw [snocI] at H
  refine oI rfl rfl (sw (o_closeI H 3 rfl 1 qj rfl 0 rfl (c:=(((s.qB[((appls s t)[k]!).toNat]!).qP).toNat)) (N:Fresh w.heap.size [F35]) (H.vS []) sizeOf24 rfl rfl qf qf fun w42 F43 N H=>xY (b_n (t_n (xU (sw (zA k 1 rfl rfl qf (sq 1 (xY (xe (m' :=(((appls s t).length) - ((k+1):Int)).toNat) qf ⟨_,k+1,_,_,_,uE6,?_,?_,rfl,N,H.pick [2,3,4,5,6,7] [0,2,3,4,5,6]⟩))))))))))
  · exact ownL_set qf rfl qf qf (by rw [List.set_set])
  · omega
 refine zx4 (zcr (sw (vU H underlying176 ti180 fun b44 w45 H=>sq 1 (zjcc (sq 1 (oN rfl (sp (yI 0) (zjn (qY ?_)))))))))
 replace H:=H.ofOwn 0 rfl
 rw [ownL_end qf] at H
 have cl:=cellsR_len s t s.qA.length
 replace H:=H.boxRow 0 rfl 2 0 rfl qj
 replace H:=H.zW (α:=inCellD)
 replace H:St _ _ [rr (aa b44 0) 0 0 180 2 [],rr ra12 ((appls s t).length) rc12 2 1 ((appls s t).map (Value.int .i64)),rr (aa b9 0) s.qA.length s.qA.length 24 1 x_own,.box b7 (yT t xg xf xF xA qU qR) 31,.box b5 (yS s qJ qI qV qQ) 27,.box b3 (yT t xg xf xF xA qU qR) 31,.box b1 (yS s qJ qI qV qQ) 27] [xB true [] [] ([]:List inCellD),xB true F_own x_own (cellsR s t s.qA.length),xB true F_own x_own (ownL 2 s t s.qA.length k),sF false xu qJ qI s.qA,sF false zh qV qQ s.qB,sF false zu xg xf t.qG,sF false zU xF xA t.qN,sF false x9 qU qR t.qH]:=H
 refine zq ((fun Z0 Z1 Z2 Z3 Z4 Z5 Z6 Z7 Z8 Z9 Z10 Z11 Z12=>fun m' ρ w46=>∃ (xM:Env) (yf:yOA) (ja:Nat) (jT:Nat) (out:List inCellD) (Xn:List Value) (y7:yLN) (c:Nat),ρ=upd (upd (upd (upd (upd (upd xM 2 (pp b5 0)) 3 (pp b7 0)) 10 (.slice yf ja jT)) 55 (.slice (aa b9 0) s.qA.length s.qA.length)) 56 (yI s.qA.length)) 57 (yI c)∧out=(Xt s t c)∧((c:Int)≤s.qA.length)∧(GoodP s t c)∧m' =(s.qA.length - (c:Int)).toNat∧Fresh w.heap.size [F_own]∧St w w46 [rr yf ja jT 180 2 Xn,Z0,Z1,Z2,Z3,Z4,Z5] [xB true y7 Xn out,Z6,Z7,Z8,Z9,Z10,Z11,Z12]) _ _ _ _ _ _ _ _ _ _ _ _ _) ((s.qA.length - (0:Int)).toNat) ⟨_,(aa b44 0),0,0,([]:List inCellD),[],[],0,uE6,(by rfl),qf,qx,rfl,N,H⟩ ?_
 clear H N
 rintro m' ρ w47 ⟨xM,yf,ja,jT,out,Xn,y7,c,rfl,rfl,i0,gp,rfl,N,H⟩
 have hn_out:=H.xK (α:=inCellD) 0 rfl 0 rfl qj
 have ce:=cells_len s t c
 have rl:=rules_le s t c
 refine zcr (sq 1 (zjn (xQ (cD rfl (fun h48=>?_) (fun h48=>?_)))))
 ·skip
  refine qW (t_n (xQ (qY (zcr (sp (yI c) (oI rfl rfl ?_))))))
  obtain ⟨a49,c50,G51,s52,h53,H⟩:=H.jy 2 rfl 1 rfl (iv:=c) c qf qf
  refine oL rfl (h53) (sp (yI c) (sq 1 (zjcc (sq 1 (oN rfl (sp (.bool ((((cellsR s t s.qA.length)[c]!).length:Int) == 0)) (zjn (cE rfl (fun h54=>?_) (fun h54=>?_)))))))))
  ·skip
   rw [cellsR_get (s:=s) (t:=t) (n:=s.qA.length) (c:=c) qf] at H h54 ⊢
   refine c_exit (t_x (b_x (t_n (xU (sw (zA c 1 rfl rfl qf (sq 1 (xY (xe (m' :=(s.qA.length - ((c+1):Int)).toNat) qf ⟨_,_,_,_,_,_,_,c+1,uE6,?_,?_,?_,rfl,N,H.pick [0,1,2,3,4,5,6] [1,2,3,4,5,6,7,8]⟩)))))))))
   · first | exact cells_yes qf | exact cells_no qf
   · omega
   · exact gp.succ (by first | exact .inl qf | exact .inr (show (jV _ _).2=0 from ‹_›))
  rw [cellsR_get (s:=s) (t:=t) (n:=s.qA.length) (c:=c) qf] at H h54 ⊢
  refine qW (t_n (zcr (sw (vU H underlying29 ti24 fun b55 w56 H=>sq 1 (zjcc (sq 1 (oN rfl (sp (yI 0) (zjn (qY ?_))))))))))
  replace H:=H.boxRow 0 rfl 1 0 rfl qj
  replace H:=H.zW (α:=yLI)
  replace H:=H.unfree 0 rfl
  refine zq ((fun Z0 Z1 Z2 Z3 Z4 Z5 Z6 Z7 Z8 Z9 Z10 Z11 Z12 Z13 Z14 Z15=>fun m' ρ w57=>∃ (xM:Env) (a_needs:yOA) (n_needs:Nat) (c_needs:Nat) (needs:yLL) (x_needs:List Value) (F_needs:yLN) (k_1:Nat),ρ=upd (upd (upd (upd (upd (upd (upd (upd (upd (upd (upd (upd xM 2 (pp b5 0)) 3 (pp b7 0)) 10 (.slice yf ja jT)) 11 (yI c)) 12 (.slice a49 ((vk s t c).length) c50)) 13 (.slice a_needs n_needs c_needs)) 55 (.slice (aa b9 0) s.qA.length s.qA.length)) 56 (yI s.qA.length)) 57 (yI c)) 66 (.slice a49 ((vk s t c).length) c50)) 67 (yI ((vk s t c).length))) 68 (yI k_1)∧needs=(ve s ((vk s t c).take k_1))∧((k_1:Int)≤((vk s t c).length))∧m' =(((vk s t c).length) - (k_1:Int)).toNat∧Fresh w.heap.size [F_own]∧St w w57 [rr a_needs n_needs c_needs 24 1 x_needs,Z0,Z1,Z2,Z3,Z4,Z5,Z6] [xB false F_needs x_needs needs,Z7,Z8,Z9,Z10,Z11,Z12,Z13,Z14,Z15]) _ _ _ _ _ _ _ _ _ _ _ _ _ _ _ _) ((((vk s t c).length) - (0:Int)).toNat) ⟨_,(aa b55 0),0,0,([]:yLL),[],[],0,uE12,(by rfl),qf,rfl,N,H.pick [0,1,2,3,4,5,6,7] [0,2,3,4,5,6,7,8,9,10]⟩ ?_
  clear H N
  rintro m' ρ w58 ⟨xM,a_needs,n_needs,c_needs,needs,x_needs,F_needs,k_1,rfl,rfl,i0,rfl,N,H⟩
  have hn_needs:=H.xK (α:=yLI) 0 rfl 0 rfl qj
  have nl:=QU s ((vk s t c).take k_1)
  have tl:=List.length_take_le k_1 (vk s t c)
  have cl8:=cellR_len (t:=t) p0 c
  refine zcr (sq 1 (zjn (xQ (cD rfl (fun h59=>?_) (fun h59=>?_)))))
  ·skip
   obtain ⟨e1,e2,e3,e4⟩:=cellR_at (s:=s) (t:=t) (c:=c) (j:=k_1) qf
   refine qW (t_n (xQ (qY (zcr ?_))))
   obtain ⟨b60,o61,rfl⟩:=H.addr 1 rfl qf
   refine oI rfl rfl (oL rfl (H.zH 1 rfl k_1 qf) (sq 1 (zjn (xU (sq 1 (oF rfl (oL rfl (H.cell 5 rfl rfl) (sq 1 ?_))))))))
   obtain ⟨b63,o64,rfl⟩:=H.addr 6 rfl qf
   obtain ⟨ae66Need,ce66Need,Fe66Need,ae66Have,ce66Have,Fe66Have,ae66Lack,ce66Lack,Fe66Lack,ae66Here,ce66Here,Fe66Here,ae66Out,ce66Out,Fe66Out,ae66Into,ce66Into,Fe66Into,H⟩:=H.yA 6 rfl ((vk s t c)[k_1]!) (((vk s t c)[k_1]!).toNat) qf qf qf
   refine oI rfl rfl (oF rfl (oL rfl (H.x8 6 rfl 2 rfl) (sw (zf H underlying29 ti24 [.slice ae66Need (((s.qB[((vk s t c)[k_1]!).toNat]!).zB).length) ce66Need] fun b67 w68 H=>sw (zk H 1 rfl 0 rfl underlying29 ti24 rfl qj rfl rfl rfl qw qp qf fun a69 c70 w71 H=>?_)))))
   replace H:=H.jM 7 rfl 0 rfl
   refine sq 1 (xY (b_n (t_n (xU (sw (zA k_1 1 rfl rfl qf (sq 1 (xY (xe (m' :=(((vk s t c).length) - ((k_1+1):Int)).toNat) qf ⟨_,_,_,_,_,_,_,k_1+1,uE12,?_,?_,rfl,N,H.pick [1,2,3,4,5,6,7,8] [0,9,10,11,12,13,14,15,16,17]⟩)))))))))
   · exact needs_take qf
   · omega
  rw [List.take_of_length_le (l:=vk s t c) (i:=k_1) qf] at H
  refine zx4 (zcr (oF rfl (oL rfl (H.cell 4 rfl rfl) (sp (yI c) ?_))))
  obtain ⟨b72,o73,rfl⟩:=H.addr 8 rfl qf
  obtain ⟨ae75,ce75,Fe75,H⟩:=H.vX 8 rfl c c qf qf qf
  refine oI rfl rfl (oL rfl (H.x8 1 rfl 0 rfl) (sq 1 ?_))
  obtain ⟨G76,hn77,h78⟩:=H.yQ (α:=yLI) 0 rfl 2 rfl qj
  have cp:=cell_pack p0 p1 (c:=c) qf
  have nl2:=QU s (vk s t c)
  have sz82:=H.base.size
  have lt83:=H.ltN (L:=[F_own]) [5]
  refine sw (oc (XY (by rw [← hn77]) (maxPack_ok _ (t.qN[c]!) (ve s (vk s t c)) (H.get 0 rfl).1 (hn77▸h78) qg qg)) ?_)
  rintro _ w80 ⟨ra79a,rn79a,rc79a,rx79a,rF79a,rfl,M,K⟩ _
  replace N:=N.merge sz82 lt83 M
  replace H:=H.merge K M
  obtain rfl:=H.xK (α:=yLI) 0 rfl 0 rfl qj
  refine sq 5 (zjcc (sq 1 (sp (.bool (((jV (t.qN[c]!) (ve s (vk s t c))).2:Int) != 0)) (zjn ?_))))
  refine xE (((jV (t.qN[c]!) (ve s (vk s t c))).2:Int) != 0) rfl (fun h85=>?_) (fun h85=>?_)
  ·skip
   replace h85:=bne_iff_ne.1 h85
   refine zcr (sq 3 (zjr (t_r (zr5 (ret2 yN (yI ((jV (t.qN[c]!) (ve s (vk s t c))).2)) rfl rfl rfl ⟨_,rfl,?_⟩)))))
   replace H:=H.erases [6,5,4,3,2,1,0]
   dsimp only [vV,List.eraseIdx] at H
   refine sq 5 (zjcc (sq 1 (sp (.bool (((jV (t.qN[c]!) (ve s (vk s t c))).2:Int) != 0)) (zjn (xE (((jV (t.qN[c]!) (ve s (vk s t c))).2:Int) != 0) rfl (fun h86=>?_) (fun h=>absurd (xm h) h85))))))
   replace h86:=bne_iff_ne.1 h86
   refine zcr (sq 3 (zjr (t_r ?_)))
   replace H:=H.nilRow 24 1
   replace H:=H.zW (α:=yLI)
   refine ret2 yN (yI ((jV (t.qN[c]!) (ve s (vk s t c))).2)) rfl rfl rfl ⟨_,rfl,?_,H.base⟩
   rw [cho_code (bad_code (c:=c) qf qf ‹_›) ‹_›]
   exact ⟨none,0,0,[],[],rfl,(N.emp.pick [0]),H.pick [0] [0]⟩
  replace h85:=xm h85
  refine qW (t_n (xU (sq 3 (sw (zO [.slice a49 ((vk s t c).length) c50,.slice ra79a (((jV (t.qN[c]!) (ve s (vk s t c))).1).length) rc79a] [(0,.slice a49 ((vk s t c).length) c50),(1,.slice ra79a (((jV (t.qN[c]!) (ve s (vk s t c))).1).length) rc79a)] (sw (zf H underlying176 ti180 [.slice a49 ((vk s t c).length) c50,.slice ra79a (((jV (t.qN[c]!) (ve s (vk s t c))).1).length) rc79a] fun b87 w88 H=>?_)))))))
  have H0:=H
  obtain ⟨G92,hg94,hn93,H⟩:=H.yj (α:=yLI) 1 rfl 0 rfl qj
  replace N:Fresh w.heap.size [G92,F_own]:=Fresh.ice N H0 1 hg94.1 hg94.2 (H0.vS [6])
  clear H0
  refine sw (zk H 3 rfl 0 rfl underlying176 ti180 rfl qj rfl rfl rfl qw qp qf fun a89 c90 w91 H=>?_)
  replace H:=H.snoc_inCellD 6 rfl 5 rfl 0 rfl
  refine sq 1 (xY (b_n (t_n (xU (sw (zA c 1 rfl rfl qf (sq 1 (xY (xe (m' :=(s.qA.length - ((c+1):Int)).toNat) qf ⟨_,_,_,_,_,_,_,c+1,uE6,?_,?_,?_,rfl,(N.pick [1]),H.pick [3,4,5,6,7,8,9] [0,8,9,10,11,12,13,14]⟩)))))))))
  · first | exact cells_yes qf | exact cells_no qf
  · omega
  · exact gp.succ (by first | exact .inl qf | exact .inr (show (jV _ _).2=0 from ‹_›))
 refine zx4 (zcr (sq 2 (sp (yI 0) (zjr (ret2 (.slice yf ja jT) (yI 0) rfl rfl rfl ⟨_,rfl,?_⟩)))))
 replace H:=H.erases [4,3,2,1]
 dsimp only [vV,List.eraseIdx] at H
 obtain rfl:c=s.qA.length:=by omega
 have kn:=packsL_ne p0 p1 (k:=s.qA.length) qf gp
 have kr:=rules_le s t s.qA.length
 have kl:=packsL_le s t s.qA.length
 have ce:=cells_len s t s.qA.length
 refine sq 2 (sp (yI 0) (sq 1 (sp (yI 0) (zjcc (sp (yI 0) (sp (.bool false) (zjn (xE false rfl (fun h=>absurd h qj) (fun _=>qW (t_n (zcr (oF rfl (oL rfl (H.cell 2 rfl rfl) (oN rfl (sw (vM H underlying24 ti2 s.qB.length rfl rfl qf qf qf fun b95 w96 H=>sw (zf H underlying29 ti24 [.slice (aa b95 0) s.qB.length s.qB.length] fun b97 w98 H=>sq 1 (zjcc ?_))))))))))))))))))
 refine sq 1 (oN rfl (sp (yI 0) (zjn (qY ?_))))
 obtain ⟨G99,hg101,hn100,H⟩:=H.yj (α:=inCellD) 2 rfl 0 rfl qj
 replace H:=H.boxRow 0 rfl 1 1 rfl qj
 replace H:=H.zW (α:=yLI)
 obtain ⟨G102,N,hn103,H⟩:=H.zG 1 rfl N (H.vS [3])
 replace H:=H.X8 true 0 rfl 1 rfl qm
 replace N:Fresh w.heap.size [(G102++[]),F_own]:=(N.emp.pick [1,0,2]).join
 refine zq ((fun Z0 Z1 Z2 Z3 Z4 Z5 Z6 Z7=>fun m' ρ w104=>∃ (xM:Env) (a_out_1:yOA) (QV:Nat) (c_out_1:Nat) (out_1:yLL) (x_out_1:List Value) (QL:yLN) (k_1:Nat),ρ=upd (upd (upd (upd xM 8 (.slice a_out_1 QV c_out_1)) 33 (.slice yf ja jT)) 34 (yI ja)) 35 (yI k_1)∧out_1=(yO s.qB.length (xC s t s.qA.length) (zi s t s.qA.length) k_1)∧((k_1:Int)≤ja)∧((yO s.qB.length (xC s t s.qA.length) (zi s t s.qA.length) k_1).length≤300)∧m' =(ja - (k_1:Int)).toNat∧Fresh w.heap.size [QL]∧St w w104 [rr a_out_1 QV c_out_1 24 1 x_out_1,Z0,Z1] [xB true QL x_out_1 out_1,Z2,Z3,Z4,Z5,Z6,Z7]) _ _ _ _ _ _ _ _) ((ja - (0:Int)).toNat) ⟨_,(aa b97 0),1,1,[(List.replicate s.qB.length (0:Int))],[.slice (aa b95 0) s.qB.length s.qB.length],(G102++[]),0,uE4,(by rfl),qf,(by rw [QT];show 1≤300;omega),rfl,(N.pick [0]),H.pick [0,3,4] [0,3,7,8,9,10,11]⟩ ?_
 clear H N
 rintro m' ρ w105 ⟨xM,a_out_1,QV,c_out_1,out_1,x_out_1,QL,k_1,rfl,rfl,i0,g3,rfl,N,H⟩
 have hn_out:=H.xK (α:=yLI) 0 rfl 0 rfl qj
 refine zcr (sq 1 (zjn (xQ (cD rfl (fun h106=>?_) (fun h106=>?_)))))
 ·skip
  obtain ⟨gb,gc⟩:=cell_few (s:=s) (t:=t) (n:=s.qA.length) (i:=k_1) p0 qf
  refine qW (t_n (xQ (qY (zcr ?_))))
  have hl109:=H.isLen 1 rfl
  obtain ⟨b107,o108,rfl⟩:=H.addr 1 rfl qf
  obtain ⟨ae110rules,ce110rules,Fe110rules,ae110packings,ce110packings,Fe110packings,H⟩:=H.elem_inCellD 1 rfl k_1 k_1 qf qf qf
  refine oI rfl rfl (sw (xI [.slice ae110rules ((((Xt s t s.qA.length)[k_1]!).frules).length) ce110rules,.slice ae110packings ((((Xt s t s.qA.length)[k_1]!).fpackings).length) ce110packings] isAgg180 sizeOf180 rfl (qC (H.get 2 rfl) 0 2) (sw (xx H ti180 [yN,yN] fun b111 w112 H=>sw (xG H 0 [.slice ae110rules ((((Xt s t s.qA.length)[k_1]!).frules).length) ce110rules,.slice ae110packings ((((Xt s t s.qA.length)[k_1]!).fpackings).length) ce110packings] sizeOf180 fun w113 H=>zjc (sw (vU H underlying29 ti24 fun b114 w115 H=>?_)))))))
  refine sq 1 (zjcc (sq 1 (oN rfl (sp (yI 0) (zjn (qY ?_))))))
  obtain ⟨ce1,ce2⟩:=cells_at (s:=s) (t:=t) (k:=s.qA.length) (i:=k_1) qf
  rw [ce1,ce2] at H
  replace H:=H.boxRow 0 rfl 1 0 rfl qj
  replace H:=H.zW (α:=yLI)
  refine zq ((fun Z0 Z1 Z2 Z3 Z4 Z5 Z6 Z7 Z8 Z9 Z10 Z11 Z12 Z13=>fun m' ρ w116=>∃ (xM:Env) (a_next:yOA) (n_next:Nat) (c_next:Nat) (next:yLL) (x_next:List Value) (F_next:yLN) (k_51:Nat),ρ=upd (upd (upd (upd (upd (upd (upd (upd xM 10 (pp b111 0)) 11 (.slice a_next n_next c_next)) 33 (.slice (aa b107 o108) ja jT)) 34 (yI ja)) 35 (yI k_1)) 40 (.slice a_out_1 QV c_out_1)) 41 (yI QV)) 42 (yI k_51)∧next=(nextK (yO s.qB.length (xC s t s.qA.length) (zi s t s.qA.length) k_1) ((xC s t s.qA.length)[k_1]!) ((zi s t s.qA.length)[k_1]!) k_51)∧((k_51:Int)≤QV)∧((nextK (yO s.qB.length (xC s t s.qA.length) (zi s t s.qA.length) k_1) ((xC s t s.qA.length)[k_1]!) ((zi s t s.qA.length)[k_1]!) k_51).length≤300)∧m' =(QV - (k_51:Int)).toNat∧Fresh w.heap.size [QL,F_next]∧St w w116 [rr a_next n_next c_next 24 1 x_next,Z0,Z1,Z2,Z3] [xB true F_next x_next next,Z4,Z5,Z6,Z7,Z8,Z9,Z10,Z11,Z12,Z13]) _ _ _ _ _ _ _ _ _ _ _ _ _ _) ((QV - (0:Int)).toNat) ⟨_,(aa b114 0),0,0,([]:yLL),[],[],0,uE8,(by rfl),qf,(by show 0≤300;omega),rfl,(N.emp.pick [1,0]),H⟩ ?_
  clear H N
  rintro m' ρ w117 ⟨xM,a_next,n_next,c_next,next,x_next,F_next,k_51,rfl,rfl,i0,n3,rfl,N,H⟩
  have hn_next:=H.xK (α:=yLI) 0 rfl 0 rfl qj
  refine zcr (sq 1 (zjn (xQ (cD rfl (fun h118=>?_) (fun h118=>?_)))))
  ·skip
   refine qW (t_n (xQ (qY (zcr ?_))))
   obtain ⟨b119,rfl⟩:=H.jW 2 rfl qf
   refine oI rfl rfl ?_
   obtain ⟨a120,c121,G122,s123,h124,H⟩:=H.jy 2 rfl 4 rfl (iv:=k_51) k_51 qf qf
   refine oL rfl (h124) (sq 1 (zjcc (oF rfl (oL rfl (H.cell 1 rfl rfl) (oN rfl (sp (yI 0) (zjn (qY ?_))))))))
   refine zq ((fun Z0 Z1 Z2 Z3 Z4 Z5 Z6 Z7 Z8 Z9 Z10 Z11 Z12 Z13 Z14=>fun m' ρ w125=>∃ (xM:Env) (XT:yOA) (Q5:Nat) (XK:Nat) (next_1:yLL) (x_next_1:List Value) (Qn:yLN) (k_52:Nat),ρ=upd (upd (upd (upd (upd (upd (upd (upd (upd (upd (upd (upd xM 10 (pp b111 0)) 11 (.slice XT Q5 XK)) 13 (.slice a120 (((yO s.qB.length (xC s t s.qA.length) (zi s t s.qA.length) k_1)[k_51]!).length) c121)) 33 (.slice (aa b107 o108) ja jT)) 34 (yI ja)) 35 (yI k_1)) 40 (.slice (aa b119 0) QV c_out_1)) 41 (yI QV)) 42 (yI k_51)) 47 (.slice ae110packings (((zi s t s.qA.length)[k_1]!).length) ce110packings)) 48 (yI (((zi s t s.qA.length)[k_1]!).length))) 49 (yI k_52)∧next_1=(nextX (yO s.qB.length (xC s t s.qA.length) (zi s t s.qA.length) k_1) ((xC s t s.qA.length)[k_1]!) ((zi s t s.qA.length)[k_1]!) k_51 k_52)∧((k_52:Int)≤(((zi s t s.qA.length)[k_1]!).length))∧m' =((((zi s t s.qA.length)[k_1]!).length) - (k_52:Int)).toNat∧Fresh w.heap.size [QL,Qn]∧St w w125 [rr XT Q5 XK 24 1 x_next_1,Z0,Z1,Z2,Z3] [Z4,xB true Qn x_next_1 next_1,Z5,Z6,Z7,Z8,Z9,Z10,Z11,Z12,Z13,Z14]) _ _ _ _ _ _ _ _ _ _ _ _ _ _ _) (((((zi s t s.qA.length)[k_1]!).length) - (0:Int)).toNat) ⟨_,a_next,n_next,c_next,(nextK (yO s.qB.length (xC s t s.qA.length) (zi s t s.qA.length) k_1) ((xC s t s.qA.length)[k_1]!) ((zi s t s.qA.length)[k_1]!) k_51),x_next,F_next,0,uE12,(by exact nextX_zero _ _ _ _),qf,rfl,N,H⟩ ?_
   clear H N
   rintro m' ρ w126 ⟨xM,XT,Q5,XK,next_1,x_next_1,Qn,k_52,rfl,rfl,i0,rfl,N,H⟩
   have hn_next:=H.xK (α:=yLI) 0 rfl 1 rfl qj
   refine zcr (sq 1 (zjn (xQ (cD rfl (fun h127=>?_) (fun h127=>?_)))))
   ·skip
    have nx:=nextX_len (r:=((xC s t s.qA.length)[k_1]!)) (show k_51 < (yO s.qB.length (xC s t s.qA.length) (zi s t s.qA.length) k_1).length by omega) (show k_52≤((zi s t s.qA.length)[k_1]!).length by omega)
    have nk:=nextK_len (r:=((xC s t s.qA.length)[k_1]!)) (P:=((zi s t s.qA.length)[k_1]!)) (show k_51≤(yO s.qB.length (xC s t s.qA.length) (zi s t s.qA.length) k_1).length by omega)
    have g1:=prodG_at (n:=s.qB.length) (rs:=(xC s t s.qA.length)) (all:=(zi s t s.qA.length)) (i:=k_1) (k:=k_51) qf
    have g2:=pack_at (s:=s) (t:=t) (n:=s.qA.length) (i:=k_1) (x:=k_52) qf qf
    refine qW (t_n (xQ (qY (zcr ?_))))
    obtain ⟨b128,o129,rfl⟩:=H.addr 3 rfl qf
    obtain ⟨ae131,ce131,Fe131,H⟩:=H.vX 3 rfl k_52 k_52 qf qf qf
    refine oI rfl rfl (oL rfl (H.x8 1 rfl 0 rfl) (sq 1 (zjc (sq 1 ?_))))
    have sz132:=H.base.size
    have lt133:=H.ltN (L:=[QL,Qn]) [7,3]
    refine sw (oc (cloneI_ok _ ((yO s.qB.length (xC s t s.qA.length) (zi s t s.qA.length) k_1)[k_51]!) (H.get 2 rfl).1 qg) ?_)
    rintro v137 w135 r137 x136
    replace H:=H.zC x136 r137
    obtain ⟨a138,c139,rfl,hc140,hm141⟩:=H.jq 0 rfl
    refine sq 1 (zjcc (oF rfl (oL rfl (H.cell 2 rfl rfl) (oN rfl (sp (yI 0) (zjn (qY ?_)))))))
    refine zq ((fun Z0 Z1 Z2 Z3 Z4 Z5 Z6 Z7 Z8 Z9 Z10 Z11 Z12 Z13 Z14 Z15 Z16 Z17 Z18=>fun m' ρ w142=>∃ (xM:Env) (k_53:Nat) (own_1:yLI),ρ=upd (upd (upd (upd (upd (upd (upd (upd (upd (upd (upd (upd (upd (upd (upd (upd (upd xM 10 (pp b111 0)) 11 (.slice XT Q5 XK)) 13 (.slice a120 (((yO s.qB.length (xC s t s.qA.length) (zi s t s.qA.length) k_1)[k_51]!).length) c121)) 15 (.slice ae131 ((((zi s t s.qA.length)[k_1]!)[k_52]!).length) ce131)) 16 (.slice a138 (((yO s.qB.length (xC s t s.qA.length) (zi s t s.qA.length) k_1)[k_51]!).length) c139)) 33 (.slice (aa b107 o108) ja jT)) 34 (yI ja)) 35 (yI k_1)) 40 (.slice (aa b119 0) QV c_out_1)) 41 (yI QV)) 42 (yI k_51)) 47 (.slice (aa b128 o129) (((zi s t s.qA.length)[k_1]!).length) ce110packings)) 48 (yI (((zi s t s.qA.length)[k_1]!).length))) 49 (yI k_52)) 56 (.slice ae110rules (((xC s t s.qA.length)[k_1]!).length) ce110rules)) 57 (yI (((xC s t s.qA.length)[k_1]!).length))) 58 (yI k_53)∧own_1=(setTo ((yO s.qB.length (xC s t s.qA.length) (zi s t s.qA.length) k_1)[k_51]!) ((xC s t s.qA.length)[k_1]!) (((zi s t s.qA.length)[k_1]!)[k_52]!) k_53)∧((k_53:Int)≤(((xC s t s.qA.length)[k_1]!).length))∧m' =((((xC s t s.qA.length)[k_1]!).length) - (k_53:Int)).toNat∧Fresh w.heap.size [QL,Qn]∧St w w142 [rr a138 (((yO s.qB.length (xC s t s.qA.length) (zi s t s.qA.length) k_1)[k_51]!).length) c139 2 1 (own_1.map (Value.int .i64)),Z0,Z1,Z2,Z3,Z4] [Z5,Z6,Z7,Z8,Z9,Z10,Z11,Z12,Z13,Z14,Z15,Z16,Z17,Z18]) _ _ _ _ _ _ _ _ _ _ _ _ _ _ _ _ _ _ _) (((((xC s t s.qA.length)[k_1]!).length) - (0:Int)).toNat) ⟨_,0,((yO s.qB.length (xC s t s.qA.length) (zi s t s.qA.length) k_1)[k_51]!),uE17,(by rfl),qf,rfl,N,H⟩ ?_
    clear H N
    rintro m' ρ w143 ⟨xM,k_53,own_1,rfl,rfl,i0,rfl,N,H⟩
    have hn_own:=H.jm 0 rfl
    have sl:=setTo_len ((yO s.qB.length (xC s t s.qA.length) (zi s t s.qA.length) k_1)[k_51]!) ((xC s t s.qA.length)[k_1]!) (((zi s t s.qA.length)[k_1]!)[k_52]!) k_53
    refine zcr (sq 1 (zjn (xQ (cD rfl (fun h144=>?_) (fun h144=>?_)))))
    ·skip
     obtain ⟨g3',g4⟩:=choice_at (s:=s) (t:=t) (n:=s.qA.length) (i:=k_1) (r:=k_53) qf qf
     refine qW (t_n (xQ (qY (zcr (sq 1 ?_)))))
     obtain ⟨b145,o146,rfl⟩:=H.addr 4 rfl qf
     refine oI rfl rfl (oL rfl (H.zH 4 rfl k_53 qf) (sq 2 (zjn (xU (sq 4 ?_)))))
     obtain ⟨b148,o149,rfl⟩:=H.addr 0 rfl qf
     refine oI rfl rfl (oL rfl (H.zH 0 rfl k_53 qf) ?_)
     obtain ⟨b151,rfl⟩:=H.jW 0 rfl qf
     refine oI rfl rfl (sw (XE H 0 rfl ((((zi s t s.qA.length)[k_1]!)[k_52]!)[k_53]!) sizeOf2 rfl rfl (i:=((((xC s t s.qA.length)[k_1]!)[k_53]!).toNat)) qf qf fun w152 H=>xY (b_n (t_n (xU (sw (zA k_53 1 rfl rfl qf (sq 1 (xY (xe (m' :=((((xC s t s.qA.length)[k_1]!).length) - ((k_53+1):Int)).toNat) qf ⟨_,k_53+1,_,uE17,?_,?_,rfl,N,H⟩))))))))))
     · rfl
     · omega
    refine zx4 (xU (sq 2 (sw (zf H underlying29 ti24 [.slice a138 (((yO s.qB.length (xC s t s.qA.length) (zi s t s.qA.length) k_1)[k_51]!).length) c139] fun b153 w154 H=>?_))))
    obtain ⟨G158,N,hn159,H⟩:=H.zG 1 rfl N (H.vS [7,3])
    refine sw (zk H 2 rfl 0 rfl underlying29 ti24 rfl qj rfl rfl rfl qw qp qf fun a155 c156 w157 H=>?_)
    replace H:=H.jM 4 rfl 0 rfl
    replace N:Fresh w.heap.size [(Qn++G158),QL]:=(N.pick [2,0,1]).join
    refine sq 1 (xY (b_n (t_n (xU (sw (zA k_52 1 rfl rfl qf (sq 1 (xY (xe (m' :=((((zi s t s.qA.length)[k_1]!).length) - ((k_52+1):Int)).toNat) qf ⟨_,_,_,_,_,_,_,k_52+1,uE12,?_,?_,rfl,(N.pick [1,0]),H.pick [2,3,4,5,6] [4,0,6,7,8,9,10,11,12,13,14,15]⟩)))))))))
    · exact nextX_succ qf (by rw [show k_53=((xC s t s.qA.length)[k_1]!).length by omega];rfl)
    · omega
   refine zx4 (zcr (sq 1 (oN rfl (sp (.bool (decide ((Q5:Int) > 300))) (zjn (cD rfl (fun h160=>?_) (fun h160=>?_)))))))
   ·skip
    refine zcr (sq 1 (sp (yI 3) (zjr (zr5 (zr5 ?_)))))
    replace H:=H.nilRow 24 1
    replace H:=H.zW (α:=yLI)
    refine ret2 yN (yI 3) rfl rfl rfl ⟨_,rfl,?_,H.base⟩
    first | rw [cho_3 (.inl (own_bad p0 (q:=k) qf qf))] | rw [cho_3 (.inr (prod_stop (G:=(yO s.qB.length (xC s t s.qA.length) (zi s t s.qA.length) k_1)) (r:=((xC s t s.qA.length)[k_1]!)) (k:=k_51+1) (i:=k_1) kn qf (QT _) qf (by rw [← nextX_end (x:=k_52) qf qf];omega)))]
    exact ⟨none,0,0,[],[],rfl,(N.emp.pick [0]),H.pick [0] [0]⟩
   refine qW (b_n (t_n (xU (sw (zA k_51 1 rfl rfl qf (sq 1 (xY (xe (m' :=(QV - ((k_51+1):Int)).toNat) qf ⟨_,_,_,_,_,_,_,k_51+1,uE8,?_,?_,?_,rfl,N,H.pick [0,1,2,3,4] [1,2,3,4,5,6,7,8,9,10,11]⟩))))))))
   · exact nextX_end qf qf
   · omega
   · rw [← nextX_end (x:=k_52) qf qf];omega
  refine zx4 (xU (sq 2 (xY (b_n (t_n (xU (sw (zA k_1 1 rfl rfl qf (sq 1 (xY (xe (m' :=(ja - ((k_1+1):Int)).toNat) qf ⟨_,_,_,_,_,_,_,k_1+1,uE4,?_,?_,?_,rfl,(N.pick [1]),H.pick [0,3,4] [0,5,6,7,8,9,10]⟩)))))))))))
  · rw [show k_51=(yO s.qB.length (xC s t s.qA.length) (zi s t s.qA.length) k_1).length by omega];rfl
  · omega
  · show (nextK (yO s.qB.length (xC s t s.qA.length) (zi s t s.qA.length) k_1) ((xC s t s.qA.length)[k_1]!) ((zi s t s.qA.length)[k_1]!) (yO s.qB.length (xC s t s.qA.length) (zi s t s.qA.length) k_1).length).length≤300;rw [← show k_51=(yO s.qB.length (xC s t s.qA.length) (zi s t s.qA.length) k_1).length by omega];exact n3
 obtain rfl:k_1=(zi s t s.qA.length).length:=by omega
 have on:0 < (yO s.qB.length (xC s t s.qA.length) (zi s t s.qA.length) (zi s t s.qA.length).length).length:=by rw [QT];exact prod_mono kn (Nat.zero_le _) (Nat.le_refl _)
 have kc:¬ QX (zi s t s.qA.length) (zi s t s.qA.length).length > 300:=by rw [QT] at g3;omega
 refine zx4 (zcr (sq 1 ?_))
 obtain ⟨b161,rfl⟩:=H.jW 0 rfl qf
 refine sw (zJ #[.slice (aa b161 0) QV c_out_1,.func (.func 79) #[] #[]] rfl rfl call78 (sortRow sortL call79 cmpSort H 0 rfl 0 rfl qf qf) ?_)
 rintro _ w162 ⟨xs163,F164,l165,rfl,hF166,hp167,hs168,H⟩
 replace N:Fresh w.heap.size [F164]:=Fresh.perm N hF166
 refine zjc (sq 2 (sp (yI 0) (zjr (ret2 (.slice (aa b161 0) QV c_out_1) (yI 0) rfl rfl rfl ⟨_,rfl,?_,H.base⟩))))
 rw [cho_0 gp kc hp167 (in_order (Nat.le_refl _) fun a b h1 h2 h3=>hs168 a b h1 h2 ((cmpL_ahead ((perm_rows hp167 b qf).trans (perm_rows hp167 a qf).symm)).2 h3))]
 exact ⟨(aa b161 0),QV,c_out_1,xs163,F164,rfl,N,H.pick [0] [0]⟩
end
section

def dotP:yLI→yLL→Nat→Int
  | n :: y,p :: ps,q=>n * p[q]! +dotP y ps q
  | _,_,_=>0
theorem packs_mem {K:Nat} {parts:yLL} (hP:PartsOk K parts):∀ (f k:Nat) (rest y:yLI),k+f=parts.length→RestOk K rest→y∈packs parts f k rest→
    (∀ v∈y,0≤v∧v≤1000)∧∀ q,q < K→0≤rest[q]! - dotP y (parts.drop k) q
  | 0,k,rest,y,hk,hR,h=>by
    rw [packs] at h
    split at h
    · obtain rfl:=List.mem_singleton.1 h
      refine ⟨fun v hv=>by simp at hv,fun q hq=>?_⟩
      have:=(hR.2 q hq).1
      simp only [dotP];omega
    · simp at h
  | f+1,k,rest,y,hk,hR,h=>by
    rw [packs,List.mem_flatMap] at h
    obtain ⟨n,hn,h⟩:=h
    obtain ⟨y',hy,rfl⟩:=List.mem_map.1 h
    have hb:=times_bd hP hR (k:=k) qf
    rw [List.mem_range] at hn
    obtain ⟨h1,h2⟩:=packs_mem hP f (k+1) _ y' qf (hR.take hP qf (n:=(n:Int)) qf qf) hy
    refine ⟨fun v hv=>?_,fun q hq=>?_⟩
    · rcases List.mem_cons.1 hv with rfl | hv
      · omega
      · exact h1 v hv
    · have h3:=h2 q hq
      rw [plus_get (by have:=hR.1;omega),Int.neg_mul] at h3
      rw [drop_cons' (show k < parts.length by omega),dotP]
      omega
where
  drop_cons' {l:yLL} {i:Nat} (h:i < l.length):l.drop i=l[i]! :: l.drop (i+1):=by
    rw [getElem!_pos l i h];exact (List.drop_eq_getElem_cons h)
def XW (s:qE) (x:yLI) (q:Nat):yLI→Int
  | []=>0
  | r :: l=>x[r.toNat]! * ((s.qB[r.toNat]!).zB)[q]! +XW s x q l
theorem sumOver_cat (s:qE) (x:yLI) (q:Nat):∀ (l m:yLI),XW s x q (l++m)=XW s x q l+XW s x q m
  | [],m=>by simp [XW]
  | r :: l,m=>by rw [List.cons_append,XW,XW,sumOver_cat s x q l m];omega
theorem sumOver_dot {s:qE} {x:yLI} {q:Nat}:∀ {l y:yLI},y.length=l.length→(∀ j,j < l.length→x[(l[j]!).toNat]! =y[j]!)→XW s x q l=dotP y (ve s l) q
  | [],[],_,_=>rfl
  | [],_ :: _,h,_=>by simp at h
  | _ :: _,[],h,_=>by simp at h
  | r :: l,v :: y,h,h1=>by
    have h0:=h1 0 qm
    simp only [List.getElem!_cons_zero] at h0
    show _=dotP (v :: y) ((s.qB[r.toNat]!).zB :: ve s l) q
    rw [XW,dotP,h0,sumOver_dot (by simpa using h) fun j hj=>by simpa using h1 (j+1) qy]
theorem needS_cell {s:qE} {t:qF} {x:yLI} {c q:Nat} (hs:vK s):∀ k,k≤s.qB.length→(∀ i,i < k→(s.qB[i]!).qP=(c:Int)→¬ Appl s t i→x[i]! =0)→needS s x k c q= -(XW s x q (cellT s t k c))
  | 0,_,_=>by simp [needS,cellT,applL,XW]
  | k+1,hk,h=>by
    have ih:=needS_cell (t:=t) (c:=c) (q:=q) hs k qf fun i hi=>h i qf
    rw [needS,ih,needF,at']
    by_cases e:(s.qB[k]!).qP=(c:Int)
    · rw [if_pos qf]
      by_cases ha:Appl s t k
      · rw [← cellT_yes ha e,sumOver_cat]
        simp only [XW,Int.toNat_natCast]
        rw [Int.neg_mul];omega
      · rw [← Q7 ha,h k qf e ha]
        simp
    · rw [if_neg (fun h' =>e (by have:=(hs.rule (i:=k) qf).1.1;omega)),← QD e];omega

theorem setTo_ne {o r x:yLI} {p:Nat}:∀ {k:Nat},(∀ j,j < k→(r[j]!).toNat≠p)→(∀ j,j < k→(r[j]!).toNat < o.length)→(setTo o r x k)[p]! =o[p]!
  | 0,_,_=>rfl
  | k+1,h,h1=>by
    rw [setTo,getset (by rw [setTo_len];exact h1 k qf),if_neg (fun e=>h k qf e.symm)]
    exact setTo_ne (fun j hj=>h j qf) fun j hj=>h1 j qf
theorem setTo_eq {o r x:yLI} {j:Nat}:∀ {k:Nat},(∀ a b,a < k→b < k→(r[a]!).toNat=(r[b]!).toNat→a=b)→(∀ j,j < k→(r[j]!).toNat < o.length)→j < k→(setTo o r x k)[(r[j]!).toNat]! =x[j]!
  | 0,_,_,h=>by omega
  | k+1,hi,h1,hj=>by
    rw [setTo,getset (by rw [setTo_len];exact h1 k qf)]
    by_cases e:j=k
    · subst e;rw [if_pos rfl]
    · rw [if_neg (fun e' =>e (hi j k qf qf e'))]
      exact setTo_eq (fun a b ha hb=>hi a b qf qf) (fun j hj=>h1 j qf) qf
theorem inj_lt {α:Type} [LT α] {l:List α} (irr:∀ x:α,¬ x < x) (h:l.Pairwise (· < ·)) {a b:Nat} (ha:a < l.length) (hb:b < l.length) (e:l[a]=l[b]):a=b:=by
  rw [List.pairwise_iff_getElem] at h
  rcases Nat.lt_trichotomy a b with h1 | h1 | h1
  · have:=h a b ha hb h1;rw [e] at this;exact absurd this (irr _)
  · exact h1
  · have:=h b a hb ha h1;rw [e] at this;exact absurd this (irr _)
theorem applL_lt (s:qE) (t:qF) (k:Nat):(applL s t k).Pairwise (· < ·):=by
  unfold applL
  rw [List.pairwise_map]
  exact (List.pairwise_lt_range.filter _).imp fun h=>by simpa using h
theorem cellR_inj {s:qE} {t:qF} {c a b:Nat} (ha:a < (vk s t c).length) (hb:b < (vk s t c).length) (h:((vk s t c)[a]!).toNat=((vk s t c)[b]!).toNat):a=b:=by
  have h1:=(cellR_at ha).1
  have h2:=(cellR_at hb).1
  have hn:(vk s t c).Pairwise (· < ·):=by unfold vk cellT;exact (applL_lt s t _).filter _
  have e:(vk s t c)[a]! =(vk s t c)[b]! :=by omega
  rw [getElem!_pos _ a ha,getElem!_pos _ b hb] at e
  exact inj_lt (fun x=>by omega) hn ha hb e
theorem live_cell {s:qE} {t:qF} {k i i' :Nat} (h:i < (xC s t k).length) (h' :i' < (xC s t k).length):∃ c c',(xC s t k)[i]! =vk s t c∧(xC s t k)[i']! =vk s t c' ∧(c=c' →i=i'):=by
  have hl:i < (XV s t k).length:=by simpa [xC] using h
  have hl' :i' < (XV s t k).length:=by simpa [xC] using h'
  have hn:(XV s t k).Pairwise (· < ·):=by unfold XV;exact List.pairwise_lt_range.filter _
  refine ⟨(XV s t k)[i],(XV s t k)[i'],?_,?_,fun e=>inj_lt (fun x=>by omega) hn hl hl' e⟩
  · rw [getElem!_pos _ i h];simp [xC]
  · rw [getElem!_pos _ i' h'];simp [xC]
theorem rules_inj {s:qE} {t:qF} {k i i' j j' :Nat} (h:i < (xC s t k).length) (h' :i' < (xC s t k).length) (hj:j < ((xC s t k)[i]!).length) (hj' :j' < ((xC s t k)[i']!).length)
    (e:(((xC s t k)[i]!)[j]!).toNat=(((xC s t k)[i']!)[j']!).toNat):i=i' ∧j=j' :=by
  obtain ⟨c,c',e1,e2,e3⟩:=live_cell h h'
  rw [e1] at hj e
  rw [e2] at hj' e
  have h1:=cellR_at hj
  have h2:=cellR_at hj'
  have hc:c=c' :=by
    have a:=h1.2.2.2
    have b:=h2.2.2.2
    rw [e] at a
    omega
  subst hc
  exact ⟨e3 rfl,cellR_inj hj hj' e⟩
def Says (s:qE) (t:qF) (k m:Nat) (x:yLI):Prop:=
  x.length=s.qB.length∧(∀ i,i < m→∃ y,y∈(zi s t k)[i]! ∧∀ j,j < ((xC s t k)[i]!).length→x[(((xC s t k)[i]!)[j]!).toNat]! =y[j]!)∧
  ∀ r,r < s.qB.length→(∀ i,i < m→∀ j,j < ((xC s t k)[i]!).length→(((xC s t k)[i]!)[j]!).toNat≠r)→x[r]! =0
theorem prodG_says {s:qE} {t:qF} {k:Nat}:∀ m,m≤(xC s t k).length→∀ x∈yO s.qB.length (xC s t k) (zi s t k) m,Says s t k m x
  | 0,_,x,h=>by
    obtain rfl:=List.mem_singleton.1 h
    refine ⟨by simp,fun i hi=>by omega,fun r hr _=>?_⟩
    rw [getElem!_pos _ r (by simpa using hr)];simp
  | m+1,hm,x,h=>by
    rw [yO,nextK,List.mem_flatMap] at h
    obtain ⟨o,ho,h⟩:=h
    obtain ⟨y,hy,rfl⟩:=List.mem_map.1 h
    obtain ⟨h1,h2,h3⟩:=prodG_says m qf o (List.mem_of_mem_take ho)
    have hb:∀ j,j < ((xC s t k)[m]!).length→(((xC s t k)[m]!)[j]!).toNat < o.length:=fun j hj=>by rw [h1];exact (choice_at qf hj).2
    have hn:∀ a b,a < ((xC s t k)[m]!).length→b < ((xC s t k)[m]!).length→(((xC s t k)[m]!)[a]!).toNat=(((xC s t k)[m]!)[b]!).toNat→a=b:=fun a b ha hb' e=>(rules_inj (show m < _ by omega) (show m < _ by omega) ha hb' e).2
    refine ⟨by rw [setAll_len];exact h1,fun i hi=>?_,fun r hr hne=>?_⟩
    · by_cases e:i=m
      · subst e
        exact ⟨y,hy,fun j hj=>setTo_eq hn hb hj⟩
      · obtain ⟨y',hy',h4⟩:=h2 i qf
        refine ⟨y',hy',fun j hj=>?_⟩
        rw [← h4 j hj]
        exact setTo_ne (fun a ha e' =>e (rules_inj (show m < _ by omega) (show i < _ by omega) ha hj e').1.symm) hb
    · rw [← h3 r hr fun i hi j hj=>hne i qf j hj]
      exact setTo_ne (fun a ha=>hne m qf a ha) hb
theorem cellT_mem {s:qE} {t:qF} {c i:Nat} (hi:i < s.qB.length) (ha:Appl s t i) (hc:(s.qB[i]!).qP=(c:Int)):(i:Int)∈vk s t c:=by
  unfold vk cellT
  exact List.mem_filter.2 ⟨mem_applL.2 ⟨by omega,by simpa using hi,by simpa using ha⟩,by rw [Int.toNat_natCast];exact decide_eq_true hc⟩
theorem cell_live {s:qE} {t:qF} {k c:Nat} (hk:c < k) (h:¬ (vk s t c).length=0):∃ i,i < (xC s t k).length∧(xC s t k)[i]! =vk s t c∧(zi s t k)[i]! =(cellP s t c).1:=by
  have hm:c∈XV s t k:=List.mem_filter.2 ⟨List.mem_range.2 hk,decide_eq_true h⟩
  obtain ⟨i,hi,e⟩:=List.mem_iff_getElem.1 hm
  refine ⟨i,by simpa [xC] using hi,?_,?_⟩
  · rw [getElem!_pos _ i (by simpa [xC] using hi)];simp [xC,e]
  · rw [getElem!_pos _ i (by simpa [zi] using hi)];simp [zi,e]
theorem says_choice {s:qE} {t:qF} (hs:vK s) (ht:xX s t) {x:yLI} (h:Says s t s.qA.length (xC s t s.qA.length).length x):CntOk s x∧IsCh s t x:=by
  obtain ⟨h1,h2,h3⟩:=h
  have hB:=ht.2.1
  -- a packing of a cell
  have cell:∀ c,c < s.qA.length→¬ (vk s t c).length=0→∃ y,y.length=(vk s t c).length∧(∀ v∈y,0≤v∧v≤1000)∧(∀ j,j < (vk s t c).length→x[((vk s t c)[j]!).toNat]! =y[j]!)∧∀ q,q < yL s→0≤(t.qN[c]!)[q]! - dotP y (ve s (vk s t c)) q:=fun c hc hr=>by
    obtain ⟨i,hi,e1,e2⟩:=cell_live (s:=s) (t:=t) hc hr
    obtain ⟨y,hy,h4⟩:=h2 i hi
    rw [e1] at h4
    rw [e2] at hy
    unfold cellP at hy
    rcases all_cases (b:=t.qN[c]!) (parts:=ve s (vk s t c)) with h5 | ⟨_,h5,_⟩
    · rw [h5] at hy;simp at hy
    · rw [h5] at hy
      have h6:=packs_mem (cell_parts (t:=t) hs c) _ 0 _ y (Nat.zero_add _) (cell_rest ht qf) hy
      exact ⟨y,(packs_len hy).trans (QU _ _),h6.1,h4,h6.2⟩
  have at' :∀ i,i < s.qB.length→(x[i]! =0∨Appl s t i)∧0≤x[i]! ∧x[i]! ≤1000:=fun i hi=>by
    by_cases hex:∃ a b,a < (xC s t s.qA.length).length∧b < ((xC s t s.qA.length)[a]!).length∧(((xC s t s.qA.length)[a]!)[b]!).toNat=i
    · obtain ⟨a,b,ha,hb,e⟩:=hex
      obtain ⟨c,hc,hr,e1,_⟩:=live_at ha
      rw [e1] at hb e
      obtain ⟨y,hl,hv,hx,_⟩:=cell c hc hr
      have h5:=cellR_at hb
      have h6:=hx b hb
      rw [e] at h5 h6
      have h7:=hv (y[b]!) (by rw [getElem!_pos y b qf];exact List.getElem_mem _)
      rw [h6]
      exact ⟨.inr h5.2.2.1,h7⟩
    · have h5:=h3 i hi fun a ha b hb e=>hex ⟨a,b,ha,hb,e⟩
      rw [h5]
      exact ⟨.inl rfl,by omega,by omega⟩
  have hc:CntOk s x:=⟨h1,fun i hi=>(at' i qf).2⟩
  refine ⟨hc,fun i hi hb=>?_,fun p hp q hq=>?_⟩
  · rcases (at' i qf).1 with h5 | h5
    · have:=hb.1;omega
    · exact hb.2 h5
  · rw [h1] at hq ⊢
    have he:=restR_ent hs ht hc s.qB.length (Nat.le_refl _)
    have hl:((jG s t x s.qB.length)[p]!).length=yL s:=(he.sh.2 p (by unfold je;omega)).1
    have heq:=he.eq p q (by unfold je;omega) qf
    rw [heq]
    have hn:=needS_cell (t:=t) (x:=x) (c:=p) (q:=q) hs s.qB.length (Nat.le_refl _) fun i hi _ ha=>((at' i hi).1).resolve_right ha
    rw [hn]
    have hbag:=(cell_rest (s:=s) ht hp).2 q qf
    by_cases hr:(vk s t p).length=0
    · show 0≤(t.qN[p]!)[q]! + -(XW s x q (vk s t p))
      rw [List.eq_nil_of_length_eq_zero hr]
      simp only [XW];omega
    · obtain ⟨y,hy,_,hx,hd⟩:=cell p qf hr
      have h6:=hd q qf
      rw [← sumOver_dot hy hx] at h6
      show 0≤(t.qN[p]!)[q]! + -(XW s x q (vk s t p))
      omega
theorem cho_ok {s:qE} {t:qF} (hs:vK s) (ht:xX s t) {k:Nat} (hk:k < (zy s t).1.length):CntOk s ((zy s t).1[k]!)∧IsCh s t ((zy s t).1[k]!):=by
  have hm:(zy s t).1[k]! ∈(zy s t).1:=mem_at_L hk
  generalize (zy s t).1[k]! =x at hm
  unfold zy at hm
  split at hm
  · simp at hm
  · split at hm
    · simp at hm
    · have hx:x∈inOrder (yO s.qB.length (xC s t s.qA.length) (zi s t s.qA.length) (zi s t s.qA.length).length):=hm
      unfold inOrder at hx
      have hle:=packsL_le s t s.qA.length
      split at hx
      · next h=>exact says_choice hs ht (by rw [← hle];exact prodG_says _ qf x ((Classical.choose_spec h).1.symm.subset hx))
      · exact says_choice hs ht (by rw [← hle];exact prodG_says _ qf x hx)
theorem halt_cells {s:qE} {t:qF} (h:Halted s t) (c:Nat):(vk s t c).length=0:=by
  have h1:=XP.2 h
  have h2:(vk s t c).length≤(appls s t).length:=List.length_filter_le _ _
  omega
theorem halt_live {s:qE} {t:qF} (h:Halted s t):∀ k,zi s t k=[]
  | 0=>rfl
  | k+1=>by rw [← packsL_no (halt_cells h k)];exact halt_live h k
theorem halt_cho {s:qE} {t:qF} (h:Halted s t):(zy s t).2=0:=by
  unfold zy
  rw [if_neg (fun h' =>h' fun c _=>.inl (halt_cells h c)),halt_live h,if_neg (by show ¬ 1 > 300;omega)]
open Classical in
noncomputable def qZ (s:qE) (t:qF):List qF×Int:=if Halted s t then ([],0) else if (zy s t).2≠0 then ([],(zy s t).2) else QH s t (zy s t).1
theorem succ_h {s:qE} {t:qF} (h:Halted s t):qZ s t=([],0):=by rw [qZ,if_pos h]
theorem succ_c {s:qE} {t:qF} (h:(zy s t).2≠0):qZ s t=([],(zy s t).2):=by rw [qZ,if_neg (fun h' =>h (halt_cho h')),if_pos h]
theorem succ_0 {s:qE} {t:qF} (h:¬ Halted s t) (h1:(zy s t).2=0):qZ s t=QH s t (zy s t).1:=by rw [qZ,if_neg h,if_neg (fun x=>x h1)]
open Classical in
noncomputable def nxRes (s:qE) (t:qF):List qF×Int:=if ¬ (vK s∧xX s t) then ([],1) else qZ s t
theorem nx_1 {s:qE} {t:qF} (h:¬ (vK s∧xX s t)):nxRes s t=([],1):=by rw [nxRes,if_pos h]
theorem nx_0 {s:qE} {t:qF} (h:vK s∧xX s t):nxRes s t=qZ s t:=by rw [nxRes,if_neg (by simpa using h)]
end
section
open Go.Proofs.Tryz
open Go.RowKit
set_option linter.unusedVariables false
set_option linter.unusedSimpArgs false
set_option maxRecDepth 100000
set_option maxHeartbeats 4000000
variable {qI qQ xf xA qR : Nat}
theorem l03Succ_ok (w:World) (s:qE) (t:qF) {bs os:Nat} {qJ:yOA} {xu:yLN} {qV:yOA} {zh:yLN} {bt ot:Nat} {xg:yOA} {zu:yLN} {xF:yOA} {zU:yLN} {qU:yOA} {x9:yLN} (hs:vG w bs os (yS s qJ qI qV qQ)) (qX:qO.rep w xu [.slice qJ s.qA.length qI] s.qA) (xn:qO.rep w zh [.slice qV s.qB.length qQ] s.qB) (ht:vG w bt ot (yT t xg xf xF xA qU qR)) (xR:qO.rep w zu [.slice xg t.qG.length xf] t.qG) (zn:qO.rep w zU [.slice xF t.qN.length xA] t.qN) (xy:qO.rep w x9 [.slice qU t.qH.length qR] t.qH) (p0:vK s) (p1:xX s t):Calls Tryz.prog 61 #[pp bs os,pp bt ot] w (Ret (fun v w' =>∃ (ra0:yOA) (rn0:Nat) (rc0:Nat) (rx0:List Value) (rF0:yLN),v=.tuple #[.slice ra0 rn0 rc0,yI ((qZ s t).2)]∧Fresh w.heap.size [rF0]∧St w w' [rr ra0 rn0 rc0 31 3 rx0] [xB true rF0 rx0 ((qZ s t).1)]) w):=by
 refine en func61 ntmps61 ?_
 have H:=(((((((St.start w).arg xy).arg zn).arg xR).XO ht).arg xn).arg qX).XO hs
 have zN:=qM qX
 have vW:=qM xn
 have jO:=qM xR
 have yH:=qM zn
 have jg:=qM xy
 clear hs qX xn ht xR zn xy
 have N:=Fresh.nil w.heap.size
 refine zcr (sq 1 (sp (yI 0) (zjcc (sq 2 (sw (oq (l03Halted_ok _ s t (qC (H.get 0 rfl) 0 3) (H.get 1 rfl).1 (H.get 2 rfl).1 (qC (H.get 3 rfl) 0 3) (H.get 4 rfl).1 (H.get 5 rfl).1 (H.get 6 rfl).1 qg qg) H fun w2 H=>zjn (cP rfl (fun h4=>?_) (fun h4=>?_))))))))
 ·skip
  refine zcr (sw (vU H underlying38 ti31 fun b5 w6 H=>sq 1 (sp (yI 0) (zjr (t_r ?_)))))
  replace H:=H.boxRow 0 rfl 3 0 rfl qj
  replace H:=H.zW (α:=qF)
  replace H:St _ _ [rr (aa b5 0) 0 0 31 3 []] [xB true [] [] ([]:List qF),atF bs os (yS s qJ qI qV qQ),sF false xu qJ qI s.qA,sF false zh qV qQ s.qB,atF bt ot (yT t xg xf xF xA qU qR),sF false zu xg xf t.qG,sF false zU xF xA t.qN,sF false x9 qU qR t.qH]:=H
  refine ret2 (.slice (aa b5 0) 0 0) (yI 0) rfl rfl rfl ⟨_,rfl,?_,H.base⟩
  rw [succ_h (by first | assumption | exact XP.1 qf)]
  exact ⟨(aa b5 0),0,0,[],[],rfl,N.emp,H.pick [0] [0]⟩
 refine qW (t_n (zcr (sq 2 ?_)))
 have sz10:=H.base.size
 refine sw (oc (l03Choices_ok _ s t (qC (H.get 0 rfl) 0 3) (H.get 1 rfl).1 (H.get 2 rfl).1 (qC (H.get 3 rfl) 0 3) (H.get 4 rfl).1 (H.get 5 rfl).1 (H.get 6 rfl).1 qg qg) ?_)
 rintro _ w8 ⟨ra7a,rn7a,rc7a,rx7a,rF7a,rfl,M,K⟩ _
 replace N:=N.merge sz10 qm M
 replace H:=H.merge K M
 obtain rfl:=H.xK (α:=yLI) 0 rfl 0 rfl qj
 refine sq 5 (zjcc (sq 1 (sp (.bool (((zy s t).2:Int) != 0)) (zjn (xE (((zy s t).2:Int) != 0) rfl (fun h13=>?_) (fun h13=>?_))))))
 ·skip
  replace h13:=bne_iff_ne.1 h13
  refine zcr (sw (vU H underlying38 ti31 fun b14 w15 H=>sq 3 (zjr (t_r ?_))))
  replace H:=H.boxRow 0 rfl 3 0 rfl qj
  replace H:=H.zW (α:=qF)
  replace H:St _ _ [rr (aa b14 0) 0 0 31 3 [],rr ra7a (((zy s t).1).length) rc7a 24 1 rx7a] [xB true [] [] ([]:List qF),xB true rF7a rx7a ((zy s t).1),atF bs os (yS s qJ qI qV qQ),sF false xu qJ qI s.qA,sF false zh qV qQ s.qB,atF bt ot (yT t xg xf xF xA qU qR),sF false zu xg xf t.qG,sF false zU xF xA t.qN,sF false x9 qU qR t.qH]:=H
  refine ret2 (.slice (aa b14 0) 0 0) (yI ((zy s t).2)) rfl rfl rfl ⟨_,rfl,?_,H.base⟩
  rw [succ_c ‹_›]
  exact ⟨(aa b14 0),0,0,[],[],rfl,(N.emp.pick [0]),H.pick [0] [0]⟩
 replace h13:=xm h13
 refine qW (t_n (zcr (sq 3 ?_)))
 obtain ⟨G16,hn17,h18⟩:=H.yQ (α:=yLI) 0 rfl 0 rfl qj
 have ln:=cho_len s t
 have cc:=fun q (hq:q < (zy s t).1.length)=>(cho_ok p0 p1 hq).1
 have ci:=fun q (hq:q < (zy s t).1.length)=>(cho_ok p0 p1 hq).2
 have sz22:=H.base.size
 have lt23:=H.ltN (L:=[rF7a]) [0]
 refine sw (oc (l03Next_ok _ s t ((zy s t).1) (qC (H.get 1 rfl) 0 3) (H.get 2 rfl).1 (H.get 3 rfl).1 (qC (H.get 4 rfl) 0 3) (H.get 5 rfl).1 (H.get 6 rfl).1 (H.get 7 rfl).1 h18 qg qg qg qg) ?_)
 rintro _ w20 ⟨ra19a,rn19a,rc19a,rx19a,rF19a,rfl,M,K⟩ _
 replace N:=N.merge sz22 lt23 M
 replace H:=H.merge K M
 obtain rfl:=H.xK (α:=qF) 0 rfl 0 rfl qj
 refine sq 4 (zjr (ret2 (.slice ra19a (((QH s t ((zy s t).1)).1).length) rc19a) (yI ((QH s t ((zy s t).1)).2)) rfl rfl rfl ⟨_,rfl,?_,H.base⟩))
 rw [succ_0 (by first | assumption | exact fun h=>by have:=XP.2 h;omega) ql]
 exact ⟨ra19a,((QH s t ((zy s t).1)).1).length,rc19a,rx19a,rF19a,rfl,(N.pick [0]),H.pick [0] [0]⟩

theorem nextStates_ok (w:World) (s:qE) (t:qF) {qJ:yOA} {xu:yLN} {qV:yOA} {zh:yLN} {xg:yOA} {zu:yLN} {xF:yOA} {zU:yLN} {qU:yOA} {x9:yLN} (qX:qO.rep w xu [.slice qJ s.qA.length qI] s.qA) (xn:qO.rep w zh [.slice qV s.qB.length qQ] s.qB) (xR:qO.rep w zu [.slice xg t.qG.length xf] t.qG) (zn:qO.rep w zU [.slice xF t.qN.length xA] t.qN) (xy:qO.rep w x9 [.slice qU t.qH.length qR] t.qH) (p0:vK s) (p1:xX s t):Calls Tryz.prog 62 #[.agg #[yI s.xP,.slice qJ s.qA.length qI,.slice qV s.qB.length qQ],.agg #[.slice xg t.qG.length xf,.slice xF t.qN.length xA,.slice qU t.qH.length qR]] w (Ret (fun v w' =>∃ (ra0:yOA) (rn0:Nat) (rc0:Nat) (rx0:List Value) (rF0:yLN),v=.tuple #[.slice ra0 rn0 rc0,yI ((qZ s t).2)]∧Fresh w.heap.size [rF0]∧St w w' [rr ra0 rn0 rc0 31 3 rx0] [xB true rF0 rx0 ((qZ s t).1)]) w):=by
 refine en func62 ntmps62 ?_
 have H:=(((((St.start w).arg xy).arg zn).arg xR).arg xn).arg qX
 have zN:=qM qX
 have vW:=qM xn
 have jO:=qM xR
 have yH:=qM zn
 have jg:=qM xy
 clear qX xn xR zn xy
 have N:=Fresh.nil w.heap.size
 refine zcr (sw (zS H (yS s qJ qI qV qQ) fun b1 w2 H=>sw (zS H (yT t xg xf xF xA qU qR) fun b3 w4 H=>sq 1 (sp (yI 0) (zjc (sw (xI (yS s qJ qI qV qQ) isAgg27 sizeOf27 rfl (qC (H.cells 1 rfl) 0 3) ?_)))))))
 refine sw (xI (yT t xg xf xF xA qU qR) isAgg31 sizeOf31 rfl (qC (H.cells 0 rfl) 0 3) ?_)
 have sz8:=H.base.size
 refine sw (oc (choices_ok _ s t (H.get 0 rfl).1 (H.get 1 rfl).1 (H.get 2 rfl).1 (H.get 3 rfl).1 (H.get 4 rfl).1 qg qg) ?_)
 rintro _ w6 ⟨ra5a,rn5a,rc5a,rx5a,rF5a,rfl,M,K⟩ _
 replace N:=N.merge sz8 qm M
 replace H:=H.merge K M
 obtain rfl:=H.xK (α:=yLI) 0 rfl 0 rfl qj
 refine sq 5 (zjcc (sq 1 (sp (.bool (((zy s t).2:Int) != 0)) (zjn (xE (((zy s t).2:Int) != 0) rfl (fun h11=>?_) (fun h11=>?_))))))
 ·skip
  replace h11:=bne_iff_ne.1 h11
  refine zcr (sq 3 (zjr (t_r ?_)))
  replace H:=H.nilRow 31 3
  replace H:=H.zW (α:=qF)
  refine ret2 yN (yI ((zy s t).2)) rfl rfl rfl ⟨_,rfl,?_,H.base⟩
  rw [succ_c ‹_›]
  exact ⟨none,0,0,[],[],rfl,(N.emp.pick [0]),H.pick [0] [0]⟩
 replace h11:=xm h11
 refine qW (t_n (zcc (sw (xI (yS s qJ qI qV qQ) isAgg27 sizeOf27 rfl (qC (H.cells 2 rfl) 0 3) (sw (xI (yT t xg xf xF xA qU qR) isAgg31 sizeOf31 rfl (qC (H.cells 1 rfl) 0 3) ?_))))))
 have sz15:=H.base.size
 refine sw (oc (applicable_ok _ s t (H.get 1 rfl).1 (H.get 2 rfl).1 (H.get 3 rfl).1 (H.get 4 rfl).1 (H.get 5 rfl).1 qg qg) ?_)
 rintro _ w13 ⟨ra12,rn12,rc12,rfl,M,K⟩ _
 replace H:=H.merge K M
 obtain rfl:=H.jm 0 rfl
 refine oN rfl (sp (.bool (((appls s t).length:Int) == 0)) (zjn (cE rfl (fun h18=>?_) (fun h18=>?_))))
 ·skip
  refine zcr (sq 1 (sp (yI 0) (zjr (t_r ?_))))
  replace H:=H.nilRow 31 3
  replace H:=H.zW (α:=qF)
  refine ret2 yN (yI 0) rfl rfl rfl ⟨_,rfl,?_,H.base⟩
  rw [succ_h (by first | assumption | exact XP.1 qf)]
  exact ⟨none,0,0,[],[],rfl,(N.emp.pick [0]),H.pick [0] [0]⟩
 refine qW (t_n (zcr (sw (xI (yS s qJ qI qV qQ) isAgg27 sizeOf27 rfl (qC (H.cells 3 rfl) 0 3) (sw (xI (yT t xg xf xF xA qU qR) isAgg31 sizeOf31 rfl (qC (H.cells 2 rfl) 0 3) (sq 1 ?_)))))))
 obtain ⟨G19,hn20,h21⟩:=H.yQ (α:=yLI) 1 rfl 0 rfl qj
 have ln:=cho_len s t
 have cc:=fun q (hq:q < (zy s t).1.length)=>(cho_ok p0 p1 hq).1
 have ci:=fun q (hq:q < (zy s t).1.length)=>(cho_ok p0 p1 hq).2
 have sz25:=H.base.size
 have lt26:=H.ltN (L:=[rF5a]) [0]
 refine sw (oc (behind_ok _ s t ((zy s t).1) (H.get 1 rfl).1 (H.get 2 rfl).1 (H.get 3 rfl).1 (H.get 4 rfl).1 (H.get 5 rfl).1 h21 qg qg qg qg qg) ?_)
 rintro _ w23 ⟨ra22a,rn22a,rc22a,rx22a,rF22a,rfl,M,K⟩ _
 replace N:=N.merge sz25 lt26 M
 replace H:=H.merge K M
 obtain rfl:=H.xK (α:=qF) 0 rfl 0 rfl qj
 refine sq 4 (zjr (ret2 (.slice ra22a (((QH s t ((zy s t).1)).1).length) rc22a) (yI ((QH s t ((zy s t).1)).2)) rfl rfl rfl ⟨_,rfl,?_,H.base⟩))
 rw [succ_0 (by first | assumption | exact fun h=>by have:=XP.2 h;omega) ql]
 exact ⟨ra22a,((QH s t ((zy s t).1)).1).length,rc22a,rx22a,rF22a,rfl,(N.pick [0]),H.pick [0] [0]⟩

theorem implNx_ok (w:World) (s:qE) (t:qF) {qJ:yOA} {xu:yLN} {qV:yOA} {zh:yLN} {xg:yOA} {zu:yLN} {xF:yOA} {zU:yLN} {qU:yOA} {x9:yLN} (qX:qO.rep w xu [.slice qJ s.qA.length qI] s.qA) (xn:qO.rep w zh [.slice qV s.qB.length qQ] s.qB) (xR:qO.rep w zu [.slice xg t.qG.length xf] t.qG) (zn:qO.rep w zU [.slice xF t.qN.length xA] t.qN) (xy:qO.rep w x9 [.slice qU t.qH.length qR] t.qH):Calls Tryz.prog 15 #[.agg #[yI s.xP,.slice qJ s.qA.length qI,.slice qV s.qB.length qQ],.agg #[.slice xg t.qG.length xf,.slice xF t.qN.length xA,.slice qU t.qH.length qR]] w (Ret (fun v w' =>∃ (ra0:yOA) (rn0:Nat) (rc0:Nat) (rx0:List Value) (rF0:yLN),v=.tuple #[.slice ra0 rn0 rc0,yI ((nxRes s t).2)]∧Fresh w.heap.size [rF0]∧St w w' [rr ra0 rn0 rc0 31 3 rx0] [xB true rF0 rx0 ((nxRes s t).1)]) w):=by
 refine en func15 ntmps15 ?_
 have H:=(((((St.start w).arg xy).arg zn).arg xR).arg xn).arg qX
 have zN:=qM qX
 have vW:=qM xn
 have jO:=qM xR
 have yH:=qM zn
 have jg:=qM xy
 clear qX xn xR zn xy
 have N:=Fresh.nil w.heap.size
 refine zcr (sw (zS H (yS s qJ qI qV qQ) fun b1 w2 H=>sw (zS H (yT t xg xf xF xA qU qR) fun b3 w4 H=>sq 1 (sp (yI 0) (zjcc (sw (xI (yS s qJ qI qV qQ) isAgg27 sizeOf27 rfl (qC (H.cells 1 rfl) 0 3) ?_)))))))
 refine sw (xI (yT t xg xf xF xA qU qR) isAgg31 sizeOf31 rfl (qC (H.cells 0 rfl) 0 3) (sw (oq (QZ _ s t (H.get 0 rfl).1 (H.get 1 rfl).1 (H.get 2 rfl).1 (H.get 3 rfl).1 (H.get 4 rfl).1) H fun w6 H=>sq 1 (zjn (cQ rfl (fun h8=>?_) (fun h8=>?_))))))
 ·skip
  refine zcr (sq 1 (sp (yI 1) (zjr (t_r ?_))))
  replace H:=H.nilRow 31 3
  replace H:=H.zW (α:=qF)
  refine ret2 yN (yI 1) rfl rfl rfl ⟨_,rfl,?_,H.base⟩
  rw [nx_1 ‹_›]
  exact ⟨none,0,0,[],[],rfl,N.emp,H.pick [0] [0]⟩
 have k0:=(‹vK s∧xX s t›:vK s∧xX s t)
 have k1:=k0.1
 have k2:=k0.2
 refine qW (t_n (zcr (sw (xI (yS s qJ qI qV qQ) isAgg27 sizeOf27 rfl (qC (H.cells 1 rfl) 0 3) (sw (xI (yT t xg xf xF xA qU qR) isAgg31 sizeOf31 rfl (qC (H.cells 0 rfl) 0 3) ?_))))))
 have sz12:=H.base.size
 refine sw (oc (nextStates_ok _ s t (H.get 0 rfl).1 (H.get 1 rfl).1 (H.get 2 rfl).1 (H.get 3 rfl).1 (H.get 4 rfl).1 qg qg) ?_)
 rintro _ w10 ⟨ra9a,rn9a,rc9a,rx9a,rF9a,rfl,M,K⟩ _
 replace N:=N.merge sz12 qm M
 replace H:=H.merge K M
 obtain rfl:=H.xK (α:=qF) 0 rfl 0 rfl qj
 refine sq 4 (zjr (ret2 (.slice ra9a (((qZ s t).1).length) rc9a) (yI ((qZ s t).2)) rfl rfl rfl ⟨_,rfl,?_,H.base⟩))
 rw [nx_0 k0]
 exact ⟨ra9a,((qZ s t).1).length,rc9a,rx9a,rF9a,rfl,N,H.pick [0] [0]⟩
end
section

theorem nextTo_ok {s:qE} {t:qF} {cs:yLL}:∀ {k:Nat},NoBad s t cs k→∀ u∈jU s t cs k,xX s u
  | 0,_,u,hu=>by simp [jU] at hu
  | k+1,h,u,hu=>by
    have ih:=nextTo_ok (s:=s) (t:=t) (cs:=cs) (k:=k) fun j hj=>h j qf
    rw [jU] at hu
    split at hu
    · exact ih u hu
    · rcases List.mem_append.1 hu with h1 | h1
      · exact ih u h1
      · obtain rfl:=List.mem_singleton.1 h1
        exact stepBy_ok (Classical.byContradiction fun hc=>h k qf hc)
theorem succ_ok {s:qE} {t:qF}:∀ u∈(qZ s t).1,xX s u:=fun u hu=>by
  rw [qZ] at hu
  split at hu
  · simp at hu
  · split at hu
    · simp at hu
    · rw [QH] at hu
      split at hu
      · next h=>exact nextTo_ok h u hu
      · simp at hu
theorem least_of {g:Nat→Bool}:∀ k,g k=true→∃ m,m≤k∧g m=true∧∀ j,j < m→g j=false:=fun k=>Nat.strongRecOn k fun k ih h=>by
  by_cases hx:∃ j,j < k∧g j=true
  · obtain ⟨j,hj,h1⟩:=hx
    obtain ⟨m,a,b,c⟩:=ih j hj h1
    exact ⟨m,by omega,b,c⟩
  · exact ⟨k,Nat.le_refl _,h,fun j hj=>by
      cases e:g j with
      | false=>rfl
      | true=>exact absurd ⟨j,hj,e⟩ hx⟩
theorem firstIdx_lt {g:Nat→Bool} {n:Nat} (h:0≤firstIdx g n):(firstIdx g n).toNat < n:=by
  by_cases hx:∃ k,k < n∧g k=true
  · obtain ⟨k,hk,h1⟩:=hx
    obtain ⟨m,a,b,c⟩:=least_of k h1
    rw [QB (show m < n by omega) c b];omega
  · rw [firstIdx_none (fun j hj=>by
      cases e:g j with
      | false=>rfl
      | true=>exact absurd ⟨j,hj,e⟩ hx)] at h
    omega
def zM (S nx:List qF):Nat→List qF×yLI
  | 0=>(S,[])
  | k+1=>if firstIdx (fun j=>decide ((zM S nx k).1[j]! =nx[k]!)) (zM S nx k).1.length < 0 then ((zM S nx k).1++[nx[k]!],(zM S nx k).2++[((zM S nx k).1.length:Int)])
    else ((zM S nx k).1,(zM S nx k).2++[firstIdx (fun j=>decide ((zM S nx k).1[j]! =nx[k]!)) (zM S nx k).1.length])
theorem Xg {S nx:List qF} {k:Nat} (h:firstIdx (fun j=>decide ((zM S nx k).1[j]! =nx[k]!)) (zM S nx k).1.length < 0):
    (zM S nx k).1++[nx[k]!]=(zM S nx (k+1)).1∧(zM S nx k).2++[((zM S nx k).1.length:Int)]=(zM S nx (k+1)).2:=by
  rw [zM,if_pos h];exact ⟨rfl,rfl⟩
theorem Xf {S nx:List qF} {k:Nat} (h:¬ firstIdx (fun j=>decide ((zM S nx k).1[j]! =nx[k]!)) (zM S nx k).1.length < 0):
    (zM S nx k).1=(zM S nx (k+1)).1∧(zM S nx k).2++[firstIdx (fun j=>decide ((zM S nx k).1[j]! =nx[k]!)) (zM S nx k).1.length]=(zM S nx (k+1)).2:=by
  rw [zM,if_neg h];exact ⟨rfl,rfl⟩
theorem Xh {S nx:List qF}:∀ k,S.length≤(zM S nx k).1.length∧(zM S nx k).1.length≤S.length+k∧(zM S nx k).2.length=k
  | 0=>⟨Nat.le_refl _,Nat.le_refl _,rfl⟩
  | k+1=>by
    have h:=Xh (S:=S) (nx:=nx) k
    rw [zM]
    split <;> simp only [List.length_append,List.length_cons,List.length_nil] <;> omega
theorem addSt_mem {S nx:List qF} {p:qF→Prop} (h1:∀ u∈S,p u) (h2:∀ u∈nx,p u):∀ k,k≤nx.length→∀ u∈(zM S nx k).1,p u
  | 0,_,u,hu=>h1 u hu
  | k+1,hk,u,hu=>by
    have ih:=addSt_mem h1 h2 k qf
    rw [zM] at hu
    split at hu
    · rcases List.mem_append.1 hu with h | h
      · exact ih u h
      · obtain rfl:=List.mem_singleton.1 h
        exact h2 _ (by rw [getElem!_pos nx k qf];exact List.getElem_mem _)
    · exact ih u hu
noncomputable def grGo (s:qE):Nat→Nat→List qF→yLL→(List qF×yLL)×Int
  | 0,_,S,R=>((S,R),0)
  | f+1,i,S,R=>if S.length≤i then ((S,R),0) else if (qZ s (S[i]!)).2≠0 then (([],[]),(qZ s (S[i]!)).2)
    else if (zM S (qZ s (S[i]!)).1 (qZ s (S[i]!)).1.length).1.length > 300 then (([],[]),3)
    else grGo s f (i+1) (zM S (qZ s (S[i]!)).1 (qZ s (S[i]!)).1.length).1 (R++[(zM S (qZ s (S[i]!)).1 (qZ s (S[i]!)).1.length).2])
noncomputable def grRes (s:qE) (t:qF):(List qF×yLL)×Int:=grGo s 302 0 [t] []
theorem gr_end {s:qE} {f i:Nat} {S:List qF} {R:yLL} (h:S.length≤i):grGo s f i S R=((S,R),0):=by
  cases f with
  | zero=>rfl
  | succ f=>rw [grGo,if_pos h]
theorem gr_code {s:qE} {f i:Nat} {S:List qF} {R:yLL} (hf:0 < f) (h:i < S.length) (h1:(qZ s (S[i]!)).2≠0):grGo s f i S R=(([],[]),(qZ s (S[i]!)).2):=by
  obtain ⟨f,rfl⟩:∃ g,f=g+1:=⟨f - 1,by omega⟩
  rw [grGo,if_neg qf,if_pos h1]
theorem gr_many {s:qE} {f i:Nat} {S:List qF} {R:yLL} (hf:0 < f) (h:i < S.length) (h1:(qZ s (S[i]!)).2=0) {k:Nat} (hk:k=(qZ s (S[i]!)).1.length) (h2:(zM S (qZ s (S[i]!)).1 k).1.length > 300):grGo s f i S R=(([],[]),3):=by
  obtain ⟨f,rfl⟩:∃ g,f=g+1:=⟨f - 1,by omega⟩
  subst hk
  rw [grGo,if_neg qf,if_neg (fun x=>x h1),if_pos h2]
theorem gr_go {s:qE} {f i:Nat} {S:List qF} {R:yLL} (hf:0 < f) (h:i < S.length) (h1:(qZ s (S[i]!)).2=0) {k:Nat} (hk:k=(qZ s (S[i]!)).1.length) (h2:¬ (zM S (qZ s (S[i]!)).1 k).1.length > 300):
    grGo s f i S R=grGo s (f - 1) (i+1) (zM S (qZ s (S[i]!)).1 k).1 (R++[(zM S (qZ s (S[i]!)).1 k).2]):=by
  obtain ⟨f,rfl⟩:∃ g,f=g+1:=⟨f - 1,by omega⟩
  subst hk
  rw [grGo,if_neg qf,if_neg (fun x=>x h1),if_neg h2]
  rfl
structure GrOk (S:List qF) (R:yLL):Prop where
  rows:∀ i,i < R.length→∀ k,k < (R[i]!).length→0≤(R[i]!)[k]! ∧((R[i]!)[k]!).toNat < S.length
  lens:∀ i,i < R.length→(R[i]!).length≤300
  from' :∀ j,0 < j→j < S.length→∃ i,i < R.length∧i < j∧∃ k,k < (R[i]!).length∧(R[i]!)[k]! =(j:Int)
theorem addSt_rows {S nx:List qF}:∀ k,(∀ q,q < k→0≤(zM S nx k).2[q]! ∧((zM S nx k).2[q]!).toNat < (zM S nx k).1.length)∧∀ j,S.length≤j→j < (zM S nx k).1.length→∃ q,q < k∧(zM S nx k).2[q]! =(j:Int)
  | 0=>⟨fun q hq=>by omega,fun j h1 h2=>by have:j < S.length:=h2;omega⟩
  | k+1=>by
    obtain ⟨h1,h2⟩:=addSt_rows (S:=S) (nx:=nx) k
    obtain ⟨l1,l2,l3⟩:=Xh (S:=S) (nx:=nx) k
    have hg:∀ (x:Int) q,q < k→((zM S nx k).2++[x])[q]! =(zM S nx k).2[q]! :=fun x q hq=>by
      rw [getElem!_pos _ q qy,getElem!_pos _ q qf,List.getElem_append_left]
    have hk:∀ (x:Int),((zM S nx k).2++[x])[k]! =x:=fun x=>by
      rw [getElem!_pos _ k qy,List.getElem_append_right qf];simp [l3]
    rw [zM]
    split
    · refine ⟨fun q hq=>?_,fun j hj hj2=>?_⟩
      · show 0≤((zM S nx k).2++[_])[q]! ∧(((zM S nx k).2++[_])[q]!).toNat < ((zM S nx k).1++[_]).length
        rw [List.length_append,List.length_singleton]
        by_cases e:q=k
        · subst e;rw [hk];omega
        · rw [hg _ q qf];have:=h1 q qf;omega
      · have hj3:j < (zM S nx k).1.length+1:=by simpa using hj2
        by_cases e:j=(zM S nx k).1.length
        · exact ⟨k,by omega,by subst e;exact hk _⟩
        · obtain ⟨q,hq,e2⟩:=h2 j hj qf
          exact ⟨q,by omega,by rw [← e2];exact hg _ q hq⟩
    · next hn=>
      have hb:0≤firstIdx (fun j=>decide ((zM S nx k).1[j]! =nx[k]!)) (zM S nx k).1.length:=by omega
      have hb2:(firstIdx (fun j=>decide ((zM S nx k).1[j]! =nx[k]!)) (zM S nx k).1.length).toNat < (zM S nx k).1.length:=firstIdx_lt hb
      refine ⟨fun q hq=>?_,fun j hj hj2=>?_⟩
      · show 0≤((zM S nx k).2++[_])[q]! ∧(((zM S nx k).2++[_])[q]!).toNat < (zM S nx k).1.length
        by_cases e:q=k
        · subst e;rw [hk];exact ⟨hb,hb2⟩
        · rw [hg _ q qf];exact h1 q qf
      · obtain ⟨q,hq,e2⟩:=h2 j hj hj2
        exact ⟨q,by omega,by rw [← e2];exact hg _ q hq⟩
theorem GrOk.start (t:qF):GrOk [t] []:=⟨fun i hi=>by simp at hi,fun i hi=>by simp at hi,fun j h1 h2=>by simp at h2;omega⟩
theorem GrOk.next {S:List qF} {R:yLL} (h:GrOk S R) (hR:R.length < S.length) {nx:List qF} {k:Nat} (hk:k≤300):GrOk (zM S nx k).1 (R++[(zM S nx k).2]):=by
  obtain ⟨h1,h2⟩:=addSt_rows (S:=S) (nx:=nx) k
  obtain ⟨l1,l2,l3⟩:=Xh (S:=S) (nx:=nx) k
  have hg:∀ i,i < R.length→(R++[(zM S nx k).2])[i]! =R[i]! :=fun i hi=>by
    rw [getElem!_pos _ i qy,getElem!_pos _ i hi,List.getElem_append_left]
  have he:(R++[(zM S nx k).2])[R.length]! =(zM S nx k).2:=by
    rw [getElem!_pos _ R.length qm];simp
  refine ⟨fun i hi q hq=>?_,fun i hi=>?_,fun j hj hj2=>?_⟩
  · rw [List.length_append,List.length_singleton] at hi
    by_cases e:i=R.length
    · subst e;rw [he] at hq ⊢;exact h1 q qf
    · rw [hg i qf] at hq ⊢;have:=h.rows i qf q hq;omega
  · rw [List.length_append,List.length_singleton] at hi
    by_cases e:i=R.length
    · subst e;rw [he];omega
    · rw [hg i qf];exact h.lens i qf
  · rw [List.length_append,List.length_singleton]
    by_cases e:j < S.length
    · obtain ⟨i,hi,hij,q,hq,e2⟩:=h.from' j hj e
      exact ⟨i,by omega,hij,q,by rw [hg i hi];exact hq,by rw [hg i hi];exact e2⟩
    · obtain ⟨q,hq,e2⟩:=h2 j qf hj2
      exact ⟨R.length,by omega,by omega,q,by rw [he];omega,by rw [he];exact e2⟩
def HaltIn (R:yLL):Nat→Nat→Prop
  | 0,_=>False
  | f+1,i=>∀ k,k < (R[i]!).length→HaltIn R f ((R[i]!)[k]!).toNat
def mxF (g:Nat→Int) (r:yLI):Nat→Int
  | 0=>0
  | k+1=>max (mxF g r k) (g ((r[k]!).toNat)+1)
def dpN (R:yLL):Nat→Nat→Int
  | 0,_=>0
  | f+1,i=>mxF (dpN R f) (R[i]!) (R[i]!).length
def Fi (R:yLL) (i:Nat) (d:Int):Prop:=∃ f,HaltIn R f i∧dpN R f i=d
def Halts (R:yLL) (i:Nat):Prop:=∃ f,HaltIn R f i
theorem mxF_congr {g g' :Nat→Int} {r:yLI}:∀ k:Nat,(∀ q,q < k→g ((r[q]!).toNat)=g' ((r[q]!).toNat))→mxF g r k=mxF g' r k
  | 0,_=>rfl
  | k+1,h=>by rw [mxF,mxF,mxF_congr k fun q hq=>h q qf,h k qf]
theorem haltIn_mono {R:yLL}:∀ f i,HaltIn R f i→∀ f',f≤f' →HaltIn R f' i∧dpN R f' i=dpN R f i
  | 0,_,h,_,_=>h.elim
  | f+1,i,h,f',hf=>by
    obtain ⟨f',rfl⟩:∃ x,f' =x+1:=⟨f' - 1,by omega⟩
    exact ⟨fun k hk=>(haltIn_mono f _ (h k hk) f' qf).1,mxF_congr _ fun q hq=>(haltIn_mono f _ (h q hq) f' qf).2⟩
theorem Fi.same {R:yLL} {i:Nat} {d d' :Int} (h:Fi R i d) (h' :Fi R i d'):d=d' :=by
  obtain ⟨f,h1,rfl⟩:=h
  obtain ⟨f',h2,rfl⟩:=h'
  by_cases hx:f≤f'
  · exact (haltIn_mono f i h1 f' hx).2.symm
  · exact (haltIn_mono f' i h2 f qf).2
theorem Fi.halts {R:yLL} {i:Nat} {d:Int} (h:Fi R i d):Halts R i:=⟨h.choose,h.choose_spec.1⟩
theorem fi_all {R:yLL} {g:Nat→Int} {r:yLI}:∀ k:Nat,(∀ q,q < k→Fi R ((r[q]!).toNat) (g ((r[q]!).toNat)))→∃ f,∀ q,q < k→HaltIn R f ((r[q]!).toNat)∧dpN R f ((r[q]!).toNat)=g ((r[q]!).toNat)
  | 0,_=>⟨0,fun q hq=>by omega⟩
  | k+1,h=>by
    obtain ⟨f,hf⟩:=fi_all k fun q hq=>h q qf
    obtain ⟨f',h1,h2⟩:=h k qf
    refine ⟨max f f',fun q hq=>?_⟩
    by_cases e:q=k
    · subst e
      obtain ⟨a,b⟩:=haltIn_mono f' _ h1 (max f f') (Nat.le_max_right ..)
      exact ⟨a,b.trans h2⟩
    · obtain ⟨c,d⟩:=hf q qf
      obtain ⟨a,b⟩:=haltIn_mono f _ c (max f f') (Nat.le_max_left ..)
      exact ⟨a,b.trans d⟩
theorem fi_step {R:yLL} {g:Nat→Int} {i:Nat} (h:∀ q,q < (R[i]!).length→Fi R (((R[i]!)[q]!).toNat) (g (((R[i]!)[q]!).toNat))):Fi R i (mxF g (R[i]!) (R[i]!).length):=by
  obtain ⟨f,hf⟩:=fi_all _ h
  exact ⟨f+1,fun k hk=>(hf k hk).1,mxF_congr _ fun q hq=>(hf q hq).2⟩
theorem not_halt {R:yLL} {p:Nat→Prop} (h:∀ j,p j→∃ k,k < (R[j]!).length∧p (((R[j]!)[k]!).toNat)) {i:Nat} (hi:p i):¬ Halts R i:=by
  rintro ⟨f,hf⟩
  induction f generalizing i with
  | zero=>exact hf
  | succ f ih=>
    obtain ⟨k,hk,hp⟩:=h i hi
    exact ih hp (hf k hk)
theorem Halts.go {R:yLL} {i k:Nat} (h:Halts R i) (hk:k < (R[i]!).length):Halts R (((R[i]!)[k]!).toNat):=by
  obtain ⟨f,hf⟩:=h
  cases f with
  | zero=>exact hf.elim
  | succ f=>exact ⟨f,hf k hk⟩
structure LayI (R:yLL) (D:yLI) (O:List Bool) (left:Int):Prop where
  dl:D.length=R.length
  ol:O.length=R.length
  fi:∀ j,j < R.length→O[j]! =true→Fi R j (D[j]!)
  nn:∀ j,j < R.length→0≤D[j]! ∧D[j]! ≤R.length - left
  lf:left=R.length - (O.count true:Int)
theorem repAt1 {α:Type} [Inhabited α] {n j:Nat} {a:α} (h:j < n):(List.replicate n a)[j]! =a:=by rw [getElem!_pos _ j (by simpa using h)];simp
theorem LayI.start (R:yLL):LayI R (List.replicate R.length 0) (List.replicate R.length false) R.length:=
  ⟨by simp,by simp,fun j hj h=>by rw [repAt1 hj] at h;exact absurd h qj,fun j hj=>by rw [repAt1 hj];omega,by simp [List.count_replicate]⟩
theorem mxF_le {g:Nat→Int} {r:yLI} {m:Int} (hm:0≤m):∀ k:Nat,(∀ q,q < k→g ((r[q]!).toNat)+1≤m)→0≤mxF g r k∧mxF g r k≤m
  | 0,_=>⟨Int.le_refl _,hm⟩
  | k+1,h=>by
    have h1:=mxF_le hm k fun q hq=>h q qf
    have h2:=h k qf
    rw [mxF];omega
theorem count_set {O:List Bool}:∀ {i:Nat},i < O.length→O[i]! =false→(O.set i true).count true=O.count true+1:=by
  induction O with
  | nil=>intro i h;simp at h
  | cons a O ih=>
    intro i h h1
    cases i with
    | zero=>simp at h1;subst h1;simp
    | succ i=>
      have:=ih (i:=i) (by simpa using h) (by simpa using h1)
      rw [List.set_cons_succ,List.count_cons,List.count_cons,this];omega
theorem setAt1 {α:Type} [Inhabited α] {l:List α} {i j:Nat} {a:α} (h:j < l.length):(l.set i a)[j]! =if i=j then a else l[j]! :=by
  rw [getElem!_pos _ j (by simpa using h),List.getElem_set,getElem!_pos l j h]
theorem LayI.set {R:yLL} {D:yLI} {O:List Bool} {left:Int} (h:LayI R D O left) {i:Nat} (hi:i < R.length) (h1:O[i]! =false) (hr:∀ k,k < (R[i]!).length→(((R[i]!)[k]!).toNat) < R.length)
    (ha:∀ k,k < (R[i]!).length→O[((R[i]!)[k]!).toNat]! =true) {m:Nat} (hm:m=(R[i]!).length):LayI R (D.set i (mxF (fun j=>D[j]!) (R[i]!) m)) (O.set i true) (left - 1):=by
  subst hm
  have hb:=mxF_le (g:=fun j=>D[j]!) (r:=R[i]!) (m:=(R.length:Int) - (left - 1)) (by have:=h.nn i hi;omega) (R[i]!).length fun q hq=>by have:=h.nn _ (hr q hq);show D[_]! +1≤_;omega
  refine ⟨by simp [h.dl],by simp [h.ol],fun j hj ho=>?_,fun j hj=>?_,?_⟩
  · rw [setAt1 (by rw [h.dl];exact hj)]
    by_cases e:i=j
    · subst e;rw [if_pos rfl];exact fi_step fun q hq=>h.fi _ (hr q hq) (ha q hq)
    · rw [if_neg e];rw [setAt1 (by rw [h.ol];exact hj),if_neg e] at ho;exact h.fi j hj ho
  · rw [setAt1 (by rw [h.dl];exact hj)]
    by_cases e:i=j
    · rw [if_pos e];exact hb
    · rw [if_neg e];have:=h.nn j hj;omega
  · rw [count_set (by rw [h.ol];exact hi) h1];have:=h.lf;omega
def NoneR (R:yLL) (O:List Bool) (i:Nat):Prop:=∀ j,j < i→O[j]! =false→∃ k,k < (R[j]!).length∧O[((R[j]!)[k]!).toNat]! =false
theorem NoneR.succ {R:yLL} {O:List Bool} {i:Nat} (h:NoneR R O i) (h1:O[i]! =true∨∃ k,k < (R[i]!).length∧O[((R[i]!)[k]!).toNat]! =false):NoneR R O (i+1):=fun j hj ho=>by
  by_cases e:j=i
  · subst e
    rcases h1 with h1 | h1
    · rw [h1] at ho;cases ho
    · exact h1
  · exact h j qf ho
theorem succ_len (s:qE) (t:qF):(qZ s t).1.length≤300:=by
  rw [qZ]
  split
  · simp
  · split
    · simp
    · have:=cho_len s t
      rw [QH]
      split
      · have:=nextTo_len (s:=s) (t:=t) (cs:=(zy s t).1) (zy s t).1.length;show (jU ..).length≤_;omega
      · simp
inductive Rch (R:yLL):Nat→Nat→Prop
  | refl (j:Nat):Rch R j j
  | step {j i:Nat} (k:Nat):k < (R[j]!).length→Rch R (((R[j]!)[k]!).toNat) i→Rch R j i
theorem Rch.one {R:yLL} {j i:Nat} (h:Rch R j i) {k:Nat} (hk:k < (R[i]!).length):Rch R j (((R[i]!)[k]!).toNat):=by
  induction h with
  | refl j=>exact .step k hk (.refl _)
  | step q hq _ ih=>exact .step q hq (ih hk)
theorem Rch.not {R:yLL} {i k:Nat} (hk:k < (R[i]!).length) (h:Rch R (((R[i]!)[k]!).toNat) i):¬ Halts R i:=
  not_halt (p:=fun j=>Rch R j i) (fun j hj=>by
    cases hj with
    | refl=>exact ⟨k,hk,h⟩
    | step q hq h1=>exact ⟨q,hq,h1⟩) (.refl i)
def RowsIn (R:yLL):Prop:=R.length≤300∧∀ j,j < R.length→(R[j]!).length≤300∧∀ k,k < (R[j]!).length→0≤(R[j]!)[k]! ∧((R[j]!)[k]!).toNat < R.length
structure VisI (R:yLL) (M D:yLI):Prop where
  ml:M.length=R.length
  dl:D.length=R.length
  mr:∀ j,j < R.length→M[j]! =0∨M[j]! =1∨M[j]! =2
  fi:∀ j,j < R.length→M[j]! =2→Fi R j (D[j]!)
  nz:∀ j,j < R.length→M[j]! =0→D[j]! =0
  bd:∀ j,j < R.length→0≤D[j]! ∧D[j]! ≤M.count 2∧(M[j]! =2→D[j]! +1≤M.count 2)
structure VisEnd (R:yLL) (M D M' D' :yLI) (i:Nat):Prop where
  vi:VisI R M' D'
  me:M'[i]! =2
  kp:∀ j:Nat,M[j]! ≠0→M'[j]! =M[j]! ∧D'[j]! =D[j]!
  op:∀ j:Nat,M'[j]! =1→M[j]! =1
  c0:M'.count 0≤M.count 0
  c2:M.count 2≤M'.count 2
structure VisL (R:yLL) (M D M' D' :yLI) (i k:Nat):Prop where
  vi:VisI R M' D'
  m0:M[i]! =0
  me:M'[i]! =1
  kp:∀ j:Nat,M[j]! ≠0→M'[j]! =M[j]! ∧D'[j]! =D[j]!
  op:∀ j:Nat,M'[j]! =1→M[j]! =1∨j=i
  dn:∀ q:Nat,q < k→M'[((R[i]!)[q]!).toNat]! =2
  mx:D'[i]! =mxF (fun j=>D'[j]!) (R[i]!) k
  c0:M'.count 0 < M.count 0
  c2:M.count 2≤M'.count 2
theorem count_setI {l:yLI} {a b c:Int}:∀ {i:Nat},i < l.length→l[i]! =b→b≠a→((l.set i a).count c:Int)=l.count c+(if a=c then 1 else 0) - (if b=c then 1 else 0):=by
  induction l with
  | nil=>intro i h;simp at h
  | cons x l ih=>
    intro i h h1 hab
    cases i with
    | zero=>simp at h1;subst h1;rw [List.set_cons_zero,List.count_cons,List.count_cons];simp only [beq_iff_eq];split <;> split <;> omega
    | succ i=>
      have:=ih (i:=i) (by simpa using h) (by simpa using h1) hab
      rw [List.set_cons_succ,List.count_cons,List.count_cons];omega
theorem setAt0 {l:yLI} {i j:Nat} {a:Int}:(l.set i a)[j]! =if i=j∧j < l.length then a else l[j]! :=by
  by_cases h:j < l.length
  · rw [setAt1 h];simp [h]
  · rw [if_neg qf,getElem!_neg _ j (by simpa using h),getElem!_neg _ j (by simpa using h)]
theorem VisI.start (R:yLL):VisI R (List.replicate R.length 0) (List.replicate R.length 0):=
  ⟨by simp,by simp,fun j hj=>by rw [repAt1 hj];omega,fun j hj h=>by rw [repAt1 hj] at h;exact absurd h qj,fun j hj _=>repAt1 hj,fun j hj=>by rw [repAt1 hj];exact ⟨by omega,by omega,fun h=>absurd h qj⟩⟩
theorem VisL.start {R:yLL} {M D:yLI} (h:VisI R M D) {i:Nat} (hi:i < R.length) (h0:M[i]! =0):VisL R M D (M.set i 1) D i 0:=by
  have hm:=h.ml
  have c2:=count_setI (c:=2) (a:=1) (show i < M.length by omega) h0 qj
  have c0:=count_setI (c:=0) (a:=1) (show i < M.length by omega) h0 qj
  simp only [Int.reduceEq,if_false,if_true] at c0 c2
  refine ⟨⟨by simp [h.ml],h.dl,fun j hj=>?_,fun j hj hx=>?_,fun j hj hx=>?_,fun j hj=>?_⟩,h0,by rw [setAt0,if_pos ⟨rfl,by omega⟩],fun j hj=>?_,fun j hj=>?_,fun q hq=>by omega,h.nz i hi h0,by omega,by omega⟩
  · rw [setAt0];split
    · omega
    · exact h.mr j hj
  · rw [setAt0] at hx;split at hx
    · omega
    · exact h.fi j hj hx
  · rw [setAt0] at hx;split at hx
    · omega
    · exact h.nz j hj hx
  · have hb:=h.bd j hj
    rw [setAt0];split
    · exact ⟨hb.1,by omega,fun hx=>absurd hx qj⟩
    · exact ⟨hb.1,by omega,fun hx=>by have:=hb.2.2 hx;omega⟩
  · rw [setAt0,if_neg (by rintro ⟨rfl,_⟩;exact hj h0)];exact ⟨rfl,rfl⟩
  · rw [setAt0] at hj;split at hj
    · exact .inr qf
    · exact .inl hj
theorem VisL.go {R:yLL} {M D M' D' :yLI} {i k:Nat} (h:VisL R M D M' D' i k) (hk:k < (R[i]!).length) (hi:i < R.length) (hR:RowsIn R) (h1:M'[((R[i]!)[k]!).toNat]! =2):VisL R M D M' (D'.set i (max (D'[i]!) (D'[((R[i]!)[k]!).toNat]! +1))) i (k+1):=by
  have hv:=h.vi
  have hk1:=((hR.2 i hi).2 k hk).2
  have hne:i≠((R[i]!)[k]!).toNat:=fun e=>by have:=h.me;rw [e,h1] at this;exact absurd this qj
  have hb:=hv.bd i hi
  have hb1:=hv.bd _ hk1
  have hb2:=hb1.2.2 h1
  have hs:∀ j,j≠i→(D'.set i (max (D'[i]!) (D'[((R[i]!)[k]!).toNat]! +1)))[j]! =D'[j]! :=fun j hj=>by rw [setAt0,if_neg qf]
  have hme:(D'.set i (max (D'[i]!) (D'[((R[i]!)[k]!).toNat]! +1)))[i]! =max (D'[i]!) (D'[((R[i]!)[k]!).toNat]! +1):=by rw [setAt0,if_pos ⟨rfl,by rw [hv.dl];exact hi⟩]
  have hdn:∀ q,q < k+1→M'[((R[i]!)[q]!).toNat]! =2:=fun q hq=>by
    by_cases e:q=k
    · subst e;exact h1
    · exact h.dn q qf
  refine ⟨⟨hv.ml,by simp [hv.dl],hv.mr,fun j hj hx=>?_,fun j hj hx=>?_,fun j hj=>?_⟩,h.m0,h.me,fun j hj=>?_,h.op,hdn,?_,h.c0,h.c2⟩
  · rw [hs j (fun e=>by subst e;rw [h.me] at hx;exact absurd hx qj)];exact hv.fi j hj hx
  · rw [hs j (fun e=>by subst e;rw [h.me] at hx;exact absurd hx qj)];exact hv.nz j hj hx
  · by_cases e:j=i
    · subst e;rw [hme];exact ⟨by omega,by omega,fun hx=>by rw [h.me] at hx;exact absurd hx qj⟩
    · rw [hs j e];exact hv.bd j hj
  · have h2:=h.kp j hj
    by_cases e:j=i
    · subst e;exact absurd h.m0 hj
    · rw [hs j e];exact h2
  · rw [hme,mxF,hs _ (Ne.symm hne)]
    rw [mxF_congr (g' :=fun j=>D'[j]!) k fun q hq=>hs _ (fun e=>by have:=h.dn q hq;rw [e,h.me] at this;exact absurd this qj)]
    rw [← h.mx]
theorem VisL.sub {R:yLL} {M D M' D' M2 D2:yLI} {i k j' :Nat} (h:VisL R M D M' D' i k) (e:VisEnd R M' D' M2 D2 j'):VisL R M D M2 D2 i k:=by
  have hi:=e.kp i (by rw [h.me];decide)
  have hq:∀ q,q < k→M2[((R[i]!)[q]!).toNat]! =2∧D2[((R[i]!)[q]!).toNat]! =D'[((R[i]!)[q]!).toNat]! :=fun q hq=>by
    have h1:=h.dn q hq
    obtain ⟨a,b⟩:=e.kp _ (show M'[((R[i]!)[q]!).toNat]! ≠0 by rw [h1];decide)
    exact ⟨a.trans h1,b⟩
  refine ⟨e.vi,h.m0,hi.1.trans h.me,fun j hj=>?_,fun j hj=>h.op j (e.op j hj),fun q hk=>(hq q hk).1,?_,by have:=e.c0;have:=h.c0;omega,by have:=e.c2;have:=h.c2;omega⟩
  · obtain ⟨a,b⟩:=h.kp j hj
    obtain ⟨c,d⟩:=e.kp j (by rw [a];exact hj)
    exact ⟨c.trans a,d.trans b⟩
  · rw [hi.2,h.mx];exact mxF_congr k fun q hk=>(hq q hk).2.symm
theorem VisL.fin {R:yLL} {M D M' D' :yLI} {i k:Nat} (h:VisL R M D M' D' i k) (hi:i < R.length) (hk:k=(R[i]!).length):VisEnd R M D (M'.set i 2) D' i∧Halts R i:=by
  subst hk
  have hv:=h.vi
  have hl:=hv.ml
  have hf:Fi R i (D'[i]!):=by
    rw [h.mx];exact fi_step fun q hq=>by
      have h1:=h.dn q hq
      have:((R[i]!)[q]!).toNat < R.length:=by
        rcases Nat.lt_or_ge ((R[i]!)[q]!).toNat R.length with a | a
        · exact a
        · rw [getElem!_neg _ _ qf] at h1;exact absurd h1 qj
      exact hv.fi _ this h1
  have c2:=count_setI (c:=2) (a:=2) (show i < M'.length by omega) h.me qj
  have c0:=count_setI (c:=0) (a:=2) (show i < M'.length by omega) h.me qj
  simp only [Int.reduceEq,if_false,if_true] at c0 c2
  refine ⟨⟨⟨by simp [hl],hv.dl,fun j hj=>?_,fun j hj hx=>?_,fun j hj hx=>?_,fun j hj=>?_⟩,by rw [setAt0,if_pos ⟨rfl,by omega⟩],fun j hj=>?_,fun j hj=>?_,by have:=h.c0;omega,by have:=h.c2;omega⟩,hf.halts⟩
  · rw [setAt0];split
    · omega
    · exact hv.mr j hj
  · by_cases e:j=i
    · subst e;exact hf
    · rw [setAt0,if_neg qf] at hx;exact hv.fi j hj hx
  · by_cases e:j=i
    · subst e;rw [setAt0,if_pos ⟨rfl,by omega⟩] at hx;exact absurd hx qj
    · rw [setAt0,if_neg qf] at hx;exact hv.nz j hj hx
  · have hb:=hv.bd j hj
    exact ⟨hb.1,by omega,fun hx=>by
      by_cases e:j=i
      · omega
      · rw [setAt0,if_neg qf] at hx;have:=hb.2.2 hx;omega⟩
  · rw [setAt0,if_neg (by rintro ⟨rfl,_⟩;exact hj h.m0)];exact h.kp j hj
  · rw [setAt0] at hj;split at hj
    · omega
    · rename_i hx;rcases h.op j hj with h1 | h1
      · exact h1
      · omega
theorem VisI.top {R:yLL} {M D:yLI} (h:VisI R M D) (hR:RowsIn R) {j:Nat} (hj:j < R.length):0≤D[j]! ∧D[j]! ≤300:=by
  have h1:=h.bd j hj
  have h2:=List.count_le_length (a:=2) (l:=M)
  have h3:=h.ml
  have h4:=hR.1
  omega
end
section
open Go.Proofs.Tryz
open Go.RowKit
set_option linter.unusedVariables false
set_option linter.unusedSimpArgs false
set_option maxRecDepth 100000
set_option maxHeartbeats 4000000
variable {cl : Nat}
theorem find_ok (w:World) (l:List qF) (u:qF) {al:yOA} {Fl:yLN} {auAlive:yOA} {cuAlive:Nat} {FuAlive:yLN} {auBags:yOA} {cuBags:Nat} {FuBags:yLN} {XN:yOA} {XH:Nat} {FuAround:yLN} (hl:qO.rep w Fl [.slice al l.length cl] l) (huAlive:qO.rep w FuAlive [.slice auAlive u.qG.length cuAlive] u.qG) (huBags:qO.rep w FuBags [.slice auBags u.qN.length cuBags] u.qN) (huAround:qO.rep w FuAround [.slice XN u.qH.length XH] u.qH):Calls Tryz.prog 68 #[.slice al l.length cl,.agg #[.slice auAlive u.qG.length cuAlive,.slice auBags u.qN.length cuBags,.slice XN u.qH.length XH]] w (Ret (fun v w' =>v=yI (firstIdx (fun zz=>decide (l[zz]! =u)) l.length)) w):=by
 refine en func68 ntmps68 ?_
 have H:=((((St.start w).arg huAround).arg huBags).arg huAlive).arg hl
 have nhl:=qM hl
 have nhuAlive:=qM huAlive
 have nhuBags:=qM huBags
 have nhuAround:=qM huAround
 clear hl huAlive huBags huAround
 have N:=Fresh.nil w.heap.size
 refine zcr (sw (zS H (yT u auAlive cuAlive auBags cuBags XN XH) fun b1 w2 H=>sp (yI 0) (zjc (sq 1 (sp (.func (.func 116) #[] #[pp b1 0]) (sw (zQ #[.slice al l.length cl,.func (.func 116) #[] #[pp b1 0]] rfl rfl call115 (en func115 ntmps115 ?_))))))))
 refine zcr (sp (yI 0) (zjcc (sq 1 (oN rfl (sp (yI 0) (zjn (qY ?_)))))))
 refine zq ((fun Z0 Z1 Z2 Z3 Z4=>fun m' ρ w3=>∃ (xM:Env) (i:Nat),ρ=upd (upd (upd (upd xM 0 (.slice al l.length cl)) 1 (.func (.func 116) #[] #[pp b1 0])) 7 (yI l.length)) 8 (yI i)∧((i:Int)≤l.length)∧(noneTo (fun zz=>decide (l[zz]! =u)) i)∧m' =(l.length - (i:Int)).toNat∧Fresh w.heap.size []∧St w w3 [Z0] [Z1,Z2,Z3,Z4]) _ _ _ _ _) ((l.length - (0:Int)).toNat) ⟨_,0,uE4,qf,qx,rfl,N,H⟩ ?_
 clear H N
 rintro m' ρ w4 ⟨xM,i,rfl,i0,i1,rfl,N,H⟩
 refine zcr (sq 1 (zjn (xQ (cD rfl (fun h5=>?_) (fun h5=>?_)))))
 ·skip
  refine qW (t_n (xQ (qY (zcr (sp (yI i) (sp (yI i) (zjc (sp (.func (.func 116) #[] #[pp b1 0]) (sq 1 (sp (yI i) ?_))))))))))
  obtain ⟨b6,o7,rfl⟩:=H.addr 0 rfl qf
  obtain ⟨ae9Alive,ce9Alive,Fe9Alive,ae9Bags,ce9Bags,Fe9Bags,ae9Around,ce9Around,Fe9Around,H⟩:=H.Vm 0 rfl i i qf qf qf
  refine oI rfl rfl (sw (xI [.slice ae9Alive (((l[i]!).qG).length) ce9Alive,.slice ae9Bags (((l[i]!).qN).length) ce9Bags,.slice ae9Around (((l[i]!).qH).length) ce9Around] isAgg31 sizeOf31 rfl (qC (H.get 3 rfl) 0 3) (sw (zQ #[.agg #[.slice ae9Alive (((l[i]!).qG).length) ce9Alive,.slice ae9Bags (((l[i]!).qN).length) ce9Bags,.slice ae9Around (((l[i]!).qH).length) ce9Around],pp b1 0] rfl rfl call116 (en func116 ntmps116 ?_)))))
  refine zcr (sw (zS H [.slice ae9Alive (((l[i]!).qG).length) ce9Alive,.slice ae9Bags (((l[i]!).qN).length) ce9Bags,.slice ae9Around (((l[i]!).qH).length) ce9Around] fun b10 w11 H=>sp (.bool false) (zjc (sw (xI [.slice ae9Alive (((l[i]!).qG).length) ce9Alive,.slice ae9Bags (((l[i]!).qN).length) ce9Bags,.slice ae9Around (((l[i]!).qH).length) ce9Around] isAgg31 sizeOf31 rfl (qC (H.cells 0 rfl) 0 3) ?_)))))
  refine sw (xI (yT u auAlive cuAlive auBags cuBags XN XH) isAgg31 sizeOf31 rfl (qC (H.cells 1 rfl) 0 3) (sw (oq (sameState_ok _ (l[i]!) u (H.get 0 rfl).1 (H.get 1 rfl).1 (H.get 2 rfl).1 (H.get 5 rfl).1 (H.get 6 rfl).1 (H.get 7 rfl).1) H fun w13 H=>sq 1 (zjr (ret1 (.bool (decide ((l[i]!)=u))) rfl rfl ⟨_,rfl,?_⟩)))))
  replace H:=H.erases [0]
  dsimp only [vV,List.eraseIdx] at H
  refine zjn (cD rfl (fun h15=>?_) (fun h15=>?_))
  ·skip
   refine zcr (sp (yI i) (sp (yI i) (zjr (zr5 (ret1 (yI i) rfl rfl ⟨_,rfl,(sp (yI i) (zjr (ret1 (yI i) rfl rfl ⟨_,rfl,?_,H.base⟩)))⟩)))))
   rw [QB (k:=i) qf i1 (decide_eq_true ‹_›)]
  refine qW (b_n (t_n (xU (sw (zA i 1 rfl rfl qf (sq 1 (xY (xe (m' :=(l.length - ((i+1):Int)).toNat) qf ⟨_,i+1,uE4,?_,?_,rfl,N,H.pick [0] [4,5,6,7]⟩))))))))
  · omega
  · exact noneTo_succ i1 (decide_eq_false ‹_›)
 refine zx4 (zcr (sq 1 (zjr (ret1 (yI (-1)) rfl rfl ⟨_,rfl,(sq 1 (zjr (ret1 (yI (-1)) rfl rfl ⟨_,rfl,?_,H.base⟩)))⟩))))
 rw [firstIdx_none (fun j hj=>i1 j qf)]

theorem sizeS_ok (w:World) (l:List qF) {al:yOA} {Fl:yLN} (hl:qO.rep w Fl [.slice al l.length cl] l):Calls Tryz.prog 114 #[.slice al l.length cl] w (Ret (fun v w' =>v=yI l.length) w):=by
 refine en func114 ntmps114 ?_
 have H:=(St.start w).arg hl
 have nhl:=qM hl
 clear hl
 have N:=Fresh.nil w.heap.size
 refine zcr (sp (yI 0) (zjc (sq 1 (oN rfl (sq 1 (zjr (ret1 (yI l.length) rfl rfl ⟨_,rfl,?_,H.base⟩)))))))
 rfl
end
section

noncomputable def saGo (s:qE):List qF→List qF→List qF×Int
  | [],out=>(out,0)
  | u :: l,out=>if (qZ s u).2≠0 then ([],(qZ s u).2) else if (zM out (qZ s u).1 (qZ s u).1.length).1.length > 300 then ([],3) else saGo s l (zM out (qZ s u).1 (qZ s u).1.length).1
noncomputable def saRun (s:qE):Nat→List qF→List qF×Int
  | 0,l=>(l,0)
  | n+1,l=>if (saGo s l []).2≠0 then ([],(saGo s l []).2) else saRun s n (saGo s l []).1
open Classical in
noncomputable def XB (s:qE) (t:qF) (n:Int):List qF×Int:=if vK s∧xX s t then (if 0≤n∧n≤200 then saRun s n.toNat [t] else ([],2)) else ([],1)
theorem sa_cons {α:Type} [Inhabited α] {l:List α} {i:Nat} (h:i < l.length):l.drop i=l[i]! :: l.drop (i+1):=by rw [getElem!_pos l i h];exact List.drop_eq_getElem_cons h
theorem sa_end {s:qE} {l out:List qF} {i:Nat} (h:l.length≤i):saGo s (l.drop i) out=(out,0):=by rw [List.drop_of_length_le h];rfl
theorem sa_code {s:qE} {l out:List qF} {i:Nat} (h:i < l.length) (h1:(qZ s (l[i]!)).2≠0):saGo s (l.drop i) out=([],(qZ s (l[i]!)).2):=by rw [sa_cons h,saGo,if_pos h1]
theorem sa_many {s:qE} {l out:List qF} {i k:Nat} (h:i < l.length) (h1:(qZ s (l[i]!)).2=0) (hk:k=(qZ s (l[i]!)).1.length) (h2:(zM out (qZ s (l[i]!)).1 k).1.length > 300):saGo s (l.drop i) out=([],3):=by
  subst hk;rw [sa_cons h,saGo,if_neg (fun x=>x h1),if_pos h2]
theorem sa_go {s:qE} {l out:List qF} {i k:Nat} (h:i < l.length) (h1:(qZ s (l[i]!)).2=0) (hk:k=(qZ s (l[i]!)).1.length) (h2:¬ (zM out (qZ s (l[i]!)).1 k).1.length > 300):
    saGo s (l.drop i) out=saGo s (l.drop (i+1)) (zM out (qZ s (l[i]!)).1 k).1:=by
  subst hk;rw [sa_cons h,saGo,if_neg (fun x=>x h1),if_neg h2]
theorem sr_nil {s:qE}:∀ n,saRun s n []=([],0)
  | 0=>rfl
  | n+1=>by rw [saRun,if_neg (by simp [saGo])];exact sr_nil n
theorem sr_end {s:qE} {l:List qF} {n:Nat} (h:n=0∨l.length=0):saRun s n l=(l,0):=by
  rcases h with rfl | h
  · rfl
  · obtain rfl:=List.eq_nil_of_length_eq_zero h;exact sr_nil n
theorem sr_go {s:qE} {l l' :List qF} {n:Nat} (hn:0 < n) (h:saGo s l []=(l',0)):saRun s n l=saRun s (n - 1) l' :=by
  obtain ⟨n,rfl⟩:∃ m,n=m+1:=⟨n - 1,by omega⟩
  rw [saRun,h,if_neg qm];rfl
theorem sr_err {s:qE} {l l' :List qF} {c:Int} {n:Nat} (hn:0 < n) (h:saGo s l []=(l',c)) (hc:c≠0):saRun s n l=([],c):=by
  obtain ⟨n,rfl⟩:∃ m,n=m+1:=⟨n - 1,by omega⟩
  rw [saRun,h,if_pos hc]
theorem sa_1 {s:qE} {t:qF} {n:Int} (h:¬ (vK s∧xX s t)):XB s t n=([],1):=by rw [XB,if_neg h]
theorem sa_2 {s:qE} {t:qF} {n:Int} (h:vK s∧xX s t) (h1:¬ (0≤n∧n≤200)):XB s t n=([],2):=by rw [XB,if_pos h,if_neg h1]
theorem sa_0 {s:qE} {t:qF} {n:Int} (h:vK s∧xX s t) (h1:0≤n∧n≤200):XB s t n=saRun s n.toNat [t]:=by rw [XB,if_pos h,if_pos h1]
end
section
open Go.RowKit
set_option linter.unusedVariables false
set_option linter.unusedSimpArgs false
set_option maxRecDepth 100000
set_option maxHeartbeats 4000000
structure GraphD where
  qK:List qF
  fNext:yLL
  deriving DecidableEq
instance:Inhabited GraphD:=⟨⟨[],[]⟩⟩
instance:Tot GraphD:=⟨fun x=>tot x.qK+tot x.fNext⟩
instance:qO GraphD where
  size:=2
  rep:=fun w F cs x=>∃ (vStates vNext:Value) (FStates FNext:yLN),cs=[vStates,vNext]∧F=FStates++FNext∧qO.rep w FStates [vStates] x.qK∧qO.rep w FNext [vNext] x.fNext
  len:=by rintro w F cs x ⟨vStates,vNext,FStates,FNext,rfl,_,hStates,hNext⟩;rfl
  one:=by
    rintro w F cs x ⟨vStates,vNext,FStates,FNext,rfl,rfl,hStates,hNext⟩ u hu
    simp only [List.mem_cons,List.not_mem_nil,or_false] at hu
    rcases hu with rfl | rfl <;> first | rfl | exact one_of ql
  stay:=by
    rintro w w' F cs x ⟨vStates,vNext,FStates,FNext,rfl,rfl,hStates,hNext⟩ hs
    exact ⟨_,_,_,_,rfl,rfl,qO.stay hStates fun b hb=>hs b (by simp [hb]),qO.stay hNext fun b hb=>hs b (by simp [hb])⟩
  lt:=by
    rintro w F cs x ⟨vStates,vNext,FStates,FNext,rfl,rfl,hStates,hNext⟩ b hb
    simp only [List.mem_append] at hb
    rcases hb with (hb | hb)
    · exact qO.lt hStates b hb
    · exact qO.lt hNext b hb
end
section

theorem nextTo_pos {s:qE} {t:qF} {cs:yLL}:∀ {k:Nat},0 < k→0 < (jU s t cs k).length
  | 0,h=>by omega
  | k+1,_=>by
    rw [jU]
    split
    · next h=>exact List.length_pos_of_mem h
    · simp
open Classical in
theorem next_pos {s:qE} {t:qF} {cs:yLL} (h0:0 < cs.length) (hc:(QH s t cs).2=0):0 < (QH s t cs).1.length:=by
  by_cases h:NoBad s t cs cs.length
  · rw [next_ok h];exact nextTo_pos h0
  · exfalso
    obtain ⟨k,hk,hb⟩:∃ k,k < cs.length∧CodeBad s t cs k:=Classical.byContradiction fun hx=>h fun k hk hb=>hx ⟨k,hk,hb⟩
    obtain ⟨m,h1,h2,h3⟩:=least_of (g:=fun k=>decide (CodeBad s t cs k)) k (decide_eq_true hb)
    have h2:CodeBad s t cs m:=of_decide_eq_true h2
    rw [next_bad (fun j hj=>of_decide_eq_false (h3 j hj)) qf h2] at hc
    exact h2 hc
theorem cho_pos {s:qE} {t:qF} (hs:vK s) (ht:xX s t) (h:(zy s t).2=0):0 < (zy s t).1.length:=by
  by_cases h1:GoodP s t s.qA.length
  · by_cases h2:QX (zi s t s.qA.length) (zi s t s.qA.length).length > 300
    · rw [cho_3 (.inr h2)] at h;exact absurd h qj
    · have hp:0 < QX (zi s t s.qA.length) (zi s t s.qA.length).length:=
        Nat.lt_of_lt_of_le Nat.one_pos (prod_mono (packsL_ne hs ht (by have:=ht.2.1;omega) h1) (Nat.zero_le _) (Nat.le_refl _))
      unfold zy
      rw [if_neg (fun h' =>h' h1),if_neg h2]
      show 0 < (inOrder _).length
      unfold inOrder
      split
      · next h=>rw [← (Classical.choose_spec h).1.length_eq,QT];exact hp
      · rw [QT];exact hp
  · rw [cho_3 (.inl h1)] at h;exact absurd h qj
theorem succ_halt {s:qE} {t:qF} (hs:vK s) (ht:xX s t) (h:(qZ s t).2=0):(qZ s t).1.length=0↔Halted s t:=by
  constructor
  · intro h1
    refine Classical.byContradiction fun hh=>?_
    by_cases h2:(zy s t).2=0
    · rw [succ_0 hh h2] at h h1
      have:=next_pos (cho_pos hs ht h2) h
      omega
    · rw [succ_c h2] at h;exact h2 h
  · intro hh;rw [succ_h hh];rfl
theorem addSt_get {S nx:List qF} {j:Nat} (hj:j < S.length):∀ k,(zM S nx k).1[j]! =S[j]!
  | 0=>rfl
  | k+1=>by
    have ih:=addSt_get (nx:=nx) hj k
    have hl:=(Xh (S:=S) (nx:=nx) k).1
    rw [zM]
    split
    · show ((zM S nx k).1++[_])[j]! =_
      rw [getElem!_pos _ j qy,List.getElem_append_left qf,← getElem!_pos _ j qf];exact ih
    · exact ih
structure GrAll (s:qE) (S:List qF) (R:yLL):Prop where
  ok:GrOk S R
  len:R.length=S.length
  pos:0 < S.length
  le:S.length≤300
  st:∀ u∈S,xX s u
  ht:∀ j,j < R.length→((R[j]!).length=0↔Halted s (S[j]!))
theorem grGo_all {s:qE} (hs:vK s):∀ (f i:Nat) (S:List qF) (R:yLL),f+i=302→R.length=i→i≤S.length→0 < S.length→S.length≤300→(∀ u∈S,xX s u)→GrOk S R→
    (∀ j,j < R.length→((R[j]!).length=0↔Halted s (S[j]!)))→(grGo s f i S R).2=0→GrAll s (grGo s f i S R).1.1 (grGo s f i S R).1.2
  | f,i,S,R,hf,hR,hi,hp,hl,ha,hk,hh,h=>by
    by_cases hx:S.length≤i
    · rw [gr_end hx];show GrAll s S R;exact ⟨hk,by omega,hp,hl,ha,hh⟩
    · by_cases hc:(qZ s (S[i]!)).2=0
      · by_cases hm:(zM S (qZ s (S[i]!)).1 (qZ s (S[i]!)).1.length).1.length > 300
        · rw [gr_many qf qf hc rfl hm] at h;exact absurd h qj
        · obtain ⟨f,rfl⟩:∃ g,f=g+1:=⟨f - 1,by omega⟩
          have e:=gr_go (R:=R) (show 0 < f+1 by omega) (show i < S.length by omega) hc rfl hm
          rw [show f+1 - 1=f from rfl] at e
          rw [e] at h ⊢
          obtain ⟨l1,l2,l3⟩:=Xh (S:=S) (nx:=(qZ s (S[i]!)).1) (qZ s (S[i]!)).1.length
          have hsi:xX s (S[i]!):=ha _ (by rw [getElem!_pos S i qf];exact List.getElem_mem _)
          refine grGo_all hs f (i+1) _ _ qf qy qf qf qf (addSt_mem ha succ_ok _ (Nat.le_refl _)) (hk.next qf (succ_len s _)) (fun j hj=>?_) h
          rw [List.length_append,List.length_singleton] at hj
          rw [addSt_get qf]
          by_cases ej:j=i
          · subst ej
            rw [getElem!_pos _ j qy,List.getElem_append_right qf]
            simp only [hR,Nat.sub_self,List.getElem_cons_zero,l3]
            exact succ_halt hs hsi hc
          · rw [getElem!_pos _ j qy,List.getElem_append_left qf,← getElem!_pos R j qf]
            exact hh j qf
      · rw [gr_code qf qf hc] at h;exact absurd h hc
theorem gr_all {s:qE} {t:qF} (hs:vK s) (ht:xX s t) (h:(grRes s t).2=0):GrAll s (grRes s t).1.1 (grRes s t).1.2:=
  grGo_all hs 302 0 [t] [] rfl rfl (Nat.zero_le _) qm qm (fun u hu=>by obtain rfl:=List.mem_singleton.1 hu;exact ht) (GrOk.start t) (fun j hj=>by simp at hj) h

open Classical in
noncomputable def XZ (s:qE) (t:qF):(List qF×yLL)×Int:=if vK s∧xX s t then grRes s t else (([],[]),1)
noncomputable def exG (s:qE) (t:qF):GraphD:=⟨(XZ s t).1.1,(XZ s t).1.2⟩
theorem ex_1 {s:qE} {t:qF} (h:¬ (vK s∧xX s t)):XZ s t=(([],[]),1):=by rw [XZ,if_neg h]
theorem ex_0 {s:qE} {t:qF} (h:vK s∧xX s t) {x:(List qF×yLL)×Int} (hx:grRes s t=x):XZ s t=x:=by rw [XZ,if_pos h,hx]
theorem exG_of {s:qE} {t:qF} {S:List qF} {R:yLL} {c:Int} (h:XZ s t=((S,R),c)):exG s t=⟨S,R⟩∧(XZ s t).2=c:=by rw [exG,h];exact ⟨rfl,rfl⟩
theorem ex_valid {s:qE} {t:qF} (h:(XZ s t).2=0):vK s∧xX s t:=Classical.byContradiction fun hx=>by rw [ex_1 hx] at h;exact absurd h qj
theorem ex_all {s:qE} {t:qF} (h:(XZ s t).2=0):GrAll s (exG s t).qK (exG s t).fNext:=by
  have hv:=ex_valid h
  have e:=ex_0 hv rfl
  rw [e] at h
  have:=gr_all hv.1 hv.2 h
  rw [← e] at this;exact this

theorem map_snoc! {α β:Type} [Inhabited α] {f:α→β} {l:List α} {q:Nat} (h:q < l.length):(l.take q).map f++[f (l[q]!)]=(l.take (q+1)).map f:=by
  rw [← take_snoc h,List.map_append];rfl
theorem firstIdx_get {g:Nat→Bool} {n:Nat} (h:0≤firstIdx g n):g (firstIdx g n).toNat=true:=by
  by_cases hx:∃ k,k < n∧g k=true
  · obtain ⟨k,hk,h1⟩:=hx
    obtain ⟨m,a,b,c⟩:=least_of k h1
    rw [QB (show m < n by omega) c b];exact b
  · rw [firstIdx_none (fun j hj=>by
      cases e:g j with
      | false=>rfl
      | true=>exact absurd ⟨j,hj,e⟩ hx)] at h
    omega
theorem snoc_lt {α:Type} [Inhabited α] {l:List α} {x:α} {q:Nat} (h:q < l.length):(l++[x])[q]! =l[q]! :=by
  rw [getElem!_pos _ q qy,getElem!_pos _ q h,List.getElem_append_left]
theorem snoc_eq {α:Type} [Inhabited α] {l:List α} {x:α}:(l++[x])[l.length]! =x:=by
  rw [getElem!_pos _ l.length qm];simp
theorem addSt_nx {S nx:List qF}:∀ k,∀ q,q < k→(zM S nx k).1[((zM S nx k).2[q]!).toNat]! =nx[q]!
  | 0,q,hq=>by omega
  | k+1,q,hq=>by
    have ih:=addSt_nx (S:=S) (nx:=nx) k
    obtain ⟨h1,h2⟩:=addSt_rows (S:=S) (nx:=nx) k
    obtain ⟨l1,l2,l3⟩:=Xh (S:=S) (nx:=nx) k
    rw [zM]
    split
    · show ((zM S nx k).1++[_])[(((zM S nx k).2++[_])[q]!).toNat]! =_
      by_cases e:q=k
      · subst e
        rw [show ((zM S nx q).2++[((zM S nx q).1.length:Int)])[q]! =((zM S nx q).1.length:Int) from by have:=snoc_eq (l:=(zM S nx q).2) (x:=((zM S nx q).1.length:Int));rwa [l3] at this]
        rw [Int.toNat_natCast];exact snoc_eq
      · rw [show ((zM S nx k).2++[((zM S nx k).1.length:Int)])[q]! =(zM S nx k).2[q]! from snoc_lt qf,snoc_lt (h1 q qf).2];exact ih q qf
    · next hn=>
      show (zM S nx k).1[(((zM S nx k).2++[_])[q]!).toNat]! =_
      by_cases e:q=k
      · subst e
        have hx:=snoc_eq (l:=(zM S nx q).2) (x:=firstIdx (fun j=>decide ((zM S nx q).1[j]! =nx[q]!)) (zM S nx q).1.length)
        rw [l3] at hx
        rw [hx]
        exact of_decide_eq_true (firstIdx_get (g:=fun j=>decide ((zM S nx q).1[j]! =nx[q]!)) qf)
      · rw [snoc_lt qf];exact ih q qf
theorem grGo_ind {s:qE} {p:List qF→yLL→Prop}
    (hs:∀ S R,R.length < S.length→p S R→(qZ s (S[R.length]!)).2=0→p (zM S (qZ s (S[R.length]!)).1 (qZ s (S[R.length]!)).1.length).1 (R++[(zM S (qZ s (S[R.length]!)).1 (qZ s (S[R.length]!)).1.length).2])):
    ∀ (f:Nat) (S:List qF) (R:yLL),p S R→(grGo s f R.length S R).2=0→p (grGo s f R.length S R).1.1 (grGo s f R.length S R).1.2
  | 0,S,R,hp,_=>hp
  | f+1,S,R,hp,h=>by
    rw [grGo] at h ⊢
    split
    · exact hp
    · next hx=>
      rw [if_neg hx] at h
      split
      · next hy=>rw [if_pos hy] at h;exact absurd h hy
      · next hy=>
        rw [if_neg hy] at h
        split
        · next hz=>rw [if_pos hz] at h;exact absurd h qj
        · next hz=>
          rw [if_neg hz] at h
          have e:R.length+1=(R++[(zM S (qZ s (S[R.length]!)).1 (qZ s (S[R.length]!)).1.length).2]).length:=by simp
          rw [e] at h ⊢
          exact grGo_ind hs f _ _ (hs S R qf hp (Classical.byContradiction hy)) h
def GrNx (s:qE) (S:List qF) (R:yLL):Prop:=∀ i,i < R.length→(qZ s (S[i]!)).2=0∧∀ k,k < (R[i]!).length→k < (qZ s (S[i]!)).1.length∧S[((R[i]!)[k]!).toNat]! =(qZ s (S[i]!)).1[k]!
theorem gr_nx {s:qE} {t:qF} (h:(grRes s t).2=0):GrNx s (grRes s t).1.1 (grRes s t).1.2:=by
  refine (grGo_ind (s:=s) (p:=fun S R=>GrOk S R∧R.length≤S.length∧GrNx s S R) ?_ 302 [t] [] ⟨GrOk.start t,by simp,fun i hi=>by simp at hi⟩ h).2.2
  intro S R hl ⟨h1,h2,h3⟩ hc
  obtain ⟨l1,l2,l3⟩:=Xh (S:=S) (nx:=(qZ s (S[R.length]!)).1) (qZ s (S[R.length]!)).1.length
  refine ⟨h1.next hl (succ_len s _),by rw [List.length_append,List.length_singleton];omega,fun i hi=>?_⟩
  rw [List.length_append,List.length_singleton] at hi
  rw [addSt_get qf]
  by_cases e:i=R.length
  · subst e
    rw [snoc_eq]
    exact ⟨hc,fun k hk=>⟨by omega,addSt_nx _ k qf⟩⟩
  · rw [snoc_lt qf]
    obtain ⟨a,b⟩:=h3 i qf
    exact ⟨a,fun k hk=>⟨(b k hk).1,by rw [addSt_get (h1.rows i qf k hk).2];exact (b k hk).2⟩⟩
theorem ex_nx {s:qE} {t:qF} (h:(XZ s t).2=0):GrNx s (exG s t).qK (exG s t).fNext:=by
  have e:=ex_0 (ex_valid h) rfl
  rw [e] at h
  have:=gr_nx h
  rw [← e] at this;exact this

def InTo (R:yLL) (i j q:Nat):Prop:=∃ k,k < q∧((R[i]!)[k]!).toNat=j
def InRow (R:yLL) (i j:Nat):Prop:=InTo R i j (R[i]!).length
def FromGe (R:yLL) (lo j i:Nat):Prop:=lo≤i∧i < R.length∧InRow R i j∧∀ i',lo≤i' →i' < i→¬ InRow R i' j
open Classical in
noncomputable def frm (R:yLL) (j:Nat):Nat:=if h:∃ i,FromGe R 0 j i then h.choose else 0
theorem FromGe.same {R:yLL} {lo j i i' :Nat} (h:FromGe R lo j i) (h' :FromGe R lo j i'):i=i' :=by
  rcases Nat.lt_trichotomy i i' with h1 | h1 | h1
  · exact absurd h.2.2.1 (h'.2.2.2 i h.1 h1)
  · exact h1
  · exact absurd h'.2.2.1 (h.2.2.2 i' h'.1 h1)
theorem frm_of {R:yLL} {j i:Nat} (h:FromGe R 0 j i):frm R j=i:=by
  have hx:∃ i,FromGe R 0 j i:=⟨i,h⟩
  rw [frm,dif_pos hx];exact hx.choose_spec.same h
open Classical in
theorem frm_ok {S:List qF} {R:yLL} (h:GrOk S R) {j:Nat} (h0:0 < j) (hj:j < S.length):FromGe R 0 j (frm R j)∧frm R j < j:=by
  obtain ⟨i,h1,h2,k,hk,he⟩:=h.from' j h0 hj
  obtain ⟨m,a,b,c⟩:=least_of (g:=fun i=>decide (InRow R i j)) i (decide_eq_true ⟨k,hk,by omega⟩)
  have hf:FromGe R 0 j m:=⟨Nat.zero_le _,by omega,of_decide_eq_true b,fun i' _ hi' =>of_decide_eq_false (c i' hi')⟩
  rw [frm_of hf];exact ⟨hf,by omega⟩
def FGe (R:yLL) (F:yLI) (lo:Nat):Prop:=∀ j,j < F.length→∀ i,FromGe R lo j i→F[j]! =(i:Int)
def FMid (R:yLL) (F:yLI) (i q:Nat):Prop:=∀ j,j < F.length→(InTo R i j q→F[j]! =(i:Int))∧(¬ InTo R i j q→∀ i',FromGe R (i+1) j i' →F[j]! =(i' :Int))
theorem FGe.start {R:yLL} {F:yLI} {lo:Nat} (h:R.length≤lo):FGe R F lo:=fun j _ i hi=>by have:=hi.1;have:=hi.2.1;omega
theorem FMid.start {R:yLL} {F:yLI} {i:Nat} (h:FGe R F (i+1)):FMid R F i 0:=fun j hj=>⟨fun ⟨k,hk,_⟩=>by omega,fun _=>h j hj⟩
theorem FMid.step {R:yLL} {F:yLI} {i q:Nat} (h:FMid R F i q) {c:Nat} (hc:((R[i]!)[q]!).toNat=c):FMid R (F.set c (i:Int)) i (q+1):=fun j hj=>by
  subst hc
  rw [List.length_set] at hj
  obtain ⟨a,b⟩:=h j hj
  have hg:(F.set ((R[i]!)[q]!).toNat (i:Int))[j]! =if ((R[i]!)[q]!).toNat=j∧j < F.length then (i:Int) else F[j]! :=setAt0
  rw [hg]
  by_cases e:((R[i]!)[q]!).toNat=j
  · rw [if_pos ⟨e,hj⟩];exact ⟨fun _=>rfl,fun hn=>absurd ⟨q,by omega,e⟩ hn⟩
  · rw [if_neg (fun hx=>e hx.1)]
    have hi:InTo R i j (q+1)↔InTo R i j q:=⟨fun ⟨k,hk,he⟩=>⟨k,by
      by_cases ek:k=q
      · subst ek;exact absurd he e
      · omega,he⟩,fun ⟨k,hk,he⟩=>⟨k,by omega,he⟩⟩
    rw [hi];exact ⟨a,b⟩
theorem FMid.fin {R:yLL} {F:yLI} {i q:Nat} (h:FMid R F i q) (hq:q=(R[i]!).length) (hi:i < R.length):FGe R F i:=fun j hj i' hf=>by
  subst hq
  obtain ⟨a,b⟩:=h j hj
  by_cases e:InRow R i j
  · rw [a e,hf.same ⟨Nat.le_refl _,hi,e,fun i'' h1 h2=>by omega⟩]
  · refine b e i' ⟨?_,hf.2.1,hf.2.2.1,fun i'' h1 h2=>hf.2.2.2 i'' qf h2⟩
    rcases Nat.lt_or_ge i i' with h1 | h1
    · omega
    · have:i=i' :=by have:=hf.1;omega
      subst this;exact absurd hf.2.2.1 e
theorem FGe.at' {S:List qF} {R:yLL} {F:yLI} (h:FGe R F 0) (g:GrOk S R) {j:Nat} (h0:0 < j) (hj:j < S.length) (hl:F.length=S.length):F[j]! =(frm R j:Int):=h j qf _ (frm_ok g h0 hj).1
structure FromOk (S:List qF) (R:yLL) (F:yLI):Prop where
  len:F.length=S.length
  fst:F[0]! = -1
  all:∀ j,0 < j→j < S.length→0≤F[j]! ∧FromGe R 0 j (F[j]!).toNat
theorem FromOk.start (t:qF):FromOk [t] [] [-1]:=⟨rfl,rfl,fun j h1 h2=>by simp at h2;omega⟩
theorem FromOk.next {S:List qF} {R:yLL} {F:yLI} (h:FromOk S R F) (g:GrOk S R) {nx:List qF} {k i:Nat} (hp:0 < S.length) (hi:i=R.length):FromOk (zM S nx k).1 (R++[(zM S nx k).2]) (F++List.replicate ((zM S nx k).1.length - S.length) (i:Int)):=by
  subst hi
  obtain ⟨h1,h2⟩:=addSt_rows (S:=S) (nx:=nx) k
  obtain ⟨l1,l2,l3⟩:=Xh (S:=S) (nx:=nx) k
  have hl:=h.len
  have hold:∀ j,j < S.length→(F++List.replicate ((zM S nx k).1.length - S.length) (R.length:Int))[j]! =F[j]! :=fun j hj=>by
    rw [getElem!_pos _ j qy,getElem!_pos _ j qf,List.getElem_append_left]
  have hrow:∀ i j,i < R.length→(InRow (R++[(zM S nx k).2]) i j↔InRow R i j):=fun i j hi=>by
    unfold InRow InTo;rw [snoc_lt hi]
  refine ⟨by simp;omega,by rw [hold 0 hp];exact h.fst,fun j hj0 hj=>?_⟩
  by_cases e:j < S.length
  · rw [hold j e]
    obtain ⟨a,b,c,d,f⟩:=h.all j hj0 e
    exact ⟨a,b,by rw [List.length_append,List.length_singleton];omega,(hrow _ _ c).2 d,fun i' h3 h4 hx=>f i' h3 h4 ((hrow _ _ qf).1 hx)⟩
  · have hv:(F++List.replicate ((zM S nx k).1.length - S.length) (R.length:Int))[j]! =(R.length:Int):=by
      rw [getElem!_pos _ j qy,List.getElem_append_right qf,List.getElem_replicate]
    rw [hv,Int.toNat_natCast]
    refine ⟨by omega,Nat.zero_le _,by simp,?_,fun i' _ h4 hx=>?_⟩
    · obtain ⟨q,hq,he⟩:=h2 j qf hj
      unfold InRow;rw [snoc_eq];exact ⟨q,by omega,by rw [snoc_eq,he];omega⟩
    · obtain ⟨q,hq,he⟩:=(hrow _ _ h4).1 hx
      have:=(g.rows i' h4 q hq).2
      omega
theorem FromOk.at' {S:List qF} {R:yLL} {F:yLI} (h:FromOk S R F) {j:Nat} (hj:j < S.length):(0≤F[j]! ↔0 < j)∧(0 < j→F[j]! =(frm R j:Int)):=by
  by_cases e:j=0
  · subst e;rw [h.fst];exact ⟨by omega,by omega⟩
  · obtain ⟨a,b⟩:=h.all j qf hj
    rw [frm_of b];exact ⟨by omega,by omega⟩

noncomputable def itF (R:yLL) (j:Nat):Nat→Nat
  | 0=>j
  | k+1=>frm R (itF R j k)
theorem it_lt {S:List qF} {R:yLL} (g:GrOk S R) {j:Nat} (hj:j < S.length):∀ {k:Nat},(∀ q,q < k→itF R j q≠0)→itF R j k+k≤j
  | 0,_=>by simp [itF]
  | k+1,h=>by
    have ih:=it_lt g hj (k:=k) fun q hq=>h q qf
    have h0:=h k qf
    have:=(frm_ok g (j:=itF R j k) qf qf).2
    rw [itF];omega
theorem it_ex {S:List qF} {R:yLL} (g:GrOk S R) {j:Nat} (hj:j < S.length):∃ m,itF R j m=0∧∀ q,q < m→itF R j q≠0:=Classical.byContradiction fun hx=>by
  have key:∀ k,∀ q,q < k→itF R j q≠0:=fun k=>by
    induction k with
    | zero=>intro q hq;omega
    | succ k ih=>
      intro q hq
      by_cases e:q=k
      · subst e;exact fun h0=>hx ⟨q,h0,ih⟩
      · exact ih q qf
  have:=it_lt g hj (key (j+1))
  omega
open Classical in
noncomputable def vY (R:yLL) (j:Nat):Nat:=if h:∃ m,itF R j m=0∧∀ q,q < m→itF R j q≠0 then h.choose else 0
theorem stepsOf_of {R:yLL} {j m:Nat} (h0:itF R j m=0) (h1:∀ q,q < m→itF R j q≠0):vY R j=m:=by
  have hx:∃ m,itF R j m=0∧∀ q,q < m→itF R j q≠0:=⟨m,h0,h1⟩
  rw [vY,dif_pos hx]
  obtain ⟨a,b⟩:=hx.choose_spec
  rcases Nat.lt_trichotomy hx.choose m with h | h | h
  · exact absurd a (h1 _ h)
  · exact h
  · exact absurd h0 (b _ h)
noncomputable def betw (s:qE) (t u:qF):yLI:=(zy s t).1[Xl (fun k=>zF s t ((zy s t).1[k]!)=(u,0)) (zy s t).1.length]!
theorem betw_at {s:qE} {t u:qF} {k:Nat} (h:∀ j,j < k→¬ zF s t ((zy s t).1[j]!)=(u,0)) (hk:k < (zy s t).1.length) (h1:zF s t ((zy s t).1[k]!)=(u,0)):betw s t u=(zy s t).1[k]! :=by
  rw [betw,stop_first h hk h1]
theorem nextTo_by {s:qE} {t:qF} {cs:yLL}:∀ {k:Nat} {u:qF},u∈jU s t cs k→∃ q,q < k∧(zF s t (cs[q]!)).1=u
  | 0,u,h=>by simp [jU] at h
  | k+1,u,h=>by
    rw [jU] at h
    split at h
    · obtain ⟨q,hq,e⟩:=nextTo_by h;exact ⟨q,by omega,e⟩
    · rcases List.mem_append.1 h with h | h
      · obtain ⟨q,hq,e⟩:=nextTo_by h;exact ⟨q,by omega,e⟩
      · exact ⟨k,by omega,(List.mem_singleton.1 h).symm⟩
theorem succ_by {s:qE} {t:qF} (hc:(qZ s t).2=0) {k:Nat} (hk:k < (qZ s t).1.length):(zy s t).2=0∧∃ q,q < (zy s t).1.length∧zF s t ((zy s t).1[q]!)=((qZ s t).1[k]!,0):=by
  have hm:(qZ s t).1[k]! ∈(qZ s t).1:=by rw [getElem!_pos _ k hk];exact List.getElem_mem hk
  generalize (qZ s t).1[k]! =u at hm ⊢
  by_cases hh:Halted s t
  · rw [succ_h hh] at hm;simp at hm
  · by_cases h2:(zy s t).2=0
    · refine ⟨h2,?_⟩
      rw [succ_0 hh h2] at hc hm
      by_cases hb:NoBad s t (zy s t).1 (zy s t).1.length
      · rw [next_ok hb] at hm
        obtain ⟨q,hq,e⟩:=nextTo_by hm
        exact ⟨q,hq,Prod.ext e (Classical.byContradiction fun hx=>hb q hq hx)⟩
      · rw [QH,if_neg hb] at hm;simp at hm
    · rw [succ_c h2] at hc;exact absurd hc h2
theorem way_by {s:qE} {S:List qF} {R:yLL} (g:GrOk S R) (n:GrNx s S R) {j:Nat} (h0:0 < j) (hj:j < S.length):(zy s (S[frm R j]!)).2=0∧∃ q,q < (zy s (S[frm R j]!)).1.length∧zF s (S[frm R j]!) ((zy s (S[frm R j]!)).1[q]!)=(S[j]!,0):=by
  obtain ⟨⟨_,h1,⟨k,hk,he⟩,_⟩,_⟩:=frm_ok g h0 hj
  obtain ⟨hc,hx⟩:=n _ h1
  obtain ⟨a,b⟩:=hx k hk
  rw [he] at b
  have:=succ_by hc a
  rwa [← b] at this
noncomputable def wayTo (s:qE) (S:List qF) (R:yLL) (j m:Nat):Nat→yLL
  | 0=>[]
  | q+1=>wayTo s S R j m q++[betw s (S[itF R j (m - q)]!) (S[itF R j (m - q - 1)]!)]
noncomputable def wayL (s:qE) (S:List qF) (R:yLL) (j:Nat):yLL:=wayTo s S R j (vY R j) (vY R j)
noncomputable def backTo (s:qE) (S:List qF) (R:yLL) (j:Nat):Nat→yLL
  | 0=>[]
  | q+1=>backTo s S R j q++[betw s (S[itF R j (q+1)]!) (S[itF R j q]!)]
theorem back_len {s:qE} {S:List qF} {R:yLL} {j:Nat}:∀ q,(backTo s S R j q).length=q
  | 0=>rfl
  | q+1=>by rw [backTo,List.length_append,back_len q];rfl
theorem wayTo_len {s:qE} {S:List qF} {R:yLL} {j m:Nat}:∀ q,(wayTo s S R j m q).length=q
  | 0=>rfl
  | q+1=>by rw [wayTo,List.length_append,wayTo_len q];rfl
theorem wayTo_cons {s:qE} {S:List qF} {R:yLL} {j m:Nat}:∀ q,q≤m→wayTo s S R j (m+1) (q+1)=betw s (S[itF R j (m+1)]!) (S[itF R j m]!) :: wayTo s S R j m q
  | 0,_=>rfl
  | q+1,h=>by
    rw [wayTo,wayTo_cons q qf,wayTo,List.cons_append,show m+1 - (q+1)=m - q by omega]
theorem back_way {s:qE} {S:List qF} {R:yLL} {j:Nat}:∀ m,(backTo s S R j m).reverse=wayTo s S R j m m
  | 0=>rfl
  | m+1=>by rw [backTo,List.reverse_append,back_way m,wayTo_cons m (Nat.le_refl _)];rfl
theorem betw_step {s:qE} {t u:qF} {i:Nat} (h:∀ j,j < i→¬ zF s t ((zy s t).1[j]!)=(u,0)) (h1:¬ (zF s t ((zy s t).1[i]!)).2=0∨¬ (zF s t ((zy s t).1[i]!)).1=u):∀ j,j < i+1→¬ zF s t ((zy s t).1[j]!)=(u,0):=fun j hj=>by
  by_cases e:j=i
  · subst e
    intro hx
    rcases h1 with h1 | h1
    · exact h1 (by rw [hx])
    · exact h1 (by rw [hx])
  · exact h j qf

theorem kz_step {R:yLL} {j q:Nat} (h:∀ x,x < q→itF R j x≠0) (h1:itF R j q≠0):∀ x,x < q+1→itF R j x≠0:=fun x hx=>by
  by_cases e:x=q
  · subst e;exact h1
  · exact h x qf
theorem back_step {s:qE} {S:List qF} {R:yLL} {j q a k:Nat} (ha:a=itF R j (q+1)) (h:∀ x,x < k→¬ zF s (S[a]!) ((zy s (S[a]!)).1[x]!)=(S[itF R j q]!,0)) (hk:k < (zy s (S[a]!)).1.length)
    (h1:(zF s (S[a]!) ((zy s (S[a]!)).1[k]!)).2=0) (h2:(zF s (S[a]!) ((zy s (S[a]!)).1[k]!)).1=S[itF R j q]!):backTo s S R j q++[(zy s (S[a]!)).1[k]!]=backTo s S R j (q+1):=by
  rw [← betw_at h hk (Prod.ext h2 h1)];subst ha;rfl
theorem path_end {s:qE} {S:List qF} {R:yLL} {j q:Nat} (h0:itF R j q=0) (kz:∀ x,x < q→itF R j x≠0):wayL s S R j=(backTo s S R j q).reverse:=by
  rw [back_way,wayL,stepsOf_of h0 kz]
theorem it_in {S:List qF} {R:yLL} (g:GrOk S R) {j:Nat} (hj:j < S.length) {q:Nat} (kz:∀ x,x < q→itF R j x≠0):itF R j q < S.length∧q≤j:=by
  have:=it_lt g hj kz;omega
theorem steps_le {S:List qF} {R:yLL} (g:GrOk S R) {j:Nat} (hj:j < S.length):vY R j≤j:=by
  obtain ⟨m,a,b⟩:=it_ex g hj
  rw [stepsOf_of a b];exact (it_in g hj b).2
open Classical in
noncomputable def yl (s:qE) (t u:qF):yLL×Int:=
  if vK s∧xX s u then (if (XZ s t).2=0 then (if firstIdx (fun zz=>decide ((exG s t).qK[zz]! =u)) (exG s t).qK.length < 0 then ([],6) else (wayL s (exG s t).qK (exG s t).fNext (firstIdx (fun zz=>decide ((exG s t).qK[zz]! =u)) (exG s t).qK.length).toNat,0)) else ([],(XZ s t).2)) else ([],1)
theorem st_1 {s:qE} {t u:qF} (h:¬ (vK s∧xX s u)):yl s t u=([],1):=by rw [yl,if_neg h]
theorem st_c {s:qE} {t u:qF} (h:vK s∧xX s u) (h1:(XZ s t).2≠0):yl s t u=([],(XZ s t).2):=by rw [yl,if_pos h,if_neg h1]
theorem st_6 {s:qE} {t u:qF} (h:vK s∧xX s u) (h1:(XZ s t).2=0) (h2:firstIdx (fun zz=>decide ((exG s t).qK[zz]! =u)) (exG s t).qK.length < 0):yl s t u=([],6):=by rw [yl,if_pos h,if_pos h1,if_pos h2]
theorem st_0 {s:qE} {t u:qF} (h:vK s∧xX s u) (h1:(XZ s t).2=0) (h2:¬ firstIdx (fun zz=>decide ((exG s t).qK[zz]! =u)) (exG s t).qK.length < 0):
    yl s t u=(wayL s (exG s t).qK (exG s t).fNext (firstIdx (fun zz=>decide ((exG s t).qK[zz]! =u)) (exG s t).qK.length).toNat,0):=by rw [yl,if_pos h,if_pos h1,if_neg h2]
end
section
open Go.RowKit
def cellsF (B:yLN) (v:Value) (xs:List Value):Fact where
  F:=B
  φ:=fun w=>xs=[]∨∃ b o m c,v=.slice (some ⟨b,o,none⟩) m c∧B=[b]∧vG w b o xs
  stay:=by
    rintro w w' (h | ⟨b,o,m,c,h1,h2,h3⟩) hs
    · exact Or.inl h
    · exact Or.inr ⟨b,o,m,c,h1,h2,cellsAt_stay h3 (hs b (by simp [h2]))⟩

section
variable {W0 w : World} {ps : List Prv} {Γ : List Fact} {L : List yLN}
theorem St.pool {α:Type} [qO α] (H:St W0 w ps Γ) (i:Nat) {F:yLN} {v:Value} {l:List α} (hf:Γ[i]? =some (isF true F v l)) (N:Fresh W0.heap.size (F :: L)):
    ∃ (xs:List Value) (B P:yLN),Fresh W0.heap.size (P :: L)∧St W0 w ps (xB true P (xs.drop (0 * qO.size α)) (l.drop 0) :: cellsF B v xs :: Γ):=by
  obtain ⟨⟨a,cap,hc,_,h⟩,hfr⟩:=H.get i hf
  simp only [List.cons.injEq,and_true] at hc
  rcases h with ⟨hl,hF⟩ | ⟨b,o,F',vs,ha,hF,_,hr,hcl⟩
  · refine ⟨[],[],[],N.less qm qm,?_⟩
    subst hl
    exact (H.add (cellsF [] v []) (Or.inl rfl) (by simp [cellsF])).add _ ⟨by simp [reps],fun _=>jD.nil _⟩ (by simp [xB])
  · refine ⟨vs,[b],F',N.less (fun x hx=>by rw [hF];simp [hx]) (fun hn=>by rw [hF] at hn;exact (List.nodup_cons.1 hn).2),?_⟩
    have h1:=H.vZ i hf (cellsF [b] v vs) (Or.inr ⟨b,o,l.length,cap,by rw [hc,ha],rfl,hcl⟩) (fun x hx=>by have hx:x∈[b]:=hx;show x∈F;rw [hF];simp at hx;simp [hx])
    refine h1.vZ (i+1) hf (xB true F' (vs.drop (0 * qO.size α)) (l.drop 0)) ⟨?_,fun _=>(hfr rfl).sub fun x hx=>by rw [hF];simp [hx]⟩ fun x hx=>by have hx:x∈F' :=hx;show x∈F;rw [hF];simp [hx]
    rw [Nat.zero_mul];exact hr
theorem St.drain {α:Type} [qO α] [Inhabited α] (H:St W0 w ps Γ) (j:Nat) {B:yLN} {b o m c:Nat} {xs:List Value} (hx:Γ[j]? =some (cellsF B (.slice (some ⟨b,o,none⟩) m c) xs)) (i:Nat) {P:yLN} {l:List α} {k0:Nat}
    (hf:Γ[i]? =some (xB true P (xs.drop (k0 * qO.size α)) (l.drop k0))) (N:Fresh W0.heap.size (P :: L)) (hz:0 < qO.size α) (k:Nat) (h0:k0≤k) (hk:k < l.length):
    ∃ cs G P',vG w b (o+k * qO.size α) cs∧qO.rep w G cs (l[k]!)∧jD w G∧(∀ x∈G,x∈P)∧b∈B∧Fresh W0.heap.size (G :: P' :: L)∧(∀ x∈P',x∈P)∧reps w P' (xs.drop ((k+1) * qO.size α)) (l.drop (k+1))∧jD w P' :=by
  obtain ⟨d,rfl⟩:∃ d,k=k0+d:=⟨k - k0,by omega⟩
  obtain ⟨hr,hfr⟩:=H.get i hf
  obtain ⟨F1,Fk,F2,v1,cs,v2,hP,hv,hv1,hcs,hrep,_,h2⟩:=reps_get hr d (by rw [List.length_drop];omega)
  have hlen:=congrArg List.length hv
  simp only [List.length_append,List.length_drop] at hlen
  have e1:(k0+d+1) * qO.size α=k0 * qO.size α+(d * qO.size α+qO.size α):=by rw [Nat.add_mul,Nat.add_mul,Nat.one_mul];omega
  have e2:(k0+d) * qO.size α=k0 * qO.size α+d * qO.size α:=Nat.add_mul ..
  have hxs:xs.take (k0 * qO.size α)++v1++cs++v2=xs:=by rw [List.append_assoc,List.append_assoc,← List.append_assoc v1,← hv,List.take_append_drop]
  have hgl:(l.drop k0)[d]'(by rw [List.length_drop];omega)=l[k0+d]! :=by rw [List.getElem_drop,getElem!_pos l _ hk]
  rw [hgl] at hrep
  obtain ⟨m',c',hB,hcl⟩:∃ m' c' :Nat,B=[b]∧vG w b o xs:=by
    rcases H.get j hx with h | ⟨b',o',m',c',h1,h2',h3⟩
    · rw [h] at hlen;simp at hlen;omega
    · simp only [Value.slice.injEq,Option.some.injEq,Addr.mk.injEq,and_true] at h1
      obtain ⟨⟨rfl,rfl⟩,_⟩:=h1
      exact ⟨m',c',h2',h3⟩
  have hd:(l.drop k0).drop (d+1)=l.drop (k0+d+1):=by rw [List.drop_drop];congr 1
  rw [hd] at h2
  have hv2:xs.drop ((k0+d+1) * qO.size α)=v2:=by
    rw [e1,← List.drop_drop,hv,List.drop_append,List.drop_of_length_le (by simp only [List.length_append];omega),List.nil_append]
    simp only [List.length_append]
    rw [show d * qO.size α+qO.size α - (v1.length+cs.length)=0 by omega];rfl
  have hndP:P.Nodup:=N.nd P qm
  have hsub:∀ x∈Fk++F2,x∈P:=fun x hx=>by
    rw [hP,List.append_assoc];exact List.mem_append_right _ hx
  refine ⟨cs,Fk,F2,?_,hrep,(hfr rfl).sub fun x hx=>hsub x (by simp [hx]),fun x hx=>hsub x (by simp [hx]),by simp [hB],(N.less hsub fun hn=>?_).split,fun x hx=>hsub x (by simp [hx]),by rw [hv2];exact h2,(hfr rfl).sub fun x hx=>hsub x (by simp [hx])⟩
  · rw [← hxs] at hcl
    have:=cells_mid hcl
    rw [List.length_append,hv1,List.length_take_of_le qf,← e2] at this
    exact this
  · rw [hP,List.append_assoc] at hn;exact (List.nodup_append.1 hn).2.1

theorem St.drainList {α:Type} [qO α] (H:St W0 w ps Γ) (j:Nat) {B:yLN} {b o m c:Nat} {xs:List Value} (hx:Γ[j]? =some (cellsF B (.slice (some ⟨b,o,none⟩) m c) xs)) (i:Nat) {P:yLN} {l:List (List α)} {k0:Nat}
    (hf:Γ[i]? =some (xB true P (xs.drop (k0 * 1)) (l.drop k0))) (N:Fresh W0.heap.size (P :: L)) (iv:Int) (k:Nat) (hi:iv.toNat=k) (h0:k0≤k) (hk:k < l.length):
    ∃ (a:yOA) (c' :Nat) (G P' :yLN),Fresh W0.heap.size (G :: P' :: L)∧St W0 w ps (isF true G (.slice a (l[k]!).length c') (l[k]!) :: atF b (o+iv.toNat * 1) [.slice a (l[k]!).length c'] :: xB true P' (xs.drop ((k+1) * 1)) (l.drop (k+1)) :: Γ):=by
  subst hi
  obtain ⟨cs,G,P',hc,hr,hfr,hsub,hB,N',hs2,h2,hf2⟩:=St.drain (α:=List α) H j hx i hf N (show 0 < 1 by decide) iv.toNat h0 hk
  obtain ⟨a,c',rfl,hh⟩:=id hr
  have s1:=H.vZ i hf (xB true P' (xs.drop ((iv.toNat+1) * 1)) (l.drop (iv.toNat+1))) ⟨h2,fun _=>hf2⟩ hs2
  have s2:=s1.vZ (j+1) hx (atF b (o+iv.toNat * 1) [.slice a (l[iv.toNat]!).length c']) hc (fun x hx=>by have hx:x∈[b]:=hx;simp at hx;subst hx;exact hB)
  exact ⟨a,c',G,P',N',s2.vZ (i+2) hf (isF true G (.slice a (l[iv.toNat]!).length c') (l[iv.toNat]!)) ⟨hr,fun _=>hfr⟩ hsub⟩
theorem St.drain_StateD (H:St W0 w ps Γ) (j:Nat) {B:yLN} {b o m c:Nat} {xs:List Value} (hx:Γ[j]? =some (cellsF B (.slice (some ⟨b,o,none⟩) m c) xs)) (i:Nat) {P:yLN} {l:List qF} {k0:Nat}
    (hf:Γ[i]? =some (xB true P (xs.drop (k0 * 3)) (l.drop k0))) (N:Fresh W0.heap.size (P :: L)) (iv:Int) (k:Nat) (hi:iv.toNat=k) (h0:k0≤k) (hk:k < l.length):
    ∃ (aA:yOA) (cA:Nat) (FA:yLN) (aB:yOA) (cB:Nat) (FB:yLN) (aO:yOA) (cO:Nat) (FO P' :yLN),Fresh W0.heap.size (FA :: FB :: FO :: P' :: L)∧
      St W0 w ps (isF true FA (.slice aA ((l[k]!).qG.length) cA) ((l[k]!).qG) :: isF true FB (.slice aB ((l[k]!).qN.length) cB) ((l[k]!).qN) :: isF true FO (.slice aO ((l[k]!).qH.length) cO) ((l[k]!).qH) ::
        atF b (o+iv.toNat * 3) [.slice aA ((l[k]!).qG.length) cA,.slice aB ((l[k]!).qN.length) cB,.slice aO ((l[k]!).qH.length) cO] :: xB true P' (xs.drop ((k+1) * 3)) (l.drop (k+1)) :: Γ):=by
  subst hi
  obtain ⟨cs,G,P',hc,hr,hfr,hsub,hB,N',hs2,h2,hf2⟩:=St.drain (α:=qF) H j hx i hf N (show 0 < 3 by decide) iv.toNat h0 hk
  obtain ⟨vA,vB,vO,FA,FB,FO,rfl,hFF,hA,hBb,hO⟩:=id hr
  obtain ⟨aA,cA,rfl⟩:=slice_form hA
  obtain ⟨aB,cB,rfl⟩:=slice_form hBb
  obtain ⟨aO,cO,rfl⟩:=slice_form hO
  subst hFF
  have s1:=H.vZ i hf (xB true P' (xs.drop ((iv.toNat+1) * 3)) (l.drop (iv.toNat+1))) ⟨h2,fun _=>hf2⟩ hs2
  have s2:=s1.vZ (j+1) hx (atF b (o+iv.toNat * 3) [.slice aA _ cA,.slice aB _ cB,.slice aO _ cO]) hc (fun x hx=>by have hx:x∈[b]:=hx;simp at hx;subst hx;exact hB)
  have s3:=s2.vZ (i+2) hf (isF true FO _ ((l[iv.toNat]!).qH)) ⟨hO,fun _=>hfr.sub fun x hx=>by simp [hx]⟩ (fun x hx=>hsub x (by have hx:x∈FO:=hx;simp [hx]))
  have s4:=s3.vZ (i+3) hf (isF true FB _ ((l[iv.toNat]!).qN)) ⟨hBb,fun _=>hfr.sub fun x hx=>by simp [hx]⟩ (fun x hx=>hsub x (by have hx:x∈FB:=hx;simp [hx]))
  exact ⟨aA,cA,FA,aB,cB,FB,aO,cO,FO,P',N'.split.split,s4.vZ (i+4) hf (isF true FA _ ((l[iv.toNat]!).qG)) ⟨hA,fun _=>hfr.sub fun x hx=>by simp [hx]⟩ (fun x hx=>hsub x (by have hx:x∈FA:=hx;simp [hx]))⟩
end
end
section
open Go.RowKit Go.Shelf Go.Lib Go.Sort
section
variable {W0 w : World} {ps : List Prv} {Γ : List Fact}
theorem revRow {P:Program} {ρ:Ren} (L:SlLaysE.n35 P ρ) (H:St W0 w ps Γ) (k:Nat) {a:yOA} {c:Nat} {e:TypeId} {nn:Nat} {xs:List Value} (hp:ps[k]? =some (.row (.slice a nn c) e 1 nn xs)) (j:Nat) {fr:Bool} {F:yLN} {l:yLL} (hf:Γ[j]? =some (xB fr F xs l)):
    Calls P (ρ.f 35) #[.slice a nn c] w fun e' w' =>∃ v,e' =.returned v∧∃ F',v=.tuple #[]∧F'.Perm F∧St W0 w' (ps.set k (.row (.slice a nn c) e 1 nn xs.reverse)) (xB fr F' xs.reverse l.reverse :: Γ):=by
  have ho:=(H.has _ (List.mem_of_getElem? hp):w.ownsRow W0.heap.size e 1 _ nn xs)
  obtain ⟨hr,hfr⟩:=H.get j hf
  have hxl:xs.length=l.length:=by have:=X7 hr;simpa [qO.size] using this
  have hnn:nn=l.length:=by have:=ho.1;omega
  subst hnn
  by_cases h0:l.length=0
  · obtain rfl:=List.eq_nil_of_length_eq_zero h0
    obtain rfl:=List.eq_nil_of_length_eq_zero (hxl.trans h0)
    refine (AnyE.slices_Reverse_empty L a c w).mono fun e' w' ⟨he,hw⟩=>⟨_,he,F,rfl,.refl _,?_⟩
    subst hw
    have hs:ps.set k (.row (.slice a ([]:yLL).length c) e 1 ([]:yLL).length ([]:List Value).reverse)=ps:=by
      obtain ⟨hk,he⟩:=List.getElem?_eq_some_iff.1 hp
      rw [List.reverse_nil,← he,List.set_getElem_self]
    rw [hs]
    exact H.vZ j hf _ ⟨hr,hfr⟩ fun _ h=>h
  obtain ⟨hl,h | ⟨b,cap,cur,hv,hB,hg,hn,hm,hcs,ht⟩⟩:=ho
  · exact absurd h.2 h0
  simp only [Value.slice.injEq] at hv
  obtain ⟨rfl,_,rfl⟩:=hv
  have hF:=(H.facts _ (List.mem_of_getElem? hf)).2
  have hbF:∀ x∈F,x≠b:=fun x hx e' =>(hF x hx).2 k (by simp [jJ,hp,Prv.blk,Value.ownBlock,e'])
  let enc:Nat→Value:=fun i=>xs[i % l.length]!
  have hmod:∀ i,i % l.length < l.length:=fun i=>Nat.mod_lt _ qf
  have hO:OneCell enc:=fun i=>by
    have hm' :=reps_cells hr (xs[i % l.length]!) (by rw [getElem!_pos xs _ (by rw [hxl];exact hmod i)];exact List.getElem_mem _)
    exact hm'
  have hcx:∀ i,i < l.length→cur[i]? =some (enc i):=fun i hi=>by
    have h1:xs[i]? =some (enc i):=by
      show xs[i]? =some (xs[i % l.length]!)
      rw [Nat.mod_eq_of_lt hi,getElem!_pos xs i qf]
      exact List.getElem?_eq_getElem qf
    rw [← ht,List.getElem?_take,if_pos qf] at h1
    simpa using h1
  have hdi:∀ i,i < l.length→(List.range l.length).toArray[i]! =i:=fun i hi=>by simp [hi]
  have hH:Holds enc w b 0 (List.range l.length).toArray:=fun i hi=>by
    have hi' :i < l.length:=by simpa using hi
    rw [hdi i hi',Nat.zero_add]
    constructor
    · rw [World.cell?,hg];exact hcx i hi'
    · rw [World.frozen?,hg];simp
  have hc:=AnyE.slices_Reverse L enc hO b 0 c (List.range l.length) w hH (by rw [List.length_range];have:c≤9223372036854775807:=hm;omega)
  rw [List.length_range] at hc
  refine hc.mono fun e' w' ⟨he,n,hw⟩=>⟨_,he,?_⟩
  replace hw:w' =sortWorld enc w b 0 n (List.range l.length).reverse.toArray #[]:=by rw [hw];unfold sortWorld;rw [grow_empty]
  have hz:(xs.zip l).Perm (xs.zip l).reverse:=(List.reverse_perm _).symm
  have hr' :reps w F ((xs.zip l).map Prod.fst) ((xs.zip l).map Prod.snd):=by rw [zip_fst hxl,zip_snd hxl];exact hr
  obtain ⟨F',hF',hr2⟩:=reps_perm rfl hz hr'
  rw [List.map_reverse,List.map_reverse,zip_fst hxl,zip_snd hxl] at hr2
  refine ⟨F',rfl,hF',?_⟩
  subst hw
  generalize hd:(List.range l.length).reverse.toArray=d'
  have hd' :d'.size=l.length:=by rw [← hd];simp
  have hdq:∀ q,q < l.length→d'[q]! =l.length - 1 - q:=fun q hq=>by
    rw [getElem!_pos d' q qf]
    subst hd
    simp
  have hcells:∀ q,q < l.length→(putCells enc 0 d' cur)[q]? =some (xs[l.length - 1 - q]!):=fun q hq=>by
    unfold putCells
    rw [Array.getElem?_mapIdx]
    have hcq:=hcx q hq
    rw [hcq]
    simp only [Option.map_some,Nat.zero_le,true_and,Nat.zero_add,hd',if_pos hq,Nat.sub_zero]
    show some (xs[d'[q]! % l.length]!)=_
    rw [hdq q hq,Nat.mod_eq_of_lt qf]
  have hown:(sortWorld enc w b 0 n d' #[]).ownsRow W0.heap.size e 1 (.slice (some ⟨b,0,none⟩) l.length c) l.length xs.reverse:=by
    refine ⟨by simp [hxl],Or.inr ⟨b,c,putCells enc 0 d' cur,rfl,hB,sw_row hg,hn,hm,by unfold putCells;rw [Array.size_mapIdx];exact hcs,?_⟩⟩
    rw [Nat.mul_one]
    refine List.ext_getElem? fun q=>?_
    rw [List.getElem?_take]
    split
    · next hq=>
      rw [Array.getElem?_toList,hcells q hq,List.getElem?_reverse qf,hxl,getElem!_pos xs _ qf]
      exact (List.getElem?_eq_getElem qf).symm
    · next hq=>rw [List.getElem?_eq_none qy]
  have hsize:w.heap.size≤(sortWorld enc w b 0 n d' #[]).heap.size:=by
    unfold sortWorld putRow mapBlock grow
    show _≤((Sort.ahead w n).heap.modify b _++#[]).size
    rw [Array.size_append,Array.size_modify]
    exact Nat.le_add_right _ _
  have H1:=H.change k hp (w' :=sortWorld enc w b 0 n d' #[]) (p' :=.row (.slice (some ⟨b,0,none⟩) l.length c) e 1 l.length xs.reverse) rfl rfl rfl hsize (fun i hi hne=>sw_block hi (fun e2=>hne (by subst e2;rfl))) hown (Or.inl rfl)
  refine H1.add _ ⟨?_,fun e2 x hx=>?_⟩ fun x hx=>?_
  · exact reps_stay hr2 fun z hz=>sw_block (hF z (hF'.subset hz)).1 (hbF z (hF'.subset hz))
  · have h2:=hfr e2 x (hF'.subset hx)
    obtain ⟨o1,o2,ho⟩:=h2
    exact ⟨o1,o2,(sw_block (hF x (hF'.subset hx)).1 (hbF x (hF'.subset hx))).trans ho⟩
  · refine ⟨Nat.lt_of_lt_of_le (hF x (hF'.subset hx)).1 hsize,fun i hi=>?_⟩
    have h3:=(hF x (hF'.subset hx)).2
    by_cases e3:i=k
    · subst e3
      have:(ps.set i (Prv.row (.slice (some ⟨b,0,none⟩) l.length c) e 1 l.length xs.reverse))[i]? =some (Prv.row (.slice (some ⟨b,0,none⟩) l.length c) e 1 l.length xs.reverse):=set_at hp
      simp only [jJ,this,Option.bind_some,Prv.blk,Value.ownBlock,Option.some.injEq] at hi
      exact hbF x (hF'.subset hx) hi.symm
    · have:jJ (ps.set k (Prv.row (.slice (some ⟨b,0,none⟩) l.length c) e 1 l.length xs.reverse)) i=jJ ps i:=by unfold jJ;rw [List.getElem?_set_ne (Ne.symm e3)]
      rw [this] at hi
      exact h3 i hi
end
end
section
open Go.Proofs.Tryz
open Go.RowKit
set_option linter.unusedVariables false
set_option linter.unusedSimpArgs false
set_option maxRecDepth 100000
set_option maxHeartbeats 4000000
variable {qI qQ xf xA qR : Nat}
def revL_ren:Go.Shelf.Ren:=⟨fun | 35=>118 | n=>n,fun | 22=>29 | 23=>24 | 3=>3 | 4=>4 | 0=>0 | n=>n,fun | n=>n⟩
theorem revL:Go.Proofs.SlLaysE.n35 Tryz.prog revL_ren:={
  mixed:=by kernel_rfl
  f35:=⟨Tryz.f118.name,by decide,Tryz.func118.trans (congrArg some (by kernel_rfl))⟩
  t0:=Tryz.underlying0
  a0:=Tryz.isAgg0
  z0:=Tryz.sizeOf0
  v0:=Tryz.zeroValue0
  t3:=Tryz.underlying3
  a3:=Tryz.isAgg3
  z3:=Tryz.sizeOf3
  v3:=Tryz.zeroValue3
  t4:=Tryz.underlying4
  a4:=Tryz.isAgg4
  z4:=Tryz.sizeOf4
  v4:=Tryz.zeroValue4
  t22:=Tryz.underlying29
  a22:=Tryz.isAgg29
  z22:=Tryz.sizeOf29
  v22:=Tryz.zeroValue29
  a23:=Tryz.isAgg24
  z23:=Tryz.sizeOf24 }

theorem path_ok (w:World) (s:qE) (g:GraphD) (z:Int) {qJ:yOA} {xu:yLN} {qV:yOA} {zh:yLN} {agStates:yOA} {cgStates:Nat} {FgStates:yLN} {agNext:yOA} {cgNext:Nat} {FgNext:yLN} (qX:qO.rep w xu [.slice qJ s.qA.length qI] s.qA) (xn:qO.rep w zh [.slice qV s.qB.length qQ] s.qB) (hgStates:qO.rep w FgStates [.slice agStates g.qK.length cgStates] g.qK) (hgNext:qO.rep w FgNext [.slice agNext g.fNext.length cgNext] g.fNext) (p0:vK s) (p1:GrOk g.qK g.fNext) (p2:GrNx s g.qK g.fNext) (p3:g.fNext.length=g.qK.length) (p4:0≤(z:Int)∧(z:Int).toNat < g.qK.length) (p5:∀ u∈g.qK,xX s u) (p6:g.qK.length≤300):Calls Tryz.prog 69 #[.agg #[yI s.xP,.slice qJ s.qA.length qI,.slice qV s.qB.length qQ],.agg #[.slice agStates g.qK.length cgStates,.slice agNext g.fNext.length cgNext],yI z] w (Ret (fun v w' =>∃ (ra0:yOA) (rc0:Nat) (rF0:yLN),v=.tuple #[.slice ra0 ((wayL s g.qK g.fNext (z:Int).toNat).length) rc0,yI 0]∧Fresh w.heap.size [rF0]∧St w w' [] [sF true rF0 ra0 rc0 (wayL s g.qK g.fNext (z:Int).toNat)]) w):=by
 refine en func69 ntmps69 ?_
 have H:=((((St.start w).arg hgNext).arg hgStates).arg xn).arg qX
 have zN:=qM qX
 have vW:=qM xn
 have nhgStates:=qM hgStates
 have nhgNext:=qM hgNext
 clear qX xn hgStates hgNext
 have N:=Fresh.nil w.heap.size
 obtain ⟨p7,p8⟩:=p4
 refine zcr (sw (zS H (yS s qJ qI qV qQ) fun b1 w2 H=>sw (zS H [.slice agStates g.qK.length cgStates,.slice agNext g.fNext.length cgNext] fun b3 w4 H=>sq 1 (sp (yI 0) (zjc (oF rfl (oL rfl (H.cell 0 rfl rfl) (oN rfl (sw (vM H underlying24 ti2 g.qK.length rfl rfl qf qf qf fun b5 w6 H=>sq 1 (zjcc (oF rfl (oL rfl (H.cell 1 rfl rfl) (oN rfl (sw (o_sub g.fNext.length 1 rfl rfl qf ?_))))))))))))))))
 refine sq 1 (zjn (qY ?_))
 refine zq ((fun Z0 Z1 Z2 Z3 Z4 Z5=>fun m' ρ w7=>∃ (xM:Env) (i:Int) (from_:yLI),ρ=upd (upd (upd (upd (upd xM 2 (yI z)) 3 (pp b1 0)) 4 (pp b3 0)) 8 (.slice (aa b5 0) g.qK.length g.qK.length)) 9 (yI i)∧(FGe g.fNext from_ (i+1).toNat)∧(from_.length=g.qK.length)∧(-1≤i∧i < g.fNext.length)∧m' =((i:Int)+1).toNat∧Fresh w.heap.size []∧St w w7 [rr (aa b5 0) g.qK.length g.qK.length 2 1 (from_.map (Value.int .i64)),Z0,Z1] [Z2,Z3,Z4,Z5]) _ _ _ _ _ _) ((((g.fNext.length - 1):Int)+1).toNat) ⟨_,g.fNext.length - 1,(List.replicate g.qK.length (0:Int)),uE5,(by exact FGe.start qf),qm,qf,rfl,N,H⟩ ?_
 clear H N
 rintro m' ρ w8 ⟨xM,i,from_,rfl,f1,f2,f3,rfl,N,H⟩
 have hn_from:=H.jm 0 rfl
 refine zcc (sp (yI i) (sp (.bool (decide ((i:Int)≥0))) (zjn (cD rfl (fun h9=>?_) (fun h9=>?_)))))
 ·skip
  refine qW (t_n (xQ (qY (zcr (oF rfl (oL rfl (H.cell 1 rfl rfl) (sp (yI i) ?_)))))))
  obtain ⟨b10,o11,rfl⟩:=H.addr 3 rfl qf
  obtain ⟨ae13,ce13,Fe13,H⟩:=H.vX 3 rfl i i.toNat qf qf qf
  refine oI rfl rfl (oL rfl (H.x8 1 rfl 0 rfl) (oN rfl (sp (yI 0) (zjn (qY ?_)))))
  refine zq ((fun Z0 Z1 Z2 Z3 Z4 Z5 Z6 Z7=>fun m' ρ w14=>∃ (xM:Env) (k:Nat) (from__1:yLI),ρ=upd (upd (upd (upd (upd (upd (upd (upd xM 2 (yI z)) 3 (pp b1 0)) 4 (pp b3 0)) 8 (.slice (aa b5 0) g.qK.length g.qK.length)) 9 (yI i)) 36 (.slice ae13 ((g.fNext[i.toNat]!).length) ce13)) 37 (yI ((g.fNext[i.toNat]!).length))) 38 (yI k)∧((k:Int)≤((g.fNext[i.toNat]!).length))∧(FMid g.fNext from__1 i.toNat k)∧(from__1.length=g.qK.length)∧m' =(((g.fNext[i.toNat]!).length) - (k:Int)).toNat∧Fresh w.heap.size []∧St w w14 [rr (aa b5 0) g.qK.length g.qK.length 2 1 (from__1.map (Value.int .i64)),Z0,Z1] [Z2,Z3,Z4,Z5,Z6,Z7]) _ _ _ _ _ _ _ _) ((((g.fNext[i.toNat]!).length) - (0:Int)).toNat) ⟨_,0,from_,uE8,qf,(by exact FMid.start (by rw [show i.toNat+1=(i+1).toNat by omega];exact f1)),qf,rfl,N,H⟩ ?_
  clear H N
  rintro m' ρ w15 ⟨xM,k,from__1,rfl,i0,f4,f5,rfl,N,H⟩
  have hn_from:=H.jm 0 rfl
  refine zcr (sq 1 (zjn (xQ (cD rfl (fun h16=>?_) (fun h16=>?_)))))
  ·skip
   have rw1:=p1.rows i.toNat qf k qf
   have rl:=p1.lens i.toNat qf
   refine qW (t_n (xQ (qY (zcr ?_))))
   obtain ⟨b17,o18,rfl⟩:=H.addr 0 rfl qf
   refine oI rfl rfl (oL rfl (H.zH 0 rfl k qf) (sq 1 (zjn (xU (sq 2 (sp (yI i) (oI rfl rfl (sw (XE H 0 rfl i sizeOf2 rfl rfl (i:=(((g.fNext[i.toNat]!)[k]!).toNat)) qf qf fun w20 H=>xY (b_n (t_n (xU (sw (zA k 1 rfl rfl qf (sq 1 (xY (xe (m' :=(((g.fNext[i.toNat]!).length) - ((k+1):Int)).toNat) qf ⟨_,k+1,_,uE8,?_,?_,?_,rfl,N,H⟩)))))))))))))))))
   · omega
   · have h:=FMid.step f4 (c:=_) rfl;rwa [show ((i.toNat:Nat):Int)=i by omega] at h
   · simp;omega
  refine c_exit (t_x (t_x (b_x (b_n (t_n (xU (sp (yI i) (sw (o_sub i 1 rfl rfl qf (sq 1 (xY (xe (m' :=(((i - 1):Int)+1).toNat) qf ⟨_,_,_,uE5,?_,?_,?_,rfl,N,H.pick [0,1,2] [2,3,4,5]⟩))))))))))))
  · rw [show (i - 1+1).toNat=i.toNat by omega];exact f4.fin qf qf
  · omega
  · omega
 refine zx4 (zcr (sw (vU H underlying29 ti24 fun b21 w22 H=>sq 1 (zjn (xQ (qY ?_))))))
 replace H:=H.boxRow 0 rfl 1 0 rfl qj
 replace H:=H.zW (α:=yLI)
 refine zq ((fun Z0 Z1 Z2 Z3 Z4 Z5 Z6=>fun m' ρ w23=>∃ (xM:Env) (to:Int) (yf:yOA) (ja:Nat) (jT:Nat) (out:yLL) (Xn:List Value) (y7:yLN) (q:Nat),ρ=upd (upd (upd (upd (upd xM 2 (yI to)) 3 (pp b1 0)) 4 (pp b3 0)) 8 (.slice (aa b5 0) g.qK.length g.qK.length)) 12 (.slice yf ja jT)∧to=(((itF g.fNext z.toNat q):Nat):Int)∧out=(backTo s g.qK g.fNext z.toNat q)∧(∀ x,x < q→(itF g.fNext z.toNat x)≠0)∧m' =(itF g.fNext z.toNat q)∧Fresh w.heap.size [y7]∧St w w23 [rr yf ja jT 24 1 Xn,Z0,Z1,Z2] [xB true y7 Xn out,Z3,Z4,Z5,Z6]) _ _ _ _ _ _ _) ((itF g.fNext z.toNat 0)) ⟨_,z,(aa b21 0),0,0,([]:yLL),[],[],0,uE5,(by exact (Int.toNat_of_nonneg p7).symm),(by rfl),(by exact fun x hx=>by omega),rfl,N.emp,H⟩ ?_
 clear H N
 rintro m' ρ w24 ⟨xM,to,yf,ja,jT,out,Xn,y7,q,rfl,rfl,rfl,kz,rfl,N,H⟩
 have hn_out:=H.xK (α:=yLI) 0 rfl 0 rfl qj
 have ki:=it_in p1 p8 kz
 have bl:=back_len (s:=s) (S:=g.qK) (R:=g.fNext) (j:=z.toNat) q
 refine zcc (sq 1 (sp (.bool (((((itF g.fNext z.toNat q):Nat):Int):Int) != 0)) (zjn (xE (((((itF g.fNext z.toNat q):Nat):Int):Int) != 0) rfl (fun h25=>?_) (fun h25=>?_)))))
 ·skip
  replace h25:=bne_iff_ne.1 h25
  have q0:(itF g.fNext z.toNat q)≠0:=by omega
  have f10:FGe g.fNext from_ 0:=by rw [show (i+1).toNat=0 by omega] at f1;exact f1
  have fe:from_[((((itF g.fNext z.toNat q):Nat):Int)).toNat]! =(((itF g.fNext z.toNat (q+1)):Nat):Int):=f10.at' p1 (j:=(itF g.fNext z.toNat q)) qf ki.1 f2
  have fk:(itF g.fNext z.toNat (q+1)) < (itF g.fNext z.toNat q):=(frm_ok p1 (j:=(itF g.fNext z.toNat q)) qf ki.1).2
  have fa:((from_[((((itF g.fNext z.toNat q):Nat):Int)).toNat]!).toNat)=(itF g.fNext z.toNat (q+1)):=by omega
  have wb:=way_by p1 p2 (j:=(itF g.fNext z.toNat q)) qf ki.1
  rw [show frm g.fNext (itF g.fNext z.toNat q)=((from_[((((itF g.fNext z.toNat q):Nat):Int)).toNat]!).toNat) from fa.symm] at wb
  have ks1:=p5 (g.qK[((from_[((((itF g.fNext z.toNat q):Nat):Int)).toNat]!).toNat)]!) (mem_at (l:=g.qK) (k:=((from_[((((itF g.fNext z.toNat q):Nat):Int)).toNat]!).toNat)) qf rfl)
  have ln:=cho_len s (g.qK[((from_[((((itF g.fNext z.toNat q):Nat):Int)).toNat]!).toNat)]!)
  refine qW (t_n (qY (xQ ?_)))
  obtain ⟨b26,o27,rfl⟩:=H.addr 3 rfl qf
  refine c_cut (fun ρ w39=>∃ (xM:Env) (b29:Nat) (a30:yOA) (c31:Nat) (a32:yOA) (c33:Nat) (a34:yOA) (c35:Nat) (F36:yLN) (F37:yLN) (F38:yLN),ρ=upd (upd (upd (upd (upd (upd xM 2 (yI (((itF g.fNext z.toNat q):Nat):Int))) 3 (pp b1 0)) 4 (pp b3 0)) 8 (.slice (aa b5 0) g.qK.length g.qK.length)) 12 (.slice yf ja jT)) 13 (pp b29 0)∧Fresh w.heap.size [y7]∧St w w39 [.box b29 [.slice a30 (((g.qK[(from_[(((itF g.fNext z.toNat q):Nat):Int).toNat]!).toNat]!).qG).length) c31,.slice a32 (((g.qK[(from_[(((itF g.fNext z.toNat q):Nat):Int).toNat]!).toNat]!).qN).length) c33,.slice a34 (((g.qK[(from_[(((itF g.fNext z.toNat q):Nat):Int).toNat]!).toNat]!).qH).length) c35] 31,rr yf ja jT 24 1 Xn,rr (aa b5 0) g.qK.length g.qK.length 2 1 (from_.map (Value.int .i64)),.box b3 [.slice (aa b26 o27) g.qK.length cgStates,.slice agNext g.fNext.length cgNext] 46,.box b1 (yS s qJ qI qV qQ) 27] [sF false F36 a30 c31 ((g.qK[(from_[(((itF g.fNext z.toNat q):Nat):Int).toNat]!).toNat]!).qG),sF false F37 a32 c33 ((g.qK[(from_[(((itF g.fNext z.toNat q):Nat):Int).toNat]!).toNat]!).qN),sF false F38 a34 c35 ((g.qK[(from_[(((itF g.fNext z.toNat q):Nat):Int).toNat]!).toNat]!).qH),atF b26 (o27+(from_[(((itF g.fNext z.toNat q):Nat):Int).toNat]! :Int).toNat * 3) [.slice a30 (((g.qK[(from_[(((itF g.fNext z.toNat q):Nat):Int).toNat]!).toNat]!).qG).length) c31,.slice a32 (((g.qK[(from_[(((itF g.fNext z.toNat q):Nat):Int).toNat]!).toNat]!).qN).length) c33,.slice a34 (((g.qK[(from_[(((itF g.fNext z.toNat q):Nat):Int).toNat]!).toNat]!).qH).length) c35],xB true y7 Xn (backTo s g.qK g.fNext z.toNat q),sF false xu qJ qI s.qA,sF false zh qV qQ s.qB,sF false FgStates (aa b26 o27) cgStates g.qK,sF false FgNext agNext cgNext g.fNext]) ?_ ?_
  ·skip
   refine jf rfl H fun H=>tF 0 rfl rfl H ?_
   refine tL 1 rfl rfl (fun _ h=>h.cell 2 rfl rfl) H ?_
   refine rtl 2 H ?_
   refine rtl 3 H ?_
   refine tI 4 rfl rfl rfl H ?_
   refine tL 5 rfl rfl (fun _ h=>h.rowInt 1 rfl (iv:=(((itF g.fNext z.toNat q):Nat):Int)) (i:=((((itF g.fNext z.toNat q):Nat):Int).toNat)) qf qf) H ?_
   obtain ⟨ae41Alive,ce41Alive,Fe41Alive,ae41Bags,ce41Bags,Fe41Bags,ae41Around,ce41Around,Fe41Around,H⟩:=H.Vm 3 rfl (from_[(((itF g.fNext z.toNat q):Nat):Int).toNat]!) ((from_[(((itF g.fNext z.toNat q):Nat):Int).toNat]!).toNat) qf qf qf
   refine tI 6 rfl rfl rfl (H.pick [0,1,2,3] [4,5,6,7,8]) ?_
   refine zY [7,8] qh qm (jd rfl ?_ (jd rfl ?_ zZ))
   ·skip
    refine xI [.slice ae41Alive (((g.qK[(from_[(((itF g.fNext z.toNat q):Nat):Int).toNat]!).toNat]!).qG).length) ce41Alive,.slice ae41Bags (((g.qK[(from_[(((itF g.fNext z.toNat q):Nat):Int).toNat]!).toNat]!).qN).length) ce41Bags,.slice ae41Around (((g.qK[(from_[(((itF g.fNext z.toNat q):Nat):Int).toNat]!).toNat]!).qH).length) ce41Around] isAgg31 sizeOf31 rfl (qC (H.get 3 rfl) 0 3) (⟨H.pick [0,1,2,3] [4,5,6,7,8],(ro 8 rfl (xx H ti31 [yN,yN,yN] fun b42 w43 H=>⟨H.pick [1,2,3,4] [4,5,6,7,8],(ro 9 rfl ?_)⟩))⟩)
    refine xG H 0 [.slice ae41Alive (((g.qK[(from_[(((itF g.fNext z.toNat q):Nat):Int).toNat]!).toNat]!).qG).length) ce41Alive,.slice ae41Bags (((g.qK[(from_[(((itF g.fNext z.toNat q):Nat):Int).toNat]!).toNat]!).qN).length) ce41Bags,.slice ae41Around (((g.qK[(from_[(((itF g.fNext z.toNat q):Nat):Int).toNat]!).toNat]!).qH).length) ce41Around] sizeOf31 fun w44 H=>⟨H.pick [1,2,3,4] [4,5,6,7,8],(xq qh ((meet ⟨_,b42,ae41Alive,ce41Alive,ae41Bags,ce41Bags,ae41Around,ce41Around,Fe41Alive,Fe41Bags,Fe41Around,uE6,N,H⟩)))⟩
   refine xx H ti31 [yN,yN,yN] fun b45 w46 H=>⟨H.pick [1,2,3,4] [4,5,6,7,8],(ro 7 rfl (xI [.slice ae41Alive (((g.qK[(from_[(((itF g.fNext z.toNat q):Nat):Int).toNat]!).toNat]!).qG).length) ce41Alive,.slice ae41Bags (((g.qK[(from_[(((itF g.fNext z.toNat q):Nat):Int).toNat]!).toNat]!).qN).length) ce41Bags,.slice ae41Around (((g.qK[(from_[(((itF g.fNext z.toNat q):Nat):Int).toNat]!).toNat]!).qH).length) ce41Around] isAgg31 sizeOf31 rfl (qC (H.get 3 rfl) 0 3) (⟨H.pick [1,2,3,4] [4,5,6,7,8],(ro 9 rfl ?_)⟩)))⟩
   refine xG H 0 [.slice ae41Alive (((g.qK[(from_[(((itF g.fNext z.toNat q):Nat):Int).toNat]!).toNat]!).qG).length) ce41Alive,.slice ae41Bags (((g.qK[(from_[(((itF g.fNext z.toNat q):Nat):Int).toNat]!).toNat]!).qN).length) ce41Bags,.slice ae41Around (((g.qK[(from_[(((itF g.fNext z.toNat q):Nat):Int).toNat]!).toNat]!).qH).length) ce41Around] sizeOf31 fun w47 H=>⟨H.pick [1,2,3,4] [4,5,6,7,8],(xq qh ((meet ⟨_,b45,ae41Alive,ce41Alive,ae41Bags,ce41Bags,ae41Around,ce41Around,Fe41Alive,Fe41Bags,Fe41Around,uE6,N,H⟩)))⟩
  clear H N
  rintro ρ w48 ⟨xM,b29,a30,c31,a32,c33,a34,c35,F36,F37,F38,rfl,N,H⟩
  refine t_n (zcr (sw (xI (yS s qJ qI qV qQ) isAgg27 sizeOf27 rfl (qC (H.cells 4 rfl) 0 3) (sw (xI [.slice a30 (((g.qK[(from_[(((itF g.fNext z.toNat q):Nat):Int).toNat]!).toNat]!).qG).length) c31,.slice a32 (((g.qK[(from_[(((itF g.fNext z.toNat q):Nat):Int).toNat]!).toNat]!).qN).length) c33,.slice a34 (((g.qK[(from_[(((itF g.fNext z.toNat q):Nat):Int).toNat]!).toNat]!).qH).length) c35] isAgg31 sizeOf31 rfl (qC (H.cells 0 rfl) 0 3) ?_)))))
  have sz52:=H.base.size
  have lt53:=H.ltN (L:=[y7]) [4]
  refine sw (oc (choices_ok _ s (g.qK[(from_[(((itF g.fNext z.toNat q):Nat):Int).toNat]!).toNat]!) (H.get 5 rfl).1 (H.get 6 rfl).1 (H.get 0 rfl).1 (H.get 1 rfl).1 (H.get 2 rfl).1 qg qg) ?_)
  rintro _ w50 ⟨ra49a,rn49a,rc49a,rx49a,rF49a,rfl,M,K⟩ _
  replace N:=N.merge sz52 lt53 M
  replace H:=H.merge K M
  obtain rfl:=H.xK (α:=yLI) 0 rfl 0 rfl qj
  refine sq 5 ?_
  refine zjcc (sq 1 (sp (.bool (((zy s (g.qK[(from_[(((itF g.fNext z.toNat q):Nat):Int).toNat]!).toNat]!)).2:Int) != 0)) (zjn (xE (((zy s (g.qK[(from_[(((itF g.fNext z.toNat q):Nat):Int).toNat]!).toNat]!)).2:Int) != 0) rfl (fun h55=>?_) (fun h55=>?_)))))
  ·skip
   replace h55:=bne_iff_ne.1 h55
   exact absurd wb.1 ql
  replace h55:=xm h55
  refine qW (t_n (zcc (sq 1 (oN rfl (sp (yI 0) (zjn (qY ?_)))))))
  have H0:=H
  obtain ⟨G56,hg58,hn57,H⟩:=H.yj (α:=yLI) 0 rfl 0 rfl qj
  replace N:Fresh w.heap.size [G56,y7]:=Fresh.ice N H0 0 hg58.1 hg58.2 (H0.vS [5])
  clear H0
  obtain ⟨xs59,B60,P61,N,H⟩:=H.pool (α:=yLI) 0 rfl N
  refine zq ((fun Z0 Z1 Z2 Z3 Z4 Z5 Z6 Z7 Z8 Z9 Z10 Z11 Z12 Z13=>fun m' ρ w62=>∃ (xM:Env) (a_out_1:yOA) (QV:Nat) (c_out_1:Nat) (out_1:yLL) (x_out_1:List Value) (QL:yLN) (k:Nat) (P_k:yLN),ρ=upd (upd (upd (upd (upd (upd (upd (upd (upd xM 2 (yI (((itF g.fNext z.toNat q):Nat):Int))) 3 (pp b1 0)) 4 (pp b3 0)) 8 (.slice (aa b5 0) g.qK.length g.qK.length)) 12 (.slice a_out_1 QV c_out_1)) 13 (pp b29 0)) 67 (.slice ra49a (((zy s (g.qK[(from_[(((itF g.fNext z.toNat q):Nat):Int).toNat]!).toNat]!)).1).length) rc49a)) 68 (yI (((zy s (g.qK[(from_[(((itF g.fNext z.toNat q):Nat):Int).toNat]!).toNat]!)).1).length))) 69 (yI k)∧out_1=(backTo s g.qK g.fNext z.toNat q)∧((k:Int)≤(((zy s (g.qK[(from_[(((itF g.fNext z.toNat q):Nat):Int).toNat]!).toNat]!)).1).length))∧(∀ j,j < k→¬ zF s (g.qK[((from_[((((itF g.fNext z.toNat q):Nat):Int)).toNat]!).toNat)]!) ((zy s (g.qK[((from_[((((itF g.fNext z.toNat q):Nat):Int)).toNat]!).toNat)]!)).1[j]!)=(g.qK[(itF g.fNext z.toNat q)]!,0))∧m' =((((zy s (g.qK[(from_[(((itF g.fNext z.toNat q):Nat):Int).toNat]!).toNat]!)).1).length) - (k:Int)).toNat∧Fresh w.heap.size [QL,P_k]∧St w w62 [Z0,rr a_out_1 QV c_out_1 24 1 x_out_1,Z1,Z2,Z3] [xB true P_k (xs59.drop (k * 1)) (((zy s (g.qK[(from_[(((itF g.fNext z.toNat q):Nat):Int).toNat]!).toNat]!)).1).drop k),Z4,Z5,Z6,Z7,Z8,Z9,xB true QL x_out_1 out_1,Z10,Z11,Z12,Z13]) _ _ _ _ _ _ _ _ _ _ _ _ _ _) (((((zy s (g.qK[(from_[(((itF g.fNext z.toNat q):Nat):Int).toNat]!).toNat]!)).1).length) - (0:Int)).toNat) ⟨_,yf,ja,jT,(backTo s g.qK g.fNext z.toNat q),Xn,y7,0,P61,uE9,(by rfl),qf,qx,rfl,(N.pick [1,0]),H.pick [1,2,3,4,5] [0,1,2,4,5,6,7,8,9,10,11,12]⟩ ?_
  clear H N
  rintro m' ρ w63 ⟨xM,a_out_1,QV,c_out_1,out_1,x_out_1,QL,k,P_k,rfl,rfl,i0,b1,rfl,N,H⟩
  have hn_out:=H.xK (α:=yLI) 1 rfl 7 rfl qj
  refine zcr (sq 1 (zjn (xQ (cD rfl (fun h64=>?_) (fun h64=>?_)))))
  ·skip
   refine qW (t_n (xQ (qY (zcr ?_))))
   obtain ⟨b65,o66,rfl⟩:=H.addr 2 rfl qf
   obtain ⟨ae68,ce68,Fe68,P69,N,H⟩:=H.drainList 1 rfl 0 rfl ((N.pick [1,0]):Fresh w.heap.size [P_k,QL]) k k qf qf qf
   refine oI rfl rfl (oL rfl (H.x8 1 rfl 0 rfl) (sq 1 (zjc (sw (xI (yS s qJ qI qV qQ) isAgg27 sizeOf27 rfl (qC (H.cells 4 rfl) 0 3) ?_)))))
   refine sw (xI [.slice a30 (((g.qK[(from_[(((itF g.fNext z.toNat q):Nat):Int).toNat]!).toNat]!).qG).length) c31,.slice a32 (((g.qK[(from_[(((itF g.fNext z.toNat q):Nat):Int).toNat]!).toNat]!).qN).length) c33,.slice a34 (((g.qK[(from_[(((itF g.fNext z.toNat q):Nat):Int).toNat]!).toNat]!).qH).length) c35] isAgg31 sizeOf31 rfl (qC (H.cells 0 rfl) 0 3) (sq 1 ?_))
   obtain ⟨cc1,cc2⟩:=cho_ok (k:=k) p0 ks1 qf
   have sz73:=H.base.size
   have lt74:=H.ltN (L:=[Fe68,P69,QL]) [0,2,10]
   refine sw (oc (step_ok _ s (g.qK[(from_[(((itF g.fNext z.toNat q):Nat):Int).toNat]!).toNat]!) (((zy s (g.qK[(from_[(((itF g.fNext z.toNat q):Nat):Int).toNat]!).toNat]!)).1)[k]!) (H.get 11 rfl).1 (H.get 12 rfl).1 (H.get 6 rfl).1 (H.get 7 rfl).1 (H.get 8 rfl).1 (H.get 0 rfl).1 qg qg qg qg) ?_)
   rintro _ w71 ⟨ra70aAlive,rn70aAlive,rc70aAlive,ra70aBags,rn70aBags,rc70aBags,rx70aBags,rF70aBags,ra70aAround,rn70aAround,rc70aAround,rfl,M,K⟩ _
   replace N:=N.merge sz73 lt74 M
   replace H:=H.merge K M
   obtain rfl:=H.XC 0 rfl
   obtain rfl:=H.xK (α:=yLI) 1 rfl 0 rfl qj
   obtain rfl:=H.jm 2 rfl
   refine sq 3 ?_
   refine sw (xx H ti31 [yN,yN,yN] fun b78 w79 H=>?_)
   refine sw (xG H 0 [.slice ra70aAlive ((((zF s (g.qK[(from_[(((itF g.fNext z.toNat q):Nat):Int).toNat]!).toNat]!) (((zy s (g.qK[(from_[(((itF g.fNext z.toNat q):Nat):Int).toNat]!).toNat]!)).1)[k]!)).1).qG).length) rc70aAlive,.slice ra70aBags ((((zF s (g.qK[(from_[(((itF g.fNext z.toNat q):Nat):Int).toNat]!).toNat]!) (((zy s (g.qK[(from_[(((itF g.fNext z.toNat q):Nat):Int).toNat]!).toNat]!)).1)[k]!)).1).qN).length) rc70aBags,.slice ra70aAround ((((zF s (g.qK[(from_[(((itF g.fNext z.toNat q):Nat):Int).toNat]!).toNat]!) (((zy s (g.qK[(from_[(((itF g.fNext z.toNat q):Nat):Int).toNat]!).toNat]!)).1)[k]!)).1).qH).length) rc70aAround] sizeOf31 fun w80 H=>?_)
   refine sq 1 (zjn (xQ ?_))
   refine jf rfl H fun H=>rtl 0 H ?_
   refine rtp 1 (.bool (((zF s (g.qK[(from_[(((itF g.fNext z.toNat q):Nat):Int).toNat]!).toNat]!) (((zy s (g.qK[(from_[(((itF g.fNext z.toNat q):Nat):Int).toNat]!).toNat]!)).1)[k]!)).2:Int) == 0)) H ?_
   refine rtp 2 (.bool (((zF s (g.qK[(from_[(((itF g.fNext z.toNat q):Nat):Int).toNat]!).toNat]!) (((zy s (g.qK[(from_[(((itF g.fNext z.toNat q):Nat):Int).toNat]!).toNat]!)).1)[k]!)).2:Int) == 0)) H ?_
   cases h82:(((zF s (g.qK[(from_[(((itF g.fNext z.toNat q):Nat):Int).toNat]!).toNat]!) (((zy s (g.qK[(from_[(((itF g.fNext z.toNat q):Nat):Int).toNat]!).toNat]!)).1)[k]!)).2:Int) == 0)
   ·skip
    replace h82:=ne_of_beq_false h82
    refine zI [3,4,5,6,7,8,9] 7 (H) (rtp 10 (.bool false) H ?_)
    refine xq qh (t_n (xE false rfl (fun h=>absurd h qj) (fun _=>qW (b_n (t_n (xU (sw (zA k 1 rfl rfl qf (sq 1 (xY (xe (m' :=((((zy s (g.qK[(from_[(((itF g.fNext z.toNat q):Nat):Int).toNat]!).toNat]!)).1).length) - ((k+1):Int)).toNat) qf ⟨_,_,_,_,_,_,_,k+1,_,uE9,?_,?_,?_,rfl,(N.pick [3,2]),H.pick [4,5,6,7,8] [3,5,6,7,8,9,10,11,12,13,14,15]⟩)))))))))))
    · rfl
    · omega
    · first | exact betw_step b1 (.inl ql) | exact betw_step b1 (.inr ql)
   replace h82:=eq_of_beq h82
   refine rg 3 _ 82 (yh (cs:=[.slice ra70aAlive ((((zF s (g.qK[(from_[(((itF g.fNext z.toNat q):Nat):Int).toNat]!).toNat]!) (((zy s (g.qK[(from_[(((itF g.fNext z.toNat q):Nat):Int).toNat]!).toNat]!)).1)[k]!)).1).qG).length) rc70aAlive,.slice ra70aBags ((((zF s (g.qK[(from_[(((itF g.fNext z.toNat q):Nat):Int).toNat]!).toNat]!) (((zy s (g.qK[(from_[(((itF g.fNext z.toNat q):Nat):Int).toNat]!).toNat]!)).1)[k]!)).1).qN).length) rc70aBags,.slice ra70aAround ((((zF s (g.qK[(from_[(((itF g.fNext z.toNat q):Nat):Int).toNat]!).toNat]!) (((zy s (g.qK[(from_[(((itF g.fNext z.toNat q):Nat):Int).toNat]!).toNat]!)).1)[k]!)).1).qH).length) rc70aAround]) isAgg31 sizeOf31 rfl (fun _ h=>qC (h.cells 0 rfl) 0 3)) H ?_
   refine gF 4 rfl rfl H ?_
   refine gL 5 rfl rfl (fun _ h=>h.cell 7 rfl rfl) H ?_
   refine rgl 6 82 H ?_
   obtain ⟨ae83Alive,ce83Alive,Fe83Alive,ae83Bags,ce83Bags,Fe83Bags,ae83Around,ce83Around,Fe83Around,H⟩:=H.Vm 14 rfl (((itF g.fNext z.toNat q):Nat):Int) ((((itF g.fNext z.toNat q):Nat):Int).toNat) qf qf qf
   refine gI 7 rfl rfl rfl (H.pick [0,1,2,3,4,5,6,7,8] [4,5,6,7,8,9,10,11,12,13,14,15,16,17,18,19]) ?_
   refine zY [8] qh qm (XD rfl (e:=82) rfl rfl (xI [.slice ae83Alive (((g.qK[(((itF g.fNext z.toNat q):Nat):Int).toNat]!).qG).length) ce83Alive,.slice ae83Bags (((g.qK[(((itF g.fNext z.toNat q):Nat):Int).toNat]!).qN).length) ce83Bags,.slice ae83Around (((g.qK[(((itF g.fNext z.toNat q):Nat):Int).toNat]!).qH).length) ce83Around] isAgg31 sizeOf31 rfl (qC (H.get 3 rfl) 0 3) (⟨H.pick [0,1,2,3,4,5,6,7,8] [4,5,6,7,8,9,10,11,12,13,14,15,16,17,18,19],(zY [9] qh qm (XD rfl (e:=82) rfl rfl ?_ zZ))⟩)) zZ)
   obtain ⟨G84,hn85,h86⟩:=H.Vp 1 rfl
   obtain ⟨G87,hn88,h89⟩:=H.yQ (α:=yLI) 2 rfl 4 rfl qj
   obtain ⟨G90,hn91,h92⟩:=H.Qi 3 rfl
   refine oq (sameState_ok _ ((zF s (g.qK[(from_[(((itF g.fNext z.toNat q):Nat):Int).toNat]!).toNat]!) (((zy s (g.qK[(from_[(((itF g.fNext z.toNat q):Nat):Int).toNat]!).toNat]!)).1)[k]!)).1) (g.qK[(((itF g.fNext z.toNat q):Nat):Int).toNat]!) h86 h89 h92 (H.get 0 rfl).1 (H.get 1 rfl).1 (H.get 2 rfl).1) H fun w94 H=>⟨H.pick [0,1,2,3,4,5,6,7,8] [4,5,6,7,8,9,10,11,12,13,14,15,16,17,18,19],?_⟩
   refine rtl 10 (H.pick [0,1,2,3,4,5,6,7,8] [4,5,6,7,8,9,10,11,12,13,14,15,16,17,18,19]) ?_
   refine xq qh (t_n (cD rfl (fun h96=>?_) (fun h96=>?_)))
   ·skip
    refine zcr (sq 2 (sw (zf H underlying29 ti24 [.slice ae68 ((((zy s (g.qK[(from_[(((itF g.fNext z.toNat q):Nat):Int).toNat]!).toNat]!)).1)[k]!).length) ce68] fun b97 w98 H=>sw (zk H 6 rfl 0 rfl underlying29 ti24 rfl qj rfl rfl rfl qw qp qf fun a99 c100 w101 H=>?_))))
    replace H:=H.jM 15 rfl 5 rfl
    replace N:Fresh w.heap.size [(QL++Fe68),rF70aBags,P69]:=(N.pick [3,1,0,2]).join
    refine sq 1 (zjn (c_exit (b_o rfl (t_x (t_x (b_x (t_n (xU (sq 2 (oI rfl rfl (oL rfl (H.rowInt 7 rfl (iv:=(((itF g.fNext z.toNat q):Nat):Int)) (i:=((((itF g.fNext z.toNat q):Nat):Int).toNat)) qf qf) (sq 1 (xY (b_n (xe (m' :=(itF g.fNext z.toNat (q+1))) (by exact fk) ⟨_,_,_,_,_,_,_,_,q+1,uE5,?_,?_,?_,rfl,(N.pick [0]),H.pick [6,7,8,9] [0,17,18,19,20]⟩)))))))))))))))
    · exact fe
    · exact back_step fa b1 qf ql ql
    · exact kz_step kz q0
   refine qW (b_n (t_n (xU (sw (zA k 1 rfl rfl qf (sq 1 (xY (xe (m' :=((((zy s (g.qK[(from_[(((itF g.fNext z.toNat q):Nat):Int).toNat]!).toNat]!)).1).length) - ((k+1):Int)).toNat) qf ⟨_,_,_,_,_,_,_,k+1,_,uE9,?_,?_,?_,rfl,(N.pick [3,2]),H.pick [4,5,6,7,8] [7,9,10,11,12,13,14,15,16,17,18,19]⟩))))))))
   · rfl
   · omega
   · first | exact betw_step b1 (.inl ql) | exact betw_step b1 (.inr ql)
  obtain ⟨x,hx,he⟩:=wb.2
  exact absurd he (b1 x qf)
 replace h25:=xm h25
 refine zx4 (zcr (sq 1 (sw (zJ #[.slice yf ja jT] rfl rfl call118 (revRow revL H 0 rfl 0 rfl) ?_))))
 rintro _ w102 ⟨F103,rfl,hF104,H⟩
 replace N:Fresh w.heap.size [F103]:=Fresh.perm N hF104
 refine zjc (sq 2 (sp (yI 0) (zjr ?_)))
 have H0:=H
 obtain ⟨G105,hg107,hn106,H⟩:=H.yj (α:=yLI) 0 rfl 0 rfl qj
 replace N:Fresh w.heap.size [G105]:=Fresh.ice N H0 0 hg107.1 hg107.2 (H0.vS [])
 clear H0
 obtain rfl:=H.isLen 0 rfl
 refine ret2 (.slice yf (((backTo s g.qK g.fNext z.toNat q).reverse).length) jT) (yI 0) rfl rfl rfl ⟨_,rfl,?_,H.base⟩
 rw [path_end qf kz]
 exact ⟨yf,jT,G105,rfl,N,H.pick [] [0]⟩
theorem specEx_ok (w:World) (s:qE) (t:qF) {qJ:yOA} {xu:yLN} {qV:yOA} {zh:yLN} {xg:yOA} {zu:yLN} {xF:yOA} {zU:yLN} {qU:yOA} {x9:yLN} (qX:qO.rep w xu [.slice qJ s.qA.length qI] s.qA) (xn:qO.rep w zh [.slice qV s.qB.length qQ] s.qB) (xR:qO.rep w zu [.slice xg t.qG.length xf] t.qG) (zn:qO.rep w zU [.slice xF t.qN.length xA] t.qN) (xy:qO.rep w x9 [.slice qU t.qH.length qR] t.qH):Calls Tryz.prog 20 #[.agg #[yI s.xP,.slice qJ s.qA.length qI,.slice qV s.qB.length qQ],.agg #[.slice xg t.qG.length xf,.slice xF t.qN.length xA,.slice qU t.qH.length qR]] w (Ret (fun v w' =>∃ (ra0States:yOA) (rc0States:Nat) (rF0States:yLN) (ra0Next:yOA) (rc0Next:Nat) (rF0Next:yLN),v=.tuple #[.agg #[.slice ra0States (((exG s t).qK).length) rc0States,.slice ra0Next (((exG s t).fNext).length) rc0Next],yI ((XZ s t).2)]∧Fresh w.heap.size [rF0States,rF0Next]∧St w w' [] [sF true rF0States ra0States rc0States ((exG s t).qK),sF true rF0Next ra0Next rc0Next ((exG s t).fNext)]) w):=by
 refine en func20 ntmps20 ?_
 have H:=(((((St.start w).arg xy).arg zn).arg xR).arg xn).arg qX
 have zN:=qM qX
 have vW:=qM xn
 have jO:=qM xR
 have yH:=qM zn
 have jg:=qM xy
 clear qX xn xR zn xy
 have N:=Fresh.nil w.heap.size
 refine zcr (sw (zS H (yS s qJ qI qV qQ) fun b1 w2 H=>sw (zS H (yT t xg xf xF xA qU qR) fun b3 w4 H=>sw (xx H ti46 [yN,yN] fun b5 w6 H=>sp (yI 0) (zjcc (sw (oq (l03Both_ok _ s t (qC (H.cells 2 rfl) 0 3) (H.get 0 rfl).1 (H.get 1 rfl).1 (qC (H.cells 1 rfl) 0 3) (H.get 2 rfl).1 (H.get 3 rfl).1 (H.get 4 rfl).1) H fun w8 H=>sq 1 (zjn ?_))))))))
 refine cQ rfl (fun h10=>?_) (fun h10=>?_)
 ·skip
  refine zcr (sw (zO [yN,yN] [] (sw (xG H 0 [yN,yN] sizeOf46 fun w11 H=>sp (yI 1) (zjr (t_r ?_))))))
  replace H:=H.addNil (α:=qF)
  replace H:=H.addNil (α:=yLI)
  refine retC2 H 0 rfl (yI 1) rfl isAgg46 sizeOf46 rfl rfl ⟨_,rfl,?_,H.base⟩
  obtain ⟨z1,z2⟩:=exG_of (ex_1 ‹_›)
  rw [z1,z2]
  exact ⟨none,0,[],none,0,[],rfl,N.emp.emp,H.pick [] [1,0]⟩
 have k0:=(‹vK s∧xX s t›:vK s∧xX s t)
 have k1:=k0.1
 have k2:=k0.2
 obtain ⟨q7,q8,q9,q10⟩:=k2.sizes k1.1
 have q13:=fun k hk=>Nat.le_trans (q10 k hk) (by decide:8≤1000000)
 refine qW (t_n (zcr (sw (zQ #[pp b1 0,pp b3 0] rfl rfl call65 (en func65 ntmps65 ?_)))))
 refine zcr (sw (xx H ti46 [yN,yN] fun b12 w13 H=>sq 1 (sp (yI 0) (zjc (sq 1 ?_)))))
 have sz17:=H.base.size
 refine sw (oc (l02Own_ok _ t (qC (H.cells 2 rfl) 0 3) (H.get 2 rfl).1 (H.get 3 rfl).1 (H.get 4 rfl).1 qg qg qg qg) ?_)
 rintro _ w15 ⟨ra14Alive,rn14Alive,rc14Alive,ra14Bags,rn14Bags,rc14Bags,rx14Bags,rF14Bags,ra14Around,rn14Around,rc14Around,rfl,M,K⟩ _
 replace N:=N.merge sz17 qm M
 replace H:=H.merge K M
 obtain rfl:=H.XC 0 rfl
 obtain rfl:=H.xK (α:=yLI) 1 rfl 0 rfl qj
 obtain rfl:=H.jm 2 rfl
 refine sw (zf H underlying38 ti31 (yT t ra14Alive rc14Alive ra14Bags rc14Bags ra14Around rc14Around) fun b22 w23 H=>sw (zO [.slice (aa b22 0) 1 1,yN] [(0,.slice (aa b22 0) 1 1)] (sw (xx H ti46 [yN,yN] fun b24 w25 H=>sw (xG H 0 [.slice (aa b22 0) 1 1,yN] sizeOf46 fun w26 H=>zjc (sw (zf H underlying24 ti2 [yI (-1)] fun b27 w28 H=>sq 1 (zjcc (sp (yI 0) ?_)))))))))
 refine zjn (qY ?_)
 replace H:=H.boxRowI 0 [(-1)] 1
 replace H:=H.boxRow 2 rfl 3 1 rfl qj
 replace H:=H.zW (α:=qF)
 obtain ⟨G29,N,hn30,H⟩:=H.freezeB 3 rfl N (H.vS [1])
 have H0:=H
 obtain ⟨G31,hg33,hn32,H⟩:=H.yj (α:=yLI) 4 rfl 2 rfl qj
 replace N:Fresh w.heap.size [G31,G29]:=Fresh.ice (N.pick [1,0]) H0 4 hg33.1 hg33.2 (H0.vS [0])
 clear H0
 obtain ⟨G34,N,hn35,H⟩:=H.zG 5 rfl N (H.vS [0,1])
 replace H:=H.Q3 3 rfl 2 rfl 1 rfl 0 rfl
 replace N:Fresh w.heap.size [([]++(G29++G31++G34))]:=(N.emp.pick [3,2,1,0]).join.join.swap.join
 replace H:St _ _ [rr (aa b27 0) 1 1 2 1 ([(-1)].map (Value.int .i64)),.box b24 [.slice (aa b22 0) 1 1,yN] 46,rr (aa b22 0) 1 1 31 3 (yT t ra14Alive rc14Alive ra14Bags rc14Bags ra14Around rc14Around),rr none 0 0 0 1 [],rr none 0 0 0 1 [],rr none 0 0 0 1 [],.box b12 [yN,yN] 46,.box b5 [yN,yN] 46,.box b3 (yT t xg xf xF xA qU qR) 31,.box b1 (yS s qJ qI qV qQ) 27] [xB true ([]++(G29++G31++G34)) (yT t ra14Alive rc14Alive ra14Bags rc14Bags ra14Around rc14Around) [t],sF true G34 ra14Around rc14Around t.qH,sF true G31 ra14Bags rc14Bags t.qN,sF true G29 ra14Alive rc14Alive t.qG,xB true [] [] ([]:List qF),xB true rF14Bags rx14Bags t.qN,sF false xu qJ qI s.qA,sF false zh qV qQ s.qB,sF false zu xg xf t.qG,sF false zU xF xA t.qN,sF false x9 qU qR t.qH]:=H
 replace H:=H.nilRow 24 1
 replace H:=H.zW (α:=yLI)
 refine zq ((fun Z0 Z1 Z2 Z3 Z4 Z5 Z6 Z7 Z8=>fun m' ρ w36=>∃ (xM:Env) (a_from:yOA) (n_from:Nat) (c_from:Nat) (from_:yLI) (i:Nat) (yC:yOA) (yz:Nat) (jZ:Nat) (g_States:List qF) (Xz:List Value) (Qr:yLN) (yF:yOA) (yD:Nat) (yE:Nat) (g_Next:yLL) (x_g_Next:List Value) (yG:yLN),ρ=upd (upd (upd (upd (upd xM 0 (pp b1 0)) 4 (pp b12 0)) 7 (pp b24 0)) 8 (.slice a_from n_from c_from)) 9 (yI i)∧(grRes s t=grGo s (302 - i) i g_States g_Next)∧(∀ u∈g_States,xX s u)∧(0 < g_States.length∧g_States.length≤300)∧(g_Next.length=i)∧(i≤g_States.length)∧(GrOk g_States g_Next)∧(from_.length=g_States.length)∧m' =(301 - i)∧Fresh w.heap.size [Qr,yG]∧St w w36 [rr yF yD yE 24 1 x_g_Next,rr a_from n_from c_from 2 1 (from_.map (Value.int .i64)),.box b24 [.slice yC yz jZ,.slice yF yD yE] 46,rr yC yz jZ 31 3 Xz,Z0,Z1,Z2,Z3] [xB true yG x_g_Next g_Next,xB true Qr Xz g_States,Z4,Z5,Z6,Z7,Z8]) _ _ _ _ _ _ _ _ _) ((301 - 0)) ⟨_,(aa b27 0),1,1,[(-1)],0,(aa b22 0),1,1,[t],(yT t ra14Alive rc14Alive ra14Bags rc14Bags ra14Around rc14Around),([]++(G29++G31++G34)),none,0,0,([]:yLL),[],[],uE5,(by rfl),(by exact fun u hu=>by obtain rfl:=List.mem_singleton.1 hu;exact k2),qm,(by rfl),qm,(by exact GrOk.start t),(by rfl),rfl,(N.emp.pick [1,0]),H.pick [0,1,2,3,7,8,9,10] [0,1,7,8,9,10,11]⟩ ?_
 clear H N
 rintro m' ρ w37 ⟨xM,a_from,n_from,c_from,from_,i,yC,yz,jZ,g_States,Xz,Qr,yF,yD,yE,g_Next,x_g_Next,yG,rfl,kr,ka,kl,kn,ki,ko,kf,rfl,N,H⟩
 have hn_from:=H.jm 1 rfl
 have hn_g_States:=H.xK (α:=qF) 3 rfl 1 rfl qj
 have hn_g_Next:=H.xK (α:=yLI) 0 rfl 0 rfl qj
 refine zcc (sp (yI i) (oF rfl (oL rfl (H.cell 2 rfl rfl) (oN rfl (sq 1 (zjn (cD rfl (fun h38=>?_) (fun h38=>?_))))))))
 ·skip
  refine qW (t_n (xQ (qY (zcr (oF rfl (oL rfl (H.cell 2 rfl rfl) (sp (yI i) ?_)))))))
  obtain ⟨b39,rfl⟩:=H.jW 3 rfl qf
  obtain ⟨ae40Alive,ce40Alive,Fe40Alive,ae40Bags,ce40Bags,Fe40Bags,ae40Around,ce40Around,Fe40Around,hx41,H⟩:=H.rowel_StateD 3 rfl 1 rfl (iv:=i) i qf qf
  refine oI rfl rfl (sw (xI [.slice ae40Alive (((g_States[i]!).qG).length) ce40Alive,.slice ae40Bags (((g_States[i]!).qN).length) ce40Bags,.slice ae40Around (((g_States[i]!).qH).length) ce40Around] isAgg31 sizeOf31 rfl (qC (fun j v hj=>H.rowGet 3 rfl (hx41 j v hj)) 0 3) (sw (xx H ti31 [yN,yN,yN] fun b42 w43 H=>sw (xG H 0 [.slice ae40Alive (((g_States[i]!).qG).length) ce40Alive,.slice ae40Bags (((g_States[i]!).qN).length) ce40Bags,.slice ae40Around (((g_States[i]!).qH).length) ce40Around] sizeOf31 fun w44 H=>zjc ?_)))))
  refine sq 1 ?_
  have ks:=ka (g_States[i]!) (mem_at (k:=i) qf rfl)
  have nl:=succ_len s (g_States[i]!)
  have sz48:=H.base.size
  have lt49:=H.ltN (L:=[Qr,yG]) [4,3]
  refine sw (oc (l03Succ_ok _ s (g_States[i]!) (qC (H.cells 8 rfl) 0 3) (H.get 5 rfl).1 (H.get 6 rfl).1 (qC (H.cells 0 rfl) 0 3) (H.get 0 rfl).1 (H.get 1 rfl).1 (H.get 2 rfl).1 qg qg) ?_)
  rintro _ w46 ⟨ra45a,rn45a,rc45a,rx45a,rF45a,rfl,M,K⟩ _
  replace N:=N.merge sz48 lt49 M
  replace H:=H.merge K M
  obtain rfl:=H.xK (α:=qF) 0 rfl 0 rfl qj
  refine sq 5 (zjcc (sq 1 (sp (.bool (((qZ s (g_States[i]!)).2:Int) != 0)) (zjn (xE (((qZ s (g_States[i]!)).2:Int) != 0) rfl (fun h51=>?_) (fun h51=>?_))))))
  ·skip
   replace h51:=bne_iff_ne.1 h51
   refine zcr (sw (zO [yN,yN] [] (sq 2 (sw (xG H 6 [yN,yN] sizeOf46 fun w52 H=>sq 2 (zjr (t_r (zr5 (retC3 H 6 rfl (.slice a_from n_from c_from) (yI ((qZ s (g_States[i]!)).2)) rfl isAgg46 sizeOf46 rfl rfl rfl ⟨_,rfl,?_⟩)))))))))
   replace H:=H.erases [6,5,4,2,1,0]
   dsimp only [vV,List.eraseIdx] at H
   refine sq 4 (sw (xx H ti46 [yN,yN] fun b53 w54 H=>sw (xG H 0 [yN,yN] sizeOf46 fun w55 H=>sq 2 (zjc (sw (xI [yN,yN] isAgg46 sizeOf46 rfl (qC (H.cells 0 rfl) 0 2) (sq 1 ?_)))))))
   refine sw (xG H 2 [yN,yN] sizeOf46 fun w56 H=>sq 1 (zjr ?_))
   replace H:=H.addNil (α:=qF)
   replace H:=H.addNil (α:=yLI)
   refine retC2 H 2 rfl (yI ((qZ s (g_States[i]!)).2)) rfl isAgg46 sizeOf46 rfl rfl ⟨_,rfl,?_,H.base⟩
   obtain ⟨z1,z2⟩:=exG_of (ex_0 k0 (kr.trans (gr_code qf qf ql)))
   rw [z1,z2]
   exact ⟨none,0,[],none,0,[],rfl,(N.emp.emp.pick [0,1]),H.pick [] [1,0]⟩
  replace h51:=xm h51
  refine qW (t_n (zcr (sw (vU H underlying24 ti2 fun b57 w58 H=>sq 1 (zjcc (sp (yI 0) (zjn (qY ?_))))))))
  have H0:=H
  obtain ⟨G59,hg61,hn60,H⟩:=H.yj (α:=qF) 1 rfl 0 rfl qj
  replace N:Fresh w.heap.size [G59,Qr,yG]:=Fresh.ice N H0 1 hg61.1 hg61.2 (H0.vS [5,4])
  clear H0
  obtain ⟨xs62,B63,P64,N,H⟩:=H.pool (α:=qF) 0 rfl N
  replace H:=H.boxRowI 0 [] 0
  refine zq ((fun Z0 Z1 Z2 Z3 Z4 Z5 Z6 Z7 Z8 Z9 Z10 Z11 Z12 Z13 Z14 Z15 Z16=>fun m' ρ w65=>∃ (xM:Env) (a_from_1:yOA) (n_from_1:Nat) (c_from_1:Nat) (from__1:yLI) (a_row:yOA) (n_row:Nat) (c_row:Nat) (row:yLI) (k:Nat) (Qa:yOA) (jb:Nat) (y9:Nat) (g_States_1:List qF) (Qy:List Value) (jK:yLN) (P_k:yLN),ρ=upd (upd (upd (upd (upd (upd (upd (upd xM 0 (pp b1 0)) 4 (pp b12 0)) 7 (pp b24 0)) 8 (.slice a_from_1 n_from_1 c_from_1)) 9 (yI i)) 11 (.slice ra45a (((qZ s (g_States[i]!)).1).length) rc45a)) 13 (.slice a_row n_row c_row)) 14 (yI k)∧row=(zM g_States (qZ s (g_States[i]!)).1 k).2∧g_States_1=(zM g_States (qZ s (g_States[i]!)).1 k).1∧((k:Int)≤(((qZ s (g_States[i]!)).1).length))∧(from__1.length=(zM g_States (qZ s (g_States[i]!)).1 k).1.length)∧m' =((((qZ s (g_States[i]!)).1).length) - (k:Int)).toNat∧Fresh w.heap.size [yG,jK,P_k]∧St w w65 [rr a_row n_row c_row 2 1 (row.map (Value.int .i64)),Z0,Z1,rr a_from_1 n_from_1 c_from_1 2 1 (from__1.map (Value.int .i64)),.box b24 [.slice Qa jb y9,.slice yF yD yE] 46,rr Qa jb y9 31 3 Qy,Z2,Z3,Z4,Z5] [xB true P_k (xs62.drop (k * 3)) (((qZ s (g_States[i]!)).1).drop k),Z6,Z7,Z8,Z9,Z10,Z11,xB true jK Qy g_States_1,Z12,Z13,Z14,Z15,Z16]) _ _ _ _ _ _ _ _ _ _ _ _ _ _ _ _ _) (((((qZ s (g_States[i]!)).1).length) - (0:Int)).toNat) ⟨_,a_from,n_from,c_from,from_,(aa b57 0),0,0,([]:yLI),0,(aa b39 0),yz,jZ,g_States,Xz,Qr,P64,uE8,(by rfl),(by rfl),qf,ql,rfl,(N.pick [2,1,0]),H.pick [0,2,3,4,5,6,7,8,9,10] [0,1,2,4,5,6,7,8,9,10,11,12,13]⟩ ?_
  clear H N
  rintro m' ρ w66 ⟨xM,a_from_1,n_from_1,c_from_1,from__1,a_row,n_row,c_row,row,k,Qa,jb,y9,g_States_1,Qy,jK,P_k,rfl,rfl,rfl,i0,kf2,rfl,N,H⟩
  have hn_from:=H.jm 3 rfl
  have hn_row:=H.jm 0 rfl
  have hn_g_States:=H.xK (α:=qF) 5 rfl 7 rfl qj
  obtain ⟨al1,al2,al3⟩:=Xh (S:=g_States) (nx:=(qZ s (g_States[i]!)).1) k
  refine zcc (sp (yI k) (sq 1 (oN rfl (sq 1 (zjn (cD rfl (fun h67=>?_) (fun h67=>?_)))))))
  ·skip
   obtain ⟨b68,o69,rfl⟩:=H.addr 2 rfl qf
   obtain ⟨ae71Alive,ce71Alive,Fe71Alive,ae71Bags,ce71Bags,Fe71Bags,ae71Around,ce71Around,Fe71Around,P72,N,H⟩:=H.drain_StateD 1 rfl 0 rfl ((N.pick [2,0,1]):Fresh w.heap.size [P_k,yG,jK]) k k qf qf qf
   refine qW (t_n (xQ (qY (xQ ?_))))
   refine jf rfl H fun H=>tF 0 rfl rfl H ?_
   refine tL 1 rfl rfl (fun _ h=>h.cell 4 rfl rfl) H ?_
   refine rtl 2 H ?_
   refine rtp 3 (yI k) H ?_
   refine tI 4 rfl rfl rfl H ?_
   refine ro 5 rfl ?_
   obtain ⟨G74,hn75,h76⟩:=H.yQ (α:=qF) 5 rfl 12 rfl qj
   refine oq (XY (by rw [← hn75]) (l03Find_ok _ ((zM g_States (qZ s (g_States[i]!)).1 k).1) (((qZ s (g_States[i]!)).1)[k]!) (hn75▸h76) (qC (H.get 3 rfl) 0 3) (H.get 0 rfl).1 (H.get 1 rfl).1 (H.get 2 rfl).1)) H fun w78 H=>⟨H,(rtl 6 H ?_)⟩
   refine xq qh (t_n (zcc (sq 1 (sp (.bool (decide ((firstIdx (fun zz=>decide (((zM g_States (qZ s (g_States[i]!)).1 k).1)[zz]! =(((qZ s (g_States[i]!)).1)[k]!))) ((zM g_States (qZ s (g_States[i]!)).1 k).1).length:Int) < 0))) (zjn (cD rfl (fun h80=>?_) (fun h80=>?_)))))))
   ·skip
    refine zcr (oF rfl (oL rfl (H.cell 4 rfl rfl) (oN rfl (sq 1 (zjn (xQ ?_))))))
    refine c_cut (fun ρ w83=>∃ (xM:Env) (a81:yOA) (c82:Nat),ρ=upd (upd (upd (upd (upd (upd (upd (upd (upd xM 0 (pp b1 0)) 4 (pp b12 0)) 7 (pp b24 0)) 8 (.slice a_from_1 n_from_1 c_from_1)) 9 (yI i)) 11 (.slice (aa b68 o69) (((qZ s (g_States[i]!)).1).length) rc45a)) 13 (.slice a_row n_row c_row)) 14 (yI k)) 15 (yI jb)∧Fresh w.heap.size [(jK++(Fe71Alive++Fe71Bags++Fe71Around)),P72,yG]∧St w w83 [rr a_row n_row c_row 2 1 (((zM g_States (qZ s (g_States[i]!)).1 k).2).map (Value.int .i64)),.box b42 [.slice ae40Alive (((g_States[i]!).qG).length) ce40Alive,.slice ae40Bags (((g_States[i]!).qN).length) ce40Bags,.slice ae40Around (((g_States[i]!).qH).length) ce40Around] 31,rr yF yD yE 24 1 x_g_Next,rr a_from_1 n_from_1 c_from_1 2 1 (from__1.map (Value.int .i64)),.box b24 [.slice a81 (jb+1) c82,.slice yF yD yE] 46,rr a81 (jb+1) c82 31 3 (Qy++[.slice ae71Alive (((((qZ s (g_States[i]!)).1)[k]!).qG).length) ce71Alive,.slice ae71Bags (((((qZ s (g_States[i]!)).1)[k]!).qN).length) ce71Bags,.slice ae71Around (((((qZ s (g_States[i]!)).1)[k]!).qH).length) ce71Around]),.box b12 [yN,yN] 46,.box b5 [yN,yN] 46,.box b3 (yT t xg xf xF xA qU qR) 31,.box b1 (yS s qJ qI qV qQ) 27] [xB true (jK++(Fe71Alive++Fe71Bags++Fe71Around)) (Qy++[.slice ae71Alive (((((qZ s (g_States[i]!)).1)[k]!).qG).length) ce71Alive,.slice ae71Bags (((((qZ s (g_States[i]!)).1)[k]!).qN).length) ce71Bags,.slice ae71Around (((((qZ s (g_States[i]!)).1)[k]!).qH).length) ce71Around]) (((zM g_States (qZ s (g_States[i]!)).1 k).1)++[⟨(((qZ s (g_States[i]!)).1)[k]!).qG,(((qZ s (g_States[i]!)).1)[k]!).qN,(((qZ s (g_States[i]!)).1)[k]!).qH⟩]),sF true Fe71Alive ae71Alive ce71Alive ((((qZ s (g_States[i]!)).1)[k]!).qG),sF true Fe71Bags ae71Bags ce71Bags ((((qZ s (g_States[i]!)).1)[k]!).qN),sF true Fe71Around ae71Around ce71Around ((((qZ s (g_States[i]!)).1)[k]!).qH),atF b68 (o69+(k:Int).toNat * 3) [.slice ae71Alive (((((qZ s (g_States[i]!)).1)[k]!).qG).length) ce71Alive,.slice ae71Bags (((((qZ s (g_States[i]!)).1)[k]!).qN).length) ce71Bags,.slice ae71Around (((((qZ s (g_States[i]!)).1)[k]!).qH).length) ce71Around],xB true P72 (xs62.drop ((k+1) * 3)) (((qZ s (g_States[i]!)).1).drop (k+1)),cellsF B63 (.slice (aa b68 o69) (((qZ s (g_States[i]!)).1).length) rc45a) xs62,sF true G59 (aa b68 o69) rc45a ((qZ s (g_States[i]!)).1),sF true Fe40Alive ae40Alive ce40Alive ((g_States[i]!).qG),sF true Fe40Bags ae40Bags ce40Bags ((g_States[i]!).qN),sF true Fe40Around ae40Around ce40Around ((g_States[i]!).qH),xB true yG x_g_Next g_Next,sF false xu qJ qI s.qA,sF false zh qV qQ s.qB,sF false zu xg xf t.qG,sF false zU xF xA t.qN,sF false x9 qU qR t.qH]) ?_ ?_
    ·skip
     refine yK rfl H [0,1,2,3,6,7,8,9] fun H=>?_
     have S:=H.jo [0,1,2,3,6,7,8,9] [0,1,2,3,4,5,6,7,8,9,10,11,12,13,14,15,16,17]
     refine tF 0 rfl rfl S ?_
     refine rtl 2 S ?_
     refine rtp 3 (yI k) S ?_
     refine tI 4 rfl rfl rfl S ?_
     refine rt 5 _ (yh (cs:=[.slice ae71Alive (((((qZ s (g_States[i]!)).1)[k]!).qG).length) ce71Alive,.slice ae71Bags (((((qZ s (g_States[i]!)).1)[k]!).qN).length) ce71Bags,.slice ae71Around (((((qZ s (g_States[i]!)).1)[k]!).qH).length) ce71Around]) isAgg31 sizeOf31 rfl (fun _ h=>qC (h.get 3 rfl) 0 3)) S ?_
     refine zY [1,6] qh qm (jd rfl ?_ (jd rfl ?_ zZ))
     ·skip
      refine zl (.slice Qa jb y9) isAgg38 rfl (H.cell 4 rfl rfl) (⟨H.pick [0,1,2,3,6,7,8,9] [0,1,2,3,4,5,6,7,8,9,10,11,12,13,14,15,16,17],(ro 6 rfl (zf H underlying38 ti31 [.slice ae71Alive (((((qZ s (g_States[i]!)).1)[k]!).qG).length) ce71Alive,.slice ae71Bags (((((qZ s (g_States[i]!)).1)[k]!).qN).length) ce71Bags,.slice ae71Around (((((qZ s (g_States[i]!)).1)[k]!).qH).length) ce71Around] fun b85 w86 H=>⟨H.pick [1,2,3,4,7,8,9,10] [0,1,2,3,4,5,6,7,8,9,10,11,12,13,14,15,16,17],(ro 7 rfl ?_)⟩))⟩)
      refine zk H 6 rfl 0 rfl underlying38 ti31 rfl qj rfl rfl rfl qw qp qf fun a87 c88 w89 H=>?_
      replace H:=H.Q3 12 rfl 0 rfl 1 rfl 2 rfl
      replace N:Fresh w.heap.size [(jK++(Fe71Alive++Fe71Bags++Fe71Around)),P72,yG]:=(N.pick [0,1,2,5,3,4]).join.join.swap.join
      refine ⟨H.pick [1,2,3,4,7,8,9,10] [1,2,3,4,5,6,7,8,9,10,11,12,13,14,15,16,17,18],(tF 8 rfl rfl (H.pick [1,2,3,4,7,8,9,10] [1,2,3,4,5,6,7,8,9,10,11,12,13,14,15,16,17,18]) ?_)⟩
      refine ro 9 rfl (xO H 5 [.slice a87 (jb+1) c88,.slice yF yD yE] sizeOf38 fun w90 H=>⟨H.pick [1,2,3,4,7,8,9,10] [1,2,3,4,5,6,7,8,9,10,11,12,13,14,15,16,17,18],(xq qh ((meet ⟨_,a87,c88,uE9,N,H.pick [1,2,3,4,5,6,7,8,9,10] [0,1,2,3,4,5,7,8,9,10,11,12,14,15,16,17,18]⟩)))⟩)
     refine zf H underlying38 ti31 [.slice ae71Alive (((((qZ s (g_States[i]!)).1)[k]!).qG).length) ce71Alive,.slice ae71Bags (((((qZ s (g_States[i]!)).1)[k]!).qN).length) ce71Bags,.slice ae71Around (((((qZ s (g_States[i]!)).1)[k]!).qH).length) ce71Around] fun b91 w92 H=>⟨H.pick [1,2,3,4,7,8,9,10] [0,1,2,3,4,5,6,7,8,9,10,11,12,13,14,15,16,17],(ro 1 rfl (zl (.slice Qa jb y9) isAgg38 rfl (H.cell 5 rfl rfl) (⟨H.pick [1,2,3,4,7,8,9,10] [0,1,2,3,4,5,6,7,8,9,10,11,12,13,14,15,16,17],(ro 7 rfl ?_)⟩)))⟩
     refine zk H 6 rfl 0 rfl underlying38 ti31 rfl qj rfl rfl rfl qw qp qf fun a93 c94 w95 H=>?_
     replace H:=H.Q3 12 rfl 0 rfl 1 rfl 2 rfl
     replace N:Fresh w.heap.size [(jK++(Fe71Alive++Fe71Bags++Fe71Around)),P72,yG]:=(N.pick [0,1,2,5,3,4]).join.join.swap.join
     refine ⟨H.pick [1,2,3,4,7,8,9,10] [1,2,3,4,5,6,7,8,9,10,11,12,13,14,15,16,17,18],(tF 8 rfl rfl (H.pick [1,2,3,4,7,8,9,10] [1,2,3,4,5,6,7,8,9,10,11,12,13,14,15,16,17,18]) ?_)⟩
     refine ro 9 rfl (xO H 5 [.slice a93 (jb+1) c94,.slice yF yD yE] sizeOf38 fun w96 H=>⟨H.pick [1,2,3,4,7,8,9,10] [1,2,3,4,5,6,7,8,9,10,11,12,13,14,15,16,17,18],(xq qh ((meet ⟨_,a93,c94,uE9,N,H.pick [1,2,3,4,5,6,7,8,9,10] [0,1,2,3,4,5,7,8,9,10,11,12,14,15,16,17,18]⟩)))⟩)
    clear H N
    rintro ρ w97 ⟨xM,a81,c82,rfl,N,H⟩
    refine t_n (xU (sq 1 (sp (yI i) (sw (zf H underlying24 ti2 [yI i] fun b98 w99 H=>sw (zk H 4 rfl 0 rfl underlying24 ti2 rfl qj rfl rfl rfl qw qp qf fun a100 c101 w102 H=>?_))))))
    rw [snocI] at H
    refine sq 1 (zjn (xU (sq 2 (sw (zf H underlying24 ti2 [yI jb] fun b103 w104 H=>sw (zk H 2 rfl 0 rfl underlying24 ti2 rfl qj rfl rfl rfl qw qp qf fun a105 c106 w107 H=>?_))))))
    rw [snocI] at H
    refine sq 1 (xY (b_n (t_n (xU (sp (yI k) (sw (zA k 1 rfl rfl qf (sq 1 (xY (xe (m' :=((((qZ s (g_States[i]!)).1).length) - ((k+1):Int)).toNat) qf ⟨_,_,_,_,_,_,_,_,_,k+1,_,_,_,_,_,_,_,uE8,?_,?_,?_,?_,rfl,(N.pick [2,0,1]),H.pick [2,3,4,5,6,7,8,9,10,11] [5,6,7,8,9,10,11,0,12,13,14,15,16]⟩))))))))))
    · first | exact (Xf (k:=k) ‹_›).2 | (refine Eq.trans ?_ (Xg (k:=k) ‹_›).2;congr 2 <;> omega)
    · first | exact (Xg (k:=k) ‹_›).1 | exact (Xf (k:=k) ‹_›).1
    · omega
    · first | (rw [← (Xg (k:=k) ‹_›).1,List.length_append,List.length_append];exact congrArg (·+1) kf2) | (rw [← (Xf (k:=k) ‹_›).1];omega)
   refine qW (t_n (xU (sq 2 (sw (zf H underlying24 ti2 [yI (firstIdx (fun zz=>decide (((zM g_States (qZ s (g_States[i]!)).1 k).1)[zz]! =(((qZ s (g_States[i]!)).1)[k]!))) ((zM g_States (qZ s (g_States[i]!)).1 k).1).length)] fun b108 w109 H=>?_)))))
   refine sw (zk H 1 rfl 0 rfl underlying24 ti2 rfl qj rfl rfl rfl qw qp qf fun a110 c111 w112 H=>?_)
   rw [snocI] at H
   refine sq 1 (xY (b_n (t_n (xU (sp (yI k) (sw (zA k 1 rfl rfl qf (sq 1 (xY (xe (m' :=((((qZ s (g_States[i]!)).1).length) - ((k+1):Int)).toNat) qf ⟨_,_,_,_,_,_,_,_,_,k+1,_,_,_,_,_,_,_,uE8,?_,?_,?_,?_,rfl,(N.pick [4,5,3]),H.pick [1,2,3,4,5,6,7,8,9,10] [4,6,7,8,9,10,11,12,13,14,15,16,17]⟩))))))))))
   · first | exact (Xf (k:=k) ‹_›).2 | (refine Eq.trans ?_ (Xg (k:=k) ‹_›).2;congr 2 <;> omega)
   · first | exact (Xg (k:=k) ‹_›).1 | exact (Xf (k:=k) ‹_›).1
   · omega
   · first | (rw [← (Xg (k:=k) ‹_›).1,List.length_append,List.length_append];exact congrArg (·+1) kf2) | (rw [← (Xf (k:=k) ‹_›).1];omega)
  refine zx4 (zcr (oF rfl (oL rfl (H.cell 4 rfl rfl) (sq 1 (sw (zf H underlying29 ti24 [.slice a_row n_row c_row] fun b113 w114 H=>?_))))))
  obtain ⟨G118,N,hn119,H⟩:=H.zG 1 rfl N (H.vS [6,7,0])
  refine sw (zk H 3 rfl 0 rfl underlying29 ti24 rfl qj rfl rfl rfl qw qp qf fun a115 c116 w117 H=>?_)
  replace H:=H.jM 7 rfl 0 rfl
  replace N:Fresh w.heap.size [(yG++G118),jK,P_k]:=(N.pick [1,0,2,3]).join
  refine oF rfl (sw (xO H 5 [.slice Qa jb y9,.slice a115 (yD+1) c116] sizeOf29 fun w120 H=>zjc (oF rfl (oL rfl (H.cell 5 rfl rfl) (oN rfl (sp (.bool (decide ((jb:Int) > 300))) (zjn (cD rfl (fun h121=>?_) (fun h121=>?_)))))))))
  ·skip
   refine zcr (sw (zO [yN,yN] [] (sq 1 (sw (xG H 7 [yN,yN] sizeOf46 fun w122 H=>sq 1 (sp (yI 3) (zjr (zr5 (retC3 H 7 rfl (.slice a_from_1 n_from_1 c_from_1) (yI 3) rfl isAgg46 sizeOf46 rfl rfl rfl ⟨_,rfl,?_⟩)))))))))
   replace H:=H.erases [7,6,5,3,2,1,0]
   dsimp only [vV,List.eraseIdx] at H
   refine sq 3 (sp (yI 3) (sw (xx H ti46 [yN,yN] fun b123 w124 H=>sw (xG H 0 [yN,yN] sizeOf46 fun w125 H=>sq 1 (sp (yI 3) (zjc (sw (xI [yN,yN] isAgg46 sizeOf46 rfl (qC (H.cells 0 rfl) 0 2) (sp (yI 3) (sw (xG H 2 [yN,yN] sizeOf46 fun w126 H=>sp (yI 3) ?_)))))))))))
   refine zjr ?_
   replace H:=H.addNil (α:=qF)
   replace H:=H.addNil (α:=yLI)
   refine retC2 H 2 rfl (yI 3) rfl isAgg46 sizeOf46 rfl rfl ⟨_,rfl,?_,H.base⟩
   obtain ⟨z1,z2⟩:=exG_of (ex_0 k0 (kr.trans (gr_many qf qf qf (k:=k) qf qf)))
   rw [z1,z2]
   exact ⟨none,0,[],none,0,[],rfl,(N.emp.emp.pick [0,1]),H.pick [] [1,0]⟩
  refine qW (b_n (t_n (xU (sp (yI i) (sw (zA i 1 rfl rfl qf (sq 1 (xY (xe (m' :=(301 - (i+1))) qf ⟨_,_,_,_,_,i+1,_,_,_,_,_,_,_,_,_,_,_,_,uE5,?_,?_,?_,?_,?_,?_,?_,rfl,(N.pick [1,0]),H.pick [3,4,5,6,7,8,9,10] [0,9,10,11,12,13,14]⟩)))))))))
  · exact kr.trans (gr_go qf qf qf (k:=k) qf qf)
  · exact addSt_mem ka succ_ok k qf
  · omega
  · simp;omega
  · omega
  · exact ko.next qf qf
  · omega
 refine zx4 (zcr (sw (xI [.slice yC yz jZ,.slice yF yD yE] isAgg46 sizeOf46 rfl (qC (H.cells 2 rfl) 0 2) (sq 1 (sw (xG H 4 [.slice yC yz jZ,.slice yF yD yE] sizeOf46 fun w127 H=>sq 1 (sp (yI 0) (zjr (retC3 H 4 rfl (.slice a_from n_from c_from) (yI 0) rfl isAgg46 sizeOf46 rfl rfl rfl ⟨_,rfl,?_⟩)))))))))
 replace H:=H.erases [4,2]
 dsimp only [vV,List.eraseIdx] at H
 refine sq 3 (sp (yI 0) (sw (xx H ti46 [yN,yN] fun b128 w129 H=>sw (xG H 0 [.slice yC yz jZ,.slice yF yD yE] sizeOf46 fun w130 H=>sq 1 (sp (yI 0) (zjc ?_))))))
 refine sw (xI [.slice yC yz jZ,.slice yF yD yE] isAgg46 sizeOf46 rfl (qC (H.cells 0 rfl) 0 2) (sp (yI 0) (sw (xG H 4 [.slice yC yz jZ,.slice yF yD yE] sizeOf46 fun w131 H=>sp (yI 0) (zjr ?_)))))
 have H0:=H
 obtain ⟨G132,hg134,hn133,H⟩:=H.yj (α:=qF) 3 rfl 1 rfl qj
 replace N:Fresh w.heap.size [G132,yG]:=Fresh.ice N H0 3 hg134.1 hg134.2 (H0.vS [0])
 clear H0
 obtain rfl:=H.isLen 0 rfl
 have H0:=H
 obtain ⟨G135,hg137,hn136,H⟩:=H.yj (α:=yLI) 1 rfl 1 rfl qj
 replace N:Fresh w.heap.size [G135,G132]:=Fresh.ice (N.pick [1,0]) H0 1 hg137.1 hg137.2 (H0.vS [0])
 clear H0
 obtain rfl:=H.isLen 0 rfl
 refine retC2 H 4 rfl (yI 0) rfl isAgg46 sizeOf46 rfl rfl ⟨_,rfl,?_,H.base⟩
 obtain ⟨z1,z2⟩:=exG_of (ex_0 k0 (kr.trans (gr_end qf)))
 rw [z1,z2]
 exact ⟨yC,jZ,G132,yF,yE,G135,rfl,(N.pick [1,0]),H.pick [] [1,0]⟩

theorem implEx_ok (w:World) (s:qE) (t:qF) {qJ:yOA} {xu:yLN} {qV:yOA} {zh:yLN} {xg:yOA} {zu:yLN} {xF:yOA} {zU:yLN} {qU:yOA} {x9:yLN} (qX:qO.rep w xu [.slice qJ s.qA.length qI] s.qA) (xn:qO.rep w zh [.slice qV s.qB.length qQ] s.qB) (xR:qO.rep w zu [.slice xg t.qG.length xf] t.qG) (zn:qO.rep w zU [.slice xF t.qN.length xA] t.qN) (xy:qO.rep w x9 [.slice qU t.qH.length qR] t.qH):Calls Tryz.prog 21 #[.agg #[yI s.xP,.slice qJ s.qA.length qI,.slice qV s.qB.length qQ],.agg #[.slice xg t.qG.length xf,.slice xF t.qN.length xA,.slice qU t.qH.length qR]] w (Ret (fun v w' =>∃ (ra0States:yOA) (rc0States:Nat) (rF0States:yLN) (ra0Next:yOA) (rc0Next:Nat) (rF0Next:yLN),v=.tuple #[.agg #[.slice ra0States (((exG s t).qK).length) rc0States,.slice ra0Next (((exG s t).fNext).length) rc0Next],yI ((XZ s t).2)]∧Fresh w.heap.size [rF0States,rF0Next]∧St w w' [] [sF true rF0States ra0States rc0States ((exG s t).qK),sF true rF0Next ra0Next rc0Next ((exG s t).fNext)]) w):=by
 refine en func21 ntmps21 ?_
 have H:=(((((St.start w).arg xy).arg zn).arg xR).arg xn).arg qX
 have zN:=qM qX
 have vW:=qM xn
 have jO:=qM xR
 have yH:=qM zn
 have jg:=qM xy
 clear qX xn xR zn xy
 have N:=Fresh.nil w.heap.size
 refine zcr (sw (zS H (yS s qJ qI qV qQ) fun b1 w2 H=>sw (zS H (yT t xg xf xF xA qU qR) fun b3 w4 H=>sw (xx H ti46 [yN,yN] fun b5 w6 H=>sp (yI 0) (zjcc (sw (xI (yS s qJ qI qV qQ) isAgg27 sizeOf27 rfl (qC (H.cells 2 rfl) 0 3) ?_)))))))
 refine sw (xI (yT t xg xf xF xA qU qR) isAgg31 sizeOf31 rfl (qC (H.cells 1 rfl) 0 3) (sw (oq (QZ _ s t (H.get 0 rfl).1 (H.get 1 rfl).1 (H.get 2 rfl).1 (H.get 3 rfl).1 (H.get 4 rfl).1) H fun w8 H=>sq 1 (zjn (cQ rfl (fun h10=>?_) (fun h10=>?_))))))
 ·skip
  refine zcr (sw (zO [yN,yN] [] (sw (xG H 0 [yN,yN] sizeOf46 fun w11 H=>sp (yI 1) (zjr (t_r ?_))))))
  replace H:=H.addNil (α:=qF)
  replace H:=H.addNil (α:=yLI)
  refine retC2 H 0 rfl (yI 1) rfl isAgg46 sizeOf46 rfl rfl ⟨_,rfl,?_,H.base⟩
  obtain ⟨z1,z2⟩:=exG_of (ex_1 ‹_›)
  rw [z1,z2]
  exact ⟨none,0,[],none,0,[],rfl,N.emp.emp,H.pick [] [1,0]⟩
 have k0:=(‹vK s∧xX s t›:vK s∧xX s t)
 have k1:=k0.1
 have k2:=k0.2
 obtain ⟨q7,q8,q9,q10⟩:=k2.sizes k1.1
 have q13:=fun k hk=>Nat.le_trans (q10 k hk) (by decide:8≤1000000)
 refine qW (t_n (zcr (sw (xI (yS s qJ qI qV qQ) isAgg27 sizeOf27 rfl (qC (H.cells 2 rfl) 0 3) (sw (xI (yT t xg xf xF xA qU qR) isAgg31 sizeOf31 rfl (qC (H.cells 1 rfl) 0 3) ?_))))))
 refine sw (zQ #[.agg #[yI s.xP,.slice qJ s.qA.length qI,.slice qV s.qB.length qQ],.agg #[.slice xg t.qG.length xf,.slice xF t.qN.length xA,.slice qU t.qH.length qR]] rfl rfl call66 (en func66 ntmps66 ?_))
 refine zcr (sw (zS H (yS s qJ qI qV qQ) fun b12 w13 H=>sw (zS H (yT t xg xf xF xA qU qR) fun b14 w15 H=>sw (xx H ti46 [yN,yN] fun b16 w17 H=>sp (yI 0) (zjc (sw (xI (yT t xg xf xF xA qU qR) isAgg31 sizeOf31 rfl (qC (H.cells 1 rfl) 0 3) ?_)))))))
 have sz21:=H.base.size
 refine sw (oc (Xd _ t (H.get 2 rfl).1 (H.get 3 rfl).1 (H.get 4 rfl).1 qg qg qg qg) ?_)
 rintro _ w19 ⟨ra18Alive,rn18Alive,rc18Alive,ra18Bags,rn18Bags,rc18Bags,rx18Bags,rF18Bags,ra18Around,rn18Around,rc18Around,rfl,M,K⟩ _
 replace N:=N.merge sz21 qm M
 replace H:=H.merge K M
 obtain rfl:=H.XC 0 rfl
 obtain rfl:=H.xK (α:=yLI) 1 rfl 0 rfl qj
 obtain rfl:=H.jm 2 rfl
 refine sw (zf H underlying38 ti31 (yT t ra18Alive rc18Alive ra18Bags rc18Bags ra18Around rc18Around) fun b26 w27 H=>sw (zO [.slice (aa b26 0) 1 1,yN] [(0,.slice (aa b26 0) 1 1)] (sw (xx H ti46 [yN,yN] fun b28 w29 H=>sw (xG H 0 [.slice (aa b26 0) 1 1,yN] sizeOf46 fun w30 H=>zjcc (sp (yI 0) (zjn (qY ?_))))))))
 replace H:=H.boxRow 1 rfl 3 1 rfl qj
 replace H:=H.zW (α:=qF)
 obtain ⟨G31,N,hn32,H⟩:=H.freezeB 2 rfl N (H.vS [1])
 have H0:=H
 obtain ⟨G33,hg35,hn34,H⟩:=H.yj (α:=yLI) 3 rfl 2 rfl qj
 replace N:Fresh w.heap.size [G33,G31]:=Fresh.ice (N.pick [1,0]) H0 3 hg35.1 hg35.2 (H0.vS [0])
 clear H0
 obtain ⟨G36,N,hn37,H⟩:=H.zG 4 rfl N (H.vS [0,1])
 replace H:=H.Q3 3 rfl 2 rfl 1 rfl 0 rfl
 replace N:Fresh w.heap.size [([]++(G31++G33++G36))]:=(N.emp.pick [3,2,1,0]).join.join.swap.join
 replace H:St _ _ [.box b28 [.slice (aa b26 0) 1 1,yN] 46,rr (aa b26 0) 1 1 31 3 (yT t ra18Alive rc18Alive ra18Bags rc18Bags ra18Around rc18Around),rr none 0 0 0 1 [],rr none 0 0 0 1 [],rr none 0 0 0 1 [],.box b16 [yN,yN] 46,.box b14 (yT t xg xf xF xA qU qR) 31,.box b12 (yS s qJ qI qV qQ) 27,.box b5 [yN,yN] 46,.box b3 (yT t xg xf xF xA qU qR) 31,.box b1 (yS s qJ qI qV qQ) 27] [xB true ([]++(G31++G33++G36)) (yT t ra18Alive rc18Alive ra18Bags rc18Bags ra18Around rc18Around) [t],sF true G36 ra18Around rc18Around t.qH,sF true G33 ra18Bags rc18Bags t.qN,sF true G31 ra18Alive rc18Alive t.qG,xB true [] [] ([]:List qF),xB true rF18Bags rx18Bags t.qN,sF false xu qJ qI s.qA,sF false zh qV qQ s.qB,sF false zu xg xf t.qG,sF false zU xF xA t.qN,sF false x9 qU qR t.qH]:=H
 replace H:=H.nilRow 24 1
 replace H:=H.zW (α:=yLI)
 refine zq ((fun Z0 Z1 Z2 Z3 Z4 Z5 Z6 Z7 Z8 Z9 Z10=>fun m' ρ w38=>∃ (xM:Env) (i:Nat) (yC:yOA) (yz:Nat) (jZ:Nat) (g_States:List qF) (Xz:List Value) (Qr:yLN) (yF:yOA) (yD:Nat) (yE:Nat) (g_Next:yLL) (x_g_Next:List Value) (yG:yLN),ρ=upd (upd (upd (upd xM 2 (pp b12 0)) 4 (pp b16 0)) 6 (pp b28 0)) 7 (yI i)∧(grRes s t=grGo s (302 - i) i g_States g_Next)∧(∀ u∈g_States,xX s u)∧(0 < g_States.length∧g_States.length≤300)∧(g_Next.length=i)∧(i≤g_States.length)∧(GrOk g_States g_Next)∧m' =(301 - i)∧Fresh w.heap.size [Qr,yG]∧St w w38 [rr yF yD yE 24 1 x_g_Next,.box b28 [.slice yC yz jZ,.slice yF yD yE] 46,rr yC yz jZ 31 3 Xz,Z0,Z1,Z2,Z3,Z4,Z5] [xB true yG x_g_Next g_Next,xB true Qr Xz g_States,Z6,Z7,Z8,Z9,Z10]) _ _ _ _ _ _ _ _ _ _ _) ((301 - 0)) ⟨_,0,(aa b26 0),1,1,[t],(yT t ra18Alive rc18Alive ra18Bags rc18Bags ra18Around rc18Around),([]++(G31++G33++G36)),none,0,0,([]:yLL),[],[],uE4,(by rfl),(by exact fun u hu=>by obtain rfl:=List.mem_singleton.1 hu;exact k2),qm,(by rfl),qm,(by exact GrOk.start t),rfl,(N.emp.pick [1,0]),H.pick [0,1,2,6,7,8,9,10,11] [0,1,7,8,9,10,11]⟩ ?_
 clear H N
 rintro m' ρ w39 ⟨xM,i,yC,yz,jZ,g_States,Xz,Qr,yF,yD,yE,g_Next,x_g_Next,yG,rfl,kr,ka,kl,kn,ki,ko,rfl,N,H⟩
 have hn_g_States:=H.xK (α:=qF) 2 rfl 1 rfl qj
 have hn_g_Next:=H.xK (α:=yLI) 0 rfl 0 rfl qj
 refine zcc (sp (yI i) (oF rfl (oL rfl (H.cell 1 rfl rfl) (oN rfl (sq 1 (zjn (cD rfl (fun h40=>?_) (fun h40=>?_))))))))
 ·skip
  have ks:=ka (g_States[i]!) (mem_at (k:=i) qf rfl)
  have nl:=succ_len s (g_States[i]!)
  refine qW (t_n (xQ (qY (xQ ?_))))
  refine jf rfl H fun H=>rt 0 _ (yh (cs:=(yS s qJ qI qV qQ)) isAgg27 sizeOf27 rfl (fun _ h=>qC (h.cells 5 rfl) 0 3)) H ?_
  refine tF 1 rfl rfl H ?_
  refine tL 2 rfl rfl (fun _ h=>h.cell 1 rfl rfl) H ?_
  refine rtp 3 (yI i) H ?_
  obtain ⟨b42,rfl⟩:=H.jW 2 rfl qf
  obtain ⟨ae43Alive,ce43Alive,Fe43Alive,ae43Bags,ce43Bags,Fe43Bags,ae43Around,ce43Around,Fe43Around,hx44,H⟩:=H.rowel_StateD 2 rfl 1 rfl (iv:=i) i qf qf
  have S:=H.jo [0,1,2,3,4,5,6,7,8] [3,4,5,6,7,8,9]
  refine tI 4 rfl rfl rfl S ?_
  refine rt 5 _ (yh (cs:=[.slice ae43Alive (((g_States[i]!).qG).length) ce43Alive,.slice ae43Bags (((g_States[i]!).qN).length) ce43Bags,.slice ae43Around (((g_States[i]!).qH).length) ce43Around]) isAgg31 sizeOf31 rfl (fun _ h=>qC (fun j v hj=>h.rowGet 2 rfl (hx44 j v hj)) 0 3)) S ?_
  refine ro 6 rfl ?_
  have sz48:=H.base.size
  have lt49:=H.ltN (L:=[Qr,yG]) [4,3]
  refine oc (nextStates_ok _ s (g_States[i]!) (H.get 5 rfl).1 (H.get 6 rfl).1 (H.get 0 rfl).1 (H.get 1 rfl).1 (H.get 2 rfl).1 qg qg) ?_
  rintro _ w46 ⟨ra45a,rn45a,rc45a,rx45a,rF45a,rfl,M,K⟩ _
  replace N:=N.merge sz48 lt49 M
  replace H:=H.merge K M
  obtain rfl:=H.xK (α:=qF) 0 rfl 0 rfl qj
  refine ⟨H.pick [1,2,3,4,5,6,7,8,9] [4,5,6,7,8,9,10],?_⟩
  have S:=H.jo [1,2,3,4,5,6,7,8,9] [4,5,6,7,8,9,10]
  refine rtl 7 S ?_
  refine rtl 8 S ?_
  refine rtl 9 S ?_
  refine rtl 10 S ?_
  refine rtl 11 S ?_
  refine xq qh (t_n (zcc (sq 1 (sp (.bool (((qZ s (g_States[i]!)).2:Int) != 0)) (zjn (xE (((qZ s (g_States[i]!)).2:Int) != 0) rfl (fun h51=>?_) (fun h51=>?_)))))))
  ·skip
   replace h51:=bne_iff_ne.1 h51
   refine zcr (sw (zO [yN,yN] [] (sq 1 (sw (xG H 4 [yN,yN] sizeOf46 fun w52 H=>sq 1 (zjr (t_r (zr5 (retC2 H 4 rfl (yI ((qZ s (g_States[i]!)).2)) rfl isAgg46 sizeOf46 rfl rfl ⟨_,rfl,?_⟩)))))))))
   replace H:=H.erases [6,5,4,3,2,1,0]
   dsimp only [vV,List.eraseIdx] at H
   refine sq 2 (sw (xG H 0 [yN,yN] sizeOf46 fun w53 H=>sq 1 (zjr ?_)))
   replace H:=H.addNil (α:=qF)
   replace H:=H.addNil (α:=yLI)
   refine retC2 H 0 rfl (yI ((qZ s (g_States[i]!)).2)) rfl isAgg46 sizeOf46 rfl rfl ⟨_,rfl,?_,H.base⟩
   obtain ⟨z1,z2⟩:=exG_of (ex_0 k0 (kr.trans (gr_code qf qf ql)))
   rw [z1,z2]
   exact ⟨none,0,[],none,0,[],rfl,(N.emp.emp.pick [0,1]),H.pick [] [1,0]⟩
  replace h51:=xm h51
  refine qW (t_n (zcr (sw (vU H underlying24 ti2 fun b54 w55 H=>sq 1 (zjcc (sq 1 (oN rfl (sp (yI 0) (zjn (qY ?_))))))))))
  have H0:=H
  obtain ⟨G56,hg58,hn57,H⟩:=H.yj (α:=qF) 1 rfl 0 rfl qj
  replace N:Fresh w.heap.size [G56,Qr,yG]:=Fresh.ice N H0 1 hg58.1 hg58.2 (H0.vS [5,4])
  clear H0
  obtain ⟨xs59,B60,P61,N,H⟩:=H.pool (α:=qF) 0 rfl N
  replace H:=H.boxRowI 0 [] 0
  refine zq ((fun Z0 Z1 Z2 Z3 Z4 Z5 Z6 Z7 Z8 Z9 Z10 Z11 Z12 Z13 Z14=>fun m' ρ w62=>∃ (xM:Env) (a_own:yOA) (n_own:Nat) (c_own:Nat) (own:yLI) (k:Nat) (Qa:yOA) (jb:Nat) (y9:Nat) (g_States_1:List qF) (Qy:List Value) (jK:yLN) (P_k:yLN),ρ=upd (upd (upd (upd (upd (upd (upd (upd xM 2 (pp b12 0)) 4 (pp b16 0)) 6 (pp b28 0)) 7 (yI i)) 10 (.slice a_own n_own c_own)) 40 (.slice ra45a (((qZ s (g_States[i]!)).1).length) rc45a)) 41 (yI (((qZ s (g_States[i]!)).1).length))) 42 (yI k)∧own=(zM g_States (qZ s (g_States[i]!)).1 k).2∧g_States_1=(zM g_States (qZ s (g_States[i]!)).1 k).1∧((k:Int)≤(((qZ s (g_States[i]!)).1).length))∧m' =((((qZ s (g_States[i]!)).1).length) - (k:Int)).toNat∧Fresh w.heap.size [yG,jK,P_k]∧St w w62 [rr a_own n_own c_own 2 1 (own.map (Value.int .i64)),Z0,.box b28 [.slice Qa jb y9,.slice yF yD yE] 46,rr Qa jb y9 31 3 Qy,Z1,Z2,Z3,Z4,Z5,Z6] [xB true P_k (xs59.drop (k * 3)) (((qZ s (g_States[i]!)).1).drop k),Z7,Z8,Z9,xB true jK Qy g_States_1,Z10,Z11,Z12,Z13,Z14]) _ _ _ _ _ _ _ _ _ _ _ _ _ _ _) (((((qZ s (g_States[i]!)).1).length) - (0:Int)).toNat) ⟨_,(aa b54 0),0,0,([]:yLI),0,(aa b42 0),yz,jZ,g_States,Xz,Qr,P61,uE8,(by rfl),(by rfl),qf,rfl,(N.pick [2,1,0]),H.pick [0,2,3,4,5,6,7,8,9,10] [0,1,2,7,8,9,10,11,12,13]⟩ ?_
  clear H N
  rintro m' ρ w63 ⟨xM,a_own,n_own,c_own,own,k,Qa,jb,y9,g_States_1,Qy,jK,P_k,rfl,rfl,rfl,i0,rfl,N,H⟩
  have hn_own:=H.jm 0 rfl
  have hn_g_States:=H.xK (α:=qF) 3 rfl 4 rfl qj
  obtain ⟨al1,al2,al3⟩:=Xh (S:=g_States) (nx:=(qZ s (g_States[i]!)).1) k
  refine zcr (sq 1 (zjn (xQ (cD rfl (fun h64=>?_) (fun h64=>?_)))))
  ·skip
   obtain ⟨b65,o66,rfl⟩:=H.addr 2 rfl qf
   obtain ⟨ae68Alive,ce68Alive,Fe68Alive,ae68Bags,ce68Bags,Fe68Bags,ae68Around,ce68Around,Fe68Around,P69,N,H⟩:=H.drain_StateD 1 rfl 0 rfl ((N.pick [2,0,1]):Fresh w.heap.size [P_k,yG,jK]) k k qf qf qf
   refine qW (t_n (xQ (qY (zcr (oI rfl rfl (sw (xI [.slice ae68Alive (((((qZ s (g_States[i]!)).1)[k]!).qG).length) ce68Alive,.slice ae68Bags (((((qZ s (g_States[i]!)).1)[k]!).qN).length) ce68Bags,.slice ae68Around (((((qZ s (g_States[i]!)).1)[k]!).qH).length) ce68Around] isAgg31 sizeOf31 rfl (qC (H.get 3 rfl) 0 3) (sw (xx H ti31 [yN,yN,yN] fun b70 w71 H=>?_)))))))))
   refine sw (xG H 0 [.slice ae68Alive (((((qZ s (g_States[i]!)).1)[k]!).qG).length) ce68Alive,.slice ae68Bags (((((qZ s (g_States[i]!)).1)[k]!).qN).length) ce68Bags,.slice ae68Around (((((qZ s (g_States[i]!)).1)[k]!).qH).length) ce68Around] sizeOf31 fun w72 H=>zjc (oF rfl (oL rfl (H.cell 3 rfl rfl) ?_)))
   refine sw (xI [.slice ae68Alive (((((qZ s (g_States[i]!)).1)[k]!).qG).length) ce68Alive,.slice ae68Bags (((((qZ s (g_States[i]!)).1)[k]!).qN).length) ce68Bags,.slice ae68Around (((((qZ s (g_States[i]!)).1)[k]!).qH).length) ce68Around] isAgg31 sizeOf31 rfl (qC (H.cells 0 rfl) 0 3) ?_)
   obtain ⟨G73,hn74,h75⟩:=H.yQ (α:=qF) 4 rfl 9 rfl qj
   refine sw (oq (XY (by rw [← hn74]) (find_ok _ ((zM g_States (qZ s (g_States[i]!)).1 k).1) (((qZ s (g_States[i]!)).1)[k]!) (hn74▸h75) (H.get 0 rfl).1 (H.get 1 rfl).1 (H.get 2 rfl).1)) H fun w77 H=>sq 1 (zjcc ?_))
   refine sq 1 (sp (.bool (decide ((firstIdx (fun zz=>decide (((zM g_States (qZ s (g_States[i]!)).1 k).1)[zz]! =(((qZ s (g_States[i]!)).1)[k]!))) ((zM g_States (qZ s (g_States[i]!)).1 k).1).length:Int) < 0))) (zjn (cD rfl (fun h79=>?_) (fun h79=>?_))))
   ·skip
    refine zcr (oF rfl (oL rfl (H.cell 3 rfl rfl) ?_))
    obtain ⟨G80,hn81,h82⟩:=H.yQ (α:=qF) 4 rfl 9 rfl qj
    refine sw (oq (XY (by rw [← hn81]) (sizeS_ok _ ((zM g_States (qZ s (g_States[i]!)).1 k).1) (hn81▸h82))) H fun w84 H=>sq 1 (zjn (xU (oF rfl (oL rfl (H.cell 3 rfl rfl) (sw (xI [.slice ae68Alive (((((qZ s (g_States[i]!)).1)[k]!).qG).length) ce68Alive,.slice ae68Bags (((((qZ s (g_States[i]!)).1)[k]!).qN).length) ce68Bags,.slice ae68Around (((((qZ s (g_States[i]!)).1)[k]!).qH).length) ce68Around] isAgg31 sizeOf31 rfl (qC (H.cells 0 rfl) 0 3) ?_)))))))
    refine sw (zf H underlying38 ti31 [.slice ae68Alive (((((qZ s (g_States[i]!)).1)[k]!).qG).length) ce68Alive,.slice ae68Bags (((((qZ s (g_States[i]!)).1)[k]!).qN).length) ce68Bags,.slice ae68Around (((((qZ s (g_States[i]!)).1)[k]!).qH).length) ce68Around] fun b86 w87 H=>sw (zk H 5 rfl 0 rfl underlying38 ti31 rfl qj rfl rfl rfl qw qp qf fun a88 c89 w90 H=>?_))
    replace H:=H.Q3 9 rfl 0 rfl 1 rfl 2 rfl
    replace N:Fresh w.heap.size [(jK++(Fe68Alive++Fe68Bags++Fe68Around)),P69,yG]:=(N.pick [0,1,2,5,3,4]).join.join.swap.join
    refine oF rfl (sw (xO H 4 [.slice a88 (jb+1) c89,.slice yF yD yE] sizeOf38 fun w91 H=>zjn (xU (sq 2 (sw (zf H underlying24 ti2 [yI (((zM g_States (qZ s (g_States[i]!)).1 k).1).length)] fun b92 w93 H=>sw (zk H 3 rfl 0 rfl underlying24 ti2 rfl qj rfl rfl rfl qw qp qf fun a94 c95 w96 H=>?_)))))))
    rw [snocI] at H
    refine sq 1 (xY (b_n (t_n (xU (sw (zA k 1 rfl rfl qf (sq 1 (xY (xe (m' :=((((qZ s (g_States[i]!)).1).length) - ((k+1):Int)).toNat) qf ⟨_,_,_,_,_,k+1,_,_,_,_,_,_,_,uE8,?_,?_,?_,rfl,(N.pick [2,0,1]),H.pick [3,4,5,6,7,8,9,10,11,12] [5,7,8,9,0,11,12,13,14,15]⟩)))))))))
    · first | exact (Xf (k:=k) ‹_›).2 | (refine Eq.trans ?_ (Xg (k:=k) ‹_›).2;congr 2 <;> omega)
    · first | exact (Xg (k:=k) ‹_›).1 | exact (Xf (k:=k) ‹_›).1
    · omega
   refine qW (t_n (xU (sq 2 (sw (zf H underlying24 ti2 [yI (firstIdx (fun zz=>decide (((zM g_States (qZ s (g_States[i]!)).1 k).1)[zz]! =(((qZ s (g_States[i]!)).1)[k]!))) ((zM g_States (qZ s (g_States[i]!)).1 k).1).length)] fun b97 w98 H=>?_)))))
   refine sw (zk H 2 rfl 0 rfl underlying24 ti2 rfl qj rfl rfl rfl qw qp qf fun a99 c100 w101 H=>?_)
   rw [snocI] at H
   refine sq 1 (xY (b_n (t_n (xU (sw (zA k 1 rfl rfl qf (sq 1 (xY (xe (m' :=((((qZ s (g_States[i]!)).1).length) - ((k+1):Int)).toNat) qf ⟨_,_,_,_,_,k+1,_,_,_,_,_,_,_,uE8,?_,?_,?_,rfl,(N.pick [4,5,3]),H.pick [2,3,4,5,6,7,8,9,10,11] [4,6,7,8,9,10,11,12,13,14]⟩)))))))))
   · first | exact (Xf (k:=k) ‹_›).2 | (refine Eq.trans ?_ (Xg (k:=k) ‹_›).2;congr 2 <;> omega)
   · first | exact (Xg (k:=k) ‹_›).1 | exact (Xf (k:=k) ‹_›).1
   · omega
  refine zx4 (zcc (oF rfl (oL rfl (H.cell 2 rfl rfl) (oN rfl (sp (.bool (decide ((jb:Int) > 300))) (zjn (cD rfl (fun h102=>?_) (fun h102=>?_))))))))
  ·skip
   refine zcr (sw (zO [yN,yN] [] (sw (xG H 4 [yN,yN] sizeOf46 fun w103 H=>sp (yI 3) (zjr (t_r (zr5 (retC2 H 4 rfl (yI 3) rfl isAgg46 sizeOf46 rfl rfl ⟨_,rfl,?_⟩))))))))
   replace H:=H.erases [6,5,4,3,2,1,0]
   dsimp only [vV,List.eraseIdx] at H
   refine sq 1 (sp (yI 3) (sw (xG H 0 [yN,yN] sizeOf46 fun w104 H=>sp (yI 3) (zjr ?_))))
   replace H:=H.addNil (α:=qF)
   replace H:=H.addNil (α:=yLI)
   refine retC2 H 0 rfl (yI 3) rfl isAgg46 sizeOf46 rfl rfl ⟨_,rfl,?_,H.base⟩
   obtain ⟨z1,z2⟩:=exG_of (ex_0 k0 (kr.trans (gr_many qf qf qf (k:=k) qf qf)))
   rw [z1,z2]
   exact ⟨none,0,[],none,0,[],rfl,(N.emp.emp.pick [0,1]),H.pick [] [1,0]⟩
  refine qW (t_n (xU (oF rfl (oL rfl (H.cell 2 rfl rfl) (sq 1 (sw (zf H underlying29 ti24 [.slice a_own n_own c_own] fun b105 w106 H=>?_)))))))
  obtain ⟨G110,N,hn111,H⟩:=H.zG 1 rfl N (H.vS [3,4,0])
  refine sw (zk H 2 rfl 0 rfl underlying29 ti24 rfl qj rfl rfl rfl qw qp qf fun a107 c108 w109 H=>?_)
  replace H:=H.jM 4 rfl 0 rfl
  replace N:Fresh w.heap.size [(yG++G110),jK,P_k]:=(N.pick [1,0,2,3]).join
  refine oF rfl (sw (xO H 3 [.slice Qa jb y9,.slice a107 (yD+1) c108] sizeOf29 fun w112 H=>xY (b_n (t_n (xU (sp (yI i) (sw (zA i 1 rfl rfl qf (sq 1 (xY (xe (m' :=(301 - (i+1))) qf ⟨_,i+1,_,_,_,_,_,_,_,_,_,_,_,_,uE4,?_,?_,?_,?_,?_,?_,rfl,(N.pick [1,0]),H.pick [2,3,4,5,6,7,8,9,10] [0,6,7,8,9,10,11]⟩)))))))))))
  · exact kr.trans (gr_go qf qf qf (k:=k) qf qf)
  · exact addSt_mem ka succ_ok k qf
  · omega
  · simp;omega
  · omega
  · exact ko.next qf qf
 refine zx4 (zcr (sw (xI [.slice yC yz jZ,.slice yF yD yE] isAgg46 sizeOf46 rfl (qC (H.cells 1 rfl) 0 2) (sw (xG H 3 [.slice yC yz jZ,.slice yF yD yE] sizeOf46 fun w113 H=>sp (yI 0) (zjr (retC2 H 3 rfl (yI 0) rfl isAgg46 sizeOf46 rfl rfl ⟨_,rfl,?_⟩)))))))
 replace H:=H.erases [5,4,3,1]
 dsimp only [vV,List.eraseIdx] at H
 refine sq 1 (sp (yI 0) (sw (xG H 2 [.slice yC yz jZ,.slice yF yD yE] sizeOf46 fun w114 H=>sp (yI 0) (zjr ?_))))
 have H0:=H
 obtain ⟨G115,hg117,hn116,H⟩:=H.yj (α:=qF) 1 rfl 1 rfl qj
 replace N:Fresh w.heap.size [G115,yG]:=Fresh.ice N H0 1 hg117.1 hg117.2 (H0.vS [0])
 clear H0
 obtain rfl:=H.isLen 0 rfl
 have H0:=H
 obtain ⟨G118,hg120,hn119,H⟩:=H.yj (α:=yLI) 0 rfl 1 rfl qj
 replace N:Fresh w.heap.size [G118,G115]:=Fresh.ice (N.pick [1,0]) H0 0 hg120.1 hg120.2 (H0.vS [0])
 clear H0
 obtain rfl:=H.isLen 0 rfl
 refine retC2 H 2 rfl (yI 0) rfl isAgg46 sizeOf46 rfl rfl ⟨_,rfl,?_,H.base⟩
 obtain ⟨z1,z2⟩:=exG_of (ex_0 k0 (kr.trans (gr_end qf)))
 rw [z1,z2]
 exact ⟨yC,jZ,G115,yF,yE,G118,rfl,(N.pick [1,0]),H.pick [] [1,0]⟩
theorem implST_ok (w:World) (s:qE) (t:qF) (u:qF) {qJ:yOA} {xu:yLN} {qV:yOA} {zh:yLN} {xg:yOA} {zu:yLN} {xF:yOA} {zU:yLN} {qU:yOA} {x9:yLN} {auAlive:yOA} {cuAlive:Nat} {FuAlive:yLN} {auBags:yOA} {cuBags:Nat} {FuBags:yLN} {XN:yOA} {XH:Nat} {FuAround:yLN} (qX:qO.rep w xu [.slice qJ s.qA.length qI] s.qA) (xn:qO.rep w zh [.slice qV s.qB.length qQ] s.qB) (xR:qO.rep w zu [.slice xg t.qG.length xf] t.qG) (zn:qO.rep w zU [.slice xF t.qN.length xA] t.qN) (xy:qO.rep w x9 [.slice qU t.qH.length qR] t.qH) (huAlive:qO.rep w FuAlive [.slice auAlive u.qG.length cuAlive] u.qG) (huBags:qO.rep w FuBags [.slice auBags u.qN.length cuBags] u.qN) (huAround:qO.rep w FuAround [.slice XN u.qH.length XH] u.qH):Calls Tryz.prog 25 #[.agg #[yI s.xP,.slice qJ s.qA.length qI,.slice qV s.qB.length qQ],.agg #[.slice xg t.qG.length xf,.slice xF t.qN.length xA,.slice qU t.qH.length qR],.agg #[.slice auAlive u.qG.length cuAlive,.slice auBags u.qN.length cuBags,.slice XN u.qH.length XH]] w (Ret (fun v w' =>∃ (ra0:yOA) (rc0:Nat) (rF0:yLN),v=.tuple #[.slice ra0 (((yl s t u).1).length) rc0,yI ((yl s t u).2)]∧Fresh w.heap.size [rF0]∧St w w' [] [sF true rF0 ra0 rc0 ((yl s t u).1)]) w):=by
 refine en func25 ntmps25 ?_
 have H:=((((((((St.start w).arg huAround).arg huBags).arg huAlive).arg xy).arg zn).arg xR).arg xn).arg qX
 have zN:=qM qX
 have vW:=qM xn
 have jO:=qM xR
 have yH:=qM zn
 have jg:=qM xy
 have nhuAlive:=qM huAlive
 have nhuBags:=qM huBags
 have nhuAround:=qM huAround
 clear qX xn xR zn xy huAlive huBags huAround
 have N:=Fresh.nil w.heap.size
 refine zcr (sw (zS H (yS s qJ qI qV qQ) fun b1 w2 H=>sw (zS H (yT t xg xf xF xA qU qR) fun b3 w4 H=>sw (zS H (yT u auAlive cuAlive auBags cuBags XN XH) fun b5 w6 H=>sq 1 (sp (yI 0) (zjcc ?_))))))
 refine sw (xI (yS s qJ qI qV qQ) isAgg27 sizeOf27 rfl (qC (H.cells 2 rfl) 0 3) (sw (xI (yT u auAlive cuAlive auBags cuBags XN XH) isAgg31 sizeOf31 rfl (qC (H.cells 0 rfl) 0 3) (sw (oq (QZ _ s u (H.get 0 rfl).1 (H.get 1 rfl).1 (H.get 5 rfl).1 (H.get 6 rfl).1 (H.get 7 rfl).1) H fun w8 H=>sq 1 (zjn (cQ rfl (fun h10=>?_) (fun h10=>?_))))))))
 ·skip
  refine zcr (sq 1 (sp (yI 1) (zjr (t_r ?_))))
  replace H:=H.addNil (α:=yLI)
  refine ret2 yN (yI 1) rfl rfl rfl ⟨_,rfl,?_,H.base⟩
  rw [st_1 ‹_›]
  exact ⟨none,0,[],rfl,N.emp,H.pick [] [0]⟩
 have kk:=(‹vK s∧xX s u›:vK s∧xX s u)
 have k1:=kk.1
 refine qW (t_n (zcr (sw (xI (yS s qJ qI qV qQ) isAgg27 sizeOf27 rfl (qC (H.cells 2 rfl) 0 3) (sw (xI (yT t xg xf xF xA qU qR) isAgg31 sizeOf31 rfl (qC (H.cells 1 rfl) 0 3) ?_))))))
 have sz14:=H.base.size
 refine sw (oc (implEx_ok _ s t (H.get 0 rfl).1 (H.get 1 rfl).1 (H.get 2 rfl).1 (H.get 3 rfl).1 (H.get 4 rfl).1) ?_)
 rintro _ w12 ⟨ra11aStates,rc11aStates,rF11aStates,ra11aNext,rc11aNext,rF11aNext,rfl,M,K⟩ _
 replace N:=N.merge sz14 qm M
 replace H:=H.merge K M
 refine sq 3 (sw (xx H ti46 [yN,yN] fun b16 w17 H=>sw (xG H 0 [.slice ra11aStates (((exG s t).qK).length) rc11aStates,.slice ra11aNext (((exG s t).fNext).length) rc11aNext] sizeOf46 fun w18 H=>sq 1 (zjcc ?_))))
 refine sq 1 (sp (.bool (((XZ s t).2:Int) != 0)) (zjn (xE (((XZ s t).2:Int) != 0) rfl (fun h19=>?_) (fun h19=>?_))))
 ·skip
  replace h19:=bne_iff_ne.1 h19
  refine zcr (sq 3 (zjr (t_r ?_)))
  replace H:=H.addNil (α:=yLI)
  refine ret2 yN (yI ((XZ s t).2)) rfl rfl rfl ⟨_,rfl,?_,H.base⟩
  rw [st_c kk ql]
  exact ⟨none,0,[],rfl,(N.emp.pick [0]),H.pick [] [0]⟩
 replace h19:=xm h19
 have c0:(XZ s t).2=0:=by omega
 have ga:=ex_all c0
 have gx:=ex_nx c0
 have gn:=ga.len
 have gl:=ga.le
 have g1:=ga.ok
 have g4:=ga.st
 refine qW (t_n (zcr (oF rfl (oL rfl (H.cell 0 rfl rfl) (sw (xI (yT u auAlive cuAlive auBags cuBags XN XH) isAgg31 sizeOf31 rfl (qC (H.cells 1 rfl) 0 3) (sw (oq (find_ok _ ((exG s t).qK) u (H.get 0 rfl).1 (H.get 7 rfl).1 (H.get 8 rfl).1 (H.get 9 rfl).1) H fun w21 H=>sq 1 (zjcc ?_)))))))))
 refine sq 1 (sp (.bool (decide ((firstIdx (fun zz=>decide (((exG s t).qK)[zz]! =u)) ((exG s t).qK).length:Int) < 0))) (zjn (cD rfl (fun h23=>?_) (fun h23=>?_))))
 ·skip
  refine zcr (sq 1 (sp (yI 6) (zjr (t_r ?_))))
  replace H:=H.addNil (α:=yLI)
  refine ret2 yN (yI 6) rfl rfl rfl ⟨_,rfl,?_,H.base⟩
  rw [st_6 kk c0 ql]
  exact ⟨none,0,[],rfl,(N.emp.pick [0]),H.pick [] [0]⟩
 have fi:0≤firstIdx (fun zz=>decide ((exG s t).qK[zz]! =u)) (exG s t).qK.length∧(firstIdx (fun zz=>decide ((exG s t).qK[zz]! =u)) (exG s t).qK.length).toNat < (exG s t).qK.length:=⟨by omega,firstIdx_lt qf⟩
 refine qW (t_n (zcr (sw (xI (yS s qJ qI qV qQ) isAgg27 sizeOf27 rfl (qC (H.cells 3 rfl) 0 3) (sw (xI [.slice ra11aStates (((exG s t).qK).length) rc11aStates,.slice ra11aNext (((exG s t).fNext).length) rc11aNext] isAgg46 sizeOf46 rfl (qC (H.cells 0 rfl) 0 2) (sq 1 ?_)))))))
 have sz27:=H.base.size
 have lt28:=H.ltN (L:=[rF11aStates,rF11aNext]) [0,1]
 refine sw (oc (path_ok _ s (exG s t) (firstIdx (fun zz=>decide (((exG s t).qK)[zz]! =u)) ((exG s t).qK).length) (H.get 2 rfl).1 (H.get 3 rfl).1 (H.get 0 rfl).1 (H.get 1 rfl).1 qg qg qg qg qg qg qg) ?_)
 rintro _ w25 ⟨ra24a,rc24a,rF24a,rfl,M,K⟩ _
 replace N:=N.merge sz27 lt28 M
 replace H:=H.merge K M
 refine sq 1 (sp (yI 0) (sq 1 (sp (yI 0) (zjr (ret2 (.slice ra24a ((wayL s (exG s t).qK (exG s t).fNext ((firstIdx (fun zz=>decide (((exG s t).qK)[zz]! =u)) ((exG s t).qK).length):Int).toNat).length) rc24a) (yI 0) rfl rfl rfl ⟨_,rfl,?_,H.base⟩)))))
 rw [st_0 kk c0 qf]
 exact ⟨ra24a,rc24a,rF24a,rfl,(N.pick [0]),H.pick [] [0]⟩
theorem implSA_ok (w:World) (s:qE) (t:qF) (steps:Int) {qJ:yOA} {xu:yLN} {qV:yOA} {zh:yLN} {xg:yOA} {zu:yLN} {xF:yOA} {zU:yLN} {qU:yOA} {x9:yLN} (qX:qO.rep w xu [.slice qJ s.qA.length qI] s.qA) (xn:qO.rep w zh [.slice qV s.qB.length qQ] s.qB) (xR:qO.rep w zu [.slice xg t.qG.length xf] t.qG) (zn:qO.rep w zU [.slice xF t.qN.length xA] t.qN) (xy:qO.rep w x9 [.slice qU t.qH.length qR] t.qH):Calls Tryz.prog 27 #[.agg #[yI s.xP,.slice qJ s.qA.length qI,.slice qV s.qB.length qQ],.agg #[.slice xg t.qG.length xf,.slice xF t.qN.length xA,.slice qU t.qH.length qR],yI steps] w (Ret (fun v w' =>∃ (ra0:yOA) (rc0:Nat) (rF0:yLN),v=.tuple #[.slice ra0 (((XB s t steps).1).length) rc0,yI ((XB s t steps).2)]∧Fresh w.heap.size [rF0]∧St w w' [] [sF true rF0 ra0 rc0 ((XB s t steps).1)]) w):=by
 refine en func27 ntmps27 ?_
 have H:=(((((St.start w).arg xy).arg zn).arg xR).arg xn).arg qX
 have zN:=qM qX
 have vW:=qM xn
 have jO:=qM xR
 have yH:=qM zn
 have jg:=qM xy
 clear qX xn xR zn xy
 have N:=Fresh.nil w.heap.size
 refine zcr (sw (zS H (yS s qJ qI qV qQ) fun b1 w2 H=>sw (zS H (yT t xg xf xF xA qU qR) fun b3 w4 H=>sq 1 (sp (yI 0) (zjcc (sw (xI (yS s qJ qI qV qQ) isAgg27 sizeOf27 rfl (qC (H.cells 1 rfl) 0 3) ?_)))))))
 refine sw (xI (yT t xg xf xF xA qU qR) isAgg31 sizeOf31 rfl (qC (H.cells 0 rfl) 0 3) (sw (oq (QZ _ s t (H.get 0 rfl).1 (H.get 1 rfl).1 (H.get 2 rfl).1 (H.get 3 rfl).1 (H.get 4 rfl).1) H fun w6 H=>sq 1 (zjn (cQ rfl (fun h8=>?_) (fun h8=>?_))))))
 ·skip
  refine zcr (sq 1 (sp (yI 1) (zjr (t_r ?_))))
  replace H:=H.addNil (α:=qF)
  refine ret2 yN (yI 1) rfl rfl rfl ⟨_,rfl,?_,H.base⟩
  rw [sa_1 ‹_›]
  exact ⟨none,0,[],rfl,N.emp,H.pick [] [0]⟩
 have k0:=(‹vK s∧xX s t›:vK s∧xX s t)
 have k1:=k0.1
 have k2:=k0.2
 obtain ⟨q7,q8,q9,q10⟩:=k2.sizes k1.1
 have q13:=fun k hk=>Nat.le_trans (q10 k hk) (by decide:8≤1000000)
 refine qW (t_n (zcc (sq 1 (sw (oq (Xj w6 steps 0 200) H fun w9 H=>sq 1 (zjn (xE _ rfl (fun h11=>?_) (fun h11=>?_))))))))
 ·skip
  replace h11:=xJ h11
  replace h11:=Xk h11
  refine zcr (sq 1 (sp (yI 2) (zjr (t_r ?_))))
  replace H:=H.addNil (α:=qF)
  refine ret2 yN (yI 2) rfl rfl rfl ⟨_,rfl,?_,H.base⟩
  rw [sa_2 k0 ‹_›]
  exact ⟨none,0,[],rfl,N.emp,H.pick [] [0]⟩
 replace h11:=xw h11
 replace h11:=QJ.1 h11
 refine qW (t_n (zcr (sw (xI (yT t xg xf xF xA qU qR) isAgg31 sizeOf31 rfl (qC (H.cells 0 rfl) 0 3) ?_))))
 have sz15:=H.base.size
 refine sw (oc (Xd _ t (H.get 2 rfl).1 (H.get 3 rfl).1 (H.get 4 rfl).1 qg qg qg qg) ?_)
 rintro _ w13 ⟨ra12Alive,rn12Alive,rc12Alive,ra12Bags,rn12Bags,rc12Bags,rx12Bags,rF12Bags,ra12Around,rn12Around,rc12Around,rfl,M,K⟩ _
 replace N:=N.merge sz15 qm M
 replace H:=H.merge K M
 obtain rfl:=H.XC 0 rfl
 obtain rfl:=H.xK (α:=yLI) 1 rfl 0 rfl qj
 obtain rfl:=H.jm 2 rfl
 refine sw (zf H underlying38 ti31 (yT t ra12Alive rc12Alive ra12Bags rc12Bags ra12Around rc12Around) fun b20 w21 H=>sq 1 (zjcc (sq 1 (sp (yI 0) (zjn (qY ?_))))))
 replace H:=H.boxRow 0 rfl 3 1 rfl qj
 replace H:=H.zW (α:=qF)
 obtain ⟨G22,N,hn23,H⟩:=H.freezeB 1 rfl N (H.vS [1])
 have H0:=H
 obtain ⟨G24,hg26,hn25,H⟩:=H.yj (α:=yLI) 2 rfl 2 rfl qj
 replace N:Fresh w.heap.size [G24,G22]:=Fresh.ice (N.pick [1,0]) H0 2 hg26.1 hg26.2 (H0.vS [0])
 clear H0
 obtain ⟨G27,N,hn28,H⟩:=H.zG 3 rfl N (H.vS [0,1])
 replace H:=H.Q3 3 rfl 2 rfl 1 rfl 0 rfl
 replace N:Fresh w.heap.size [([]++(G22++G24++G27))]:=(N.emp.pick [3,2,1,0]).join.join.swap.join
 replace H:St _ _ [rr (aa b20 0) 1 1 31 3 (yT t ra12Alive rc12Alive ra12Bags rc12Bags ra12Around rc12Around),rr none 0 0 0 1 [],rr none 0 0 0 1 [],rr none 0 0 0 1 [],.box b3 (yT t xg xf xF xA qU qR) 31,.box b1 (yS s qJ qI qV qQ) 27] [xB true ([]++(G22++G24++G27)) (yT t ra12Alive rc12Alive ra12Bags rc12Bags ra12Around rc12Around) [t],sF true G27 ra12Around rc12Around t.qH,sF true G24 ra12Bags rc12Bags t.qN,sF true G22 ra12Alive rc12Alive t.qG,xB true [] [] ([]:List qF),xB true rF12Bags rx12Bags t.qN,sF false xu qJ qI s.qA,sF false zh qV qQ s.qB,sF false zu xg xf t.qG,sF false zU xF xA t.qN,sF false x9 qU qR t.qH]:=H
 refine zq ((fun Z0 Z1 Z2 Z3 Z4 Z5 Z6=>fun m' ρ w29=>∃ (xM:Env) (a_list:yOA) (n_list:Nat) (c_list:Nat) (list:List qF) (x_list:List Value) (F_list:yLN) (k:Nat),ρ=upd (upd (upd (upd xM 3 (pp b1 0)) 8 (.slice a_list n_list c_list)) 26 (yI steps)) 27 (yI k)∧((k:Int)≤steps)∧(XB s t steps=saRun s (steps.toNat - k) list)∧(∀ u∈list,xX s u)∧(list.length≤300)∧m' =(steps - (k:Int)).toNat∧Fresh w.heap.size [F_list]∧St w w29 [rr a_list n_list c_list 31 3 x_list,Z0,Z1] [xB true F_list x_list list,Z2,Z3,Z4,Z5,Z6]) _ _ _ _ _ _ _) ((steps - (0:Int)).toNat) ⟨_,(aa b20 0),1,1,[t],(yT t ra12Alive rc12Alive ra12Bags rc12Bags ra12Around rc12Around),([]++(G22++G24++G27)),0,uE4,qf,(by exact sa_0 k0 qf),(by exact fun u hu=>by obtain rfl:=List.mem_singleton.1 hu;exact k2),qm,rfl,N,H.pick [0,4,5] [0,6,7,8,9,10]⟩ ?_
 clear H N
 rintro m' ρ w30 ⟨xM,a_list,n_list,c_list,list,x_list,F_list,k,rfl,i0,kr,ka,kl,rfl,N,H⟩
 have hn_list:=H.xK (α:=qF) 0 rfl 0 rfl qj
 refine zcr (sq 1 (zjn (xQ (cD rfl (fun h31=>?_) (fun h31=>?_)))))
 ·skip
  refine qW (t_n (xQ (qY (zcr (sw (vU H underlying38 ti31 fun b32 w33 H=>sq 1 (zjcc (sq 1 (oN rfl (sp (yI 0) (zjn (qY ?_))))))))))))
  replace H:=H.boxRow 0 rfl 3 0 rfl qj
  replace H:=H.zW (α:=qF)
  replace H:St _ _ [rr (aa b32 0) 0 0 31 3 [],rr a_list n_list c_list 31 3 x_list,.box b3 (yT t xg xf xF xA qU qR) 31,.box b1 (yS s qJ qI qV qQ) 27] [xB true [] [] ([]:List qF),xB true F_list x_list list,sF false xu qJ qI s.qA,sF false zh qV qQ s.qB,sF false zu xg xf t.qG,sF false zU xF xA t.qN,sF false x9 qU qR t.qH]:=H
  refine zq ((fun Z0 Z1 Z2 Z3 Z4 Z5 Z6 Z7 Z8=>fun m' ρ w34=>∃ (xM:Env) (a_next:yOA) (n_next:Nat) (c_next:Nat) (next:List qF) (x_next:List Value) (F_next:yLN) (k_1:Nat),ρ=upd (upd (upd (upd (upd (upd (upd xM 3 (pp b1 0)) 9 (.slice a_next n_next c_next)) 26 (yI steps)) 27 (yI k)) 30 (.slice a_list n_list c_list)) 31 (yI n_list)) 32 (yI k_1)∧((k_1:Int)≤n_list)∧(saGo s (list.drop k_1) next=saGo s list [])∧(∀ u∈next,xX s u)∧(next.length≤300)∧m' =(n_list - (k_1:Int)).toNat∧Fresh w.heap.size [F_list,F_next]∧St w w34 [rr a_next n_next c_next 31 3 x_next,Z0,Z1,Z2] [xB true F_next x_next next,Z3,Z4,Z5,Z6,Z7,Z8]) _ _ _ _ _ _ _ _ _) ((n_list - (0:Int)).toNat) ⟨_,(aa b32 0),0,0,([]:List qF),[],[],0,uE7,qf,(by rfl),qm,qm,rfl,(N.emp.pick [1,0]),H⟩ ?_
  clear H N
  rintro m' ρ w35 ⟨xM,a_next,n_next,c_next,next,x_next,F_next,k_1,rfl,i0,kg,kb,km,rfl,N,H⟩
  have hn_next:=H.xK (α:=qF) 0 rfl 0 rfl qj
  refine zcr (sq 1 (zjn (xQ (cD rfl (fun h36=>?_) (fun h36=>?_)))))
  ·skip
   have ks:=ka (list[k_1]!) (mem_at (k:=k_1) qf rfl)
   have nl:=succ_len s (list[k_1]!)
   refine qW (t_n (xQ (qY (zcr ?_))))
   obtain ⟨b37,rfl⟩:=H.jW 1 rfl qf
   obtain ⟨ae38Alive,ce38Alive,Fe38Alive,ae38Bags,ce38Bags,Fe38Bags,ae38Around,ce38Around,Fe38Around,hx39,H⟩:=H.rowel_StateD 1 rfl 1 rfl (iv:=k_1) k_1 qf qf
   refine oI rfl rfl (sw (xI [.slice ae38Alive (((list[k_1]!).qG).length) ce38Alive,.slice ae38Bags (((list[k_1]!).qN).length) ce38Bags,.slice ae38Around (((list[k_1]!).qH).length) ce38Around] isAgg31 sizeOf31 rfl (qC (fun j v hj=>H.rowGet 1 rfl (hx39 j v hj)) 0 3) (sw (xx H ti31 [yN,yN,yN] fun b40 w41 H=>sw (xG H 0 [.slice ae38Alive (((list[k_1]!).qG).length) ce38Alive,.slice ae38Bags (((list[k_1]!).qN).length) ce38Bags,.slice ae38Around (((list[k_1]!).qH).length) ce38Around] sizeOf31 fun w42 H=>zjc ?_)))))
   refine sw (xI (yS s qJ qI qV qQ) isAgg27 sizeOf27 rfl (qC (H.cells 4 rfl) 0 3) (sw (xI [.slice ae38Alive (((list[k_1]!).qG).length) ce38Alive,.slice ae38Bags (((list[k_1]!).qN).length) ce38Bags,.slice ae38Around (((list[k_1]!).qH).length) ce38Around] isAgg31 sizeOf31 rfl (qC (H.cells 0 rfl) 0 3) ?_)))
   have sz46:=H.base.size
   have lt47:=H.ltN (L:=[F_list,F_next]) [4,3]
   refine sw (oc (nextStates_ok _ s (list[k_1]!) (H.get 5 rfl).1 (H.get 6 rfl).1 (H.get 0 rfl).1 (H.get 1 rfl).1 (H.get 2 rfl).1 qg qg) ?_)
   rintro _ w44 ⟨ra43a,rn43a,rc43a,rx43a,rF43a,rfl,M,K⟩ _
   replace N:=N.merge sz46 lt47 M
   replace H:=H.merge K M
   obtain rfl:=H.xK (α:=qF) 0 rfl 0 rfl qj
   refine sq 5 (zjcc (sq 1 (sp (.bool (((qZ s (list[k_1]!)).2:Int) != 0)) (zjn (xE (((qZ s (list[k_1]!)).2:Int) != 0) rfl (fun h49=>?_) (fun h49=>?_))))))
   ·skip
    replace h49:=bne_iff_ne.1 h49
    refine zcr (sq 3 (zjr (t_r (zr5 (zr5 ?_)))))
    replace H:=H.addNil (α:=qF)
    refine ret2 yN (yI ((qZ s (list[k_1]!)).2)) rfl rfl rfl ⟨_,rfl,?_,H.base⟩
    rw [kr,sr_err qf (kg.symm.trans (sa_code qf ql)) ql]
    exact ⟨none,0,[],rfl,(N.emp.pick [0]),H.pick [] [0]⟩
   replace h49:=xm h49
   refine qW (t_n (zcc (sq 1 (oN rfl (sp (yI 0) (zjn (qY ?_)))))))
   have H0:=H
   obtain ⟨G50,hg52,hn51,H⟩:=H.yj (α:=qF) 0 rfl 0 rfl qj
   replace N:Fresh w.heap.size [G50,F_list,F_next]:=Fresh.ice N H0 0 hg52.1 hg52.2 (H0.vS [5,4])
   clear H0
   obtain ⟨xs53,B54,P55,N,H⟩:=H.pool (α:=qF) 0 rfl N
   refine zq ((fun Z0 Z1 Z2 Z3 Z4 Z5 Z6 Z7 Z8 Z9 Z10 Z11 Z12 Z13 Z14=>fun m' ρ w56=>∃ (xM:Env) (XT:yOA) (Q5:Nat) (XK:Nat) (next_1:List qF) (x_next_1:List Value) (Qn:yLN) (k_51:Nat) (P_k_51:yLN),ρ=upd (upd (upd (upd (upd (upd (upd (upd (upd (upd xM 3 (pp b1 0)) 9 (.slice XT Q5 XK)) 26 (yI steps)) 27 (yI k)) 30 (.slice (aa b37 0) n_list c_list)) 31 (yI n_list)) 32 (yI k_1)) 45 (.slice ra43a (((qZ s (list[k_1]!)).1).length) rc43a)) 46 (yI (((qZ s (list[k_1]!)).1).length))) 47 (yI k_51)∧next_1=(zM next (qZ s (list[k_1]!)).1 k_51).1∧((k_51:Int)≤(((qZ s (list[k_1]!)).1).length))∧m' =((((qZ s (list[k_1]!)).1).length) - (k_51:Int)).toNat∧Fresh w.heap.size [F_list,Qn,P_k_51]∧St w w56 [Z0,rr XT Q5 XK 31 3 x_next_1,Z1,Z2,Z3] [xB true P_k_51 (xs53.drop (k_51 * 3)) (((qZ s (list[k_1]!)).1).drop k_51),Z4,Z5,Z6,Z7,Z8,xB true Qn x_next_1 next_1,Z9,Z10,Z11,Z12,Z13,Z14]) _ _ _ _ _ _ _ _ _ _ _ _ _ _ _) (((((qZ s (list[k_1]!)).1).length) - (0:Int)).toNat) ⟨_,a_next,n_next,c_next,next,x_next,F_next,0,P55,uE10,(by rfl),qf,rfl,(N.pick [1,2,0]),H.pick [1,2,3,4,5] [0,1,2,4,5,6,7,8,9,10,11,12,13]⟩ ?_
   clear H N
   rintro m' ρ w57 ⟨xM,XT,Q5,XK,next_1,x_next_1,Qn,k_51,P_k_51,rfl,rfl,i0,rfl,N,H⟩
   have hn_next:=H.xK (α:=qF) 1 rfl 6 rfl qj
   obtain ⟨al1,al2,al3⟩:=Xh (S:=next) (nx:=(qZ s (list[k_1]!)).1) k_51
   refine zcr (sq 1 (zjn (xQ (cD rfl (fun h58=>?_) (fun h58=>?_)))))
   ·skip
    obtain ⟨b59,o60,rfl⟩:=H.addr 2 rfl qf
    obtain ⟨ae62Alive,ce62Alive,Fe62Alive,ae62Bags,ce62Bags,Fe62Bags,ae62Around,ce62Around,Fe62Around,P63,N,H⟩:=H.drain_StateD 1 rfl 0 rfl ((N.pick [2,0,1]):Fresh w.heap.size [P_k_51,F_list,Qn]) k_51 k_51 qf qf qf
    refine qW (t_n (xQ (qY (zcr (oI rfl rfl (sw (xI [.slice ae62Alive (((((qZ s (list[k_1]!)).1)[k_51]!).qG).length) ce62Alive,.slice ae62Bags (((((qZ s (list[k_1]!)).1)[k_51]!).qN).length) ce62Bags,.slice ae62Around (((((qZ s (list[k_1]!)).1)[k_51]!).qH).length) ce62Around] isAgg31 sizeOf31 rfl (qC (H.get 3 rfl) 0 3) (sw (xx H ti31 [yN,yN,yN] fun b64 w65 H=>?_)))))))))
    refine sw (xG H 0 [.slice ae62Alive (((((qZ s (list[k_1]!)).1)[k_51]!).qG).length) ce62Alive,.slice ae62Bags (((((qZ s (list[k_1]!)).1)[k_51]!).qN).length) ce62Bags,.slice ae62Around (((((qZ s (list[k_1]!)).1)[k_51]!).qH).length) ce62Around] sizeOf31 fun w66 H=>zjc (sq 1 ?_))
    refine sw (xI [.slice ae62Alive (((((qZ s (list[k_1]!)).1)[k_51]!).qG).length) ce62Alive,.slice ae62Bags (((((qZ s (list[k_1]!)).1)[k_51]!).qN).length) ce62Bags,.slice ae62Around (((((qZ s (list[k_1]!)).1)[k_51]!).qH).length) ce62Around] isAgg31 sizeOf31 rfl (qC (H.cells 0 rfl) 0 3) ?_)
    obtain ⟨G67,hn68,h69⟩:=H.yQ (α:=qF) 2 rfl 11 rfl qj
    refine sw (oq (XY (by rw [← hn68]) (find_ok _ ((zM next (qZ s (list[k_1]!)).1 k_51).1) (((qZ s (list[k_1]!)).1)[k_51]!) (hn68▸h69) (H.get 0 rfl).1 (H.get 1 rfl).1 (H.get 2 rfl).1)) H fun w71 H=>sp (.bool (decide ((firstIdx (fun zz=>decide (((zM next (qZ s (list[k_1]!)).1 k_51).1)[zz]! =(((qZ s (list[k_1]!)).1)[k_51]!))) ((zM next (qZ s (list[k_1]!)).1 k_51).1).length:Int) < 0))) (zjn (cD rfl (fun h73=>?_) (fun h73=>?_))))
    ·skip
     refine xU (sq 1 (sw (xI [.slice ae62Alive (((((qZ s (list[k_1]!)).1)[k_51]!).qG).length) ce62Alive,.slice ae62Bags (((((qZ s (list[k_1]!)).1)[k_51]!).qN).length) ce62Bags,.slice ae62Around (((((qZ s (list[k_1]!)).1)[k_51]!).qH).length) ce62Around] isAgg31 sizeOf31 rfl (qC (H.cells 0 rfl) 0 3) ?_)))
     refine sw (zf H underlying38 ti31 [.slice ae62Alive (((((qZ s (list[k_1]!)).1)[k_51]!).qG).length) ce62Alive,.slice ae62Bags (((((qZ s (list[k_1]!)).1)[k_51]!).qN).length) ce62Bags,.slice ae62Around (((((qZ s (list[k_1]!)).1)[k_51]!).qH).length) ce62Around] fun b74 w75 H=>sw (zk H 3 rfl 0 rfl underlying38 ti31 rfl qj rfl rfl rfl qw qp qf fun a76 c77 w78 H=>?_))
     replace H:=H.Q3 11 rfl 0 rfl 1 rfl 2 rfl
     replace N:Fresh w.heap.size [(Qn++(Fe62Alive++Fe62Bags++Fe62Around)),P63,F_list]:=(N.pick [0,1,2,5,3,4]).join.join.swap.join
     refine sq 1 (xY (b_n (t_n (xU (sw (zA k_51 1 rfl rfl qf (sq 1 (xY (xe (m' :=((((qZ s (list[k_1]!)).1).length) - ((k_51+1):Int)).toNat) qf ⟨_,_,_,_,_,_,_,k_51+1,_,uE10,?_,?_,rfl,(N.pick [2,0,1]),H.pick [2,3,4,5,6] [5,7,8,9,10,11,0,13,14,15,16,17,18]⟩)))))))))
     · first | exact (Xg (k:=k_51) ‹_›).1 | exact (Xf (k:=k_51) ‹_›).1
     · omega
    refine qW (b_n (t_n (xU (sw (zA k_51 1 rfl rfl qf (sq 1 (xY (xe (m' :=((((qZ s (list[k_1]!)).1).length) - ((k_51+1):Int)).toNat) qf ⟨_,_,_,_,_,_,_,k_51+1,_,uE10,?_,?_,rfl,(N.pick [4,5,3]),H.pick [1,2,3,4,5] [4,6,7,8,9,10,11,12,13,14,15,16,17]⟩))))))))
    · first | exact (Xg (k:=k_51) ‹_›).1 | exact (Xf (k:=k_51) ‹_›).1
    · omega
   refine zx4 (zcr (sq 1 (oN rfl (sp (.bool (decide ((Q5:Int) > 300))) (zjn (cD rfl (fun h79=>?_) (fun h79=>?_)))))))
   ·skip
    refine zcr (sq 1 (sp (yI 3) (zjr (zr5 (zr5 ?_)))))
    replace H:=H.addNil (α:=qF)
    refine ret2 yN (yI 3) rfl rfl rfl ⟨_,rfl,?_,H.base⟩
    rw [kr,sr_err qf (kg.symm.trans (sa_many qf qf (k:=k_51) qf qf)) qj]
    exact ⟨none,0,[],rfl,(N.emp.pick [0]),H.pick [] [0]⟩
   refine qW (b_n (t_n (xU (sw (zA k_1 1 rfl rfl qf (sq 1 (xY (xe (m' :=(n_list - ((k_1+1):Int)).toNat) qf ⟨_,_,_,_,_,_,_,k_1+1,uE7,?_,?_,?_,?_,rfl,(N.pick [0,1]),H.pick [1,2,3,4] [6,7,8,9,10,11,12]⟩))))))))
   · omega
   · exact (sa_go qf qf qf qf).symm.trans kg
   · exact addSt_mem kb succ_ok _ qf
   · omega
  refine zx4 (xU (sq 2 (xY (b_n (t_n (xU (sw (zA k 1 rfl rfl qf (sq 1 (xY (xe (m' :=(steps - ((k+1):Int)).toNat) qf ⟨_,_,_,_,_,_,_,k+1,uE4,?_,?_,?_,?_,rfl,(N.pick [1]),H.pick [0,2,3] [0,2,3,4,5,6]⟩)))))))))))
  · omega
  · exact kr.trans (sr_go qf (kg.symm.trans (sa_end qf)))
  · assumption
  · omega
 refine zx4 (zcr (sq 2 (sp (yI 0) (zjr ?_))))
 have H0:=H
 obtain ⟨G80,hg82,hn81,H⟩:=H.yj (α:=qF) 0 rfl 0 rfl qj
 replace N:Fresh w.heap.size [G80]:=Fresh.ice N H0 0 hg82.1 hg82.2 (H0.vS [])
 clear H0
 obtain rfl:=H.isLen 0 rfl
 refine ret2 (.slice a_list list.length c_list) (yI 0) rfl rfl rfl ⟨_,rfl,?_,H.base⟩
 rw [kr,sr_end qf]
 exact ⟨a_list,c_list,G80,rfl,N,H.pick [] [0]⟩
end
section

theorem packs_rest {K:Nat} {parts:yLL} (hP:PartsOk K parts):∀ (f k:Nat) (rest y:yLI),k+f=parts.length→RestOk K rest→y∈packs parts f k rest→
    ∃ r,r.length=K∧FullOk parts r∧∀ q,q < K→r[q]! =rest[q]! - dotP y (parts.drop k) q
  | 0,k,rest,y,hk,hR,h=>by
    rw [packs] at h
    split at h
    · next hf=>
      obtain rfl:=List.mem_singleton.1 h
      exact ⟨rest,hR.1,hf,fun q hq=>by simp only [dotP];omega⟩
    · simp at h
  | f+1,k,rest,y,hk,hR,h=>by
    rw [packs,List.mem_flatMap] at h
    obtain ⟨n,hn,h⟩:=h
    obtain ⟨y',hy,rfl⟩:=List.mem_map.1 h
    have hb:=times_bd hP hR (k:=k) qf
    rw [List.mem_range] at hn
    obtain ⟨r,h1,h2,h3⟩:=packs_rest hP f (k+1) _ y' qf (hR.take hP qf (n:=(n:Int)) qf qf) hy
    refine ⟨r,h1,h2,fun q hq=>?_⟩
    have hd:parts.drop k=parts[k]! :: parts.drop (k+1):=by rw [getElem!_pos parts k qf];exact (List.drop_eq_getElem_cons qf)
    rw [h3 q hq,plus_get (by have:=hR.1;omega),Int.neg_mul,hd,dotP]
    omega
theorem says_most {s:qE} {t:qF} (hs:vK s) (ht:xX s t) {x:yLI} (h:Says s t s.qA.length (xC s t s.qA.length).length x):IsMost s t x:=by
  obtain ⟨hc,hch⟩:=says_choice hs ht h
  obtain ⟨h1,h2,h3⟩:=h
  have hB:=ht.2.1
  refine ⟨hch,fun i hi ha=>?_⟩
  have hcl:=(hs.rule (i:=i) hi).1
  obtain ⟨c,ec⟩:∃ c:Nat,(s.qB[i]!).qP=(c:Int):=⟨(s.qB[i]!).qP.toNat,by have:=hcl.1;omega⟩
  have hcp:c < s.qA.length:=by have:=hcl;have:=ec;omega
  have hm:=cellT_mem hi ha ec
  obtain ⟨j,hj,ej⟩:=List.mem_iff_getElem.1 hm
  have hr:¬ (vk s t c).length=0:=by omega
  obtain ⟨i',hi',e1,e2⟩:=cell_live (s:=s) (t:=t) hcp hr
  obtain ⟨y,hy,h4⟩:=h2 i' hi'
  rw [e1] at h4
  rw [e2] at hy
  unfold cellP at hy
  rcases all_cases (b:=t.qN[c]!) (parts:=ve s (vk s t c)) with h5 | ⟨_,h5,_⟩
  · rw [h5] at hy;simp at hy
  · rw [h5] at hy
    obtain ⟨r,r1,r2,r3⟩:=packs_rest (cell_parts (t:=t) hs c) _ 0 _ y (Nat.zero_add _) (cell_rest ht qf) hy
    have he:=restR_ent hs ht hc s.qB.length (Nat.le_refl _)
    have hl:((jG s t x s.qB.length)[c]!).length=yL s:=(he.sh.2 c (by unfold je;omega)).1
    have hrow:(jG s t x s.qB.length)[c]! =r:=by
      refine ext_get qf fun q hq=>?_
      have hq:q < yL s:=by omega
      have heq:=he.eq c q (by unfold je;omega) qf
      have hn:=needS_cell (t:=t) (x:=x) (c:=c) (q:=q) hs s.qB.length (Nat.le_refl _) fun k hk _ hak=>by
        by_cases h0:x[k]! =0
        · exact h0
        · refine absurd ?_ hak
          refine Classical.byContradiction fun hx=>h0 ?_
          have:=hch.1 k qf
          have hv:=(hc.2 k qf).1
          by_cases hz:0 < x[k]!
          · exact absurd ⟨hz,hx⟩ this
          · omega
      have h6:=sumOver_dot (s:=s) (x:=x) (q:=q) (l:=vk s t c) (y:=y) ((packs_len hy).trans (QU _ _)) h4
      rw [heq,r3 q hq,hn]
      show (t.qN[c]!)[q]! + -(XW s x q (vk s t c))=_
      rw [h6,List.drop_zero]
      omega
    have hjn:j < (ve s (vk s t c)).length:=by rw [QU];exact hj
    have hx:=r2 j hjn
    have en:(ve s (vk s t c))[j]! =(s.qB[i]!).zB:=by
      rw [needs_get hj,getElem!_pos _ j hj,ej,Int.toNat_natCast]
    rw [en] at hx
    rw [h1,ec,Int.toNat_natCast,hrow]
    exact hx
theorem cho_most {s:qE} {t:qF} (hs:vK s) (ht:xX s t) {k:Nat} (hk:k < (zy s t).1.length):IsMost s t ((zy s t).1[k]!):=by
  have hm:(zy s t).1[k]! ∈(zy s t).1:=mem_at_L hk
  generalize (zy s t).1[k]! =x at hm
  unfold zy at hm
  split at hm
  · simp at hm
  · split at hm
    · simp at hm
    · have hx:x∈inOrder (yO s.qB.length (xC s t s.qA.length) (zi s t s.qA.length) (zi s t s.qA.length).length):=hm
      unfold inOrder at hx
      have hle:=packsL_le s t s.qA.length
      split at hx
      · next h=>exact says_most hs ht (by rw [← hle];exact prodG_says _ qf x ((Classical.choose_spec h).1.symm.subset hx))
      · exact says_most hs ht (by rw [← hle];exact prodG_says _ qf x hx)
theorem addSt_nodup {S nx:List qF} (h:S.Nodup):∀ k,(zM S nx k).1.Nodup
  | 0=>h
  | k+1=>by
    have ih:=addSt_nodup (nx:=nx) h k
    rw [zM]
    split
    · next hf=>
      show ((zM S nx k).1++[nx[k]!]).Nodup
      rw [List.nodup_append]
      exact ⟨ih,by simp,fun a ha b hb e=>find_mem.1 hf (by obtain rfl:=List.mem_singleton.1 hb;exact e▸ha)⟩
    · exact ih
theorem addSt_iff {S nx:List qF} {v:qF}:∀ k,v∈(zM S nx k).1↔v∈S∨∃ q,q < k∧nx[q]! =v
  | 0=>⟨.inl,fun h=>h.elim id fun ⟨q,hq,_⟩=>by omega⟩
  | k+1=>by
    have ih:=addSt_iff (S:=S) (nx:=nx) (v:=v) k
    rw [zM]
    split
    · show v∈(zM S nx k).1++[nx[k]!]↔_
      rw [List.mem_append,ih,List.mem_singleton]
      constructor
      · rintro ((h | ⟨q,hq,e⟩) | h)
        · exact .inl h
        · exact .inr ⟨q,by omega,e⟩
        · exact .inr ⟨k,by omega,h.symm⟩
      · rintro (h | ⟨q,hq,e⟩)
        · exact .inl (.inl h)
        · by_cases ek:q=k
          · subst ek;exact .inr e.symm
          · exact .inl (.inr ⟨q,by omega,e⟩)
    · next hf=>
      rw [ih]
      constructor
      · rintro (h | ⟨q,hq,e⟩)
        · exact .inl h
        · exact .inr ⟨q,by omega,e⟩
      · rintro (h | ⟨q,hq,e⟩)
        · exact .inl h
        · by_cases ek:q=k
          · subst ek
            refine ih.1 ?_
            rw [← e]
            exact Classical.byContradiction fun hx=>hf (find_mem.2 hx)
          · exact .inr ⟨q,by omega,e⟩
theorem nodup_le {α:Type}:∀ {l m:List α},l.Nodup→(∀ x∈l,x∈m)→l.length≤m.length
  | [],_,_,_=>Nat.zero_le _
  | a :: l,m,h,h1=>by
    obtain ⟨p,q,rfl⟩:=List.append_of_mem (h1 a qm)
    have hn:=List.nodup_cons.1 h
    have:=nodup_le (l:=l) (m:=p++q) hn.2 fun x hx=>by
      have:=h1 x (List.mem_cons_of_mem _ hx)
      rcases List.mem_append.1 this with h2 | h2
      · exact List.mem_append.2 (.inl h2)
      · rcases List.mem_cons.1 h2 with rfl | h2
        · exact absurd hx hn.1
        · exact List.mem_append.2 (.inr h2)
    simp only [List.length_append,List.length_cons] at this ⊢
    omega
theorem saGo_mem {s:qE} {T:List qF} (hT:T.length≤300):∀ {l out:List qF},out.Nodup→(∀ v∈out,v∈T)→(∀ u∈l,(qZ s u).2=0∧∀ v∈(qZ s u).1,v∈T)→
    ∃ o,saGo s l out=(o,0)∧o.Nodup∧∀ v,v∈o↔v∈out∨∃ u∈l,v∈(qZ s u).1
  | [],out,h,_,_=>⟨out,rfl,h,fun v=>⟨.inl,fun h=>h.elim id fun ⟨u,hu,_⟩=>by simp at hu⟩⟩
  | u :: l,out,h,h1,h2=>by
    obtain ⟨hc,hv⟩:=h2 u qm
    have hm:∀ v,v∈(zM out (qZ s u).1 (qZ s u).1.length).1↔v∈out∨v∈(qZ s u).1:=fun v=>by
      rw [addSt_iff]
      refine or_congr Iff.rfl ⟨fun ⟨q,hq,e⟩=>by rw [← e,getElem!_pos _ q hq];exact List.getElem_mem hq,fun hx=>?_⟩
      obtain ⟨q,hq,e⟩:=List.mem_iff_getElem.1 hx
      exact ⟨q,hq,by rw [getElem!_pos _ q hq,e]⟩
    have hin:∀ v∈(zM out (qZ s u).1 (qZ s u).1.length).1,v∈T:=fun v hx=>((hm v).1 hx).elim (h1 v) (hv v)
    have hnd:=addSt_nodup (nx:=(qZ s u).1) h (qZ s u).1.length
    have hle:=nodup_le hnd hin
    obtain ⟨o,e1,e2,e3⟩:=saGo_mem hT (l:=l) hnd hin fun u' hu' =>h2 u' (List.mem_cons_of_mem _ hu')
    refine ⟨o,?_,e2,fun v=>?_⟩
    · rw [saGo,if_neg (fun x=>x hc),if_neg qf,e1]
    · rw [e3,hm]
      constructor
      · rintro ((h | h) | ⟨u',hu',h⟩)
        · exact .inl h
        · exact .inr ⟨u,by simp,h⟩
        · exact .inr ⟨u',List.mem_cons_of_mem _ hu',h⟩
      · rintro (h | ⟨u',hu',h⟩)
        · exact .inl (.inl h)
        · rcases List.mem_cons.1 hu' with rfl | hu'
          · exact .inl (.inr h)
          · exact .inr ⟨u',hu',h⟩
theorem saRun_snoc {s:qE}:∀ {n:Nat} {l l' o:List qF},saRun s n l=(l',0)→saGo s l' []=(o,0)→saRun s (n+1) l=(o,0)
  | 0,l,l',o,h,h1=>by
    obtain rfl:l=l' :=congrArg Prod.fst h
    rw [saRun,h1,if_neg qm];rfl
  | n+1,l,l',o,h,h1=>by
    rw [saRun] at h
    split at h
    · next hx=>exact absurd (congrArg Prod.snd h) hx
    · next hx=>rw [saRun,if_neg hx];exact saRun_snoc h h1

def Canon (R:yLL):Prop:=∀ i,i < R.length→∀ k,k < (R[i]!).length→∀ j:Nat,0 < j→(j:Int) < (R[i]!)[k]! →∃ i',i' ≤i∧InRow R i' j
structure GrFull (s:qE) (t:qF) (S:List qF) (R:yLL):Prop where
  all:GrAll s S R
  nd:S.Nodup
  cn:Canon R
  fst:S[0]! =t
  code:∀ i,i < S.length→(qZ s (S[i]!)).2=0
  rlen:∀ i,i < S.length→(R[i]!).length=(qZ s (S[i]!)).1.length
  rat:∀ i,i < S.length→∀ k,k < (R[i]!).length→S[((R[i]!)[k]!).toNat]! =(qZ s (S[i]!)).1[k]!
structure GrP (s:qE) (t:qF) (S:List qF) (R:yLL):Prop where
  ok:GrOk S R
  len:R.length≤S.length
  pos:0 < S.length
  nd:S.Nodup
  cn:Canon R
  fst:S[0]! =t
  rlen:∀ i,i < R.length→(R[i]!).length=(qZ s (S[i]!)).1.length
theorem gr_p {s:qE} {t:qF} (h:(grRes s t).2=0):GrP s t (grRes s t).1.1 (grRes s t).1.2:=by
  refine grGo_ind (s:=s) (p:=fun S R=>GrP s t S R) ?_ 302 [t] [] ⟨GrOk.start t,by simp,by simp,by simp,fun i hi=>by simp at hi,rfl,fun i hi=>by simp at hi⟩ h
  intro S R hl ⟨h1,h2,h3,h4,h5,h6,h7⟩ hc
  obtain ⟨l1,l2,l3⟩:=Xh (S:=S) (nx:=(qZ s (S[R.length]!)).1) (qZ s (S[R.length]!)).1.length
  have hn:=h1.next hl (nx:=(qZ s (S[R.length]!)).1) (succ_len s (S[R.length]!))
  have row:∀ i j,i < R.length→(InRow (R++[(zM S (qZ s (S[R.length]!)).1 (qZ s (S[R.length]!)).1.length).2]) i j↔InRow R i j):=fun i j hi=>by
    unfold InRow InTo;rw [snoc_lt hi]
  refine ⟨hn,by rw [List.length_append,List.length_singleton];omega,by omega,addSt_nodup h4 _,fun i hi k hk j h0 hj=>?_,by rw [addSt_get h3];exact h6,fun i hi=>?_⟩
  · rw [List.length_append,List.length_singleton] at hi
    by_cases e:i=R.length
    · subst e
      have hr:=hn.rows R.length qm k hk
      have hx:((R++[(zM S (qZ s (S[R.length]!)).1 (qZ s (S[R.length]!)).1.length).2])[R.length]!)[k]! =(zM S (qZ s (S[R.length]!)).1 (qZ s (S[R.length]!)).1.length).2[k]! :=by rw [snoc_eq]
      obtain ⟨i',a,_,k',b,c⟩:=hn.from' j h0 qf
      rw [List.length_append,List.length_singleton] at a
      exact ⟨i',by omega,k',b,by omega⟩
    · have hi' :i < R.length:=by omega
      rw [snoc_lt hi'] at hk hj
      obtain ⟨i',a,b⟩:=h5 i hi' k hk j h0 hj
      exact ⟨i',a,(row i' j qf).2 b⟩
  · rw [List.length_append,List.length_singleton] at hi
    rw [addSt_get qf]
    by_cases e:i=R.length
    · subst e;rw [snoc_eq];omega
    · rw [snoc_lt qf];exact h7 i qf
theorem ex_full {s:qE} {t:qF} (h:(XZ s t).2=0):GrFull s t (exG s t).qK (exG s t).fNext:=by
  have ha:=ex_all h
  have hx:=ex_nx h
  have e:=ex_0 (ex_valid h) rfl
  have h' :=h
  rw [e] at h'
  have hp:GrP s t (exG s t).qK (exG s t).fNext:=by have:=gr_p h';rw [← e] at this;exact this
  have hl:=ha.len
  exact ⟨ha,hp.nd,hp.cn,hp.fst,fun i hi=>(hx i qf).1,fun i hi=>hp.rlen i qf,fun i hi k hk=>((hx i qf).2 k hk).2⟩
theorem idx_of {S:List qF} (h:S.Nodup) {i j:Nat} (hi:i < S.length) (hj:j < S.length) (e:S[i]! =S[j]!):i=j:=by
  rw [getElem!_pos S i hi,getElem!_pos S j hj] at e
  have hp:=List.pairwise_iff_getElem.1 h
  rcases Nat.lt_trichotomy i j with h1 | h1 | h1
  · exact absurd e (hp i j hi hj h1)
  · exact h1
  · exact absurd e.symm (hp j i hj hi h1)
theorem first_of {S:List qF} (h:S.Nodup) {j:Nat} (hj:j < S.length):firstIdx (fun zz=>decide (S[zz]! =S[j]!)) S.length=(j:Int):=
  QB hj (fun i hi=>decide_eq_false fun e=>by have:=idx_of h qf hj e;omega) (decide_eq_true rfl)
theorem GrFull.next {s:qE} {t:qF} {S:List qF} {R:yLL} (g:GrFull s t S R) {i k:Nat} (hi:i < S.length) (hk:k < (qZ s (S[i]!)).1.length):
    firstIdx (fun zz=>decide (S[zz]! =(qZ s (S[i]!)).1[k]!)) S.length=(R[i]!)[k]! :=by
  have hk' :k < (R[i]!).length:=by rw [g.rlen i hi];exact hk
  have hr:=g.all.ok.rows i (by rw [g.all.len];exact hi) k hk'
  rw [← g.rat i hi k hk',first_of g.nd hr.2]
  omega

theorem frm_mono {S:List qF} {R:yLL} (g:GrOk S R) (c:Canon R) {i j:Nat} (h0:0 < i) (hij:i≤j) (hj:j < S.length):frm R i≤frm R j:=by
  by_cases e:i=j
  · subst e;exact Nat.le_refl _
  · obtain ⟨h1,_⟩:=frm_ok g (j:=i) h0 qf
    obtain ⟨h2,_⟩:=frm_ok g (j:=j) qf hj
    obtain ⟨k,hk,ek⟩:=h2.2.2.1
    have hr:=g.rows _ h2.2.1 k hk
    obtain ⟨i',a,b⟩:=c _ h2.2.1 k hk i h0 qf
    refine Classical.byContradiction fun hx=>?_
    exact h1.2.2.2 i' (Nat.zero_le _) qf b
theorem it_shift {R:yLL} {j:Nat}:∀ k,itF R j (k+1)=itF R (frm R j) k
  | 0=>rfl
  | k+1=>by rw [itF,it_shift k];rfl
theorem steps_zero (R:yLL):vY R 0=0:=stepsOf_of rfl fun q hq=>by omega
theorem steps_at {S:List qF} {R:yLL} (g:GrOk S R) {j:Nat} (hj:j < S.length):itF R j (vY R j)=0∧∀ q,q < vY R j→itF R j q≠0:=by
  obtain ⟨m,h0,h1⟩:=it_ex g hj
  rw [stepsOf_of h0 h1];exact ⟨h0,h1⟩
theorem steps_succ {S:List qF} {R:yLL} (g:GrOk S R) {j:Nat} (h0:0 < j) (hj:j < S.length):vY R j=vY R (frm R j)+1:=by
  have hf:=frm_ok g h0 hj
  obtain ⟨a,b⟩:=steps_at g (j:=frm R j) qf
  refine stepsOf_of (by rw [it_shift];exact a) fun q hq=>?_
  cases q with
  | zero=>show j≠0;omega
  | succ q=>rw [it_shift];exact b q qf
theorem steps_mono {S:List qF} {R:yLL} (g:GrOk S R) (c:Canon R):∀ j,j < S.length→∀ i,i≤j→vY R i≤vY R j:=fun j=>Nat.strongRecOn j fun j ih hj i hi=>by
  by_cases e:i=0
  · subst e;rw [steps_zero];exact Nat.zero_le _
  · rw [steps_succ g qf (by omega:i < S.length),steps_succ g qf hj]
    have:=(frm_ok g (j:=j) qf hj).2
    have:=ih (frm R j) this qf (frm R i) (frm_mono g c qf hi hj)
    omega
theorem steps_edge {S:List qF} {R:yLL} (g:GrOk S R) (c:Canon R) {i k:Nat} (hi:i < R.length) (hl:R.length=S.length) (hk:k < (R[i]!).length):vY R ((R[i]!)[k]!).toNat≤vY R i+1:=by
  have hr:=g.rows i hi k hk
  by_cases e:((R[i]!)[k]!).toNat=0
  · rw [e,steps_zero];omega
  · rw [steps_succ g qf hr.2]
    have hf:=frm_ok g qf hr.2
    have hle:frm R ((R[i]!)[k]!).toNat≤i:=by
      refine Classical.byContradiction fun hx=>hf.1.2.2.2 i (Nat.zero_le _) qf ⟨k,hk,rfl⟩
    have:=steps_mono g c i qf _ hle
    omega
theorem GrFull.level {s:qE} {t:qF} {S:List qF} {R:yLL} (g:GrFull s t S R):∀ n,∃ l,saRun s n [t]=(l,0)∧
    (∀ v∈l,∃ j,j < S.length∧S[j]! =v∧vY R j≤n)∧∀ j,j < S.length→vY R j=n→S[j]! ∈l
  | 0=>⟨[t],rfl,fun v hv=>⟨0,g.all.pos,by obtain rfl:=List.mem_singleton.1 hv;exact g.fst,by rw [steps_zero];exact Nat.le_refl _⟩,fun j hj h=>by
    have:=(steps_at g.all.ok hj).1
    rw [h] at this
    have e:j=0:=this
    subst e;rw [g.fst];simp⟩
  | n+1=>by
    obtain ⟨l,h1,h2,h3⟩:=GrFull.level g n
    have hlen:=g.all.len
    obtain ⟨o,e1,_,e3⟩:=saGo_mem (s:=s) (T:=S) g.all.le (l:=l) (out:=[]) qm qm fun u hu=>by
      obtain ⟨i,hi,rfl,_⟩:=h2 u hu
      refine ⟨g.code i hi,fun v hv=>?_⟩
      obtain ⟨k,hk,rfl⟩:=List.mem_iff_getElem.1 hv
      have hk' :k < (R[i]!).length:=by rw [g.rlen i hi];exact hk
      have:=g.rat i hi k hk'
      rw [getElem!_pos (qZ s (S[i]!)).1 k hk] at this
      have hr:=(g.all.ok.rows i qf k hk').2
      rw [← this,getElem!_pos S _ hr];exact List.getElem_mem hr
    refine ⟨o,saRun_snoc h1 e1,fun v hv=>?_,fun j hj hs=>?_⟩
    · rcases (e3 v).1 hv with h | ⟨u,hu,h⟩
      · simp at h
      · obtain ⟨i,hi,rfl,hb⟩:=h2 u hu
        obtain ⟨k,hk,rfl⟩:=List.mem_iff_getElem.1 h
        have hk' :k < (R[i]!).length:=by rw [g.rlen i hi];exact hk
        have hr:=g.rat i hi k hk'
        rw [getElem!_pos (qZ s (S[i]!)).1 k hk] at hr
        exact ⟨_,(g.all.ok.rows i qf k hk').2,hr,by have:=steps_edge g.all.ok g.cn (i:=i) qf hlen hk';omega⟩
    · have h0:0 < j:=by
        refine Classical.byContradiction fun hx=>?_
        have e:j=0:=by omega
        subst e;rw [steps_zero] at hs;omega
      have hf:=frm_ok g.all.ok h0 hj
      rw [steps_succ g.all.ok h0 hj] at hs
      have hm:=h3 (frm R j) qf qf
      obtain ⟨k,hk,ek⟩:=hf.1.2.2.1
      have hr:=g.rat (frm R j) qf k hk
      rw [ek] at hr
      refine (e3 _).2 (.inr ⟨_,hm,?_⟩)
      have hk2:k < (qZ s (S[frm R j]!)).1.length:=by rw [← g.rlen _ qf];exact hk
      rw [hr,getElem!_pos _ k hk2];exact List.getElem_mem hk2

theorem wayTo_at {s:qE} {S:List qF} {R:yLL} {j m:Nat}:∀ {n q:Nat},q < n→(wayTo s S R j m n)[q]! =betw s (S[itF R j (m - q)]!) (S[itF R j (m - q - 1)]!)
  | 0,q,h=>by omega
  | n+1,q,h=>by
    rw [wayTo]
    have hl:=wayTo_len (s:=s) (S:=S) (R:=R) (j:=j) (m:=m) n
    by_cases e:q=n
    · subst e
      have:=snoc_eq (l:=wayTo s S R j m q) (x:=betw s (S[itF R j (m - q)]!) (S[itF R j (m - q - 1)]!))
      rwa [hl] at this
    · rw [snoc_lt qf];exact wayTo_at qf
open Classical in
theorem betw_lead {s:qE} {t u:qF} (h:∃ q,q < (zy s t).1.length∧zF s t ((zy s t).1[q]!)=(u,0)):∃ q,q < (zy s t).1.length∧betw s t u=(zy s t).1[q]! ∧zF s t (betw s t u)=(u,0):=by
  obtain ⟨q,hq,e⟩:=h
  obtain ⟨m,a,b,c⟩:=least_of (g:=fun k=>decide (zF s t ((zy s t).1[k]!)=(u,0))) q (decide_eq_true e)
  have b:=of_decide_eq_true b
  have e2:=betw_at (fun j hj=>of_decide_eq_false (c j hj)) (show m < _ by omega) b
  exact ⟨m,by omega,e2,by rw [e2];exact b⟩
theorem GrFull.one {s:qE} {t:qF} {S:List qF} {R:yLL} (g:GrFull s t S R) (hs:vK s) {a:Nat} (h0:0 < a) (ha:a < S.length):
    ¬ Halted s (S[frm R a]!)∧CntOk s (betw s (S[frm R a]!) (S[a]!))∧IsMost s (S[frm R a]!) (betw s (S[frm R a]!) (S[a]!))∧zF s (S[frm R a]!) (betw s (S[frm R a]!) (S[a]!))=(S[a]!,0):=by
  have hf:=frm_ok g.all.ok h0 ha
  have hlen:=g.all.len
  have hx:GrNx s S R:=fun i hi=>⟨g.code i qf,fun k hk=>⟨by rw [← g.rlen i qf];exact hk,g.rat i qf k hk⟩⟩
  obtain ⟨q,hq,e,hb⟩:=betw_lead (way_by g.all.ok hx h0 ha).2
  have hst:xX s (S[frm R a]!):=g.all.st _ (by rw [getElem!_pos S (frm R a) qf];exact List.getElem_mem _)
  refine ⟨fun hh=>?_,?_,?_,hb⟩
  · obtain ⟨k,hk,_⟩:=hf.1.2.2.1
    have:=(g.all.ht _ hf.1.2.1).2 hh
    omega
  · rw [e];exact (cho_ok hs hst hq).1
  · rw [e];exact cho_most hs hst hq
theorem GrFull.run {s:qE} {t:qF} {S:List qF} {R:yLL} (g:GrFull s t S R) (hs:vK s) {j:Nat} (hj:j < S.length):∀ q,q≤vY R j→
    Xm s (wayL s S R j) (vY R j) t=Xm s (wayL s S R j) (vY R j - q) (S[itF R j (vY R j - q)]!)
  | 0,_=>by rw [Nat.sub_zero,(steps_at g.all.ok hj).1,g.fst]
  | q+1,h=>by
    have hz:=(steps_at g.all.ok hj).2 (vY R j - q - 1) qf
    have hi:=it_in g.all.ok hj (q:=vY R j - q - 1) fun x hx=>(steps_at g.all.ok hj).2 x qf
    obtain ⟨h1,h2,h3,h4⟩:=g.one hs (a:=itF R j (vY R j - q - 1)) qf hi.1
    have e:frm R (itF R j (vY R j - q - 1))=itF R j (vY R j - q):=by
      show itF R j (vY R j - q - 1+1)=_
      rw [show vY R j - q - 1+1=vY R j - q by omega]
    rw [e] at h1 h2 h3 h4
    have hl:(wayL s S R j).length=vY R j:=wayTo_len _
    have hw:(wayL s S R j)[q]! =betw s (S[itF R j (vY R j - q)]!) (S[itF R j (vY R j - q - 1)]!):=wayTo_at qf
    rw [GrFull.run g hs hj q qf,choose_go (k:=q) (g:=vY R j - (q+1)) qf qf qf h1 (by rw [hw];exact h3) (by rw [hw,h4]),hw,h4]
    rfl
theorem GrFull.cnt {s:qE} {t:qF} {S:List qF} {R:yLL} (g:GrFull s t S R) (hs:vK s) {j:Nat} (hj:j < S.length):AllCnt s (wayL s S R j) (wayL s S R j).length:=fun q hq=>by
  have hl:(wayL s S R j).length=vY R j:=wayTo_len _
  have hz:=(steps_at g.all.ok hj).2 (vY R j - q - 1) qf
  have hi:=it_in g.all.ok hj (q:=vY R j - q - 1) fun x hx=>(steps_at g.all.ok hj).2 x qf
  obtain ⟨_,h2,_,_⟩:=g.one hs (a:=itF R j (vY R j - q - 1)) qf hi.1
  have e:frm R (itF R j (vY R j - q - 1))=itF R j (vY R j - q):=by
    show itF R j (vY R j - q - 1+1)=_
    rw [show vY R j - q - 1+1=vY R j - q by omega]
  rw [e] at h2
  have hw:(wayL s S R j)[q]! =betw s (S[itF R j (vY R j - q)]!) (S[itF R j (vY R j - q - 1)]!):=wayTo_at qf
  rw [hw];exact h2

theorem graph_st {s:qE} {t:qF} (h:(XZ s t).2=0) {j:Nat} (hj:j < (exG s t).qK.length):yl s t ((exG s t).qK[j]!)=(wayL s (exG s t).qK (exG s t).fNext j,0):=by
  have g:=ex_full h
  have hv:=ex_valid h
  have hs:xX s ((exG s t).qK[j]!):=g.all.st _ (by rw [getElem!_pos _ j hj];exact List.getElem_mem _)
  have hf:=first_of g.nd hj
  rw [st_0 ⟨hv.1,hs⟩ h qf,hf]
  rfl
theorem graph_run {s:qE} {t:qF} (h:(XZ s t).2=0) {j:Nat} (hj:j < (exG s t).qK.length):QY s t (yl s t ((exG s t).qK[j]!)).1=((exG s t).qK[j]!,0):=by
  have g:=ex_full h
  have hv:=ex_valid h
  rw [graph_st h hj]
  have hl:(wayL s (exG s t).qK (exG s t).fNext j).length=vY (exG s t).fNext j:=wayTo_len _
  have hle:=steps_le g.all.ok hj
  have hm:=g.all.le
  show QY s t (wayL s (exG s t).qK (exG s t).fNext j)=_
  rw [ch_0 hv qf (g.cnt hv.1 hj),hl,g.run hv.1 hj _ (Nat.le_refl _),Nat.sub_self]
  rfl
theorem graph_len {s:qE} {t:qF} (h:(XZ s t).2=0) {j:Nat} (hj:j < (exG s t).qK.length):(yl s t ((exG s t).qK[j]!)).1.length=vY (exG s t).fNext j:=by
  rw [graph_st h hj];exact wayTo_len _
theorem graph_in {s:qE} {t:qF} (h:(XZ s t).2=0) {j:Nat} (hj:j < (exG s t).qK.length) {n:Int} (h0:0≤n) (h2:n≤200) (hn:n.toNat=vY (exG s t).fNext j):
    (XB s t n).2=0∧(exG s t).qK[j]! ∈(XB s t n).1:=by
  obtain ⟨l,e,_,h3⟩:=(ex_full h).level n.toNat
  rw [sa_0 (ex_valid h) ⟨h0,h2⟩,e]
  exact ⟨rfl,h3 j hj hn.symm⟩
theorem graph_not {s:qE} {t:qF} (h:(XZ s t).2=0) {j:Nat} (hj:j < (exG s t).qK.length) {n:Int} (h0:0≤n) (h2:n≤200) (hn:n.toNat < vY (exG s t).fNext j):
    (XB s t n).2=0∧¬ (exG s t).qK[j]! ∈(XB s t n).1:=by
  have g:=ex_full h
  obtain ⟨l,e,h3,_⟩:=g.level n.toNat
  rw [sa_0 (ex_valid h) ⟨h0,h2⟩,e]
  refine ⟨rfl,fun hm=>?_⟩
  obtain ⟨i,hi,ei,hb⟩:=h3 _ hm
  have:=idx_of g.nd hi hj ei
  subst this;omega
end
end Go.Proofs.YtdhklgjmiamiaaaGreat
