/- Walks and laws, printed by program and by hand: what each function comes to, for all arguments, part 8. -/
import Derived.Test.YtghikkinnchndaaGreatA7
import Derived.BigQuiet
import Derived.Test.YtghikkinnchndaaGreatRows
import Derived.ProofKit
import Derived.OpenShut
import Derived.Carry
import Derived.Lib.SmallJoins
namespace Go.Proofs.YtghikkinnchndaaGreat
open Go.Proofs.Tryz
set_option linter.unusedVariables false
set_option linter.unusedSimpArgs false
set_option maxRecDepth 100000
set_option maxHeartbeats 4000000
open Go.RowKit
open Go.Proofs.Tryz
open Go.Proofs.YtghikkinnchndaaGreat.Tot (tot)
open Go.Proofs.YtghikkinnchndaaGreat.Mark (cnt mrk mkd mkd_mark cnt_mark)
variable {Fds Bq QG Qa jY vX zH:yLN} {Ns:List yLN} {P:Program} {W0 w:World} {P5 q8 vZ xG xf zS zq:yOA} {e t:TypeId} {hi k lo n:Int} {ps:List Prv} {v:Value} {Γ:List Fact}
section
theorem law_FnTissueCrash (w:World) (ah:List UInt8) (dt:List UInt8) (dK:yOA) (dI:Nat) (ee:yLN) (dC:yOA) (dD:Nat) (ed:yLN) (uZ:zP w ee dK dI ah) (l7:zP w ed dC dD dt):Calls Tryz.prog 3 #[Sv dK ah.length dI,Sv dC dt.length dD] w (Ret (fun v w' =>v=Bv true) w):=by
 refine en func3 ntmps3 ?_
 have H:=((St.start w).arg l7).arg uZ
 have aax:=qO uZ
 have abB:=qO l7
 clear uZ l7
 have N:=Fresh.nil w.heap.size
 refine zcr<|sp (Bv false)<|zjcc<|sq 2<|sw<|zX #[Sv dK ah.length dI,Sv dC dt.length dD] rfl rfl call7<|en func7 ntmps7 ?_
 refine zcr<|sp (Bv false)<|zjc<|sq 1<|oN rfl<|sp (Bv<|decide ((ah.length:Int) > 3000))<|sp (Bv<|decide ((ah.length:Int) > 3000)) ?_
 cases h1:(decide ((ah.length:Int) > 3000))
 ·replace h1:=of_decide_eq_false h1
  refine qV 8 rfl rfl<|sq 1<|qV 8 rfl rfl<|oN rfl<|qV 8 rfl rfl<|sp (Bv<|decide ((dt.length:Int) > 3000))<|sp (Bv<|decide ((dt.length:Int) > 3000))<|sp (Bv<|decide ((dt.length:Int) > 3000))<|zjr<|ret1 (Bv<|decide ((dt.length:Int) > 3000)) rfl rfl ⟨_,rfl,(zjn<|cD rfl (fun h2=>?_)<|fun h2=>?_)⟩
  ·refine zcr (sp (Bv true)<|zjr<|t_r<|rH1 (Bv true) H ?_)
   rfl
  refine xk<|t_n<|zcr<|sq 1 ?_
  have H1:St w w [] [sF false ee dK dI ah,sF false ed dC dD dt]:=H.pick [] [0,1]
  have N1:Fresh _ []:=N
  have K1:Kept [] [sF false ed dC dD dt]:=Kept.nil _
  refine sw<|zy #[Sv dK ah.length dI] rfl rfl call8 (a2Tissue_ok ah dK dI ee H1 N1 K1 ) ?_
  clear H H1 N1 K1
  rintro _ w3 ⟨NI,aaO,aaw,acM,acS,acq,ag,bE,ati,bD,cK,aEG,bW,aIQ,aHT,bK,aH6,bO,bA,awK,bN,aFL,aG6,bP,at1,bL,c9,aJO,db,hx5,hx6,hx7,hx8,hx9,rfl,N,H⟩
  obtain rfl:=H.Qc 0 rfl
  obtain rfl:=H.xe (α:=yj) 1 rfl 1 rfl qj
  obtain rfl:=H.rowNB 2 rfl
  obtain rfl:=H.xe (α:=yLI) 3 rfl 2 rfl qj
  obtain rfl:=H.Qc 4 rfl
  obtain rfl:=H.Qc 5 rfl
  refine sq 4<|sw<|xU H ti27 [yI 0,yN,yN] fun sa w40 H=>sw<|xU H ti31 [yN,yN,yN] fun oW TT H=>(sw<|zC H 1 [yI NI,Sv bE aaO.length bD,Sv cK aaw.length bW] sizeOf27 fun w43 H=>sq 1<|sw<|zC H 0 [Sv bK acM.length bO,Sv bA acS.length bN,Sv bP acq.length bL] sizeOf31 fun ka H=>zjn<|xH ?_)
  obtain ⟨s,e1,e2,e3⟩:∃ z:qM,NI=z.qP/\aaO=z.qA/\aaw=z.qB:=⟨⟨NI,aaO,aaw⟩,rfl,rfl,rfl⟩
  subst e1 e2 e3
  obtain ⟨t,e1,e2,e3⟩:∃ z:xh,acM=z.xn/\acS=z.qG/\acq=z.qE:=⟨⟨acM,acS,acq⟩,rfl,rfl,rfl⟩
  subst e1 e2 e3
  have sd:=(‹SysDr _ _ _›)
  have td:=(‹StDr _ _ _ _ _ _›)
  obtain ⟨n,p1,n4⟩:=own_all (‹OwnDr _ _›)
  have p2:vM s t:=td.ok sd qf
  have p0:Giv s ag n:=giv_of sd.ok (‹OwnDr _ _›) p1
  have p5:Still s:=still_of (‹MildTo _ _›)
  have p6:Whole t:=whole_of (‹AllTo _›)
  have q1:=p1.one
  have e0:=nSrv_all p1
  have r0:Giv s ag (Xm ag):=by rw [e0];exact p0
  have r1:Vt ag (Xm ag):=by rw [e0];exact p1
  obtain ⟨iT,N,aKz,H⟩:=H.freezeB 4 rfl N<|H.vg [2]
  have H0:=H
  obtain ⟨iH,ahP,aE6,H⟩:=H.vK (α:=yLI) 5 rfl 3 rfl qj
  replace N:Fresh w.heap.size [iH,iT]:=Fresh.ice (N.pick [1,0]) H0 5 ahP.1 ahP.2<|H0.vg [0]
  clear H0
  obtain ⟨iU,N,aD0,H⟩:=H.ve 6 rfl N<|H.vg [0,1]
  obtain ⟨iF,N,ayo,H⟩:=H.ve 2 rfl N<|H.vg [0,1,2]
  obtain ⟨pk,abq,avk,H⟩:=H.vK (α:=yj) 3 rfl 5 rfl qj
  obtain ⟨gH,N,am8,H⟩:=H.ve 7 rfl N<|H.vg<|zR 1 4
  have B0:=H.base
  have H:=H.rebase [atF oW 0<|yT t bK bO bA bN bP bL,atF sa 0<|yS s bE bD cK bW,sF true gH c9 db ag,sF false pk cK bW s.qB,sF true iF bE bD s.qA,sF true iU bP bL t.qE,sF true iH bA bN t.qG,sF true iT bK bO t.xn,sF false ee dK dI ah,sF false ed dC dD dt]<|X4 (old_box H 0 rfl)<|X4 (old_box H 1 rfl)<|X4 (old_fact H 0 rfl)<|X4 (old_fact H 1 rfl)<|X4 (old_fact H 2 rfl)<|X4 (old_fact H 3 rfl)<|X4 (old_fact H 4 rfl)<|X4 (old_fact H 5 rfl)<|X4 (old_fact H 6 rfl)<|X4 (old_fact H 9 rfl) olds_nil
  have N:=Fresh.nil ka.heap.size
  have HB:=H
  refine xZ<|sq 1<|sw<|zi (yS s bE bD cK bW) isAgg27 sizeOf27 rfl (qK (H.get 1 rfl) 0 3)<|sq 1<|sw<|zi (yT t bK bO bA bN bP bL) isAgg31 sizeOf31 rfl (qK (H.get 0 rfl) 0 3) ?_
  replace H:=H.unfreeI 4 rfl
  replace H:=H.unfreeI 3 rfl
  replace H:=H.unfreeI 9 rfl
  replace H:=H.unfreeI 9 rfl
  replace H:=H.unfreeI 9 rfl
  have H1:St ka ka [] [sF false ed dC dD dt,sF false iF bE bD s.qA,sF false pk cK bW s.qB,sF false gH c9 db ag,sF false iT bK bO t.xn,sF false iH bA bN t.qG,sF false iU bP bL t.qE,atF oW 0<|yT t bK bO bA bN bP bL,atF sa 0<|yS s bE bD cK bW,sF true gH c9 db ag,sF true iF bE bD s.qA,sF true iU bP bL t.qE,sF true iH bA bN t.qG,sF true iT bK bO t.xn,sF false ee dK dI ah]:=H.pick [] [14,4,8,3,2,1,0,5,6,7,9,10,11,12,13]
  have N1:Fresh _ []:=N
  have K1:Kept [] [atF oW 0<|yT t bK bO bA bN bP bL,atF sa 0<|yS s bE bD cK bW,sF true gH c9 db ag,sF true iF bE bD s.qA,sF true iU bP bL t.qE,sF true iH bA bN t.qG,sF true iT bK bO t.xn,sF false ee dK dI ah]:=Kept.nil _
  refine sw<|zy #[Sv dC dt.length dD,.agg #[yI s.qP,Sv bE s.qA.length bD,Sv cK s.qB.length bW],Sv c9 ag.length db,.agg #[Sv bK t.xn.length bO,Sv bA t.qG.length bN,Sv bP t.qE.length bL]] rfl rfl call9 (a2Deeds_ok dt dC dD ed s ag bE bD iF cK bW pk c9 db gH t bK bO iT bA bN iH bP bL iU n H1 N1 K1 qg qg qg<|zf (HB.ltF 9 rfl)<|zf (fun b hb=>HB.ltF 4 rfl b hb)<|zf (HB.ltF 3 rfl)<|zf (fun b hb=>HB.ltF 2 rfl b hb)<|zf (fun b hb=>HB.ltF 7 rfl b hb)<|zf (fun b hb=>HB.ltF 6 rfl b hb)<|zf (fun b hb=>HB.ltF 5 rfl b hb)<|zf (HB.ltF 0 rfl)<|zf (HB.ltF 1 rfl)<|zf (HB.ltF 2 rfl)<|zf (HB.ltF 4 rfl)<|zf (HB.ltF 5 rfl)<|zf (HB.ltF 6 rfl)<|zf (HB.ltF 7 rfl)<|zf (HB.ltF 8 rfl) olds_none) ?_
  clear H H1 N1 K1
  rintro _ w59 ⟨av,fK,aKj,kI,fg,f4,Zk,rfl,N,H⟩
  obtain rfl:=H.xe (α:=xm) 0 rfl 7 rfl qj
  refine sq 1<|zjc<|sw<|zi (yS s bE bD cK bW) isAgg27 sizeOf27 rfl (qK (H.get 9 rfl) 0 3)<|sq 1<|sw<|zi (yT t bK bO bA bN bP bL) isAgg31 sizeOf31 rfl (qK (H.get 8 rfl) 0 3)<|sq 1 ?_
  obtain ⟨G68,aH2,h70⟩:=H.rowIsR (α:=xm) 0 rfl 7 rfl qj
  have dd:=(‹Deeds _/\_›)
  have d4:∀ k,k < av.length->DeedOk (av[k]!):=dd.1
  have tk:Vu s ag (Xm ag) (xF s ag (qW s ag t<|Xm ag) av av.length).1:=run_ok r0 (begin_ok r0 p2) d4 _<|Nat.le_refl _
  have tl:(xF s ag (qW s ag t<|Xm ag) av av.length).1.qF.length=Xm ag:=tk.len
  have rc:=run_cnt s ag (qW s ag t<|Xm ag) av av.length
  have att:=H.base.size
  have aw3:=H.ltN (L:=[f4]) [7]
  refine sw<|oc (tissueAfter_ok _ s ag t av (H.get 1 rfl).1 (H.get 2 rfl).1 (H.get 3 rfl).1 (H.get 4 rfl).1 (H.get 5 rfl).1 (H.get 6 rfl).1 h70 qg qg qg qg qg qg qg) ?_
  rintro _ Rh ⟨ak,Tz,an,aq,aj,aQ,adN,aR,aT,aG,rfl,M,K⟩ _
  replace N:=N.merge att aw3 M
  replace H:=H.merge K M
  obtain rfl:=H.xe (α:=zA) 0 rfl 0 rfl qj
  obtain rfl:=H.xe (α:=zk) 1 rfl 1 rfl qj
  refine sq 3<|sp (yI 0)<|sw<|xU H ti39 [yN,yN] fun kx w79 H=>sw<|zC H 0 [Sv ak ((((xF s ag (qW s ag t<|Xm ag) av av.length).1).qF).length) an,Sv aQ ((((xF s ag (qW s ag t<|Xm ag) av av.length).1).zu).length) aR] sizeOf39 fun WH H=>sq 1<|sp (yI 0)<|zjn<|xH<|xH ?_
  obtain ⟨V,hV⟩:∃ z,(xF s ag (qW s ag t (Xm ag)) av av.length)=z:=⟨_,rfl⟩
  rw [hV] at H tk tl rc ⊢
  refine xZ<|sp (yI 0)<|sp (Bv false)<|sp (Bv false)<|qV 43 rfl rfl<|oF rfl<|qV 43 rfl rfl<|oL rfl (H.cell 0 rfl rfl)<|qV 43 rfl rfl<|oN rfl<|qV 43 rfl rfl<|sp (Bv<|decide ((((V.1).qF).length:Int) < 1))<|sp (Bv<|decide ((((V.1).qF).length:Int) < 1))<|zjn<|cD rfl (fun h81=>?_)<|fun h81=>?_
  ·refine zcr (sp (Bv false)<|zjr<|t_r<|ret1 (Bv false) rfl rfl ⟨_,rfl,?_,(Ext.trans' B0 H.base)⟩)
   exfalso;first | omega | contradiction | exact absurd y1 ql | exact absurd y2 ql | exact absurd y1 (of_decide_eq_false ql) | exact absurd y2<|of_decide_eq_false ql
  refine xk<|t_n<|zcr<|sq 1<|oF rfl<|oL rfl (H.cell 0 rfl rfl)<|oN rfl<|sw<|oq (a2At_ok _ dt 0 (((V.1).qF).length) (H.get 2 rfl).1 qg) H fun w83 H=>sq 1<|zjn<|xH ?_
  have ba:=atV_bd dt 0 (n:=(V.1.qF.length:Int)) qf
  obtain ⟨kk,hk⟩:∃ z,atV dt 0 (V.1.qF.length:Int)=z:=⟨_,rfl⟩
  rw [hk] at ba ⊢
  refine c_lateC 1 (fun ρ w94=>∃ (xI:Env) (iS:Nat) (aaY:yOA) (ZZ:Nat) (ZI:yOA) (Nh:Nat) (ab3:List Value) (OD:List Value) (Ts:yLN) (Rp:yLN),ρ=upd (upd (upd (upd (upd (upd xI 9<|pp kx 0) 10<|yI V.2) 12<|yI kk) 13<|pp iS 0) 14<|yI ((xF s ag (qW s ag t<|Xm ag) ((([]:List xm)++av)++[(⟨9,kk,0⟩:xm)]) ((([]:List xm)++av)++[(⟨9,kk,0⟩:xm)]).length).2)) 68 (yI 0)/\Fresh ka.heap.size [Ts,Rp,aj,aG]/\St ka w94 [.box iS [Sv aaY ((((xF s ag (qW s ag t<|Xm ag) ((([]:List xm)++av)++[(⟨9,kk,0⟩:xm)]) ((([]:List xm)++av)++[(⟨9,kk,0⟩:xm)]).length).1).qF).length) ZZ,Sv ZI ((((xF s ag (qW s ag t<|Xm ag) ((([]:List xm)++av)++[(⟨9,kk,0⟩:xm)]) ((([]:List xm)++av)++[(⟨9,kk,0⟩:xm)]).length).1).zu).length) Nh] 39,rr aaY ((((xF s ag (qW s ag t<|Xm ag) ((([]:List xm)++av)++[(⟨9,kk,0⟩:xm)]) ((([]:List xm)++av)++[(⟨9,kk,0⟩:xm)]).length).1).qF).length) ZZ 49 16 ab3,rr ZI ((((xF s ag (qW s ag t<|Xm ag) ((([]:List xm)++av)++[(⟨9,kk,0⟩:xm)]) ((([]:List xm)++av)++[(⟨9,kk,0⟩:xm)]).length).1).zu).length) Nh 77 4 OD,.box kx [Sv ak (((V.1).qF).length) an,Sv aQ (((V.1).zu).length) aR] 39,rr ak (((V.1).qF).length) an 49 16 aq,rr aQ (((V.1).zu).length) aR 77 4 aT,rr none 0 0 0 1 []] [qL true Ts ab3 (((xF s ag (qW s ag t<|Xm ag) ((([]:List xm)++av)++[(⟨9,kk,0⟩:xm)]) ((([]:List xm)++av)++[(⟨9,kk,0⟩:xm)]).length).1).qF),qL true Rp OD (((xF s ag (qW s ag t<|Xm ag) ((([]:List xm)++av)++[(⟨9,kk,0⟩:xm)]) ((([]:List xm)++av)++[(⟨9,kk,0⟩:xm)]).length).1).zu),qL true aj aq ((V.1).qF),qL true aG aT ((V.1).zu)]) rfl H [0,1,2] [0,1,2,3,4,5,6,7,8,9,10,11,12,13,14,15,16,17] (fun H=>?_) ?_
  ·dsimp only [jR,yE]
   refine yR (fun ρ Ln=>∃ (xI:Env) (wB:yOA) (sk:Nat) (Ph:yOA) (Pe:Nat) (AY:Nat) (Gw:List Value) (Cz:List Value) (Dn:yLN) (Fv:yLN),ρ=upd (upd (upd (upd (upd (upd (upd xI 9<|pp kx 0) 10<|yI V.2) 12<|yI kk) 13<|pp AY 0) 66<|.agg #[Sv wB ((((xF s ag (qW s ag t<|Xm ag) ((([]:List xm)++av)++[(⟨9,kk,0⟩:xm)]) ((([]:List xm)++av)++[(⟨9,kk,0⟩:xm)]).length).1).qF).length) sk,Sv Ph ((((xF s ag (qW s ag t<|Xm ag) ((([]:List xm)++av)++[(⟨9,kk,0⟩:xm)]) ((([]:List xm)++av)++[(⟨9,kk,0⟩:xm)]).length).1).zu).length) Pe]) 67<|yI ((xF s ag (qW s ag t<|Xm ag) ((([]:List xm)++av)++[(⟨9,kk,0⟩:xm)]) ((([]:List xm)++av)++[(⟨9,kk,0⟩:xm)]).length).2)) 68 (yI 0)/\Fresh ka.heap.size [Dn,Fv,aj,aG]/\St ka Ln [.box AY [yN,yN] 39,rr wB ((((xF s ag (qW s ag t<|Xm ag) ((([]:List xm)++av)++[(⟨9,kk,0⟩:xm)]) ((([]:List xm)++av)++[(⟨9,kk,0⟩:xm)]).length).1).qF).length) sk 49 16 Gw,rr Ph ((((xF s ag (qW s ag t<|Xm ag) ((([]:List xm)++av)++[(⟨9,kk,0⟩:xm)]) ((([]:List xm)++av)++[(⟨9,kk,0⟩:xm)]).length).1).zu).length) Pe 77 4 Cz,.box kx [Sv ak (((V.1).qF).length) an,Sv aQ (((V.1).zu).length) aR] 39,rr ak (((V.1).qF).length) an 49 16 aq,rr aQ (((V.1).zu).length) aR 77 4 aT,rr none 0 0 0 1 []] [qL true Dn Gw (((xF s ag (qW s ag t<|Xm ag) ((([]:List xm)++av)++[(⟨9,kk,0⟩:xm)]) ((([]:List xm)++av)++[(⟨9,kk,0⟩:xm)]).length).1).qF),qL true Fv Cz (((xF s ag (qW s ag t<|Xm ag) ((([]:List xm)++av)++[(⟨9,kk,0⟩:xm)]) ((([]:List xm)++av)++[(⟨9,kk,0⟩:xm)]).length).1).zu),qL true aj aq ((V.1).qF),qL true aG aT ((V.1).zu),sF false ed dC dD dt,sF false iF bE bD s.qA,sF false pk cK bW s.qB,sF false gH c9 db ag,sF false iT bK bO t.xn,sF false iH bA bN t.qG,sF false iU bP bL t.qE,qL true f4 fg av,atF oW 0<|yT t bK bO bA bN bP bL,atF sa 0<|yS s bE bD cK bW,sF true gH c9 db ag,sF true iF bE bD s.qA,sF true iU bP bL t.qE,sF true iH bA bN t.qG,sF true iT bK bO t.xn,sF false ee dK dI ah]) 2 #[true,true,true,true,true,true,true,true,true,true,true,true,true,true,true,true,false,false] ?_ fun aoR=>?_
   ·rintro ρ aaR ⟨xI,wB,sk,Ph,Pe,AY,Gw,Cz,Dn,Fv,rfl,N,H⟩
    refine ro 16 rfl<|zC H 0 [Sv wB ((((xF s ag (qW s ag t<|Xm ag) ((([]:List xm)++av)++[(⟨9,kk,0⟩:xm)]) ((([]:List xm)++av)++[(⟨9,kk,0⟩:xm)]).length).1).qF).length) sk,Sv Ph ((((xF s ag (qW s ag t<|Xm ag) ((([]:List xm)++av)++[(⟨9,kk,0⟩:xm)]) ((([]:List xm)++av)++[(⟨9,kk,0⟩:xm)]).length).1).zu).length) Pe] sizeOf39 fun aus H=>⟨H.pick [3,4,5]<|zR 2 18,?_⟩
    refine rtl 17 (H.pick [3,4,5]<|zR 2 18) ?_
    refine xy qh ((meet ⟨_,AY,wB,sk,Ph,Pe,Gw,Cz,Dn,Fv,uE6,N,H.pick (zR 0 7)<|zR 0 4⟩))
   refine yR (fun ρ ZY=>∃ (xI:Env) (Ep:yOA) (D4:Nat) (Jg:Nat) (Nx:List Value) (TJ:yLN),ρ=upd (upd (upd (upd (upd (upd (upd (upd xI 9<|pp kx 0) 10<|yI V.2) 12<|yI kk) 13<|pp Jg 0) 55<|.agg #[yI s.qP,Sv bE s.qA.length bD,Sv cK s.qB.length bW]) 56<|Sv c9 ag.length db) 57<|.agg #[Sv bK t.xn.length bO,Sv bA t.qG.length bN,Sv bP t.qE.length bL]) 64 (Sv Ep ((0+av.length)+1) D4)/\Fresh ka.heap.size [aj,aG]/\St ka ZY [.box Jg [yN,yN] 39,rr Ep ((0+av.length)+1) D4 44 3 (([]++Nx)++[yI 9,yI kk,yI 0]),.box kx [Sv ak (((V.1).qF).length) an,Sv aQ (((V.1).zu).length) aR] 39,rr ak (((V.1).qF).length) an 49 16 aq,rr aQ (((V.1).zu).length) aR 77 4 aT,rr none 0 0 0 1 []] [qL true (([]++TJ)++[]) (([]++Nx)++[yI 9,yI kk,yI 0]) ((([]:List xm)++av)++[(⟨9,kk,0⟩:xm)]),qL true aj aq ((V.1).qF),qL true aG aT ((V.1).zu),sF false ed dC dD dt,sF false iF bE bD s.qA,sF false pk cK bW s.qB,sF false gH c9 db ag,sF false iT bK bO t.xn,sF false iH bA bN t.qG,sF false iU bP bL t.qE,qL true f4 fg av,atF oW 0<|yT t bK bO bA bN bP bL,atF sa 0<|yS s bE bD cK bW,sF true gH c9 db ag,sF true iF bE bD s.qA,sF true iU bP bL t.qE,sF true iH bA bN t.qG,sF true iT bK bO t.xn,sF false ee dK dI ah]) 7 #[true,true,true,true,true,true,true,true,true,true,false,false,false,false,false,true,false,false] ?_ fun agN=>?_
   ·rintro ρ avC ⟨xI,Ep,D4,Jg,Nx,TJ,rfl,N,H⟩
    refine ro 10 rfl ?_
    obtain ⟨Lq,W6,awV⟩:=H.rowIsR (α:=xm) 1 rfl 0 rfl qj
    have d6:((([]:List xm)++av)++[(⟨9,kk,0⟩:xm)]).length<=400:=by simp;omega
    have d5:∀ k,k < ((([]:List xm)++av)++[(⟨9,kk,0⟩:xm)]).length->DeedOk (((([]:List xm)++av)++[(⟨9,kk,0⟩:xm)])[k]!):=Deeds.crash dd.1 qf
    have apN:=H.base.size
    have ao5:=H.ltN (L:=[aj,aG]) [1,2]
    refine oc (args_eq (by rw [← W6])<|tissueAfter_ok _ s ag t ((([]:List xm)++av)++[(⟨9,kk,0⟩:xm)]) (H.get 4 rfl).1 (H.get 5 rfl).1 (H.get 6 rfl).1 (H.get 7 rfl).1 (H.get 8 rfl).1 (H.get 9 rfl).1 (W6▸awV) qg qg qg qg qg qg qg) ?_
    rintro _ abX ⟨wv,Rd,wG,wS,ww,EG,abC,DZ,EE,EC,rfl,M,K⟩ _
    replace N:=N.merge apN ao5 M
    replace H:=H.merge K M
    obtain rfl:=H.xe (α:=zA) 0 rfl 0 rfl qj
    obtain rfl:=H.xe (α:=zk) 1 rfl 1 rfl qj
    refine ⟨H.pick [4,5,6]<|zR 3 18,?_⟩
    have S:=H.zK [4,5,6]<|zR 3 18
    refine rtl 11 S ?_
    refine rtl 12 S ?_
    refine rtl 13 S ?_
    refine rtp 14 (yI 0) S ?_
    exact je aoR ⟨_,wv,wG,EG,DZ,Jg,wS,EE,ww,EC,uE7,N,H.pick [2,0,1,4,5,6,7] (0::1::zR 3 18)⟩
   refine yR (fun ρ SK=>∃ (xI:Env) (aaV:yOA) (aab:Nat) (aaf:Nat) (JV:Nat) (GZ:List Value) (aaq:yLN),ρ=upd (upd (upd (upd (upd (upd (upd (upd (upd xI 9<|pp kx 0) 10<|yI V.2) 12<|yI kk) 13<|pp JV 0) 55<|.agg #[yI s.qP,Sv bE s.qA.length bD,Sv cK s.qB.length bW]) 56<|Sv c9 ag.length db) 57<|.agg #[Sv bK t.xn.length bO,Sv bA t.qG.length bN,Sv bP t.qE.length bL]) 60<|Sv aaV (0+av.length) aab) 63 (Sv (aa aaf 0) 1 1)/\Fresh ka.heap.size [aj,aG]/\St ka SK [.box JV [yN,yN] 39,.box aaf [yI 9,yI kk,yI 0] 44,rr aaV (0+av.length) aab 44 3 ([]++GZ),.box kx [Sv ak (((V.1).qF).length) an,Sv aQ (((V.1).zu).length) aR] 39,rr ak (((V.1).qF).length) an 49 16 aq,rr aQ (((V.1).zu).length) aR 77 4 aT,rr none 0 0 0 1 []] [qL true ([]++aaq) ([]++GZ) (([]:List xm)++av),qL true aj aq ((V.1).qF),qL true aG aT ((V.1).zu),sF false ed dC dD dt,sF false iF bE bD s.qA,sF false pk cK bW s.qB,sF false gH c9 db ag,sF false iT bK bO t.xn,sF false iH bA bN t.qG,sF false iU bP bL t.qE,qL true f4 fg av,atF oW 0<|yT t bK bO bA bN bP bL,atF sa 0<|yS s bE bD cK bW,sF true gH c9 db ag,sF true iF bE bD s.qA,sF true iU bP bL t.qE,sF true iH bA bN t.qG,sF true iT bK bO t.xn,sF false ee dK dI ah]) 8 #[true,true,true,true,true,true,true,true,true,false,false,false,false,false,false,true,false,false] ?_ fun aah=>?_
   ·rintro ρ azd ⟨xI,aaV,aab,aaf,JV,GZ,aaq,rfl,N,H⟩
    refine ro 9 rfl<|zJ H 2 rfl 1 rfl underlying34 ti44 rfl qj rfl rfl rfl qw qp qf fun aw9 auQ an2 H=>?_
    replace H:=H.snoc_DeedD 0 rfl 9 kk 0
    refine ⟨H.pick [3,4,5]<|zR 2 18,(je agN ⟨_,aw9,auQ,JV,GZ,aaq,uE8,N,H.pick (0::zR 2 5) (0::zR 2 18)⟩)⟩
   refine yR (fun ρ OF=>∃ (xI:Env) (TD:yOA) (S7:Nat) (nP:Nat) (CS:List Value) (j9:yLN),ρ=upd (upd (upd (upd (upd (upd (upd (upd xI 9<|pp kx 0) 10<|yI V.2) 12<|yI kk) 55<|.agg #[yI s.qP,Sv bE s.qA.length bD,Sv cK s.qB.length bW]) 56<|Sv c9 ag.length db) 57<|.agg #[Sv bK t.xn.length bO,Sv bA t.qG.length bN,Sv bP t.qE.length bL]) 60<|Sv TD (0+av.length) S7) 63 (Sv (aa nP 0) 1 1)/\Fresh ka.heap.size [aj,aG]/\St ka OF [.box nP [yI 9,yI kk,yI 0] 44,rr TD (0+av.length) S7 44 3 ([]++CS),.box kx [Sv ak (((V.1).qF).length) an,Sv aQ (((V.1).zu).length) aR] 39,rr ak (((V.1).qF).length) an 49 16 aq,rr aQ (((V.1).zu).length) aR 77 4 aT,rr none 0 0 0 1 []] [qL true ([]++j9) ([]++CS) (([]:List xm)++av),qL true aj aq ((V.1).qF),qL true aG aT ((V.1).zu),sF false ed dC dD dt,sF false iF bE bD s.qA,sF false pk cK bW s.qB,sF false gH c9 db ag,sF false iT bK bO t.xn,sF false iH bA bN t.qG,sF false iU bP bL t.qE,qL true f4 fg av,atF oW 0<|yT t bK bO bA bN bP bL,atF sa 0<|yS s bE bD cK bW,sF true gH c9 db ag,sF true iF bE bD s.qA,sF true iU bP bL t.qE,sF true iH bA bN t.qG,sF true iT bK bO t.xn,sF false ee dK dI ah]) 9 #[true,true,true,true,true,true,true,true,true,false,false,false,false,false,false,false,false,false] ?_ fun Kl=>?_
   ·rintro ρ NP ⟨xI,TD,S7,nP,CS,j9,rfl,N,H⟩
    refine jw [9,15] qh qm<|jT rfl ?_<|jT rfl ?_ jy
    ·refine zJ H 1 rfl 0 rfl underlying34 ti44 rfl qj rfl rfl rfl qw qp qf fun ab7 aaz atb H=>?_
     replace H:=H.snoc_DeedD 0 rfl 9 kk 0
     refine ⟨H.pick [2,3,4]<|zR 2 18,(jw [10,15] qh qm<|jT rfl ?_<|jT rfl ?_ jy)⟩
     ·obtain ⟨A6,OZ,ave⟩:=H.rowIsR (α:=xm) 1 rfl 0 rfl qj
      have d6:((([]:List xm)++av)++[(⟨9,kk,0⟩:xm)]).length<=400:=by simp;omega
      have d5:∀ k,k < ((([]:List xm)++av)++[(⟨9,kk,0⟩:xm)]).length->DeedOk (((([]:List xm)++av)++[(⟨9,kk,0⟩:xm)])[k]!):=Deeds.crash dd.1 qf
      have anF:=H.base.size
      have akN:=H.ltN (L:=[aj,aG]) [2,3]
      refine oc (args_eq (by rw [← OZ])<|tissueAfter_ok _ s ag t ((([]:List xm)++av)++[(⟨9,kk,0⟩:xm)]) (H.get 5 rfl).1 (H.get 6 rfl).1 (H.get 7 rfl).1 (H.get 8 rfl).1 (H.get 9 rfl).1 (H.get 10 rfl).1 (OZ▸ave) qg qg qg qg qg qg qg) ?_
      rintro _ abQ ⟨wJ,P4,wN,wR,wF,E5,aa0,D6,E4,ET,rfl,M,K⟩ _
      replace N:=N.merge anF akN M
      replace H:=H.merge K M
      obtain rfl:=H.xe (α:=zA) 0 rfl 0 rfl qj
      obtain rfl:=H.xe (α:=zk) 1 rfl 1 rfl qj
      refine ⟨H.pick [4,5,6]<|zR 4 18,?_⟩
      have S:=H.zK [4,5,6]<|zR 4 18
      refine rtl 11 S ?_
      refine rtl 12 S ?_
      refine rtl 13 S ?_
      refine rtp 14 (yI 0) S ?_
      refine ro 15 rfl<|xU H ti39 [yN,yN] fun lK ajx H=>⟨H.pick [5,6,7]<|zR 4 18,(je aoR ⟨_,wJ,wN,E5,D6,lK,wR,E4,wF,ET,uE7,N,H.pick [0,1,2,5,6,7,8] (0::1::zR 4 18)⟩)⟩
     refine xU H ti39 [yN,yN] fun Kq axO H=>⟨H.pick [3,4,5]<|zR 2 18,(je agN ⟨_,ab7,aaz,Kq,CS,j9,uE8,N,H.pick (0::zR 2 5) (0::zR 2 18)⟩)⟩
    refine xU H ti39 [yN,yN] fun KL aaU H=>⟨H.pick [3,4,5]<|zR 1 18,(je aah ⟨_,TD,S7,nP,KL,CS,j9,uE9,N,H⟩)⟩
   refine yR (fun ρ Sj=>∃ (xI:Env) (SW:yOA) (Sn:Nat) (Td:Nat) (FT:List Value) (aaN:yLN),ρ=upd (upd (upd (upd (upd (upd (upd (upd (upd xI 9<|pp kx 0) 10<|yI V.2) 12<|yI kk) 13<|pp Td 0) 55<|.agg #[yI s.qP,Sv bE s.qA.length bD,Sv cK s.qB.length bW]) 56<|Sv c9 ag.length db) 57<|.agg #[Sv bK t.xn.length bO,Sv bA t.qG.length bN,Sv bP t.qE.length bL]) 60<|Sv SW (0+av.length) Sn) 62 (.agg #[yI 9,yI kk,yI 0])/\Fresh ka.heap.size [aj,aG]/\St ka Sj [.box Td [yN,yN] 39,rr SW (0+av.length) Sn 44 3 ([]++FT),.box kx [Sv ak (((V.1).qF).length) an,Sv aQ (((V.1).zu).length) aR] 39,rr ak (((V.1).qF).length) an 49 16 aq,rr aQ (((V.1).zu).length) aR 77 4 aT,rr none 0 0 0 1 []] [qL true ([]++aaN) ([]++FT) (([]:List xm)++av),qL true aj aq ((V.1).qF),qL true aG aT ((V.1).zu),sF false ed dC dD dt,sF false iF bE bD s.qA,sF false pk cK bW s.qB,sF false gH c9 db ag,sF false iT bK bO t.xn,sF false iH bA bN t.qG,sF false iU bP bL t.qE,qL true f4 fg av,atF oW 0<|yT t bK bO bA bN bP bL,atF sa 0<|yS s bE bD cK bW,sF true gH c9 db ag,sF true iF bE bD s.qA,sF true iU bP bL t.qE,sF true iH bA bN t.qG,sF true iT bK bO t.xn,sF false ee dK dI ah]) 9 #[true,true,true,true,true,true,true,true,false,false,false,false,false,false,false,true,false,false] ?_ fun ZT=>?_
   ·rintro ρ aJC ⟨xI,SW,Sn,Td,FT,aaN,rfl,N,H⟩
    refine ro 8 rfl<|zx H underlying34 ti44 [yI 9,yI kk,yI 0] fun Jw aFT H=>⟨H.pick [3,4,5]<|zR 1 18,(je aah ⟨_,SW,Sn,Jw,Td,FT,aaN,uE9,N,H.pick (1::0::zR 2 5)<|zR 0 19⟩)⟩
   refine yR (fun ρ apc=>∃ (xI:Env) (Rx:Nat) (mo:Nat) (tC:Nat),ρ=upd (upd (upd (upd (upd (upd (upd (upd (upd (upd xI 9<|pp kx 0) 10<|yI V.2) 12<|yI kk) 13<|pp tC 0) 55<|.agg #[yI s.qP,Sv bE s.qA.length bD,Sv cK s.qB.length bW]) 56<|Sv c9 ag.length db) 57<|.agg #[Sv bK t.xn.length bO,Sv bA t.qG.length bN,Sv bP t.qE.length bL]) 58<|Sv (aa Rx 0) 0 0) 59<|Sv fK av.length kI) 63 (Sv (aa mo 0) 1 1)/\Fresh ka.heap.size [aj,aG,f4]/\St ka apc [.box tC [yN,yN] 39,.box mo [yI 9,yI kk,yI 0] 44,.box Rx [] 44,.box kx [Sv ak (((V.1).qF).length) an,Sv aQ (((V.1).zu).length) aR] 39,rr ak (((V.1).qF).length) an 49 16 aq,rr aQ (((V.1).zu).length) aR 77 4 aT,rr fK av.length kI 44 3 fg] [qL true aj aq ((V.1).qF),qL true aG aT ((V.1).zu),sF false ed dC dD dt,sF false iF bE bD s.qA,sF false pk cK bW s.qB,sF false gH c9 db ag,sF false iT bK bO t.xn,sF false iH bA bN t.qG,sF false iU bP bL t.qE,qL true f4 fg av,atF oW 0<|yT t bK bO bA bN bP bL,atF sa 0<|yS s bE bD cK bW,sF true gH c9 db ag,sF true iF bE bD s.qA,sF true iU bP bL t.qE,sF true iH bA bN t.qG,sF true iT bK bO t.xn,sF false ee dK dI ah]) 9 #[true,true,true,true,true,false,true,true,true,false,false,false,false,false,false,true,false,false] ?_ fun aan=>?_
   ·rintro ρ aoC ⟨xI,Rx,mo,tC,rfl,N,H⟩
    refine ro 5 rfl ?_
    replace H:=H.boxRow 2 rfl 3 0 rfl qj
    replace H:=H.jZ (α:=xm)
    replace H:St _ _ [.box tC [yN,yN] 39,.box mo [yI 9,yI kk,yI 0] 44,rr (aa Rx 0) 0 0 44 3 [],.box kx [Sv ak (((V.1).qF).length) an,Sv aQ (((V.1).zu).length) aR] 39,rr ak (((V.1).qF).length) an 49 16 aq,rr aQ (((V.1).zu).length) aR 77 4 aT,rr fK av.length kI 44 3 fg] [qL true [] [] ([]:List xm),qL true aj aq ((V.1).qF),qL true aG aT ((V.1).zu),sF false ed dC dD dt,sF false iF bE bD s.qA,sF false pk cK bW s.qB,sF false gH c9 db ag,sF false iT bK bO t.xn,sF false iH bA bN t.qG,sF false iU bP bL t.qE,qL true f4 fg av,atF oW 0<|yT t bK bO bA bN bP bL,atF sa 0<|yS s bE bD cK bW,sF true gH c9 db ag,sF true iF bE bD s.qA,sF true iU bP bL t.qE,sF true iH bA bN t.qG,sF true iT bK bO t.xn,sF false ee dK dI ah]:=H
    have H0:=H
    obtain ⟨atN,TN,aCs,H⟩:=H.vK (α:=xm) 6 rfl 10 rfl qj
    replace N:Fresh ka.heap.size [atN,aj,aG]:=Fresh.ice (N.pick [2,0,1]) H0 6 TN.1 TN.2<|H0.vg [1,2]
    clear H0
    refine Xf H 2 rfl 0 rfl underlying34 ti44 rfl qj rfl rfl qp qf fun as1 auf au1 an1 auB H aCt=>?_
    replace H:=H.X3 true 2 rfl 0 rfl qm
    refine ⟨H.pick [3,4,5]<|zR 4 18,(je aah ⟨_,as1,auf,mo,tC,an1,auB,uE9,(N.pick [1,2]),H.pick (zR 0 7) (0::zR 4 18)⟩)⟩
   refine yR (fun ρ NE=>∃ (xI:Env) (wH:yOA) (wP:Nat) (Di:List Value) (RL:yLN),ρ=upd (upd (upd (upd (upd (upd (upd (upd xI 9<|pp kx 0) 10<|yI V.2) 12<|yI kk) 55<|.agg #[yI s.qP,Sv bE s.qA.length bD,Sv cK s.qB.length bW]) 56<|Sv c9 ag.length db) 57<|.agg #[Sv bK t.xn.length bO,Sv bA t.qG.length bN,Sv bP t.qE.length bL]) 60<|Sv wH (0+av.length) wP) 62 (.agg #[yI 9,yI kk,yI 0])/\Fresh ka.heap.size [aj,aG]/\St ka NE [rr wH (0+av.length) wP 44 3 ([]++Di),.box kx [Sv ak (((V.1).qF).length) an,Sv aQ (((V.1).zu).length) aR] 39,rr ak (((V.1).qF).length) an 49 16 aq,rr aQ (((V.1).zu).length) aR 77 4 aT,rr none 0 0 0 1 []] [qL true ([]++RL) ([]++Di) (([]:List xm)++av),qL true aj aq ((V.1).qF),qL true aG aT ((V.1).zu),sF false ed dC dD dt,sF false iF bE bD s.qA,sF false pk cK bW s.qB,sF false gH c9 db ag,sF false iT bK bO t.xn,sF false iH bA bN t.qG,sF false iU bP bL t.qE,qL true f4 fg av,atF oW 0<|yT t bK bO bA bN bP bL,atF sa 0<|yS s bE bD cK bW,sF true gH c9 db ag,sF true iF bE bD s.qA,sF true iU bP bL t.qE,sF true iH bA bN t.qG,sF true iT bK bO t.xn,sF false ee dK dI ah]) 10 #[true,true,true,true,true,true,true,true,false,false,false,false,false,false,false,false,false,false] ?_ fun afr=>?_
   ·rintro ρ aeG ⟨xI,wH,wP,Di,RL,rfl,N,H⟩
    refine jw [8,15] qh qm<|jT rfl ?_<|jT rfl ?_ jy
    ·refine zx H underlying34 ti44 [yI 9,yI kk,yI 0] fun Ja apn H=>⟨H.pick [2,3,4]<|zR 1 18,(je Kl ⟨_,wH,wP,Ja,Di,RL,uE8,N,H⟩)⟩
    refine xU H ti39 [yN,yN] fun ap4 aKw H=>⟨H.pick [2,3,4]<|zR 1 18,(je ZT ⟨_,wH,wP,ap4,Di,RL,uE9,N,H⟩)⟩
   refine yR (fun ρ Ka=>∃ (xI:Env) (BZ:yOA) (B2:Nat) (Sm:Nat) (FZ:List Value) (EY:yLN),ρ=upd (upd (upd (upd (upd (upd (upd (upd (upd xI 9<|pp kx 0) 10<|yI V.2) 12<|yI kk) 13<|pp Sm 0) 55<|.agg #[yI s.qP,Sv bE s.qA.length bD,Sv cK s.qB.length bW]) 56<|Sv c9 ag.length db) 57<|.agg #[Sv bK t.xn.length bO,Sv bA t.qG.length bN,Sv bP t.qE.length bL]) 60<|Sv BZ (0+av.length) B2) 61 (yI kk)/\Fresh ka.heap.size [aj,aG]/\St ka Ka [.box Sm [yN,yN] 39,rr BZ (0+av.length) B2 44 3 ([]++FZ),.box kx [Sv ak (((V.1).qF).length) an,Sv aQ (((V.1).zu).length) aR] 39,rr ak (((V.1).qF).length) an 49 16 aq,rr aQ (((V.1).zu).length) aR 77 4 aT,rr none 0 0 0 1 []] [qL true ([]++EY) ([]++FZ) (([]:List xm)++av),qL true aj aq ((V.1).qF),qL true aG aT ((V.1).zu),sF false ed dC dD dt,sF false iF bE bD s.qA,sF false pk cK bW s.qB,sF false gH c9 db ag,sF false iT bK bO t.xn,sF false iH bA bN t.qG,sF false iU bP bL t.qE,qL true f4 fg av,atF oW 0<|yT t bK bO bA bN bP bL,atF sa 0<|yS s bE bD cK bW,sF true gH c9 db ag,sF true iF bE bD s.qA,sF true iU bP bL t.qE,sF true iH bA bN t.qG,sF true iT bK bO t.xn,sF false ee dK dI ah]) 10 #[true,true,true,true,true,true,true,false,false,false,false,false,false,false,false,true,false,false] ?_ fun IM=>?_
   ·rintro ρ atk ⟨xI,BZ,B2,Sm,FZ,EY,rfl,N,H⟩
    refine ro 7 rfl<|jb [yI 9,yI kk,yI 0] [(0,yI 9),(1,yI kk)]<|⟨H.pick [2,3,4]<|zR 1 18,(je ZT ⟨_,BZ,B2,Sm,FZ,EY,uE9,N,H⟩)⟩
   refine yR (fun ρ ack=>∃ (xI:Env) (L7:Nat) (D1:Nat),ρ=upd (upd (upd (upd (upd (upd (upd (upd (upd xI 9<|pp kx 0) 10<|yI V.2) 12<|yI kk) 55<|.agg #[yI s.qP,Sv bE s.qA.length bD,Sv cK s.qB.length bW]) 56<|Sv c9 ag.length db) 57<|.agg #[Sv bK t.xn.length bO,Sv bA t.qG.length bN,Sv bP t.qE.length bL]) 58<|Sv (aa L7 0) 0 0) 59<|Sv fK av.length kI) 63 (Sv (aa D1 0) 1 1)/\Fresh ka.heap.size [aj,aG,f4]/\St ka ack [.box D1 [yI 9,yI kk,yI 0] 44,.box L7 [] 44,.box kx [Sv ak (((V.1).qF).length) an,Sv aQ (((V.1).zu).length) aR] 39,rr ak (((V.1).qF).length) an 49 16 aq,rr aQ (((V.1).zu).length) aR 77 4 aT,rr fK av.length kI 44 3 fg] [qL true aj aq ((V.1).qF),qL true aG aT ((V.1).zu),sF false ed dC dD dt,sF false iF bE bD s.qA,sF false pk cK bW s.qB,sF false gH c9 db ag,sF false iT bK bO t.xn,sF false iH bA bN t.qG,sF false iU bP bL t.qE,qL true f4 fg av,atF oW 0<|yT t bK bO bA bN bP bL,atF sa 0<|yS s bE bD cK bW,sF true gH c9 db ag,sF true iF bE bD s.qA,sF true iU bP bL t.qE,sF true iH bA bN t.qG,sF true iT bK bO t.xn,sF false ee dK dI ah]) 10 #[true,true,true,true,true,false,true,true,true,false,false,false,false,false,false,false,false,false] ?_ fun amU=>?_
   ·rintro ρ awQ ⟨xI,L7,D1,rfl,N,H⟩
    refine jw [5,15] qh qm<|jT rfl ?_<|jT rfl ?_ jy
    ·replace H:=H.boxRow 1 rfl 3 0 rfl qj
     replace H:=H.jZ (α:=xm)
     replace H:St _ _ [.box D1 [yI 9,yI kk,yI 0] 44,rr (aa L7 0) 0 0 44 3 [],.box kx [Sv ak (((V.1).qF).length) an,Sv aQ (((V.1).zu).length) aR] 39,rr ak (((V.1).qF).length) an 49 16 aq,rr aQ (((V.1).zu).length) aR 77 4 aT,rr fK av.length kI 44 3 fg] [qL true [] [] ([]:List xm),qL true aj aq ((V.1).qF),qL true aG aT ((V.1).zu),sF false ed dC dD dt,sF false iF bE bD s.qA,sF false pk cK bW s.qB,sF false gH c9 db ag,sF false iT bK bO t.xn,sF false iH bA bN t.qG,sF false iU bP bL t.qE,qL true f4 fg av,atF oW 0<|yT t bK bO bA bN bP bL,atF sa 0<|yS s bE bD cK bW,sF true gH c9 db ag,sF true iF bE bD s.qA,sF true iU bP bL t.qE,sF true iH bA bN t.qG,sF true iT bK bO t.xn,sF false ee dK dI ah]:=H
     have H0:=H
     obtain ⟨avR,YL,aAr,H⟩:=H.vK (α:=xm) 5 rfl 10 rfl qj
     replace N:Fresh ka.heap.size [avR,aj,aG]:=Fresh.ice (N.pick [2,0,1]) H0 5 YL.1 YL.2<|H0.vg [1,2]
     clear H0
     refine Xf H 1 rfl 0 rfl underlying34 ti44 rfl qj rfl rfl qp qf fun Iu IC ao9 al7 av5 H aBa=>?_
     replace H:=H.X3 true 2 rfl 0 rfl qm
     refine ⟨H.pick [2,3,4]<|zR 4 18,(je Kl ⟨_,Iu,IC,D1,al7,av5,uE8,(N.pick [1,2]),H.pick (zR 0 6) (0::zR 4 18)⟩)⟩
    refine xU H ti39 [yN,yN] fun Ck aIf H=>⟨H.pick [3,4,5]<|zR 0 18,(je aan ⟨_,L7,D1,Ck,uE10,N,H⟩)⟩
   refine yR (fun ρ w229=>∃ (xI:Env) (Mp:Nat) (Ke:Nat),ρ=upd (upd (upd (upd (upd (upd (upd (upd (upd (upd xI 9<|pp kx 0) 10<|yI V.2) 12<|yI kk) 13<|pp Ke 0) 55<|.agg #[yI s.qP,Sv bE s.qA.length bD,Sv cK s.qB.length bW]) 56<|Sv c9 ag.length db) 57<|.agg #[Sv bK t.xn.length bO,Sv bA t.qG.length bN,Sv bP t.qE.length bL]) 58<|Sv (aa Mp 0) 0 0) 59<|Sv fK av.length kI) 62 (.agg #[yI 9,yI kk,yI 0])/\Fresh ka.heap.size [aj,aG,f4]/\St ka w229 [.box Ke [yN,yN] 39,.box Mp [] 44,.box kx [Sv ak (((V.1).qF).length) an,Sv aQ (((V.1).zu).length) aR] 39,rr ak (((V.1).qF).length) an 49 16 aq,rr aQ (((V.1).zu).length) aR 77 4 aT,rr fK av.length kI 44 3 fg] [qL true aj aq ((V.1).qF),qL true aG aT ((V.1).zu),sF false ed dC dD dt,sF false iF bE bD s.qA,sF false pk cK bW s.qB,sF false gH c9 db ag,sF false iT bK bO t.xn,sF false iH bA bN t.qG,sF false iU bP bL t.qE,qL true f4 fg av,atF oW 0<|yT t bK bO bA bN bP bL,atF sa 0<|yS s bE bD cK bW,sF true gH c9 db ag,sF true iF bE bD s.qA,sF true iU bP bL t.qE,sF true iH bA bN t.qG,sF true iT bK bO t.xn,sF false ee dK dI ah]) 10 #[true,true,true,true,true,false,true,true,false,false,false,false,false,false,false,true,false,false] ?_ fun Kt=>?_
   ·rintro ρ aku ⟨xI,Mp,Ke,rfl,N,H⟩
    refine jw [5,8] qh qm<|jT rfl ?_<|jT rfl ?_ jy
    ·replace H:=H.boxRow 1 rfl 3 0 rfl qj
     replace H:=H.jZ (α:=xm)
     replace H:St _ _ [.box Ke [yN,yN] 39,rr (aa Mp 0) 0 0 44 3 [],.box kx [Sv ak (((V.1).qF).length) an,Sv aQ (((V.1).zu).length) aR] 39,rr ak (((V.1).qF).length) an 49 16 aq,rr aQ (((V.1).zu).length) aR 77 4 aT,rr fK av.length kI 44 3 fg] [qL true [] [] ([]:List xm),qL true aj aq ((V.1).qF),qL true aG aT ((V.1).zu),sF false ed dC dD dt,sF false iF bE bD s.qA,sF false pk cK bW s.qB,sF false gH c9 db ag,sF false iT bK bO t.xn,sF false iH bA bN t.qG,sF false iU bP bL t.qE,qL true f4 fg av,atF oW 0<|yT t bK bO bA bN bP bL,atF sa 0<|yS s bE bD cK bW,sF true gH c9 db ag,sF true iF bE bD s.qA,sF true iU bP bL t.qE,sF true iH bA bN t.qG,sF true iT bK bO t.xn,sF false ee dK dI ah]:=H
     have H0:=H
     obtain ⟨ay0,WM,aA9,H⟩:=H.vK (α:=xm) 5 rfl 10 rfl qj
     replace N:Fresh ka.heap.size [ay0,aj,aG]:=Fresh.ice (N.pick [2,0,1]) H0 5 WM.1 WM.2<|H0.vg [1,2]
     clear H0
     refine Xf H 1 rfl 0 rfl underlying34 ti44 rfl qj rfl rfl qp qf fun av3 auL aGz aeC pg H aBe=>?_
     replace H:=H.X3 true 2 rfl 0 rfl qm
     refine ⟨H.pick [2,3,4]<|zR 4 18,(je ZT ⟨_,av3,auL,Ke,aeC,pg,uE9,(N.pick [1,2]),H.pick (zR 0 6) (0::zR 4 18)⟩)⟩
    refine zx H underlying34 ti44 [yI 9,yI kk,yI 0] fun Kp aIs H=>⟨H.pick [3,4,5]<|zR 0 18,(je aan ⟨_,Mp,Kp,Ke,uE10,N,H.pick (1::0::zR 2 5)<|zR 0 18⟩)⟩
   refine yR (fun ρ ao0=>∃ (xI:Env) (RU:Nat) (SE:Nat),ρ=upd (upd (upd (upd (upd (upd (upd (upd (upd xI 9<|pp kx 0) 10<|yI V.2) 12<|yI kk) 13<|pp SE 0) 55<|.agg #[yI s.qP,Sv bE s.qA.length bD,Sv cK s.qB.length bW]) 56<|Sv c9 ag.length db) 57<|.agg #[Sv bK t.xn.length bO,Sv bA t.qG.length bN,Sv bP t.qE.length bL]) 59<|Sv fK av.length kI) 63 (Sv (aa RU 0) 1 1)/\Fresh ka.heap.size [aj,aG,f4]/\St ka ao0 [.box SE [yN,yN] 39,.box RU [yI 9,yI kk,yI 0] 44,.box kx [Sv ak (((V.1).qF).length) an,Sv aQ (((V.1).zu).length) aR] 39,rr ak (((V.1).qF).length) an 49 16 aq,rr aQ (((V.1).zu).length) aR 77 4 aT,rr fK av.length kI 44 3 fg] [qL true aj aq ((V.1).qF),qL true aG aT ((V.1).zu),sF false ed dC dD dt,sF false iF bE bD s.qA,sF false pk cK bW s.qB,sF false gH c9 db ag,sF false iT bK bO t.xn,sF false iH bA bN t.qG,sF false iU bP bL t.qE,qL true f4 fg av,atF oW 0<|yT t bK bO bA bN bP bL,atF sa 0<|yS s bE bD cK bW,sF true gH c9 db ag,sF true iF bE bD s.qA,sF true iU bP bL t.qE,sF true iH bA bN t.qG,sF true iT bK bO t.xn,sF false ee dK dI ah]) 10 #[true,true,true,false,true,false,true,true,true,false,false,false,false,false,false,true,false,false] ?_ fun aq3=>?_
   ·rintro ρ auZ ⟨xI,RU,SE,rfl,N,H⟩
    refine ro 3 rfl<|jk H underlying34 ti44 fun avb aGY H=>⟨H.pick [3,4,5]<|zR 0 18,(je aan ⟨_,avb,RU,SE,uE10,N,H.pick [1,2,0,3,4,5,6]<|zR 0 18⟩)⟩
   refine yR (fun ρ Se=>∃ (xI:Env) (AC:Nat),ρ=upd (upd (upd (upd (upd (upd (upd (upd (upd xI 9<|pp kx 0) 10<|yI V.2) 12<|yI kk) 55<|.agg #[yI s.qP,Sv bE s.qA.length bD,Sv cK s.qB.length bW]) 56<|Sv c9 ag.length db) 57<|.agg #[Sv bK t.xn.length bO,Sv bA t.qG.length bN,Sv bP t.qE.length bL]) 58<|Sv (aa AC 0) 0 0) 59<|Sv fK av.length kI) 62 (.agg #[yI 9,yI kk,yI 0])/\Fresh ka.heap.size [aj,aG,f4]/\St ka Se [.box AC [] 44,.box kx [Sv ak (((V.1).qF).length) an,Sv aQ (((V.1).zu).length) aR] 39,rr ak (((V.1).qF).length) an 49 16 aq,rr aQ (((V.1).zu).length) aR 77 4 aT,rr fK av.length kI 44 3 fg] [qL true aj aq ((V.1).qF),qL true aG aT ((V.1).zu),sF false ed dC dD dt,sF false iF bE bD s.qA,sF false pk cK bW s.qB,sF false gH c9 db ag,sF false iT bK bO t.xn,sF false iH bA bN t.qG,sF false iU bP bL t.qE,qL true f4 fg av,atF oW 0<|yT t bK bO bA bN bP bL,atF sa 0<|yS s bE bD cK bW,sF true gH c9 db ag,sF true iF bE bD s.qA,sF true iU bP bL t.qE,sF true iH bA bN t.qG,sF true iT bK bO t.xn,sF false ee dK dI ah]) 11 #[true,true,true,true,true,false,true,true,false,false,false,false,false,false,false,false,false,false] ?_ fun anD=>?_
   ·rintro ρ akg ⟨xI,AC,rfl,N,H⟩
    refine jw [5,8,15] qh qm<|jT rfl ?_<|jT rfl ?_<|jT rfl ?_ jy
    ·replace H:=H.boxRow 0 rfl 3 0 rfl qj
     replace H:=H.jZ (α:=xm)
     replace H:St _ _ [rr (aa AC 0) 0 0 44 3 [],.box kx [Sv ak (((V.1).qF).length) an,Sv aQ (((V.1).zu).length) aR] 39,rr ak (((V.1).qF).length) an 49 16 aq,rr aQ (((V.1).zu).length) aR 77 4 aT,rr fK av.length kI 44 3 fg] [qL true [] [] ([]:List xm),qL true aj aq ((V.1).qF),qL true aG aT ((V.1).zu),sF false ed dC dD dt,sF false iF bE bD s.qA,sF false pk cK bW s.qB,sF false gH c9 db ag,sF false iT bK bO t.xn,sF false iH bA bN t.qG,sF false iU bP bL t.qE,qL true f4 fg av,atF oW 0<|yT t bK bO bA bN bP bL,atF sa 0<|yS s bE bD cK bW,sF true gH c9 db ag,sF true iF bE bD s.qA,sF true iU bP bL t.qE,sF true iH bA bN t.qG,sF true iT bK bO t.xn,sF false ee dK dI ah]:=H
     have H0:=H
     obtain ⟨Jk,Dq,aky,H⟩:=H.vK (α:=xm) 4 rfl 10 rfl qj
     replace N:Fresh ka.heap.size [Jk,aj,aG]:=Fresh.ice (N.pick [2,0,1]) H0 4 Dq.1 Dq.2<|H0.vg [1,2]
     clear H0
     refine Xf H 0 rfl 0 rfl underlying34 ti44 rfl qj rfl rfl qp qf fun Jz Jo auT ant aiL H aB9=>?_
     replace H:=H.X3 true 2 rfl 0 rfl qm
     refine ⟨H.pick [1,2,3]<|zR 4 18,(je afr ⟨_,Jz,Jo,ant,aiL,uE8,(N.pick [1,2]),H.pick (zR 0 5) (0::zR 4 18)⟩)⟩
    ·refine zx H underlying34 ti44 [yI 9,yI kk,yI 0] fun ay5 ahq H=>⟨H.pick [2,3,4]<|zR 0 18,(je amU ⟨_,AC,ay5,uE9,N,H⟩)⟩
    refine xU H ti39 [yN,yN] fun aw4 aF0 H=>⟨H.pick [2,3,4]<|zR 0 18,(je Kt ⟨_,AC,aw4,uE10,N,H⟩)⟩
   refine yR (fun ρ w269=>∃ (xI:Env) (Pz:Nat) (I3:Nat),ρ=upd (upd (upd (upd (upd (upd (upd (upd (upd (upd xI 9<|pp kx 0) 10<|yI V.2) 12<|yI kk) 13<|pp I3 0) 55<|.agg #[yI s.qP,Sv bE s.qA.length bD,Sv cK s.qB.length bW]) 56<|Sv c9 ag.length db) 57<|.agg #[Sv bK t.xn.length bO,Sv bA t.qG.length bN,Sv bP t.qE.length bL]) 58<|Sv (aa Pz 0) 0 0) 59<|Sv fK av.length kI) 61 (yI kk)/\Fresh ka.heap.size [aj,aG,f4]/\St ka w269 [.box I3 [yN,yN] 39,.box Pz [] 44,.box kx [Sv ak (((V.1).qF).length) an,Sv aQ (((V.1).zu).length) aR] 39,rr ak (((V.1).qF).length) an 49 16 aq,rr aQ (((V.1).zu).length) aR 77 4 aT,rr fK av.length kI 44 3 fg] [qL true aj aq ((V.1).qF),qL true aG aT ((V.1).zu),sF false ed dC dD dt,sF false iF bE bD s.qA,sF false pk cK bW s.qB,sF false gH c9 db ag,sF false iT bK bO t.xn,sF false iH bA bN t.qG,sF false iU bP bL t.qE,qL true f4 fg av,atF oW 0<|yT t bK bO bA bN bP bL,atF sa 0<|yS s bE bD cK bW,sF true gH c9 db ag,sF true iF bE bD s.qA,sF true iU bP bL t.qE,sF true iH bA bN t.qG,sF true iT bK bO t.xn,sF false ee dK dI ah]) 11 #[true,true,true,true,true,false,true,false,false,false,false,false,false,false,false,true,false,false] ?_ fun aos=>?_
   ·rintro ρ aJ7 ⟨xI,Pz,I3,rfl,N,H⟩
    refine jw [5,7] qh qm<|jT rfl ?_<|jT rfl ?_ jy
    ·replace H:=H.boxRow 1 rfl 3 0 rfl qj
     replace H:=H.jZ (α:=xm)
     replace H:St _ _ [.box I3 [yN,yN] 39,rr (aa Pz 0) 0 0 44 3 [],.box kx [Sv ak (((V.1).qF).length) an,Sv aQ (((V.1).zu).length) aR] 39,rr ak (((V.1).qF).length) an 49 16 aq,rr aQ (((V.1).zu).length) aR 77 4 aT,rr fK av.length kI 44 3 fg] [qL true [] [] ([]:List xm),qL true aj aq ((V.1).qF),qL true aG aT ((V.1).zu),sF false ed dC dD dt,sF false iF bE bD s.qA,sF false pk cK bW s.qB,sF false gH c9 db ag,sF false iT bK bO t.xn,sF false iH bA bN t.qG,sF false iU bP bL t.qE,qL true f4 fg av,atF oW 0<|yT t bK bO bA bN bP bL,atF sa 0<|yS s bE bD cK bW,sF true gH c9 db ag,sF true iF bE bD s.qA,sF true iU bP bL t.qE,sF true iH bA bN t.qG,sF true iT bK bO t.xn,sF false ee dK dI ah]:=H
     have H0:=H
     obtain ⟨atj,VL,aAJ,H⟩:=H.vK (α:=xm) 5 rfl 10 rfl qj
     replace N:Fresh ka.heap.size [atj,aj,aG]:=Fresh.ice (N.pick [2,0,1]) H0 5 VL.1 VL.2<|H0.vg [1,2]
     clear H0
     refine Xf H 1 rfl 0 rfl underlying34 ti44 rfl qj rfl rfl qp qf fun Zp aag aEB af5 at7 H azB=>?_
     replace H:=H.X3 true 2 rfl 0 rfl qm
     refine ⟨H.pick [2,3,4]<|zR 4 18,(je IM ⟨_,Zp,aag,I3,af5,at7,uE9,(N.pick [1,2]),H.pick (zR 0 6) (0::zR 4 18)⟩)⟩
    refine jb [yI 9,yI kk,yI 0] [(0,yI 9),(1,yI kk)]<|⟨H.pick [2,3,4]<|zR 0 18,(je Kt ⟨_,Pz,I3,uE10,N,H⟩)⟩
   refine yR (fun ρ ak3=>∃ (xI:Env) (pS:Nat),ρ=upd (upd (upd (upd (upd (upd (upd (upd (upd xI 9<|pp kx 0) 10<|yI V.2) 12<|yI kk) 13<|pp pS 0) 55<|.agg #[yI s.qP,Sv bE s.qA.length bD,Sv cK s.qB.length bW]) 56<|Sv c9 ag.length db) 57<|.agg #[Sv bK t.xn.length bO,Sv bA t.qG.length bN,Sv bP t.qE.length bL]) 59<|Sv fK av.length kI) 62 (.agg #[yI 9,yI kk,yI 0])/\Fresh ka.heap.size [aj,aG,f4]/\St ka ak3 [.box pS [yN,yN] 39,.box kx [Sv ak (((V.1).qF).length) an,Sv aQ (((V.1).zu).length) aR] 39,rr ak (((V.1).qF).length) an 49 16 aq,rr aQ (((V.1).zu).length) aR 77 4 aT,rr fK av.length kI 44 3 fg] [qL true aj aq ((V.1).qF),qL true aG aT ((V.1).zu),sF false ed dC dD dt,sF false iF bE bD s.qA,sF false pk cK bW s.qB,sF false gH c9 db ag,sF false iT bK bO t.xn,sF false iH bA bN t.qG,sF false iU bP bL t.qE,qL true f4 fg av,atF oW 0<|yT t bK bO bA bN bP bL,atF sa 0<|yS s bE bD cK bW,sF true gH c9 db ag,sF true iF bE bD s.qA,sF true iU bP bL t.qE,sF true iH bA bN t.qG,sF true iT bK bO t.xn,sF false ee dK dI ah]) 11 #[true,true,true,false,true,false,true,true,false,false,false,false,false,false,false,true,false,false] ?_ fun ahy=>?_
   ·rintro ρ aiN ⟨xI,pS,rfl,N,H⟩
    refine jw [3,8] qh qm<|jT rfl ?_<|jT rfl ?_ jy
    ·refine jk H underlying34 ti44 fun EA ax4 H=>⟨H.pick [2,3,4]<|zR 0 18,(je Kt ⟨_,EA,pS,uE10,N,H.pick [1,0,2,3,4,5]<|zR 0 18⟩)⟩
    refine zx H underlying34 ti44 [yI 9,yI kk,yI 0] fun avO aJb H=>⟨H.pick [2,3,4]<|zR 0 18,(je aq3 ⟨_,avO,pS,uE9,N,H.pick [1,0,2,3,4,5]<|zR 0 18⟩)⟩
   have S:=H.zK [0,1,2]<|zR 0 18
   refine rt 0 _ (yh (cs:=(yS s bE bD cK bW)) isAgg27 sizeOf27 rfl<|fun _ h=>qK (h.get 11 rfl) 0 3) S ?_
   refine rtl 1 S ?_
   refine rt 2 _ (yh (cs:=(yT t bK bO bA bN bP bL)) isAgg31 sizeOf31 rfl<|fun _ h=>qK (h.get 10 rfl) 0 3) S ?_
   refine rtl 4 S ?_
   refine rtp 6 (yI kk) S ?_
   refine jw [3,7,15] qh qm<|jT rfl ?_<|jT rfl ?_<|jT rfl ?_ jy
   ·refine jk H underlying34 ti44 fun acV aHv H=>⟨H.pick [1,2,3]<|zR 0 18,(jw [5,7,15] qh qm<|jT rfl ?_<|jT rfl ?_<|jT rfl ?_ jy)⟩
    ·replace H:=H.boxRow 0 rfl 3 0 rfl qj
     replace H:=H.jZ (α:=xm)
     replace H:St _ _ [rr (aa acV 0) 0 0 44 3 [],.box kx [Sv ak (((V.1).qF).length) an,Sv aQ (((V.1).zu).length) aR] 39,rr ak (((V.1).qF).length) an 49 16 aq,rr aQ (((V.1).zu).length) aR 77 4 aT,rr fK av.length kI 44 3 fg] [qL true [] [] ([]:List xm),qL true aj aq ((V.1).qF),qL true aG aT ((V.1).zu),sF false ed dC dD dt,sF false iF bE bD s.qA,sF false pk cK bW s.qB,sF false gH c9 db ag,sF false iT bK bO t.xn,sF false iH bA bN t.qG,sF false iU bP bL t.qE,qL true f4 fg av,atF oW 0<|yT t bK bO bA bN bP bL,atF sa 0<|yS s bE bD cK bW,sF true gH c9 db ag,sF true iF bE bD s.qA,sF true iU bP bL t.qE,sF true iH bA bN t.qG,sF true iT bK bO t.xn,sF false ee dK dI ah]:=H
     have H0:=H
     obtain ⟨auz,WG,aAM,H⟩:=H.vK (α:=xm) 4 rfl 10 rfl qj
     replace N:Fresh ka.heap.size [auz,aj,aG]:=Fresh.ice (N.pick [2,0,1]) H0 4 WG.1 WG.2<|H0.vg [1,2]
     clear H0
     refine Xf H 0 rfl 0 rfl underlying34 ti44 rfl qj rfl rfl qp qf fun amL aje aI3 YK akd H aCd=>?_
     replace H:=H.X3 true 2 rfl 0 rfl qm
     refine ⟨H.pick [1,2,3]<|zR 4 18,(jw [7,15] qh qm<|jT rfl ?_<|jT rfl ?_ jy)⟩
     ·refine jb [yI 9,yI kk,yI 0] [(0,yI 9),(1,yI kk)]<|⟨H.pick [1,2,3]<|zR 4 18,(je afr ⟨_,amL,aje,YK,akd,uE8,(N.pick [1,2]),H.pick (zR 0 5) (0::zR 4 18)⟩)⟩
     refine xU H ti39 [yN,yN] fun ayy aH9 H=>⟨H.pick [2,3,4]<|zR 4 18,(je IM ⟨_,amL,aje,ayy,YK,akd,uE9,(N.pick [1,2]),H.pick (zR 0 6) (0::zR 4 18)⟩)⟩
    ·refine jb [yI 9,yI kk,yI 0] [(0,yI 9),(1,yI kk)]<|⟨H.pick [1,2,3]<|zR 0 18,(je anD ⟨_,acV,uE9,N,H⟩)⟩
    refine xU H ti39 [yN,yN] fun axJ aJj H=>⟨H.pick [2,3,4]<|zR 0 18,(je aos ⟨_,acV,axJ,uE10,N,H⟩)⟩
   ·refine jb [yI 9,yI kk,yI 0] [(0,yI 9),(1,yI kk)] (⟨H.pick [0,1,2]<|zR 0 18,(jw [3,8,15] qh qm<|jT rfl ?_<|jT rfl ?_<|jT rfl ?_ jy)⟩)
    ·refine jk H underlying34 ti44 fun atl aJl H=>⟨H.pick [1,2,3]<|zR 0 18,(je anD ⟨_,atl,uE9,N,H⟩)⟩
    ·refine zx H underlying34 ti44 [yI 9,yI kk,yI 0] fun afd aEa H=>⟨H.pick [1,2,3]<|zR 0 18,(jw [3,15] qh qm<|jT rfl ?_<|jT rfl ?_ jy)⟩
     ·refine jk H underlying34 ti44 fun awO aJe H=>⟨H.pick [2,3,4]<|zR 0 18,(je amU ⟨_,awO,afd,uE9,N,H.pick [1,0,2,3,4,5]<|zR 0 18⟩)⟩
     refine xU H ti39 [yN,yN] fun au2 aEx H=>⟨H.pick [2,3,4]<|zR 0 18,(je aq3 ⟨_,afd,au2,uE9,N,H⟩)⟩
    refine xU H ti39 [yN,yN] fun aya ay7 H=>⟨H.pick [1,2,3]<|zR 0 18,(je ahy ⟨_,aya,uE9,N,H⟩)⟩
   refine xU H ti39 [yN,yN] fun Cb aJM H=>⟨H.pick [1,2,3]<|zR 0 18,(jw [3,7] qh qm<|jT rfl ?_<|jT rfl ?_ jy)⟩
   ·refine jk H underlying34 ti44 fun avA aze H=>⟨H.pick [2,3,4]<|zR 0 18,(je aos ⟨_,avA,Cb,uE10,N,H.pick [1,0,2,3,4,5]<|zR 0 18⟩)⟩
   refine jb [yI 9,yI kk,yI 0] [(0,yI 9),(1,yI kk)]<|⟨H.pick [1,2,3]<|zR 0 18,(je ahy ⟨_,Cb,uE9,N,H⟩)⟩
  clear H N
  rintro ρ axQ ⟨xI,iS,aaY,ZZ,ZI,Nh,ab3,OD,Ts,Rp,rfl,N,H⟩
  refine sp (yI 0)<|zjn<|xH<|xH ?_
  have cr:=crash_run (s:=s) (own:=ag) (v:=qW s ag t<|Xm ag) (l:=av) (k:=kk) (l2:=((([]:List xm)++av)++[(⟨9,kk,0⟩:xm)])) qf (by rw [hV];omega) qm
  rw [hV] at cr
  have c1:=cr.cnt
  have c2:=cr.len
  have c3:=cr.wire
  refine xZ<|sp (yI 0)<|sp (Bv false)<|sp (Bv false)<|qV 71 rfl rfl<|sq 1<|qV 71 rfl rfl<|sq 1<|qV 71 rfl rfl<|sw<|zV V.2 1 rfl rfl qf<|qV 71 rfl rfl<|sp (Bv (((xF s ag (qW s ag t<|Xm ag) ((([]:List xm)++av)++[(⟨9,kk,0⟩:xm)]) ((([]:List xm)++av)++[(⟨9,kk,0⟩:xm)]).length).2:Int) != (V.2+1)))<|sp (Bv (((xF s ag (qW s ag t<|Xm ag) ((([]:List xm)++av)++[(⟨9,kk,0⟩:xm)]) ((([]:List xm)++av)++[(⟨9,kk,0⟩:xm)]).length).2:Int) != (V.2+1)))<|sp (Bv (((xF s ag (qW s ag t<|Xm ag) ((([]:List xm)++av)++[(⟨9,kk,0⟩:xm)]) ((([]:List xm)++av)++[(⟨9,kk,0⟩:xm)]).length).2:Int) != (V.2+1))) ?_
  cases Sh:(((xF s ag (qW s ag t (Xm ag)) ((([]:List xm)++av)++[(⟨9,kk,0⟩:xm)]) ((([]:List xm)++av)++[(⟨9,kk,0⟩:xm)]).length).2:Int) != (V.2+1))
  ·replace Sh:=xR Sh
   refine qV 77 rfl rfl<|oF rfl<|qV 77 rfl rfl<|oL rfl (H.cell 0 rfl rfl)<|qV 77 rfl rfl<|oN rfl<|qV 77 rfl rfl<|oF rfl<|qV 77 rfl rfl<|oL rfl (H.cell 3 rfl rfl)<|qV 77 rfl rfl<|oN rfl<|qV 77 rfl rfl<|sq 2<|zjn<|vk _ rfl (fun ND=>?_)<|fun ND=>?_
   ·replace ND:=bne_iff_ne.1 ND
    refine zcr<|sp (Bv false)<|zjr<|t_r<|ret1 (Bv false) rfl rfl ⟨_,rfl,?_,(Ext.trans' B0 H.base)⟩
    exfalso;first | omega | contradiction | exact absurd y1 ql | exact absurd y2 ql | exact absurd y1 (of_decide_eq_false ql) | exact absurd y2<|of_decide_eq_false ql
   replace ND:=xR ND
   refine xk<|t_n<|zcc<|sp (yI 0)<|zjn<|xg<|zU ((fun Z0 Z1 Z2 Z3 Z4 Z5 Z6 Z7 Z8 Z9=>fun m' ρ av2=>∃ (xI:Env) (i:Nat),ρ=upd (upd (upd (upd xI 9<|pp kx 0) 12<|yI kk) 13<|pp iS 0) 16 (yI i)/\((i:Int)<=(((V.1).qF).length))/\m' =((((V.1).qF).length) - (i:Int)).toNat/\Fresh ka.heap.size [Ts,Rp,aj,aG]/\St ka av2 [Z0,Z1,Z2,Z3,Z4,Z5] [Z6,Z7,Z8,Z9]) _ _ _ _ _ _ _ _ _ _) (((((V.1).qF).length) - (0:Int)).toNat) ⟨_,0,uE4,qf,rfl,N,H.pick (zR 0 6)<|zR 0 4⟩ ?_
   clear H N
   rintro m' ρ aJH ⟨xI,i,rfl,i0,rfl,N,H⟩
   refine zcc<|sp (yI i)<|oF rfl<|oL rfl (H.cell 3 rfl rfl)<|oN rfl<|sq 1<|zjn<|cD rfl (fun azj=>?_)<|fun azj=>?_
   ·have y1:=cr.desk i qf
    have y2:=cr.saved i qf
    refine xk<|t_n<|xH<|xg<|zcr<|oF rfl<|oL rfl (H.cell 3 rfl rfl)<|sp (yI i) ?_
    obtain ⟨aEz,rfl⟩:=H.jg 4 rfl qf
    refine oI rfl rfl<|oF rfl ?_
    obtain ⟨re,rH,aee,mQ,nx,WI,ta,tD,aoo,nb,mM,WS,sU,tg,aff,q7,rI,ac0,ahK,H⟩:=H.vV zg 4 rfl 2 rfl rfl i qf
    refine sw<|zi [yI (((((V.1).qF)[i]!).qC).qN),Sv re ((((((V.1).qF)[i]!).qC).qG).length) rH,Sv mQ ((((((V.1).qF)[i]!).qC).qE).length) nx,Bv (((((V.1).qF)[i]!).qC).qQ),Sv ta ((((((V.1).qF)[i]!).qC).vz).length) tD,Sv nb ((((((V.1).qF)[i]!).qC).qJ).length) mM,Sv sU ((((((V.1).qF)[i]!).qC).vJ).length) tg,Sv q7 ((((((V.1).qF)[i]!).qC).xP).length) rI] isAgg47 sizeOf47 rfl (fun r v hv=>H.xX 4 rfl (ahK r v hv) qf)<|sw<|xU H ti47 [yI 0,yN,yN,Bv false,yN,yN,yN,yN] fun aIB aJr H=>(sw<|zC H 0 [yI (((((V.1).qF)[i]!).qC).qN),Sv re ((((((V.1).qF)[i]!).qC).qG).length) rH,Sv mQ ((((((V.1).qF)[i]!).qC).qE).length) nx,Bv (((((V.1).qF)[i]!).qC).qQ),Sv ta ((((((V.1).qF)[i]!).qC).vz).length) tD,Sv nb ((((((V.1).qF)[i]!).qC).qJ).length) mM,Sv sU ((((((V.1).qF)[i]!).qC).vJ).length) tg,Sv q7 ((((((V.1).qF)[i]!).qC).xP).length) rI] sizeOf47 fun aHm H=>zjcc<|sp (yI i)<|sp (yI kk)<|sq 1<|zjn<|cE rfl (fun auu=>?_)<|fun auu=>?_)
    ·rw [if_pos qf] at y1
     refine xZ<|oF rfl<|oL rfl (H.cell 4 rfl rfl)<|sp (yI i)<|oI rfl rfl<|oF rfl ?_
     obtain ⟨nF,nJ,adq,i8,i6,WK,pb,pW,anp,iW,iV,VD,pc,pV,apA,nH,nG,adl,Uk,H⟩:=H.vV jI 5 rfl 8 rfl rfl i qf
     refine sw<|zi [yI (((((V.1).qF)[i]!).qH).qN),Sv nF ((((((V.1).qF)[i]!).qH).qG).length) nJ,Sv i8 ((((((V.1).qF)[i]!).qH).qE).length) i6,Bv (((((V.1).qF)[i]!).qH).qQ),Sv pb ((((((V.1).qF)[i]!).qH).vz).length) pW,Sv iW ((((((V.1).qF)[i]!).qH).qJ).length) iV,Sv pc ((((((V.1).qF)[i]!).qH).vJ).length) pV,Sv nH ((((((V.1).qF)[i]!).qH).xP).length) nG] isAgg47 sizeOf47 rfl (fun r v hv=>H.xX 5 rfl (Uk r v hv) qf)<|sw<|zC H 0 [yI (((((V.1).qF)[i]!).qH).qN),Sv nF ((((((V.1).qF)[i]!).qH).qG).length) nJ,Sv i8 ((((((V.1).qF)[i]!).qH).qE).length) i6,Bv (((((V.1).qF)[i]!).qH).qQ),Sv pb ((((((V.1).qF)[i]!).qH).vz).length) pW,Sv iW ((((((V.1).qF)[i]!).qH).qJ).length) iV,Sv pc ((((((V.1).qF)[i]!).qH).vJ).length) pV,Sv nH ((((((V.1).qF)[i]!).qH).xP).length) nG] sizeOf47 fun aGt H=>zjn<|xH<|zY 1 rfl H [0,1,2,3,4,5,6] [0,1,2,3,4,5,6,7,8,9,10,11,12,13,14,15] fun H=>?_
     dsimp only [jR,yE]
     refine tF 0 rfl rfl H ?_
     refine tL 1 rfl rfl (fun _ h=>h.cell 1 rfl rfl) H ?_
     refine rtp 2 (yI i) H ?_
     obtain ⟨aKr,rfl⟩:=H.jg 2 rfl qf
     refine tI 3 rfl rfl rfl H ?_
     refine tF 4 rfl rfl H ?_
     obtain ⟨Ie,Ks,aex,CM,CI,YD,KT,LS,akO,DC,Ct,Ue,OE,LR,amY,IF,IH,aei,Lo,H⟩:=H.vV zg 2 rfl 12 rfl rfl i qf
     have S:=H.zK (zR 0 7)<|zR 6 16
     refine rt 5 _ (yh (off:=0+(i:Int).toNat * 16+0) (cs:=[yI ((((((xF s ag (qW s ag t<|Xm ag) ((([]:List xm)++av)++[(⟨9,kk,0⟩:xm)]) ((([]:List xm)++av)++[(⟨9,kk,0⟩:xm)]).length).1).qF)[i]!).qC).qN),Sv Ie (((((((xF s ag (qW s ag t<|Xm ag) ((([]:List xm)++av)++[(⟨9,kk,0⟩:xm)]) ((([]:List xm)++av)++[(⟨9,kk,0⟩:xm)]).length).1).qF)[i]!).qC).qG).length) Ks,Sv CM (((((((xF s ag (qW s ag t<|Xm ag) ((([]:List xm)++av)++[(⟨9,kk,0⟩:xm)]) ((([]:List xm)++av)++[(⟨9,kk,0⟩:xm)]).length).1).qF)[i]!).qC).qE).length) CI,Bv ((((((xF s ag (qW s ag t<|Xm ag) ((([]:List xm)++av)++[(⟨9,kk,0⟩:xm)]) ((([]:List xm)++av)++[(⟨9,kk,0⟩:xm)]).length).1).qF)[i]!).qC).qQ),Sv KT (((((((xF s ag (qW s ag t<|Xm ag) ((([]:List xm)++av)++[(⟨9,kk,0⟩:xm)]) ((([]:List xm)++av)++[(⟨9,kk,0⟩:xm)]).length).1).qF)[i]!).qC).vz).length) LS,Sv DC (((((((xF s ag (qW s ag t<|Xm ag) ((([]:List xm)++av)++[(⟨9,kk,0⟩:xm)]) ((([]:List xm)++av)++[(⟨9,kk,0⟩:xm)]).length).1).qF)[i]!).qC).qJ).length) Ct,Sv OE (((((((xF s ag (qW s ag t<|Xm ag) ((([]:List xm)++av)++[(⟨9,kk,0⟩:xm)]) ((([]:List xm)++av)++[(⟨9,kk,0⟩:xm)]).length).1).qF)[i]!).qC).vJ).length) LR,Sv IF (((((((xF s ag (qW s ag t<|Xm ag) ((([]:List xm)++av)++[(⟨9,kk,0⟩:xm)]) ((([]:List xm)++av)++[(⟨9,kk,0⟩:xm)]).length).1).qF)[i]!).qC).xP).length) IH]) isAgg47 sizeOf47 rfl<|fun _ h=>(fun r v hv=>h.xX 2 rfl (Lo r v hv) qf)) S ?_
     refine rt 6 _ (yh (cs:=[yI (((((V.1).qF)[i]!).qH).qN),Sv nF ((((((V.1).qF)[i]!).qH).qG).length) nJ,Sv i8 ((((((V.1).qF)[i]!).qH).qE).length) i6,Bv (((((V.1).qF)[i]!).qH).qQ),Sv pb ((((((V.1).qF)[i]!).qH).vz).length) pW,Sv iW ((((((V.1).qF)[i]!).qH).qJ).length) iV,Sv pc ((((((V.1).qF)[i]!).qH).vJ).length) pV,Sv nH ((((((V.1).qF)[i]!).qH).xP).length) nG]) isAgg47 sizeOf47 rfl<|fun _ h=>qK (h.cells 0 rfl) 0 8) S ?_
     refine ro 7 rfl<|oq (sameDesk_ok _ (((((xF s ag (qW s ag t<|Xm ag) ((([]:List xm)++av)++[(⟨9,kk,0⟩:xm)]) ((([]:List xm)++av)++[(⟨9,kk,0⟩:xm)]).length).1).qF)[i]!).qC) ((((V.1).qF)[i]!).qH) (H.get 0 rfl).1 (H.get 1 rfl).1 (H.get 2 rfl).1 (H.get 3 rfl).1 (H.get 4 rfl).1 (H.get 5 rfl).1 (H.get 6 rfl).1 (H.get 7 rfl).1 (H.get 8 rfl).1 (H.get 9 rfl).1 (H.get 10 rfl).1 (H.get 11 rfl).1) H fun aE9 H=>⟨H.pick (zR 0 7)<|zR 6 16,?_⟩
     have S:=H.zK (zR 0 7)<|zR 6 16
     refine rtp 8 (Bv (!(decide ((((((xF s ag (qW s ag t<|Xm ag) ((([]:List xm)++av)++[(⟨9,kk,0⟩:xm)]) ((([]:List xm)++av)++[(⟨9,kk,0⟩:xm)]).length).1).qF)[i]!).qC)=((((V.1).qF)[i]!).qH))))) S ?_
     refine rtp 9 (Bv (!(decide ((((((xF s ag (qW s ag t<|Xm ag) ((([]:List xm)++av)++[(⟨9,kk,0⟩:xm)]) ((([]:List xm)++av)++[(⟨9,kk,0⟩:xm)]).length).1).qF)[i]!).qC)=((((V.1).qF)[i]!).qH))))) S ?_
     cases BG:(!(decide ((((((xF s ag (qW s ag t (Xm ag)) ((([]:List xm)++av)++[(⟨9,kk,0⟩:xm)]) ((([]:List xm)++av)++[(⟨9,kk,0⟩:xm)]).length).1).qF)[i]!).qC)=((((V.1).qF)[i]!).qH))))
     ·replace BG:=xJ BG
      replace BG:=of_decide_eq_true BG
      have S:=H.zK (zR 0 7)<|zR 6 16
      refine gF 10 rfl rfl S ?_
      refine gL 11 rfl rfl (fun _ h=>h.cell 1 rfl rfl) S ?_
      refine rgp 12 (yI i) 117 S ?_
      refine gI 13 rfl rfl rfl S ?_
      refine gF 14 rfl rfl S ?_
      obtain ⟨Kn,I5,aeu,B1,Ci,UC,LI,Oc,akp,CF,BV,VB,KU,Nq,anW,Ix,IL,aed,aoA,H⟩:=H.vV jI 2 rfl 18 rfl rfl i qf
      have S:=H.zK (zR 0 7)<|zR 12 16
      refine rg 15 _ 117 (yh (off:=0+(i:Int).toNat * 16+8) (cs:=[yI ((((((xF s ag (qW s ag t<|Xm ag) ((([]:List xm)++av)++[(⟨9,kk,0⟩:xm)]) ((([]:List xm)++av)++[(⟨9,kk,0⟩:xm)]).length).1).qF)[i]!).qH).qN),Sv Kn (((((((xF s ag (qW s ag t<|Xm ag) ((([]:List xm)++av)++[(⟨9,kk,0⟩:xm)]) ((([]:List xm)++av)++[(⟨9,kk,0⟩:xm)]).length).1).qF)[i]!).qH).qG).length) I5,Sv B1 (((((((xF s ag (qW s ag t<|Xm ag) ((([]:List xm)++av)++[(⟨9,kk,0⟩:xm)]) ((([]:List xm)++av)++[(⟨9,kk,0⟩:xm)]).length).1).qF)[i]!).qH).qE).length) Ci,Bv ((((((xF s ag (qW s ag t<|Xm ag) ((([]:List xm)++av)++[(⟨9,kk,0⟩:xm)]) ((([]:List xm)++av)++[(⟨9,kk,0⟩:xm)]).length).1).qF)[i]!).qH).qQ),Sv LI (((((((xF s ag (qW s ag t<|Xm ag) ((([]:List xm)++av)++[(⟨9,kk,0⟩:xm)]) ((([]:List xm)++av)++[(⟨9,kk,0⟩:xm)]).length).1).qF)[i]!).qH).vz).length) Oc,Sv CF (((((((xF s ag (qW s ag t<|Xm ag) ((([]:List xm)++av)++[(⟨9,kk,0⟩:xm)]) ((([]:List xm)++av)++[(⟨9,kk,0⟩:xm)]).length).1).qF)[i]!).qH).qJ).length) BV,Sv KU (((((((xF s ag (qW s ag t<|Xm ag) ((([]:List xm)++av)++[(⟨9,kk,0⟩:xm)]) ((([]:List xm)++av)++[(⟨9,kk,0⟩:xm)]).length).1).qF)[i]!).qH).vJ).length) Nq,Sv Ix (((((((xF s ag (qW s ag t<|Xm ag) ((([]:List xm)++av)++[(⟨9,kk,0⟩:xm)]) ((([]:List xm)++av)++[(⟨9,kk,0⟩:xm)]).length).1).qF)[i]!).qH).xP).length) IL]) isAgg47 sizeOf47 rfl<|fun _ h=>(fun r v hv=>h.xX 2 rfl (aoA r v hv) qf)) S ?_
      refine gF 16 rfl rfl S ?_
      refine gL 17 rfl rfl (fun _ h=>h.cell 4 rfl rfl) S ?_
      refine rgp 18 (yI i) 117 S ?_
      refine gI 19 rfl rfl rfl S ?_
      refine gF 20 rfl rfl S ?_
      refine rg 21 _ 117 (yh (off:=0+(i:Int).toNat * 16+8) (cs:=[yI (((((V.1).qF)[i]!).qH).qN),Sv nF ((((((V.1).qF)[i]!).qH).qG).length) nJ,Sv i8 ((((((V.1).qF)[i]!).qH).qE).length) i6,Bv (((((V.1).qF)[i]!).qH).qQ),Sv pb ((((((V.1).qF)[i]!).qH).vz).length) pW,Sv iW ((((((V.1).qF)[i]!).qH).qJ).length) iV,Sv pc ((((((V.1).qF)[i]!).qH).vJ).length) pV,Sv nH ((((((V.1).qF)[i]!).qH).xP).length) nG]) isAgg47 sizeOf47 rfl<|fun _ h=>(fun r v hv=>h.xX 5 rfl (Uk r v hv) qf)) S ?_
      refine jw [22] qh qm<|r_opG rfl (e:=117) rfl rfl (oq (sameDesk_ok _ (((((xF s ag (qW s ag t<|Xm ag) ((([]:List xm)++av)++[(⟨9,kk,0⟩:xm)]) ((([]:List xm)++av)++[(⟨9,kk,0⟩:xm)]).length).1).qF)[i]!).qH) ((((V.1).qF)[i]!).qH) (H.get 0 rfl).1 (H.get 1 rfl).1 (H.get 2 rfl).1 (H.get 3 rfl).1 (H.get 4 rfl).1 (H.get 5 rfl).1 (H.get 12 rfl).1 (H.get 13 rfl).1 (H.get 14 rfl).1 (H.get 15 rfl).1 (H.get 16 rfl).1 (H.get 17 rfl).1) H fun aDU H=>⟨H.pick (zR 0 7)<|zR 12 16,?_⟩) jy
      refine rgl 23 117 (H.pick (zR 0 7)<|zR 12 16) ?_
      refine xy qh<|xM<|sq 1<|zjn<|vk _ rfl (fun AQ=>?_)<|fun AQ=>?_
      ·replace AQ:=xN AQ
       replace AQ:=of_decide_eq_false AQ
       refine zcr<|sp (Bv false)<|zjr<|zr5<|ret1 (Bv false) rfl rfl ⟨_,rfl,?_,(Ext.trans' B0 H.base)⟩
       exfalso;first | omega | contradiction | exact absurd y1 ql | exact absurd y2 ql | exact absurd y1 (of_decide_eq_false ql) | exact absurd y2<|of_decide_eq_false ql
      replace AQ:=xJ AQ
      replace AQ:=of_decide_eq_true AQ
      refine xk<|b_n<|t_n<|xZ<|sp (yI i)<|sw<|zV i 1 rfl rfl qf<|sq 1<|xW<|xq (m' :=((((V.1).qF).length) - ((i+1):Int)).toNat) qf ⟨_,i+1,uE4,?_,rfl,N,H.pick (zR 1 6)<|zR 24 4⟩
      ·omega
     replace BG:=xN BG
     replace BG:=of_decide_eq_false BG
     refine jA (zR 10 14) 14 (H.pick (zR 0 7)<|zR 6 16)<|xy qh<|xM<|sp (Bv true)<|zjn<|cTr rfl<|zcr<|sp (Bv false)<|zjr<|zr5<|ret1 (Bv false) rfl rfl ⟨_,rfl,?_,(Ext.trans' B0 H.base)⟩
     exfalso;first | omega | contradiction | exact absurd y1 ql | exact absurd y2 ql | exact absurd y1 (of_decide_eq_false ql) | exact absurd y2<|of_decide_eq_false ql
    rw [if_neg qf] at y1
    refine xk<|t_n<|xH<|zY 1 rfl H [0,1,2,3,4,5,6] [0,1,2,3,4,5,6,7,8,9] fun H=>?_
    dsimp only [jR,yE]
    refine tF 0 rfl rfl H ?_
    refine tL 1 rfl rfl (fun _ h=>h.cell 1 rfl rfl) H ?_
    refine rtp 2 (yI i) H ?_
    obtain ⟨aKp,rfl⟩:=H.jg 2 rfl qf
    refine tI 3 rfl rfl rfl H ?_
    refine tF 4 rfl rfl H ?_
    obtain ⟨Iz,Kv,adS,Ch,CY,YG,MJ,LU,anA,De,BM,T4,K8,Nk,amS,Jh,J7,ad7,aiu,H⟩:=H.vV zg 2 rfl 6 rfl rfl i qf
    have S:=H.zK (zR 0 7)<|zR 6 10
    refine rt 5 _ (yh (off:=0+(i:Int).toNat * 16+0) (cs:=[yI ((((((xF s ag (qW s ag t<|Xm ag) ((([]:List xm)++av)++[(⟨9,kk,0⟩:xm)]) ((([]:List xm)++av)++[(⟨9,kk,0⟩:xm)]).length).1).qF)[i]!).qC).qN),Sv Iz (((((((xF s ag (qW s ag t<|Xm ag) ((([]:List xm)++av)++[(⟨9,kk,0⟩:xm)]) ((([]:List xm)++av)++[(⟨9,kk,0⟩:xm)]).length).1).qF)[i]!).qC).qG).length) Kv,Sv Ch (((((((xF s ag (qW s ag t<|Xm ag) ((([]:List xm)++av)++[(⟨9,kk,0⟩:xm)]) ((([]:List xm)++av)++[(⟨9,kk,0⟩:xm)]).length).1).qF)[i]!).qC).qE).length) CY,Bv ((((((xF s ag (qW s ag t<|Xm ag) ((([]:List xm)++av)++[(⟨9,kk,0⟩:xm)]) ((([]:List xm)++av)++[(⟨9,kk,0⟩:xm)]).length).1).qF)[i]!).qC).qQ),Sv MJ (((((((xF s ag (qW s ag t<|Xm ag) ((([]:List xm)++av)++[(⟨9,kk,0⟩:xm)]) ((([]:List xm)++av)++[(⟨9,kk,0⟩:xm)]).length).1).qF)[i]!).qC).vz).length) LU,Sv De (((((((xF s ag (qW s ag t<|Xm ag) ((([]:List xm)++av)++[(⟨9,kk,0⟩:xm)]) ((([]:List xm)++av)++[(⟨9,kk,0⟩:xm)]).length).1).qF)[i]!).qC).qJ).length) BM,Sv K8 (((((((xF s ag (qW s ag t<|Xm ag) ((([]:List xm)++av)++[(⟨9,kk,0⟩:xm)]) ((([]:List xm)++av)++[(⟨9,kk,0⟩:xm)]).length).1).qF)[i]!).qC).vJ).length) Nk,Sv Jh (((((((xF s ag (qW s ag t<|Xm ag) ((([]:List xm)++av)++[(⟨9,kk,0⟩:xm)]) ((([]:List xm)++av)++[(⟨9,kk,0⟩:xm)]).length).1).qF)[i]!).qC).xP).length) J7]) isAgg47 sizeOf47 rfl<|fun _ h=>(fun r v hv=>h.xX 2 rfl (aiu r v hv) qf)) S ?_
    refine rt 6 _ (yh (cs:=[yI (((((V.1).qF)[i]!).qC).qN),Sv re ((((((V.1).qF)[i]!).qC).qG).length) rH,Sv mQ ((((((V.1).qF)[i]!).qC).qE).length) nx,Bv (((((V.1).qF)[i]!).qC).qQ),Sv ta ((((((V.1).qF)[i]!).qC).vz).length) tD,Sv nb ((((((V.1).qF)[i]!).qC).qJ).length) mM,Sv sU ((((((V.1).qF)[i]!).qC).vJ).length) tg,Sv q7 ((((((V.1).qF)[i]!).qC).xP).length) rI]) isAgg47 sizeOf47 rfl<|fun _ h=>qK (h.cells 0 rfl) 0 8) S ?_
    refine ro 7 rfl<|oq (sameDesk_ok _ (((((xF s ag (qW s ag t<|Xm ag) ((([]:List xm)++av)++[(⟨9,kk,0⟩:xm)]) ((([]:List xm)++av)++[(⟨9,kk,0⟩:xm)]).length).1).qF)[i]!).qC) ((((V.1).qF)[i]!).qC) (H.get 0 rfl).1 (H.get 1 rfl).1 (H.get 2 rfl).1 (H.get 3 rfl).1 (H.get 4 rfl).1 (H.get 5 rfl).1 (H.get 6 rfl).1 (H.get 7 rfl).1 (H.get 8 rfl).1 (H.get 9 rfl).1 (H.get 10 rfl).1 (H.get 11 rfl).1) H fun aIu H=>⟨H.pick (zR 0 7)<|zR 6 10,?_⟩
    have S:=H.zK (zR 0 7)<|zR 6 10
    refine rtp 8 (Bv (!(decide ((((((xF s ag (qW s ag t<|Xm ag) ((([]:List xm)++av)++[(⟨9,kk,0⟩:xm)]) ((([]:List xm)++av)++[(⟨9,kk,0⟩:xm)]).length).1).qF)[i]!).qC)=((((V.1).qF)[i]!).qC))))) S ?_
    refine rtp 9 (Bv (!(decide ((((((xF s ag (qW s ag t<|Xm ag) ((([]:List xm)++av)++[(⟨9,kk,0⟩:xm)]) ((([]:List xm)++av)++[(⟨9,kk,0⟩:xm)]).length).1).qF)[i]!).qC)=((((V.1).qF)[i]!).qC))))) S ?_
    cases Da:(!(decide ((((((xF s ag (qW s ag t (Xm ag)) ((([]:List xm)++av)++[(⟨9,kk,0⟩:xm)]) ((([]:List xm)++av)++[(⟨9,kk,0⟩:xm)]).length).1).qF)[i]!).qC)=((((V.1).qF)[i]!).qC))))
    ·replace Da:=xJ Da
     replace Da:=of_decide_eq_true Da
     have S:=H.zK (zR 0 7)<|zR 6 10
     refine gF 10 rfl rfl S ?_
     refine gL 11 rfl rfl (fun _ h=>h.cell 1 rfl rfl) S ?_
     refine rgp 12 (yI i) 117 S ?_
     refine gI 13 rfl rfl rfl S ?_
     refine gF 14 rfl rfl S ?_
     obtain ⟨Ki,It,aen,B6,Cg,W4,No,Lx,aqV,CV,Cr,T6,NM,Mu,anh,JW,IS,adx,La,H⟩:=H.vV jI 2 rfl 12 rfl rfl i qf
     have S:=H.zK (zR 0 7)<|zR 12 10
     refine rg 15 _ 117 (yh (off:=0+(i:Int).toNat * 16+8) (cs:=[yI ((((((xF s ag (qW s ag t<|Xm ag) ((([]:List xm)++av)++[(⟨9,kk,0⟩:xm)]) ((([]:List xm)++av)++[(⟨9,kk,0⟩:xm)]).length).1).qF)[i]!).qH).qN),Sv Ki (((((((xF s ag (qW s ag t<|Xm ag) ((([]:List xm)++av)++[(⟨9,kk,0⟩:xm)]) ((([]:List xm)++av)++[(⟨9,kk,0⟩:xm)]).length).1).qF)[i]!).qH).qG).length) It,Sv B6 (((((((xF s ag (qW s ag t<|Xm ag) ((([]:List xm)++av)++[(⟨9,kk,0⟩:xm)]) ((([]:List xm)++av)++[(⟨9,kk,0⟩:xm)]).length).1).qF)[i]!).qH).qE).length) Cg,Bv ((((((xF s ag (qW s ag t<|Xm ag) ((([]:List xm)++av)++[(⟨9,kk,0⟩:xm)]) ((([]:List xm)++av)++[(⟨9,kk,0⟩:xm)]).length).1).qF)[i]!).qH).qQ),Sv No (((((((xF s ag (qW s ag t<|Xm ag) ((([]:List xm)++av)++[(⟨9,kk,0⟩:xm)]) ((([]:List xm)++av)++[(⟨9,kk,0⟩:xm)]).length).1).qF)[i]!).qH).vz).length) Lx,Sv CV (((((((xF s ag (qW s ag t<|Xm ag) ((([]:List xm)++av)++[(⟨9,kk,0⟩:xm)]) ((([]:List xm)++av)++[(⟨9,kk,0⟩:xm)]).length).1).qF)[i]!).qH).qJ).length) Cr,Sv NM (((((((xF s ag (qW s ag t<|Xm ag) ((([]:List xm)++av)++[(⟨9,kk,0⟩:xm)]) ((([]:List xm)++av)++[(⟨9,kk,0⟩:xm)]).length).1).qF)[i]!).qH).vJ).length) Mu,Sv JW (((((((xF s ag (qW s ag t<|Xm ag) ((([]:List xm)++av)++[(⟨9,kk,0⟩:xm)]) ((([]:List xm)++av)++[(⟨9,kk,0⟩:xm)]).length).1).qF)[i]!).qH).xP).length) IS]) isAgg47 sizeOf47 rfl<|fun _ h=>(fun r v hv=>h.xX 2 rfl (La r v hv) qf)) S ?_
     refine gF 16 rfl rfl S ?_
     refine gL 17 rfl rfl (fun _ h=>h.cell 4 rfl rfl) S ?_
     refine rgp 18 (yI i) 117 S ?_
     refine gI 19 rfl rfl rfl S ?_
     refine gF 20 rfl rfl S ?_
     obtain ⟨Io,Jf,aet,BT,BU,WQ,Pt,Mo,alJ,C7,B7,WW,MZ,LV,amJ,Ih,Ij,ac2,alG,H⟩:=H.vV jI 5 rfl 20 rfl rfl i qf
     refine rg 21 _ 117 (yh (off:=0+(i:Int).toNat * 16+8) (cs:=[yI (((((V.1).qF)[i]!).qH).qN),Sv Io ((((((V.1).qF)[i]!).qH).qG).length) Jf,Sv BT ((((((V.1).qF)[i]!).qH).qE).length) BU,Bv (((((V.1).qF)[i]!).qH).qQ),Sv Pt ((((((V.1).qF)[i]!).qH).vz).length) Mo,Sv C7 ((((((V.1).qF)[i]!).qH).qJ).length) B7,Sv MZ ((((((V.1).qF)[i]!).qH).vJ).length) LV,Sv Ih ((((((V.1).qF)[i]!).qH).xP).length) Ij]) isAgg47 sizeOf47 rfl<|fun _ h=>(fun r v hv=>h.xX 5 rfl (alG r v hv) qf)) (H.pick (zR 0 7)<|zR 18 10) ?_
     refine jw [22] qh qm<|r_opG rfl (e:=117) rfl rfl (oq (sameDesk_ok _ (((((xF s ag (qW s ag t<|Xm ag) ((([]:List xm)++av)++[(⟨9,kk,0⟩:xm)]) ((([]:List xm)++av)++[(⟨9,kk,0⟩:xm)]).length).1).qF)[i]!).qH) ((((V.1).qF)[i]!).qH) (H.get 6 rfl).1 (H.get 7 rfl).1 (H.get 8 rfl).1 (H.get 9 rfl).1 (H.get 10 rfl).1 (H.get 11 rfl).1 (H.get 0 rfl).1 (H.get 1 rfl).1 (H.get 2 rfl).1 (H.get 3 rfl).1 (H.get 4 rfl).1 (H.get 5 rfl).1) H fun aJT H=>⟨H.pick (zR 0 7)<|zR 18 10,?_⟩) jy
     refine rgl 23 117 (H.pick (zR 0 7)<|zR 18 10) ?_
     refine xy qh<|xM<|sq 1<|zjn<|vk _ rfl (fun Ae=>?_)<|fun Ae=>?_
     ·replace Ae:=xN Ae
      replace Ae:=of_decide_eq_false Ae
      refine zcr<|sp (Bv false)<|zjr<|zr5<|ret1 (Bv false) rfl rfl ⟨_,rfl,?_,(Ext.trans' B0 H.base)⟩
      exfalso;first | omega | contradiction | exact absurd y1 ql | exact absurd y2 ql | exact absurd y1 (of_decide_eq_false ql) | exact absurd y2<|of_decide_eq_false ql
     replace Ae:=xJ Ae
     replace Ae:=of_decide_eq_true Ae
     refine xk<|b_n<|t_n<|xZ<|sp (yI i)<|sw<|zV i 1 rfl rfl qf<|sq 1<|xW<|xq (m' :=((((V.1).qF).length) - ((i+1):Int)).toNat) qf ⟨_,i+1,uE4,?_,rfl,N,H.pick (zR 1 6)<|zR 24 4⟩
     ·omega
    replace Da:=xN Da
    replace Da:=of_decide_eq_false Da
    refine jA (zR 10 14) 14 (H.pick (zR 0 7)<|zR 6 10)<|xy qh<|xM<|sp (Bv true)<|zjn<|cTr rfl<|zcr<|sp (Bv false)<|zjr<|zr5<|ret1 (Bv false) rfl rfl ⟨_,rfl,?_,(Ext.trans' B0 H.base)⟩
    exfalso;first | omega | contradiction | exact absurd y1 ql | exact absurd y2 ql | exact absurd y1 (of_decide_eq_false ql) | exact absurd y2<|of_decide_eq_false ql
   refine zx4<|zcr<|oF rfl<|oL rfl (H.cell 0 rfl rfl)<|oN rfl<|oF rfl<|oL rfl (H.cell 3 rfl rfl)<|oN rfl<|sq 2<|zjr<|ret1 (Bv (((((xF s ag (qW s ag t<|Xm ag) ((([]:List xm)++av)++[(⟨9,kk,0⟩:xm)]) ((([]:List xm)++av)++[(⟨9,kk,0⟩:xm)]).length).1).zu).length:Int) == (((V.1).zu).length))) rfl rfl ⟨_,rfl,?_,(Ext.trans' B0 H.base)⟩
   rw [c3];simp
  replace Sh:=bne_iff_ne.1 Sh
  refine zM (zR 78 7)<|sp (Bv true)<|zjn<|cTr rfl<|zcr<|sp (Bv false)<|zjr<|t_r<|ret1 (Bv false) rfl rfl ⟨_,rfl,?_,(Ext.trans' B0 H.base)⟩
  exfalso;first | omega | contradiction | exact absurd y1 ql | exact absurd y2 ql | exact absurd y1 (of_decide_eq_false ql) | exact absurd y2<|of_decide_eq_false ql
 replace h1:=of_decide_eq_true h1
 refine zM [9,10,11]<|sp (Bv true)<|sp (Bv true)<|zjr<|ret1 (Bv true) rfl rfl ⟨_,rfl,(zjn<|cTr rfl<|zcr<|sp (Bv true)<|zjr<|t_r<|rH1 (Bv true) H ?_)⟩
 rfl
end
section
open Go.ChangeShapes Go.WideShapes Go.ChangeAt Go.RowKit Go.Joins
def Reads (P:Program) (t:TypeId) (α:Type) [qI α]:Prop:=
 ∀ {H:Type} {enc:TypeId×Value->H} {w:World} {HS:Nat->Bool} {To:Bool} {fuel:Nat} {cs:List Value} {x:DataW H×List MemPlace},
  DataW.trod enc P w 0 HS To fuel t cs=some x->∃ F,∃ y:α,qI.rep w F cs y
theorem cell_spot {a:Addr} (h:w.cell? a=some v):a.spot=none:=by
 unfold World.cell? at h
 split at h
 ·split at h
  ·cases h
  ·rename_i hs;simpa using hs
 ·cases h
theorem reads_slice {α:Type} [qI α] (hu:P.underlying t=some (.slice e)) (hc:P.cellsOf e=qI.size α) (hz:0 < qI.size α) (he:Reads P e α):Reads P t (List α):=by
 intro H enc w HS To fuel cs x h
 rcases DataW.trod_slice hu h with ⟨rfl,_⟩ | ⟨a,len,gY,elems,rest,n,_,rfl,_,_,hlc,hcm,hel,hget,_⟩
 ·exact ⟨[],[],none,0,rfl,by simp,Or.inl ⟨rfl,rfl⟩⟩
 ·have hm:gY<=9223372036854775807:=by unfold maxLen at hcm;omega
  rcases Nat.eq_zero_or_pos len with h0 | h0
  ·subst h0
   exact ⟨[],[],some a,gY,rfl,by simp,Or.inl ⟨rfl,rfl⟩⟩
  ·have Kh:∀ i,i < len->∃ ci Fi,∃ y:α,w.cells? 0 (a.add<|i * qI.size α) (qI.size α)=some ci/\qI.rep w Fi ci y:=by
    intro i hi
    have hg:=hget i hi
    rw [hc] at hg
    have hs:elems[i]? =some (elems[i]'(by omega)):=List.getElem?_eq_getElem qf
    rw [hs] at hg
    obtain ⟨ci,h1,h2⟩:=Option.bind_eq_some_iff.1 hg
    obtain ⟨Fi,y,hr⟩:=he h2
    exact ⟨ci,Fi,y,h1,hr⟩
   have hsp:a.spot=none:=by
    obtain ⟨ci,Fi,y,h1,_⟩:=Kh 0 h0
    obtain ⟨_,hl,Dj⟩:=World.cells?_some h1
    have:=Dj 0 hz
    rw [List.getElem?_eq_getElem<|show 0 < ci.length by omega] at this
    have:=cell_spot this
    simpa [Addr.add] using this
   obtain ⟨b,off,sp⟩:=a
   simp only at hsp
   subst hsp
   have auo:∀ i j:Nat,((⟨b,off,none⟩:Addr).add<|i * qI.size α).add j=⟨b,off+i * qI.size α+j,none⟩:=fun i j=>by simp [Addr.add_mid]
   have EU:∀ m,m<=len->∃ F vs,∃ l:List α,l.length=m/\reps w F vs l/\yG w b off vs:=by
    intro m
    induction m with
    | zero=>exact fun _=>⟨[],[],[],rfl,⟨rfl,rfl⟩,fun i v hv=>by simp at hv⟩
    | succ m ih=>
     intro hm'
     obtain ⟨F,vs,l,hl,hr,Sw⟩:=ih qf
     obtain ⟨ci,Fi,y,h1,h2⟩:=Kh m qf
     obtain ⟨_,aGm,Dj⟩:=World.cells?_some h1
     refine ⟨F++Fi,vs++ci,l++[y],by simp [hl],yO hr<|reps_one h2,fun i v hv=>?_⟩
     have hvl:=reps_len hr
     rw [hl] at hvl
     rcases Nat.lt_or_ge i vs.length with hi | hi
     ·rw [List.getElem?_append_left hi] at hv
      exact Sw i v hv
     ·rw [List.getElem?_append_right hi] at hv
      have hi2:i - vs.length < ci.length:=by
       rcases Nat.lt_or_ge (i - vs.length) ci.length with h | h
       ·exact h
       ·simp [h] at hv
      have:=Dj (i - vs.length) qf
      rw [auo,hv] at this
      rw [← this]
      congr 1
      rw [show off+i=off+m * qI.size α+(i - vs.length) by omega]
   obtain ⟨F,vs,l,hl,hr,Sw⟩:=EU len<|Nat.le_refl _
   have hb:b < w.heap.size:=by
    have h1:0 < vs.length:=by rw [reps_len hr,hl];exact Nat.mul_pos h0 hz
    exact World.block_lt_of_cell? w _<|Sw 0 _<|List.getElem?_eq_getElem h1
   subst hl
   exact ⟨b::F,l,some ⟨b,off,none⟩,gY,rfl,⟨by omega,hlc⟩,Or.inr ⟨b,off,F,vs,rfl,rfl,hb,hr,Sw⟩⟩
theorem arg_slice {α:Type} [qI α] {H:Type} {enc:TypeId×Value->H} {HS:Nat->Bool} {To:Bool} {b0:Nat} {d:DataW H} {p:List MemPlace} (hu:P.underlying t=some (.slice e)) (hr:Reads P t (List α))
 (hv:Value.okWide P w .any b0 t v) (h:DataW.Trod enc P w 0 HS To t v d p):∃ (a:yOA) (c:Nat) (F:yLN) (l:List α),v=Sv a l.length c/\qI.rep w F [Sv a l.length c] l:=by
 obtain ⟨a,m,c,rfl⟩:=okWide_slice hu hv
 obtain ⟨fuel,hf⟩:=h
 obtain ⟨F,l,hl⟩:=hr hf
 have KG:(Value.slice a m c).cells.toList=[Sv a m c]:=rfl
 rw [KG] at hl
 obtain ⟨a',c',hc,hx⟩:=id hl
 simp only [List.cons.injEq,Value.slice.injEq,and_true] at hc
 obtain ⟨rfl,rfl,rfl⟩:=hc
 exact ⟨a,c,F,l,rfl,hl⟩
section
variable {H : Type} {enc : TypeId × Value -> H} {P : Program}
theorem trodAll_below (hl:laidOutB P=true) {W W' :World} (hb:Below W.heap.size W W'):
 ∀ (ts:List TypeId) (vs:List Value) (ds:List (DataW H)) (ps:List MemPlace),(∀ t∈ts,P.readableRec t=true/\t < P.types.size)→
  DataW.TrodAll enc P W 0 (fun _=>true) true ts vs ds ps->(∀ x∈ps,x.block < W.heap.size)→
  DataW.TrodAll enc P W' 0 (fun b=>decide<|b < W.heap.size) true ts vs ds ps
 | [],vs,ds,ps,_,h,_=>by
  obtain ⟨rfl,rfl,rfl⟩:=trodAll_nil h
  exact trodAll_mk0
 | t::ts,vs,ds,ps,hr,h,hp=>by
  obtain ⟨v,vs',d,ds',p,q,rfl,rfl,rfl,h0,h1⟩:=trodAll_cons h
  have ht:=hr t<|List.mem_cons_self ..
  exact trodAll_cons_mk (Below.trod hl ht.1 ht.2 h0 hb<|fun x hx=>hp x<|List.mem_append_left _ hx)
   (trodAll_below hl hb ts vs' ds' q (fun t' ht' =>hr t'<|List.mem_cons_of_mem _ ht') h1<|fun x hx=>hp x<|List.mem_append_right _ hx)
theorem post_law {f:Func} {s:ChangeSpec} {W W' :World} {args:Array Value} {tb:TypeId} {ds gs:List (DataW H)} {uw:List MemPlace}
 (hW:DataW.Whole enc P f.params.toList s.vars false W args.toList ds gs uw) (hv:s.vars=[])
 (hs:s.fn H (ds++[])={ results:=[.lit<|.bool true],args:=ds }) (hr:f.resultTypes=#[tb]) (hu:P.underlying tb=some .bool)
 (hl:laidOutB P=true) (hts:∀ t∈f.params.toList,P.readableRec t=true/\t < P.types.size) (hb:Below W.heap.size W W'):
 s.post enc P f false true false false W args (Bv true) W' :=by
 have hW' :=hW
 obtain ⟨p,q,hA,hV,rfl,hz,hn⟩:=hW
 rw [hv] at hV
 obtain ⟨rfl,rfl⟩:=trodVars_none hV
 have nO:∀ x∈p++[],x.block < W.heap.size:=fun x hx=>hW'.lt x hx
 refine ⟨ds,[],p++[],[],p,[],hW',?_,?_,?_,World.keptBut_mono (fun x hx=>⟨hx,Or.inr<|Or.inl<|by simpa using hx⟩) (hb.frame (·∈p++[])),fun h=>by cases h⟩
 ·rw [hs,hr]
  simp only [Value.resultList]
  exact trodAll_mk1<|shut_bool hu true
 ·rw [hs]
  exact trodAll_below hl hb _ _ _ _ hts hA<|fun x hx=>nO x<|by simpa using hx
 ·rw [hv,hs]
  exact rfl
end
theorem reads_byte (hu:P.underlying t=some (.int .u8)):Reads P t UInt8:=fun h=>by
 obtain ⟨n,rfl,_,hw⟩:=DataW.trod_int hu h
 have hb:0<=n/\n<=255:=by
  simp [Lit.wf,IntKind.min,IntKind.max,IntKind.signed,IntKind.bits] at hw
  omega
 refine ⟨[],UInt8.ofNat n.toNat,rfl,?_⟩
 have e:(UInt8.ofNat n.toNat).toNat=n.toNat:=by
  simp
  omega
 rw [e,Int.toNat_of_nonneg hb.1]
end
end Go.Proofs.YtghikkinnchndaaGreat
