/- Walks and laws, printed by program and by hand: what each function comes to, for all arguments, part 3. -/
import Derived.Test.YtdhklgjmiamiaaaGreatA2
namespace Go.Proofs.YtdhklgjmiamiaaaGreat
open Go.Proofs.Tryz
set_option linter.unusedVariables false
set_option linter.unusedSimpArgs false
set_option maxRecDepth 100000
set_option maxHeartbeats 4000000
open Go.RowKit
open Go.Proofs.Tryz
open Go.Proofs.YtdhklgjmiamiaaaGreat.Tot (tot)
open Go.Proofs.YtdhklgjmiamiaaaGreat.Mark (cnt mrk mkd mkd_mark cnt_mark)
variable {F Fb Fl ax eA eG eW eL e8 j6 vF xW xk zD zh:yLN} {Qy Xf Xg Xh Xi ab al bP qG qO qZ xI xg zO:yOA} {b c c' f i j k n nn q zK:Nat} {cn cs l ai:yLI} {e e2:TypeId} {fr:Bool} {ae:yLL} {r:vS} {s:qC} {t u:qH} {v:Value} {w:World} {xs:List Value} {z:Int} {Γ:List Fact}
section
variable {bs os qE qN bt ot xf xG qY : Nat}
theorem l03Before_ok (w:World) (a:yLI) (b:yLI) {aa:yOA} {ca:Nat} {Fa:yLN} {cb:Nat} (ha:zP w Fa aa ca a) (hb:zP w Fb ab cb b) (p0:a.length=b.length):Calls Tryz.prog 156 #[Sv aa a.length ca,Sv ab b.length cb] w (Ret (fun v w' =>v=Bv (dec (ahead a b))) w):=by
 refine en func156 ntmps156 ?_
 have H:=((St.start w).arg hb).arg ha
 have WG:=qM ha
 clear ha hb
 have N:=Fresh.nil w.heap.size
 refine zcr (sp (Bv false) (zjcc (sp (yI 0) (zjn (qR (zl ((fun Z0 Z1=>fun m' ρ w1=>∃ (xE:Env) (i:Nat),ρ=upd (upd (upd xE 0 (Sv aa a.length ca)) 1 (Sv ab b.length cb)) 5 (yI i)/\((i:Int)<=a.length)/\(SameTo a b i)/\m' =(a.length - (i:Int)).toNat/\Fresh w.heap.size []/\St w w1 [] [Z0,Z1]) _ _) ((a.length - (0:Int)).toNat) ⟨_,0,uE3,qf,qx,rfl,N,H⟩ ?_))))))
 clear H N
 rintro m' ρ w2 ⟨xE,i,rfl,i0,i1,rfl,N,H⟩
 refine zcc (sp (yI i) (sq 1 (oN rfl (sq 1 (zjn (cD rfl (fun h3=>?_) (fun h3=>?_)))))))
 ·refine qV (t_n (xQ (qR (xQ (jE rfl H fun H=>rtl 0 H ?_)))))
  refine rtp 1 (yI i) H ?_
  obtain ⟨b5,o6,rfl⟩:=H.addr 0 rfl qf
  refine tI 2 rfl rfl rfl H ?_
  refine tL 3 rfl rfl (fun _ h=>h.zA 0 rfl i qf) H ?_
  refine rtl 4 H ?_
  refine rtp 5 (yI i) H ?_
  obtain ⟨b8,o9,rfl⟩:=H.addr 1 rfl qf
  refine tI 6 rfl rfl rfl H ?_
  refine tL 7 rfl rfl (fun _ h=>h.zA 1 rfl i qf) H ?_
  refine rtl 8 H ?_
  refine xw qh (t_n (zT _ rfl (fun aU=>?_) (fun aU=>?_)))
  ·replace aU:=bne_iff_ne.1 aU
   refine xQ (jE rfl H fun H=>rtl 0 H ?_)
   refine rtp 1 (yI i) H ?_
   refine tI 2 rfl rfl rfl H ?_
   refine tL 3 rfl rfl (fun _ h=>h.zA 0 rfl i qf) H ?_
   refine rtl 4 H ?_
   refine rtp 5 (yI i) H ?_
   refine tI 6 rfl rfl rfl H ?_
   refine tL 7 rfl rfl (fun _ h=>h.zA 1 rfl i qf) H ?_
   refine rtl 8 H ?_
   refine rtl 9 H ?_
   refine xw qh (t_n (c_ret (zr5 (rH1 (Bv (decide ((a[i]! :Int) < (b[i]!)))) H ?_))))
   rw [show decide (a[i]! < b[i]!)=dec (ahead a b) from dec_eq ⟨fun h=>ahead_yes i1 qf (of_decide_eq_true h),fun h=>decide_eq_true (Classical.byContradiction fun h1=>ahead_no i1 h1 ‹_› h)⟩]
  replace aU:=xx aU
  refine qV (b_n (t_n (xJ (sp (yI i) (sw (zn i 1 rfl rfl qf (sq 1 (xO (qX (m' :=(a.length - ((i+1):Int)).toNat) qf ⟨_,i+1,uE3,?_,?_,rfl,N,H⟩)))))))))
  ·omega
  ·exact i1.succ qg
 refine zx4 (zcr (sp (Bv false) (zjr (rH1 (Bv false) H ?_))))
 rw [xh (ahead_same (show SameTo a b a.length from fun j hj=>i1 j qf))]
theorem l03Count_ok (w:World) (all:List yLL) {Po:yOA} {call:Nat} {afs:yLN} (Eb:zP w afs Po call all) (p0:∀ j,j<=all.length->((Xt all j:Nat):Int)<=2862423051509815793):Calls Tryz.prog 155 #[Sv Po all.length call] w (Ret (fun v w' =>v=yI ((Xt all all.length:Nat):Int)) w):=by
 refine en func155 ntmps155 ?_
 have H:=(St.start w).arg Eb
 have apf:=qM Eb
 clear Eb
 have N:=Fresh.nil w.heap.size
 refine zcr (sp (yI 0) (zjc (sp (yI 1) (zjcc (sp (yI 0) (zjn (qR (zl ((fun Z0=>fun m' ρ w1=>∃ (xE:Env) (n:Int) (i:Nat),ρ=upd (upd (upd xE 0 (Sv Po all.length call)) 3 (yI n)) 4 (yI i)/\n=((Xt all i:Nat):Int)/\((i:Int)<=all.length)/\m' =(all.length - (i:Int)).toNat/\Fresh w.heap.size []/\St w w1 [] [Z0]) _) ((all.length - (0:Int)).toNat) ⟨_,1,0,uE3,(by rfl),qf,rfl,N,H⟩ ?_))))))))
 clear H N
 rintro m' ρ w2 ⟨xE,n,i,rfl,rfl,i0,rfl,N,H⟩
 have pm:=prod_mul all i
 have pb:=fun h=>p0 (i+1) h
 refine zcc (sp (yI i) (sq 1 (oN rfl (sq 1 (zjn (cD rfl (fun h3=>?_) (fun h3=>?_)))))))
 ·refine qV (t_n (xQ (qR (xJ (sq 2 (sp (yI i) ?_))))))
  obtain ⟨b4,o5,rfl⟩:=H.addr 0 rfl qf
  obtain ⟨ae7,ce7,Fe7,H⟩:=H.zW 0 rfl i i qf qf qf
  refine oI rfl rfl (oL rfl (H.xP 1 rfl 0 rfl) (oN rfl (sw (o_mul ((Xt all i:Nat):Int) ((all[i]!).length) rfl rfl qf (sq 1 (xO (b_n (t_n (xJ (sp (yI i) (sw (zn i 1 rfl rfl qf (sq 1 (xO (qX (m' :=(all.length - ((i+1):Int)).toNat) qf ⟨_,_,i+1,uE3,?_,?_,rfl,N,H.pick [] [2]⟩)))))))))))))))
  ·exact prod_mul all i
  ·omega
 refine zx4 (zcr (sq 2 (zjr (rH1 (yI ((Xt all i:Nat):Int)) H ?_))))
 rw [show i=all.length by omega]
theorem l03Choices_ok (w:World) (s:qC) (t:qH) (hs:vY w bs os (yS s qG qE qO qN)) (qP:zP w xk qG qE s.qA) (xm:zP w xW qO qN s.qB) (ht:vY w bt ot (yT t xg xf xI xG qZ qY)) (zi:zP w zD xg xf t.qK) (zI:zP w vF xI xG t.qQ) (xM:zP w zh qZ qY t.qL) (p0:ve s) (p1:xZ s t):Calls Tryz.prog 106 #[pp bs os,pp bt ot] w (Ret (fun v w' =>∃ (kN:yOA) (kY:Nat) (kQ:Nat) (kZ:List Value) (kR:yLN),v=.tuple #[Sv kN kY kQ,yI ((jf s t).2)]/\Fresh w.heap.size [kR]/\St w w' [rr kN kY kQ 24 1 kZ] [xy true kR kZ ((jf s t).1)]) w):=by
 refine en func106 ntmps106 ?_
 have H:=(((((((St.start w).arg xM).arg zI).arg zi).Xr ht).arg xm).arg qP).Xr hs
 have zB:=qM qP
 have vP:=qM xm
 clear hs qP xm ht zi zI xM
 have N:=Fresh.nil w.heap.size
 have p2:=p0.2.1
 have p3:=p0.1.2.1
 have p4:=p1.1
 have p5:=p1.2.1
 refine zcr (sq 1 (sp (yI 0) (zjc (sq 2 (sw (zQ #[pp bs os,pp bt ot] rfl rfl call154 (en func154 ntmps154 ?_)))))))
 refine zcr (sq 2 (sp (yI 0) (zjc (sq 2 (sw (oc (l03Applicable_ok _ s t (qF (H.get 0 rfl) 0 3) (H.get 1 rfl).1 (H.get 2 rfl).1 (qF (H.get 3 rfl) 0 3) (H.get 4 rfl).1 (H.get 5 rfl).1 (H.get 6 rfl).1 qg qg) ?_))))))
 rintro _ w2 ⟨EZ,rn1,GP,rfl,M,K⟩ _
 replace H:=H.merge K M
 obtain rfl:=H.VM 0 rfl
 have al:=appl_len s t
 refine sq 1 (zjc (sw (vW H underlying170 ti135 fun b7 w8 H=>sq 1 (zjc (sw (vW H underlying171 ti29 fun b9 nq H=>sq 1 (zjcc (sp (yI 0) (zjn (qR (zl ((fun Z0 Z1 Z2 Z3 Z4 Z5 Z6 Z7 Z8 Z9=>fun m' ρ nr=>∃ (xE:Env) (c:Nat),ρ=upd (upd (upd (upd (upd (upd xE 0 (pp bs os)) 1 (pp bt ot)) 7 (Sv EZ ((appl s t).length) GP)) 8 (Sv (aa b7 0) 0 0)) 9 (Sv (aa b9 0) 0 0)) 10 (yI c)/\((c:Int)<=s.qA.length)/\m' =(s.qA.length - (c:Int)).toNat/\Fresh w.heap.size []/\St w nr [Z0,Z1,Z2] [Z3,Z4,Z5,Z6,Z7,Z8,Z9]) _ _ _ _ _ _ _ _ _ _) ((s.qA.length - (0:Int)).toNat) ⟨_,0,uE6,qf,rfl,N,H⟩ ?_)))))))))))
 clear H N
 rintro m' ρ uE ⟨xE,c,rfl,i0,rfl,N,H⟩
 refine zcc (sp (yI c) (sq 2 (oF rfl (oL rfl (H.xP 0 rfl 1 rfl) (oN rfl (sq 1 (zjn (cD rfl (fun ir=>?_) (fun ir=>?_)))))))))
 ·refine qV (t_n (xQ (qR (zcr (sq 2 (sp (yI c) (sw (zQ #[pp bs os,Sv EZ ((appl s t).length) GP,yI c] rfl rfl call189 (en func189 ntmps189 ?_)))))))))
  refine zcr (sq 2 (zjc (sw (vW H underlying135 ti3 fun sO yi H=>sq 1 (zjc (sw (vW H underlying29 ti24 fun Dh HF H=>sq 1 (zjcc (sp (yI 0) (zjn (qR ?_)))))))))))
  replace H:=H.Xv 1 [] 0
  replace H:=H.boxRow 0 rfl 1 0 rfl qj
  replace H:=H.jo (α:=yLI)
  replace H:=H.unfree 0 rfl
  refine zl ((fun Z0 Z1 Z2 Z3 Z4 Z5 Z6 Z7 Z8 Z9=>fun m' ρ Dn=>∃ (xE:Env) (bT:yOA) (XK:Nat) (bS:Nat) (rules:yLI) (ct:yOA) (cu:Nat) (cw:Nat) (i8:yLL) (dp:List Value) (fy:yLN) (i:Nat),ρ=upd (upd (upd (upd (upd (upd xE 0 (pp bs os)) 1 (Sv EZ ((appl s t).length) GP)) 2 (yI c)) 8 (Sv bT XK bS)) 9 (Sv ct cu cw)) 10 (yI i)/\rules=(cellT s t i c)/\i8=(jd s (cellT s t i c))/\((i:Int)<=((appl s t).length))/\m' =(((appl s t).length) - (i:Int)).toNat/\Fresh w.heap.size []/\St w Dn [rr ct cu cw 24 1 dp,rr bT XK bS 3 1 (rules.map (Value.int .i64)),Z0,Z1,Z2] [xy false fy dp i8,Z3,Z4,Z5,Z6,Z7,Z8,Z9]) _ _ _ _ _ _ _ _ _ _) ((((appl s t).length) - (0:Int)).toNat) ⟨_,(aa sO 0),0,0,([]:yLI),(aa Dh 0),0,0,([]:yLL),[],[],0,uE6,(by rfl),(by rfl),qf,rfl,N,H.pick (zR 0 5) (0::zR 2 7)⟩ ?_
  clear H N
  rintro m' ρ s0 ⟨xE,bT,XK,bS,rules,ct,cu,cw,i8,dp,fy,i,rfl,rfl,rfl,i0,rfl,N,H⟩
  have mI:=H.jC 1 rfl
  have mT:=H.zg (α:=yLI) 0 rfl 0 rfl qj
  have tl:=cellT_le s t i c
  have nl:=Xp s (cellT s t i c)
  refine zcc (sp (yI i) (sq 1 (oN rfl (sq 1 (zjn (cD rfl (fun oV=>?_) (fun oV=>?_)))))))
  ·refine qV (t_n (xQ (qR (zcr (sq 1 (sp (yI i) ?_))))))
   obtain ⟨sg,rfl⟩:=H.jK 4 rfl qf
   refine oI rfl rfl (oL rfl (H.rowBool 4 rfl (iv:=i) (i:=i) qf qf) (sp (Bv ((appl s t)[i]!)) ?_))
   cases Rn:((appl s t)[i]!)
   ·refine xR (zR 24 10) (sp (Bv false) (zjn (cFr rfl (qV (b_n (t_n (xJ (sp (yI i) (sw (zn i 1 rfl rfl qf (sq 1 (xO (qX (m' :=(((appl s t).length) - ((i+1):Int)).toNat) qf ⟨_,_,_,_,_,_,_,_,_,_,_,i+1,uE6,?_,?_,?_,rfl,N,H⟩)))))))))))))
    ·exact Xu (Qe qf ‹_›)
    ·exact congrArg (jd s) (Xu (Qe qf ‹_›))
    ·omega
   refine qJ 23 rfl rfl (sq 1 (qJ 23 rfl rfl (sq 1 (qJ 23 rfl rfl (oF rfl (qJ 23 rfl rfl (oL rfl (H.xP 1 rfl 2 rfl) (qJ 23 rfl rfl (sp (yI i) (qJ 23 rfl rfl ?_))))))))))
   obtain ⟨PV,o24,rfl⟩:=H.addr 3 rfl qf
   obtain ⟨DE,GE,abt,UG,acr,UR,aaG,Sm,VU,Yt,Yx,ac9,aes,adC,aen,ac4,aa3,R0,H⟩:=H.jZ 3 rfl i i qf qf qf
   refine oI rfl rfl (qJ 23 rfl rfl (oF rfl (qJ 23 rfl rfl (oL rfl (H.xP 6 rfl 0 rfl) (qJ 23 rfl rfl (sp (yI c) (qJ 23 rfl rfl (sq 2 (zjn (cE rfl (fun lJ=>?_) (fun lJ=>?_)))))))))))
   ·refine zcr (sq 1 (sp (yI i) (sw (zf H underlying135 ti3 [yI i] fun wH Dk H=>sw (zo H 2 rfl 0 rfl underlying135 ti3 rfl qj rfl rfl rfl qw qp qf fun a30 c31 Dc H=>?_)))))
    rw [snocI] at H
    refine sq 1 (zjn (xJ (sq 3 (oF rfl (oL rfl (H.xP 8 rfl 2 rfl) (sp (yI i) (oI rfl rfl (oF rfl (oL rfl (H.xP 6 rfl 2 rfl) (sw (zf H underlying29 ti24 [Sv DE (((s.qB[i]!).zk).length) GE] fun uI Dg H=>sw (zo H 2 rfl 0 rfl underlying29 ti24 rfl qj rfl rfl rfl qw qp qf fun a35 c36 N6 H=>?_))))))))))))
    replace H:=H.yx 7 rfl 0 rfl
    refine sq 1 (xO (b_n (t_n (xJ (sp (yI i) (sw (zn i 1 rfl rfl qf (sq 1 (xO (qX (m' :=(((appl s t).length) - ((i+1):Int)).toNat) qf ⟨_,_,_,_,_,_,_,_,_,_,_,i+1,uE6,?_,?_,?_,rfl,N,H.pick (zR 2 5) (0::zR 9 7)⟩))))))))))
    ·exact cellT_yes (QQ qf ‹_›) ‹_›
    ·exact needs_yes (QQ qf ‹_›) ‹_›
    ·omega
   refine qV (b_n (t_n (xJ (sp (yI i) (sw (zn i 1 rfl rfl qf (sq 1 (xO (qX (m' :=(((appl s t).length) - ((i+1):Int)).toNat) qf ⟨_,_,_,_,_,_,_,_,_,_,_,i+1,uE6,?_,?_,?_,rfl,N,H.pick (zR 0 5) (zR 7 8)⟩)))))))))
   ·exact Q4 ‹_›
   ·exact congrArg (jd s) (Q4 ‹_›)
   ·omega
  refine zx4 (zcr (sq 4 (zjr (ret2 (Sv bT XK bS) (Sv ct cu cw) rfl rfl rfl ⟨_,rfl,?_⟩))))
  obtain rfl:i=s.qB.length:=by omega
  rw [show cellT s t s.qB.length c=je s t c from rfl] at H mI mT
  refine sq 5 (zjc (sq 1 (oN rfl (sp (Bv (decide ((XK:Int) > 0))) (sp (Bv (decide ((XK:Int) > 0))) ?_)))))
  cases HN:(decide ((XK:Int) > 0))
  ·replace HN:=of_decide_eq_false HN
   refine xR (zR 43 9) (sp (Bv false) (zjn (cFr rfl (qV (b_n (t_n (xJ (sp (yI c) (sw (zn c 1 rfl rfl qf (sq 1 (xO (qX (m' :=(s.qA.length - ((c+1):Int)).toNat) qf ⟨_,c+1,uE6,?_,rfl,N,H.pick [2,3,4] (zR 1 7)⟩)))))))))))))
   ·omega
  replace HN:=of_decide_eq_true HN
  refine qJ 42 rfl rfl (sq 1 (qJ 42 rfl rfl (sq 1 (qJ 42 rfl rfl (oF rfl (qJ 42 rfl rfl (oL rfl (H.xP 4 rfl 1 rfl) (qJ 42 rfl rfl (sp (yI c) (qJ 42 rfl rfl ?_))))))))))
  obtain ⟨Dl,o40,rfl⟩:=H.addr 6 rfl qf
  obtain ⟨asF,axf,auy,H⟩:=H.zW 6 rfl c c qf qf qf
  refine oI rfl rfl (qJ 42 rfl rfl (oL rfl (H.xP 1 rfl 0 rfl) (qJ 42 rfl rfl ?_)))
  have sm:=vX (p1.2.2.2.2 c qf).1
  refine sw (oq (XY _ (t.qQ[c]!) (H.get 0 rfl).1 (by assumption)) H fun Df H=>qJ 42 rfl rfl (sp (Bv (decide ((QS (t.qQ[c]!):Int) > 16))) (sp (Bv (decide ((QS (t.qQ[c]!):Int) > 16))) (zjn (cD rfl (fun oU=>?_) (fun oU=>?_))))))
  ·refine zcr (sq 4 (sp (yI 3) (zjr (zr5 (ret3 (Sv (aa b7 0) 0 0) (Sv (aa b9 0) 0 0) (yI 3) rfl rfl rfl rfl ⟨_,rfl,?_⟩)))))
   replace H:=H.erases [4,1,0]
   dsimp only [vz,List.eraseIdx] at H
   refine sq 3 (sp (yI 3) (sq 2 (sp (yI 3) (zjcc (sp (yI 3) (sp (Bv true) (zjn (cTr rfl (zcr (sw (vW H underlying29 ti24 fun OU Ng H=>sp (yI 3) (sq 1 (sp (yI 3) (zjr (t_r ?_)))))))))))))))
   replace H:=H.boxRow 0 rfl 1 0 rfl qj
   replace H:=H.jo (α:=yLI)
   refine ret2 (Sv (aa OU 0) 0 0) (yI 3) rfl rfl rfl ⟨_,rfl,?_,H.base⟩
   rw [cho_3 (.inl (bad_sum (c:=c) qf qf qf))]
   exact ⟨(aa OU 0),0,0,[],[],rfl,N.emp,H.pick [0] [0]⟩
  refine qV (b_n (t_n (xJ (sp (yI c) (sw (zn c 1 rfl rfl qf (sq 1 (xO (qX (m' :=(s.qA.length - ((c+1):Int)).toNat) qf ⟨_,c+1,uE6,?_,rfl,N,H.pick [2,3,4] (zR 3 7)⟩)))))))))
  ·omega
 refine zx4 (zcc (sp (yI 0) (zjn (qR ?_))))
 replace H:=H.boxRow 1 rfl 1 0 rfl qj
 replace H:=H.jo (α:=yLI)
 replace H:=H.boxRow 0 rfl 1 0 rfl qj
 replace H:=H.jo (α:=yLL)
 refine zl ((fun Z0 Z1 Z2 Z3 Z4 Z5 Z6 Z7=>fun m' ρ Pc=>∃ (xE:Env) (bT:yOA) (XK:Nat) (bS:Nat) (rules:yLL) (tS:List Value) (fz:yLN) (n7:yOA) (fV:Nat) (mO:Nat) (all:List yLL) (D1:List Value) (mL:yLN) (aD:Nat),ρ=upd (upd (upd (upd (upd (upd xE 0 (pp bs os)) 1 (pp bt ot)) 7 (Sv EZ ((appl s t).length) GP)) 8 (Sv bT XK bS)) 9 (Sv n7 fV mO)) 13 (yI aD)/\rules=(xN s t aD)/\all=(zu s t aD)/\((aD:Int)<=s.qA.length)/\(GoodP s t aD)/\m' =(s.qA.length - (aD:Int)).toNat/\Fresh w.heap.size [fz,mL]/\St w Pc [rr n7 fV mO 29 1 D1,rr bT XK bS 135 1 tS,Z0] [xy true fz tS rules,xy true mL D1 all,Z1,Z2,Z3,Z4,Z5,Z6,Z7]) _ _ _ _ _ _ _ _) ((s.qA.length - (0:Int)).toNat) ⟨_,(aa b7 0),0,0,([]:yLL),[],[],(aa b9 0),0,0,([]:List yLL),[],[],0,uE6,(by rfl),(by rfl),qf,qx,rfl,N.emp.emp,H⟩ ?_
 clear H N
 rintro m' ρ Pz ⟨xE,bT,XK,bS,rules,tS,fz,n7,fV,mO,all,D1,mL,aD,rfl,rfl,rfl,i0,gp,rfl,N,H⟩
 have mI:=H.zg (α:=yLI) 1 rfl 0 rfl qj
 have agI:=H.zg (α:=yLL) 0 rfl 1 rfl qj
 have rl:=rules_le s t aD
 have pl:=packsL_le s t aD
 refine zcc (sq 3 (oF rfl (oL rfl (H.xP 2 rfl 1 rfl) (oN rfl (sq 1 (zjn (cD rfl (fun Pq=>?_) (fun Pq=>?_))))))))
 ·refine qV (t_n (xQ (qR (zcr (sq 3 (sw (zQ #[pp bs os,Sv EZ ((appl s t).length) GP,yI aD] rfl rfl call189 (en func189 ntmps189 ?_))))))))
  refine zcr (sq 2 (zjc (sw (vW H underlying135 ti3 fun LB P5 H=>sq 1 (zjc (sw (vW H underlying29 ti24 fun b53 w54 H=>sq 1 (zjcc (sp (yI 0) (zjn (qR ?_)))))))))))
  replace H:=H.Xv 1 [] 0
  replace H:=H.boxRow 0 rfl 1 0 rfl qj
  replace H:=H.jo (α:=yLI)
  replace H:=H.unfree 0 rfl
  refine zl ((fun Z0 Z1 Z2 Z3 Z4 Z5 Z6 Z7 Z8 Z9 bx bG=>fun m' ρ Hz=>∃ (xE:Env) (fJ:yOA) (em:Nat) (fN:Nat) (uv:yLI) (ct:yOA) (cu:Nat) (cw:Nat) (i8:yLL) (dp:List Value) (fy:yLN) (i:Nat),ρ=upd (upd (upd (upd (upd (upd xE 0 (pp bs os)) 1 (Sv EZ ((appl s t).length) GP)) 2 (yI aD)) 8 (Sv fJ em fN)) 9 (Sv ct cu cw)) 10 (yI i)/\uv=(cellT s t i aD)/\i8=(jd s (cellT s t i aD))/\((i:Int)<=((appl s t).length))/\m' =(((appl s t).length) - (i:Int)).toNat/\Fresh w.heap.size [fz,mL]/\St w Hz [rr ct cu cw 24 1 dp,rr fJ em fN 3 1 (uv.map (Value.int .i64)),Z0,Z1,Z2] [xy false fy dp i8,Z3,Z4,Z5,Z6,Z7,Z8,Z9,bx,bG]) _ _ _ _ _ _ _ _ _ _ _ _) ((((appl s t).length) - (0:Int)).toNat) ⟨_,(aa LB 0),0,0,([]:yLI),(aa b53 0),0,0,([]:yLL),[],[],0,uE6,(by rfl),(by rfl),qf,rfl,N,H.pick (zR 0 5) (0::zR 2 9)⟩ ?_
  clear H N
  rintro m' ρ L8 ⟨xE,fJ,em,fN,uv,ct,cu,cw,i8,dp,fy,i,rfl,rfl,rfl,i0,rfl,N,H⟩
  have mI:=H.jC 1 rfl
  have mT:=H.zg (α:=yLI) 0 rfl 0 rfl qj
  have tl:=cellT_le s t i aD
  have nl:=Xp s (cellT s t i aD)
  refine zcc (sp (yI i) (sq 1 (oN rfl (sq 1 (zjn (cD rfl (fun De=>?_) (fun De=>?_)))))))
  ·refine qV (t_n (xQ (qR (zcr (sq 1 (sp (yI i) ?_))))))
   obtain ⟨b58,rfl⟩:=H.jK 4 rfl qf
   refine oI rfl rfl (oL rfl (H.rowBool 4 rfl (iv:=i) (i:=i) qf qf) (sp (Bv ((appl s t)[i]!)) ?_))
   cases h59:((appl s t)[i]!)
   ·refine xR (zR 24 10) (sp (Bv false) (zjn (cFr rfl (qV (b_n (t_n (xJ (sp (yI i) (sw (zn i 1 rfl rfl qf (sq 1 (xO (qX (m' :=(((appl s t).length) - ((i+1):Int)).toNat) qf ⟨_,_,_,_,_,_,_,_,_,_,_,i+1,uE6,?_,?_,?_,rfl,N,H⟩)))))))))))))
    ·exact Xu (Qe qf ‹_›)
    ·exact congrArg (jd s) (Xu (Qe qf ‹_›))
    ·omega
   refine qJ 23 rfl rfl (sq 1 (qJ 23 rfl rfl (sq 1 (qJ 23 rfl rfl (oF rfl (qJ 23 rfl rfl (oL rfl (H.xP 3 rfl 2 rfl) (qJ 23 rfl rfl (sp (yI i) (qJ 23 rfl rfl ?_))))))))))
   obtain ⟨C4,HZ,rfl⟩:=H.addr 5 rfl qf
   obtain ⟨ET,DW,ZC,abR,UI,YJ,acE,R3,S5,Uw,Y8,Sz,adm,adx,adh,R1,aco,Wa,H⟩:=H.jZ 5 rfl i i qf qf qf
   refine oI rfl rfl (qJ 23 rfl rfl (oF rfl (qJ 23 rfl rfl (oL rfl (H.xP 6 rfl 0 rfl) (qJ 23 rfl rfl (sq 1 (qJ 23 rfl rfl (sq 2 (zjn (cE rfl (fun B5=>?_) (fun B5=>?_)))))))))))
   ·refine zcr (sq 1 (sp (yI i) (sw (zf H underlying135 ti3 [yI i] fun AE E1 H=>sw (zo H 2 rfl 0 rfl underlying135 ti3 rfl qj rfl rfl rfl qw qp qf fun a67 c68 HD H=>?_)))))
    rw [snocI] at H
    refine sq 1 (zjn (xJ (sq 3 (oF rfl (oL rfl (H.xP 10 rfl 2 rfl) (sp (yI i) (oI rfl rfl (oF rfl (oL rfl (H.xP 6 rfl 2 rfl) (sw (zf H underlying29 ti24 [Sv ET (((s.qB[i]!).zk).length) DW] fun Mg w71 H=>sw (zo H 2 rfl 0 rfl underlying29 ti24 rfl qj rfl rfl rfl qw qp qf fun a72 c73 w74 H=>?_))))))))))))
    replace H:=H.yx 7 rfl 0 rfl
    refine sq 1 (xO (b_n (t_n (xJ (sp (yI i) (sw (zn i 1 rfl rfl qf (sq 1 (xO (qX (m' :=(((appl s t).length) - ((i+1):Int)).toNat) qf ⟨_,_,_,_,_,_,_,_,_,_,_,i+1,uE6,?_,?_,?_,rfl,N,H.pick (zR 2 5) (0::zR 9 9)⟩))))))))))
    ·exact cellT_yes (QQ qf ‹_›) ‹_›
    ·exact needs_yes (QQ qf ‹_›) ‹_›
    ·omega
   refine qV (b_n (t_n (xJ (sp (yI i) (sw (zn i 1 rfl rfl qf (sq 1 (xO (qX (m' :=(((appl s t).length) - ((i+1):Int)).toNat) qf ⟨_,_,_,_,_,_,_,_,_,_,_,i+1,uE6,?_,?_,?_,rfl,N,H.pick (zR 0 5) (zR 7 10)⟩)))))))))
   ·exact Q4 ‹_›
   ·exact congrArg (jd s) (Q4 ‹_›)
   ·omega
  refine zx4 (zcr (sq 4 (zjr (ret2 (Sv fJ em fN) (Sv ct cu cw) rfl rfl rfl ⟨_,rfl,?_⟩))))
  obtain rfl:i=s.qB.length:=by omega
  rw [show cellT s t s.qB.length aD=je s t aD from rfl] at H mI mT
  refine sq 5 (zjcc (sq 1 (oN rfl (sp (Bv ((em:Int) == 0)) (zjn (cE rfl (fun h75=>?_) (fun h75=>?_)))))))
  ·refine Qx (t_x (b_x (t_n (xJ (sq 1 (sw (zn aD 1 rfl rfl qf (sq 1 (xO (qX (m' :=(s.qA.length - ((aD+1):Int)).toNat) qf ⟨_,_,_,_,_,_,_,_,_,_,_,_,_,aD+1,uE6,?_,?_,?_,?_,rfl,N,H.pick [2,3,4] (zR 1 9)⟩))))))))))
   ·exact rules_no qf
   ·exact packsL_no qf
   ·omega
   ·exact gp.succ (by exact .inl qf)
  refine qV (t_n (zcr (sq 2 (oF rfl (oL rfl (H.xP 6 rfl 1 rfl) (sq 1 ?_))))))
  obtain ⟨Ho,o77,rfl⟩:=H.addr 8 rfl qf
  obtain ⟨axz,azl,ass,H⟩:=H.zW 8 rfl aD aD qf qf qf
  refine oI rfl rfl (oL rfl (H.xP 1 rfl 0 rfl) (sq 1 ?_))
  obtain ⟨G80,DT,h82⟩:=H.jY (α:=yLI) 0 rfl 2 rfl qj
  have cp:=cell_pack p0 p1 (c:=aD) qf
  have aeO:=H.base.size
  have ah5:=H.ltN (L:=[fz,mL]) [3,4]
  refine sw (oc (VG (by rw [← DT]) (l01All_ok _ (t.qQ[aD]!) (jd s (je s t aD)) (H.get 0 rfl).1 (DT▸h82) qg)) ?_)
  rintro _ HG ⟨SL,anQ,Wv,aog,Tj,rfl,M,K⟩ _
  replace N:=N.merge aeO ah5 M
  replace H:=H.merge K M
  obtain rfl:=H.zg (α:=yLI) 0 rfl 0 rfl qj
  refine sq 5 (zjcc (sq 1 (sp (Bv (((yD (t.qQ[aD]!) (jd s (je s t aD))).2:Int) != 0)) (zjn (zT (((yD (t.qQ[aD]!) (jd s (je s t aD))).2:Int) != 0) rfl (fun Do=>?_) (fun Do=>?_))))))
  ·replace Do:=bne_iff_ne.1 Do
   refine zcr (sq 6 (zjr (t_r (zr5 (ret3 (Sv bT XK bS) (Sv n7 fV mO) (yI ((yD (t.qQ[aD]!) (jd s (je s t aD))).2)) rfl rfl rfl rfl ⟨_,rfl,?_⟩)))))
   replace H:=H.erases [5,2,1,0]
   dsimp only [vz,List.eraseIdx] at H
   refine sq 7 (zjcc (sq 1 (sp (Bv (((yD (t.qQ[aD]!) (jd s (je s t aD))).2:Int) != 0)) (zjn (zT (((yD (t.qQ[aD]!) (jd s (je s t aD))).2:Int) != 0) rfl (fun wB=>?_) (fun h=>absurd (xx h) Do))))))
   replace wB:=bne_iff_ne.1 wB
   refine zcr (sw (vW H underlying29 ti24 fun Nx Yj H=>sq 3 (zjr (t_r ?_))))
   replace H:=H.boxRow 0 rfl 1 0 rfl qj
   replace H:=H.jo (α:=yLI)
   refine ret2 (Sv (aa Nx 0) 0 0) (yI ((yD (t.qQ[aD]!) (jd s (je s t aD))).2)) rfl rfl rfl ⟨_,rfl,?_,H.base⟩
   rw [cho_code (bad_code (c:=aD) qf qf ‹_›) ‹_›]
   exact ⟨(aa Nx 0),0,0,[],[],rfl,(N.emp.pick [0]),H.pick [0] [0]⟩
  replace Do:=xx Do
  refine qV (t_n (zcr (sq 2 (sw (zf H underlying170 ti135 [Sv fJ em fN] fun Hs Zw H=>?_)))))
  obtain ⟨J1,N,afk,H⟩:=H.zN 3 rfl N (H.jA [0,4,5])
  refine sw (zo H 5 rfl 0 rfl underlying170 ti135 rfl qj rfl rfl rfl qw qp qf fun a95 c96 N9 H=>?_)
  replace H:=H.yx 5 rfl 0 rfl
  replace N:Fresh w.heap.size [(fz++J1),Tj,mL]:=(N.pick [2,0,1,3]).join
  refine sq 1 (zjn (xJ (sq 2 (sw (zf H underlying171 ti29 [Sv SL (((yD (t.qQ[aD]!) (jd s (je s t aD))).1).length) Wv] fun ac3 abj H=>?_)))))
  have H0:=H
  obtain ⟨Nj,MT,abi,H⟩:=H.Ql (α:=yLI) 2 rfl 2 rfl qj
  replace N:Fresh w.heap.size [Nj,(fz++J1),mL]:=Fresh.ice (N.pick [1,0,2]) H0 2 MT.1 MT.2 (H0.jA [0,7])
  clear H0
  refine sw (zo H 5 rfl 0 rfl underlying171 ti29 rfl qj rfl rfl rfl qw qp qf fun ajN al9 EP H=>?_)
  replace H:=H.yx 8 rfl 0 rfl
  replace N:Fresh w.heap.size [(mL++Nj),(fz++J1)]:=(N.pick [2,0,1]).join
  refine sq 1 (xO (b_n (t_n (xJ (sq 1 (sw (zn aD 1 rfl rfl qf (sq 1 (xO (qX (m' :=(s.qA.length - ((aD+1):Int)).toNat) qf ⟨_,_,_,_,_,_,_,_,_,_,_,_,_,aD+1,uE6,?_,?_,?_,?_,rfl,(N.pick [1,0]),H.pick [5,6,7] (2::0::zR 10 7)⟩))))))))))
  ·exact rules_yes qf
  ·exact packsL_yes qf
  ·omega
  ·exact gp.succ (by exact .inr (show (yD _ _).2=0 from ‹_›))
 refine zx4 (zcr (sq 4 (sp (yI 0) (zjr (ret3 (Sv bT XK bS) (Sv n7 fV mO) (yI 0) rfl rfl rfl rfl ⟨_,rfl,?_⟩)))))
 replace H:=H.erases [2]
 dsimp only [vz,List.eraseIdx] at H
 obtain rfl:aD=s.qA.length:=by omega
 have kb:=prod_bd p0 p1 (k:=s.qA.length) qf gp
 have kn:=packsL_ne p0 p1 (k:=s.qA.length) qf gp
 refine sq 3 (sp (yI 0) (sq 2 (sp (yI 0) (zjcc (sp (yI 0) (sp (Bv false) (zjn (cFr rfl (qV (t_n (zcc (sq 1 ?_))))))))))))
 obtain ⟨aae,E3,ale⟩:=H.jY (α:=yLL) 0 rfl 1 rfl qj
 refine sw (oq (VG (by rw [← E3]) (l03Count_ok _ (zu s t s.qA.length) (E3▸ale) qg)) H fun PA H=>sp (Bv (decide ((((Xt (zu s t s.qA.length) (zu s t s.qA.length).length:Nat):Int):Int) > 300))) (zjn (cD rfl (fun ai3=>?_) (fun ai3=>?_))))
 ·refine zcr (sw (vW H underlying29 ti24 fun yp tJ H=>sq 1 (sp (yI 3) (zjr (t_r ?_)))))
  replace H:=H.boxRow 0 rfl 1 0 rfl qj
  replace H:=H.jo (α:=yLI)
  refine ret2 (Sv (aa yp 0) 0 0) (yI 3) rfl rfl rfl ⟨_,rfl,?_,H.base⟩
  rw [cho_3 (.inr qf)]
  exact ⟨(aa yp 0),0,0,[],[],rfl,(N.emp.pick [0]),H.pick [0] [0]⟩
 have kc:¬ Xt (zu s t s.qA.length) (zu s t s.qA.length).length > 300:=by omega
 refine qV (t_n (zcr (sq 2 (oF rfl (oL rfl (H.xP 2 rfl 2 rfl) (oN rfl (sw (zV H underlying24 ti2 s.qB.length rfl rfl qf qf qf fun BK acR H=>sw (zf H underlying29 ti24 [Sv (aa BK 0) s.qB.length s.qB.length] fun xr Y7 H=>sq 1 (zjcc (sp (yI 0) (zjn (qR ?_)))))))))))))
 have H0:=H
 obtain ⟨vQ,K7,aoi,H⟩:=H.Ql (α:=yLI) 3 rfl 0 rfl qj
 replace N:Fresh w.heap.size [vQ,mL]:=Fresh.ice N H0 3 K7.1 K7.2 (H0.jA [1])
 clear H0
 have H0:=H
 obtain ⟨nH,K9,KS,H⟩:=H.Ql (α:=yLL) 2 rfl 2 rfl qj
 replace N:Fresh w.heap.size [nH,vQ]:=Fresh.ice (N.pick [1,0]) H0 2 K9.1 K9.2 (H0.jA [0])
 clear H0
 replace H:=H.boxRow 0 rfl 1 1 rfl qj
 replace H:=H.jo (α:=yLI)
 obtain ⟨UB,N,ao2,H⟩:=H.zN 1 rfl N (H.jA [1,2])
 replace H:=H.Vy true 0 rfl 1 rfl qm
 replace N:Fresh w.heap.size [(UB++[]),nH,vQ]:=(N.emp.pick [1,0,2,3]).join
 refine zl ((fun Z0 Z1=>fun m' ρ NL=>∃ (xE:Env) (jB:yOA) (vC:Nat) (jw:Nat) (out:yLL) (bC:List Value) (QW:yLN) (i:Nat),ρ=upd (upd (upd (upd xE 6 (Sv bT XK bS)) 7 (Sv n7 fV mO)) 9 (Sv jB vC jw)) 10 (yI i)/\out=(y7 s.qB.length (xN s t s.qA.length) (zu s t s.qA.length) i)/\((i:Int)<=fV)/\m' =(fV - (i:Int)).toNat/\Fresh w.heap.size [nH,vQ,QW]/\St w NL [rr jB vC jw 24 1 bC] [xy true QW bC out,Z0,Z1]) _ _) ((fV - (0:Int)).toNat) ⟨_,(aa xr 0),1,1,[(List.replicate s.qB.length (0:Int))],[Sv (aa BK 0) s.qB.length s.qB.length],(UB++[]),0,uE4,(by rfl),qf,rfl,(N.pick [1,2,0]),H.pick [0] [0,3,4]⟩ ?_
 clear H N
 rintro m' ρ H8 ⟨xE,jB,vC,jw,out,bC,QW,i,rfl,rfl,i0,rfl,N,H⟩
 have bR:=H.zg (α:=yLI) 0 rfl 0 rfl qj
 refine zcc (sp (yI i) (sq 1 (oN rfl (sq 1 (zjn (cD rfl (fun Nv=>?_) (fun Nv=>?_)))))))
 ·have ga:=G_le (n:=s.qB.length) (rs:=(xN s t s.qA.length)) (i:=i) kn kc qf
  obtain ⟨gb,gc⟩:=cell_few (s:=s) (t:=t) (n:=s.qA.length) (i:=i) p0 qf
  refine qV (t_n (xQ (qR (zcr (sw (vW H underlying29 ti24 fun we aaf H=>sq 1 (zjcc (sp (yI 0) (zjn (qR ?_))))))))))
  replace H:=H.boxRow 0 rfl 1 0 rfl qj
  replace H:=H.jo (α:=yLI)
  refine zl ((fun Z0 Z1 Z2 Z3=>fun m' ρ IM=>∃ (xE:Env) (gB:yOA) (gA:Nat) (gU:Nat) (next:yLL) (gK:List Value) (gZ:yLN) (k:Nat),ρ=upd (upd (upd (upd (upd (upd xE 6 (Sv bT XK bS)) 7 (Sv n7 fV mO)) 9 (Sv jB vC jw)) 10 (yI i)) 11 (Sv gB gA gU)) 12 (yI k)/\next=(nextK (y7 s.qB.length (xN s t s.qA.length) (zu s t s.qA.length) i) ((xN s t s.qA.length)[i]!) ((zu s t s.qA.length)[i]!) k)/\((k:Int)<=vC)/\m' =(vC - (k:Int)).toNat/\Fresh w.heap.size [nH,vQ,QW,gZ]/\St w IM [rr gB gA gU 24 1 gK,Z0] [xy true gZ gK next,Z1,Z2,Z3]) _ _ _ _) ((vC - (0:Int)).toNat) ⟨_,(aa we 0),0,0,([]:yLL),[],[],0,uE6,(by rfl),qf,rfl,(N.emp.pick [1,2,3,0]),H⟩ ?_
  clear H N
  rintro m' ρ BQ ⟨xE,gB,gA,gU,next,gK,gZ,k,rfl,rfl,i0,rfl,N,H⟩
  refine zcc (sp (yI k) (sq 1 (oN rfl (sq 1 (zjn (cD rfl (fun CT=>?_) (fun CT=>?_)))))))
  ·refine qV (t_n (xQ (qR (zcr (sp (yI 0) (zjn (qR (zl ((fun Z0 Z1 Z2 Z3=>fun m' ρ EI=>∃ (xE:Env) (dq:yOA) (cx:Nat) (df:Nat) (lw:yLL) (eT:List Value) (Va:yLN) (x:Nat),ρ=upd (upd (upd (upd (upd (upd (upd xE 6 (Sv bT XK bS)) 7 (Sv n7 fV mO)) 9 (Sv jB vC jw)) 10 (yI i)) 11 (Sv dq cx df)) 12 (yI k)) 13 (yI x)/\lw=(nextX (y7 s.qB.length (xN s t s.qA.length) (zu s t s.qA.length) i) ((xN s t s.qA.length)[i]!) ((zu s t s.qA.length)[i]!) k x)/\((x:Int)<=(((zu s t s.qA.length)[i]!).length))/\m' =((((zu s t s.qA.length)[i]!).length) - (x:Int)).toNat/\Fresh w.heap.size [nH,vQ,QW,Va]/\St w EI [rr dq cx df 24 1 eT,Z0] [xy true Va eT lw,Z1,Z2,Z3]) _ _ _ _) (((((zu s t s.qA.length)[i]!).length) - (0:Int)).toNat) ⟨_,gB,gA,gU,(nextK (y7 s.qB.length (xN s t s.qA.length) (zu s t s.qA.length) i) ((xN s t s.qA.length)[i]!) ((zu s t s.qA.length)[i]!) k),gK,gZ,0,uE7,(by exact nextX_zero _ _ _ _),qf,rfl,N,H⟩ ?_))))))))
   clear H N
   rintro m' ρ abl ⟨xE,dq,cx,df,lw,eT,Va,x,rfl,rfl,i0,rfl,N,H⟩
   have Ae:=H.zg (α:=yLI) 0 rfl 0 rfl qj
   refine zcc (sp (yI x) (sq 1 (sp (yI i) ?_)))
   obtain ⟨NQ,aij,rfl⟩:=H.addr 2 rfl qf
   obtain ⟨apB,aoQ,apt,H⟩:=H.zW 2 rfl i i qf qf qf
   refine oI rfl rfl (oL rfl (H.xP 1 rfl 0 rfl) (oN rfl (sq 1 (zjn (cD rfl (fun aeM=>?_) (fun aeM=>?_))))))
   ·have nx:=next_le (n:=s.qB.length) (rs:=(xN s t s.qA.length)) (i:=i) (k:=k) (x:=x) kn kc qf qf qf
    have g1:=prodG_at (n:=s.qB.length) (rs:=(xN s t s.qA.length)) (all:=(zu s t s.qA.length)) (i:=i) (k:=k) qf
    have g2:=pack_at (s:=s) (t:=t) (n:=s.qA.length) (i:=i) (x:=x) qf qf
    refine qV (t_n (xQ (qR (zcr (sq 1 (sp (yI k) ?_))))))
    obtain ⟨aiX,rfl⟩:=H.jK 1 rfl qf
    refine oI rfl rfl ?_
    obtain ⟨arM,axR,av4,auB,avF,abG,apz,H⟩:=H.rowElemX 1 rfl 3 rfl (iv:=k) k qf qf
    refine oL rfl (H.Vk 1 rfl abG) (sw (oc (QZ _ ((y7 s.qB.length (xN s t s.qA.length) (zu s t s.qA.length) i)[k]!) (H.get 0 rfl).1 qg) ?_))
    rintro axw acT aeB agS
    replace H:=H.zH agS aeB
    obtain ⟨Ol,ON,rfl,aow,aqQ⟩:=H.jL 0 rfl
    refine sq 1 (zjcc (sp (yI 0) (zjn (qR (zl ((fun Z0 Z1 Z2 Z3 Z4 Z5 Z6 Z7=>fun m' ρ GV=>∃ (xE:Env) (r:Nat) (own:yLI),ρ=upd (upd (upd (upd (upd (upd (upd (upd (upd xE 6 (Sv bT XK bS)) 7 (Sv (aa NQ aij) fV mO)) 9 (Sv (aa aiX 0) vC jw)) 10 (yI i)) 11 (Sv dq cx df)) 12 (yI k)) 13 (yI x)) 14 (Sv Ol (((y7 s.qB.length (xN s t s.qA.length) (zu s t s.qA.length) i)[k]!).length) ON)) 15 (yI r)/\own=(setTo ((y7 s.qB.length (xN s t s.qA.length) (zu s t s.qA.length) i)[k]!) ((xN s t s.qA.length)[i]!) (((zu s t s.qA.length)[i]!)[x]!) r)/\((r:Int)<=(((xN s t s.qA.length)[i]!).length))/\m' =((((xN s t s.qA.length)[i]!).length) - (r:Int)).toNat/\Fresh w.heap.size [nH,vQ,QW,Va]/\St w GV [rr Ol (((y7 s.qB.length (xN s t s.qA.length) (zu s t s.qA.length) i)[k]!).length) ON 2 1 (own.map (Value.int .i64)),Z0,Z1] [Z2,Z3,Z4,Z5,Z6,Z7]) _ _ _ _ _ _ _ _) (((((xN s t s.qA.length)[i]!).length) - (0:Int)).toNat) ⟨_,0,((y7 s.qB.length (xN s t s.qA.length) (zu s t s.qA.length) i)[k]!),uE9,(by rfl),qf,rfl,N,H.pick [0,1,2] (zR 1 6)⟩ ?_)))))
    clear H N
    rintro m' ρ Gt ⟨xE,r,own,rfl,rfl,i0,rfl,N,H⟩
    have xb:=H.jC 0 rfl
    refine zcc (sp (yI r) (sq 1 (sp (yI i) ?_)))
    obtain ⟨xt,atq,rfl⟩:=H.addr 5 rfl qf
    obtain ⟨an0,aos,anV,H⟩:=H.zW 5 rfl i i qf qf qf
    refine oI rfl rfl (oL rfl (H.xP 1 rfl 0 rfl) (oN rfl (sq 1 (zjn (cD rfl (fun Ny=>?_) (fun Ny=>?_))))))
    ·obtain ⟨g3,g4⟩:=choice_at (s:=s) (t:=t) (n:=s.qA.length) (i:=i) (r:=r) qf qf
     refine qV (t_n (xQ (qR (yK rfl H [1,2] fun H=>?_))))
     have S:=H.jm [1,2] (zR 0 8)
     refine rtl 0 S ?_
     refine rtl 1 S ?_
     refine rtp 2 (yI i) S ?_
     refine tI 3 rfl rfl rfl S ?_
     refine tL 4 rfl rfl (fun _ h=>h.xP 1 rfl 0 rfl) S ?_
     refine rtp 5 (yI r) S ?_
     obtain ⟨agY,ai5,rfl⟩:=H.addr 0 rfl qf
     have S:=H.jm [1,2] (zR 0 8)
     refine tI 6 rfl rfl rfl S ?_
     refine tL 7 rfl rfl (fun _ h=>h.zA 0 rfl r qf) S ?_
     refine rtl 8 S ?_
     refine rtp 9 (yI i) S ?_
     refine tI 10 rfl rfl rfl S ?_
     refine tL 11 rfl rfl (fun _ h=>h.xP 3 rfl 0 rfl) S ?_
     refine rtp 12 (yI x) S ?_
     obtain ⟨awV,avK,rfl⟩:=H.addr 2 rfl qf
     obtain ⟨abS,ZB,anD,H⟩:=H.zW 2 rfl x x qf qf qf
     have S:=H.jm [1,2] (zR 2 8)
     refine tI 13 rfl rfl rfl S ?_
     refine rtp 15 (yI r) S ?_
     refine ro 14 rfl (x9 (Sv abS ((((zu s t s.qA.length)[i]!)[x]!).length) ZB) isAgg24 rfl (H.xP 1 rfl 0 rfl) (⟨H.pick [1,2] (zR 2 8),?_⟩))
     obtain ⟨oR,azC,rfl⟩:=H.addr 0 rfl qf
     refine tI 16 rfl rfl rfl (H.pick [1,2] (zR 2 8)) (ro 17 rfl (x9 (yI ((((zu s t s.qA.length)[i]!)[x]!)[r]!)) isAgg2 rfl (H.zA 0 rfl r qf) (⟨H.pick [1,2] (zR 2 8),?_⟩)))
     obtain ⟨si,rfl⟩:=H.jK 0 rfl qf
     refine tI 18 rfl rfl rfl (H.pick [1,2] (zR 2 8)) (ro 19 rfl (y5 H 0 rfl ((((zu s t s.qA.length)[i]!)[x]!)[r]!) sizeOf2 rfl rfl (i:=((((xN s t s.qA.length)[i]!)[r]!).toNat)) qf qf fun If H=>⟨H.pick [1,2] (zR 2 8),(xw qh (b_n (t_n (xJ (sp (yI r) (sw (zn r 1 rfl rfl qf (sq 1 (xO (qX (m' :=((((xN s t s.qA.length)[i]!).length) - ((r+1):Int)).toNat) qf ⟨_,r+1,_,uE9,?_,?_,rfl,N,H.pick [0,1,2] (zR 4 6)⟩))))))))))⟩))
     ·rfl
     ·omega
    refine zx4 (xJ (sq 2 (sw (zf H underlying29 ti24 [Sv Ol (((y7 s.qB.length (xN s t s.qA.length) (zu s t s.qA.length) i)[k]!).length) ON] fun PF OA H=>?_))))
    obtain ⟨ae2,N,apX,H⟩:=H.zN 1 rfl N (H.jA [6,7,5,4])
    refine sw (zo H 2 rfl 0 rfl underlying29 ti24 rfl qj rfl rfl rfl qw qp qf fun arW awf O1 H=>?_)
    replace H:=H.yx 5 rfl 0 rfl
    replace N:Fresh w.heap.size [(Va++ae2),nH,vQ,QW]:=(N.pick [4,0,1,2,3]).join
    refine sq 1 (xO (b_n (t_n (xJ (sp (yI x) (sw (zn x 1 rfl rfl qf (sq 1 (xO (qX (m' :=((((zu s t s.qA.length)[i]!).length) - ((x+1):Int)).toNat) qf ⟨_,_,_,_,_,_,_,x+1,uE7,?_,?_,rfl,(N.pick [1,2,3,0]),H.pick [2,3] [0,7,8,9]⟩))))))))))
    ·exact nextX_succ qf (by rw [show r=((xN s t s.qA.length)[i]!).length by omega];rfl)
    ·omega
   refine Qx (t_x (t_x (b_x (b_n (t_n (xJ (sp (yI k) (sw (zn k 1 rfl rfl qf (sq 1 (xO (qX (m' :=(vC - ((k+1):Int)).toNat) qf ⟨_,_,_,_,_,_,_,k+1,uE6,?_,?_,rfl,N,H.pick [0,1] (zR 2 4)⟩))))))))))))
   ·exact nextX_end qf qf
   ·omega
  refine zx4 (xJ (sq 2 (xO (b_n (t_n (xJ (sp (yI i) (sw (zn i 1 rfl rfl qf (sq 1 (xO (qX (m' :=(fV - ((i+1):Int)).toNat) qf ⟨_,_,_,_,_,_,_,i+1,uE4,?_,?_,rfl,(N.pick [0,1,3]),H.pick [0] [0,2,3]⟩))))))))))))
  ·rw [show k=(y7 s.qB.length (xN s t s.qA.length) (zu s t s.qA.length) i).length by omega];rfl
  ·omega
 refine zx4 (zcc (sp (yI 1) (zjn (qR ?_))))
 have on:0 < (y7 s.qB.length (xN s t s.qA.length) (zu s t s.qA.length) i).length:=by rw [Xo,show i=(zu s t s.qA.length).length by omega];exact prod_mono kn (Nat.zero_le _) (Nat.le_refl _)
 have on2:=G_le (n:=s.qB.length) (rs:=(xN s t s.qA.length)) (i:=i) kn kc qf
 refine zl (fun m' ρ I3=>∃ (xE:Env) (az:Nat) (du:yLL) (ea:List Value) (cv:yLN),ρ=upd (upd xE 9 (Sv jB vC jw)) 16 (yI az)/\((az:Int)<=vC)/\((y7 s.qB.length (xN s t s.qA.length) (zu s t s.qA.length) (zu s t s.qA.length).length).Perm du)/\(∀ a b,a < b->b < az->¬ ahead (du[b]!) (du[a]!))/\m' =(vC - (az:Int)).toNat/\Fresh w.heap.size [cv]/\St w I3 [rr jB vC jw 24 1 ea] [xy true cv ea du]) ((vC - (1:Int)).toNat) ⟨_,1,(y7 s.qB.length (xN s t s.qA.length) (zu s t s.qA.length) i),bC,QW,uE2,qf,(by rw [show i=(zu s t s.qA.length).length by omega]),(by exact fun a b h1 h2=>by omega),rfl,(N.pick [2]),H.pick [0] [0]⟩ ?_
 clear H N
 rintro m' ρ act ⟨xE,az,du,ea,cv,rfl,i0,o1,o2,rfl,N,H⟩
 have bR:=H.zg (α:=yLI) 0 rfl 0 rfl qj
 refine zcc (sq 2 (oN rfl (sq 1 (zjn (cD rfl (fun OO=>?_) (fun OO=>?_))))))
 ·refine qV (t_n (xQ (qR (zcr (sq 2 (zjn (qR (zl (fun m' ρ WJ=>∃ (xE:Env) (k:Int) (iG:yLL) (qq:List Value) (rR:yLN),ρ=upd (upd (upd xE 9 (Sv jB vC jw)) 16 (yI az)) 17 (yI k)/\((y7 s.qB.length (xN s t s.qA.length) (zu s t s.qA.length) (zu s t s.qA.length).length).Perm iG)/\(InsTo iG az k.toNat)/\(0<=k/\k<=az)/\m' =((k:Int)).toNat/\Fresh w.heap.size [rR]/\St w WJ [rr jB vC jw 24 1 qq] [xy true rR qq iG]) (((az:Int)).toNat) ⟨_,az,du,ea,cv,uE3,ql,(by exact InsTo.start o2),qf,rfl,N,H⟩ ?_))))))))
  clear H N
  rintro m' ρ ag0 ⟨xE,k,iG,qq,rR,rfl,o3,o4,o5,rfl,N,H⟩
  have bR:=H.zg (α:=yLI) 0 rfl 0 rfl qj
  refine xQ (xQ (jE rfl H fun H=>rtp 0 (yI k) H ?_))
  refine rtp 1 (Bv (decide ((k:Int) > 0))) H ?_
  refine rtp 2 (Bv (decide ((k:Int) > 0))) H ?_
  cases JK:(decide ((k:Int) > 0))
  ·replace JK:=of_decide_eq_false JK
   refine vG (zR 3 10) 10 (H) (rtp 13 (Bv false) H ?_)
   refine xw qh (t_n (cFr rfl (Qx (t_x (t_x (b_x (b_n (t_n (xJ (sq 1 (sw (zn az 1 rfl rfl qf (sq 1 (xO (qX (m' :=(vC - ((az+1):Int)).toNat) qf ⟨_,az+1,_,_,_,uE2,?_,?_,?_,rfl,N,H⟩)))))))))))))))
   ·omega
   ·assumption
   ·exact o4.stop (perm_rows o3) qf qf (by exact .inl qf)
  replace JK:=of_decide_eq_true JK
  refine rgl 3 110 H ?_
  refine rgp 4 (yI k) 110 H ?_
  obtain ⟨aaJ,rfl⟩:=H.jK 0 rfl qf
  refine gI 5 rfl rfl rfl H ?_
  obtain ⟨axn,atC,as9,ara,Ws,Fx,aou,H⟩:=H.rowElemX 0 rfl 0 rfl (iv:=k) k.toNat qf qf
  have S:=H.jm [0] [1]
  refine gL 6 rfl rfl (fun _ h=>h.Vk 0 rfl Fx) S ?_
  refine rgl 7 110 S ?_
  refine rgp 8 (yI k) 110 S ?_
  refine rg 9 _ 110 (y_sub k 1 rfl rfl qf) S ?_
  refine gI 10 rfl rfl rfl S ?_
  obtain ⟨awz,aug,avi,asG,avu,SU,am3,H⟩:=H.rowElemX 0 rfl 1 rfl (iv:=k - 1) ((k - 1).toNat) qf qf
  refine gL 11 rfl rfl (fun _ h=>h.Vk 0 rfl SU) (H.pick [0] [2]) (vK [12] qh qm (VN rfl (e:=110) rfl rfl ?_ vM))
  have g5:=perm_rows o3
  have g6:=g5 k.toNat qf
  have g7:=g5 (k - 1).toNat qf
  refine oq (l03Before_ok _ (iG[k.toNat]!) (iG[(k - 1).toNat]!) (H.get 1 rfl).1 (H.get 0 rfl).1 qg) H fun ar3 H=>⟨H.pick [0] [2],(rtl 13 (H.pick [0] [2]) ?_)⟩
  refine xw qh (t_n (cP rfl (fun Nq=>?_) (fun Nq=>?_)))
  ·refine qV (t_n (xQ (qR (zcr (sq 1 (sp (yI k) (oI rfl rfl ?_)))))))
   obtain ⟨ajs,ail,m8,ayn,avN,Wj,Tl,H⟩:=H.rowElemX 0 rfl 2 rfl (iv:=k) k.toNat qf qf
   refine oL rfl (H.Vk 0 rfl Wj) (sq 1 (zjc (sq 1 (sp (yI k) (sq 1 (sp (yI k) (sw (o_sub k 1 rfl rfl qf (oI rfl rfl ?_)))))))))
   obtain ⟨aeG,ah8,ay3,at9,ax0,Uz,W6,H⟩:=H.rowElemX 0 rfl 3 rfl (iv:=k - 1) ((k - 1).toNat) qf qf
   refine oL rfl (H.Vk 0 rfl Uz) (oI rfl rfl (sw (o_storeRow1 H 0 rfl (Sv aeG ((iG[(k - 1).toNat]!).length) ah8) sizeOf24 rfl rfl rfl qf fun auW H=>zjn (xJ (sq 1 (sp (yI k) (sw (o_sub k 1 rfl rfl qf (sq 1 (oI rfl rfl (sw (o_storeRow1 H 0 rfl (Sv ajs ((iG[k.toNat]!).length) ail) sizeOf24 rfl rfl rfl qf fun OS H=>?_))))))))))))
   obtain ⟨UH,Zb,H⟩:=H.swapR 4 rfl (k:=(k:Int).toNat) (i:=(k - 1:Int).toNat) qf qf qf W6 Tl
   replace N:Fresh w.heap.size [UH]:=Fresh.perm N Zb
   refine xO (b_n (t_n (xJ (sp (yI k) (sw (o_sub k 1 rfl rfl qf (sq 1 (xO (qX (m' :=(((k - 1):Int)).toNat) qf ⟨_,_,_,_,_,uE3,?_,?_,?_,rfl,N,H.pick [0] [0]⟩)))))))))
   ·exact perm_swap o3 qf qf
   ·rw [show (k - 1).toNat=k.toNat - 1 by omega];exact o4.down (perm_rows o3) qf qf qf (by rw [show k.toNat - 1=(k - 1).toNat by omega];assumption)
   ·omega
  refine Qx (t_x (t_x (b_x (b_n (t_n (xJ (sq 1 (sw (zn az 1 rfl rfl qf (sq 1 (xO (qX (m' :=(vC - ((az+1):Int)).toNat) qf ⟨_,az+1,_,_,_,uE2,?_,?_,?_,rfl,N,H.pick [0] [2]⟩))))))))))))
  ·omega
  ·assumption
  ·exact o4.stop (perm_rows o3) qf qf (by exact .inr (by rw [show k.toNat - 1=(k - 1).toNat by omega];assumption))
 refine zx4 (zcr (sq 2 (sp (yI 0) (zjr (ret2 (Sv jB vC jw) (yI 0) rfl rfl rfl ⟨_,rfl,?_,H.base⟩)))))
 rw [cho_0 gp kc o1 (in_order qf o2)]
 exact ⟨jB,vC,jw,ea,cv,rfl,N,H.pick [0] [0]⟩
theorem l03Step_ok (w:World) (s:qC) (t:qH) (counts:yLI) {aV:yOA} {aP:Nat} {di:yLN} (hs:vY w bs os (yS s qG qE qO qN)) (qP:zP w xk qG qE s.qA) (xm:zP w xW qO qN s.qB) (ht:vY w bt ot (yT t xg xf xI xG qZ qY)) (zi:zP w zD xg xf t.qK) (zI:zP w vF xI xG t.qQ) (xM:zP w zh qZ qY t.qL) (fq:zP w di aV aP counts) (p0:ve s) (p1:xZ s t) (p2:Vu s counts):Calls Tryz.prog 157 #[pp bs os,pp bt ot,Sv aV counts.length aP] w (Ret (fun v w' =>∃ (iu:yOA) (iB:Nat) (iH:Nat) (mR:yOA) (na:Nat) (mJ:Nat) (mw:List Value) (lQ:yLN) (fL:yOA) (fM:Nat) (fX:Nat),v=.tuple #[.agg #[Sv iu iB iH,Sv mR na mJ,Sv fL fM fX],yI ((vV s t counts).2)]/\Fresh w.heap.size [lQ]/\St w w' [rr iu iB iH 4 1 ((((vV s t counts).1).qK).map (Value.bool)),rr mR na mJ 24 1 mw,rr fL fM fX 2 1 ((((vV s t counts).1).qL).map (Value.int .i64))] [xy true lQ mw (((vV s t counts).1).qQ)]) w):=by
 refine en func157 ntmps157 ?_
 have H:=((((((((St.start w).arg fq).arg xM).arg zI).arg zi).Xr ht).arg xm).arg qP).Xr hs
 have vP:=qM xm
 have y9:=qM zI
 have jO:=qM xM
 clear hs qP xm ht zi zI xM fq
 have N:=Fresh.nil w.heap.size
 have p3:=p0.2.1
 have p6:=p2.1
 have p7:=p1.2.1
 have p8:=kinds_le p0
 have p9:=p0.1.2.1
 have p11:xX s=s.qA.length:=rfl
 have wi:=p1.1
 have p15:=p0.1
 have p16:=p0.1.1
 obtain ⟨q7,q8,q9,Tm⟩:=p1.sizes p0.1
 have q13:=fun k hk=>Nat.le_trans (Tm k hk) (by decide:8<=1000000)
 refine zcr (sw (xq H ti31 [yN,yN,yN] fun b1 w2 H=>sp (yI 0) (zjc (sq 3 ?_))))
 have sz6:=H.base.size
 refine sw (oc (l03Rest_ok _ s t counts (qF (H.get 0 rfl) 0 3) (H.get 1 rfl).1 (H.get 2 rfl).1 (qF (H.get 3 rfl) 0 3) (H.get 4 rfl).1 (H.get 5 rfl).1 (H.get 6 rfl).1 (H.get 7 rfl).1 qg qg qg) ?_)
 rintro _ w4 ⟨vR,ay0,nG,ajR,Sf,rfl,M,K⟩ _
 replace N:=N.merge sz6 qm M
 replace H:=H.merge K M
 obtain rfl:=H.zg (α:=yLI) 0 rfl 0 rfl qj
 refine sq 5 (zjcc (sq 2 (zjn (cQ rfl (fun h9=>?_) (fun h9=>?_)))))
 ·refine zcr (sw (vU [yN,yN,yN] [] (sw (xY H 1 [yN,yN,yN] sizeOf31 fun nq H=>sp (yI 4) (zjr (t_r ?_))))))
  replace H:=H.nilRowB 4
  replace H:=H.nilRow 24 1
  replace H:=H.jo (α:=yLI)
  replace H:=H.nilRowI 2
  refine retC2 H 4 rfl (yI 4) rfl isAgg31 sizeOf31 rfl rfl ⟨_,rfl,?_,H.base⟩
  rw [stepBy_no ‹_›]
  exact ⟨none,0,0,none,0,0,[],[],none,0,0,rfl,(N.emp.pick [0]),H.pick [2,1,0] [0]⟩
 have st:=stop_none (n:=counts.length) (P:=BadAt s t counts) (‹IsCh s t counts›).1
 have r1:=restR_len (s:=s) (t:=t) (counts:=counts) (XF (BadAt s t counts) counts.length)
 refine qV (t_n (zcr (sq 1 ?_)))
 have Nd:=H.base.size
 have ahQ:=H.ltN (L:=[Sf]) [0]
 refine sw (oc (l02Own_ok _ t (qF (H.get 4 rfl) 0 3) (H.get 5 rfl).1 (H.get 6 rfl).1 (H.get 7 rfl).1 qg qg qg qg) ?_)
 rintro _ uE ⟨XI,Rb,XH,wb,Wo,u0,vo,Qg,lm,Pt,ly,rfl,M,K⟩ _
 replace N:=N.merge Nd ahQ M
 replace H:=H.merge K M
 obtain rfl:=H.VM 0 rfl
 obtain rfl:=H.zg (α:=yLI) 1 rfl 0 rfl qj
 obtain rfl:=H.jC 2 rfl
 refine sw (xq H ti31 [yN,yN,yN] fun kJ rO H=>sw (xY H 0 (yT t XI XH wb u0 lm ly) sizeOf31 fun In H=>zjc (sq 1 (oF rfl (sw (xH H 0 [Sv XI t.qK.length XH,Sv vR ((Qb s t counts (XF (BadAt s t counts) counts.length)).length) nG,Sv lm t.qL.length ly] sizeOf29 fun Hu H=>zjcc (sp (yI 0) (zjn (qR (zl ((fun Z0 Z1 Z2 Z3 Z4 Z5 Z6 Z7 Z8 Z9 bx bG=>fun m' ρ wT=>∃ (xE:Env) (i:Nat) (QN:yOA) (QL:Nat) (QM:Nat) (bU:yLI) (ai:yLL) (gD:List Value) (fF:yLN),ρ=upd (upd (upd (upd (upd (upd xE 0 (pp bs os)) 1 (pp bt ot)) 2 (Sv aV counts.length aP)) 6 (pp b1 0)) 10 (pp kJ 0)) 11 (yI i)/\((i:Int)<=counts.length)/\(Ent (s.qA.length+1) (zt s) (fun p q=>base0 s t p q+Vl s counts s.qB.length p q+putS s t counts i p q) (20000000+6000000 * i) (ai++[bU]))/\(ai.length=s.qA.length)/\m' =(counts.length - (i:Int)).toNat/\Fresh w.heap.size [Qg,fF]/\St w wT [.box kJ [Sv XI t.qK.length XH,Sv vR ((Qb s t counts (XF (BadAt s t counts) counts.length)).length) nG,Sv QN QL QM] 31,Z0,Z1,rr QN QL QM 2 1 (bU.map (Value.int .i64)),rr vR ((Qb s t counts (XF (BadAt s t counts) counts.length)).length) nG 24 1 gD,Z2] [Z3,xy true fF gD ai,Z4,Z5,Z6,Z7,Z8,Z9,bx,bG]) _ _ _ _ _ _ _ _ _ _ _ _) ((counts.length - (0:Int)).toNat) ⟨_,0,lm,t.qL.length,ly,t.qL,Qb s t counts (XF (BadAt s t counts) counts.length),ajR,Sf,uE6,qf,(by rw [st,p6];exact (rest_ent p0 p1 p2).to (fun _ _=>rfl) qf),qf,rfl,N,H⟩ ?_))))))))))
 clear H N
 rintro m' ρ Bo ⟨xE,i,QN,QL,QM,bU,ai,gD,fF,rfl,i0,nE,af4,rfl,N,H⟩
 have HI:=H.jC 3 rfl
 have tU:=H.zg (α:=yLI) 4 rfl 1 rfl qj
 refine zcc (sp (yI i) (sq 1 (oN rfl (sq 1 (zjn (cD rfl (fun Cc=>?_) (fun Cc=>?_)))))))
 ·have q:=p0.rule (i:=i) qf
  have qc:=q.1
  have qk:=q.cell
  have SE:=q.2.2.2.2.1
  have KI:=q.2.2.2.2.2.2.2.1
  have DR:=q.2.2.2.2.2.2.2.2.1
  have ln1:=SE.len
  have ln2:=KI.len
  have ln3:=DR.len
  have p10:=p2.bd (i:=i) qf
  have qn:=q.2.2.2.1
  refine qV (t_n (xQ (qR (zcr (sq 2 (oF rfl (oL rfl (H.xP 2 rfl 2 rfl) (sp (yI i) ?_))))))))
  obtain ⟨Rz,o27,rfl⟩:=H.addr 4 rfl qf
  obtain ⟨Xw,QD,cj,QI,QF,cg,QH,QE,bV,rq,rL,vy,Vj,Vh,de,Q7,Q5,bZ,H⟩:=H.jZ 4 rfl i i qf qf qf
  refine oI rfl rfl (sq 1 (zjcc (sq 1 (sp (yI i) ?_))))
  obtain ⟨Lh,o31,rfl⟩:=H.addr 16 rfl qf
  refine oI rfl rfl (oL rfl (H.zA 16 rfl i qf) (sp (Bv ((counts[i]! :Int) == 0)) (zjn (cE rfl (fun tA=>?_) (fun tA=>?_)))))
  ·refine Qx (t_x (b_x (t_n (xJ (sp (yI i) (sw (zn i 1 rfl rfl qf (sq 1 (xO (qX (m' :=(counts.length - ((i+1):Int)).toNat) qf ⟨_,i+1,_,_,_,_,_,_,_,uE6,?_,?_,?_,rfl,N,H.pick (zR 0 6) (zR 7 10)⟩))))))))))
   ·omega
   ·exact nE.to (fun p q=>by simp only [putS_skip (s:=s) (t:=t) (counts:=counts) (i:=i) ‹_›]) qf
   ·omega
  refine qV (t_n (xQ (yK rfl H [0,1,2,3,5] fun H=>?_)))
  have S:=H.jm [0,1,2,3,5] (zR 0 17)
  refine tF 0 rfl rfl S ?_
  refine tL 1 rfl rfl (fun _ h=>h.cell 0 rfl rfl) S ?_
  refine rtl 2 S ?_
  refine rtl 3 S ?_
  refine tF 4 rfl rfl S ?_
  refine tL 5 rfl rfl (fun _ h=>h.xP 6 rfl 0 rfl) S ?_
  refine tF 6 rfl rfl S ?_
  refine tL 7 rfl rfl (fun _ h=>h.cell 0 rfl rfl) S ?_
  refine rtl 8 S ?_
  refine rtl 9 S ?_
  refine tF 10 rfl rfl S ?_
  refine tL 11 rfl rfl (fun _ h=>h.xP 6 rfl 0 rfl) S ?_
  obtain ⟨Hr,rfl⟩:=H.jK 4 rfl qf
  have S:=H.jm [0,1,2,3,5] (zR 0 17)
  refine tI 12 rfl rfl rfl S ?_
  refine rtl 14 S ?_
  refine rtl 15 S ?_
  refine tF 16 rfl rfl S ?_
  refine tL 17 rfl rfl (fun _ h=>h.xP 6 rfl 5 rfl) S ?_
  refine rtl 18 S ?_
  refine rtp 19 (yI i) S ?_
  refine tI 20 rfl rfl rfl S ?_
  refine tL 21 rfl rfl (fun _ h=>h.zA 16 rfl i qf) S ?_
  refine ro 13 rfl ?_
  obtain ⟨Te,c37,C6,s39,tk,H⟩:=H.yg 4 rfl 8 rfl (iv:=(s.qB[i]!).qI) (((s.qB[i]!).qI).toNat) qf qf
  refine x9 (Sv Te ((ai[((s.qB[i]!).qI).toNat]!).length) c37) isAgg24 rfl (tk) (⟨H.pick [0,1,2,3,5] (zR 1 17),(ro 22 rfl ?_)⟩)
  obtain ⟨u1,u2⟩:=Ent.rowL nE (c:=((s.qB[i]!).qI).toNat) qf qf qf qf
  have u4:=(by exact KI.yQ qf:SmallT ((s.qB[i]!).zS) (counts[i]!))
  refine oc (XB _ (ai[((s.qB[i]!).qI).toNat]!) ((s.qB[i]!).zS) (counts[i]!) (H.get 0 rfl).1 (H.get 4 rfl).1 qg qg qg) ?_
  rintro v46 Dy r46 x45
  replace H:=H.zH x45 r46
  obtain ⟨a47,c48,rfl,aut,avn⟩:=H.jL 0 rfl
  refine ⟨H.pick [1,2,3,4,6] (zR 1 17),(tI 23 rfl rfl rfl (H.pick [1,2,3,4,6] (zR 1 17)) ?_)⟩
  refine ro 24 rfl ?_
  obtain ⟨G52,N,amo,H⟩:=H.zN 0 rfl N (H.jA [8,9])
  refine yh true H 5 rfl 10 rfl (Sv a47 ((jT (ai[((s.qB[i]!).qI).toNat]!) ((s.qB[i]!).zS) (counts[i]!)).length) c48) 0 rfl rfl sizeOf24 rfl rfl (i:=(((s.qB[i]!).qI).toNat)) qf qf qm fun w51 agw F55 agv H=>?_
  replace N:Fresh w.heap.size [F55,Qg]:=(N.pick [2,0,1]).repl agv
  refine ⟨H.pick [1,2,3,4,6] (zR 3 17),(xw qh (t_n (zcc (sq 2 (oF rfl (oL rfl (H.xP 9 rfl 0 rfl) (sp (Bv (((s.qB[i]!).qI:Int) == 0)) (zjn (cE rfl (fun De=>?_) (fun De=>?_))))))))))⟩
  ·obtain ⟨Ue,yn⟩:∃ z,z=(ai.set (((s.qB[i]!).qI).toNat) (jT (ai[((s.qB[i]!).qI).toNat]!) ((s.qB[i]!).zS) (counts[i]!))):=⟨_,rfl⟩
   rw [← yn] at H
   have uw:=Ent.addL (D:=1000000) nE yn qf qf (by exact KI.mul qf) qf
   have afV:Ue.length=s.qA.length:=by rw [yn,List.length_set];omega
   refine yK rfl H (0::zR 2 5) fun H=>?_
   have S:=H.jm (0::zR 2 5) (zR 0 20)
   refine tF 0 rfl rfl S ?_
   refine rtl 2 S ?_
   refine rtl 3 S ?_
   refine tF 4 rfl rfl S ?_
   refine tL 5 rfl rfl (fun _ h=>h.xP 9 rfl 6 rfl) S ?_
   refine rtl 6 S ?_
   refine rtp 7 (yI i) S ?_
   refine tI 8 rfl rfl rfl S ?_
   refine tL 9 rfl rfl (fun _ h=>h.zA 19 rfl i qf) S ?_
   refine ro 1 rfl (x9 (Sv QN QL QM) isAgg24 rfl (H.cell 1 rfl rfl) (⟨H.pick (0::zR 2 5) (zR 0 20),(ro 10 rfl ?_)⟩))
   obtain ⟨G60,M5,wD⟩:=H.yH 4 rfl
   obtain ⟨u1,u2⟩:=Ent.rowN uw qf qf qf
   have u4:=(by exact DR.yQ qf:SmallT ((s.qB[i]!).jX) (counts[i]!))
   refine oc (VG (by rw [← M5]) (XB _ bU ((s.qB[i]!).jX) (counts[i]!) (M5▸wD) (H.get 7 rfl).1 qg qg qg)) ?_
   rintro v68 E1 r68 x67
   replace H:=H.zH x67 r68
   obtain ⟨a69,c70,rfl,ayi,aua⟩:=H.jL 0 rfl
   refine ⟨H.pick (1::zR 3 5) (zR 0 20),(tF 11 rfl rfl (H.pick (1::zR 3 5) (zR 0 20)) ?_)⟩
   refine ro 12 rfl (xH H 2 [Sv XI t.qK.length XH,Sv (aa Hr 0) ((Qb s t counts (XF (BadAt s t counts) counts.length)).length) nG,Sv a69 ((jT bU ((s.qB[i]!).jX) (counts[i]!)).length) c70] sizeOf24 fun w73 H=>⟨H.pick (1::zR 3 5) (zR 0 20),(xw qh (t_n (zcr (sp (yI 0) (zjn (qR ?_))))))⟩)
   replace uw:=Ent.addN (D:=1000000) (a' :=jT bU ((s.qB[i]!).jX) (counts[i]!)) uw rfl qf (by exact DR.mul qf) qf
   have eR:=uw
   refine zl ((fun Z0 Z1 Z2 Z3 Z4 Z5 Z6 Z7 Z8 Z9 bx bG dy fj ix oS BX FT Ic O3 Ph TS=>fun m' ρ w74=>∃ (xE:Env) (k:Nat) (au:yLL) (jg:List Value) (zG:yLN),ρ=upd (upd (upd (upd (upd (upd (upd (upd xE 0 (pp bs os)) 1 (pp bt ot)) 2 (Sv (aa Lh o31) counts.length aP)) 6 (pp b1 0)) 10 (pp kJ 0)) 11 (yI i)) 12 (pp Rz (o27+(i:Int).toNat * 9))) 14 (yI k)/\((k:Int)<=(((s.qB[i]!).xe).length))/\(Ent (s.qA.length+1) (zt s) (fun p q=>base0 s t p q+Vl s counts s.qB.length p q+putS s t counts i p q+at' p (s.qB[i]!).qI.toNat (counts[i]! * ((s.qB[i]!).zS)[q]!)+at' p (outPl s t (s.qB[i]!)) (counts[i]! * ((s.qB[i]!).jX)[q]!)+Xq (s.qB[i]!) (counts[i]!) k p q) (22000000+6000000 * i+1000000 * k) (au++[jT bU ((s.qB[i]!).jX) (counts[i]!)]))/\(au.length=s.qA.length)/\m' =((((s.qB[i]!).xe).length) - (k:Int)).toNat/\Fresh w.heap.size [Qg,zG]/\St w w74 [Z0,Z1,Z2,Z3,Z4,rr (aa Hr 0) ((Qb s t counts (XF (BadAt s t counts) counts.length)).length) nG 24 1 jg,Z5] [xy true zG jg au,Z6,Z7,Z8,Z9,bx,bG,dy,fj,ix,oS,BX,FT,Ic,O3,Ph,TS]) _ _ _ _ _ _ _ _ _ _ _ _ _ _ _ _ _ _ _ _ _ _) (((((s.qB[i]!).xe).length) - (0:Int)).toNat) ⟨_,0,Ue,agw,F55,uE8,qf,(by exact eR.to (fun p q=>by (simp only [Xq,outPl_root (s:=s) (t:=t) (r:=s.qB[i]!) ‹_›,xX];omega)) qf),qf,rfl,(N.pick [1,0]),H.pick (0::zR 2 6) (0::3::4::5::6::7::8::9::10::zR 12 8)⟩ ?_
   clear H N
   rintro m' ρ V5 ⟨xE,k,au,jg,zG,rfl,i0,cU,yk,rfl,N,H⟩
   refine zcc (sp (yI k) (sq 2 (oF rfl (oL rfl (H.xP 7 rfl 7 rfl) (oN rfl (sq 1 (zjn (cD rfl (fun h76=>?_) (fun h76=>?_)))))))))
   ·have qi:=q.2.2.2.2.2.2.2.2.2.2 k qf
    have qi1:=qi.1
    have wG:=qi.2.2.1
    have ln4:=wG.len
    refine qV (t_n (xQ (qR (zcr (sq 2 (oF rfl (oL rfl (H.xP 7 rfl 7 rfl) (sp (yI k) ?_))))))))
    obtain ⟨ws,o78,rfl⟩:=H.addr 6 rfl qf
    obtain ⟨ad7,adv,aeg,H⟩:=H.yJ 6 rfl k k qf qf qf
    refine oI rfl rfl (oF rfl (oL rfl (H.xP 1 rfl 0 rfl) (sq 1 (zjn (yK rfl H [0,1,2,3,4,6] fun H=>?_)))))
    have S:=H.jm [0,1,2,3,4,6] (zR 0 19)
    refine tF 0 rfl rfl S ?_
    refine tL 1 rfl rfl (fun _ h=>h.cell 1 rfl rfl) S ?_
    refine rtl 2 S ?_
    refine tF 3 rfl rfl S ?_
    refine tL 4 rfl rfl (fun _ h=>h.cell 1 rfl rfl) S ?_
    refine rtl 5 S ?_
    refine tI 6 rfl rfl rfl S ?_
    refine rtl 8 S ?_
    refine rtl 9 S ?_
    refine tF 10 rfl rfl S ?_
    refine tL 11 rfl rfl (fun _ h=>h.xP 9 rfl 7 rfl) S ?_
    refine rtp 12 (yI k) S ?_
    refine tI 13 rfl rfl rfl S ?_
    refine tF 14 rfl rfl S ?_
    refine tL 15 rfl rfl (fun _ h=>h.xP 1 rfl 1 rfl) S ?_
    refine rtl 16 S ?_
    refine rtp 17 (yI i) S ?_
    refine tI 18 rfl rfl rfl S ?_
    refine tL 19 rfl rfl (fun _ h=>h.zA 18 rfl i qf) S ?_
    refine ro 7 rfl ?_
    obtain ⟨PU,RM,G84,s85,lB,H⟩:=H.yg 5 rfl 2 rfl (iv:=(((s.qB[i]!).xe)[k]!).qI) (((((s.qB[i]!).xe)[k]!).qI).toNat) qf qf
    refine x9 (Sv PU ((au[((((s.qB[i]!).xe)[k]!).qI).toNat]!).length) RM) isAgg24 rfl (lB) (⟨H.pick [0,1,2,3,4,6] (zR 1 19),(ro 20 rfl ?_)⟩)
    obtain ⟨u1,u2⟩:=Ent.rowL cU (c:=((((s.qB[i]!).xe)[k]!).qI).toNat) qf qf qf qf
    have u4:=(by exact wG.yQ qf:SmallT ((((s.qB[i]!).xe)[k]!).Qa) (counts[i]!))
    refine oc (XB _ (au[((((s.qB[i]!).xe)[k]!).qI).toNat]!) ((((s.qB[i]!).xe)[k]!).Qa) (counts[i]!) (H.get 0 rfl).1 (H.get 1 rfl).1 qg qg qg) ?_
    rintro v92 I4 r92 x91
    replace H:=H.zH x91 r92
    obtain ⟨a93,c94,rfl,azB,auc⟩:=H.jL 0 rfl
    refine ⟨H.pick [1,2,3,4,5,7] (zR 1 19),(tI 21 rfl rfl rfl (H.pick [1,2,3,4,5,7] (zR 1 19)) ?_)⟩
    refine ro 22 rfl ?_
    obtain ⟨J1,N,afk,H⟩:=H.zN 0 rfl N (H.jA [11,3])
    refine yh true H 6 rfl 4 rfl (Sv a93 ((jT (au[((((s.qB[i]!).xe)[k]!).qI).toNat]!) ((((s.qB[i]!).xe)[k]!).Qa) (counts[i]!)).length) c94) 0 rfl rfl sizeOf24 rfl rfl (i:=(((((s.qB[i]!).xe)[k]!).qI).toNat)) qf qf qm fun N9 aoR afU V8 H=>?_
    replace N:Fresh w.heap.size [afU,Qg]:=(N.pick [2,0,1]).repl V8
    refine ⟨H.pick [1,2,3,4,5,7] (zR 3 19),(xw qh (b_n (t_n (xJ (sp (yI k) (sw (zn k 1 rfl rfl qf (sq 1 (xO ?_)))))))))⟩
    obtain ⟨aan,tP⟩:∃ z,z=(au.set (((((s.qB[i]!).xe)[k]!).qI).toNat) (jT (au[((((s.qB[i]!).xe)[k]!).qI).toNat]!) ((((s.qB[i]!).xe)[k]!).Qa) (counts[i]!))):=⟨_,rfl⟩
    rw [← tP] at H
    have Jm:=Ent.addL (D:=1000000) cU tP qf qf (by exact wG.mul qf) qf
    have adO:aan.length=s.qA.length:=by rw [tP,List.length_set];omega
    have eR:=Jm
    refine qX (m' :=((((s.qB[i]!).xe).length) - ((k+1):Int)).toNat) qf ⟨_,k+1,_,_,_,uE8,?_,?_,?_,rfl,(N.pick [1,0]),H.pick (zR 1 7) (0::zR 6 16)⟩
    ·omega
    ·exact eR.to (fun p q=>by simp only [Xq];omega) qf
    ·omega
   refine Qx (t_x (t_x (b_x (b_n (t_n (xJ (sp (yI i) (sw (zn i 1 rfl rfl qf (sq 1 (xO (qX (m' :=(counts.length - ((i+1):Int)).toNat) qf ⟨_,i+1,_,_,_,_,_,_,_,uE6,?_,?_,?_,rfl,N,H.pick [1,2,3,0,5,6] (8::0::zR 9 8)⟩))))))))))))
   ·omega
   ·exact cU.to (fun p q=>by rw [show k=((s.qB[i]!).xe).length by omega];simp only [putS,putF];omega) qf
   ·omega
  obtain ⟨sX,uq⟩:∃ z,z=(ai.set (((s.qB[i]!).qI).toNat) (jT (ai[((s.qB[i]!).qI).toNat]!) ((s.qB[i]!).zS) (counts[i]!))):=⟨_,rfl⟩
  rw [← uq] at H
  have AM:=Ent.addL (D:=1000000) nE uq qf qf (by exact KI.mul qf) qf
  have aei:sX.length=s.qA.length:=by rw [uq,List.length_set];omega
  refine zcr (sq 4 (oF rfl (oL rfl (H.xP 9 rfl 0 rfl) (sw (oq (l02Parent_ok _ s t ((s.qB[i]!).qI) (qF (H.get 12 rfl) 0 3) (H.get 13 rfl).1 (H.get 14 rfl).1 (qF (H.get 15 rfl) 0 3) (H.get 16 rfl).1 (H.get 17 rfl).1 (H.get 18 rfl).1 ql ql ql) H fun I6 H=>?_)))))
  have pin:=QK (s:=s) (t:=t) (c:=((s.qB[i]!).qI)) p0.1 p1.2.2.1 qf qf
  refine sq 1 (zjn (yK rfl H [0,1,2,3,4,6] fun H=>?_))
  have S:=H.jm [0,1,2,3,4,6] (zR 0 20)
  refine tF 0 rfl rfl S ?_
  refine tL 1 rfl rfl (fun _ h=>h.cell 1 rfl rfl) S ?_
  refine rtl 2 S ?_
  refine tF 3 rfl rfl S ?_
  refine tL 4 rfl rfl (fun _ h=>h.cell 1 rfl rfl) S ?_
  refine rtl 5 S ?_
  refine tI 6 rfl rfl rfl S ?_
  refine rtl 8 S ?_
  refine rtl 9 S ?_
  refine tF 10 rfl rfl S ?_
  refine tL 11 rfl rfl (fun _ h=>h.xP 9 rfl 6 rfl) S ?_
  refine rtl 12 S ?_
  refine rtp 13 (yI i) S ?_
  refine tI 14 rfl rfl rfl S ?_
  refine tL 15 rfl rfl (fun _ h=>h.zA 19 rfl i qf) S ?_
  refine ro 7 rfl ?_
  obtain ⟨Y4,V1,aiH,alf,O5,H⟩:=H.yg 5 rfl 0 rfl (iv:=xF s t ((s.qB[i]!).qI)) ((xF s t ((s.qB[i]!).qI)).toNat) qf qf
  refine x9 (Sv Y4 ((sX[(xF s t ((s.qB[i]!).qI)).toNat]!).length) V1) isAgg24 rfl (O5) (⟨H.pick [0,1,2,3,4,6] (zR 1 20),(ro 16 rfl ?_)⟩)
  obtain ⟨u1,u2⟩:=Ent.rowL AM (c:=(xF s t ((s.qB[i]!).qI)).toNat) qf qf qf qf
  have u4:=(by exact DR.yQ qf:SmallT ((s.qB[i]!).jX) (counts[i]!))
  refine oc (XB _ (sX[(xF s t ((s.qB[i]!).qI)).toNat]!) ((s.qB[i]!).jX) (counts[i]!) (H.get 0 rfl).1 (H.get 8 rfl).1 qg qg qg) ?_
  rintro azj tJ akL ahM
  replace H:=H.zH ahM akL
  obtain ⟨J0,Kf,rfl,aq5,aqo⟩:=H.jL 0 rfl
  refine ⟨H.pick [1,2,3,4,5,7] (zR 1 20),(tI 17 rfl rfl rfl (H.pick [1,2,3,4,5,7] (zR 1 20)) ?_)⟩
  refine ro 18 rfl ?_
  obtain ⟨nH,N,KS,H⟩:=H.zN 0 rfl N (H.jA [1,11])
  refine yh true H 6 rfl 2 rfl (Sv J0 ((jT (sX[(xF s t ((s.qB[i]!).qI)).toNat]!) ((s.qB[i]!).jX) (counts[i]!)).length) Kf) 0 rfl rfl sizeOf24 rfl rfl (i:=((xF s t ((s.qB[i]!).qI)).toNat)) qf qf qm fun Oa ac8 ZJ YM H=>?_
  replace N:Fresh w.heap.size [ZJ,Qg]:=(N.pick [1,0,2]).repl YM
  refine ⟨H.pick [1,2,3,4,5,7] (zR 3 20),(xw qh (t_n (zcr (sp (yI 0) (zjn (qR ?_))))))⟩
  obtain ⟨Kj,tV⟩:∃ z,z=(sX.set ((xF s t ((s.qB[i]!).qI)).toNat) (jT (sX[(xF s t ((s.qB[i]!).qI)).toNat]!) ((s.qB[i]!).jX) (counts[i]!))):=⟨_,rfl⟩
  rw [← tV] at H
  have Jr:=Ent.addL (D:=1000000) AM tV qf qf (by exact DR.mul qf) qf
  have ady:Kj.length=s.qA.length:=by rw [tV,List.length_set];omega
  have eR:=Jr
  refine zl ((fun Z0 Z1 Z2 Z3 Z4 Z5 Z6 Z7 Z8 Z9 bx bG dy fj ix oS BX FT Ic O3 Ph=>fun m' ρ H8=>∃ (xE:Env) (k:Nat) (au:yLL) (jg:List Value) (zG:yLN),ρ=upd (upd (upd (upd (upd (upd (upd (upd xE 0 (pp bs os)) 1 (pp bt ot)) 2 (Sv (aa Lh o31) counts.length aP)) 6 (pp b1 0)) 10 (pp kJ 0)) 11 (yI i)) 12 (pp Rz (o27+(i:Int).toNat * 9))) 14 (yI k)/\((k:Int)<=(((s.qB[i]!).xe).length))/\(Ent (s.qA.length+1) (zt s) (fun p q=>base0 s t p q+Vl s counts s.qB.length p q+putS s t counts i p q+at' p (s.qB[i]!).qI.toNat (counts[i]! * ((s.qB[i]!).zS)[q]!)+at' p (outPl s t (s.qB[i]!)) (counts[i]! * ((s.qB[i]!).jX)[q]!)+Xq (s.qB[i]!) (counts[i]!) k p q) (22000000+6000000 * i+1000000 * k) (au++[bU]))/\(au.length=s.qA.length)/\m' =((((s.qB[i]!).xe).length) - (k:Int)).toNat/\Fresh w.heap.size [Qg,zG]/\St w H8 [Z0,Z1,Z2,Z3,rr (aa Hr 0) ((Qb s t counts (XF (BadAt s t counts) counts.length)).length) nG 24 1 jg,Z4] [xy true zG jg au,Z5,Z6,Z7,Z8,Z9,bx,bG,dy,fj,ix,oS,BX,FT,Ic,O3,Ph]) _ _ _ _ _ _ _ _ _ _ _ _ _ _ _ _ _ _ _ _ _) (((((s.qB[i]!).xe).length) - (0:Int)).toNat) ⟨_,0,Kj,ac8,ZJ,uE8,qf,(by exact eR.to (fun p q=>by (simp only [Xq,outPl_up (s:=s) (t:=t) (r:=s.qB[i]!) ‹_›];omega)) qf),qf,rfl,(N.pick [1,0]),H.pick (zR 2 6) (0::6::7::8::9::10::11::12::13::zR 15 8)⟩ ?_
  clear H N
  rintro m' ρ afM ⟨xE,k,au,jg,zG,rfl,i0,cU,yk,rfl,N,H⟩
  refine zcc (sp (yI k) (sq 2 (oF rfl (oL rfl (H.xP 7 rfl 7 rfl) (oN rfl (sq 1 (zjn (cD rfl (fun aho=>?_) (fun aho=>?_)))))))))
  ·have qi:=q.2.2.2.2.2.2.2.2.2.2 k qf
   have qi1:=qi.1
   have wG:=qi.2.2.1
   have ln4:=wG.len
   refine qV (t_n (xQ (qR (zcr (sq 2 (oF rfl (oL rfl (H.xP 7 rfl 7 rfl) (sp (yI k) ?_))))))))
   obtain ⟨lq,ax7,rfl⟩:=H.addr 6 rfl qf
   obtain ⟨abT,TT,aaK,H⟩:=H.yJ 6 rfl k k qf qf qf
   refine oI rfl rfl (oF rfl (oL rfl (H.xP 1 rfl 0 rfl) (sq 1 (zjn (yK rfl H [0,1,2,3,5] fun H=>?_)))))
   have S:=H.jm [0,1,2,3,5] (zR 0 19)
   refine tF 0 rfl rfl S ?_
   refine tL 1 rfl rfl (fun _ h=>h.cell 0 rfl rfl) S ?_
   refine rtl 2 S ?_
   refine tF 3 rfl rfl S ?_
   refine tL 4 rfl rfl (fun _ h=>h.cell 0 rfl rfl) S ?_
   refine rtl 5 S ?_
   refine tI 6 rfl rfl rfl S ?_
   refine rtl 8 S ?_
   refine rtl 9 S ?_
   refine tF 10 rfl rfl S ?_
   refine tL 11 rfl rfl (fun _ h=>h.xP 9 rfl 7 rfl) S ?_
   refine rtp 12 (yI k) S ?_
   refine tI 13 rfl rfl rfl S ?_
   refine tF 14 rfl rfl S ?_
   refine tL 15 rfl rfl (fun _ h=>h.xP 1 rfl 1 rfl) S ?_
   refine rtl 16 S ?_
   refine rtp 17 (yI i) S ?_
   refine tI 18 rfl rfl rfl S ?_
   refine tL 19 rfl rfl (fun _ h=>h.zA 18 rfl i qf) S ?_
   refine ro 7 rfl ?_
   obtain ⟨D5,FY,avG,ayD,alP,H⟩:=H.yg 4 rfl 2 rfl (iv:=(((s.qB[i]!).xe)[k]!).qI) (((((s.qB[i]!).xe)[k]!).qI).toNat) qf qf
   refine x9 (Sv D5 ((au[((((s.qB[i]!).xe)[k]!).qI).toNat]!).length) FY) isAgg24 rfl (alP) (⟨H.pick [0,1,2,3,5] (zR 1 19),(ro 20 rfl ?_)⟩)
   obtain ⟨u1,u2⟩:=Ent.rowL cU (c:=((((s.qB[i]!).xe)[k]!).qI).toNat) qf qf qf qf
   have u4:=(by exact wG.yQ qf:SmallT ((((s.qB[i]!).xe)[k]!).Qa) (counts[i]!))
   refine oc (XB _ (au[((((s.qB[i]!).xe)[k]!).qI).toNat]!) ((((s.qB[i]!).xe)[k]!).Qa) (counts[i]!) (H.get 0 rfl).1 (H.get 1 rfl).1 qg qg qg) ?_
   rintro azg Ja aif aeY
   replace H:=H.zH aeY aif
   obtain ⟨ait,ahW,rfl,apr,apj⟩:=H.jL 0 rfl
   refine ⟨H.pick [1,2,3,4,6] (zR 1 19),(tI 21 rfl rfl rfl (H.pick [1,2,3,4,6] (zR 1 19)) ?_)⟩
   refine ro 22 rfl ?_
   obtain ⟨axK,N,an7,H⟩:=H.zN 0 rfl N (H.jA [11,3])
   refine yh true H 5 rfl 4 rfl (Sv ait ((jT (au[((((s.qB[i]!).xe)[k]!).qI).toNat]!) ((((s.qB[i]!).xe)[k]!).Qa) (counts[i]!)).length) ahW) 0 rfl rfl sizeOf24 rfl rfl (i:=(((((s.qB[i]!).xe)[k]!).qI).toNat)) qf qf qm fun M7 ani akA abC H=>?_
   replace N:Fresh w.heap.size [akA,Qg]:=(N.pick [2,0,1]).repl abC
   refine ⟨H.pick [1,2,3,4,6] (zR 3 19),(xw qh (b_n (t_n (xJ (sp (yI k) (sw (zn k 1 rfl rfl qf (sq 1 (xO ?_)))))))))⟩
   obtain ⟨T7,ui⟩:∃ z,z=(au.set (((((s.qB[i]!).xe)[k]!).qI).toNat) (jT (au[((((s.qB[i]!).xe)[k]!).qI).toNat]!) ((((s.qB[i]!).xe)[k]!).Qa) (counts[i]!))):=⟨_,rfl⟩
   rw [← ui] at H
   have Id:=Ent.addL (D:=1000000) cU ui qf qf (by exact wG.mul qf) qf
   have adr:T7.length=s.qA.length:=by rw [ui,List.length_set];omega
   have eR:=Id
   refine qX (m' :=((((s.qB[i]!).xe).length) - ((k+1):Int)).toNat) qf ⟨_,k+1,_,_,_,uE8,?_,?_,?_,rfl,(N.pick [1,0]),H.pick (zR 1 6) (0::zR 6 16)⟩
   ·omega
   ·exact eR.to (fun p q=>by simp only [Xq];omega) qf
   ·omega
  refine Qx (t_x (t_x (b_x (b_n (t_n (xJ (sp (yI i) (sw (zn i 1 rfl rfl qf (sq 1 (xO (qX (m' :=(counts.length - ((i+1):Int)).toNat) qf ⟨_,i+1,_,_,_,_,_,_,_,uE6,?_,?_,?_,rfl,N,H.pick (zR 0 6) (8::0::zR 9 8)⟩))))))))))))
  ·omega
  ·exact cU.to (fun p q=>by rw [show k=((s.qB[i]!).xe).length by omega];simp only [putS,putF];omega) qf
  ·omega
 refine zx4 (zcc (sq 2 (oF rfl (oL rfl (H.xP 2 rfl 1 rfl) (oN rfl (sw (o_sub s.qA.length 1 rfl rfl qf (sq 1 (zjn (qR ?_))))))))))
 obtain rfl:i=s.qB.length:=by omega
 have hl:=stepped_live (counts:=counts) p1 (nE.to (g:=fun p k=>base0 s t p k+allS s t counts s.qB.length p k) (fun p k=>by rw [allS_eq];omega) (Int.le_refl _)) qf
 obtain ⟨s1,s2⟩:=step_tab2 qf nE
 subst s1 s2
 refine zl ((fun Z0 Z1 Z2 Z3 Z4 Z5 Z6 Z7 Z8=>fun m' ρ Ip=>∃ (xE:Env) (c:Int) (dB:List Bool) (au:yLL) (jg:List Value) (zG:yLN) (j:Nat),ρ=upd (upd (upd (upd (upd xE 0 (pp bs os)) 2 (Sv aV counts.length aP)) 6 (pp b1 0)) 10 (pp kJ 0)) 16 (yI c)/\dB=(xC s counts (xA s t counts) j).qK/\au=(xC s counts (xA s t counts) j).qQ/\(c=(s.qA.length:Int) - 1 - j)/\(j+1<=s.qA.length)/\m' =(c:Int).toNat/\Fresh w.heap.size [Qg,zG]/\St w Ip [Z0,rr XI t.qK.length XH 4 1 (dB.map (Value.bool)),Z1,Z2,rr vR ((Qb s t counts (XF (BadAt s t counts) counts.length)).length) nG 24 1 jg,Z3] [Z4,xy true zG jg au,Z5,Z6,Z7,Z8]) _ _ _ _ _ _ _ _ _) (((s.qA.length - 1):Int).toNat) ⟨_,s.qA.length - 1,t.qK,(xA s t counts).qQ,gD,fF,0,uE5,(by rfl),(by rfl),qf,qf,rfl,N,H.pick (zR 0 6) [0,1,2,3,4,9]⟩ ?_
 clear H N
 rintro m' ρ OC ⟨xE,c,dB,au,jg,zG,j,rfl,rfl,rfl,ic,jc,rfl,N,H⟩
 have t7:=H.VM 1 rfl
 have VE:=H.zg (α:=yLI) 4 rfl 1 rfl qj
 have L:=meltDown_live (counts:=counts) p0 hl j qf
 have L1:=L.alive
 have L2:=L.root
 rw [← Qk s counts (xA s t counts) j] at H
 refine zcc (sp (yI c) (sp (Bv (decide ((c:Int) > 0))) (zjn (cD rfl (fun PJ=>?_) (fun PJ=>?_)))))
 ·have cin:QU s c:=⟨by omega,by omega⟩
  refine qV (t_n (xQ (qR (zcr (sp (Bv false) (zjcc (sp (yI 0) (zjn (qR (zl ((fun Z0 Z1 Z2 Z3 Z4 Z5 Z6 Z7 Z8 Z9 bx bG=>fun m' ρ Gt=>∃ (xE:Env) (melts:Bool) (az:Nat),ρ=upd (upd (upd (upd (upd (upd (upd xE 0 (pp bs os)) 2 (Sv aV counts.length aP)) 6 (pp b1 0)) 10 (pp kJ 0)) 16 (yI c)) 17 (Bv melts)) 18 (yI az)/\melts=dec (Q9 s counts c az)/\((az:Int)<=counts.length)/\m' =(counts.length - (az:Int)).toNat/\Fresh w.heap.size [Qg,zG]/\St w Gt [Z0,Z1,Z2,Z3,Z4,Z5] [Z6,Z7,Z8,Z9,bx,bG]) _ _ _ _ _ _ _ _ _ _ _ _) ((counts.length - (0:Int)).toNat) ⟨_,false,0,uE7,(by exact (xh (melts_zero _ _ _)).symm),qf,rfl,N,H⟩ ?_))))))))))
  clear H N
  rintro m' ρ SK ⟨xE,melts,az,rfl,rfl,i0,rfl,N,H⟩
  refine zcc (sq 2 (oN rfl (sq 1 (zjn (cD rfl (fun N5=>?_) (fun N5=>?_))))))
  ·refine qV (t_n (xQ (qR (xJ (sp (Bv (dec (Q9 s counts c az))) (sp (Bv (dec (Q9 s counts c az))) ?_))))))
   cases h166:((dec (Q9 s counts c az)))
   ·refine qJ 172 rfl rfl (sq 1 (qJ 172 rfl rfl (sq 1 (qJ 172 rfl rfl ?_))))
    obtain ⟨wX,awB,rfl⟩:=H.addr 5 rfl qf
    refine oI rfl rfl (qJ 172 rfl rfl (oL rfl (H.zA 5 rfl az qf) (qJ 172 rfl rfl (sp (Bv (decide ((counts[az]! :Int) > 0))) (qJ 172 rfl rfl (sp (Bv (decide ((counts[az]! :Int) > 0))) ?_))))))
    cases tE:(decide ((counts[az]! :Int) > 0))
    ·replace tE:=of_decide_eq_false tE
     refine xR (zR 179 8) (qJ 172 rfl rfl (sp (Bv false) (qJ 172 rfl rfl (sp (Bv false) (xR (zR 189 10) (qJ 172 rfl rfl (sp (Bv false) (sp (Bv false) (sp (Bv false) (xO (b_n (t_n (xJ (sq 1 (sw (zn az 1 rfl rfl qf (sq 1 (xO (qX (m' :=(counts.length - ((az+1):Int)).toNat) qf ⟨_,_,az+1,uE7,?_,?_,rfl,N,H⟩)))))))))))))))))))
     ·exact melts_2 ‹_› qf
     ·omega
    replace tE:=of_decide_eq_true tE
    refine qJ 178 rfl rfl (sq 1 (qJ 178 rfl rfl (sq 1 (qJ 178 rfl rfl (oF rfl (qJ 178 rfl rfl (oL rfl (H.xP 2 rfl 2 rfl) (qJ 178 rfl rfl (sq 1 (qJ 178 rfl rfl ?_))))))))))
    obtain ⟨NW,ayv,rfl⟩:=H.addr 4 rfl qf
    obtain ⟨RL,Rd,RR,P4,RI,RH,PT,Ra,RV,PW,RY,RE,SM,Sn,Ug,Rq,Ri,P9,H⟩:=H.jZ 4 rfl az az qf qf qf
    refine oI rfl rfl (qJ 178 rfl rfl (oF rfl (qJ 178 rfl rfl (oL rfl (H.xP 6 rfl 8 rfl) (qJ 172 rfl rfl (sp (Bv ((s.qB[az]!).vg)) (qJ 172 rfl rfl (sp (Bv ((s.qB[az]!).vg)) ?_))))))))
    cases h175:((s.qB[az]!).vg)
    ·rw [h175] at H
     refine xR (zR 189 10) (qJ 172 rfl rfl (sp (Bv false) (sp (Bv false) (sp (Bv false) (xO (b_n (t_n (xJ (sq 1 (sw (zn az 1 rfl rfl qf (sq 1 (xO (qX (m' :=(counts.length - ((az+1):Int)).toNat) qf ⟨_,_,az+1,uE7,?_,?_,rfl,N,H.pick (zR 0 6) (zR 7 6)⟩))))))))))))))
     ·exact melts_3 ‹_› ‹_›
     ·omega
    rw [h175] at H
    refine qJ 188 rfl rfl (sq 1 (qJ 188 rfl rfl (sq 1 (qJ 188 rfl rfl (oF rfl (qJ 188 rfl rfl (oL rfl (H.xP 9 rfl 2 rfl) (qJ 188 rfl rfl (sq 1 (qJ 188 rfl rfl (oI rfl rfl (qJ 188 rfl rfl (oF rfl (qJ 188 rfl rfl (oL rfl (H.xP 6 rfl 0 rfl) (qJ 188 rfl rfl (sp (yI c) (qJ 188 rfl rfl (sq 1 (qJ 172 rfl rfl (sq 3 (xO (b_n (t_n (xJ (sq 1 (sw (zn az 1 rfl rfl qf (sq 1 (xO (qX (m' :=(counts.length - ((az+1):Int)).toNat) qf ⟨_,_,az+1,uE7,?_,?_,rfl,N,H.pick (zR 0 6) (zR 7 6)⟩)))))))))))))))))))))))))))))))
    ·exact melts_4 ‹_› qf ‹_›
    ·omega
   refine xR (zR 173 27) (sp (Bv true) (sp (Bv true) (xO (b_n (t_n (xJ (sq 1 (sw (zn az 1 rfl rfl qf (sq 1 (xO (qX (m' :=(counts.length - ((az+1):Int)).toNat) qf ⟨_,_,az+1,uE7,?_,?_,rfl,N,H⟩))))))))))))
   ·exact melts_1 ‹_›
   ·omega
  refine zx4 (zcr (sp (Bv (dec (Q9 s counts c az))) (zjn (zT _ rfl (fun ahB=>?_) (fun ahB=>?_)))))
  ·refine xJ (sq 1 (sp (yI c) (sw (zQ #[pp bs os,pp kJ 0,yI c] rfl rfl call194 (en func194 ntmps194 ?_)))))
   refine zcr (sq 2 (sp (yI c) ?_))
   obtain ⟨atB,LX,aiZ⟩:=H.rowIsB 1 rfl
   obtain ⟨atm,LM,CN⟩:=H.jY (α:=yLI) 4 rfl 1 rfl qj
   obtain ⟨ahn,Gj,Oh⟩:=H.yH 3 rfl
   refine sw (oq (l02Parent_ok _ s (xC s counts (xA s t counts) j) c (qF (H.get 2 rfl) 0 3) (H.get 3 rfl).1 (H.get 4 rfl).1 (by have hz:=(qF (H.cells 0 rfl) 0 3);rw [LX,LM,Gj] at hz;exact hz) (LX▸aiZ) (LM▸CN) (Gj▸Oh) ql ql ql) H fun O1 H=>?_)
   have pin:=QK (s:=s) (t:=(xC s counts (xA s t counts) j)) (c:=c) p0.1 L2 qf qf
   refine sq 1 (zjn (xQ ?_))
   obtain ⟨I5,rfl⟩:=H.jK 4 rfl qf
   refine VP (fun ρ aaU=>∃ (xE:Env) (EC:List Value) (OK:yLN),ρ=upd (upd (upd xE 0 (pp bs os)) 1 (pp kJ 0)) 2 (yI c)/\Fresh w.heap.size [OK,Qg]/\St w aaU [.box kJ [Sv XI t.qK.length XH,Sv (aa I5 0) ((Qb s t counts (XF (BadAt s t counts) counts.length)).length) nG,Sv QN QL QM] 31,rr XI t.qK.length XH 4 1 (((xC s counts (xA s t counts) j).qK).map (Value.bool)),rr wb t.qQ.length u0 24 1 vo,rr QN QL QM 2 1 (((xC s counts (xA s t counts) j).qL).map (Value.int .i64)),rr (aa I5 0) ((Qb s t counts (XF (BadAt s t counts) counts.length)).length) nG 24 1 EC,.box b1 [yN,yN,yN] 31] [xy true OK EC (((xC s counts (xA s t counts) j).qQ).set ((xF s (xC s counts (xA s t counts) j) c).toNat) (jT (((xC s counts (xA s t counts) j).qQ)[(xF s (xC s counts (xA s t counts) j) c).toNat]!) (((xC s counts (xA s t counts) j).qQ)[c.toNat]!) 1)),xy true Qg vo t.qQ,atF bs os (yS s qG qE qO qN),sF false xk qG qE s.qA,sF false xW qO qN s.qB,sF false di aV aP counts]) ?_ ?_
   ·refine yK rfl H [0,1,2,3,5] fun H=>?_
    have S:=H.jm [0,1,2,3,5] (zR 0 6)
    refine rtl 0 S ?_
    refine rtl 1 S ?_
    refine tF 2 rfl rfl S ?_
    refine tL 3 rfl rfl (fun _ h=>h.cell 0 rfl rfl) S ?_
    refine rtl 4 S ?_
    refine rtl 5 S ?_
    refine rtl 6 S ?_
    refine tF 7 rfl rfl S ?_
    refine tL 8 rfl rfl (fun _ h=>h.cell 0 rfl rfl) S ?_
    refine rtl 9 S ?_
    refine tI 10 rfl rfl rfl S ?_
    refine rtl 12 S ?_
    refine rtl 13 S ?_
    refine tF 14 rfl rfl S ?_
    refine tL 15 rfl rfl (fun _ h=>h.cell 0 rfl rfl) S ?_
    refine rtp 16 (yI c) S ?_
    refine tI 17 rfl rfl rfl S ?_
    refine vK [11,18] qh qm (jb rfl ?_ (jb rfl ?_ vM))
    ·obtain ⟨akJ,ams,UO,atr,NC,H⟩:=H.yg 4 rfl 1 rfl (iv:=xF s (xC s counts (xA s t counts) j) c) ((xF s (xC s counts (xA s t counts) j) c).toNat) qf qf
     refine x9 (Sv akJ ((((xC s counts (xA s t counts) j).qQ)[(xF s (xC s counts (xA s t counts) j) c).toNat]!).length) ams) isAgg24 rfl (NC) (⟨H.pick [0,1,2,3,5] (zR 1 6),(ro 18 rfl ?_)⟩)
     obtain ⟨ajj,ami,axq,at7,ags,H⟩:=H.yg 4 rfl 2 rfl (iv:=c) c.toNat qf qf
     refine x9 (Sv ajj ((((xC s counts (xA s t counts) j).qQ)[c.toNat]!).length) ami) isAgg24 rfl (ags) (⟨H.pick [0,1,2,3,5] (zR 2 6),(ro 19 rfl ?_)⟩)
     obtain ⟨u1,u2,u4⟩:=L.rows p0 (bnd_le qf) (p:=(xF s (xC s counts (xA s t counts) j) c).toNat) (c:=c.toNat) qf qf
     refine oc (XB _ (((xC s counts (xA s t counts) j).qQ)[(xF s (xC s counts (xA s t counts) j) c).toNat]!) (((xC s counts (xA s t counts) j).qQ)[c.toNat]!) 1 (H.get 1 rfl).1 (H.get 0 rfl).1 qg qg qg) ?_
     rintro axB atE ahi alu
     replace H:=H.zH alu ahi
     obtain ⟨aeS,ag5,rfl,anr,an4⟩:=H.jL 0 rfl
     refine ⟨H.pick [1,2,3,4,6] (zR 2 6),(tI 20 rfl rfl rfl (H.pick [1,2,3,4,6] (zR 2 6)) ?_)⟩
     refine ro 21 rfl ?_
     obtain ⟨ahO,N,apS,H⟩:=H.zN 0 rfl N (H.jA [2,3])
     refine yh true H 5 rfl 4 rfl (Sv aeS ((jT (((xC s counts (xA s t counts) j).qQ)[(xF s (xC s counts (xA s t counts) j) c).toNat]!) (((xC s counts (xA s t counts) j).qQ)[c.toNat]!) 1).length) ag5) 0 rfl rfl sizeOf24 rfl rfl (i:=((xF s (xC s counts (xA s t counts) j) c).toNat)) qf qf qm fun IK SF abu aa2 H=>?_
     replace N:Fresh w.heap.size [abu,Qg]:=(N.pick [2,0,1]).repl aa2
     refine ⟨H.pick [1,2,3,4,6] (zR 4 6),(xw qh ((meet ⟨_,SF,abu,uE3,N,H.pick (zR 1 6) [0,4,6,7,8,9]⟩)))⟩
    obtain ⟨ahu,aid,sy,axD,akP,H⟩:=H.yg 4 rfl 1 rfl (iv:=c) c.toNat qf qf
    refine x9 (Sv ahu ((((xC s counts (xA s t counts) j).qQ)[c.toNat]!).length) aid) isAgg24 rfl (akP) (⟨H.pick [0,1,2,3,5] (zR 1 6),(ro 11 rfl ?_)⟩)
    obtain ⟨agq,amc,afu,asp,OT,H⟩:=H.yg 4 rfl 2 rfl (iv:=xF s (xC s counts (xA s t counts) j) c) ((xF s (xC s counts (xA s t counts) j) c).toNat) qf qf
    refine x9 (Sv agq ((((xC s counts (xA s t counts) j).qQ)[(xF s (xC s counts (xA s t counts) j) c).toNat]!).length) amc) isAgg24 rfl (OT) (⟨H.pick [0,1,2,3,5] (zR 2 6),(ro 19 rfl ?_)⟩)
    obtain ⟨u1,u2,u4⟩:=L.rows p0 (bnd_le qf) (p:=(xF s (xC s counts (xA s t counts) j) c).toNat) (c:=c.toNat) qf qf
    refine oc (XB _ (((xC s counts (xA s t counts) j).qQ)[(xF s (xC s counts (xA s t counts) j) c).toNat]!) (((xC s counts (xA s t counts) j).qQ)[c.toNat]!) 1 (H.get 0 rfl).1 (H.get 1 rfl).1 qg qg qg) ?_
    rintro atx amA ae0 ai9
    replace H:=H.zH ai9 ae0
    obtain ⟨agJ,ag2,rfl,aqV,apW⟩:=H.jL 0 rfl
    refine ⟨H.pick [1,2,3,4,6] (zR 2 6),(tI 20 rfl rfl rfl (H.pick [1,2,3,4,6] (zR 2 6)) ?_)⟩
    refine ro 21 rfl ?_
    obtain ⟨sx,N,Wt,H⟩:=H.zN 0 rfl N (H.jA [2,3])
    refine yh true H 5 rfl 4 rfl (Sv agJ ((jT (((xC s counts (xA s t counts) j).qQ)[(xF s (xC s counts (xA s t counts) j) c).toNat]!) (((xC s counts (xA s t counts) j).qQ)[c.toNat]!) 1).length) ag2) 0 rfl rfl sizeOf24 rfl rfl (i:=((xF s (xC s counts (xA s t counts) j) c).toNat)) qf qf qm fun E5 aap aa0 Ul H=>?_
    replace N:Fresh w.heap.size [aa0,Qg]:=(N.pick [2,0,1]).repl Ul
    refine ⟨H.pick [1,2,3,4,6] (zR 4 6),(xw qh ((meet ⟨_,aap,aa0,uE3,N,H.pick (zR 1 6) [0,4,6,7,8,9]⟩)))⟩
   clear H N
   rintro ρ akB ⟨xE,EC,OK,rfl,N,H⟩
   refine t_n (xQ (yK rfl H [0,1,2,3,5] fun H=>?_))
   have S:=H.jm [0,1,2,3,5] (zR 0 6)
   refine rtl 0 S ?_
   refine rtl 1 S ?_
   refine tF 2 rfl rfl S ?_
   refine tL 3 rfl rfl (fun _ h=>h.cell 0 rfl rfl) S ?_
   refine rtp 4 (yI c) S ?_
   refine rtl 5 S ?_
   refine rtl 6 S ?_
   refine tF 7 rfl rfl S ?_
   refine tL 8 rfl rfl (fun _ h=>h.xP 2 rfl 0 rfl) S ?_
   refine ro 9 rfl (zV H underlying24 ti2 s.xK.toNat rfl rfl qf qf qf fun ahp ava H=>⟨H.pick [1,2,3,4,6] (zR 0 6),(tI 10 rfl rfl rfl (H.pick [1,2,3,4,6] (zR 0 6)) ?_)⟩)
   refine ro 11 rfl ?_
   obtain ⟨ajM,N,UE,H⟩:=H.zN 0 rfl N (H.jA [0,1])
   refine yh true H 5 rfl 1 rfl (Sv (aa ahp 0) s.xK.toNat s.xK.toNat) 0 rfl rfl sizeOf24 rfl rfl (i:=c.toNat) qf qf qm fun acj aqW alM Um H=>?_
   replace N:Fresh w.heap.size [alM,Qg]:=(N.pick [1,0,2]).repl Um
   refine ⟨H.pick [1,2,3,4,6] (zR 2 6),(xw qh (t_n (xJ (sq 2 (oF rfl (oL rfl (H.cell 1 rfl rfl) (sp (yI c) ?_)))))))⟩
   obtain ⟨W3,rfl⟩:=H.jK 2 rfl qf
   refine oI rfl rfl (sw (Qq H 2 rfl false sizeOf4 rfl rfl (i:=c.toNat) qf qf fun ajn H=>xO (ret0 rfl ⟨_,rfl,?_⟩)))
   replace H:=H.erases [0]
   dsimp only [vz,List.eraseIdx] at H
   refine xO (b_n (t_n (xJ (sp (yI c) (sw (o_sub c 1 rfl rfl qf (sq 1 (xO ?_))))))))
   rw [Qk] at H
   refine qX (m' :=((c - 1):Int).toNat) qf ⟨_,_,_,_,_,_,j+1,uE5,?_,?_,?_,?_,rfl,(N.pick [1,0]),H.pick (zR 0 6) [3,0,4,5,6,7]⟩
   ·(rw [QB (c:=c) (i:=az) ‹_› qf ic];rfl)
   ·(rw [QB (c:=c) (i:=az) ‹_› qf ic];rfl)
   ·omega
   ·omega
  refine qV (b_n (t_n (xJ (sp (yI c) (sw (o_sub c 1 rfl rfl qf (sq 1 (xO ?_))))))))
  rw [Qk] at H
  refine qX (m' :=((c - 1):Int).toNat) qf ⟨_,_,_,_,_,_,j+1,uE5,?_,?_,?_,?_,rfl,N,H⟩
  ·rw [meltDown_no' (c:=c) (i:=az) ‹_› qf ic]
  ·rw [meltDown_no' (c:=c) (i:=az) ‹_› qf ic]
  ·omega
  ·omega
 refine zx4 (zcr (sq 1 (sw (zQ #[pp bs os,pp kJ 0] rfl rfl call195 (en func195 ntmps195 ?_)))))
 refine zcr (sw (xq H ti31 [yN,yN,yN] fun azJ Wm H=>sp (yI 0) (zjcc (sq 2 ?_))))
 obtain ⟨axl,Mc,BS⟩:=H.rowIsB 2 rfl
 obtain ⟨axv,LQ,alU⟩:=H.jY (α:=yLI) 5 rfl 1 rfl qj
 obtain ⟨awW,MR,ahm⟩:=H.yH 4 rfl
 refine sw (oq (l02State_ok _ s (xC s counts (xA s t counts) j) (qF (H.get 2 rfl) 0 3) (H.get 3 rfl).1 (H.get 4 rfl).1 (by have hz:=(qF (H.cells 1 rfl) 0 3);rw [Mc,LQ,MR] at hz;exact hz) (Mc▸BS) (LQ▸alU) (MR▸ahm) (by assumption)) H fun atp H=>sq 1 (zjn (cQ rfl (fun alW=>?_) (fun alW=>?_))))
 ·refine zcr (sw (vU [yN,yN,yN] [] (sw (xY H 0 [yN,yN,yN] sizeOf31 fun akb H=>sp (yI 3) (zjr (t_r (retC2 H 0 rfl (yI 3) rfl isAgg31 sizeOf31 rfl rfl ⟨_,rfl,?_⟩)))))))
  replace H:=H.erases [0]
  dsimp only [vz,List.eraseIdx] at H
  refine sq 1 (sp (yI 3) (sw (xY H 5 [yN,yN,yN] sizeOf31 fun Ta H=>sp (yI 3) (zjr ?_))))
  replace H:=H.nilRowB 4
  replace H:=H.nilRow 24 1
  replace H:=H.jo (α:=yLI)
  replace H:=H.nilRowI 2
  refine retC2 H 8 rfl (yI 3) rfl isAgg31 sizeOf31 rfl rfl ⟨_,rfl,?_,H.base⟩
  rw [XX ‹_›,stepRes,show xX s - 1=j by omega,told_no ‹_›]
  exact ⟨none,0,0,none,0,0,[],[],none,0,0,rfl,(N.emp.pick [0]),H.pick [2,1,0] [0]⟩
 refine qV (t_n (zcr (sq 2 (sw (xU [Sv XI t.qK.length XH,Sv vR ((Qb s t counts (XF (BadAt s t counts) counts.length)).length) nG,Sv QN QL QM] isAgg31 sizeOf31 rfl (qF (H.cells 1 rfl) 0 3) (sw (xY H 0 [Sv XI t.qK.length XH,Sv vR ((Qb s t counts (XF (BadAt s t counts) counts.length)).length) nG,Sv QN QL QM] sizeOf31 fun at0 H=>sp (yI 0) (zjr (retC2 H 0 rfl (yI 0) rfl isAgg31 sizeOf31 rfl rfl ⟨_,rfl,?_⟩)))))))))
 replace H:=H.erases [0]
 dsimp only [vz,List.eraseIdx] at H
 refine sq 1 (sp (yI 0) (sw (xY H 5 [Sv XI t.qK.length XH,Sv vR ((Qb s t counts (XF (BadAt s t counts) counts.length)).length) nG,Sv QN QL QM] sizeOf31 fun Sw H=>sp (yI 0) (zjr (retC2 H 5 rfl (yI 0) rfl isAgg31 sizeOf31 rfl rfl ⟨_,rfl,?_,H.base⟩)))))
 rw [XX ‹_›,stepRes,show xX s - 1=j by omega,told_yes ‹_›]
 exact ⟨XI,t.qK.length,XH,vR,(Qb s t counts (XF (BadAt s t counts) counts.length)).length,nG,jg,zG,QN,QL,QM,rfl,(N.pick [1]),H.pick [1,4,3] [1]⟩
end
section
def minus (k:Nat):yLI:=(List.range 6).map fun j=>if j < k then -1 else 0
theorem minus_len (k:Nat):(minus k).length=6:=by simp [minus]
theorem minus_get (h:j < 6):(minus k)[j]! =if j < k then -1 else 0:=by
 rw [getElem!_pos (minus k) j (by rw [minus_len];exact h)];simp [minus]
theorem minus_set (h:k < 6):(minus k).set k (-1)=minus (k+1):=by
 refine ext_get (by simp [minus_len]) fun p hp=>?_
 rw [List.length_set,minus_len] at hp
 rw [getset (by rw [minus_len];exact h),minus_get hp,minus_get hp]
 by_cases e:p=k
 ·rw [if_pos e,if_pos qf]
 ·rw [if_neg e]
  by_cases h1:p < k
  ·rw [if_pos h1,if_pos qf]
  ·rw [if_neg h1,if_neg qf]
theorem minus_six (h:k=6) (s:qC) (t:qH):minus k=bests s t (-1) 6 0:=by
 subst h
 rw [← bests_zero];rfl
theorem appl_yes (hk:k=s.qB.length) (hi:i < s.qB.length) (hz:z<=(s.qB[i]!).jG) (hc:(s.qB[i]!).qI.toNat < n) (h1:(s.qB[i]!).jG=(bests s t z n k)[(s.qB[i]!).qI.toNat]!) (h2:EnOk s t (s.qB[i]!)):Appl s t i:=by
 rw [bests_get hc,hk] at h1
 exact (appl_iff hi hz).2 ⟨h2,h1⟩
theorem appl_no (hk:k=s.qB.length) (hi:i < s.qB.length) (hz:z<=(s.qB[i]!).jG) (hc:(s.qB[i]!).qI.toNat < n) (h1:(s.qB[i]!).jG≠(bests s t z n k)[(s.qB[i]!).qI.toNat]!):¬ Appl s t i:=fun h=>by
 rw [bests_get hc,hk] at h1
 exact h1 ((appl_iff hi hz).1 h).2
theorem appls_halt:(appls s t).length=0<->Halted s t:=by
 constructor
 ·intro h j hj ha
  have:(j:Int)∈appls s t:=mem_applL.2 ⟨Int.natCast_nonneg j,by simpa using hj,by simpa using ha⟩
  rw [List.length_eq_zero_iff.1 h] at this;cases this
 ·intro h
  rw [List.length_eq_zero_iff]
  apply List.eq_nil_iff_forall_not_mem.2
  intro x hx
  obtain ⟨h0,h1,h2⟩:=mem_applL.1 hx
  exact h _ h1 h2
theorem outPl_in (hs:jk s) (h:0<=xF s t r.qI):outPl s t r=(xF s t r.qI).toNat:=by
 refine outPl_up fun e=>?_
 rw [e,parentNow_root hs] at h;omega
theorem outPl_out (hs:jk s) (h0:t.qK[0]! =true) (hc:QU s r.qI) (h:¬ 0<=xF s t r.qI):outPl s t r=s.qA.length:=by
 refine outPl_root ?_
 rcases Int.lt_or_eq_of_le hc.1 with h1 | h1
 ·exact absurd (QK hs h0 h1 hc.2).1 h
 ·exact h1.symm
theorem parentNow_lt (hs:jk s) (h0:t.qK[0]! =true) {c:Int} (hc:QU s c):xF s t c<=(s.qA.length:Int) - 1:=by
 rcases Int.lt_or_eq_of_le hc.1 with h1 | h1
 ·have:=QK hs h0 h1 hc.2;have:=hc.2;omega
 ·rw [← h1,parentNow_root hs];have:=hs.2.1;omega
theorem stepBy_ok {counts:yLI} (h:(vV s t counts).2=0):xZ s (vV s t counts).1:=by
 by_cases hc:IsCh s t counts
 ·rw [XX hc] at h ⊢
  unfold stepRes at h ⊢
  by_cases ho:xZ s (xC s counts (xA s t counts) (xX s - 1))
  ·rw [told_yes ho];exact ho
  ·rw [told_no ho] at h;cases h
 ·rw [stepBy_no hc] at h;cases h
theorem meltsL_1 {counts:yLI} (h0:0<=(s.qB[k]!).qI) (h:(s.qB[k]!).qI.toNat < n) (h1:(Qv s counts n k)[(s.qB[k]!).qI.toNat]! =true):(Qv s counts n k).set (s.qB[k]!).qI.toNat true=Qv s counts n (k+1):=
 meltsL_set h0 h ⟨fun _=>.inl h1,fun _=>rfl⟩
theorem meltsL_2 {counts:yLI} (h0:0<=(s.qB[k]!).qI) (h:(s.qB[k]!).qI.toNat < n) (h1:(Qv s counts n k)[(s.qB[k]!).qI.toNat]! =false) (h2:¬ counts[k]! > 0):(Qv s counts n k).set (s.qB[k]!).qI.toNat false=Qv s counts n (k+1):=
 meltsL_set h0 h ⟨fun h=>(by cases h),fun h=>h.elim (fun h=>(ft h h1).elim) fun h=>(h2 h.1).elim⟩
theorem meltsL_3 {counts:yLI} (h0:0<=(s.qB[k]!).qI) (h:(s.qB[k]!).qI.toNat < n) (h1:(Qv s counts n k)[(s.qB[k]!).qI.toNat]! =false) (h2:counts[k]! > 0):(Qv s counts n k).set (s.qB[k]!).qI.toNat (s.qB[k]!).vg=Qv s counts n (k+1):=
 meltsL_set h0 h ⟨fun h=>.inr ⟨h2,h⟩,fun h=>h.elim (fun h=>(ft h h1).elim) fun h=>h.2⟩
theorem meltDown_yesL {counts:yLI} {c:Int} (h:(Qv s counts n i)[c.toNat]! =true) (hn:c.toNat < n) (h0:0<=c) (hi:i=s.qB.length) (hc:c=(xX s:Int) - 1 - j):xC s counts u (j+1)=melted s (xC s counts u j) c:=by
 rw [meltsL_get hn,show ((c.toNat:Nat):Int)=c by omega] at h
 exact QB h hi hc
theorem meltDown_noL {counts:yLI} {c:Int} (h:(Qv s counts n i)[c.toNat]! =false) (hn:c.toNat < n) (h0:0<=c) (hi:i=s.qB.length) (hc:c=(xX s:Int) - 1 - j):xC s counts u (j+1)=xC s counts u j:=by
 rw [meltsL_get hn,show ((c.toNat:Nat):Int)=c by omega] at h
 exact meltDown_no' h hi hc
theorem copy_pre {K:Nat} {f:Nat->Nat->Int} {B:Int} {b:yLL} {al:List Bool} (h:Ent (n+1) K f B b) (hK:K<=8) (hn:n<=6) (ha:al.length=n):
 (⟨al,b.take n,b[n]!⟩:qH).qK.length<=1000000/\(⟨al,b.take n,b[n]!⟩:qH).qL.length<=1000000/\(⟨al,b.take n,b[n]!⟩:qH).qQ.length<=1000000∧
  ∀ j,j < (⟨al,b.take n,b[n]!⟩:qH).qQ.length->((⟨al,b.take n,b[n]!⟩:qH).qQ[j]!).length<=1000000:=by
 have hl:(b.take n).length=n:=by rw [List.length_take,h.sh.1];omega
 have hr:=h.sh.2 n qf
 refine ⟨?_,?_,?_,fun j hj=>?_⟩
 ·show al.length<=1000000;omega
 ·show (b[n]!).length<=1000000;omega
 ·show (b.take n).length<=1000000;omega
 ·have hj:j < (b.take n).length:=hj
  show ((b.take n)[j]!).length<=1000000
  rw [getElem!_pos (b.take n) j hj,List.getElem_take,← getElem!_pos b j (by rw [h.sh.1];omega)]
  have:=(h.sh.2 j qf).1;omega
end
section
variable {qE qN Xb Xe Xc Xd bN Qm xf xG qY cl : Nat}
theorem isShell_ok (w:World) (s:qC) (qP:zP w xk qG qE s.qA) (xm:zP w xW qO qN s.qB):Calls Tryz.prog 142 #[.agg #[yI s.xK,Sv qG s.qA.length qE,Sv qO s.qB.length qN]] w (Ret (fun v w' =>v=Bv (dec (jk s))) w):=by
 refine en func142 ntmps142 ?_
 have H:=((St.start w).arg xm).arg qP
 have zB:=qM qP
 clear qP xm
 have N:=Fresh.nil w.heap.size
 refine zcr (sw (zZ H (yS s qG qE qO qN) fun b1 w2 H=>sp (Bv false) (zjcc (oF rfl (oL rfl (H.cell 0 rfl rfl) (sw (oq (XZ w2 s.xK 1 8) H fun w3 H=>sp (Bv (!(inR s.xK 1 8))) (sp (Bv (!(inR s.xK 1 8))) ?_))))))))
 cases h5:(!(inR s.xK 1 8))
 ·replace h5:=xn h5
  replace h5:=QV.1 h5
  refine qJ 9 rfl rfl (oF rfl (qJ 9 rfl rfl (oL rfl (H.cell 0 rfl rfl) (qJ 9 rfl rfl (sw (oq (sizeI_ok _ s.qA (H.get 0 rfl).1) H fun w6 H=>qJ 9 rfl rfl (sw (oq (XZ w6 (s.qA.length:Int) 1 6) H fun w8 H=>qJ 9 rfl rfl (sp (Bv (!(inR (s.qA.length:Int) 1 6))) (sp (Bv (!(inR (s.qA.length:Int) 1 6))) (sp (Bv (!(inR (s.qA.length:Int) 1 6))) ?_)))))))))))
  cases aZ:(!(inR (s.qA.length:Int) 1 6))
  ·replace aZ:=xn aZ
   replace aZ:=QV.1 aZ
   refine qJ 16 rfl rfl (oF rfl (qJ 16 rfl rfl (oL rfl (H.cell 0 rfl rfl) (qJ 16 rfl rfl ?_))))
   obtain ⟨ls,Ih,rfl⟩:=H.addr 0 rfl qf
   refine oI rfl rfl (qJ 16 rfl rfl (oL rfl (H.zA 0 rfl 0 qf) (qJ 16 rfl rfl (sp (Bv ((s.qA[0]! :Int) != (-1))) (sp (Bv ((s.qA[0]! :Int) != (-1))) (zjn (zT ((s.qA[0]! :Int) != (-1)) rfl (fun dO=>?_) (fun dO=>?_))))))))
   ·replace dO:=bne_iff_ne.1 dO
    refine zcr (sp (Bv false) (zjr (t_r (rH1 (Bv false) H ?_))))
    rw [xh (fun h=>by obtain ⟨h1,h2,h3,h4⟩:=h;omega)]
   replace dO:=xx dO
   refine qV (t_n (zcc (oF rfl (oL rfl (H.cell 0 rfl rfl) (sw (o_tail H 0 rfl 1 underlying24 ti2 rfl qf fun a15 G16 alv H=>?_))))))
   have atK:(s.qA.drop 1).length=s.qA.length - 1:=List.length_drop
   refine oN rfl (sp (yI 0) (zjn (qR (zl ((fun Z0 Z1 Z2 Z3=>fun m' ρ s0=>∃ (xE:Env) (c:Nat),ρ=upd (upd (upd xE 25 (Sv a15 ((s.qA.drop 1).length) (qE - 1))) 26 (yI ((s.qA.drop 1).length))) 27 (yI c)/\((c:Int)<=((s.qA.drop 1).length))/\(FrameTo s (c+1))/\m' =(((s.qA.drop 1).length) - (c:Int)).toNat/\Fresh w.heap.size []/\St w s0 [Z0] [Z1,Z2,Z3]) _ _ _ _) ((((s.qA.drop 1).length) - (0:Int)).toNat) ⟨_,0,uE3,qf,(by exact FrameTo.one s),rfl,N,H⟩ ?_))))
   clear H N
   rintro m' ρ rO ⟨xE,c,rfl,i0,i1,rfl,N,H⟩
   have dg:=drop_get (l:=s.qA) (k:=c)
   refine zcr (sq 1 (zjn (xQ (cD rfl (fun lN=>?_) (fun lN=>?_)))))
   ·refine qV (t_n (xQ (qR (zcr (sp (yI c) ?_)))))
    obtain ⟨fH,JX,rfl⟩:=H.addr 0 rfl qf
    refine oI rfl rfl (oL rfl (H.zA 0 rfl c qf) (sp (yI c) (sq 1 (zjc (sq 1 (sp (yI c) (sw (oq (XZ rO ((s.qA.drop 1)[c]!) 0 c) H fun C5 H=>sq 1 (zjn (zT _ rfl (fun lJ=>?_) (fun lJ=>?_)))))))))))
    ·replace lJ:=xB lJ
     replace lJ:=XD lJ
     refine zcr (sp (Bv false) (zjr (zr5 (rH1 (Bv false) H ?_))))
     rw [xh (fun h=>by obtain ⟨h1,h2,h3,h4⟩:=h;(have:=h4 (c+1) qf qf;rw [← dg qf] at this;omega))]
    replace lJ:=xn lJ
    replace lJ:=QV.1 lJ
    refine qV (b_n (t_n (xJ (sw (zn c 1 rfl rfl qf (sq 1 (xO (qX (m' :=(((s.qA.drop 1).length) - ((c+1):Int)).toNat) qf ⟨_,c+1,uE3,?_,?_,rfl,N,H⟩))))))))
    ·omega
    ·exact i1.succ (by rw [← dg qf];omega)
   refine zx4 (zcr (sp (Bv true) (zjr (rH1 (Bv true) H ?_))))
   rw [jH ⟨by omega,by omega,by omega,(show s.qA.length=c+1 by omega)▸i1⟩]
  replace aZ:=xB aZ
  replace aZ:=XD aZ
  refine xR (zR 17 5) (sp (Bv true) (zjn (cTr rfl (zcr (sp (Bv false) (zjr (t_r (rH1 (Bv false) H ?_))))))))
  rw [xh (fun h=>by obtain ⟨h1,h2,h3,h4⟩:=h;omega)]
 replace h5:=xB h5
 replace h5:=XD h5
 refine xR (zR 10 5) (sp (Bv true) (sp (Bv true) (xR (zR 17 5) (sp (Bv true) (zjn (cTr rfl (zcr (sp (Bv false) (zjr (t_r (rH1 (Bv false) H ?_)))))))))))
 rw [xh (fun h=>by obtain ⟨h1,h2,h3,h4⟩:=h;omega)]
theorem isCell_ok (w:World) (s:qC) (c:Int) (qP:zP w xk qG qE s.qA) (xm:zP w xW qO qN s.qB):Calls Tryz.prog 184 #[.agg #[yI s.xK,Sv qG s.qA.length qE,Sv qO s.qB.length qN],yI c] w (Ret (fun v w' =>v=Bv (inR c 0 ((s.qA.length:Int) - 1))) w):=by
 refine en func184 ntmps184 ?_
 have H:=((St.start w).arg xm).arg qP
 have zB:=qM qP
 clear qP xm
 refine zcr (sw (zZ H (yS s qG qE qO qN) fun b1 w2 H=>sp (Bv false) (zjc (sp (yI c) (oF rfl (oL rfl (H.cell 0 rfl rfl) (sw (oq (sizeI_ok _ s.qA (H.get 0 rfl).1) H fun w3 H=>sw (o_sub (s.qA.length:Int) 1 rfl rfl qf (sw (oq (XZ w3 c 0 ((s.qA.length:Int) - 1)) H fun w5 H=>sq 1 (zjr (rH1 (Bv (inR c 0 ((s.qA.length:Int) - 1))) H ?_)))))))))))))
 rfl
theorem lies_ok (w:World) (s:qC) (c:Int) (within:Int) (qP:zP w xk qG qE s.qA) (xm:zP w xW qO qN s.qB) (p0:jk s) (p1:QU s c):Calls Tryz.prog 185 #[.agg #[yI s.xK,Sv qG s.qA.length qE,Sv qO s.qB.length qN],yI c,yI within] w (Ret (fun v w' =>v=Bv (dec (Lies s.qA within c))) w):=by
 refine en func185 ntmps185 ?_
 have H:=((St.start w).arg xm).arg qP
 have zB:=qM qP
 clear qP xm
 have N:=Fresh.nil w.heap.size
 have p2:=p0.step p1.1 p1.2
 refine zcr (sw (zZ H (yS s qG qE qO qN) fun b1 w2 H=>sp (Bv false) (zjcc (oF rfl (oL rfl (H.cell 0 rfl rfl) (sp (yI c) ?_))))))
 obtain ⟨b3,o4,rfl⟩:=H.addr 0 rfl qf
 refine oI rfl rfl (oL rfl (H.elemInt 0 rfl c qf qf) (sq 1 (zjn (qR (zl ((fun Z0 Z1 Z2=>fun m' ρ w6=>∃ (xE:Env) (aD:Int),ρ=upd (upd (upd xE 1 (yI aD)) 2 (yI within)) 3 (pp b1 0)/\(-1<=aD/\aD<=(s.qA.length:Int) - 1)/\(Lies s.qA within c<->0<=aD/\(aD=within\/Lies s.qA within aD))/\m' =(aD+1).toNat/\Fresh w.heap.size []/\St w w6 [Z0] [Z1,Z2]) _ _ _) (((s.qA[c.toNat]!)+1).toNat) ⟨_,s.qA[c.toNat]!,uE3,qf,(by exact lies_up p0 p1),rfl,N,H⟩ ?_)))))
 clear H N
 rintro m' ρ w7 ⟨xE,aD,rfl,i0,i1,rfl,N,H⟩
 have up:=fun h=>p0.step (c:=aD) h i0.2
 refine zcc (sq 1 (sp (Bv (decide ((aD:Int)>=0))) (zjn (cD rfl (fun h8=>?_) (fun h8=>?_)))))
 ·refine qV (t_n (xQ (qR (zcr (sq 3 (zjn (cE rfl (fun h9=>?_) (fun h9=>?_))))))))
  ·refine zcr (sp (Bv true) (zjr (zr5 (rH1 (Bv true) H ?_))))
   rw [jH (i1.2 ⟨by omega,.inl ‹_›⟩)]
  refine qV (b_n (t_n (xJ (oF rfl (oL rfl (H.cell 0 rfl rfl) (sq 1 (oI rfl rfl (oL rfl (H.elemInt 0 rfl aD qf qf) (sq 1 (xO ?_))))))))))
  have YY:=up qf
  refine qX (m' :=((s.qA[aD.toNat]!)+1).toNat) qf ⟨_,_,uE3,?_,?_,rfl,N,H⟩
  ·omega
  ·exact i1.trans ⟨fun h=>(lies_up p0 ⟨by omega,by omega⟩).1 (h.2.resolve_left ‹_›),fun h=>⟨by omega,.inr ((lies_up p0 ⟨by omega,by omega⟩).2 h)⟩⟩
 refine zx4 (zcr (sp (Bv false) (zjr (rH1 (Bv false) H ?_))))
 rw [xh (fun h=>by have:=(i1.1 h).1;omega)]
theorem isRule_ok (w:World) (s:qC) (r:vS) (qP:zP w xk qG qE s.qA) (xm:zP w xW qO qN s.qB) (XM:zP w e8 Xf Xb r.zk) (XQ:zP w eA Xi Xe r.vk) (XN:zP w eL Xg Xc r.vw) (XP:zP w eG Xh Xd r.zS) (dJ:zP w j6 bP bN r.jX) (XO:zP w eW Qy Qm r.xe) (p0:jk s):Calls Tryz.prog 143 #[.agg #[yI s.xK,Sv qG s.qA.length qE,Sv qO s.qB.length qN],.agg #[yI r.qI,yI r.jG,Sv Xf r.zk.length Xb,Sv Xi r.vk.length Xe,Sv Xg r.vw.length Xc,Sv Xh r.zS.length Xd,Sv bP r.jX.length bN,Sv Qy r.xe.length Qm,Bv r.vg]] w (Ret (fun v w' =>v=Bv (dec (RuleOk s r))) w):=by
 refine en func143 ntmps143 ?_
 have H:=((((((((St.start w).arg XO).arg dJ).arg XP).arg XN).arg XQ).arg XM).arg xm).arg qP
 have mz:=qM XO
 clear qP xm XM XQ XN XP dJ XO
 have N:=Fresh.nil w.heap.size
 refine zcr (sw (zZ H (yS s qG qE qO qN) fun b1 w2 H=>sw (zZ H [yI r.qI,yI r.jG,Sv Xf r.zk.length Xb,Sv Xi r.vk.length Xe,Sv Xg r.vw.length Xc,Sv Xh r.zS.length Xd,Sv bP r.jX.length bN,Sv Qy r.xe.length Qm,Bv r.vg] fun b3 w4 H=>sp (Bv false) (zjcc (sw (xU (yS s qG qE qO qN) isAgg27 sizeOf27 rfl (qF (H.cells 1 rfl) 0 3) (oF rfl (oL rfl (H.cell 0 rfl rfl) (sw (oq (isCell_ok _ s r.qI (H.get 0 rfl).1 (H.get 1 rfl).1) H fun w6 H=>sp (Bv (!(inR r.qI 0 ((s.qA.length:Int) - 1)))) (sp (Bv (!(inR r.qI 0 ((s.qA.length:Int) - 1)))) ?_)))))))))))
 cases h8:(!(inR r.qI 0 ((s.qA.length:Int) - 1)))
 ·replace h8:=xn h8
  replace h8:=QV.1 h8
  refine qJ 14 rfl rfl (oF rfl (qJ 14 rfl rfl (oL rfl (H.cell 0 rfl rfl) (qJ 14 rfl rfl (sw (oq (XZ w6 r.jG 0 9) H fun w9 H=>qJ 14 rfl rfl (sp (Bv (!(inR r.jG 0 9))) (sp (Bv (!(inR r.jG 0 9))) (sp (Bv (!(inR r.jG 0 9))) ?_)))))))))
  cases aU:(!(inR r.jG 0 9))
  ·replace aU:=xn aU
   replace aU:=QV.1 aU
   refine qJ 20 rfl rfl (oF rfl (qJ 20 rfl rfl (oL rfl (H.cell 0 rfl rfl) (qJ 20 rfl rfl (sp (Bv r.vg) ?_)))))
   cases db:(r.vg)
   ·rw [db] at H
    refine xR [24,25,26] (qJ 20 rfl rfl (sp (Bv false) (sp (Bv false) (sp (Bv false) (qJ 29 rfl rfl (oF rfl (qJ 29 rfl rfl (oL rfl (H.cell 0 rfl rfl) (qJ 29 rfl rfl (oN rfl (qJ 29 rfl rfl (sp (Bv (decide ((r.xe.length:Int) > 3))) (sp (Bv (decide ((r.xe.length:Int) > 3))) (zjn (cD rfl (fun ir=>?_) (fun ir=>?_))))))))))))))))
    ·refine zcr (sp (Bv false) (zjr (t_r (rH1 (Bv false) H ?_))))
     rw [xh (fun h=>by obtain ⟨h1,h2,h3,h4,h5,h6,h7,h8,h9,aZ,aU⟩:=h;omega)]
    refine qV (t_n (zcc (oF rfl (oL rfl (H.cell 0 rfl rfl) (oF rfl (oL rfl (H.cell 0 rfl rfl) (oF rfl (oL rfl (H.cell 0 rfl rfl) (oF rfl (oL rfl (H.cell 0 rfl rfl) (oF rfl (oL rfl (H.cell 0 rfl rfl) (sw (o_buildF H underlying29 ti24 [Sv Xf r.zk.length Xb,Sv Xi r.vk.length Xe,Sv Xg r.vw.length Xc,Sv Xh r.zS.length Xd,Sv bP r.jX.length bN] rfl (by simp [Value.cells]) rfl qj qj fun sO yi H=>oN rfl (sp (yI 0) (zjn (qR ?_)))))))))))))))))
    replace H:=H.boxRow 0 rfl 1 5 rfl qj
    replace H:=H.jo (α:=yLI)
    replace H:=H.Vy false 7 rfl 0 rfl qm
    replace H:=H.Vy false 7 rfl 0 rfl qm
    replace H:=H.Vy false 7 rfl 0 rfl qm
    replace H:=H.Vy false 7 rfl 0 rfl qm
    replace H:=H.Vy false 7 rfl 0 rfl qm
    refine zl ((fun Z0 Z1 Z2 Z3 Z4 Z5 Z6 Z7 Z8 Z9 bx bG=>fun m' ρ yb=>∃ (xE:Env) (k:Nat),ρ=upd (upd (upd (upd (upd xE 2 (pp b1 0)) 3 (pp b3 0)) 45 (Sv (aa sO 0) 5 5)) 46 (yI 5)) 47 (yI k)/\((k:Int)<=5)/\(∀ j,j < k->vZ s.xK ([r.zk,r.vk,r.vw,r.zS,r.jX][j]!))/\m' =(5 - (k:Int)).toNat/\Fresh w.heap.size []/\St w yb [Z0,Z1,Z2] [Z3,Z4,Z5,Z6,Z7,Z8,Z9,bx,bG]) _ _ _ _ _ _ _ _ _ _ _ _) ((5 - (0:Int)).toNat) ⟨_,0,uE5,qf,(by intro j hj;omega),rfl,N,H.pick [0,1,2] (0::zR 6 8)⟩ ?_
    clear H N
    rintro m' ρ HF ⟨xE,k,rfl,i0,i1,rfl,N,H⟩
    refine zcr (sp (Bv (decide ((k:Int) < 5))) (zjn (xQ (cD rfl (fun dd=>?_) (fun dd=>?_)))))
    ·refine qV (t_n (xQ (qR (zcr (oI rfl rfl ?_)))))
     obtain ⟨a19,c20,G21,s22,Dq,H⟩:=H.yg 0 rfl 0 rfl (iv:=k) k qf qf
     refine oL rfl (Dq) (sq 1 (zjc (oF rfl (oL rfl (H.cell 2 rfl rfl) (sq 1 (sw (oq (VB _ s.xK ([r.zk,r.vk,r.vw,r.zS,r.jX][k]!) (H.get 0 rfl).1) H fun Bo H=>sq 1 (zjn (cQ rfl (fun Gu=>?_) (fun Gu=>?_))))))))))
     ·refine zcr (sp (Bv false) (zjr (zr5 (rH1 (Bv false) H ?_))))
      rw [xh (fun h=>by obtain ⟨h1,h2,h3,h4,h5,h6,h7,h8,h9,aZ,aU⟩:=h;(refine absurd ?_ ‹¬ vZ _ _›;rcases (show k=0\/k=1\/k=2\/k=3\/k=4 by omega) with e | e | e | e | e <;> subst e <;> assumption))]
     refine qV (b_n (t_n (xJ (sw (zn k 1 rfl rfl qf (sq 1 (xO (qX (m' :=(5 - ((k+1):Int)).toNat) qf ⟨_,k+1,uE5,?_,?_,rfl,N,H.pick [0,1,2] (zR 1 9)⟩))))))))
     ·omega
     ·intro j hj;by_cases e:j=k;(subst e;assumption);exact i1 j qf
    refine zx4 (zcc (oF rfl (oL rfl (H.cell 1 rfl rfl) (oN rfl (sp (yI 0) (zjn (qR ?_)))))))
    have n1:vZ s.xK r.zk:=i1 0 qf
    have n2:vZ s.xK r.vk:=i1 1 qf
    have n3:vZ s.xK r.vw:=i1 2 qf
    have n4:vZ s.xK r.zS:=i1 3 qf
    have n5:vZ s.xK r.jX:=i1 4 qf
    refine zl ((fun Z0 Z1 Z2 Z3 Z4 Z5 Z6 Z7 Z8 Z9 bx bG=>fun m' ρ Ge=>∃ (xE:Env) (i:Nat),ρ=upd (upd (upd (upd (upd xE 2 (pp b1 0)) 3 (pp b3 0)) 58 (Sv Qy r.xe.length Qm)) 59 (yI r.xe.length)) 60 (yI i)/\((i:Int)<=r.xe.length)/\(IntosTo s r i)/\m' =(r.xe.length - (i:Int)).toNat/\Fresh w.heap.size []/\St w Ge [Z0,Z1,Z2] [Z3,Z4,Z5,Z6,Z7,Z8,Z9,bx,bG]) _ _ _ _ _ _ _ _ _ _ _ _) ((r.xe.length - (0:Int)).toNat) ⟨_,0,uE5,qf,qx,rfl,N,H⟩ ?_
    clear H N
    rintro m' ρ FG ⟨xE,i,rfl,i0,i2,rfl,N,H⟩
    refine zcr (sq 1 (zjn (xQ (cD rfl (fun h29=>?_) (fun h29=>?_)))))
    ·refine qV (t_n (xQ (qR (zcr (sp (yI i) ?_)))))
     obtain ⟨Lh,o31,rfl⟩:=H.addr 8 rfl qf
     obtain ⟨ux,uz,JP,H⟩:=H.yJ 8 rfl i i qf qf qf
     refine oI rfl rfl (sw (xU [yI ((r.xe[i]!).qI),Sv ux (((r.xe[i]!).Qa).length) uz] isAgg128 sizeOf128 rfl (qF (H.get 1 rfl) 0 2) (sw (xq H ti128 [yI 0,yN] fun vr Dr H=>sp (yI i) (sw (xY H 0 [yI ((r.xe[i]!).qI),Sv ux (((r.xe[i]!).Qa).length) uz] sizeOf128 fun Ks H=>zjn (xQ (jE rfl H fun H=>rt 0 _ (y8 (cs:=(yS s qG qE qO qN)) isAgg27 sizeOf27 rfl (fun _ h=>qF (h.cells 3 rfl) 0 3)) H ?_))))))))
     refine tF 1 rfl rfl H ?_
     refine tL 2 rfl rfl (fun _ h=>h.cell 0 rfl rfl) H ?_
     refine ro 3 rfl (oq (isCell_ok _ s ((r.xe[i]!).qI) (H.get 3 rfl).1 (H.get 4 rfl).1) H fun E4 H=>⟨H,(rtp 4 (Bv (!(inR ((r.xe[i]!).qI) 0 ((s.qA.length:Int) - 1)))) H ?_)⟩)
     refine rtp 5 (Bv (!(inR ((r.xe[i]!).qI) 0 ((s.qA.length:Int) - 1)))) H ?_
     cases x3:(!(inR ((r.xe[i]!).qI) 0 ((s.qA.length:Int) - 1)))
     ·replace x3:=xn x3
      replace x3:=QV.1 x3
      refine rg 6 _ 70 (y8 (cs:=(yS s qG qE qO qN)) isAgg27 sizeOf27 rfl (fun _ h=>qF (h.cells 3 rfl) 0 3)) H ?_
      refine gF 7 rfl rfl H ?_
      refine gL 8 rfl rfl (fun _ h=>h.cell 0 rfl rfl) H ?_
      refine gF 9 rfl rfl H ?_
      refine gL 10 rfl rfl (fun _ h=>h.cell 2 rfl rfl) H ?_
      refine vK [11] qh qm (VN rfl (e:=70) rfl rfl (oq (lies_ok _ s ((r.xe[i]!).qI) r.qI (H.get 3 rfl).1 (H.get 4 rfl).1 qg qg) H fun Df H=>⟨H,(rgp 12 (Bv (!(dec (Lies s.qA r.qI ((r.xe[i]!).qI))))) 70 H ?_)⟩) vM)
      refine rtp 13 (Bv (!(dec (Lies s.qA r.qI ((r.xe[i]!).qI))))) H ?_
      refine rtp 14 (Bv (!(dec (Lies s.qA r.qI ((r.xe[i]!).qI))))) H ?_
      cases oU:(!(dec (Lies s.qA r.qI ((r.xe[i]!).qI))))
      ·replace oU:=xn oU
       replace oU:=yG oU
       refine gF 15 rfl rfl H ?_
       refine gL 16 rfl rfl (fun _ h=>h.cell 3 rfl rfl) H ?_
       refine gF 17 rfl rfl H ?_
       refine gL 18 rfl rfl (fun _ h=>h.cell 0 rfl rfl) H ?_
       refine vK [19] qh qm (VN rfl (e:=79) rfl rfl (oq (VB _ s.xK ((r.xe[i]!).Qa) (H.get 0 rfl).1) H fun C1 H=>⟨H,(rgp 20 (Bv (!(dec (vZ s.xK ((r.xe[i]!).Qa))))) 79 H ?_)⟩) vM)
       refine rtp 21 (Bv (!(dec (vZ s.xK ((r.xe[i]!).Qa))))) H ?_
       refine rtp 22 (Bv (!(dec (vZ s.xK ((r.xe[i]!).Qa))))) H ?_
       cases oW:(!(dec (vZ s.xK ((r.xe[i]!).Qa))))
       ·replace oW:=xn oW
        replace oW:=yG oW
        refine gF 23 rfl rfl H ?_
        refine gL 24 rfl rfl (fun _ h=>h.cell 0 rfl rfl) H ?_
        refine vK [25] qh qm (VN rfl (e:=87) rfl rfl ?_ vM)
        have sm:Small ((r.xe[i]!).Qa):=vX (by assumption)
        refine oq (XC _ ((r.xe[i]!).Qa) (H.get 0 rfl).1 (by assumption)) H fun Pz H=>⟨H,(rgp 26 (Bv ((QS ((r.xe[i]!).Qa):Int) == 0)) 87 H ?_)⟩
        refine rtp 27 (Bv ((QS ((r.xe[i]!).Qa):Int) == 0)) H ?_
        refine rtp 28 (Bv ((QS ((r.xe[i]!).Qa):Int) == 0)) H ?_
        cases IL:((QS ((r.xe[i]!).Qa):Int) == 0)
        ·replace IL:=ne_of_beq_false IL
         refine rgp 29 (yI i) 93 H ?_
         refine rgp 30 (Bv (decide ((i:Int) > 0))) 93 H ?_
         refine rgp 31 (Bv (decide ((i:Int) > 0))) 93 H ?_
         cases Hb:(decide ((i:Int) > 0))
         ·replace Hb:=of_decide_eq_false Hb
          refine vG (zR 32 10) 10 (H) (rgp 42 (Bv false) 93 H ?_)
          refine rtp 43 (Bv false) H ?_
          refine xw qh (t_n (cFr rfl (qV (b_n (t_n (xJ (sw (zn i 1 rfl rfl qf (sq 1 (xO (qX (m' :=(r.xe.length - ((i+1):Int)).toNat) qf ⟨_,i+1,uE5,?_,?_,rfl,N,H.pick [1,2,3] (zR 2 9)⟩)))))))))))
          ·omega
          ·exact i2.succ ⟨‹_›,‹_›,‹_›,‹_›,fun hk=>by omega⟩
         replace Hb:=of_decide_eq_true Hb
         refine gF 32 rfl rfl H ?_
         refine gL 33 rfl rfl (fun _ h=>h.cell 0 rfl rfl) H ?_
         refine gF 34 rfl rfl H ?_
         refine gL 35 rfl rfl (fun _ h=>h.cell 2 rfl rfl) H ?_
         refine rgp 36 (yI i) 96 H ?_
         refine rg 37 _ 96 (y_sub i 1 rfl rfl qf) H ?_
         obtain ⟨aet,adE,aem,H⟩:=H.yJ 10 rfl (i - 1) (i - 1) qf qf qf
         have S:=H.jm (zR 0 4) (zR 2 11)
         refine gI 38 rfl rfl rfl S ?_
         refine gF 39 rfl rfl S ?_
         refine vK [40] qh qm (VN rfl (e:=96) rfl rfl (x9 (yI ((r.xe[i - 1]!).qI)) isAgg2 rfl (H.xP 1 rfl 0 rfl) (⟨H.pick (zR 0 4) (zR 2 11),?_⟩)) vM)
         have S:=H.jm (zR 0 4) (zR 2 11)
         refine rgl 41 96 S ?_
         refine rgl 42 93 S ?_
         refine rtl 43 S ?_
         refine xw qh (t_n (cD rfl (fun DJ=>?_) (fun DJ=>?_)))
         ·refine zcr (sp (Bv false) (zjr (zr5 (rH1 (Bv false) H ?_))))
          rw [xh (fun h=>by obtain ⟨h1,h2,h3,h4,h5,h6,h7,h8,h9,aZ,aU⟩:=h;(obtain ⟨q1,q2,q3,q4,q5⟩:=aU i qf;omega))]
         refine qV (b_n (t_n (xJ (sw (zn i 1 rfl rfl qf (sq 1 (xO (qX (m' :=(r.xe.length - ((i+1):Int)).toNat) qf ⟨_,i+1,uE5,?_,?_,rfl,N,H.pick [1,2,3] (zR 4 9)⟩))))))))
         ·omega
         ·exact i2.succ ⟨‹_›,‹_›,‹_›,‹_›,fun hk=>by omega⟩
        replace IL:=eq_of_beq IL
        refine vG (zR 29 14) 14 (H) (rtp 43 (Bv true) H ?_)
        refine xw qh (t_n (cTr rfl (zcr (sp (Bv false) (zjr (zr5 (rH1 (Bv false) H ?_)))))))
        rw [xh (fun h=>by obtain ⟨h1,h2,h3,h4,h5,h6,h7,h8,h9,aZ,aU⟩:=h;(obtain ⟨q1,q2,q3,q4,q5⟩:=aU i qf;contradiction))]
       replace oW:=xB oW
       replace oW:=zM oW
       refine vG (zR 23 4) 4 (H) (rtp 27 (Bv true) H ?_)
       refine rtp 28 (Bv true) H ?_
       refine vG (zR 29 14) 14 (H) (rtp 43 (Bv true) H ?_)
       refine xw qh (t_n (cTr rfl (zcr (sp (Bv false) (zjr (zr5 (rH1 (Bv false) H ?_)))))))
       rw [xh (fun h=>by obtain ⟨h1,h2,h3,h4,h5,h6,h7,h8,h9,aZ,aU⟩:=h;(obtain ⟨q1,q2,q3,q4,q5⟩:=aU i qf;contradiction))]
      replace oU:=xB oU
      replace oU:=zM oU
      refine vG (zR 15 6) 6 (H) (rtp 21 (Bv true) H ?_)
      refine rtp 22 (Bv true) H ?_
      refine vG (zR 23 4) 4 (H) (rtp 27 (Bv true) H ?_)
      refine rtp 28 (Bv true) H ?_
      refine vG (zR 29 14) 14 (H) (rtp 43 (Bv true) H ?_)
      refine xw qh (t_n (cTr rfl (zcr (sp (Bv false) (zjr (zr5 (rH1 (Bv false) H ?_)))))))
      rw [xh (fun h=>by obtain ⟨h1,h2,h3,h4,h5,h6,h7,h8,h9,aZ,aU⟩:=h;(obtain ⟨q1,q2,q3,q4,q5⟩:=aU i qf;contradiction))]
     replace x3:=xB x3
     replace x3:=XD x3
     refine vG (zR 6 7) 7 (H) (rtp 13 (Bv true) H ?_)
     refine rtp 14 (Bv true) H ?_
     refine vG (zR 15 6) 6 (H) (rtp 21 (Bv true) H ?_)
     refine rtp 22 (Bv true) H ?_
     refine vG (zR 23 4) 4 (H) (rtp 27 (Bv true) H ?_)
     refine rtp 28 (Bv true) H ?_
     refine vG (zR 29 14) 14 (H) (rtp 43 (Bv true) H ?_)
     refine xw qh (t_n (cTr rfl (zcr (sp (Bv false) (zjr (zr5 (rH1 (Bv false) H ?_)))))))
     rw [xh (fun h=>by obtain ⟨h1,h2,h3,h4,h5,h6,h7,h8,h9,aZ,aU⟩:=h;(obtain ⟨q1,q2,q3,q4,q5⟩:=aU i qf;contradiction))]
    refine zx4 (zcr (oF rfl (oL rfl (H.cell 1 rfl rfl) ?_)))
    have sm:Small r.zk:=vX (by assumption)
    refine sw (oq (XC _ r.zk (H.get 3 rfl).1 (by assumption)) H fun Hz H=>sp (Bv (decide ((QS r.zk:Int) > 0))) (sp (Bv (decide ((QS r.zk:Int) > 0))) (zjr (rH1 (Bv (decide ((QS r.zk:Int) > 0))) H (congrArg Value.bool (dec_eq ?_))))))
    rw [decide_eq_true_iff]
    exact ⟨fun h=>⟨by omega,by omega,by simp_all,by omega,n1,n2,n3,n4,n5,by omega,(show i=r.xe.length by omega)▸i2⟩,fun h=>by have:=h.2.2.2.2.2.2.2.2.2.1;have:=sum_nonneg n1.1;omega⟩
   rw [db] at H
   refine qJ 23 rfl rfl (oF rfl (qJ 23 rfl rfl (oL rfl (H.cell 0 rfl rfl) (qJ 23 rfl rfl (sp (Bv ((r.qI:Int) == 0)) (qJ 20 rfl rfl (sp (Bv ((r.qI:Int) == 0)) (sp (Bv ((r.qI:Int) == 0)) (sp (Bv ((r.qI:Int) == 0)) ?_)))))))))
   cases De:((r.qI:Int) == 0)
   ·replace De:=ne_of_beq_false De
    refine qJ 29 rfl rfl (oF rfl (qJ 29 rfl rfl (oL rfl (H.cell 0 rfl rfl) (qJ 29 rfl rfl (oN rfl (qJ 29 rfl rfl (sp (Bv (decide ((r.xe.length:Int) > 3))) (sp (Bv (decide ((r.xe.length:Int) > 3))) (zjn (cD rfl (fun pd=>?_) (fun pd=>?_)))))))))))
    ·refine zcr (sp (Bv false) (zjr (t_r (rH1 (Bv false) H ?_))))
     rw [xh (fun h=>by obtain ⟨h1,h2,h3,h4,h5,h6,h7,h8,h9,aZ,aU⟩:=h;omega)]
    refine qV (t_n (zcc (oF rfl (oL rfl (H.cell 0 rfl rfl) (oF rfl (oL rfl (H.cell 0 rfl rfl) (oF rfl (oL rfl (H.cell 0 rfl rfl) (oF rfl (oL rfl (H.cell 0 rfl rfl) (oF rfl (oL rfl (H.cell 0 rfl rfl) (sw (o_buildF H underlying29 ti24 [Sv Xf r.zk.length Xb,Sv Xi r.vk.length Xe,Sv Xg r.vw.length Xc,Sv Xh r.zS.length Xd,Sv bP r.jX.length bN] rfl (by simp [Value.cells]) rfl qj qj fun ZG w60 H=>oN rfl (sp (yI 0) (zjn (qR ?_)))))))))))))))))
    replace H:=H.boxRow 0 rfl 1 5 rfl qj
    replace H:=H.jo (α:=yLI)
    replace H:=H.Vy false 7 rfl 0 rfl qm
    replace H:=H.Vy false 7 rfl 0 rfl qm
    replace H:=H.Vy false 7 rfl 0 rfl qm
    replace H:=H.Vy false 7 rfl 0 rfl qm
    replace H:=H.Vy false 7 rfl 0 rfl qm
    refine zl ((fun Z0 Z1 Z2 Z3 Z4 Z5 Z6 Z7 Z8 Z9 bx bG=>fun m' ρ KY=>∃ (xE:Env) (k:Nat),ρ=upd (upd (upd (upd (upd xE 2 (pp b1 0)) 3 (pp b3 0)) 45 (Sv (aa ZG 0) 5 5)) 46 (yI 5)) 47 (yI k)/\((k:Int)<=5)/\(∀ j,j < k->vZ s.xK ([r.zk,r.vk,r.vw,r.zS,r.jX][j]!))/\m' =(5 - (k:Int)).toNat/\Fresh w.heap.size []/\St w KY [Z0,Z1,Z2] [Z3,Z4,Z5,Z6,Z7,Z8,Z9,bx,bG]) _ _ _ _ _ _ _ _ _ _ _ _) ((5 - (0:Int)).toNat) ⟨_,0,uE5,qf,(by intro j hj;omega),rfl,N,H.pick [0,1,2] (0::zR 6 8)⟩ ?_
    clear H N
    rintro m' ρ w62 ⟨xE,k,rfl,i0,i1,rfl,N,H⟩
    refine zcr (sp (Bv (decide ((k:Int) < 5))) (zjn (xQ (cD rfl (fun h63=>?_) (fun h63=>?_)))))
    ·refine qV (t_n (xQ (qR (zcr (oI rfl rfl ?_)))))
     obtain ⟨a64,c65,G66,s67,Ez,H⟩:=H.yg 0 rfl 0 rfl (iv:=k) k qf qf
     refine oL rfl (Ez) (sq 1 (zjc (oF rfl (oL rfl (H.cell 2 rfl rfl) (sq 1 (sw (oq (VB _ s.xK ([r.zk,r.vk,r.vw,r.zS,r.jX][k]!) (H.get 0 rfl).1) H fun HD H=>sq 1 (zjn (cQ rfl (fun h71=>?_) (fun h71=>?_))))))))))
     ·refine zcr (sp (Bv false) (zjr (zr5 (rH1 (Bv false) H ?_))))
      rw [xh (fun h=>by obtain ⟨h1,h2,h3,h4,h5,h6,h7,h8,h9,aZ,aU⟩:=h;(refine absurd ?_ ‹¬ vZ _ _›;rcases (show k=0\/k=1\/k=2\/k=3\/k=4 by omega) with e | e | e | e | e <;> subst e <;> assumption))]
     refine qV (b_n (t_n (xJ (sw (zn k 1 rfl rfl qf (sq 1 (xO (qX (m' :=(5 - ((k+1):Int)).toNat) qf ⟨_,k+1,uE5,?_,?_,rfl,N,H.pick [0,1,2] (zR 1 9)⟩))))))))
     ·omega
     ·intro j hj;by_cases e:j=k;(subst e;assumption);exact i1 j qf
    refine zx4 (zcc (oF rfl (oL rfl (H.cell 1 rfl rfl) (oN rfl (sp (yI 0) (zjn (qR ?_)))))))
    have n1:vZ s.xK r.zk:=i1 0 qf
    have n2:vZ s.xK r.vk:=i1 1 qf
    have n3:vZ s.xK r.vw:=i1 2 qf
    have n4:vZ s.xK r.zS:=i1 3 qf
    have n5:vZ s.xK r.jX:=i1 4 qf
    refine zl ((fun Z0 Z1 Z2 Z3 Z4 Z5 Z6 Z7 Z8 Z9 bx bG=>fun m' ρ HE=>∃ (xE:Env) (i:Nat),ρ=upd (upd (upd (upd (upd xE 2 (pp b1 0)) 3 (pp b3 0)) 58 (Sv Qy r.xe.length Qm)) 59 (yI r.xe.length)) 60 (yI i)/\((i:Int)<=r.xe.length)/\(IntosTo s r i)/\m' =(r.xe.length - (i:Int)).toNat/\Fresh w.heap.size []/\St w HE [Z0,Z1,Z2] [Z3,Z4,Z5,Z6,Z7,Z8,Z9,bx,bG]) _ _ _ _ _ _ _ _ _ _ _ _) ((r.xe.length - (0:Int)).toNat) ⟨_,0,uE5,qf,qx,rfl,N,H⟩ ?_
    clear H N
    rintro m' ρ w73 ⟨xE,i,rfl,i0,i2,rfl,N,H⟩
    refine zcr (sq 1 (zjn (xQ (cD rfl (fun VQ=>?_) (fun VQ=>?_)))))
    ·refine qV (t_n (xQ (qR (zcr (sp (yI i) ?_)))))
     obtain ⟨b75,o76,rfl⟩:=H.addr 8 rfl qf
     obtain ⟨Ax,Aj,adu,H⟩:=H.yJ 8 rfl i i qf qf qf
     refine oI rfl rfl (sw (xU [yI ((r.xe[i]!).qI),Sv Ax (((r.xe[i]!).Qa).length) Aj] isAgg128 sizeOf128 rfl (qF (H.get 1 rfl) 0 2) (sw (xq H ti128 [yI 0,yN] fun kF MS H=>sp (yI i) (sw (xY H 0 [yI ((r.xe[i]!).qI),Sv Ax (((r.xe[i]!).Qa).length) Aj] sizeOf128 fun SR H=>zjn (xQ (jE rfl H fun H=>rt 0 _ (y8 (cs:=(yS s qG qE qO qN)) isAgg27 sizeOf27 rfl (fun _ h=>qF (h.cells 3 rfl) 0 3)) H ?_))))))))
     refine tF 1 rfl rfl H ?_
     refine tL 2 rfl rfl (fun _ h=>h.cell 0 rfl rfl) H ?_
     refine ro 3 rfl (oq (isCell_ok _ s ((r.xe[i]!).qI) (H.get 3 rfl).1 (H.get 4 rfl).1) H fun HG H=>⟨H,(rtp 4 (Bv (!(inR ((r.xe[i]!).qI) 0 ((s.qA.length:Int) - 1)))) H ?_)⟩)
     refine rtp 5 (Bv (!(inR ((r.xe[i]!).qI) 0 ((s.qA.length:Int) - 1)))) H ?_
     cases lB:(!(inR ((r.xe[i]!).qI) 0 ((s.qA.length:Int) - 1)))
     ·replace lB:=xn lB
      replace lB:=QV.1 lB
      refine rg 6 _ 70 (y8 (cs:=(yS s qG qE qO qN)) isAgg27 sizeOf27 rfl (fun _ h=>qF (h.cells 3 rfl) 0 3)) H ?_
      refine gF 7 rfl rfl H ?_
      refine gL 8 rfl rfl (fun _ h=>h.cell 0 rfl rfl) H ?_
      refine gF 9 rfl rfl H ?_
      refine gL 10 rfl rfl (fun _ h=>h.cell 2 rfl rfl) H ?_
      refine vK [11] qh qm (VN rfl (e:=70) rfl rfl (oq (lies_ok _ s ((r.xe[i]!).qI) r.qI (H.get 3 rfl).1 (H.get 4 rfl).1 qg qg) H fun Mn H=>⟨H,(rgp 12 (Bv (!(dec (Lies s.qA r.qI ((r.xe[i]!).qI))))) 70 H ?_)⟩) vM)
      refine rtp 13 (Bv (!(dec (Lies s.qA r.qI ((r.xe[i]!).qI))))) H ?_
      refine rtp 14 (Bv (!(dec (Lies s.qA r.qI ((r.xe[i]!).qI))))) H ?_
      cases wB:(!(dec (Lies s.qA r.qI ((r.xe[i]!).qI))))
      ·replace wB:=xn wB
       replace wB:=yG wB
       refine gF 15 rfl rfl H ?_
       refine gL 16 rfl rfl (fun _ h=>h.cell 3 rfl rfl) H ?_
       refine gF 17 rfl rfl H ?_
       refine gL 18 rfl rfl (fun _ h=>h.cell 0 rfl rfl) H ?_
       refine vK [19] qh qm (VN rfl (e:=79) rfl rfl (oq (VB _ s.xK ((r.xe[i]!).Qa) (H.get 0 rfl).1) H fun TN H=>⟨H,(rgp 20 (Bv (!(dec (vZ s.xK ((r.xe[i]!).Qa))))) 79 H ?_)⟩) vM)
       refine rtp 21 (Bv (!(dec (vZ s.xK ((r.xe[i]!).Qa))))) H ?_
       refine rtp 22 (Bv (!(dec (vZ s.xK ((r.xe[i]!).Qa))))) H ?_
       cases HQ:(!(dec (vZ s.xK ((r.xe[i]!).Qa))))
       ·replace HQ:=xn HQ
        replace HQ:=yG HQ
        refine gF 23 rfl rfl H ?_
        refine gL 24 rfl rfl (fun _ h=>h.cell 0 rfl rfl) H ?_
        refine vK [25] qh qm (VN rfl (e:=87) rfl rfl ?_ vM)
        have sm:Small ((r.xe[i]!).Qa):=vX (by assumption)
        refine oq (XC _ ((r.xe[i]!).Qa) (H.get 0 rfl).1 (by assumption)) H fun Zw H=>⟨H,(rgp 26 (Bv ((QS ((r.xe[i]!).Qa):Int) == 0)) 87 H ?_)⟩
        refine rtp 27 (Bv ((QS ((r.xe[i]!).Qa):Int) == 0)) H ?_
        refine rtp 28 (Bv ((QS ((r.xe[i]!).Qa):Int) == 0)) H ?_
        cases PR:((QS ((r.xe[i]!).Qa):Int) == 0)
        ·replace PR:=ne_of_beq_false PR
         refine rgp 29 (yI i) 93 H ?_
         refine rgp 30 (Bv (decide ((i:Int) > 0))) 93 H ?_
         refine rgp 31 (Bv (decide ((i:Int) > 0))) 93 H ?_
         cases h97:(decide ((i:Int) > 0))
         ·replace h97:=of_decide_eq_false h97
          refine vG (zR 32 10) 10 (H) (rgp 42 (Bv false) 93 H ?_)
          refine rtp 43 (Bv false) H ?_
          refine xw qh (t_n (cFr rfl (qV (b_n (t_n (xJ (sw (zn i 1 rfl rfl qf (sq 1 (xO (qX (m' :=(r.xe.length - ((i+1):Int)).toNat) qf ⟨_,i+1,uE5,?_,?_,rfl,N,H.pick [1,2,3] (zR 2 9)⟩)))))))))))
          ·omega
          ·exact i2.succ ⟨‹_›,‹_›,‹_›,‹_›,fun hk=>by omega⟩
         replace h97:=of_decide_eq_true h97
         refine gF 32 rfl rfl H ?_
         refine gL 33 rfl rfl (fun _ h=>h.cell 0 rfl rfl) H ?_
         refine gF 34 rfl rfl H ?_
         refine gL 35 rfl rfl (fun _ h=>h.cell 2 rfl rfl) H ?_
         refine rgp 36 (yI i) 96 H ?_
         refine rg 37 _ 96 (y_sub i 1 rfl rfl qf) H ?_
         obtain ⟨aed,ad0,ad4,H⟩:=H.yJ 10 rfl (i - 1) (i - 1) qf qf qf
         have S:=H.jm (zR 0 4) (zR 2 11)
         refine gI 38 rfl rfl rfl S ?_
         refine gF 39 rfl rfl S ?_
         refine vK [40] qh qm (VN rfl (e:=96) rfl rfl (x9 (yI ((r.xe[i - 1]!).qI)) isAgg2 rfl (H.xP 1 rfl 0 rfl) (⟨H.pick (zR 0 4) (zR 2 11),?_⟩)) vM)
         have S:=H.jm (zR 0 4) (zR 2 11)
         refine rgl 41 96 S ?_
         refine rgl 42 93 S ?_
         refine rtl 43 S ?_
         refine xw qh (t_n (cD rfl (fun h99=>?_) (fun h99=>?_)))
         ·refine zcr (sp (Bv false) (zjr (zr5 (rH1 (Bv false) H ?_))))
          rw [xh (fun h=>by obtain ⟨h1,h2,h3,h4,h5,h6,h7,h8,h9,aZ,aU⟩:=h;(obtain ⟨q1,q2,q3,q4,q5⟩:=aU i qf;omega))]
         refine qV (b_n (t_n (xJ (sw (zn i 1 rfl rfl qf (sq 1 (xO (qX (m' :=(r.xe.length - ((i+1):Int)).toNat) qf ⟨_,i+1,uE5,?_,?_,rfl,N,H.pick [1,2,3] (zR 4 9)⟩))))))))
         ·omega
         ·exact i2.succ ⟨‹_›,‹_›,‹_›,‹_›,fun hk=>by omega⟩
        replace PR:=eq_of_beq PR
        refine vG (zR 29 14) 14 (H) (rtp 43 (Bv true) H ?_)
        refine xw qh (t_n (cTr rfl (zcr (sp (Bv false) (zjr (zr5 (rH1 (Bv false) H ?_)))))))
        rw [xh (fun h=>by obtain ⟨h1,h2,h3,h4,h5,h6,h7,h8,h9,aZ,aU⟩:=h;(obtain ⟨q1,q2,q3,q4,q5⟩:=aU i qf;contradiction))]
       replace HQ:=xB HQ
       replace HQ:=zM HQ
       refine vG (zR 23 4) 4 (H) (rtp 27 (Bv true) H ?_)
       refine rtp 28 (Bv true) H ?_
       refine vG (zR 29 14) 14 (H) (rtp 43 (Bv true) H ?_)
       refine xw qh (t_n (cTr rfl (zcr (sp (Bv false) (zjr (zr5 (rH1 (Bv false) H ?_)))))))
       rw [xh (fun h=>by obtain ⟨h1,h2,h3,h4,h5,h6,h7,h8,h9,aZ,aU⟩:=h;(obtain ⟨q1,q2,q3,q4,q5⟩:=aU i qf;contradiction))]
      replace wB:=xB wB
      replace wB:=zM wB
      refine vG (zR 15 6) 6 (H) (rtp 21 (Bv true) H ?_)
      refine rtp 22 (Bv true) H ?_
      refine vG (zR 23 4) 4 (H) (rtp 27 (Bv true) H ?_)
      refine rtp 28 (Bv true) H ?_
      refine vG (zR 29 14) 14 (H) (rtp 43 (Bv true) H ?_)
      refine xw qh (t_n (cTr rfl (zcr (sp (Bv false) (zjr (zr5 (rH1 (Bv false) H ?_)))))))
      rw [xh (fun h=>by obtain ⟨h1,h2,h3,h4,h5,h6,h7,h8,h9,aZ,aU⟩:=h;(obtain ⟨q1,q2,q3,q4,q5⟩:=aU i qf;contradiction))]
     replace lB:=xB lB
     replace lB:=XD lB
     refine vG (zR 6 7) 7 (H) (rtp 13 (Bv true) H ?_)
     refine rtp 14 (Bv true) H ?_
     refine vG (zR 15 6) 6 (H) (rtp 21 (Bv true) H ?_)
     refine rtp 22 (Bv true) H ?_
     refine vG (zR 23 4) 4 (H) (rtp 27 (Bv true) H ?_)
     refine rtp 28 (Bv true) H ?_
     refine vG (zR 29 14) 14 (H) (rtp 43 (Bv true) H ?_)
     refine xw qh (t_n (cTr rfl (zcr (sp (Bv false) (zjr (zr5 (rH1 (Bv false) H ?_)))))))
     rw [xh (fun h=>by obtain ⟨h1,h2,h3,h4,h5,h6,h7,h8,h9,aZ,aU⟩:=h;(obtain ⟨q1,q2,q3,q4,q5⟩:=aU i qf;contradiction))]
    refine zx4 (zcr (oF rfl (oL rfl (H.cell 1 rfl rfl) ?_)))
    have sm:Small r.zk:=vX (by assumption)
    refine sw (oq (XC _ r.zk (H.get 3 rfl).1 (by assumption)) H fun IOz H=>sp (Bv (decide ((QS r.zk:Int) > 0))) (sp (Bv (decide ((QS r.zk:Int) > 0))) (zjr (rH1 (Bv (decide ((QS r.zk:Int) > 0))) H (congrArg Value.bool (dec_eq ?_))))))
    rw [decide_eq_true_iff]
    exact ⟨fun h=>⟨by omega,by omega,by simp_all,by omega,n1,n2,n3,n4,n5,by omega,(show i=r.xe.length by omega)▸i2⟩,fun h=>by have:=h.2.2.2.2.2.2.2.2.2.1;have:=sum_nonneg n1.1;omega⟩
   replace De:=eq_of_beq De
   refine xR (zR 30 4) (sp (Bv true) (zjn (cTr rfl (zcr (sp (Bv false) (zjr (t_r (rH1 (Bv false) H ?_))))))))
   rw [xh (fun h=>by obtain ⟨h1,h2,h3,h4,h5,h6,h7,h8,h9,aZ,aU⟩:=h;exact h3 ⟨‹_›,‹_›⟩)]
  replace aU:=xB aU
  replace aU:=XD aU
  refine xR (zR 21 7) (sp (Bv true) (sp (Bv true) (xR (zR 30 4) (sp (Bv true) (zjn (cTr rfl (zcr (sp (Bv false) (zjr (t_r (rH1 (Bv false) H ?_)))))))))))
  rw [xh (fun h=>by obtain ⟨h1,h2,h3,h4,h5,h6,h7,h8,h9,aZ,aU⟩:=h;contradiction)]
 replace h8:=xB h8
 replace h8:=XD h8
 refine xR (zR 15 4) (sp (Bv true) (sp (Bv true) (xR (zR 21 7) (sp (Bv true) (sp (Bv true) (xR (zR 30 4) (sp (Bv true) (zjn (cTr rfl (zcr (sp (Bv false) (zjr (t_r (rH1 (Bv false) H ?_))))))))))))))
 rw [xh (fun h=>by obtain ⟨h1,h2,h3,h4,h5,h6,h7,h8,h9,aZ,aU⟩:=h;contradiction)]
theorem validSystem_ok (w:World) (s:qC) (qP:zP w xk qG qE s.qA) (xm:zP w xW qO qN s.qB):Calls Tryz.prog 90 #[.agg #[yI s.xK,Sv qG s.qA.length qE,Sv qO s.qB.length qN]] w (Ret (fun v w' =>v=Bv (dec (ve s))) w):=by
 refine en func90 ntmps90 ?_
 have H:=((St.start w).arg xm).arg qP
 have zB:=qM qP
 have vP:=qM xm
 clear qP xm
 have N:=Fresh.nil w.heap.size
 have p1:=fun h:jk s=>h.2.1
 refine zcr (sw (zZ H (yS s qG qE qO qN) fun b1 w2 H=>sp (Bv false) (zjcc (sw (xU (yS s qG qE qO qN) isAgg27 sizeOf27 rfl (qF (H.cells 0 rfl) 0 3) (sw (oq (isShell_ok _ s (H.get 0 rfl).1 (H.get 1 rfl).1) H fun w4 H=>sp (Bv (!(dec (jk s)))) (sp (Bv (!(dec (jk s)))) ?_))))))))
 cases h6:(!(dec (jk s)))
 ·replace h6:=xn h6
  replace h6:=yG h6
  refine qJ 9 rfl rfl (oF rfl (qJ 9 rfl rfl (oL rfl (H.cell 0 rfl rfl) (qJ 9 rfl rfl (oN rfl (qJ 9 rfl rfl (sp (Bv (decide ((s.qB.length:Int) > 16))) (sp (Bv (decide ((s.qB.length:Int) > 16))) (zjn (cD rfl (fun h7=>?_) (fun h7=>?_)))))))))))
  ·refine zcr (sp (Bv false) (zjr (t_r (rH1 (Bv false) H ?_))))
   rw [xh (fun h=>by obtain ⟨h1,h2,h3⟩:=h;omega)]
  refine qV (t_n (zcr (sw (vU [yI 0,yI 0,yI 0,yI 0,yI 0,yI 0] [] (sw (xq H ti162 [yI 0,yI 0,yI 0,yI 0,yI 0,yI 0] fun b8 w9 H=>sw (xY H 0 [yI 0,yI 0,yI 0,yI 0,yI 0,yI 0] sizeOf162 fun nq H=>zjcc (oF rfl (oL rfl (H.cell 1 rfl rfl) (oN rfl (sp (yI 0) (zjn (qR ?_)))))))))))))
  have p2:=p1 ‹_›
  refine zl ((fun Z0 Z1 Z2=>fun m' ρ nr=>∃ (xE:Env) (k:Nat) (many:yLI),ρ=upd (upd (upd (upd (upd xE 1 (pp b1 0)) 3 (pp b8 0)) 17 (Sv qO s.qB.length qN)) 18 (yI s.qB.length)) 19 (yI k)/\many=counts6 s k/\((k:Int)<=s.qB.length)/\(RulesTo s k)/\m' =(s.qB.length - (k:Int)).toNat/\Fresh w.heap.size []/\St w nr [.box b8 (many.map (Value.int .i64)) 162,Z0] [Z1,Z2]) _ _ _) ((s.qB.length - (0:Int)).toNat) ⟨_,0,[0,0,0,0,0,0],uE5,(by exact counts6_zero s),qf,qx,rfl,N,H⟩ ?_
  clear H N
  rintro m' ρ uE ⟨xE,k,many,rfl,rfl,i0,i1,rfl,N,H⟩
  refine zcr (sq 1 (zjn (xQ (cD rfl (fun ir=>?_) (fun ir=>?_)))))
  ·refine qV (t_n (xQ (qR (zcr ?_))))
   obtain ⟨sO,o15,rfl⟩:=H.addr 1 rfl qf
   obtain ⟨pD,rH,Yu,rf,rY,acN,pY,ry,WN,pF,qb,abP,ul,ud,adI,qa,pK,aaa,H⟩:=H.jZ 1 rfl k k qf qf qf
   refine oI rfl rfl (sw (xU [yI ((s.qB[k]!).qI),yI ((s.qB[k]!).jG),Sv pD (((s.qB[k]!).zk).length) rH,Sv rf (((s.qB[k]!).vk).length) rY,Sv pY (((s.qB[k]!).vw).length) ry,Sv pF (((s.qB[k]!).zS).length) qb,Sv ul (((s.qB[k]!).jX).length) ud,Sv qa (((s.qB[k]!).xe).length) pK,Bv ((s.qB[k]!).vg)] isAgg70 sizeOf70 rfl (qF (H.get 6 rfl) 0 9) (sw (xq H ti70 [yI 0,yI 0,yN,yN,yN,yN,yN,yN,Bv false] fun Sa s0 H=>sw (xY H 0 [yI ((s.qB[k]!).qI),yI ((s.qB[k]!).jG),Sv pD (((s.qB[k]!).zk).length) rH,Sv rf (((s.qB[k]!).vk).length) rY,Sv pY (((s.qB[k]!).vw).length) ry,Sv pF (((s.qB[k]!).zS).length) qb,Sv ul (((s.qB[k]!).jX).length) ud,Sv qa (((s.qB[k]!).xe).length) pK,Bv ((s.qB[k]!).vg)] sizeOf70 fun rO H=>(zjcc (sw (xU [yI s.xK,Sv qG s.qA.length qE,Sv (aa sO o15) s.qB.length qN] isAgg27 sizeOf27 rfl (qF (H.cells 2 rfl) 0 3) (sw (xU [yI ((s.qB[k]!).qI),yI ((s.qB[k]!).jG),Sv pD (((s.qB[k]!).zk).length) rH,Sv rf (((s.qB[k]!).vk).length) rY,Sv pY (((s.qB[k]!).vw).length) ry,Sv pF (((s.qB[k]!).zS).length) qb,Sv ul (((s.qB[k]!).jX).length) ud,Sv qa (((s.qB[k]!).xe).length) pK,Bv ((s.qB[k]!).vg)] isAgg70 sizeOf70 rfl (qF (H.cells 0 rfl) 0 9) (sw (oq (isRule_ok _ s (s.qB[k]!) (H.get 7 rfl).1 (H.get 8 rfl).1 (H.get 0 rfl).1 (H.get 1 rfl).1 (H.get 2 rfl).1 (H.get 3 rfl).1 (H.get 4 rfl).1 (H.get 5 rfl).1 qg) H fun Hu H=>?_))))))))))))
   have q:=fun h:RuleOk s (s.qB[k]!)=>(show 0<=(s.qB[k]!).qI/\(s.qB[k]!).qI<=5 from ⟨h.1.1,by have:=h.1.2;omega⟩)
   refine sq 1 (zjn (cQ rfl (fun pg=>?_) (fun pg=>?_)))
   ·refine zcr (sp (Bv false) (zjr (t_r (zr5 (rH1 (Bv false) H ?_)))))
    rw [xh (fun h=>by obtain ⟨h1,h2,h3⟩:=h;(obtain ⟨r1,r2⟩:=h3 k qf;contradiction))]
   obtain ⟨q1,q2⟩:=q ‹_›
   have q3:=VF (s:=s) (k:=k) q1 q2
   have q4:=ofCell_bd s.qB (s.qB[k]!).qI k
   refine qV (t_n (zcr (oF rfl (oL rfl (H.cell 0 rfl rfl) (sw (o_idxArr ((s.qB[k]!).qI) underlying162 ti3 rfl rfl qf qf (oL rfl (H.cell 1 rfl (ints_at (iv:=(s.qB[k]!).qI) (i:=(((s.qB[k]!).qI).toNat)) qf (by simp only [List.length_set,List.length_cons,List.length_nil,counts6_len];omega))) (sw (zn ((counts6 s k)[((s.qB[k]!).qI).toNat]!) 1 rfl rfl qf (sw (o_idxArr ((s.qB[k]!).qI) underlying162 ti3 rfl rfl qf qf (sw (o_storeArr H 1 rfl (((counts6 s k)[((s.qB[k]!).qI).toNat]!)+1) sizeOf3 rfl rfl (i:=(((s.qB[k]!).qI).toNat)) qf (by simp only [List.length_set,List.length_cons,List.length_nil,counts6_len];omega) fun C5 H=>?_)))))))))))))
   rw [counts6_succ q1 q2] at H
   refine zjc (oF rfl (oL rfl (H.cell 0 rfl rfl) (sw (o_idxArr ((s.qB[k]!).qI) underlying162 ti3 rfl rfl qf qf (oL rfl (H.cell 1 rfl (ints_at (iv:=(s.qB[k]!).qI) (i:=(((s.qB[k]!).qI).toNat)) qf (by simp only [List.length_set,List.length_cons,List.length_nil,counts6_len];omega))) (sp (Bv (decide (((counts6 s (k+1))[((s.qB[k]!).qI).toNat]! :Int) > 8))) (zjn (cD rfl (fun Gu=>?_) (fun Gu=>?_)))))))))
   ·refine zcr (sp (Bv false) (zjr (zr5 (rH1 (Bv false) H ?_))))
    rw [xh (fun h=>by obtain ⟨h1,h2,h3⟩:=h;(obtain ⟨r1,r2⟩:=h3 k qf;(have:=VF (s:=s) (k:=k+1) q1 q2;omega)))]
   refine qV (b_n (t_n (xJ (sw (zn k 1 rfl rfl qf (sq 1 (xO (qX (m' :=(s.qB.length - ((k+1):Int)).toNat) qf ⟨_,k+1,_,uE5,?_,?_,?_,rfl,N,H.pick [1,2] [7,8]⟩))))))))
   ·rfl
   ·omega
   ·exact i1.succ ‹_› (by have:=VF (s:=s) (k:=k+1) q1 q2;omega)
  refine zx4 (zcr (sp (Bv true) (zjr (rH1 (Bv true) H ?_))))
  rw [jH ⟨by assumption,by omega,(show s.qB.length=k by omega)▸i1⟩]
 replace h6:=xB h6
 replace h6:=zM h6
 refine xR (zR 10 4) (sp (Bv true) (zjn (cTr rfl (zcr (sp (Bv false) (zjr (t_r (rH1 (Bv false) H ?_))))))))
 rw [xh (fun h=>by obtain ⟨h1,h2,h3⟩:=h;contradiction)]
theorem validState_ok (w:World) (s:qC) (t:qH) (qP:zP w xk qG qE s.qA) (xm:zP w xW qO qN s.qB) (zi:zP w zD xg xf t.qK) (zI:zP w vF xI xG t.qQ) (xM:zP w zh qZ qY t.qL):Calls Tryz.prog 51 #[.agg #[yI s.xK,Sv qG s.qA.length qE,Sv qO s.qB.length qN],.agg #[Sv xg t.qK.length xf,Sv xI t.qQ.length xG,Sv qZ t.qL.length qY]] w (Ret (fun v w' =>v=Bv (dec (ve s/\xZ s t))) w):=by
 refine en func51 ntmps51 ?_
 have H:=(((((St.start w).arg xM).arg zI).arg zi).arg xm).arg qP
 have zB:=qM qP
 clear qP xm zi zI xM
 have N:=Fresh.nil w.heap.size
 refine zcr (sw (zZ H (yS s qG qE qO qN) fun b1 w2 H=>sw (zZ H (yT t xg xf xI xG qZ qY) fun b3 w4 H=>sp (Bv false) (zjcc (sw (xU (yS s qG qE qO qN) isAgg27 sizeOf27 rfl (qF (H.cells 1 rfl) 0 3) (sw (oq (validSystem_ok _ s (H.get 0 rfl).1 (H.get 1 rfl).1) H fun w6 H=>sp (Bv (!(dec (ve s)))) (sp (Bv (!(dec (ve s)))) ?_)))))))))
 cases h8:(!(dec (ve s)))
 ·replace h8:=xn h8
  replace h8:=yG h8
  have z1:=(‹ve s›:ve s).1.2.1
  refine qJ 10 rfl rfl (oF rfl (qJ 10 rfl rfl (oL rfl (H.cell 0 rfl rfl) (qJ 10 rfl rfl (oN rfl (qJ 10 rfl rfl (oF rfl (qJ 10 rfl rfl (oL rfl (H.cell 1 rfl rfl) (qJ 10 rfl rfl (oN rfl (qJ 10 rfl rfl (sp (Bv ((t.qK.length:Int) != s.qA.length)) (sp (Bv ((t.qK.length:Int) != s.qA.length)) (sp (Bv ((t.qK.length:Int) != s.qA.length)) ?_)))))))))))))))
  cases h9:((t.qK.length:Int) != s.qA.length)
  ·replace h9:=xx h9
   refine qJ 19 rfl rfl (oF rfl (qJ 19 rfl rfl (oL rfl (H.cell 0 rfl rfl) (qJ 19 rfl rfl (oN rfl (qJ 19 rfl rfl (oF rfl (qJ 19 rfl rfl (oL rfl (H.cell 1 rfl rfl) (qJ 19 rfl rfl (oN rfl (qJ 19 rfl rfl (sp (Bv ((t.qQ.length:Int) != s.qA.length)) (sp (Bv ((t.qQ.length:Int) != s.qA.length)) (sp (Bv ((t.qQ.length:Int) != s.qA.length)) ?_)))))))))))))))
   cases aZ:((t.qQ.length:Int) != s.qA.length)
   ·replace aZ:=xx aZ
    refine qJ 28 rfl rfl (oF rfl (qJ 28 rfl rfl (oL rfl (H.cell 0 rfl rfl) (qJ 28 rfl rfl ?_))))
    obtain ⟨ls,Ih,rfl⟩:=H.addr 2 rfl qf
    refine oI rfl rfl (qJ 28 rfl rfl (oL rfl (H.elemBoolN 2 rfl 0 qf) (qJ 28 rfl rfl (sp (Bv (!(t.qK[0]!))) (sp (Bv (!(t.qK[0]!))) (sp (Bv (!(t.qK[0]!))) ?_))))))
    cases dO:(!(t.qK[0]!))
    ·replace dO:=xn dO
     refine qJ 35 rfl rfl (oF rfl (qJ 35 rfl rfl (oL rfl (H.cell 1 rfl rfl) (qJ 35 rfl rfl (oF rfl (qJ 35 rfl rfl (oL rfl (H.cell 0 rfl rfl) (qJ 35 rfl rfl (sw (oq (VB _ s.xK t.qL (H.get 4 rfl).1) H fun yi H=>qJ 35 rfl rfl (sq 2 (zjn (cQ rfl (fun tY=>?_) (fun tY=>?_))))))))))))))
     ·refine zcr (sp (Bv false) (zjr (t_r (rH1 (Bv false) H ?_))))
      rw [xh (fun h=>by obtain ⟨h0,h1,h2,h3,h4,h5⟩:=h;contradiction)]
     refine qV (t_n (zcc (oF rfl (oL rfl (H.cell 0 rfl rfl) (oN rfl (sp (yI 0) (zjn (qR (zl ((fun Z0 Z1 Z2 Z3 Z4 Z5 Z6=>fun m' ρ Dn=>∃ (xE:Env) (c:Nat),ρ=upd (upd (upd (upd (upd xE 2 (pp b1 0)) 3 (pp b3 0)) 44 (Sv xI t.qQ.length xG)) 45 (yI t.qQ.length)) 46 (yI c)/\((c:Int)<=t.qQ.length)/\(BagsTo s t c)/\m' =(t.qQ.length - (c:Int)).toNat/\Fresh w.heap.size []/\St w Dn [Z0,Z1] [Z2,Z3,Z4,Z5,Z6]) _ _ _ _ _ _ _) ((t.qQ.length - (0:Int)).toNat) ⟨_,0,uE5,qf,qx,rfl,N,H⟩ ?_)))))))))
     clear H N
     rintro m' ρ s0 ⟨xE,c,rfl,i0,i1,rfl,N,H⟩
     refine zcr (sq 1 (zjn (xQ (cD rfl (fun oV=>?_) (fun oV=>?_)))))
     ·refine qV (t_n (xQ (qR (zcr (sp (yI c) ?_)))))
      obtain ⟨sg,o22,rfl⟩:=H.addr 3 rfl qf
      obtain ⟨ar7,avw,auJ,H⟩:=H.zW 3 rfl c c qf qf qf
      refine oI rfl rfl (oL rfl (H.xP 1 rfl 0 rfl) (sp (yI c) (sq 1 (zjc (oF rfl (oL rfl (H.cell 1 rfl rfl) (sq 1 (sw (oq (VB _ s.xK (t.qQ[c]!) (H.get 0 rfl).1) H fun C5 H=>sp (Bv (!(dec (vZ s.xK (t.qQ[c]!))))) (sp (Bv (!(dec (vZ s.xK (t.qQ[c]!))))) ?_))))))))))
      cases lJ:(!(dec (vZ s.xK (t.qQ[c]!))))
      ·replace lJ:=xn lJ
       replace lJ:=yG lJ
       refine qJ 56 rfl rfl (oF rfl (qJ 56 rfl rfl (oL rfl (H.cell 0 rfl rfl) (qJ 56 rfl rfl (sp (yI c) (qJ 56 rfl rfl (oI rfl rfl (qJ 56 rfl rfl (oL rfl (H.elemBoolN 4 rfl c qf) (qJ 56 rfl rfl (sp (Bv (!(t.qK[c]!))) (qJ 56 rfl rfl (sp (Bv (!(t.qK[c]!))) ?_)))))))))))))
       cases te:(!(t.qK[c]!))
       ·replace te:=xn te
        refine xR [64,65,66] (qJ 56 rfl rfl (sp (Bv false) (sp (Bv false) (zjn (cFr rfl (qV (b_n (t_n (xJ (sw (zn c 1 rfl rfl qf (sq 1 (xO (qX (m' :=(t.qQ.length - ((c+1):Int)).toNat) qf ⟨_,c+1,uE5,?_,?_,rfl,N,H.pick [0,1] (zR 2 5)⟩))))))))))))))
        ·omega
        ·exact i1.succ ‹_› (fun hk=>by simp_all)
       replace te:=xB te
       refine qJ 63 rfl rfl (sq 1 (qJ 63 rfl rfl (sw (oq (XC _ (t.qQ[c]!) (H.get 0 rfl).1 (by exact vX ql)) H fun Dk H=>qJ 63 rfl rfl (sp (Bv (decide ((QS (t.qQ[c]!):Int) > 0))) (qJ 56 rfl rfl (sp (Bv (decide ((QS (t.qQ[c]!):Int) > 0))) (sp (Bv (decide ((QS (t.qQ[c]!):Int) > 0))) (zjn (cD rfl (fun h31=>?_) (fun h31=>?_)))))))))))
       ·refine zcr (sp (Bv false) (zjr (zr5 (rH1 (Bv false) H ?_))))
        rw [xh (fun h=>by obtain ⟨h0,h1,h2,h3,h4,h5⟩:=h;(obtain ⟨q1,q2⟩:=h5 c qf;(have:=q2 ql;omega)))]
       refine qV (b_n (t_n (xJ (sw (zn c 1 rfl rfl qf (sq 1 (xO (qX (m' :=(t.qQ.length - ((c+1):Int)).toNat) qf ⟨_,c+1,uE5,?_,?_,rfl,N,H.pick [0,1] (zR 2 5)⟩))))))))
       ·omega
       ·exact i1.succ ‹_› (fun hk=>by omega)
      replace lJ:=xB lJ
      replace lJ:=zM lJ
      refine xR (zR 57 11) (sp (Bv true) (zjn (cTr rfl (zcr (sp (Bv false) (zjr (zr5 (rH1 (Bv false) H ?_))))))))
      rw [xh (fun h=>by obtain ⟨h0,h1,h2,h3,h4,h5⟩:=h;(obtain ⟨q1,q2⟩:=h5 c qf;contradiction))]
     refine zx4 (zcr (sp (Bv true) (zjr (rH1 (Bv true) H ?_))))
     rw [jH ⟨by assumption,by omega,by omega,by assumption,by assumption,(show t.qQ.length=c by omega)▸i1⟩]
    replace dO:=xB dO
    refine xR (zR 36 6) (sp (Bv true) (zjn (cTr rfl (zcr (sp (Bv false) (zjr (t_r (rH1 (Bv false) H ?_))))))))
    rw [xh (fun h=>by obtain ⟨h0,h1,h2,h3,h4,h5⟩:=h;(simp_all;done))]
   replace aZ:=bne_iff_ne.1 aZ
   refine xR (zR 29 5) (sp (Bv true) (sp (Bv true) (xR (zR 36 6) (sp (Bv true) (zjn (cTr rfl (zcr (sp (Bv false) (zjr (t_r (rH1 (Bv false) H ?_)))))))))))
   rw [xh (fun h=>by obtain ⟨h0,h1,h2,h3,h4,h5⟩:=h;omega)]
  replace h9:=bne_iff_ne.1 h9
  refine xR (zR 20 7) (sp (Bv true) (sp (Bv true) (xR (zR 29 5) (sp (Bv true) (sp (Bv true) (xR (zR 36 6) (sp (Bv true) (zjn (cTr rfl (zcr (sp (Bv false) (zjr (t_r (rH1 (Bv false) H ?_))))))))))))))
  rw [xh (fun h=>by obtain ⟨h0,h1,h2,h3,h4,h5⟩:=h;omega)]
 replace h8:=xB h8
 replace h8:=zM h8
 refine xR (zR 11 7) (sp (Bv true) (sp (Bv true) (xR (zR 20 7) (sp (Bv true) (sp (Bv true) (xR (zR 29 5) (sp (Bv true) (sp (Bv true) (xR (zR 36 6) (sp (Bv true) (zjn (cTr rfl (zcr (sp (Bv false) (zjr (t_r (rH1 (Bv false) H ?_)))))))))))))))))
 rw [xh (fun h=>by obtain ⟨h0,h1,h2,h3,h4,h5⟩:=h;contradiction)]
theorem parentNow_ok (w:World) (s:qC) (t:qH) (c:Int) (qP:zP w xk qG qE s.qA) (xm:zP w xW qO qN s.qB) (zi:zP w zD xg xf t.qK) (zI:zP w vF xI xG t.qQ) (xM:zP w zh qZ qY t.qL) (p0:jk s) (p1:QU s c) (p2:t.qK.length=s.qA.length):Calls Tryz.prog 167 #[.agg #[yI s.xK,Sv qG s.qA.length qE,Sv qO s.qB.length qN],.agg #[Sv xg t.qK.length xf,Sv xI t.qQ.length xG,Sv qZ t.qL.length qY],yI c] w (Ret (fun v w' =>v=yI (xF s t c)) w):=by
 refine en func167 ntmps167 ?_
 have H:=(((((St.start w).arg xM).arg zI).arg zi).arg xm).arg qP
 have zB:=qM qP
 clear qP xm zi zI xM
 have N:=Fresh.nil w.heap.size
 have p3:=p0.step p1.1 p1.2
 refine zcr (sw (zZ H (yS s qG qE qO qN) fun b1 w2 H=>sw (zZ H (yT t xg xf xI xG qZ qY) fun b3 w4 H=>sp (yI 0) (zjc (oF rfl (oL rfl (H.cell 1 rfl rfl) (sp (yI c) ?_)))))))
 obtain ⟨b5,o6,rfl⟩:=H.addr 0 rfl qf
 refine oI rfl rfl (oL rfl (H.elemInt 0 rfl c qf qf) (sq 1 (zjn (xQ (qR (zl ((fun Z0 Z1 Z2 Z3 Z4 Z5 Z6=>fun m' ρ w8=>∃ (xE:Env) (p:Int) (n:Nat),ρ=upd (upd (upd xE 3 (pp b1 0)) 4 (pp b3 0)) 7 (yI p)/\(-1<=p/\p<=(s.qA.length:Int) - 1)/\(p < n)/\(xF s t c=climb s.qA t.qK n p)/\m' =(p+1).toNat/\Fresh w.heap.size []/\St w w8 [Z0,Z1] [Z2,Z3,Z4,Z5,Z6]) _ _ _ _ _ _ _) (((s.qA[c.toNat]!)+1).toNat) ⟨_,s.qA[c.toNat]!,s.qA.length,uE3,qf,qf,(by rfl),rfl,N,H⟩ ?_))))))
 clear H N
 rintro m' ρ w9 ⟨xE,p,n,rfl,i0,i1,i2,rfl,N,H⟩
 have up:=fun h=>p0.step (c:=p) h i0.2
 refine zcc (sp (yI p) (sp (Bv (decide ((p:Int)>=0))) (sp (Bv (decide ((p:Int)>=0))) ?_)))
 cases aZ:(decide ((p:Int)>=0))
 ·replace aZ:=of_decide_eq_false aZ
  refine xR (zR 16 6) (sp (Bv false) (zjn (cFr rfl (zx4 (zcr (sp (yI p) (sp (yI p) (zjr (rH1 (yI p) H ?_)))))))))
  rw [i2,climb_end (by omega)]
 replace aZ:=of_decide_eq_true aZ
 refine qJ 15 rfl rfl (oF rfl (qJ 15 rfl rfl (oL rfl (H.cell 0 rfl rfl) (qJ 15 rfl rfl (sp (yI p) (qJ 15 rfl rfl ?_))))))
 obtain ⟨ls,Ih,rfl⟩:=H.addr 2 rfl qf
 refine oI rfl rfl (qJ 15 rfl rfl (oL rfl (H.elemBool 2 rfl p qf qf) (qJ 15 rfl rfl (sq 2 (zjn (zT _ rfl (fun dO=>?_) (fun dO=>?_)))))))
 ·replace dO:=xB dO
  refine qV (t_n (qR (xJ (oF rfl (oL rfl (H.cell 1 rfl rfl) (sp (yI p) (oI rfl rfl (oL rfl (H.elemInt 0 rfl p qf qf) (sq 1 (xO (b_n ?_)))))))))))
  have YY:=up qf
  refine qX (m' :=((s.qA[p.toNat]!)+1).toNat) qf ⟨_,_,n - 1,uE3,?_,?_,?_,rfl,N,H⟩
  ·omega
  ·omega
  ·exact i2.trans (climb_go qf qf ‹_›)
 replace dO:=xn dO
 refine zx4 (zcr (sp (yI p) (sp (yI p) (zjr (rH1 (yI p) H ?_)))))
 rw [i2,climb_end (by simp_all)]
theorem Vm (w:World) (t:qH) (zi:zP w zD xg xf t.qK) (zI:zP w vF xI xG t.qQ) (xM:zP w zh qZ qY t.qL) (p0:t.qK.length<=1000000) (p1:t.qL.length<=1000000) (p2:t.qQ.length<=1000000) (p3:∀ j,j < t.qQ.length->(t.qQ[j]!).length<=1000000):Calls Tryz.prog 71 #[.agg #[Sv xg t.qK.length xf,Sv xI t.qQ.length xG,Sv qZ t.qL.length qY]] w (Ret (fun v w' =>∃ (mM:yOA) (lP:Nat) (mt:Nat) (rP:yOA) (pP:Nat) (rJ:Nat) (rX:List Value) (qv:yLN) (iM:yOA) (ke:Nat) (iz:Nat),v=.agg #[Sv mM lP mt,Sv rP pP rJ,Sv iM ke iz]/\Fresh w.heap.size [qv]/\St w w' [rr mM lP mt 4 1 (t.qK.map (Value.bool)),rr rP pP rJ 24 1 rX,rr iM ke iz 2 1 (t.qL.map (Value.int .i64))] [xy true qv rX t.qQ]) w):=by
 refine en func71 ntmps71 ?_
 have H:=(((St.start w).arg xM).arg zI).arg zi
 clear zi zI xM
 have N:=Fresh.nil w.heap.size
 refine zcr (sw (zZ H (yT t xg xf xI xG qZ qY) fun b1 w2 H=>sw (xq H ti31 [yN,yN,yN] fun b3 w4 H=>zjn (xQ (VP (fun ρ nq=>∃ (xE:Env) (b5:Nat) (Du:yOA) (Dp:Nat) (a8:yOA) (c9:Nat),ρ=upd (upd (upd xE 1 (pp b1 0)) 2 (pp b3 0)) 3 (pp b5 0)/\Fresh w.heap.size []/\St w nq [.box b5 [Sv Du t.qK.length Dp,yN,Sv a8 t.qL.length c9] 31,rr a8 t.qL.length c9 2 1 (t.qL.map (Value.int .i64)),rr Du t.qK.length Dp 4 1 (t.qK.map (Value.bool)),.box b3 [yN,yN,yN] 31,.box b1 (yT t xg xf xI xG qZ qY) 31] [sF false zD xg xf t.qK,sF false vF xI xG t.qQ,sF false zh qZ qY t.qL]) ?_ ?_)))))
 ·refine jE rfl H fun H=>tF 0 rfl rfl H ?_
  refine tL 1 rfl rfl (fun _ h=>h.cell 1 rfl rfl) H ?_
  refine tF 3 rfl rfl H ?_
  refine tL 4 rfl rfl (fun _ h=>h.cell 1 rfl rfl) H ?_
  refine vK [2,7] qh qm (jb rfl ?_ (jb rfl ?_ vM))
  ·refine oc (cloneB_ok _ t.qK (H.get 0 rfl).1 qg) ?_
   rintro _ xV ⟨kH,abX,kM,rfl,M,K⟩ _
   replace H:=H.merge K M
   obtain rfl:=H.VM 0 rfl
   refine ⟨H.pick [1,2] [0,1,2],(vK [5,7] qh qm (jb rfl ?_ (jb rfl ?_ vM)))⟩
   ·refine oc (cloneI_ok _ t.qL (H.get 2 rfl).1 qg) ?_
    rintro v23 In r23 x22
    replace H:=H.zH x22 r23
    obtain ⟨a24,u6,rfl,ama,amu⟩:=H.jL 0 rfl
    refine ⟨H.pick [2,3] [0,1,2],(vK [6,7] qh qm (jb rfl ?_ (jb rfl ?_ vM)))⟩
    ·refine vU [Sv kH t.qK.length kM,yN,Sv a24 t.qL.length u6] [(0,Sv kH t.qK.length kM),(2,Sv a24 t.qL.length u6)] (⟨H.pick [2,3] [0,1,2],(ro 7 rfl (xq H ti31 [yN,yN,yN] fun wH Dk H=>⟨H.pick [3,4] [0,1,2],(ro 8 rfl (xY H 0 [Sv kH t.qK.length kM,yN,Sv a24 t.qL.length u6] sizeOf31 fun AP H=>⟨H.pick [3,4] [0,1,2],(xw qh ((meet ⟨_,wH,kH,kM,a24,u6,uE3,N,H⟩)))⟩))⟩))⟩)
    refine xq H ti31 [yN,yN,yN] fun vl Dc H=>⟨H.pick [3,4] [0,1,2],(ro 6 rfl (vU [Sv kH t.qK.length kM,yN,Sv a24 t.qL.length u6] [(0,Sv kH t.qK.length kM),(2,Sv a24 t.qL.length u6)] (⟨H.pick [3,4] [0,1,2],(ro 8 rfl (xY H 0 [Sv kH t.qK.length kM,yN,Sv a24 t.qL.length u6] sizeOf31 fun CC H=>⟨H.pick [3,4] [0,1,2],(xw qh ((meet ⟨_,vl,kH,kM,a24,u6,uE3,N,H⟩)))⟩))⟩)))⟩
   refine xq H ti31 [yN,yN,yN] fun vr Dr H=>⟨H.pick [2,3] [0,1,2],(ro 5 rfl ?_)⟩
   refine oc (cloneI_ok _ t.qL (H.get 2 rfl).1 qg) ?_
   rintro v41 E4 r41 x40
   replace H:=H.zH x40 r41
   obtain ⟨HP,Hn,rfl,ae5,ahJ⟩:=H.jL 0 rfl
   refine ⟨H.pick [3,4] [0,1,2],(ro 6 rfl (vU [Sv kH t.qK.length kM,yN,Sv HP t.qL.length Hn] [(0,Sv kH t.qK.length kM),(2,Sv HP t.qL.length Hn)] (⟨H.pick [3,4] [0,1,2],(ro 8 rfl (xY H 1 [Sv kH t.qK.length kM,yN,Sv HP t.qL.length Hn] sizeOf31 fun C1 H=>⟨H.pick [3,4] [0,1,2],(xw qh ((meet ⟨_,vr,kH,kM,HP,Hn,uE3,N,H.pick [1,0,2,3,4] [0,1,2]⟩)))⟩))⟩)))⟩
  refine xq H ti31 [yN,yN,yN] fun RC Pc H=>⟨H.pick [1,2] [0,1,2],(ro 2 rfl ?_)⟩
  refine oc (cloneB_ok _ t.qK (H.get 0 rfl).1 qg) ?_
  rintro _ HC ⟨C2,aeD,wI,rfl,M,K⟩ _
  replace H:=H.merge K M
  obtain rfl:=H.VM 0 rfl
  refine ⟨H.pick [2,3] [0,1,2],(ro 5 rfl ?_)⟩
  refine oc (cloneI_ok _ t.qL (H.get 2 rfl).1 qg) ?_
  rintro v60 Jp r60 x59
  replace H:=H.zH x59 r60
  obtain ⟨a61,JN,rfl,ajP,alj⟩:=H.jL 0 rfl
  refine ⟨H.pick [3,4] [0,1,2],(ro 6 rfl (vU [Sv C2 t.qK.length wI,yN,Sv a61 t.qL.length JN] [(0,Sv C2 t.qK.length wI),(2,Sv a61 t.qL.length JN)] (⟨H.pick [3,4] [0,1,2],(ro 8 rfl (xY H 2 [Sv C2 t.qK.length wI,yN,Sv a61 t.qL.length JN] sizeOf31 fun Pm H=>⟨H.pick [3,4] [0,1,2],(xw qh ((meet ⟨_,RC,C2,wI,a61,JN,uE3,N,H.pick [2,0,1,3,4] [0,1,2]⟩)))⟩))⟩)))⟩
 clear H N
 rintro ρ E1 ⟨xE,b5,Du,Dp,a8,c9,rfl,N,H⟩
 refine t_n (zcc (oF rfl (oL rfl (H.cell 4 rfl rfl) (oN rfl (sp (yI 0) (zjn (qR ?_)))))))
 replace H:=H.nilRow 24 1
 replace H:=H.jo (α:=yLI)
 refine zl ((fun Z0 Z1 Z2 Z3 Z4 Z5 Z6=>fun m' ρ P0=>∃ (xE:Env) (k:Nat) (yw:yOA) (ji:Nat) (yu:Nat) (au:yLL) (jg:List Value) (zG:yLN),ρ=upd (upd (upd (upd (upd xE 2 (pp b3 0)) 3 (pp b5 0)) 14 (Sv xI t.qQ.length xG)) 15 (yI t.qQ.length)) 16 (yI k)/\au=t.qQ.take k/\((k:Int)<=t.qQ.length)/\m' =(t.qQ.length - (k:Int)).toNat/\Fresh w.heap.size [zG]/\St w P0 [rr yw ji yu 24 1 jg,.box b5 [Sv Du t.qK.length Dp,Sv yw ji yu,Sv a8 t.qL.length c9] 31,Z0,Z1,Z2,Z3] [xy true zG jg au,Z4,Z5,Z6]) _ _ _ _ _ _ _) ((t.qQ.length - (0:Int)).toNat) ⟨_,0,none,0,0,([]:yLL),[],[],uE5,(by rfl),qf,rfl,N.emp,H⟩ ?_
 clear H N
 rintro m' ρ Rr ⟨xE,k,yw,ji,yu,au,jg,zG,rfl,rfl,i0,rfl,N,H⟩
 have VE:=H.zg (α:=yLI) 0 rfl 0 rfl qj
 have p4:=p3 k
 rw [List.length_take_of_le qf] at VE
 refine zcr (sq 1 (zjn (xQ (cD rfl (fun h69=>?_) (fun h69=>?_)))))
 ·refine qV (t_n (xQ (qR (zcr ?_))))
  obtain ⟨Mg,o71,rfl⟩:=H.addr 2 rfl qf
  obtain ⟨HU,JM,UU,H⟩:=H.zW 2 rfl k k qf qf qf
  refine oI rfl rfl (oL rfl (H.xP 1 rfl 0 rfl) (sq 1 (zjn (VP (fun ρ LL=>∃ (xE:Env) (a74:yOA) (c75:Nat) (a76:yOA) (c77:Nat) (SV:yLN),ρ=upd (upd (upd (upd (upd xE 2 (pp b3 0)) 3 (pp b5 0)) 14 (Sv (aa Mg o71) t.qQ.length xG)) 15 (yI t.qQ.length)) 16 (yI k)/\Fresh w.heap.size [(zG++SV)]/\St w LL [rr a74 (ji+1) c75 24 1 (jg++[Sv a76 ((t.qQ[k]!).length) c77]),.box b5 [Sv Du t.qK.length Dp,Sv a74 (ji+1) c75,Sv a8 t.qL.length c9] 31,rr a8 t.qL.length c9 2 1 (t.qL.map (Value.int .i64)),rr Du t.qK.length Dp 4 1 (t.qK.map (Value.bool)),.box b3 [yN,yN,yN] 31,.box b1 [Sv xg t.qK.length xf,Sv (aa Mg o71) t.qQ.length xG,Sv qZ t.qL.length qY] 31] [xy true (zG++SV) (jg++[Sv a76 ((t.qQ[k]!).length) c77]) ((t.qQ.take k)++[(t.qQ[k]!)]),sF true SV a76 c77 (t.qQ[k]!),sF false UU HU JM (t.qQ[k]!),atF Mg (o71+(k:Int).toNat * 1) [Sv HU ((t.qQ[k]!).length) JM],sF false zD xg xf t.qK,sF false vF (aa Mg o71) xG t.qQ,sF false zh qZ qY t.qL]) ?_ ?_))))
  ·refine yK rfl H (zR 2 4) fun H=>?_
   have S:=H.jm (zR 2 4) (zR 0 6)
   refine tF 0 rfl rfl S ?_
   refine rtl 2 S ?_
   refine vK [1,3] qh qm (jb rfl ?_ (jb rfl ?_ vM))
   ·refine x9 (Sv yw ji yu) isAgg29 rfl (H.cell 1 rfl rfl) (⟨H.pick (zR 2 4) (zR 0 6),(ro 3 rfl ?_)⟩)
    refine oc (cloneI_ok _ (t.qQ[k]!) (H.get 0 rfl).1 qg) ?_
    rintro v86 HG r86 x85
    replace H:=H.zH x85 r86
    obtain ⟨a87,c88,rfl,axJ,ay2⟩:=H.jL 0 rfl
    refine ⟨H.pick (zR 3 4) (zR 0 6),(ro 4 rfl (zf H underlying29 ti24 [Sv a87 ((t.qQ[k]!).length) c88] fun Nx Yj H=>⟨H.pick (zR 4 4) (zR 0 6),(ro 5 rfl ?_)⟩))⟩
    obtain ⟨Di,N,UZ,H⟩:=H.zN 1 rfl N (H.jA [2])
    refine zo H 2 rfl 0 rfl underlying29 ti24 rfl qj rfl rfl rfl qw qp qf fun a93 c94 w95 H=>?_
    replace H:=H.yx 3 rfl 0 rfl
    replace N:Fresh w.heap.size [(zG++Di)]:=(N.pick [1,0]).join
    refine ⟨H.pick (zR 4 4) (zR 2 6),(tF 6 rfl rfl (H.pick (zR 4 4) (zR 2 6)) ?_)⟩
    refine ro 7 rfl (xH H 3 [Sv Du t.qK.length Dp,Sv a93 (ji+1) c94,Sv a8 t.qL.length c9] sizeOf29 fun w98 H=>⟨H.pick (zR 4 4) (zR 2 6),(xw qh ((meet ⟨_,a93,c94,a87,c88,Di,uE5,N,H.pick (zR 2 6) [0,1,2,3,5,6,7]⟩)))⟩)
   refine oc (cloneI_ok _ (t.qQ[k]!) (H.get 0 rfl).1 qg) ?_
   rintro aw5 wV ak0 agz
   replace H:=H.zH agz ak0
   obtain ⟨Jn,IQ,rfl,aoX,aov⟩:=H.jL 0 rfl
   refine ⟨H.pick (zR 3 4) (zR 0 6),(vK [1,4] qh qm (jb rfl ?_ (jb rfl ?_ vM)))⟩
   ·refine x9 (Sv yw ji yu) isAgg29 rfl (H.cell 2 rfl rfl) (⟨H.pick (zR 3 4) (zR 0 6),(ro 4 rfl (zf H underlying29 ti24 [Sv Jn ((t.qQ[k]!).length) IQ] fun uj ahS H=>⟨H.pick (zR 4 4) (zR 0 6),(ro 5 rfl ?_)⟩))⟩)
    obtain ⟨Pr,N,Tt,H⟩:=H.zN 1 rfl N (H.jA [2])
    refine zo H 2 rfl 0 rfl underlying29 ti24 rfl qj rfl rfl rfl qw qp qf fun Ha Ff Ga H=>?_
    replace H:=H.yx 3 rfl 0 rfl
    replace N:Fresh w.heap.size [(zG++Pr)]:=(N.pick [1,0]).join
    refine ⟨H.pick (zR 4 4) (zR 2 6),(tF 6 rfl rfl (H.pick (zR 4 4) (zR 2 6)) ?_)⟩
    refine ro 7 rfl (xH H 3 [Sv Du t.qK.length Dp,Sv Ha (ji+1) Ff,Sv a8 t.qL.length c9] sizeOf29 fun tJ H=>⟨H.pick (zR 4 4) (zR 2 6),(xw qh ((meet ⟨_,Ha,Ff,Jn,IQ,Pr,uE5,N,H.pick (zR 2 6) [0,1,2,3,5,6,7]⟩)))⟩)
   refine zf H underlying29 ti24 [Sv Jn ((t.qQ[k]!).length) IQ] fun BK acR H=>⟨H.pick (zR 4 4) (zR 0 6),(ro 1 rfl (x9 (Sv yw ji yu) isAgg29 rfl (H.cell 3 rfl rfl) (⟨H.pick (zR 4 4) (zR 0 6),(ro 5 rfl ?_)⟩)))⟩
   obtain ⟨Om,N,apT,H⟩:=H.zN 1 rfl N (H.jA [2])
   refine zo H 2 rfl 0 rfl underlying29 ti24 rfl qj rfl rfl rfl qw qp qf fun J0 Kf Cl H=>?_
   replace H:=H.yx 3 rfl 0 rfl
   replace N:Fresh w.heap.size [(zG++Om)]:=(N.pick [1,0]).join
   refine ⟨H.pick (zR 4 4) (zR 2 6),(tF 6 rfl rfl (H.pick (zR 4 4) (zR 2 6)) ?_)⟩
   refine ro 7 rfl (xH H 3 [Sv Du t.qK.length Dp,Sv J0 (ji+1) Kf,Sv a8 t.qL.length c9] sizeOf29 fun Zf H=>⟨H.pick (zR 4 4) (zR 2 6),(xw qh ((meet ⟨_,J0,Kf,Jn,IQ,Om,uE5,N,H.pick (zR 2 6) [0,1,2,3,5,6,7]⟩)))⟩)
  clear H N
  rintro ρ IT ⟨xE,a74,c75,a76,c77,SV,rfl,N,H⟩
  refine b_n (t_n (xJ (sw (zn k 1 rfl rfl qf (sq 1 (xO (qX (m' :=(t.qQ.length - ((k+1):Int)).toNat) qf ⟨_,k+1,_,_,_,_,_,_,uE5,?_,?_,rfl,N,H.pick (zR 0 6) [0,4,5,6]⟩)))))))
  ·exact take_snoc qf
  ·omega
 refine zx4 (zcr (sw (xU [Sv Du t.qK.length Dp,Sv yw ji yu,Sv a8 t.qL.length c9] isAgg31 sizeOf31 rfl (qF (H.cells 1 rfl) 0 3) (sw (xY H 4 [Sv Du t.qK.length Dp,Sv yw ji yu,Sv a8 t.qL.length c9] sizeOf31 fun H7 H=>zjr (retC H 4 rfl rfl isAgg31 sizeOf31 rfl ⟨_,rfl,?_,H.base⟩))))))
 obtain rfl:k=t.qQ.length:=by omega
 rw [List.take_length] at H
 exact ⟨Du,t.qK.length,Dp,yw,ji,yu,jg,zG,a8,t.qL.length,c9,rfl,N,H.pick [3,0,2] [0]⟩
theorem isEnabled_ok (w:World) (s:qC) (t:qH) (r:vS) (qP:zP w xk qG qE s.qA) (xm:zP w xW qO qN s.qB) (zi:zP w zD xg xf t.qK) (zI:zP w vF xI xG t.qQ) (xM:zP w zh qZ qY t.qL) (XM:zP w e8 Xf Xb r.zk) (XQ:zP w eA Xi Xe r.vk) (XN:zP w eL Xg Xc r.vw) (XP:zP w eG Xh Xd r.zS) (dJ:zP w j6 bP bN r.jX) (XO:zP w eW Qy Qm r.xe) (p0:ve s) (p1:xZ s t) (p2:RuleOk s r):Calls Tryz.prog 125 #[.agg #[yI s.xK,Sv qG s.qA.length qE,Sv qO s.qB.length qN],.agg #[Sv xg t.qK.length xf,Sv xI t.qQ.length xG,Sv qZ t.qL.length qY],.agg #[yI r.qI,yI r.jG,Sv Xf r.zk.length Xb,Sv Xi r.vk.length Xe,Sv Xg r.vw.length Xc,Sv Xh r.zS.length Xd,Sv bP r.jX.length bN,Sv Qy r.xe.length Qm,Bv r.vg]] w (Ret (fun v w' =>v=Bv (dec (EnOk s t r))) w):=by
 refine en func125 ntmps125 ?_
 have H:=(((((((((((St.start w).arg XO).arg dJ).arg XP).arg XN).arg XQ).arg XM).arg xM).arg zI).arg zi).arg xm).arg qP
 have y9:=qM zI
 have aex:=qM XM
 have mz:=qM XO
 clear qP xm zi zI xM XM XQ XN XP dJ XO
 have N:=Fresh.nil w.heap.size
 have p3:=p2.1
 have p4:=p1.1
 have p5:=p1.2.1
 have p6:=(p1.bagLen (k:=r.qI.toNat) qf).len
 have p7:=p2.2.2.2.2.1.len
 have p8:=p2.2.2.2.2.2.1.len
 have p9:=p2.2.2.2.2.2.2.1.len
 have p10:=vX p2.2.2.2.2.2.2.1
 have p11:=p0.1
 have wi:=p2.2.2.2.2.2.2.2.2.2.2
 have p13:=kinds_le p0
 refine zcr (sw (zZ H (yS s qG qE qO qN) fun b1 w2 H=>sw (zZ H (yT t xg xf xI xG qZ qY) fun b3 w4 H=>sw (zZ H [yI r.qI,yI r.jG,Sv Xf r.zk.length Xb,Sv Xi r.vk.length Xe,Sv Xg r.vw.length Xc,Sv Xh r.zS.length Xd,Sv bP r.jX.length bN,Sv Qy r.xe.length Qm,Bv r.vg] fun b5 w6 H=>sp (Bv false) (zjcc (oF rfl (oL rfl (H.cell 1 rfl rfl) (oF rfl (oL rfl (H.cell 0 rfl rfl) ?_)))))))))
 obtain ⟨b7,o8,rfl⟩:=H.addr 2 rfl qf
 refine oI rfl rfl (oL rfl (H.elemBool 2 rfl r.qI qf qf) (sq 1 (zjn (zT _ rfl (fun aZ=>?_) (fun aZ=>?_)))))
 ·replace aZ:=xB aZ
  refine zcr (sp (Bv false) (zjr (t_r (rH1 (Bv false) H ?_))))
  rw [xh (fun h=>by obtain ⟨h1,h2,h3,h4,h5⟩:=h;exact ft h1 ‹_›)]
 replace aZ:=xn aZ
 refine qV (t_n (zcr (oF rfl (oL rfl (H.cell 1 rfl rfl) (oF rfl (oL rfl (H.cell 0 rfl rfl) ?_))))))
 obtain ⟨ls,Ih,rfl⟩:=H.addr 3 rfl qf
 obtain ⟨aub,atP,awY,H⟩:=H.zW 3 rfl r.qI r.qI.toNat qf qf qf
 refine oI rfl rfl (oL rfl (H.xP 1 rfl 0 rfl) (sq 1 (zjcc (oF rfl (oL rfl (H.cell 0 rfl rfl) (sq 1 (sw (oq (isWithin_ok _ r.zk (t.qQ[r.qI.toNat]!) (H.get 7 rfl).1 (H.get 0 rfl).1 qg qg) H fun yi H=>sp (Bv (!(within r.zk (t.qQ[r.qI.toNat]!)))) (sp (Bv (!(within r.zk (t.qQ[r.qI.toNat]!)))) ?_)))))))))
 cases tY:(!(within r.zk (t.qQ[r.qI.toNat]!)))
 ·replace tY:=xn tY
  refine qJ 26 rfl rfl (oF rfl (qJ 26 rfl rfl (oL rfl (H.cell 0 rfl rfl) (qJ 26 rfl rfl (sq 1 (qJ 26 rfl rfl (sw (oq (isWithin_ok _ r.vk (t.qQ[r.qI.toNat]!) (H.get 8 rfl).1 (H.get 0 rfl).1 qg qg) H fun Dn H=>qJ 26 rfl rfl (sp (Bv (!(within r.vk (t.qQ[r.qI.toNat]!)))) (sp (Bv (!(within r.vk (t.qQ[r.qI.toNat]!)))) (sp (Bv (!(within r.vk (t.qQ[r.qI.toNat]!)))) ?_)))))))))))
  cases oV:(!(within r.vk (t.qQ[r.qI.toNat]!)))
  ·replace oV:=xn oV
   refine qJ 33 rfl rfl (oF rfl (qJ 33 rfl rfl (oL rfl (H.cell 0 rfl rfl) (qJ 33 rfl rfl (sw (oq (XC _ r.vw (H.get 9 rfl).1 (by assumption)) H fun In H=>qJ 33 rfl rfl (sp (Bv (decide ((QS r.vw:Int) > 0))) (qJ 33 rfl rfl (sp (Bv (decide ((QS r.vw:Int) > 0))) ?_)))))))))
   cases Dq:(decide ((QS r.vw:Int) > 0))
   ·replace Dq:=of_decide_eq_false Dq
    refine xR (zR 39 4) (qJ 33 rfl rfl (sp (Bv false) (sp (Bv false) (zjn (cFr rfl (qV (t_n (zcr (oF rfl (oL rfl (H.cell 0 rfl rfl) (sp (.func (.func 166) #[] #[pp b3 0,pp b1 0,pp b5 0]) (sw (zQ #[Sv Qy r.xe.length Qm,.func (.func 166) #[] #[pp b3 0,pp b1 0,pp b5 0]] rfl rfl call165 (en func165 ntmps165 ?_))))))))))))))
    refine zcr (sp (Bv false) (zjc (sq 1 (sp (.func (.func 166) #[] #[pp b3 0,pp b1 0,pp b5 0]) (sw (zQ #[Sv Qy r.xe.length Qm,.func (.func 166) #[] #[pp b3 0,pp b1 0,pp b5 0]] rfl rfl call198 (en func198 ntmps198 ?_)))))))
    refine zcr (sp (yI 0) (zjcc (sq 1 (oN rfl (sp (yI 0) (zjn (qR (zl ((fun Z0 Z1 Z2 Z3 Z4 Z5 Z6 Z7 Z8 Z9 bx bG dy fj ix oS=>fun m' ρ Bo=>∃ (xE:Env) (i:Nat),ρ=upd (upd (upd (upd xE 0 (Sv Qy r.xe.length Qm)) 1 (.func (.func 166) #[] #[pp b3 0,pp b1 0,pp b5 0])) 7 (yI r.xe.length)) 8 (yI i)/\((i:Int)<=r.xe.length)/\(IntoUp s t r i)/\m' =(r.xe.length - (i:Int)).toNat/\Fresh w.heap.size []/\St w Bo [Z0,Z1,Z2] [Z3,Z4,Z5,Z6,Z7,Z8,Z9,bx,bG,dy,fj,ix,oS]) _ _ _ _ _ _ _ _ _ _ _ _ _ _ _ _) ((r.xe.length - (0:Int)).toNat) ⟨_,0,uE4,qf,qx,rfl,N,H⟩ ?_))))))))
    clear H N
    rintro m' ρ C5 ⟨xE,i,rfl,i0,i1,rfl,N,H⟩
    refine zcr (sq 1 (zjn (xQ (cD rfl (fun Gu=>?_) (fun Gu=>?_)))))
    ·have q:=(wi i qf).1
     have q1:=q.1
     refine qV (t_n (xQ (qR (zcr (sp (yI i) (sp (yI i) (zjc (sp (.func (.func 166) #[] #[pp b3 0,pp b1 0,pp b5 0]) (sq 1 (sp (yI i) ?_))))))))))
     obtain ⟨b27,o28,rfl⟩:=H.addr 12 rfl qf
     obtain ⟨ua,ug,adw,H⟩:=H.yJ 12 rfl i i qf qf qf
     refine oI rfl rfl (sw (xU [yI ((r.xe[i]!).qI),Sv ua (((r.xe[i]!).Qa).length) ug] isAgg128 sizeOf128 rfl (qF (H.get 1 rfl) 0 2) (sw (zQ #[.agg #[yI ((r.xe[i]!).qI),Sv ua (((r.xe[i]!).Qa).length) ug],pp b3 0,pp b1 0,pp b5 0] rfl rfl call166 (en func166 ntmps166 ?_)))))
     refine zcr (sw (zZ H [yI ((r.xe[i]!).qI),Sv ua (((r.xe[i]!).Qa).length) ug] fun vl Dc H=>sp (Bv false) (zjn (xQ (jE rfl H fun H=>tF 0 rfl rfl H ?_)))))
     refine tL 1 rfl rfl (fun _ h=>h.cell 2 rfl rfl) H ?_
     refine tF 2 rfl rfl H ?_
     refine tL 3 rfl rfl (fun _ h=>h.cell 0 rfl rfl) H ?_
     refine tI 4 rfl rfl rfl H ?_
     refine tL 5 rfl rfl (fun _ h=>h.elemBool 6 rfl ((r.xe[i]!).qI) qf qf) H ?_
     refine rtp 6 (Bv (!(t.qK[((r.xe[i]!).qI).toNat]!))) H ?_
     refine rtp 7 (Bv (!(t.qK[((r.xe[i]!).qI).toNat]!))) H ?_
     cases h34:(!(t.qK[((r.xe[i]!).qI).toNat]!))
     ·replace h34:=xn h34
      refine rg 8 _ 13 (y8 (cs:=(yS s qG qE qO qN)) isAgg27 sizeOf27 rfl (fun _ h=>qF (h.cells 3 rfl) 0 3)) H ?_
      refine rg 9 _ 13 (y8 (cs:=[Sv (aa b7 o8) t.qK.length xf,Sv (aa ls Ih) t.qQ.length xG,Sv qZ t.qL.length qY]) isAgg31 sizeOf31 rfl (fun _ h=>qF (h.cells 2 rfl) 0 3)) H ?_
      refine gF 10 rfl rfl H ?_
      refine gL 11 rfl rfl (fun _ h=>h.cell 0 rfl rfl) H ?_
      refine gF 13 rfl rfl H ?_
      refine gL 14 rfl rfl (fun _ h=>h.cell 1 rfl rfl) H ?_
      refine vK [12] qh qm (VN rfl (e:=13) rfl rfl (oq (parentNow_ok _ s t ((r.xe[i]!).qI) (H.get 4 rfl).1 (H.get 5 rfl).1 (H.get 6 rfl).1 (H.get 7 rfl).1 (H.get 8 rfl).1 qg qg qg) H fun Ks H=>⟨H,(rgl 15 13 H ?_)⟩) vM)
      refine rtl 16 H ?_
      refine rtl 17 H ?_
      refine xw qh (t_n (c_ret (ret1 (Bv ((xF s t ((r.xe[i]!).qI):Int) != r.qI)) rfl rfl ⟨_,rfl,?_⟩)))
      replace H:=H.erases [0]
      dsimp only [vz,List.eraseIdx] at H
      refine zjn (zT _ rfl (fun HN=>?_) (fun HN=>?_))
      ·replace HN:=bne_iff_ne.1 HN
       refine zcr (sp (yI i) (sp (yI i) (zjr (zr5 (ret1 (yI i) rfl rfl ⟨_,rfl,(sw (o_pure (Bv true) (by show some (Value.bool (decide ((i:Int)>=0)))=some (Value.bool true);rw [decide_eq_true qf]) (sp (Bv true) (zjr (ret1 (Bv true) rfl rfl ⟨_,rfl,(sp (Bv false) (sp (Bv false) (zjr (rH1 (Bv false) H ?_))))⟩)))))⟩)))))
       rw [xh (fun h=>by obtain ⟨h1,h2,h3,h4,h5⟩:=h;(obtain ⟨q1,q2⟩:=h5 i qf;exact absurd q2 ‹_›))]
      replace HN:=xx HN
      refine qV (b_n (t_n (xJ (sw (zn i 1 rfl rfl qf (sq 1 (xO (qX (m' :=(r.xe.length - ((i+1):Int)).toNat) qf ⟨_,i+1,uE4,?_,?_,rfl,N,H.pick [0,1,2] (zR 2 13)⟩))))))))
      ·omega
      ·exact i1.succ ‹_› ‹_›
     replace h34:=xB h34
     refine vG (zR 8 8) 8 (H) (rtp 16 (Bv true) H ?_)
     refine rtp 17 (Bv true) H ?_
     refine xw qh (t_n (c_ret (ret1 (Bv true) rfl rfl ⟨_,rfl,?_⟩)))
     replace H:=H.erases [0]
     dsimp only [vz,List.eraseIdx] at H
     refine zjn (cTr rfl (zcr (sp (yI i) (sp (yI i) (zjr (zr5 (ret1 (yI i) rfl rfl ⟨_,rfl,(sw (o_pure (Bv true) (by show some (Value.bool (decide ((i:Int)>=0)))=some (Value.bool true);rw [decide_eq_true qf]) (sp (Bv true) (zjr (ret1 (Bv true) rfl rfl ⟨_,rfl,(sp (Bv false) (sp (Bv false) (zjr (rH1 (Bv false) H ?_))))⟩)))))⟩)))))))
     rw [xh (fun h=>by obtain ⟨h1,h2,h3,h4,h5⟩:=h;(obtain ⟨q1,q2⟩:=h5 i qf;exact ft q1 ‹_›))]
    refine zx4 (zcr (sq 1 (zjr (ret1 (yI (-1)) rfl rfl ⟨_,rfl,(sp (Bv false) (sp (Bv false) (zjr (ret1 (Bv false) rfl rfl ⟨_,rfl,(sp (Bv true) (sp (Bv true) (zjr (rH1 (Bv true) H ?_))))⟩))))⟩))))
    rw [jH ⟨by assumption,by assumption,by assumption,fun ⟨u,v⟩=>by omega,(show i=r.xe.length by omega)▸i1⟩]
   replace Dq:=of_decide_eq_true Dq
   refine qJ 38 rfl rfl (oF rfl (qJ 38 rfl rfl (oL rfl (H.cell 0 rfl rfl) (qJ 38 rfl rfl (sq 1 (qJ 38 rfl rfl (sw (oq (isWithin_ok _ r.vw (t.qQ[r.qI.toNat]!) (H.get 9 rfl).1 (H.get 0 rfl).1 qg qg) H fun E4 H=>qJ 33 rfl rfl (sq 2 (zjn (zT _ rfl (fun x3=>?_) (fun x3=>?_))))))))))))
   ·refine zcr (sp (Bv false) (zjr (t_r (rH1 (Bv false) H ?_))))
    rw [xh (fun h=>by obtain ⟨h1,h2,h3,h4,h5⟩:=h;exact h4 ⟨‹_›,‹_›⟩)]
   refine qV (t_n (zcr (oF rfl (oL rfl (H.cell 0 rfl rfl) (sp (.func (.func 166) #[] #[pp b3 0,pp b1 0,pp b5 0]) (sw (zQ #[Sv Qy r.xe.length Qm,.func (.func 166) #[] #[pp b3 0,pp b1 0,pp b5 0]] rfl rfl call165 (en func165 ntmps165 ?_))))))))
   refine zcr (sp (Bv false) (zjc (sq 1 (sp (.func (.func 166) #[] #[pp b3 0,pp b1 0,pp b5 0]) (sw (zQ #[Sv Qy r.xe.length Qm,.func (.func 166) #[] #[pp b3 0,pp b1 0,pp b5 0]] rfl rfl call198 (en func198 ntmps198 ?_)))))))
   refine zcr (sp (yI 0) (zjcc (sq 1 (oN rfl (sp (yI 0) (zjn (qR (zl ((fun Z0 Z1 Z2 Z3 Z4 Z5 Z6 Z7 Z8 Z9 bx bG dy fj ix oS=>fun m' ρ wR=>∃ (xE:Env) (i:Nat),ρ=upd (upd (upd (upd xE 0 (Sv Qy r.xe.length Qm)) 1 (.func (.func 166) #[] #[pp b3 0,pp b1 0,pp b5 0])) 7 (yI r.xe.length)) 8 (yI i)/\((i:Int)<=r.xe.length)/\(IntoUp s t r i)/\m' =(r.xe.length - (i:Int)).toNat/\Fresh w.heap.size []/\St w wR [Z0,Z1,Z2] [Z3,Z4,Z5,Z6,Z7,Z8,Z9,bx,bG,dy,fj,ix,oS]) _ _ _ _ _ _ _ _ _ _ _ _ _ _ _ _) ((r.xe.length - (0:Int)).toNat) ⟨_,0,uE4,qf,qx,rfl,N,H⟩ ?_))))))))
   clear H N
   rintro m' ρ Df ⟨xE,i,rfl,i0,i1,rfl,N,H⟩
   refine zcr (sq 1 (zjn (xQ (cD rfl (fun Hf=>?_) (fun Hf=>?_)))))
   ·have q:=(wi i qf).1
    have q1:=q.1
    refine qV (t_n (xQ (qR (zcr (sp (yI i) (sp (yI i) (zjc (sp (.func (.func 166) #[] #[pp b3 0,pp b1 0,pp b5 0]) (sq 1 (sp (yI i) ?_))))))))))
    obtain ⟨JI,Ys,rfl⟩:=H.addr 12 rfl qf
    obtain ⟨um,ub,adU,H⟩:=H.yJ 12 rfl i i qf qf qf
    refine oI rfl rfl (sw (xU [yI ((r.xe[i]!).qI),Sv um (((r.xe[i]!).Qa).length) ub] isAgg128 sizeOf128 rfl (qF (H.get 1 rfl) 0 2) (sw (zQ #[.agg #[yI ((r.xe[i]!).qI),Sv um (((r.xe[i]!).Qa).length) ub],pp b3 0,pp b1 0,pp b5 0] rfl rfl call166 (en func166 ntmps166 ?_)))))
    refine zcr (sw (zZ H [yI ((r.xe[i]!).qI),Sv um (((r.xe[i]!).Qa).length) ub] fun Mb HC H=>sp (Bv false) (zjn (xQ (jE rfl H fun H=>tF 0 rfl rfl H ?_)))))
    refine tL 1 rfl rfl (fun _ h=>h.cell 2 rfl rfl) H ?_
    refine tF 2 rfl rfl H ?_
    refine tL 3 rfl rfl (fun _ h=>h.cell 0 rfl rfl) H ?_
    refine tI 4 rfl rfl rfl H ?_
    refine tL 5 rfl rfl (fun _ h=>h.elemBool 6 rfl ((r.xe[i]!).qI) qf qf) H ?_
    refine rtp 6 (Bv (!(t.qK[((r.xe[i]!).qI).toNat]!))) H ?_
    refine rtp 7 (Bv (!(t.qK[((r.xe[i]!).qI).toNat]!))) H ?_
    cases Hb:(!(t.qK[((r.xe[i]!).qI).toNat]!))
    ·replace Hb:=xn Hb
     refine rg 8 _ 13 (y8 (cs:=(yS s qG qE qO qN)) isAgg27 sizeOf27 rfl (fun _ h=>qF (h.cells 3 rfl) 0 3)) H ?_
     refine rg 9 _ 13 (y8 (cs:=[Sv (aa b7 o8) t.qK.length xf,Sv (aa ls Ih) t.qQ.length xG,Sv qZ t.qL.length qY]) isAgg31 sizeOf31 rfl (fun _ h=>qF (h.cells 2 rfl) 0 3)) H ?_
     refine gF 10 rfl rfl H ?_
     refine gL 11 rfl rfl (fun _ h=>h.cell 0 rfl rfl) H ?_
     refine gF 13 rfl rfl H ?_
     refine gL 14 rfl rfl (fun _ h=>h.cell 1 rfl rfl) H ?_
     refine vK [12] qh qm (VN rfl (e:=13) rfl rfl (oq (parentNow_ok _ s t ((r.xe[i]!).qI) (H.get 4 rfl).1 (H.get 5 rfl).1 (H.get 6 rfl).1 (H.get 7 rfl).1 (H.get 8 rfl).1 qg qg qg) H fun w54 H=>⟨H,(rgl 15 13 H ?_)⟩) vM)
     refine rtl 16 H ?_
     refine rtl 17 H ?_
     refine xw qh (t_n (c_ret (ret1 (Bv ((xF s t ((r.xe[i]!).qI):Int) != r.qI)) rfl rfl ⟨_,rfl,?_⟩)))
     replace H:=H.erases [0]
     dsimp only [vz,List.eraseIdx] at H
     refine zjn (zT _ rfl (fun UX=>?_) (fun UX=>?_))
     ·replace UX:=bne_iff_ne.1 UX
      refine zcr (sp (yI i) (sp (yI i) (zjr (zr5 (ret1 (yI i) rfl rfl ⟨_,rfl,(sw (o_pure (Bv true) (by show some (Value.bool (decide ((i:Int)>=0)))=some (Value.bool true);rw [decide_eq_true qf]) (sp (Bv true) (zjr (ret1 (Bv true) rfl rfl ⟨_,rfl,(sp (Bv false) (sp (Bv false) (zjr (rH1 (Bv false) H ?_))))⟩)))))⟩)))))
      rw [xh (fun h=>by obtain ⟨h1,h2,h3,h4,h5⟩:=h;(obtain ⟨q1,q2⟩:=h5 i qf;exact absurd q2 ‹_›))]
     replace UX:=xx UX
     refine qV (b_n (t_n (xJ (sw (zn i 1 rfl rfl qf (sq 1 (xO (qX (m' :=(r.xe.length - ((i+1):Int)).toNat) qf ⟨_,i+1,uE4,?_,?_,rfl,N,H.pick [0,1,2] (zR 2 13)⟩))))))))
     ·omega
     ·exact i1.succ ‹_› ‹_›
    replace Hb:=xB Hb
    refine vG (zR 8 8) 8 (H) (rtp 16 (Bv true) H ?_)
    refine rtp 17 (Bv true) H ?_
    refine xw qh (t_n (c_ret (ret1 (Bv true) rfl rfl ⟨_,rfl,?_⟩)))
    replace H:=H.erases [0]
    dsimp only [vz,List.eraseIdx] at H
    refine zjn (cTr rfl (zcr (sp (yI i) (sp (yI i) (zjr (zr5 (ret1 (yI i) rfl rfl ⟨_,rfl,(sw (o_pure (Bv true) (by show some (Value.bool (decide ((i:Int)>=0)))=some (Value.bool true);rw [decide_eq_true qf]) (sp (Bv true) (zjr (ret1 (Bv true) rfl rfl ⟨_,rfl,(sp (Bv false) (sp (Bv false) (zjr (rH1 (Bv false) H ?_))))⟩)))))⟩)))))))
    rw [xh (fun h=>by obtain ⟨h1,h2,h3,h4,h5⟩:=h;(obtain ⟨q1,q2⟩:=h5 i qf;exact ft q1 ‹_›))]
   refine zx4 (zcr (sq 1 (zjr (ret1 (yI (-1)) rfl rfl ⟨_,rfl,(sp (Bv false) (sp (Bv false) (zjr (ret1 (Bv false) rfl rfl ⟨_,rfl,(sp (Bv true) (sp (Bv true) (zjr (rH1 (Bv true) H ?_))))⟩))))⟩))))
   rw [jH ⟨by assumption,by assumption,by assumption,fun ⟨u,v⟩=>by exact ft v ‹_›,(show i=r.xe.length by omega)▸i1⟩]
  replace oV:=xB oV
  refine xR (zR 34 10) (sp (Bv true) (zjn (cTr rfl (zcr (sp (Bv false) (zjr (t_r (rH1 (Bv false) H ?_))))))))
  rw [xh (fun h=>by obtain ⟨h1,h2,h3,h4,h5⟩:=h;exact ft h3 ‹_›)]
 replace tY:=xB tY
 refine xR (zR 27 5) (sp (Bv true) (sp (Bv true) (xR (zR 34 10) (sp (Bv true) (zjn (cTr rfl (zcr (sp (Bv false) (zjr (t_r (rH1 (Bv false) H ?_)))))))))))
 rw [xh (fun h=>by obtain ⟨h1,h2,h3,h4,h5⟩:=h;exact ft h2 ‹_›)]
theorem cloneSS_ok (w:World) (l:yLL) (hl:zP w Fl al cl l) (p0:l.length<=1000000):Calls Tryz.prog 126 #[Sv al l.length cl] w (Ret (fun v w' =>∃ (ra:yOA) (rn:Nat) (rc:Nat) (rx:List Value) (rF:yLN),v=Sv ra rn rc/\(∀ b∈rF,b∈Fl)/\St w w' [rr ra rn rc 24 1 rx] [xy false rF rx l]) w):=by
 refine en func126 ntmps126 ?_
 have H:=(St.start w).arg hl
 have Aa:=qM hl
 clear hl
 refine zcr (sq 1 (zjcc (sq 1 (sw (o_eqnil underlying29 al l.length cl rfl (zjn (zT _ rfl (fun h1=>?_) (fun h1=>?_))))))))
 ·refine zcr (sq 1 (zjr (t_r ?_)))
  replace H:=H.nilRow 24 1
  replace H:=H.jo (α:=yLI)
  refine rH1 yN H ?_
  obtain rfl:=H.nilOf 1 rfl ‹_›
  replace H:=H.unfree 0 rfl
  exact ⟨none,0,0,[],[],rfl,(by intro b hb;(simp at hb;done)),H.pick [0] [0]⟩
 refine qV (t_n (zcr (sw (vW H underlying29 ti24 fun b2 w3 H=>sq 1 ?_))))
 replace H:=H.boxRow 0 rfl 1 0 rfl qj
 replace H:=H.jo (α:=yLI)
 refine sw (o_appendFR H 0 rfl 1 rfl underlying29 ti24 rfl qj rfl rfl qp qf fun a4 c5 w6 us7 G8 H hG9=>?_)
 replace H:=H.repsCat false 1 rfl 0 rfl qm
 refine sq 1 (zjr (rH1 (Sv a4 (0+l.length) c5) H (⟨a4,0+l.length,c5,[]++us7,([]++G8),rfl,(by intro b hb;exact hG9 b (by simpa using hb)),H.pick [0] [0]⟩)))
theorem timesIn_ok (w:World) (l:yLI) (m:yLI) {am:yOA} {cm:Nat} {Fm:yLN} (hl:zP w Fl al cl l) (hm:zP w Fm am cm m) (p0:l.length<=m.length) (p2:∀ q,q < l.length->0<=m[q]! /\m[q]! <=1000):Calls Tryz.prog 139 #[Sv al l.length cl,Sv am m.length cm] w (Ret (fun v w' =>v=yI (jR l m)) w):=by
 refine en func139 ntmps139 ?_
 have H:=((St.start w).arg hm).arg hl
 have Aa:=qM hl
 have Yo:=qM hm
 clear hl hm
 have N:=Fresh.nil w.heap.size
 refine zcr (sp (yI 0) (zjc (sq 1 (zjcc (sq 1 (oN rfl (sp (yI 0) (zjn (qR (zl ((fun Z0 Z1=>fun m' ρ w1=>∃ (xE:Env) (most:Int) (k:Nat),ρ=upd (upd (upd (upd (upd xE 1 (Sv am m.length cm)) 5 (yI most)) 8 (Sv al l.length cl)) 9 (yI l.length)) 10 (yI k)/\most=Qp l m k/\((k:Int)<=l.length)/\m' =(l.length - (k:Int)).toNat/\Fresh w.heap.size []/\St w w1 [] [Z0,Z1]) _ _) ((l.length - (0:Int)).toNat) ⟨_,1000,0,uE5,(by rfl),qf,rfl,N,H⟩ ?_))))))))))
 clear H N
 rintro m' ρ w2 ⟨xE,most,k,rfl,rfl,i0,rfl,N,H⟩
 refine zcr (sq 1 (zjn (xQ (cD rfl (fun h3=>?_) (fun h3=>?_)))))
 ·refine qV (t_n (xQ (qR (zcr (sp (yI k) ?_)))))
  obtain ⟨b4,o5,rfl⟩:=H.addr 0 rfl qf
  refine oI rfl rfl (oL rfl (H.zA 0 rfl k qf) (sp (yI k) (sq 1 (zjc (sq 1 (sp (Bv (decide ((l[k]! :Int) > 0))) (zjn (cD rfl (fun h7=>?_) (fun h7=>?_)))))))))
  ·refine xJ (sq 2 (sp (yI k) ?_))
   obtain ⟨b8,o9,rfl⟩:=H.addr 1 rfl qf
   refine oI rfl rfl (oL rfl (H.zA 1 rfl k qf) (sq 1 (sw (o_quo (m[k]!) (l[k]!) rfl rfl (by (have:=p2 k qf;omega)) (by (have:=p2 k qf;omega)) (sw (o_min (Qp l m k) ((m[k]!) / (l[k]!)) rfl rfl (sq 1 (xO (b_n (t_n (xJ (sw (zn k 1 rfl rfl (by (have:=p2 k qf;omega)) (sq 1 (xO (qX (m' :=(l.length - ((k+1):Int)).toNat) qf ⟨_,_,k+1,uE5,?_,?_,rfl,N,H⟩))))))))))))))))
   ·exact (timesTo_pos qf).symm
   ·omega
  refine qV (b_n (t_n (xJ (sw (zn k 1 rfl rfl (by (have:=p2 k qf;omega)) (sq 1 (xO (qX (m' :=(l.length - ((k+1):Int)).toNat) qf ⟨_,_,k+1,uE5,?_,?_,rfl,N,H⟩))))))))
  ·exact (timesTo_skip qf).symm
  ·omega
 refine zx4 (zcr (sq 2 (zjr (rH1 (yI (Qp l m k)) H ?_))))
 obtain rfl:k=l.length:=by omega
 rfl
theorem applicable_ok (w:World) (s:qC) (t:qH) (qP:zP w xk qG qE s.qA) (xm:zP w xW qO qN s.qB) (zi:zP w zD xg xf t.qK) (zI:zP w vF xI xG t.qQ) (xM:zP w zh qZ qY t.qL) (p0:ve s) (p1:xZ s t):Calls Tryz.prog 73 #[.agg #[yI s.xK,Sv qG s.qA.length qE,Sv qO s.qB.length qN],.agg #[Sv xg t.qK.length xf,Sv xI t.qQ.length xG,Sv qZ t.qL.length qY]] w (Ret (fun v w' =>∃ (ra:yOA) (rn:Nat) (rc:Nat),v=Sv ra rn rc/\Fresh w.heap.size []/\St w w' [rr ra rn rc 2 1 ((appls s t).map (Value.int .i64))] []) w):=by
 refine en func73 ntmps73 ?_
 have H:=(((((St.start w).arg xM).arg zI).arg zi).arg xm).arg qP
 have zB:=qM qP
 have vP:=qM xm
 clear qP xm zi zI xM
 have N:=Fresh.nil w.heap.size
 have p2:=p0.2.1
 have p3:=p0.1.2.1
 refine zcr (sw (zZ H (yS s qG qE qO qN) fun b1 w2 H=>sw (zZ H (yT t xg xf xI xG qZ qY) fun b3 w4 H=>sq 1 (zjc (sw (vU [yI 0,yI 0,yI 0,yI 0,yI 0,yI 0] [] (sw (xq H ti145 [yI 0,yI 0,yI 0,yI 0,yI 0,yI 0] fun b5 w6 H=>(sw (xY H 0 [yI 0,yI 0,yI 0,yI 0,yI 0,yI 0] sizeOf145 fun w7 H=>zjcc (sp (yI 0) (zjn (qR (zl ((fun Z0 Z1 Z2 Z3 Z4 Z5 Z6=>fun m' ρ w8=>∃ (xE:Env) (c:Nat) (top:yLI),ρ=upd (upd (upd (upd xE 2 (pp b1 0)) 3 (pp b3 0)) 5 (pp b5 0)) 13 (yI c)/\top=minus c/\((c:Int)<=6)/\m' =(6 - (c:Int)).toNat/\Fresh w.heap.size []/\St w w8 [.box b5 (top.map (Value.int .i64)) 145,Z0,Z1] [Z2,Z3,Z4,Z5,Z6]) _ _ _ _ _ _ _) ((6 - (0:Int)).toNat) ⟨_,0,[0,0,0,0,0,0],uE4,(by rfl),qf,rfl,N,H⟩ ?_))))))))))))))
 clear H N
 rintro m' ρ w9 ⟨xE,c,top,rfl,rfl,i0,rfl,N,H⟩
 refine zcr (sp (Bv (decide ((c:Int) < 6))) (zjn (xQ (cD rfl (fun aZ=>?_) (fun aZ=>?_)))))
 ·refine qV (t_n (xQ (qR (zcr (sp (yI c) (sp (yI c) (zjn (xJ (sp (yI c) (sw (o_idxArr c underlying145 ti2 rfl rfl qf qf (sw (o_storeArr H 0 rfl (-1) sizeOf2 rfl rfl (i:=c) qf (by simp only [List.length_set,List.length_cons,List.length_nil,minus_len,Xz];omega) fun nr H=>xO (b_n (t_n (xJ (sw (zn c 1 rfl rfl qf (sq 1 (xO (qX (m' :=(6 - ((c+1):Int)).toNat) qf ⟨_,c+1,_,uE4,?_,?_,rfl,N,H⟩)))))))))))))))))))))
  ·exact minus_set qf
  ·omega
 refine zx4 (zcc (oF rfl (oL rfl (H.cell 2 rfl rfl) (oN rfl (sp (yI 0) (zjn (qR (zl ((fun Z0 Z1 Z2 Z3 Z4 Z5 Z6=>fun m' ρ uE=>∃ (xE:Env) (k:Nat) (DD:yLI),ρ=upd (upd (upd (upd (upd (upd xE 2 (pp b1 0)) 3 (pp b3 0)) 5 (pp b5 0)) 20 (Sv qO s.qB.length qN)) 21 (yI s.qB.length)) 22 (yI k)/\DD=bests s t (-1) 6 k/\((k:Int)<=s.qB.length)/\m' =(s.qB.length - (k:Int)).toNat/\Fresh w.heap.size []/\St w uE [.box b5 (DD.map (Value.int .i64)) 145,Z0,Z1] [Z2,Z3,Z4,Z5,Z6]) _ _ _ _ _ _ _) ((s.qB.length - (0:Int)).toNat) ⟨_,0,(minus c),uE6,(by exact minus_six qf s t),qf,rfl,N,H⟩ ?_))))))))
 clear H N
 rintro m' ρ xV ⟨xE,k,DD,rfl,rfl,i0,rfl,N,H⟩
 refine zcr (sq 1 (zjn (xQ (cD rfl (fun dO=>?_) (fun dO=>?_)))))
 ·have q:=p0.rule (i:=k) qf
  have qc:=q.1
  have q6:(s.qB[k]!).qI.toNat < 6:=by omega
  refine qV (t_n (xQ (qR (zcr ?_))))
  obtain ⟨wm,o16,rfl⟩:=H.addr 1 rfl qf
  obtain ⟨mc,lO,Gr,m3,mP,EU,mU,lM,FW,nj,mC,EJ,pw,pi,It,mG,lW,Fq,H⟩:=H.jZ 1 rfl k k qf qf qf
  refine oI rfl rfl (sw (xU [yI ((s.qB[k]!).qI),yI ((s.qB[k]!).jG),Sv mc (((s.qB[k]!).zk).length) lO,Sv m3 (((s.qB[k]!).vk).length) mP,Sv mU (((s.qB[k]!).vw).length) lM,Sv nj (((s.qB[k]!).zS).length) mC,Sv pw (((s.qB[k]!).jX).length) pi,Sv mG (((s.qB[k]!).xe).length) lW,Bv ((s.qB[k]!).vg)] isAgg70 sizeOf70 rfl (qF (H.get 6 rfl) 0 9) (sw (xq H ti70 [yI 0,yI 0,yN,yN,yN,yN,yN,yN,Bv false] fun kJ rO H=>sw (xY H 0 [yI ((s.qB[k]!).qI),yI ((s.qB[k]!).jG),Sv mc (((s.qB[k]!).zk).length) lO,Sv m3 (((s.qB[k]!).vk).length) mP,Sv mU (((s.qB[k]!).vw).length) lM,Sv nj (((s.qB[k]!).zS).length) mC,Sv pw (((s.qB[k]!).jX).length) pi,Sv mG (((s.qB[k]!).xe).length) lW,Bv ((s.qB[k]!).vg)] sizeOf70 fun In H=>(zjc (sw (xU [yI s.xK,Sv qG s.qA.length qE,Sv (aa wm o16) s.qB.length qN] isAgg27 sizeOf27 rfl (qF (H.cells 3 rfl) 0 3) (sw (xU (yT t xg xf xI xG qZ qY) isAgg31 sizeOf31 rfl (qF (H.cells 2 rfl) 0 3) (sw (xU [yI ((s.qB[k]!).qI),yI ((s.qB[k]!).jG),Sv mc (((s.qB[k]!).zk).length) lO,Sv m3 (((s.qB[k]!).vk).length) mP,Sv mU (((s.qB[k]!).vw).length) lM,Sv nj (((s.qB[k]!).zS).length) mC,Sv pw (((s.qB[k]!).jX).length) pi,Sv mG (((s.qB[k]!).xe).length) lW,Bv ((s.qB[k]!).vg)] isAgg70 sizeOf70 rfl (qF (H.cells 0 rfl) 0 9) (sw (oq (isEnabled_ok _ s t (s.qB[k]!) (H.get 7 rfl).1 (H.get 8 rfl).1 (H.get 9 rfl).1 (H.get 10 rfl).1 (H.get 11 rfl).1 (H.get 0 rfl).1 (H.get 1 rfl).1 (H.get 2 rfl).1 (H.get 3 rfl).1 (H.get 4 rfl).1 (H.get 5 rfl).1 qg qg qg) H fun wT H=>zjn (cP rfl (fun Cc=>?_) (fun Cc=>?_))))))))))))))))
  ·refine yK rfl H [0,2,3] fun H=>?_
   have S:=H.jm [0,2,3] (zR 0 12)
   refine tF 0 rfl rfl S ?_
   refine tL 1 rfl rfl (fun _ h=>h.cell 0 rfl rfl) S ?_
   refine tF 2 rfl rfl S ?_
   refine tL 3 rfl rfl (fun _ h=>h.cell 0 rfl rfl) S ?_
   refine rt 4 _ (y_idxArr b5 (0) 6 ((s.qB[k]!).qI) underlying145 ti2 rfl rfl qf qf) S ?_
   refine tF 6 rfl rfl S ?_
   refine tL 7 rfl rfl (fun _ h=>h.cell 0 rfl rfl) S ?_
   refine ro 5 rfl (x9 (yI ((bests s t (-1) 6 k)[((s.qB[k]!).qI).toNat]!)) isAgg2 rfl (H.cell 1 rfl (ints_at (iv:=(s.qB[k]!).qI) (i:=(((s.qB[k]!).qI).toNat)) qf (by simp only [List.length_set,List.length_cons,List.length_nil,minus_len,Xz];omega))) (⟨H.pick [0,2,3] (zR 0 12),?_⟩))
   have S:=H.jm [0,2,3] (zR 0 12)
   refine rt 8 _ (y_max ((bests s t (-1) 6 k)[((s.qB[k]!).qI).toNat]!) ((s.qB[k]!).jG) rfl rfl) S ?_
   refine rt 9 _ (y_idxArr b5 (0) 6 ((s.qB[k]!).qI) underlying145 ti2 rfl rfl qf qf) S ?_
   refine ro 10 rfl (o_storeArr H 1 rfl (max ((bests s t (-1) 6 k)[((s.qB[k]!).qI).toNat]!) ((s.qB[k]!).jG)) sizeOf2 rfl rfl (i:=(((s.qB[k]!).qI).toNat)) qf (by simp only [List.length_set,List.length_cons,List.length_nil,minus_len,Xz];omega) fun Ge H=>⟨H.pick [0,2,3] (zR 0 12),(xw qh (b_n (t_n (xJ (sw (zn k 1 rfl rfl qf (sq 1 (xO (qX (m' :=(s.qB.length - ((k+1):Int)).toNat) qf ⟨_,k+1,_,uE6,?_,?_,rfl,N,H.pick [1,2,3] (zR 7 5)⟩)))))))))⟩)
   ·exact bests_set ‹_› qf
   ·omega
  refine qV (b_n (t_n (xJ (sw (zn k 1 rfl rfl qf (sq 1 (xO (qX (m' :=(s.qB.length - ((k+1):Int)).toNat) qf ⟨_,k+1,_,uE6,?_,?_,rfl,N,H.pick [1,2,3] (zR 7 5)⟩))))))))
  ·exact bests_skip ‹_›
  ·omega
 refine zx4 (zcr (sw (vW H underlying24 ti2 fun wH Dk H=>sq 1 (zjcc (oF rfl (oL rfl (H.cell 3 rfl rfl) (oN rfl (sp (yI 0) (zjn (qR ?_))))))))))
 replace H:=H.Xv 0 [] 0
 refine zl ((fun Z0 Z1 Z2 Z3 Z4 Z5 Z6 Z7=>fun m' ρ AP=>∃ (xE:Env) (jB:yOA) (vC:Nat) (jw:Nat) (out:yLI) (i:Nat),ρ=upd (upd (upd (upd (upd (upd (upd xE 2 (pp b1 0)) 3 (pp b3 0)) 5 (pp b5 0)) 9 (Sv jB vC jw)) 43 (Sv qO s.qB.length qN)) 44 (yI s.qB.length)) 45 (yI i)/\out=applL s t i/\((i:Int)<=s.qB.length)/\m' =(s.qB.length - (i:Int)).toNat/\Fresh w.heap.size []/\St w AP [rr jB vC jw 2 1 (out.map (Value.int .i64)),Z0,Z1,Z2] [Z3,Z4,Z5,Z6,Z7]) _ _ _ _ _ _ _ _) ((s.qB.length - (0:Int)).toNat) ⟨_,(aa wH 0),0,0,([]:yLI),0,uE7,(by rfl),qf,rfl,N,H⟩ ?_
 clear H N
 rintro m' ρ Mi ⟨xE,jB,vC,jw,out,i,rfl,rfl,i0,rfl,N,H⟩
 have bR:=H.jC 0 rfl
 have ll:=applL_le s t i
 refine zcr (sq 1 (zjn (xQ (cD rfl (fun Nh=>?_) (fun Nh=>?_)))))
 ·have q:=p0.rule (i:=i) qf
  have qc:=q.1
  have qr:=q.2.1
  have q6:(s.qB[i]!).qI.toNat < 6:=by omega
  refine qV (t_n (xQ (qR (zcr (sp (yI i) ?_)))))
  obtain ⟨uI,o34,rfl⟩:=H.addr 1 rfl qf
  obtain ⟨mV,m6,DL,l9,my,Gl,lC,mA,D8,mY,mo,Fz,px,pn,Ii,mb,mS,Ft,H⟩:=H.jZ 1 rfl i i qf qf qf
  refine oI rfl rfl (sw (xU [yI ((s.qB[i]!).qI),yI ((s.qB[i]!).jG),Sv mV (((s.qB[i]!).zk).length) m6,Sv l9 (((s.qB[i]!).vk).length) my,Sv lC (((s.qB[i]!).vw).length) mA,Sv mY (((s.qB[i]!).zS).length) mo,Sv px (((s.qB[i]!).jX).length) pn,Sv mb (((s.qB[i]!).xe).length) mS,Bv ((s.qB[i]!).vg)] isAgg70 sizeOf70 rfl (qF (H.get 6 rfl) 0 9) (sw (xq H ti70 [yI 0,yI 0,yN,yN,yN,yN,yN,yN,Bv false] fun b37 KT H=>sp (yI i) (sw (xY H 0 [yI ((s.qB[i]!).qI),yI ((s.qB[i]!).jG),Sv mV (((s.qB[i]!).zk).length) m6,Sv l9 (((s.qB[i]!).vk).length) my,Sv lC (((s.qB[i]!).vw).length) mA,Sv mY (((s.qB[i]!).zS).length) mo,Sv px (((s.qB[i]!).jX).length) pn,Sv mb (((s.qB[i]!).xe).length) mS,Bv ((s.qB[i]!).vg)] sizeOf70 fun E4 H=>zjn (xQ (jE rfl H fun H=>tF 0 rfl rfl H ?_))))))))
  refine tL 1 rfl rfl (fun _ h=>h.cell 0 rfl rfl) H ?_
  refine tF 2 rfl rfl H ?_
  refine tL 3 rfl rfl (fun _ h=>h.cell 0 rfl rfl) H ?_
  refine rt 4 _ (y_idxArr b5 (0) 6 ((s.qB[i]!).qI) underlying145 ti2 rfl rfl qf qf) H ?_
  refine tL 5 rfl rfl (fun _ h=>h.cell 2 rfl (ints_at (iv:=(s.qB[i]!).qI) (i:=(((s.qB[i]!).qI).toNat)) qf (by simp only [List.length_set,List.length_cons,List.length_nil,minus_len,Xz];omega))) H ?_
  refine rtp 6 (Bv (((s.qB[i]!).jG:Int) == ((bests s t (-1) 6 k)[((s.qB[i]!).qI).toNat]!))) H ?_
  refine rtp 7 (Bv (((s.qB[i]!).jG:Int) == ((bests s t (-1) 6 k)[((s.qB[i]!).qI).toNat]!))) H ?_
  cases x3:(((s.qB[i]!).jG:Int) == ((bests s t (-1) 6 k)[((s.qB[i]!).qI).toNat]!))
  ·replace x3:=ne_of_beq_false x3
   refine vG (zR 8 4) 4 (H) (rtp 12 (Bv false) H ?_)
   refine xw qh (t_n (cFr rfl (qV (b_n (t_n (xJ (sw (zn i 1 rfl rfl qf (sq 1 (xO (qX (m' :=(s.qB.length - ((i+1):Int)).toNat) qf ⟨_,_,_,_,_,i+1,uE7,?_,?_,rfl,N,H.pick (zR 1 4) (zR 7 5)⟩)))))))))))
   ·exact applL_no (appl_no (n:=6) (z:= -1) (k:=k) qf qf qf q6 ‹_›)
   ·omega
  replace x3:=eq_of_beq x3
  refine rg 8 _ 57 (y8 (cs:=[yI s.xK,Sv qG s.qA.length qE,Sv (aa uI o34) s.qB.length qN]) isAgg27 sizeOf27 rfl (fun _ h=>qF (h.cells 4 rfl) 0 3)) H ?_
  refine rg 9 _ 57 (y8 (cs:=(yT t xg xf xI xG qZ qY)) isAgg31 sizeOf31 rfl (fun _ h=>qF (h.cells 3 rfl) 0 3)) H ?_
  refine rg 10 _ 57 (y8 (cs:=[yI ((s.qB[i]!).qI),yI ((s.qB[i]!).jG),Sv mV (((s.qB[i]!).zk).length) m6,Sv l9 (((s.qB[i]!).vk).length) my,Sv lC (((s.qB[i]!).vw).length) mA,Sv mY (((s.qB[i]!).zS).length) mo,Sv px (((s.qB[i]!).jX).length) pn,Sv mb (((s.qB[i]!).xe).length) mS,Bv ((s.qB[i]!).vg)]) isAgg70 sizeOf70 rfl (fun _ h=>qF (h.cells 0 rfl) 0 9)) H ?_
  refine vK [11] qh qm (VN rfl (e:=57) rfl rfl (oq (isEnabled_ok _ s t (s.qB[i]!) (H.get 7 rfl).1 (H.get 8 rfl).1 (H.get 9 rfl).1 (H.get 10 rfl).1 (H.get 11 rfl).1 (H.get 0 rfl).1 (H.get 1 rfl).1 (H.get 2 rfl).1 (H.get 3 rfl).1 (H.get 4 rfl).1 (H.get 5 rfl).1 qg qg qg) H fun Df H=>⟨H,(rtl 12 H ?_)⟩) vM)
  refine xw qh (t_n (cP rfl (fun oU=>?_) (fun oU=>?_)))
  ·refine xJ (sq 1 (sp (yI i) (sw (zf H underlying24 ti2 [yI i] fun OU Ng H=>sw (zo H 2 rfl 0 rfl underlying24 ti2 rfl qj rfl rfl rfl qw qp qf fun a48 c49 HC H=>?_)))))
   rw [snocI] at H
   refine sq 1 (xO (b_n (t_n (xJ (sw (zn i 1 rfl rfl qf (sq 1 (xO (qX (m' :=(s.qB.length - ((i+1):Int)).toNat) qf ⟨_,_,_,_,_,i+1,uE7,?_,?_,rfl,N,H.pick (zR 2 4) (zR 7 5)⟩)))))))))
   ·exact applL_yes (appl_yes (n:=6) (z:= -1) (k:=k) qf qf qf q6 ‹_› ‹_›)
   ·omega
  refine qV (b_n (t_n (xJ (sw (zn i 1 rfl rfl qf (sq 1 (xO (qX (m' :=(s.qB.length - ((i+1):Int)).toNat) qf ⟨_,_,_,_,_,i+1,uE7,?_,?_,rfl,N,H.pick (zR 1 4) (zR 7 5)⟩))))))))
  ·exact applL_no (fun h=>‹¬ EnOk _ _ _› h.1)
  ·omega
 refine zx4 (zcr (sq 2 (zjr (rH1 (Sv jB vC jw) H ?_))))
 obtain rfl:i=s.qB.length:=by omega
 exact ⟨jB,vC,jw,rfl,N,H.pick [0] []⟩
end
section
structure OwnI (e:TypeId) where
 l:yLI
instance (e:TypeId):Inhabited (OwnI e):=⟨⟨[]⟩⟩
def OwnAt (e:TypeId) (w:World) (F:yLN) (v:Value) (l:yLI):Prop:=
 (v=Sv none 0 0/\l=[]/\F=[])\/∃ g dw dx,v=Sv (some ⟨g,0,none⟩) l.length dw/\F=[g]/\w.heap[g]? =some (.cells dx e (0,0))/\l.length<=dw/\dw<=maxLen/\dx.size=dw/\dx.toList.take l.length=l.map (Value.int .i64)
theorem OwnAt.slice (h:OwnAt e w F v l):∃ a c,v=Sv a l.length c:=by
 rcases h with ⟨rfl,rfl,_⟩ | ⟨g,dw,dx,rfl,_⟩
 ·exact ⟨none,0,rfl⟩
 ·exact ⟨_,_,rfl⟩
instance (e:TypeId):qW (OwnI e) where
 size:=1
 rep:=fun w F cs x=>∃ v,cs=[v]/\OwnAt e w F v x.l
 len:=by rintro w F cs x ⟨v,rfl,_⟩;rfl
 one:=by
  rintro w F cs x ⟨v,rfl,h⟩ u hu
  simp only [List.mem_singleton] at hu
  subst hu
  obtain ⟨a,c,rfl⟩:=h.slice
  rfl
 lt:=by
  rintro w F cs x ⟨v,rfl,h⟩ b hb
  rcases h with ⟨_,_,rfl⟩ | ⟨g,dw,dx,_,rfl,hg,_⟩
  ·simp at hb
  ·obtain rfl:=List.mem_singleton.1 hb
   exact (Array.getElem?_eq_some_iff.1 hg).1
 stay:=by
  rintro w w' F cs x ⟨v,rfl,h⟩ hs
  refine ⟨v,rfl,?_⟩
  rcases h with h | ⟨g,dw,dx,h1,rfl,hg,h2⟩
  ·exact Or.inl h
  ·exact Or.inr ⟨g,dw,dx,h1,rfl,(hs g qm).trans hg,h2⟩
theorem OwnAt.rep (h:OwnAt e w F v l):qW.rep w F [v] l:=by
 rcases h with ⟨rfl,rfl,rfl⟩ | ⟨g,dw,dx,rfl,rfl,hg,h1,h2,h3,h4⟩
 ·exact ⟨none,0,rfl,by simp,Or.inl ⟨rfl,rfl⟩⟩
 ·refine ⟨_,dw,rfl,by unfold maxLen at h2;omega,Or.inr ⟨g,0,[],_,rfl,rfl,(Array.getElem?_eq_some_iff.1 hg).1,reps_of_ints w l,?_⟩⟩
  intro i u hi
  rw [Nat.zero_add,World.cell?,hg]
  rw [← h4,List.getElem?_take] at hi
  split at hi
  ·simpa using hi
  ·cases hi
theorem reps_ofOwn {e:TypeId} {w:World}:∀ {F:yLN} {xs:List Value} {l:List (OwnI e)},reps w F xs l->reps w F xs (l.map OwnI.l)
 | _,_,[],h=>h
 | _,_,x::l,⟨F1,F2,c1,c2,hF,hv,⟨v,hc,h1⟩,h2⟩=>⟨F1,F2,c1,c2,hF,hv,hc▸h1.rep,reps_ofOwn h2⟩
section
variable {W0 w : World} {ps : List Prv} {Γ : List Fact}
theorem St.ofOwn (H:St W0 w ps Γ) (j:Nat) {l:List (OwnI e)} (hf:Γ[j]? =some (xy fr F xs l)):St W0 w ps (xy fr F xs (l.map OwnI.l)::Γ):=
 H.yt j hf _ ⟨reps_ofOwn (H.get j hf).1,(H.get j hf).2⟩ fun _ h=>h
theorem St.rowCountO (H:St W0 w ps Γ) (k:Nat) (hp:ps[k]? =some (.row v e2 1 nn xs)) (j:Nat) {l:List (OwnI e)} (hf:Γ[j]? =some (xy fr F xs l)):nn=l.length:=
 H.zg (α:=OwnI e) k hp j hf (show 0 < qW.size (OwnI e) from Nat.one_pos)
theorem St.openI (H:St W0 w ps Γ) (k:Nat) (hp:ps[k]? =some (.row (Sv (some ⟨b,0,none⟩) nn c') e2 1 nn xs)) (j:Nat) {l:List (OwnI e)} (hf:Γ[j]? =some (xy true F xs l))
 {L:List yLN} (N:Fresh W0.heap.size (F::L)) {iv:Int} (c:Nat) (hi:iv.toNat=c) (hc:c < nn) (Γ' :List Fact) (hΓ:∀ f∈Γ',f∈Γ/\∀ x∈f.F,x∉F):
 ∃ a m F',w.cell? ⟨b,0+iv.toNat * 1,none⟩=some (Sv a (l[c]!).l.length m)/\Fresh W0.heap.size (F'::L)∧
  St W0 w (.row (Sv a (l[c]!).l.length m) e 1 (l[c]!).l.length ((l[c]!).l.map (Value.int .i64))::ps) (xy true F' (xs.set c (Sv none 0 0)) (l.set c ⟨[]⟩)::Γ'):=by
 subst hi
 have hn:nn=l.length:=H.rowCountO k hp j hf
 have mK:=H.rowLen k hp
 have hF:=(H.facts _ (List.mem_of_getElem? hf)).2
 obtain ⟨F1,Fk,F2,v1,cs,v2,L6,P2,JH,hl2,⟨u,rfl,hu⟩,hr1,hr2⟩:=reps_get (H.get j hf).1 iv.toNat qf
 have BO :v1.length=iv.toNat:=by rw [JH];exact Nat.mul_one _
 obtain ⟨a,m,rfl⟩:=hu.slice
 have el:l[iv.toNat]! =l[iv.toNat]:=getElem!_pos l _ qf
 have hxc:xs[iv.toNat]? =some (Sv a (l[iv.toNat]).l.length m):=by
  refine (congrArg (fun z:List Value=>z[iv.toNat]?) P2).trans ?_
  show (v1++[_]++v2)[iv.toNat]? =_
  rw [List.append_assoc,List.getElem?_append_right qf]
  simp [BO]
 have ee:xs.set iv.toNat (Sv none 0 0)=v1++[Sv none 0 0]++v2:=by
  rw [P2,List.append_assoc,List.set_append_right _ _ qf]
  simp [BO]
 have U2:l.set iv.toNat (⟨[]⟩:OwnI e)=l.take iv.toNat++((⟨[]⟩:OwnI e)::l.drop (iv.toNat+1)):=by
  rw [List.set_eq_take_append_cons_drop,if_pos qf]
 have VW:reps w (F1++F2) (xs.set iv.toNat (Sv none 0 0)) (l.set iv.toNat ⟨[]⟩):=by
  rw [ee,U2,List.append_assoc]
  exact yO hr1 ⟨[],F2,[Sv none 0 0],v2,rfl,rfl,⟨_,rfl,Or.inl ⟨rfl,rfl,rfl⟩⟩,hr2⟩
 have IW:F.Nodup:=N.nd F qm
 have aT:∀ x∈F1++F2,x∈F:=by
  intro x hx
  rw [L6]
  simp only [List.mem_append] at hx ⊢
  rcases hx with h | h
  ·exact Or.inl (Or.inl h)
  ·exact Or.inr h
 have hkF:∀ x∈Fk,x∈F:=fun x hx=>by rw [L6];simp [hx]
 have al0:∀ x∈Fk,x∉F1++F2:=by
  intro x hx hx'
  rw [L6] at IW
  have h1:=List.nodup_append.1 IW
  have h2:=List.nodup_append.1 h1.1
  rcases List.mem_append.1 hx' with h | h
  ·exact h2.2.2 x h x hx rfl
  ·exact h1.2.2 x (List.mem_append_right _ hx) x h rfl
 refine ⟨a,m,F1++F2,?_,N.less aT (fun _=>?_),?_⟩
 ·rw [el]
  have:=H.Vk k hp hxc
  rw [Nat.zero_add,Nat.mul_one]
  exact this
 ·rw [L6] at IW
  have h1:=List.nodup_append.1 IW
  have h2:=List.nodup_append.1 h1.1
  exact List.nodup_append.2 ⟨h2.1,h1.2.1,fun x hx y hy=>h1.2.2 x (List.mem_append_left _ hx) y hy⟩
 ·rw [el]
  have wj:∀ x,(Value.slice a (l[iv.toNat]).l.length m).ownBlock=some x->Fk=[x]:=by
   intro x hx
   rcases hu with ⟨h,_,_⟩ | ⟨g,dw,dx,h,hg,_⟩
   ·injection h with h1;subst h1;simp [Value.ownBlock] at hx
   ·injection h with h1;subst h1
    simp only [Value.ownBlock,Option.some.injEq] at hx
    rw [hg,hx]
  have GF:jP (.row (Sv a (l[iv.toNat]).l.length m) e 1 (l[iv.toNat]).l.length ((l[iv.toNat]).l.map (Value.int .i64))::ps) 0=(Value.slice a (l[iv.toNat]).l.length m).ownBlock:=rfl
  refine ⟨H.base,fun p hp' =>?_,fun i i' x h1 h2=>?_,fun f hf' =>?_⟩
  ·rcases List.mem_cons.1 hp' with rfl | h
   ·refine ⟨by simp,?_⟩
    rcases hu with ⟨h,hl,_⟩ | ⟨g,dw,dx,h,hg,hh,h1,h2,h3,h4⟩
    ·exact Or.inl ⟨h,by rw [hl];rfl⟩
    ·exact Or.inr ⟨g,dw,dx,h,N.ge F qm g (hkF g (by simp [hg])),hh,h1,h2,by omega,by rw [Nat.mul_one];exact h4⟩
   ·exact H.has p h
  ·cases i with
   | zero=>
    cases i' with
    | zero=>rfl
    | succ i' =>
     rw [GF] at h1
     have:=wj x h1
     exact absurd h2 ((hF x (hkF x (by simp [this]))).2 i')
   | succ i=>
    cases i' with
    | zero=>
     rw [GF] at h2
     have:=wj x h2
     exact absurd h1 ((hF x (hkF x (by simp [this]))).2 i)
    | succ i' =>rw [H.dist i i' x h1 h2]
  ·have C8:∀ x,x < w.heap.size->(∀ i,jP ps i≠some x)->x∉Fk->∀ i,jP (.row (Sv a (l[iv.toNat]).l.length m) e 1 (l[iv.toNat]).l.length ((l[iv.toNat]).l.map (Value.int .i64))::ps) i≠some x:=by
    intro x _ h2 h3 i
    cases i with
    | zero=>intro h;rw [GF] at h;exact h3 (by simp [wj x h])
    | succ i=>exact h2 i
   rcases List.mem_cons.1 hf' with rfl | h
   ·refine ⟨⟨VW,fun _ x hx=>(H.get j hf).2 rfl x (aT x hx)⟩,fun x hx=>⟨(hF x (aT x hx)).1,C8 x (hF x (aT x hx)).1 (hF x (aT x hx)).2 fun h=>al0 x h hx⟩⟩
   ·obtain ⟨h1,h2⟩:=hΓ f h
    have h3:=H.facts f h1
    exact ⟨h3.1,fun x hx=>⟨(h3.2 x hx).1,C8 x (h3.2 x hx).1 (h3.2 x hx).2 fun h=>h2 x hx (hkF x h)⟩⟩
end
section
variable {P : Program} {Q : Exit -> Act -> World -> Prop} {n : Nat} {ρ : Env} {W0 w : World} {ps : List Prv} {Γ : List Fact}
 {d:Nat} {ty:TypeId} {pos:String} {af:Array Edge} {K:Env->World->Prop}
theorem o_closeI [Dfr] {t:TypeId} {x y:Operand} (H:St W0 w ps Γ) (k:Nat) (hp:ps[k]? =some (.row (Sv (some ⟨b,0,none⟩) nn c') e2 1 nn xs)) (i:Nat) (Un:i≠k) {m:Nat} {z:yLI}
 (hq:ps[i]? =some (.row v e 1 m (z.map (Value.int .i64)))) (j:Nat) {F:yLN} {l:List (OwnI e)} {c:Nat} (hf:Γ[j]? =some (xy true F (xs.set c (Sv none 0 0)) l)) {L:List yLN} (N:Fresh W0.heap.size (F::L))
 (ha:∀ K∈L,∀ b∈K,∀ i,jP ps i≠some b)
 {iv:Int} (hs:∀ w,(Go.sizeOf t).run P w=.ok 1 w) (hx:ev n ρ x=.pointer (some ⟨b,0+iv.toNat * 1,none⟩)) (hy:ev n ρ y=v) (hi:iv.toNat=c) (h2:c < nn)
 (kk:∀ w' F',Fresh W0.heap.size (F'::L)->St W0 w' ((ps.set i (.row (Sv none 0 0) 0 1 0 [])).set k (.row (Sv (some ⟨b,0,none⟩) nn c') e2 1 nn (xs.set c v))) (xy true F' (xs.set c v) (l.set c ⟨z⟩)::Γ)->K ρ w'):
 OW P Q ⟨none,.store t x y,ty,pos,af,none⟩ n ρ w K:=by
 subst hi
 have DQ:=H.rowLen k hp
 have hll:(xs.set iv.toNat (Sv none 0 0)).length=l.length * 1:=Vx (H.get j hf).1
 rw [List.length_set] at hll
 have hF:=(H.facts _ (List.mem_of_getElem? hf)).2
 have ho:=(H.has _ (List.mem_of_getElem? hq):w.ownsRow W0.heap.size e 1 v m (z.map (Value.int .i64)))
 have hm:m=z.length:=by have:=ho.1;simp at this;omega
 subst hm
 obtain ⟨G,hG,oO,NB⟩:∃ G,OwnAt e w G v z/\(∀ x∈G,jP ps i=some x)/\yf w G:=by
  rcases ho.2 with ⟨rfl,h0⟩ | ⟨g,dw,dx,rfl,hb,hg,Hl,hcm,th,htake⟩
  ·exact ⟨[],Or.inl ⟨rfl,List.eq_nil_of_length_eq_zero h0,rfl⟩,by simp,yf.nil _⟩
  ·refine ⟨[g],Or.inr ⟨g,dw,dx,rfl,rfl,hg,Hl,hcm,by omega,by rw [Nat.mul_one] at htake;exact htake⟩,fun x hx=>?_,fun x hx=>?_⟩
   ·obtain rfl:=List.mem_singleton.1 hx
    simp [jP,hq,Prv.blk,Value.ownBlock]
   ·obtain rfl:=List.mem_singleton.1 hx
    exact ⟨_,_,hg⟩
 have Nm:G.Nodup:=by
  rcases hG with ⟨_,_,rfl⟩ | ⟨g,dw,dx,_,rfl,_⟩ <;> simp
 have ee:∀ (b' i' :Nat),jP (ps.set i (.row (Sv none 0 0) 0 1 0 [])) i' =some b' ->i' ≠i/\jP ps i' =some b' :=by
  intro b' i' h
  unfold jP at h ⊢
  by_cases hi:i' =i
  ·subst hi
   rw [set_at hq] at h
   simp [Prv.blk,Value.ownBlock] at h
  ·rw [List.getElem?_set_ne (Ne.symm hi)] at h
   exact ⟨hi,h⟩
 obtain ⟨F',hr,Cg,hs2⟩:=reps_set (H.get j hf).1 (show qW.rep w G [v] (⟨z⟩:OwnI e) from ⟨v,rfl,hG⟩) iv.toNat qf
 have e1:(xs.set iv.toNat (Sv none 0 0)).take (iv.toNat * qW.size (OwnI e))++[v]++(xs.set iv.toNat (Sv none 0 0)).drop (iv.toNat * qW.size (OwnI e)+[v].length)=xs.set iv.toNat v:=by
  show (xs.set iv.toNat (Sv none 0 0)).take (iv.toNat * 1)++[v]++(xs.set iv.toNat (Sv none 0 0)).drop (iv.toNat * 1+1)=xs.set iv.toNat v
  rw [Nat.mul_one,List.take_set_of_le (Nat.le_refl _),List.drop_set_of_lt qf,List.set_eq_take_append_cons_drop,if_pos qf]
  simp
 rw [e1] at hr
 have Oi:∀ x∈G,x∉F:=fun x hx h=>(hF x h).2 i (oO x hx)
 have N4:∀ K∈L,∀ x∈K,x∉G:=fun K hK x hx h=>ha K hK x hx i (oO x h)
 have N1:Fresh W0.heap.size (F'::L):=by
  have sk:∀ x∈G,W0.heap.size<=x:=fun x hx=>(QP H (oO x hx)).1
  refine ⟨fun K hK=>?_,fun K hK x hx=>?_,?_⟩
  ·rcases List.mem_cons.1 hK with rfl | h
   ·exact hs2 (N.nd F qm) Nm fun x hx h=>Oi x h hx
   ·exact N.nd K (List.mem_cons_of_mem _ h)
  ·rcases List.mem_cons.1 hK with rfl | h
   ·rcases Cg x hx with h | h
    ·exact N.ge F qm x h
    ·exact sk x h
   ·exact N.ge K (List.mem_cons_of_mem _ h) x hx
  ·have hd:=List.pairwise_cons.1 N.dj
   refine List.pairwise_cons.2 ⟨fun K hK x hx=>?_,hd.2⟩
   rcases Cg x hx with h | h
   ·exact hd.1 K hK x h
   ·exact fun Ps=>N4 K hK x Ps h
 have H1:St W0 w (ps.set i (.row (Sv none 0 0) 0 1 0 [])) (xy true F' (xs.set iv.toNat v) (l.set iv.toNat ⟨z⟩)::Γ):=by
  refine (H.dead i hq).add _ ⟨hr,fun _ x hx=>?_⟩ fun x hx=>?_
  ·rcases Cg x hx with h | h
   ·exact (H.get j hf).2 rfl x h
   ·exact NB x h
  ·rcases Cg x hx with h | h
   ·exact ⟨(hF x h).1,fun i' gw =>(hF x h).2 i' (ee x i' gw).2⟩
   ·exact ⟨(QP H (oO x h)).2,fun i' gw =>(ee x i' gw).1 (H.dist i' i x (ee x i' gw).2 (oO x h))⟩
 have hp1:(ps.set i (.row (Sv none 0 0) 0 1 0 []))[k]? =some (.row (Sv (some ⟨b,0,none⟩) nn c') e2 1 nn xs):=by rw [List.getElem?_set_ne Un];exact hp
 obtain ⟨a,cc,hv⟩:=hG.slice
 exact o_storeRow1 H1 k hp1 v hs hx hy (by rw [hv];rfl) h2 fun w' H' =>kk w' F' N1 H'
end
theorem keepA {B:Nat} {Γ':List Fact} {LA L:List yLN} (A:∀ G∈LA,∀ b∈G,b < B) (N:Fresh B (F::L)) (js:yLN) (he:js.map (fun j=>Γ[j]?)=Γ'.map some) (hF:Γ'.map Fact.F=LA):∀ f∈Γ',f∈Γ/\∀ x∈f.F,x∉F:=fun f hf=>by
 constructor
 ·have h1:some f∈js.map (fun j=>Γ[j]?):=by rw [he];exact List.mem_map_of_mem hf
  obtain ⟨j,_,h2⟩:=List.mem_map.1 h1
  exact List.mem_of_getElem? h2
 ·intro x hx hxF
  have h1:=A f.F (by rw [← hF];exact List.mem_map_of_mem hf) x hx
  have h2:=N.ge F qm x hxF
  omega
end
section
noncomputable def ownL (e:TypeId) (s:qC) (t:qH) (n q:Nat):List (OwnI e):=(List.range n).map fun (c:Nat)=>⟨((appls s t).take q).filter fun x=>decide ((s.qB[x.toNat]!).qI=(c:Int))⟩
theorem ownL_len (e:TypeId) (s:qC) (t:qH) (n q:Nat):(ownL e s t n q).length=n:=by simp [ownL]
theorem ownL_get (h:c < n):(ownL e s t n q)[c]! =⟨((appls s t).take q).filter fun x=>decide ((s.qB[x.toNat]!).qI=(c:Int))⟩:=by
 rw [getElem!_pos (ownL e s t n q) c (by rw [ownL_len];exact h)];simp [ownL]
theorem ownL_zero (e:TypeId) (s:qC) (t:qH) (n:Nat):List.replicate n (⟨[]⟩:OwnI e)=ownL e s t n 0:=by
 refine List.ext_getElem (by simp [ownL]) fun i h1 h2=>by simp [ownL]
theorem ownL_set (hq:q < (appls s t).length) (hc:(s.qB[((appls s t)[q]!).toNat]!).qI.toNat=c) (h0:0<=(s.qB[((appls s t)[q]!).toNat]!).qI) (hn:c < n)
 {l:List (OwnI e)} (hl:l=(ownL e s t n q).set c ⟨((ownL e s t n q)[c]!).l++[(appls s t)[q]!]⟩):l=ownL e s t n (q+1):=by
 subst hl
 refine List.ext_getElem (by simp [ownL]) fun i h1 h2=>?_
 have hi:i < n:=by simpa [ownL] using h1
 rw [← getElem!_pos _ i h1,← getElem!_pos _ i h2,getset (by rw [ownL_len];exact hn),ownL_get (q:=q+1) hi]
 rw [← take_snoc hq,List.filter_append]
 by_cases e' :i=c
 ·subst e'
  rw [if_pos rfl,ownL_get hi,List.filter_cons_of_pos (a:=(appls s t)[q]!) (decide_eq_true qf),List.filter_nil]
 ·rw [if_neg e',ownL_get hi]
  rw [List.filter_cons_of_neg (a:=(appls s t)[q]!) (fun h=>by have:=of_decide_eq_true h;omega),List.filter_nil,List.append_nil]
theorem ownL_le (h:c < n):((ownL e s t n q)[c]!).l.length<=(appls s t).length:=by
 rw [ownL_get h]
 exact Nat.le_trans (List.length_filter_le _ _) (by rw [List.length_take];omega)
noncomputable def cellsR (s:qC) (t:qH) (n:Nat):yLL:=(List.range n).map (je s t)
theorem cellsR_len (s:qC) (t:qH) (n:Nat):(cellsR s t n).length=n:=by simp [cellsR]
theorem cellsR_get (h:c < n):(cellsR s t n)[c]! =je s t c:=by
 rw [getElem!_pos (cellsR s t n) c (by rw [cellsR_len];exact h)];simp [cellsR]
theorem ownL_end (h:(appls s t).length<=q):(ownL e s t n q).map OwnI.l=cellsR s t n:=by
 unfold ownL cellsR
 rw [List.take_of_length_le h,List.map_map]
 rfl
theorem own_bad (hs:ve s) (hq:q < (appls s t).length) (h1:QS (t.qQ[(s.qB[((appls s t)[q]!).toNat]!).qI.toNat]!) > 16):¬ GoodP s t s.qA.length:=by
 have hm:(appls s t)[q]! ∈appls s t:=by rw [getElem!_pos _ q hq];exact List.getElem_mem hq
 obtain ⟨a,b,d⟩:=mem_applL.1 hm
 have hc:=(hs.rule b).1
 have uM:=(hs.rule b).cell
 refine bad_sum (c:=(s.qB[((appls s t)[q]!).toNat]!).qI.toNat) uM (fun h0=>?_) h1
 have:(appls s t)[q]! ∈je s t (s.qB[((appls s t)[q]!).toNat]!).qI.toNat:=by
  unfold je cellT
  exact List.mem_filter.2 ⟨hm,decide_eq_true (Int.toNat_of_nonneg hc.1).symm⟩
 rw [List.eq_nil_of_length_eq_zero h0] at this
 simp at this
noncomputable def XR (s:qC) (t:qH) (k:Nat):List inCellD:=(Vd s t k).map fun c=>⟨je s t c,(cellP s t c).1⟩
theorem cells_len (s:qC) (t:qH) (k:Nat):(XR s t k).length=(xN s t k).length:=by simp [XR,xN]
theorem cells_yes (h:¬ (je s t k).length=0):XR s t k++[⟨je s t k,(cellP s t k).1⟩]=XR s t (k+1):=by simp [XR,live_yes h]
theorem cells_no (h:(je s t k).length=0):XR s t k=XR s t (k+1):=by simp [XR,live_no h]
theorem cells_at (h:i < (XR s t k).length):((XR s t k)[i]!).frules=(xN s t k)[i]! /\((XR s t k)[i]!).fpackings=(zu s t k)[i]! :=by
 have h1:i < (xN s t k).length:=by rw [← cells_len];exact h
 have h2:i < (zu s t k).length:=by rw [packsL_le];exact h1
 rw [getElem!_pos _ i h,getElem!_pos _ i h1,getElem!_pos _ i h2]
 simp [XR,xN,zu]
theorem prod_stop {all:List yLL} (h:∀ j,j < n->all[j]! ≠[]) (hi:i < n) {G:yLL} {r:yLI} (hG:G.length=Xt all i) (hk:k<=G.length) (h1:(nextK G r (all[i]!) k).length > 300):Xt all n > 300:=by
 rw [nextK_len hk] at h1
 have h2:=prod_mono h (show i+1<=n from hi) (Nat.le_refl _)
 rw [Xt,← hG] at h2
 have h3:=Nat.mul_le_mul_right (all[i]!).length hk
 omega
theorem appls_inH (hq:q < (appls s t).length):0<=(appls s t)[q]! /\((appls s t)[q]!).toNat < s.qB.length/\Appl s t ((appls s t)[q]!).toNat:=by
 have hm:(appls s t)[q]! ∈appls s t:=by rw [getElem!_pos _ q hq];exact List.getElem_mem hq
 exact mem_applL.1 hm
theorem bagAny_okH:vZ (l.length:Int) l<->XA l:=⟨fun h=>h.1,fun h=>⟨h,rfl⟩⟩
theorem sumTo_ge {l:yLI} (h:∀ k,k < l.length->0<=l[k]!):∀ n,n<=l.length->0<=sumTo l n/\∀ j,j < n->l[j]! <=sumTo l n
 | 0,_=>⟨by simp [sumTo],fun j hj=>by omega⟩
 | n+1,hn=>by
  obtain ⟨h1,h2⟩:=sumTo_ge h n qf
  have h3:=h n qf
  rw [sumTo]
  refine ⟨by omega,fun j hj=>?_⟩
  by_cases e:j=n
  ·subst e;omega
  ·have:=h2 j qf;omega
theorem Vs.bags (h:Vs ae ai) (h1:1<=ae.length):
 XA ai/\ae.length<=8/\∀ i,i < ae.length->XA (ae[i]!)/\(ae[i]!).length=ai.length/\QS (ae[i]!)≠0:=by
 obtain ⟨K,hK,hP,hR,hn⟩:=h
 have bag:∀ i,i < ae.length->XA (ae[i]!)/\(ae[i]!).length=ai.length/\QS (ae[i]!)≠0:=fun i hi=>by
  obtain ⟨hl,hb,j,hj,hp⟩:=hP i hi
  refine ⟨⟨fun k hk=>hb k qf,by omega,by omega⟩,by have:=hR.1;omega,?_⟩
  have:=(sumTo_ge (l:=ae[i]!) (fun k hk=>(hb k qf).1) _ (Nat.le_refl _)).2 j qf
  unfold QS;omega
 obtain ⟨hl,_,j,hj,_⟩:=hP 0 qf
 exact ⟨⟨fun k hk=>hR.2 k (by have:=hR.1;omega),by have:=hR.1;omega,by have:=hR.1;omega⟩,hn,bag⟩
theorem pack_begin {n:Int} (hc:i < cn.length) (h2:cn.take i=cs.take i):(cn.set i n).take (i+1)=cs.take i++[n]:=by
 rw [List.take_add_one,List.take_set_of_le (Nat.le_refl _),h2,List.getElem?_set_self hc];rfl
theorem pack_keep {c2:yLI} {n:Int} (h:c2.take (i+1)=(cn.set i n).take (i+1)) (h2:cn.take i=cs.take i):c2.take i=cs.take i:=by
 have:=congrArg (List.take i) h
 rwa [List.take_take,List.take_take,Nat.min_eq_left qf,List.take_set_of_le (Nat.le_refl _),h2] at this
theorem pack_stepI {out:yLL} (hf:i+f=ae.length) (hp:i < ae.length) (hc:cn.length=ae.length) (h2:cn.take i=cs.take i)
 (h:(gath out (begins (cs.take i) (yA ae (f - 1) i ai n))).length<=2000):
 gath (gath out (begins (cs.take i) (yA ae (f - 1) i ai n))) (begins ((cn.set i (n:Int)).take (i+1)) (packs ae (ae.length - (i+1)) (i+1) (jT ai (ae[i]!) (-(n:Int)))))=gath out (begins (cs.take i) (yA ae (f - 1) i ai (n+1))):=by
 rw [pack_begin qf h2,← gath_step h,show ae.length - (i+1)=f - 1 by omega]
theorem pack_startI {out:yLL} (h:out.length<=2000):out=gath out (begins (cs.take i) (yA ae f i ai 0)):=by
 rw [packsTo_zero];exact (gath_nil qf).symm
theorem pack_fullI {out:yLL} (hl:i=ae.length) (hc:cs.length=ae.length) (h:FullOk ae ai) (ho:out.length<=2000):
 gath out (begins (cs.take i) (packs ae (ae.length - i) i ai))=out++[cs]:=by
 rw [show ae.length - i=0 by omega,packs_full h,begins_one,gath_one ho,List.take_of_length_le qf]
theorem pack_noneI {out:yLL} (hl:i=ae.length) (h:¬ FullOk ae ai) (ho:out.length<=2000):
 gath out (begins (cs.take i) (packs ae (ae.length - i) i ai))=out:=by
 rw [show ae.length - i=0 by omega,packs_none h];exact gath_nil qf
theorem pack_endI {out:yLL} (hf:i+f=ae.length) (hp:i < ae.length) (hn:(n:Int)<=jR (ae[i]!) ai+1)
 (h0:0<=jR (ae[i]!) ai) (h:¬ (n:Int)<=jR (ae[i]!) ai\/¬ (gath out (begins (cs.take i) (yA ae (f - 1) i ai n))).length<=2000):
 gath out (begins (cs.take i) (packs ae (ae.length - i) i ai))=gath out (begins (cs.take i) (yA ae (f - 1) i ai n)):=by
 obtain ⟨f,rfl⟩:∃ g,f=g+1:=⟨f - 1,by omega⟩
 rw [show ae.length - i=f+1 by omega]
 rw [show f+1 - 1=f from rfl] at h ⊢
 exact (gath_end qf (by rcases h with h | h;(left;omega);(right;omega))).symm
theorem all_bI {b:yLI} (h:¬ QS b > 16) (h1:(gath ([]:yLL) (begins (cs.take 0) (packs ae (ae.length - 0) 0 b))).length > 2000):yD b ae=([],3):=by
 rw [show cs.take 0=[] from rfl,begins_nil] at h1
 have h2:(packs ae ae.length 0 b).length > 2000:=gath_all.1 h1
 rw [yD,if_neg h,if_pos h2]
theorem all_0I {b:yLI} (h:¬ QS b > 16) (h1:¬ (gath ([]:yLL) (begins (cs.take 0) (packs ae (ae.length - 0) 0 b))).length > 2000):yD b ae=(gath ([]:yLL) (begins (cs.take 0) (packs ae (ae.length - 0) 0 b)),0):=by
 rw [show cs.take 0=[] from rfl,begins_nil] at h1 ⊢
 have h2:¬ (packs ae ae.length 0 b).length > 2000:=fun h=>h1 (gath_all.2 h)
 rw [yD,if_neg h,if_neg h2,show ae.length - 0=ae.length from rfl,gath_few h2]
end
section
variable {cb : Nat}
theorem isBag_ok (w:World) (l:yLI) {cl:Nat} (hl:zP w Fl al cl l):Calls Tryz.prog 229 #[Sv al l.length cl] w (Ret (fun v w' =>v=Bv (dec (XA l))) w):=by
 refine en func229 ntmps229 ?_
 have H:=(St.start w).arg hl
 clear hl
 refine zcr (sp (Bv false) (zjc (sq 1 (sw (oq (sizeI_ok _ l (H.get 0 rfl).1) H fun w1 H=>sq 1 (sw (oq (VB _ (l.length:Int) l (H.get 0 rfl).1) H fun w3 H=>sq 1 (zjr (rH1 (Bv (dec (vZ (l.length:Int) l))) H ?_)))))))))
 rw [dec_congr bagAny_okH]
theorem isFull_ok (w:World) (ai:yLI) (ae:yLL) {bj:yOA} {bk:Nat} {cY:yLN} (sH:zP w cY bj bk ai) (bK:zP w ax zO zK ae) (p0:Vs ae ai):Calls Tryz.prog 216 #[Sv bj ai.length bk,Sv zO ae.length zK] w (Ret (fun v w' =>v=Bv (dec (FullOk ae ai))) w):=by
 refine en func216 ntmps216 ?_
 have H:=((St.start w).arg bK).arg sH
 have al6:=qM sH
 have mj:=qM bK
 clear sH bK
 have N:=Fresh.nil w.heap.size
 refine zcr (sw (zZ H [Sv bj ai.length bk] fun b1 w2 H=>sp (Bv false) (zjc (sq 1 (sp (.func (.func 227) #[] #[pp b1 0]) (sw (zQ #[Sv zO ae.length zK,.func (.func 227) #[] #[pp b1 0]] rfl rfl call97 (en func97 ntmps97 ?_))))))))
 refine zcr (sp (Bv false) (zjc (sq 1 (sp (.func (.func 227) #[] #[pp b1 0]) (sw (zQ #[Sv zO ae.length zK,.func (.func 227) #[] #[pp b1 0]] rfl rfl call150 (en func150 ntmps150 ?_)))))))
 refine zcr (sp (yI 0) (zjcc (sq 1 (oN rfl (sp (yI 0) (zjn (qR (zl ((fun Z0 Z1 Z2=>fun m' ρ w3=>∃ (xE:Env) (i:Nat),ρ=upd (upd (upd (upd xE 0 (Sv zO ae.length zK)) 1 (.func (.func 227) #[] #[pp b1 0])) 7 (yI ae.length)) 8 (yI i)/\((i:Int)<=ae.length)/\(FullTo ae ai i)/\m' =(ae.length - (i:Int)).toNat/\Fresh w.heap.size []/\St w w3 [Z0] [Z1,Z2]) _ _ _) ((ae.length - (0:Int)).toNat) ⟨_,0,uE4,qf,(by exact fun j hj=>by omega),rfl,N,H⟩ ?_))))))))
 clear H N
 rintro m' ρ w4 ⟨xE,i,rfl,i0,i1,rfl,N,H⟩
 refine zcr (sq 1 (zjn (xQ (cD rfl (fun h5=>?_) (fun h5=>?_)))))
 ·obtain ⟨t1,t2,t3,t4,t5⟩:=p0.times (k:=i) qf
  refine qV (t_n (xQ (qR (zcr (sp (yI i) (sp (yI i) (zjc (sp (.func (.func 227) #[] #[pp b1 0]) (sq 1 (sp (yI i) ?_))))))))))
  obtain ⟨b6,o7,rfl⟩:=H.addr 1 rfl qf
  obtain ⟨Bs,At,O9,H⟩:=H.zW 1 rfl i i qf qf qf
  refine oI rfl rfl (oL rfl (H.xP 1 rfl 0 rfl) (sw (zQ #[Sv Bs ((ae[i]!).length) At,pp b1 0] rfl rfl call227 (en func227 ntmps227 ?_))))
  refine zcr (sp (Bv false) (zjc (sq 1 (oL rfl (H.cell 0 rfl rfl) (sw (oq (isWithin_ok _ (ae[i]!) ai (H.get 0 rfl).1 (H.get 2 rfl).1 qg qg) H fun nq H=>sq 1 (zjr (ret1 (Bv (within (ae[i]!) ai)) rfl rfl ⟨_,rfl,(zjn (zT _ rfl (fun db=>?_) (fun db=>?_)))⟩))))))))
  ·refine zcr (sp (yI i) (sp (yI i) (zjr (zr5 (ret1 (yI i) rfl rfl ⟨_,rfl,(sw (o_pure (Bv true) (by show some (Value.bool (decide ((i:Int)>=0)))=some (Value.bool true);rw [decide_eq_true qf]) (sp (Bv true) (zjr (ret1 (Bv true) rfl rfl ⟨_,rfl,(sp (Bv false) (sp (Bv false) (zjr (rH1 (Bv false) H ?_))))⟩)))))⟩)))))
   rw [xh (fun h=>by have:=h i qf;simp_all)]
  refine qV (b_n (t_n (xJ (sw (zn i 1 rfl rfl qf (sq 1 (xO (qX (m' :=(ae.length - ((i+1):Int)).toNat) qf ⟨_,i+1,uE4,?_,?_,rfl,N,H.pick [0] [2,3]⟩))))))))
  ·omega
  ·exact i1.succ ‹_›
 refine zx4 (zcr (sq 1 (zjr (ret1 (yI (-1)) rfl rfl ⟨_,rfl,(sp (Bv false) (sp (Bv false) (zjr (ret1 (Bv false) rfl rfl ⟨_,rfl,(sp (Bv true) (sp (Bv true) (zjr (rH1 (Bv true) H ?_))))⟩))))⟩))))
 rw [jH (show FullOk ae ai from fun j hj=>i1 j qf)]
theorem bagAndParts_ok (w:World) (b:yLI) (ae:yLL) (hb:zP w Fb ab cb b) (bK:zP w ax zO zK ae) (p0:Vs ae b) (p1:1<=ae.length):Calls Tryz.prog 223 #[Sv ab b.length cb,Sv zO ae.length zK] w (Ret (fun v w' =>v=yI 0) w):=by
 refine en func223 ntmps223 ?_
 have H:=((St.start w).arg bK).arg hb
 have mj:=qM bK
 clear hb bK
 have N:=Fresh.nil w.heap.size
 obtain ⟨pb,pl,pk⟩:=p0.bags p1
 refine zcr (sp (yI 0) (zjcc (sq 1 (sw (oq (isBag_ok _ b (H.get 0 rfl).1) H fun w2 H=>sq 1 (zjn (cQ rfl (fun h4=>?_) (fun h4=>?_))))))))
 ·refine zcr (sp (yI 1) (zjr (t_r (rH1 (yI 1) H ?_))))
  exfalso;exact ‹¬ XA _› pb
 refine qV (t_n (zcr (sq 1 (oN rfl (sq 2 (oN rfl (sw (zV H underlying24 ti2 ae.length rfl rfl qf qf qf fun b5 w6 H=>sw (zQ #[yI b.length,Sv zO ae.length zK,Sv (aa b5 0) ae.length ae.length] rfl rfl call230 (en func230 ntmps230 ?_))))))))))
 refine zcr (sp (yI 0) (zjcc (sq 1 (sw (zQ #[Sv zO ae.length zK,.func (.func 231) #[] #[]] rfl rfl call97 (en func97 ntmps97 ?_))))))
 refine zcr (sp (Bv false) (zjc (sq 1 (sp (.func (.func 231) #[] #[]) (sw (zQ #[Sv zO ae.length zK,.func (.func 231) #[] #[]] rfl rfl call150 (en func150 ntmps150 ?_)))))))
 refine zcr (sp (yI 0) (zjcc (sq 1 (oN rfl (sp (yI 0) (zjn (qR (zl ((fun Z0 Z1 Z2=>fun m' ρ w7=>∃ (xE:Env) (i:Nat),ρ=upd (upd (upd (upd xE 0 (Sv zO ae.length zK)) 1 (.func (.func 231) #[] #[])) 7 (yI ae.length)) 8 (yI i)/\((i:Int)<=ae.length)/\(True)/\m' =(ae.length - (i:Int)).toNat/\Fresh w.heap.size []/\St w w7 [Z0] [Z1,Z2]) _ _ _) ((ae.length - (0:Int)).toNat) ⟨_,0,uE4,qf,(by trivial),rfl,N,H⟩ ?_))))))))
 clear H N
 rintro m' ρ w8 ⟨xE,i,rfl,i0,i1,rfl,N,H⟩
 refine zcr (sq 1 (zjn (xQ (cD rfl (fun h9=>?_) (fun h9=>?_)))))
 ·refine qV (t_n (xQ (qR (zcr (sp (yI i) (sp (yI i) (zjc (sp (.func (.func 231) #[] #[]) (sq 1 (sp (yI i) ?_))))))))))
  obtain ⟨np,Da,rfl⟩:=H.addr 1 rfl qf
  obtain ⟨qe,rB,GJ,H⟩:=H.zW 1 rfl i i qf qf qf
  refine oI rfl rfl (oL rfl (H.xP 1 rfl 0 rfl) (sw (zQ #[Sv qe ((ae[i]!).length) rB] rfl rfl call231 (en func231 ntmps231 ?_))))
  refine zcr (sp (Bv false) (zjc (sq 1 (sw (oq (isBag_ok _ (ae[i]!) (H.get 0 rfl).1) H fun yi H=>sq 2 (zjr (ret1 (Bv (!(dec (XA (ae[i]!))))) rfl rfl ⟨_,rfl,(zjn (cQ rfl (fun tY=>?_) (fun tY=>?_)))⟩)))))))
  ·exact absurd (pk i qf).1 tY
  refine qV (b_n (t_n (xJ (sw (zn i 1 rfl rfl qf (sq 1 (xO (qX (m' :=(ae.length - ((i+1):Int)).toNat) qf ⟨_,i+1,uE4,?_,?_,rfl,N,H.pick [0] [2,3]⟩))))))))
  ·omega
  ·trivial
 refine zx4 (zcr (sq 1 (zjr (ret1 (yI (-1)) rfl rfl ⟨_,rfl,(sp (Bv false) (sp (Bv false) (zjr (ret1 (Bv false) rfl rfl ⟨_,rfl,(zjn (cFr rfl (qV (t_n (zcc (sq 1 (oN rfl (sp (Bv (decide ((ae.length:Int) > 8))) (sp (Bv (decide ((ae.length:Int) > 8))) ?_)))))))))⟩))))⟩))))
 cases dd:(decide ((ae.length:Int) > 8))
 ·replace dd:=of_decide_eq_false dd
  refine qJ 14 rfl rfl (sq 1 (qJ 14 rfl rfl (oN rfl (qJ 14 rfl rfl (sq 1 (qJ 14 rfl rfl (oN rfl (qJ 14 rfl rfl (sq 2 (zjn (zT _ rfl (fun h=>absurd rfl (bne_iff_ne.1 h)) (fun zE=>?_))))))))))))
  replace zE:=xx zE
  refine qV (t_n (zcc (sq 1 (oN rfl (sp (yI 0) (zjn (qR (zl ((fun Z0 Z1 Z2=>fun m' ρ rO=>∃ (xE:Env) (az:Nat),ρ=upd (upd (upd (upd (upd xE 0 (yI b.length)) 2 (Sv (aa b5 0) ae.length ae.length)) 21 (Sv zO ae.length zK)) 22 (yI ae.length)) 23 (yI az)/\((az:Int)<=ae.length)/\m' =(ae.length - (az:Int)).toNat/\Fresh w.heap.size []/\St w rO [Z0] [Z1,Z2]) _ _ _) ((ae.length - (0:Int)).toNat) ⟨_,0,uE5,qf,rfl,N,H⟩ ?_))))))))
  clear H N
  rintro m' ρ In ⟨xE,az,rfl,i0,rfl,N,H⟩
  refine zcr (sq 1 (zjn (xQ (cD rfl (fun Rn=>?_) (fun Rn=>?_)))))
  ·obtain ⟨r1,r2,r3⟩:=pk az qf
   have r4:=yL r1
   have r5:(List.replicate ae.length (0:Int))[az]! =0:=by rw [getElem!_pos _ az qy];simp
   refine qV (t_n (xQ (qR (zcr (sq 1 ?_)))))
   obtain ⟨PV,o24,rfl⟩:=H.addr 1 rfl qf
   obtain ⟨ax9,azL,azw,H⟩:=H.zW 1 rfl az az qf qf qf
   refine oI rfl rfl (oL rfl (H.xP 1 rfl 0 rfl) (sq 2 (zjc (sq 1 (oN rfl (sq 1 (sp (Bv (((ae[az]!).length:Int) != b.length)) (sp (Bv (((ae[az]!).length:Int) != b.length)) ?_))))))))
   cases lJ:(((ae[az]!).length:Int) != b.length)
   ·replace lJ:=xx lJ
    refine qJ 32 rfl rfl (sq 1 (qJ 32 rfl rfl (sw (oq (XC _ (ae[az]!) (H.get 0 rfl).1 (by assumption)) H fun FG H=>qJ 32 rfl rfl (sp (Bv ((QS (ae[az]!):Int) == 0)) (sp (Bv ((QS (ae[az]!):Int) == 0)) (sp (Bv ((QS (ae[az]!):Int) == 0)) ?_)))))))
    cases CH:((QS (ae[az]!):Int) == 0)
    ·replace CH:=ne_of_beq_false CH
     refine qJ 37 rfl rfl (sq 1 (qJ 37 rfl rfl (sq 1 (qJ 37 rfl rfl (oI rfl rfl (qJ 37 rfl rfl (oL rfl (H.QJ 0 rfl (iv:=az) (i:=az) qf qf) (qJ 37 rfl rfl (sw (oq (XZ FG ((List.replicate ae.length (0:Int))[az]!) 0 1000) H fun Mi H=>qJ 37 rfl rfl (sp (Bv (!(inR ((List.replicate ae.length (0:Int))[az]!) 0 1000))) (sp (Bv (!(inR ((List.replicate ae.length (0:Int))[az]!) 0 1000))) (zjn (zT (!(inR ((List.replicate ae.length (0:Int))[az]!) 0 1000)) rfl (fun tA=>?_) (fun tA=>?_)))))))))))))))
     ·replace tA:=xB tA
      replace tA:=XD tA
      refine zcr (sp (yI 2) (zjr (zr5 (ret1 (yI 2) rfl rfl ⟨_,rfl,(sp (yI 2) (zjr (rH1 (yI 2) H ?_)))⟩))))
      exfalso;omega
     replace tA:=xn tA
     replace tA:=QV.1 tA
     refine qV (b_n (t_n (xJ (sw (zn az 1 rfl rfl qf (sq 1 (xO (qX (m' :=(ae.length - ((az+1):Int)).toNat) qf ⟨_,az+1,uE5,?_,rfl,N,H.pick [0] [2,3]⟩))))))))
     ·omega
    replace CH:=eq_of_beq CH
    refine xR (zR 38 6) (sp (Bv true) (zjn (cTr rfl (zcr (sp (yI 2) (zjr (zr5 (ret1 (yI 2) rfl rfl ⟨_,rfl,(sp (yI 2) (zjr (rH1 (yI 2) H ?_)))⟩))))))))
    exfalso;omega
   replace lJ:=bne_iff_ne.1 lJ
   refine xR [33,34,35] (sp (Bv true) (sp (Bv true) (xR (zR 38 6) (sp (Bv true) (zjn (cTr rfl (zcr (sp (yI 2) (zjr (zr5 (ret1 (yI 2) rfl rfl ⟨_,rfl,(sp (yI 2) (zjr (rH1 (yI 2) H ?_)))⟩)))))))))))
   exfalso;omega
  refine zx4 (zcr (sp (yI 0) (zjr (ret1 (yI 0) rfl rfl ⟨_,rfl,(sp (yI 0) (zjr (rH1 (yI 0) H ?_)))⟩))))
  rfl
 replace dd:=of_decide_eq_true dd
 refine xR (zR 15 5) (sp (Bv true) (zjn (cTr rfl (zcr (sp (yI 2) (zjr (t_r (ret1 (yI 2) rfl rfl ⟨_,rfl,(sp (yI 2) (zjr (rH1 (yI 2) H ?_)))⟩))))))))
 exfalso;omega
def packFrom_ok_S (f:Nat):Prop:=∀ {W0 w:World} {ps:List Prv} {Γ:List Fact} {Ns:List yLN} (i:Nat) (ai:yLI) (ae:yLL) (out:yLL) (cs:yLI) (bj:yOA) (bk:Nat) (cY:yLN) (zO:yOA) (zK:Nat) (ax:yLN) (bp:Nat) (bi:Nat) (bq:Nat) (bo:Nat) (bl:Nat) (bc:Nat) (bf:Nat) (cz:yOA) (ju:Nat) (cG:Nat) (cF:List Value) (aQ:yLN) (nt:yOA) (tR:Nat) (lK:Nat) (H:St W0 w ((.box bp [Sv zO ae.length zK] 29)::(.box bi [.func (.func 215) #[] #[pp bq 0]] 126)::(.box bq [Sv zO ae.length zK] 29)::(.box bo [pp bl 0] 235)::(.box bl [Sv cz ju cG] 237)::(.box bc [Sv nt tR lK] 24)::(.box bf [.func (.func 224) #[] #[pp bp 0,pp bi 0,pp bo 0,pp bc 0,pp bf 0]] 238)::(rr cz ju cG 24 1 cF)::(rr nt tR lK 2 1 (cs.map (Value.int .i64)))::ps) ((sF false cY bj bk ai)::(sF false ax zO zK ae)::(xy true aQ cF out)::Γ)) (N:Fresh W0.heap.size (aQ::Ns)) (K0:Kept Ns Γ) (p0:i+f=ae.length) (p1:Vs ae ai) (p2:out.length<=2000) (p3:cs.length=ae.length),Calls Tryz.prog 224 #[yI i,Sv bj ai.length bk,pp bp 0,pp bi 0,pp bo 0,pp bc 0,pp bf 0] w (fun e w' =>∃ v,e=.returned v/\∃ (Pd:yLI) (eK:yOA) (fa:Nat) (e6:Nat) (et:List Value) (eU:yLN),(Pd.length=cs.length)/\(Pd.take i=cs.take i)/\v=Bv (dec ((gath out (begins (cs.take i) (packs ae (ae.length - i) i ai))).length<=2000))/\Fresh W0.heap.size (eU::Ns)/\St W0 w' ((.box bp [Sv zO ae.length zK] 29)::(.box bi [.func (.func 215) #[] #[pp bq 0]] 126)::(.box bq [Sv zO ae.length zK] 29)::(.box bo [pp bl 0] 235)::(.box bl [Sv eK fa e6] 237)::(.box bc [Sv nt tR lK] 24)::(.box bf [.func (.func 224) #[] #[pp bp 0,pp bi 0,pp bo 0,pp bc 0,pp bf 0]] 238)::(rr eK fa e6 24 1 et)::(rr nt tR lK 2 1 (Pd.map (Value.int .i64)))::ps) ((sF false cY bj bk ai)::(sF false ax zO zK ae)::(xy true eU et (gath out (begins (cs.take i) (packs ae (ae.length - i) i ai))))::Γ))
theorem packFrom_ok_step (f:Nat) (IH:∀ k,k < f->packFrom_ok_S k) {W0:World} {ps:List Prv} {Ns:List yLN} (i:Nat) (ai:yLI) (ae:yLL) (out:yLL) (cs:yLI) (bj:yOA) (bk:Nat) (cY:yLN) (zO:yOA) (zK:Nat) (ax:yLN) (bp:Nat) (bi:Nat) (bq:Nat) (bo:Nat) (bl:Nat) (bc:Nat) (bf:Nat) (cz:yOA) (ju:Nat) (cG:Nat) (cF:List Value) (aQ:yLN) (nt:yOA) (tR:Nat) (lK:Nat) (H:St W0 w ((.box bp [Sv zO ae.length zK] 29)::(.box bi [.func (.func 215) #[] #[pp bq 0]] 126)::(.box bq [Sv zO ae.length zK] 29)::(.box bo [pp bl 0] 235)::(.box bl [Sv cz ju cG] 237)::(.box bc [Sv nt tR lK] 24)::(.box bf [.func (.func 224) #[] #[pp bp 0,pp bi 0,pp bo 0,pp bc 0,pp bf 0]] 238)::(rr cz ju cG 24 1 cF)::(rr nt tR lK 2 1 (cs.map (Value.int .i64)))::ps) ((sF false cY bj bk ai)::(sF false ax zO zK ae)::(xy true aQ cF out)::Γ)) (N:Fresh W0.heap.size (aQ::Ns)) (K0:Kept Ns Γ) (p0:i+f=ae.length) (p1:Vs ae ai) (p2:out.length<=2000) (p3:cs.length=ae.length):Calls Tryz.prog 224 #[yI i,Sv bj ai.length bk,pp bp 0,pp bi 0,pp bo 0,pp bc 0,pp bf 0] w (fun e w' =>∃ v,e=.returned v/\∃ (Pd:yLI) (eK:yOA) (fa:Nat) (e6:Nat) (et:List Value) (eU:yLN),(Pd.length=cs.length)/\(Pd.take i=cs.take i)/\v=Bv (dec ((gath out (begins (cs.take i) (packs ae (ae.length - i) i ai))).length<=2000))/\Fresh W0.heap.size (eU::Ns)/\St W0 w' ((.box bp [Sv zO ae.length zK] 29)::(.box bi [.func (.func 215) #[] #[pp bq 0]] 126)::(.box bq [Sv zO ae.length zK] 29)::(.box bo [pp bl 0] 235)::(.box bl [Sv eK fa e6] 237)::(.box bc [Sv nt tR lK] 24)::(.box bf [.func (.func 224) #[] #[pp bp 0,pp bi 0,pp bo 0,pp bc 0,pp bf 0]] 238)::(rr eK fa e6 24 1 et)::(rr nt tR lK 2 1 (Pd.map (Value.int .i64)))::ps) ((sF false cY bj bk ai)::(sF false ax zO zK ae)::(xy true eU et (gath out (begins (cs.take i) (packs ae (ae.length - i) i ai))))::Γ)):=by
 refine en func224 ntmps224 ?_
 have ame:=qM (H.get 1 rfl).1
 obtain rfl:=H.zg (α:=yLI) 7 rfl 2 rfl qj
 obtain rfl:=H.jC 8 rfl
 have p4:=p1.small
 refine zcr (sp (Bv false) (zjcc (sp (yI i) (oL rfl (H.cell 0 rfl rfl) (oN rfl (sq 1 (zjn (cE rfl (fun h1=>?_) (fun h1=>?_)))))))))
 ·refine zcr (oL rfl (H.cell 1 rfl rfl) (sq 1 (sw (zQ #[Sv bj ai.length bk,pp bq 0] rfl rfl call215 (en func215 ntmps215 ?_)))))
  refine zcr (sp (Bv false) (zjc (sq 1 (oL rfl (H.cell 2 rfl rfl) (sw (oq (isFull_ok _ ai ae (H.get 0 rfl).1 (H.get 1 rfl).1 qg) H fun w3 H=>sq 1 (zjr (ret1 (Bv (dec (FullOk ae ai))) rfl rfl ⟨_,rfl,(sp (Bv (!(dec (FullOk ae ai)))) (sp (Bv (!(dec (FullOk ae ai)))) ?_))⟩))))))))
  cases h5:(!(dec (FullOk ae ai)))
  ·replace h5:=xn h5
   replace h5:=yG h5
   refine qJ 19 rfl rfl (oL rfl (H.cell 3 rfl rfl) (qJ 19 rfl rfl (oL rfl (H.cell 5 rfl rfl) (qJ 19 rfl rfl (sw (zQ #[pp bl 0,Sv nt cs.length lK] rfl rfl call225 (en func225 ntmps225 ?_)))))))
   refine zcr (sp (Bv false) (zjcc (sq 2 (oF rfl (oL rfl (H.cell 4 rfl rfl) (oN rfl (sp (Bv (decide ((out.length:Int) > 2000))) (zjn (cD rfl (fun h6=>?_) (fun h6=>?_))))))))))
   ·refine zcr (sp (Bv false) (zjr (t_r (ret1 (Bv false) rfl rfl ⟨_,rfl,(sp (Bv false) (sp (Bv false) (zjr (t_r (ret1 (Bv false) rfl rfl ⟨_,rfl,?_⟩)))))⟩))))
    exfalso;omega
   refine qV (t_n (xQ (VP (fun ρ uE=>∃ (xE:Env) (a7:yOA) (c8:Nat) (a9:yOA) (Jc:Nat) (OL:yLN),ρ=upd xE 0 (pp bl 0)/\Fresh W0.heap.size ((aQ++OL)::Ns)/\St W0 uE ((.box bp [Sv zO ae.length zK] 29)::(.box bi [.func (.func 215) #[] #[pp bq 0]] 126)::(.box bq [Sv zO ae.length zK] 29)::(.box bo [pp bl 0] 235)::(.box bl [Sv a7 (out.length+1) c8] 237)::(.box bc [Sv nt cs.length lK] 24)::(.box bf [.func (.func 224) #[] #[pp bp 0,pp bi 0,pp bo 0,pp bc 0,pp bf 0]] 238)::(rr a7 (out.length+1) c8 24 1 (cF++[Sv a9 cs.length Jc]))::(rr nt cs.length lK 2 1 (cs.map (Value.int .i64)))::ps) ((xy true (aQ++OL) (cF++[Sv a9 cs.length Jc]) (out++[cs]))::(sF true OL a9 Jc cs)::(sF false cY bj bk ai)::(sF false ax zO zK ae)::Γ)) ?_ ?_)))
   ·refine QT rfl H [0,1,2,3,5,6,8] [0,1,2] fun H=>?_
    have S:=H.jm [0,1,2,3,5,6,8] [0,1,2]
    refine rtl 0 S ?_
    refine rtl 1 S ?_
    refine rtl 2 S ?_
    refine tF 3 rfl rfl S ?_
    refine rtl 5 S ?_
    refine vK [4,6] qh qm (jb rfl ?_ (jb rfl ?_ vM))
    ·refine x9 (Sv cz out.length cG) isAgg29 rfl (H.cell 4 rfl rfl) (⟨H.pick [0,1,2,3,5,6,8] [0,1,2],(ro 6 rfl ?_)⟩)
     obtain ⟨G14,Ww,GX⟩:=H.yH 8 rfl
     refine oc (cloneI_ok _ cs GX qg) ?_
     rintro v22 rO Rp x21
     replace H:=H.zH x21 Rp
     obtain ⟨a23,c24,rfl,au1,axP⟩:=H.jL 0 rfl
     refine ⟨H.pick [1,2,3,4,6,7,9] [0,1,2],(ro 7 rfl (zf H underlying29 ti24 [Sv a23 cs.length c24] fun b27 FG H=>⟨H.pick [2,3,4,5,7,8,10] [0,1,2],(ro 8 rfl ?_)⟩))⟩
     obtain ⟨G32,N,axa,H⟩:=H.zN 1 rfl N (fun F hF b hb=>(List.mem_append.1 (show F∈[aQ]++Ns from hF)).elim (fun h=>(H.jA (L:=[aQ]) [2]) F h b hb) fun h=>H.QG (K0.behind 3 rfl) F h b hb)
     dsimp only [List.set] at H
     refine zo H 9 rfl 0 rfl underlying29 ti24 rfl qj rfl rfl rfl qw qp qf fun P8 Q6 Mi H=>?_
     dsimp only [List.set] at H
     replace H:=H.yx 3 rfl 0 rfl
     replace N:Fresh W0.heap.size ((aQ++G32)::Ns):=(N.zU 2 [1,0] qo).join
     refine ⟨H.pick [2,3,4,5,7,8,10] [2,3,4],?_⟩
     have S:=H.jm [2,3,4,5,7,8,10] [2,3,4]
     refine rtl 9 S ?_
     refine tF 10 rfl rfl S ?_
     refine ro 11 rfl (xH H 6 [Sv P8 (out.length+1) Q6] sizeOf29 fun Dg H=>?_)
     dsimp only [List.set] at H
     refine ⟨H.pick [2,3,4,5,7,8,10] [2,3,4],(xw qh ((meet ⟨_,P8,Q6,a23,c24,G32,uE1,N,H.zU 11 5 (zR 2 9) (zR 0 4) qo qo⟩)))⟩
    obtain ⟨G35,awS,uF⟩:=H.yH 8 rfl
    refine oc (cloneI_ok _ cs uF qg) ?_
    rintro v43 Mx r43 x42
    replace H:=H.zH x42 r43
    obtain ⟨a44,c45,rfl,aye,atG⟩:=H.jL 0 rfl
    refine ⟨H.pick [1,2,3,4,6,7,9] [0,1,2],(vK [4,7] qh qm (jb rfl ?_ (jb rfl ?_ vM)))⟩
    ·refine x9 (Sv cz out.length cG) isAgg29 rfl (H.cell 5 rfl rfl) (⟨H.pick [1,2,3,4,6,7,9] [0,1,2],(ro 7 rfl (zf H underlying29 ti24 [Sv a44 cs.length c45] fun b48 Pz H=>⟨H.pick [2,3,4,5,7,8,10] [0,1,2],(ro 8 rfl ?_)⟩))⟩)
     obtain ⟨G53,N,azx,H⟩:=H.zN 1 rfl N (fun F hF b hb=>(List.mem_append.1 (show F∈[aQ]++Ns from hF)).elim (fun h=>(H.jA (L:=[aQ]) [2]) F h b hb) fun h=>H.QG (K0.behind 3 rfl) F h b hb)
     dsimp only [List.set] at H
     refine zo H 9 rfl 0 rfl underlying29 ti24 rfl qj rfl rfl rfl qw qp qf fun a50 c51 P5 H=>?_
     dsimp only [List.set] at H
     replace H:=H.yx 3 rfl 0 rfl
     replace N:Fresh W0.heap.size ((aQ++G53)::Ns):=(N.zU 2 [1,0] qo).join
     refine ⟨H.pick [2,3,4,5,7,8,10] [2,3,4],?_⟩
     have S:=H.jm [2,3,4,5,7,8,10] [2,3,4]
     refine rtl 9 S ?_
     refine tF 10 rfl rfl S ?_
     refine ro 11 rfl (xH H 6 [Sv a50 (out.length+1) c51] sizeOf29 fun Hz H=>?_)
     dsimp only [List.set] at H
     refine ⟨H.pick [2,3,4,5,7,8,10] [2,3,4],(xw qh ((meet ⟨_,a50,c51,a44,c45,G53,uE1,N,H.zU 11 5 (zR 2 9) (zR 0 4) qo qo⟩)))⟩
    refine zf H underlying29 ti24 [Sv a44 cs.length c45] fun R2 PZ H=>⟨H.pick [2,3,4,5,7,8,10] [0,1,2],(ro 4 rfl (x9 (Sv cz out.length cG) isAgg29 rfl (H.cell 6 rfl rfl) (⟨H.pick [2,3,4,5,7,8,10] [0,1,2],(ro 8 rfl ?_)⟩)))⟩
    obtain ⟨G61,N,azu,H⟩:=H.zN 1 rfl N (fun F hF b hb=>(List.mem_append.1 (show F∈[aQ]++Ns from hF)).elim (fun h=>(H.jA (L:=[aQ]) [2]) F h b hb) fun h=>H.QG (K0.behind 3 rfl) F h b hb)
    dsimp only [List.set] at H
    refine zo H 9 rfl 0 rfl underlying29 ti24 rfl qj rfl rfl rfl qw qp qf fun a58 c59 w60 H=>?_
    dsimp only [List.set] at H
    replace H:=H.yx 3 rfl 0 rfl
    replace N:Fresh W0.heap.size ((aQ++G61)::Ns):=(N.zU 2 [1,0] qo).join
    refine ⟨H.pick [2,3,4,5,7,8,10] [2,3,4],?_⟩
    have S:=H.jm [2,3,4,5,7,8,10] [2,3,4]
    refine rtl 9 S ?_
    refine tF 10 rfl rfl S ?_
    refine ro 11 rfl (xH H 6 [Sv a58 (out.length+1) c59] sizeOf29 fun w63 H=>?_)
    dsimp only [List.set] at H
    refine ⟨H.pick [2,3,4,5,7,8,10] [2,3,4],(xw qh ((meet ⟨_,a58,c59,a44,c45,G61,uE1,N,H.zU 11 5 (zR 2 9) (zR 0 4) qo qo⟩)))⟩
   clear H N
   rintro ρ RU ⟨xE,a7,c8,a9,Jc,OL,rfl,N,H⟩
   refine t_n (zcr (sq 2 (oF rfl (oL rfl (H.cell 4 rfl rfl) (oN rfl (sp (Bv (decide ((out.length+1:Int)<=2000))) (sp (Bv (decide ((out.length+1:Int)<=2000))) (zjr (ret1 (Bv (decide ((out.length+1:Int)<=2000))) rfl rfl ⟨_,rfl,(sp (Bv (decide ((out.length+1:Int)<=2000))) (sp (Bv (decide ((out.length+1:Int)<=2000))) (zjr (t_r (ret1 (Bv (decide ((out.length+1:Int)<=2000))) rfl rfl ⟨_,rfl,?_⟩)))))⟩)))))))))
   rw [pack_fullI qf p3 ‹FullOk _ _› p2,show decide ((out.length+1:Int)<=2000)=dec ((out++[cs]).length<=2000) from dec_eq qy]
   exact ⟨cs,a7,out.length+1,c8,cF++[Value.slice a9 cs.length Jc],(aQ++OL),(by rfl),(by rfl),rfl,N,H.zU 9 4 (zR 0 9) [2,3,0] qo qo⟩
  replace h5:=xB h5
  replace h5:=zM h5
  refine xR [20,21,22] (sp (Bv true) (sp (Bv true) (zjr (t_r (ret1 (Bv true) rfl rfl ⟨_,rfl,?_⟩)))))
  rw [pack_noneI qf ‹_› p2,jH p2]
  exact ⟨cs,cz,out.length,cG,cF,aQ,(by rfl),(by rfl),rfl,N,H.zU 9 3 (zR 0 9) [0,1,2] qo qo⟩
 refine qV (t_n (zcc (sp (yI 0) (zjn (qR ?_)))))
 obtain ⟨t1,t2,t3,t4,t5,t6⟩:=p1.times (k:=i) qf
 refine zl ((fun Z0 Z1 Z2 Z3 Z4 Z5 Z6 Z7=>fun m' ρ Pm=>∃ (xE:Env) (n:Nat) (dR:yOA) (dQ:Nat) (dM:Nat) (nP:yLL) (dL:List Value) (Xx:yLN) (uW:yLI),ρ=upd (upd (upd (upd (upd (upd xE 0 (yI i)) 1 (Sv bj ai.length bk)) 2 (pp bp 0)) 5 (pp bc 0)) 6 (pp bf 0)) 10 (yI n)/\nP=(gath out (begins (cs.take i) (yA ae (f - 1) i ai n)))/\((n:Int)<=jR (ae[i]!) ai+1)/\(uW.length=ae.length)/\(uW.take i=cs.take i)/\((gath out (begins (cs.take i) (yA ae (f - 1) i ai n))).length<=2000)/\m' =(jR (ae[i]!) ai+1 - (n:Int)).toNat/\Fresh W0.heap.size (Xx::Ns)/\St W0 Pm (Z0::Z1::Z2::Z3::(.box bl [Sv dR dQ dM] 237)::Z4::Z5::(rr dR dQ dM 24 1 dL)::(rr nt cs.length lK 2 1 (uW.map (Value.int .i64)))::ps) (Z6::Z7::(xy true Xx dL nP)::Γ)) _ _ _ _ _ _ _ _) ((jR (ae[i]!) ai+1 - (0:Int)).toNat) ⟨_,0,cz,out.length,cG,out,cF,aQ,cs,uE6,(by exact pack_startI p2),qf,ql,(by rfl),(by rw [← pack_startI p2];exact p2),rfl,N,H⟩ ?_
 clear H N
 rintro m' ρ E1 ⟨xE,n,dR,dQ,dM,nP,dL,Xx,uW,rfl,rfl,i0,j1,j2,j3,rfl,N,H⟩
 refine zcc (sp (yI n) (oL rfl (H.cell 0 rfl rfl) (sp (yI i) ?_)))
 obtain ⟨b67,o68,rfl⟩:=H.addr 1 rfl qf
 obtain ⟨ZR,YP,agZ,H⟩:=H.zW 1 rfl i i qf qf qf
 refine oI rfl rfl (oL rfl (H.xP 1 rfl 0 rfl) (sq 1 ?_))
 obtain ⟨t1,t2,t3,t4,t5,t6⟩:=p1.times (k:=i) qf
 refine sw (oq (timesIn_ok _ (ae[i]!) ai (H.get 0 rfl).1 (H.get 2 rfl).1 qg qg) H fun HE H=>sq 1 (zjn (cD rfl (fun VQ=>?_) (fun VQ=>?_))))
 ·refine qV (t_n (xQ (qR (zcr (oL rfl (H.cell 5 rfl rfl) (sp (yI i) (sp (yI n) ?_)))))))
  obtain ⟨b75,rfl⟩:=H.jK 8 rfl qf
  refine oI rfl rfl (sw (y5 H 8 rfl n sizeOf2 rfl rfl (i:=i) qf qf fun WR H=>?_))
  dsimp only [List.set] at H
  refine zjn (xQ (QT rfl H [0,1,2,3,5,6] [0,1,2,3] fun H=>?_))
  have S:=H.jm [0,1,2,3,5,6] (zR 0 4)
  refine tL 0 rfl rfl (fun _ h=>h.cell 5 rfl rfl) S ?_
  refine rtp 1 (yI i) S ?_
  refine rt 2 _ (y_add i 1 rfl rfl qf) S ?_
  refine rtl 3 S ?_
  refine tL 4 rfl rfl (fun _ h=>h.cell 0 rfl rfl) S ?_
  refine rtp 5 (yI i) S ?_
  refine tI 6 rfl rfl rfl S ?_
  refine tL 7 rfl rfl (fun _ h=>h.xP 1 rfl 0 rfl) S ?_
  refine rtp 8 (yI n) S ?_
  refine rt 9 _ (y_neg n rfl qf) S ?_
  refine ro 10 rfl ?_
  obtain ⟨u1,u2,u3,u4⟩:=p1.plus (k:=i) qf (n:=(n:Int)) qf qf
  refine oc (plus_ok _ ai (ae[i]!) (-n) (H.get 2 rfl).1 (H.get 0 rfl).1 qg qg qg) ?_
  rintro v83 SR r83 x82
  replace H:=H.zH x82 r83
  obtain ⟨a84,c85,rfl,av8,au5⟩:=H.jL 0 rfl
  refine ⟨H.pick [1,2,3,4,6,7] (zR 0 4),(ro 11 rfl ?_)⟩
  obtain ⟨PQ,N,aw1,H⟩:=H.zN 0 rfl N (fun F hF b hb=>(List.mem_append.1 (show F∈[Xx]++Ns from hF)).elim (fun h=>(H.jA (L:=[Xx]) [4]) F h b hb) fun h=>H.QG (K0.behind 5 rfl) F h b hb)
  dsimp only [List.set] at H
  replace H:=H.unfreeI 0 rfl
  have H1:=H.yl 10 7 [1,2,3,4,5,6,7,8,9,0] [0,5,6,0,1,2,3,4] qo qo
  have N1:Fresh _ (Xx::PQ::Ns):=(N.zU 2 [1,0] qo)
  have K1:Kept (Ns) ((sF false PQ a84 c85 (jT ai (ae[i]!) (-n)))::(sF true PQ a84 c85 (jT ai (ae[i]!) (-n)))::(sF false agZ ZR YP (ae[i]!))::(atF b67 (o68+(i:Int).toNat * 1) [Sv ZR ((ae[i]!).length) YP])::(sF false cY bj bk ai)::Γ):=K0.behind 5 rfl
  replace K1:=K1.cons (F:=PQ) 0 rfl rfl
  refine zL #[yI (i+1),Sv a84 ((jT ai (ae[i]!) (-n)).length) c85,pp bp 0,pp bi 0,pp bo 0,pp bc 0,pp bf 0] rfl rfl call224 (IH (f - 1) qf (i+1) (jT ai (ae[i]!) (-n)) ae (gath out (begins (cs.take i) (yA ae (f - 1) i ai n))) (uW.set i n) a84 c85 PQ (aa b67 o68) zK ax bp bi bq bo bl bc bf dR dQ dM dL Xx (aa b75 0) cs.length lK H1 N1 K1 qf (by assumption) (by assumption) (by (rw [List.length_set];exact j1))) ?_
  clear H H1 N1 K1
  rintro _ I4 ⟨uU,ah1,asb,alR,aj1,akT,Jz,vd,rfl,N,H⟩
  obtain rfl:=H.zg (α:=yLI) 7 rfl 2 rfl qj
  refine ⟨H.pick [0,1,2,3,5,6] [5,6,7,1],(rtp 12 (Bv (!(dec ((gath (gath out (begins (cs.take i) (yA ae (f - 1) i ai n))) (begins ((uW.set i n).take (i+1)) (packs ae (ae.length - (i+1)) (i+1) (jT ai (ae[i]!) (-n))))).length<=2000)))) (H.pick [0,1,2,3,5,6] [5,6,7,1]) ?_)⟩
  refine xw qh (t_n (cQ rfl (fun MZ=>?_) (fun MZ=>?_)))
  ·refine zcr (sp (Bv false) (zjr (zr5 (ret1 (Bv false) rfl rfl ⟨_,rfl,?_⟩))))
   have e1:=pack_stepI (out:=out) p0 qf j1 j2 j3
   have e2:=‹¬ (gath (gath _ _) _).length<=2000›
   rw [e1] at e2
   rw [pack_endI (n:=n+1) p0 qf qf qf (.inr e2),← e1,xh (by rw [e1];exact e2)]
   exact ⟨uU,ah1,(gath (gath out (begins (cs.take i) (yA ae (f - 1) i ai n))) (begins ((uW.set i n).take (i+1)) (packs ae (ae.length - (i+1)) (i+1) (jT ai (ae[i]!) (-n))))).length,alR,aj1,akT,(by (have:=‹_=(List.set _ _ _).length›;rw [List.length_set] at this;omega)),(by exact pack_keep ‹_› j2),rfl,(N.zU 2 [0] qo),H.zU 10 8 (zR 0 9) [7,1,2] qo qo⟩
  refine qV (b_n (t_n (xJ (sp (yI n) (sw (zn n 1 rfl rfl qf (sq 1 (xO (qX (m' :=(jR (ae[i]!) ai+1 - ((n+1):Int)).toNat) qf ⟨_,n+1,_,_,_,_,_,_,_,uE6,?_,?_,?_,?_,?_,rfl,(N.zU 2 [0] qo),H.zU 10 8 (zR 0 9) [7,1,2] qo qo⟩)))))))))
  ·exact pack_stepI p0 qf j1 j2 j3
  ·omega
  ·have:=‹_=(List.set _ _ _).length›;rw [List.length_set] at this;omega
  ·exact pack_keep ‹_› j2
  ·rw [← pack_stepI p0 qf j1 j2 j3];assumption
 refine zx4 (zcr (sp (Bv true) (zjr (ret1 (Bv true) rfl rfl ⟨_,rfl,?_⟩))))
 rw [pack_endI (f:=f) (n:=n) p0 qf i0 qf (.inl qf),jH j3]
 exact ⟨uW,dR,dQ,dM,dL,Xx,(by omega),(by assumption),rfl,N,H.zU 9 5 (zR 0 9) [2,3,4] qo qo⟩
theorem packFrom_ok (f:Nat):packFrom_ok_S f:=Nat.strongRecOn (motive:=packFrom_ok_S) f fun f IH=>by unfold packFrom_ok_S;intros;apply packFrom_ok_step f IH <;> assumption
theorem maxPack_ok (w:World) (b:yLI) (ae:yLL) (hb:zP w Fb ab cb b) (bK:zP w ax zO zK ae) (p0:Vs ae b) (p1:1<=ae.length):Calls Tryz.prog 196 #[Sv ab b.length cb,Sv zO ae.length zK] w (Ret (fun v w' =>∃ (kN:yOA) (kY:Nat) (kQ:Nat) (kZ:List Value) (kR:yLN),v=.tuple #[Sv kN kY kQ,yI ((yD b ae).2)]/\Fresh w.heap.size [kR]/\St w w' [rr kN kY kQ 24 1 kZ] [xy true kR kZ ((yD b ae).1)]) w):=by
 refine en func196 ntmps196 ?_
 have H:=((St.start w).arg bK).arg hb
 have mj:=qM bK
 clear hb bK
 have N:=Fresh.nil w.heap.size
 have p3:=p0.small
 have p4:=p0.smallB
 refine zcr (sw (zZ H [Sv zO ae.length zK] fun b1 w2 H=>sq 1 (sp (yI 0) (zjc (sq 1 (oL rfl (H.cell 0 rfl rfl) (sp (.func (.func 215) #[] #[pp b1 0]) (sw (zQ #[Sv ab b.length cb,Sv zO ae.length zK,.func (.func 215) #[] #[pp b1 0]] rfl rfl call214 (en func214 ntmps214 ?_))))))))))
 refine zcr (sw (zZ H [Sv zO ae.length zK] fun b3 w4 H=>sw (zZ H [.func (.func 215) #[] #[pp b1 0]] fun b5 w6 H=>sq 1 (sp (yI 0) (zjcc (sq 1 (oL rfl (H.cell 1 rfl rfl) (sw (oq (bagAndParts_ok _ b ae (H.get 0 rfl).1 (H.get 1 rfl).1 qg qg) H fun w8 H=>sp (yI 0) (zjc (sp (yI 0) (sp (Bv false) (zjn (cFr rfl (qV (t_n (zcc (sq 1 (sw (oq (XC _ b (H.get 0 rfl).1 (by assumption)) H fun nq H=>sp (Bv (decide ((QS b:Int) > 16))) (zjn (cD rfl (fun db=>?_) (fun db=>?_)))))))))))))))))))))))
 ·refine zcr (sq 1 (sp (yI 3) (zjr (t_r (ret2 yN (yI 3) rfl rfl rfl ⟨_,rfl,?_⟩)))))
  replace H:=H.erases [1,0]
  dsimp only [vz,List.eraseIdx] at H
  refine sq 1 (sp (yI 3) (sq 1 (sp (yI 3) (zjr ?_))))
  replace H:=H.nilRow 24 1
  replace H:=H.jo (α:=yLI)
  refine ret2 yN (yI 3) rfl rfl rfl ⟨_,rfl,?_,H.base⟩
  rw [all_a ql]
  exact ⟨none,0,0,[],[],rfl,N.emp,H.pick [0] [0]⟩
 refine qV (t_n (xQ (VP (fun ρ HF=>∃ (xE:Env) (Dt:Nat) (sO:Nat) (wm:Nat) (Dh:Nat),ρ=upd (upd (upd (upd (upd xE 0 (Sv ab b.length cb)) 4 (pp b3 0)) 5 (pp b5 0)) 9 (pp Dt 0)) 10 (pp sO 0)/\Fresh w.heap.size []/\St w HF [.box sO [Sv (aa wm 0) ae.length ae.length] 24,.box Dt [pp Dh 0] 235,rr (aa wm 0) ae.length ae.length 2 1 ((List.replicate ae.length (0:Int)).map (Value.int .i64)),.box Dh [yN] 237,.box b5 [.func (.func 215) #[] #[pp b1 0]] 126,.box b3 [Sv zO ae.length zK] 29,.box b1 [Sv zO ae.length zK] 29] [sF false Fb ab cb b,sF false ax zO zK ae]) ?_ ?_)))
 ·refine jE rfl H fun H=>?_
  refine Qc (fun ρ wT=>∃ (xE:Env) (kJ:Nat) (Rj:Nat) (sg:Nat),ρ=upd (upd (upd (upd (upd (upd (upd xE 0 (Sv ab b.length cb)) 4 (pp b3 0)) 5 (pp b5 0)) 9 (pp Rj 0)) 10 (pp sg 0)) 22 (pp kJ 0)) 24 (yI ae.length)/\Fresh w.heap.size []/\St w wT [.box sg [yN] 24,.box Rj [.pointer none] 235,.box kJ [yN] 237,.box b5 [.func (.func 215) #[] #[pp b1 0]] 126,.box b3 [Sv zO ae.length zK] 29,.box b1 [Sv zO ae.length zK] 29] [sF false Fb ab cb b,sF false ax zO zK ae]) 3 #[true,true,true,true,false,true,true,false,false] ?_ fun L22=>?_
  ·rintro ρ Bo ⟨xE,kJ,Rj,sg,rfl,N,H⟩
   refine vK [4,7] qh qm (jb rfl ?_ (jb rfl ?_ vM))
   ·refine zV H underlying24 ti2 ae.length rfl rfl qf qf qf fun LI HK H=>⟨H.pick [4,5,6] [0,1],(ro 7 rfl (xH H 2 [pp kJ 0] sizeOf235 fun Ge H=>⟨H.pick [4,5,6] [0,1],(ro 8 rfl (xH H 1 [Sv (aa LI 0) ae.length ae.length] sizeOf24 fun FG H=>⟨H.pick [4,5,6] [0,1],(xw qh ((meet ⟨_,Rj,sg,LI,kJ,uE5,N,H.pick [1,2,0,3,4,5,6] [0,1]⟩)))⟩))⟩))⟩
   refine xH H 1 [pp kJ 0] sizeOf235 fun Dk H=>⟨H.pick [3,4,5] [0,1],(ro 4 rfl (zV H underlying24 ti2 ae.length rfl rfl qf qf qf fun Lh Mi H=>⟨H.pick [4,5,6] [0,1],(ro 8 rfl (xH H 1 [Sv (aa Lh 0) ae.length ae.length] sizeOf24 fun Dc H=>⟨H.pick [4,5,6] [0,1],(xw qh ((meet ⟨_,Rj,sg,Lh,kJ,uE5,N,H.pick [1,2,0,3,4,5,6] [0,1]⟩)))⟩))⟩))⟩
  refine Qc (fun ρ Ks=>∃ (xE:Env) (uI:Nat) (vr:Nat),ρ=upd (upd (upd (upd (upd xE 0 (Sv ab b.length cb)) 4 (pp b3 0)) 5 (pp b5 0)) 22 (pp uI 0)) 25 (Sv (aa vr 0) ae.length ae.length)/\Fresh w.heap.size []/\St w Ks [rr (aa vr 0) ae.length ae.length 2 1 ((List.replicate ae.length (0:Int)).map (Value.int .i64)),.box uI [yN] 237,.box b5 [.func (.func 215) #[] #[pp b1 0]] 126,.box b3 [Sv zO ae.length zK] 29,.box b1 [Sv zO ae.length zK] 29] [sF false Fb ab cb b,sF false ax zO zK ae]) 4 #[true,true,true,true,true,false,false,false,false] ?_ fun L35=>?_
  ·rintro ρ N6 ⟨xE,uI,vr,rfl,N,H⟩
   refine vK [5,6] qh qm (jb rfl ?_ (jb rfl ?_ vM))
   ·refine xq H ti235 [.pointer none] fun nm E4 H=>⟨H.pick [3,4,5] [0,1],(ro 6 rfl (xq H ti24 [yN] fun Kc Mx H=>⟨H.pick [4,5,6] [0,1],(ro 7 rfl (xH H 1 [pp uI 0] sizeOf235 fun wR H=>⟨H.pick [4,5,6] [0,1],(ro 8 rfl (xH H 0 [Sv (aa vr 0) ae.length ae.length] sizeOf24 fun Df H=>⟨H.pick [4,5,6] [0,1],(xw qh ((meet ⟨_,nm,Kc,vr,uI,uE5,N,H⟩)))⟩))⟩))⟩))⟩
   refine xq H ti24 [yN] fun Hq Ou H=>⟨H.pick [3,4,5] [0,1],(ro 5 rfl (xq H ti235 [.pointer none] fun OU Ng H=>⟨H.pick [4,5,6] [0,1],(ro 7 rfl (xH H 0 [pp uI 0] sizeOf235 fun Pc H=>⟨H.pick [4,5,6] [0,1],(ro 8 rfl (xH H 1 [Sv (aa vr 0) ae.length ae.length] sizeOf24 fun Pz H=>⟨H.pick [4,5,6] [0,1],(xw qh ((meet ⟨_,OU,Hq,vr,uI,uE5,N,H.pick (1::0::zR 2 5) [0,1]⟩)))⟩))⟩))⟩))⟩
  refine Qc (fun ρ Hi=>∃ (xE:Env) (Cy:Nat) (LB:Nat),ρ=upd (upd (upd (upd (upd (upd xE 0 (Sv ab b.length cb)) 4 (pp b3 0)) 5 (pp b5 0)) 9 (pp LB 0)) 22 (pp Cy 0)) 24 (yI ae.length)/\Fresh w.heap.size []/\St w Hi [.box LB [.pointer none] 235,.box Cy [yN] 237,.box b5 [.func (.func 215) #[] #[pp b1 0]] 126,.box b3 [Sv zO ae.length zK] 29,.box b1 [Sv zO ae.length zK] 29] [sF false Fb ab cb b,sF false ax zO zK ae]) 4 #[true,true,true,true,false,true,false,false,false] ?_ fun L52=>?_
  ·rintro ρ w54 ⟨xE,Cy,LB,rfl,N,H⟩
   refine vK [4,6] qh qm (jb rfl ?_ (jb rfl ?_ vM))
   ·refine zV H underlying24 ti2 ae.length rfl rfl qf qf qf fun RK L8 H=>⟨H.pick [3,4,5] [0,1],(ro 6 rfl (xq H ti24 [yN] fun b57 Jp H=>⟨H.pick [4,5,6] [0,1],(ro 7 rfl (xH H 2 [pp Cy 0] sizeOf235 fun Hj H=>⟨H.pick [4,5,6] [0,1],(ro 8 rfl (xH H 0 [Sv (aa RK 0) ae.length ae.length] sizeOf24 fun w60 H=>⟨H.pick [4,5,6] [0,1],(xw qh ((meet ⟨_,LB,b57,RK,Cy,uE5,N,H.pick [0,2,1,3,4,5,6] [0,1]⟩)))⟩))⟩))⟩))⟩
   refine xq H ti24 [yN] fun b61 w62 H=>⟨H.pick [3,4,5] [0,1],(jS L22 ⟨_,Cy,LB,b61,uE7,N,H⟩)⟩
  refine Qc (fun ρ E1=>∃ (xE:Env) (JO:Nat) (RJ:Nat),ρ=upd (upd (upd (upd (upd (upd xE 0 (Sv ab b.length cb)) 4 (pp b3 0)) 5 (pp b5 0)) 10 (pp RJ 0)) 22 (pp JO 0)) 24 (yI ae.length)/\Fresh w.heap.size []/\St w E1 [.box RJ [yN] 24,.box JO [yN] 237,.box b5 [.func (.func 215) #[] #[pp b1 0]] 126,.box b3 [Sv zO ae.length zK] 29,.box b1 [Sv zO ae.length zK] 29] [sF false Fb ab cb b,sF false ax zO zK ae]) 4 #[true,true,true,true,false,false,true,false,false] ?_ fun L65=>?_
  ·rintro ρ P0 ⟨xE,JO,RJ,rfl,N,H⟩
   refine vK [4,5] qh qm (jb rfl ?_ (jb rfl ?_ vM))
   ·refine zV H underlying24 ti2 ae.length rfl rfl qf qf qf fun b68 HD H=>⟨H.pick [3,4,5] [0,1],(ro 5 rfl (xq H ti235 [.pointer none] fun Mg w71 H=>⟨H.pick [4,5,6] [0,1],(ro 7 rfl (xH H 0 [pp JO 0] sizeOf235 fun HE H=>⟨H.pick [4,5,6] [0,1],(ro 8 rfl (xH H 2 [Sv (aa b68 0) ae.length ae.length] sizeOf24 fun w73 H=>⟨H.pick [4,5,6] [0,1],(xw qh ((meet ⟨_,Mg,RJ,b68,JO,uE5,N,H.pick [2,0,1,3,4,5,6] [0,1]⟩)))⟩))⟩))⟩))⟩
   refine xq H ti235 [.pointer none] fun b74 V5 H=>⟨H.pick [3,4,5] [0,1],(jS L22 ⟨_,JO,b74,RJ,uE7,N,H.pick [1,0,2,3,4,5] [0,1]⟩)⟩
  refine Qc (fun ρ LL=>∃ (xE:Env) (Ho:Nat) (ws:Nat),ρ=upd (upd (upd (upd (upd (upd xE 0 (Sv ab b.length cb)) 4 (pp b3 0)) 5 (pp b5 0)) 9 (pp ws 0)) 21 (.agg #[yN])) 25 (Sv (aa Ho 0) ae.length ae.length)/\Fresh w.heap.size []/\St w LL [.box ws [.pointer none] 235,rr (aa Ho 0) ae.length ae.length 2 1 ((List.replicate ae.length (0:Int)).map (Value.int .i64)),.box b5 [.func (.func 215) #[] #[pp b1 0]] 126,.box b3 [Sv zO ae.length zK] 29,.box b1 [Sv zO ae.length zK] 29] [sF false Fb ab cb b,sF false ax zO zK ae]) 4 #[true,false,true,true,true,true,false,false,false] ?_ fun L78=>?_
  ·rintro ρ MS ⟨xE,Ho,ws,rfl,N,H⟩
   refine vK [1,6] qh qm (jb rfl ?_ (jb rfl ?_ vM))
   ·refine zZ H [yN] fun b81 w82 H=>⟨H.pick [3,4,5] [0,1],(ro 6 rfl (xq H ti24 [yN] fun ns HG H=>⟨H.pick [4,5,6] [0,1],(ro 7 rfl (xH H 2 [pp b81 0] sizeOf235 fun w85 H=>⟨H.pick [4,5,6] [0,1],(ro 8 rfl (xH H 0 [Sv (aa Ho 0) ae.length ae.length] sizeOf24 fun w86 H=>⟨H.pick [4,5,6] [0,1],(xw qh ((meet ⟨_,ws,ns,Ho,b81,uE5,N,H.pick [0,2,3,1,4,5,6] [0,1]⟩)))⟩))⟩))⟩))⟩
   refine xq H ti24 [yN] fun tM Mn H=>⟨H.pick [3,4,5] [0,1],(ro 1 rfl (zZ H [yN] fun b89 I4 H=>⟨H.pick [4,5,6] [0,1],(ro 7 rfl (xH H 2 [pp b89 0] sizeOf235 fun TN H=>⟨H.pick [4,5,6] [0,1],(ro 8 rfl (xH H 1 [Sv (aa Ho 0) ae.length ae.length] sizeOf24 fun Yj H=>⟨H.pick [4,5,6] [0,1],(xw qh ((meet ⟨_,ws,tM,Ho,b89,uE5,N,H.pick [1,2,3,0,4,5,6] [0,1]⟩)))⟩))⟩))⟩))⟩
  refine Qc (fun ρ YS=>∃ (xE:Env) (Hs:Nat) (YB:Nat),ρ=upd (upd (upd (upd (upd (upd xE 0 (Sv ab b.length cb)) 4 (pp b3 0)) 5 (pp b5 0)) 10 (pp YB 0)) 21 (.agg #[yN])) 25 (Sv (aa Hs 0) ae.length ae.length)/\Fresh w.heap.size []/\St w YS [.box YB [yN] 24,rr (aa Hs 0) ae.length ae.length 2 1 ((List.replicate ae.length (0:Int)).map (Value.int .i64)),.box b5 [.func (.func 215) #[] #[pp b1 0]] 126,.box b3 [Sv zO ae.length zK] 29,.box b1 [Sv zO ae.length zK] 29] [sF false Fb ab cb b,sF false ax zO zK ae]) 4 #[true,false,true,true,true,false,true,false,false] ?_ fun L95=>?_
  ·rintro ρ N9 ⟨xE,Hs,YB,rfl,N,H⟩
   refine vK [1,5] qh qm (jb rfl ?_ (jb rfl ?_ vM))
   ·refine zZ H [yN] fun Li Zz H=>⟨H.pick [3,4,5] [0,1],(ro 5 rfl (xq H ti235 [.pointer none] fun ac3 abj H=>⟨H.pick [4,5,6] [0,1],(ro 7 rfl (xH H 0 [pp Li 0] sizeOf235 fun wV H=>⟨H.pick [4,5,6] [0,1],(ro 8 rfl (xH H 2 [Sv (aa Hs 0) ae.length ae.length] sizeOf24 fun OV H=>⟨H.pick [4,5,6] [0,1],(xw qh ((meet ⟨_,ac3,YB,Hs,Li,uE5,N,H.pick [2,0,3,1,4,5,6] [0,1]⟩)))⟩))⟩))⟩))⟩
   refine xq H ti235 [.pointer none] fun abE I6 H=>⟨H.pick [3,4,5] [0,1],(ro 1 rfl (zZ H [yN] fun V2 azK H=>⟨H.pick [4,5,6] [0,1],(ro 7 rfl (xH H 1 [pp V2 0] sizeOf235 fun abF H=>⟨H.pick [4,5,6] [0,1],(ro 8 rfl (xH H 2 [Sv (aa Hs 0) ae.length ae.length] sizeOf24 fun N8 H=>⟨H.pick [4,5,6] [0,1],(xw qh ((meet ⟨_,abE,YB,Hs,V2,uE5,N,H.pick [2,1,3,0,4,5,6] [0,1]⟩)))⟩))⟩))⟩))⟩
  refine Qc (fun ρ Ga=>∃ (xE:Env) (CD:Nat) (tG:Nat),ρ=upd (upd (upd (upd (upd (upd (upd xE 0 (Sv ab b.length cb)) 4 (pp b3 0)) 5 (pp b5 0)) 9 (pp CD 0)) 10 (pp tG 0)) 21 (.agg #[yN])) 24 (yI ae.length)/\Fresh w.heap.size []/\St w Ga [.box tG [yN] 24,.box CD [.pointer none] 235,.box b5 [.func (.func 215) #[] #[pp b1 0]] 126,.box b3 [Sv zO ae.length zK] 29,.box b1 [Sv zO ae.length zK] 29] [sF false Fb ab cb b,sF false ax zO zK ae]) 4 #[true,false,true,true,false,true,true,false,false] ?_ fun Nr=>?_
  ·rintro ρ US ⟨xE,CD,tG,rfl,N,H⟩
   refine vK [1,4] qh qm (jb rfl ?_ (jb rfl ?_ vM))
   ·refine zZ H [yN] fun yp tJ H=>⟨H.pick [3,4,5] [0,1],(jS L22 ⟨_,yp,CD,tG,uE7,N,H.pick [1,2,0,3,4,5] [0,1]⟩)⟩
   refine zV H underlying24 ti2 ae.length rfl rfl qf qf qf fun BK acR H=>⟨H.pick [3,4,5] [0,1],(ro 1 rfl (zZ H [yN] fun xr Y7 H=>⟨H.pick [4,5,6] [0,1],(ro 7 rfl (xH H 3 [pp xr 0] sizeOf235 fun Cl H=>⟨H.pick [4,5,6] [0,1],(ro 8 rfl (xH H 2 [Sv (aa BK 0) ae.length ae.length] sizeOf24 fun U4 H=>⟨H.pick [4,5,6] [0,1],(xw qh ((meet ⟨_,CD,tG,BK,xr,uE5,N,H.pick [2,3,1,0,4,5,6] [0,1]⟩)))⟩))⟩))⟩))⟩
  refine Qc (fun ρ IT=>∃ (xE:Env) (Cu:Nat),ρ=upd (upd (upd (upd (upd xE 0 (Sv ab b.length cb)) 4 (pp b3 0)) 5 (pp b5 0)) 21 (.agg #[yN])) 25 (Sv (aa Cu 0) ae.length ae.length)/\Fresh w.heap.size []/\St w IT [rr (aa Cu 0) ae.length ae.length 2 1 ((List.replicate ae.length (0:Int)).map (Value.int .i64)),.box b5 [.func (.func 215) #[] #[pp b1 0]] 126,.box b3 [Sv zO ae.length zK] 29,.box b1 [Sv zO ae.length zK] 29] [sF false Fb ab cb b,sF false ax zO zK ae]) 5 #[true,false,true,true,true,false,false,false,false] ?_ fun Wz=>?_
  ·rintro ρ H7 ⟨xE,Cu,rfl,N,H⟩
   refine vK [1,5,6] qh qm (jb rfl ?_ (jb rfl ?_ (jb rfl ?_ vM)))
   ·refine zZ H [yN] fun aki Zd H=>⟨H.pick [2,3,4] [0,1],(jS L35 ⟨_,aki,Cu,uE5,N,H.pick [1,0,2,3,4] [0,1]⟩)⟩
   ·refine xq H ti235 [.pointer none] fun ajA H8 H=>⟨H.pick [2,3,4] [0,1],(jS L78 ⟨_,Cu,ajA,uE6,N,H⟩)⟩
   refine xq H ti24 [yN] fun rS aeU H=>⟨H.pick [2,3,4] [0,1],(jS L95 ⟨_,Cu,rS,uE6,N,H⟩)⟩
  refine Qc (fun ρ BQ=>∃ (xE:Env) (lq:Nat),ρ=upd (upd (upd (upd (upd (upd xE 0 (Sv ab b.length cb)) 4 (pp b3 0)) 5 (pp b5 0)) 9 (pp lq 0)) 21 (.agg #[yN])) 24 (yI ae.length)/\Fresh w.heap.size []/\St w BQ [.box lq [.pointer none] 235,.box b5 [.func (.func 215) #[] #[pp b1 0]] 126,.box b3 [Sv zO ae.length zK] 29,.box b1 [Sv zO ae.length zK] 29] [sF false Fb ab cb b,sF false ax zO zK ae]) 5 #[true,false,true,true,false,true,false,false,false] ?_ fun Sc=>?_
  ·rintro ρ abf ⟨xE,lq,rfl,N,H⟩
   refine vK [1,4,6] qh qm (jb rfl ?_ (jb rfl ?_ (jb rfl ?_ vM)))
   ·refine zZ H [yN] fun xz abl H=>⟨H.pick [2,3,4] [0,1],(jS L52 ⟨_,xz,lq,uE6,N,H.pick [1,0,2,3,4] [0,1]⟩)⟩
   ·refine zV H underlying24 ti2 ae.length rfl rfl qf qf qf fun NQ IA H=>⟨H.pick [2,3,4] [0,1],(jS L78 ⟨_,NQ,lq,uE6,N,H.pick [1,0,2,3,4] [0,1]⟩)⟩
   refine xq H ti24 [yN] fun nI Pa H=>⟨H.pick [2,3,4] [0,1],(jS Nr ⟨_,lq,nI,uE7,N,H⟩)⟩
  refine Qc (fun ρ Iv=>∃ (xE:Env) (BM:Nat),ρ=upd (upd (upd (upd (upd (upd xE 0 (Sv ab b.length cb)) 4 (pp b3 0)) 5 (pp b5 0)) 10 (pp BM 0)) 21 (.agg #[yN])) 24 (yI ae.length)/\Fresh w.heap.size []/\St w Iv [.box BM [yN] 24,.box b5 [.func (.func 215) #[] #[pp b1 0]] 126,.box b3 [Sv zO ae.length zK] 29,.box b1 [Sv zO ae.length zK] 29] [sF false Fb ab cb b,sF false ax zO zK ae]) 5 #[true,false,true,true,false,false,true,false,false] ?_ fun Ci=>?_
  ·rintro ρ Ja ⟨xE,BM,rfl,N,H⟩
   refine vK [1,4,5] qh qm (jb rfl ?_ (jb rfl ?_ (jb rfl ?_ vM)))
   ·refine zZ H [yN] fun ss Wd H=>⟨H.pick [2,3,4] [0,1],(jS L65 ⟨_,ss,BM,uE6,N,H.pick [1,0,2,3,4] [0,1]⟩)⟩
   ·refine zV H underlying24 ti2 ae.length rfl rfl qf qf qf fun Cp ahH H=>⟨H.pick [2,3,4] [0,1],(jS L95 ⟨_,Cp,BM,uE6,N,H.pick [1,0,2,3,4] [0,1]⟩)⟩
   refine xq H ti235 [.pointer none] fun pG Kg H=>⟨H.pick [2,3,4] [0,1],(jS Nr ⟨_,pG,BM,uE7,N,H.pick [1,0,2,3,4] [0,1]⟩)⟩
  refine Qc (fun ρ Ke=>∃ (xE:Env) (yo:Nat) (Fh:Nat),ρ=upd (upd (upd (upd (upd xE 0 (Sv ab b.length cb)) 4 (pp b3 0)) 5 (pp b5 0)) 9 (pp Fh 0)) 25 (Sv (aa yo 0) ae.length ae.length)/\Fresh w.heap.size []/\St w Ke [.box Fh [.pointer none] 235,rr (aa yo 0) ae.length ae.length 2 1 ((List.replicate ae.length (0:Int)).map (Value.int .i64)),.box b5 [.func (.func 215) #[] #[pp b1 0]] 126,.box b3 [Sv zO ae.length zK] 29,.box b1 [Sv zO ae.length zK] 29] [sF false Fb ab cb b,sF false ax zO zK ae]) 5 #[false,false,true,true,true,true,false,false,false] ?_ fun Zq=>?_
  ·rintro ρ FF ⟨xE,yo,Fh,rfl,N,H⟩
   refine vK [0,6] qh qm (jb rfl ?_ (jb rfl ?_ vM))
   ·refine vU [yN] [] (⟨H.pick [2,3,4] [0,1],(jS L78 ⟨_,yo,Fh,uE6,N,H⟩)⟩)
   refine xq H ti24 [yN] fun OI M1 H=>⟨H.pick [3,4,5] [0,1],(ro 0 rfl (vU [yN] [] (⟨H.pick [3,4,5] [0,1],(ro 1 rfl (zZ H [yN] fun Zr OC H=>⟨H.pick [4,5,6] [0,1],(ro 7 rfl (xH H 2 [pp Zr 0] sizeOf235 fun GV H=>⟨H.pick [4,5,6] [0,1],(ro 8 rfl (xH H 1 [Sv (aa yo 0) ae.length ae.length] sizeOf24 fun Gt H=>⟨H.pick [4,5,6] [0,1],(xw qh ((meet ⟨_,Fh,OI,yo,Zr,uE5,N,H.pick [1,2,3,0,4,5,6] [0,1]⟩)))⟩))⟩))⟩))⟩)))⟩
  refine Qc (fun ρ ND=>∃ (xE:Env) (xt:Nat) (Dw:Nat),ρ=upd (upd (upd (upd (upd xE 0 (Sv ab b.length cb)) 4 (pp b3 0)) 5 (pp b5 0)) 10 (pp Dw 0)) 25 (Sv (aa xt 0) ae.length ae.length)/\Fresh w.heap.size []/\St w ND [.box Dw [yN] 24,rr (aa xt 0) ae.length ae.length 2 1 ((List.replicate ae.length (0:Int)).map (Value.int .i64)),.box b5 [.func (.func 215) #[] #[pp b1 0]] 126,.box b3 [Sv zO ae.length zK] 29,.box b1 [Sv zO ae.length zK] 29] [sF false Fb ab cb b,sF false ax zO zK ae]) 5 #[false,false,true,true,true,false,true,false,false] ?_ fun acM=>?_
  ·rintro ρ amg ⟨xE,xt,Dw,rfl,N,H⟩
   refine vK [0,5] qh qm (jb rfl ?_ (jb rfl ?_ vM))
   ·refine vU [yN] [] (⟨H.pick [2,3,4] [0,1],(jS L95 ⟨_,xt,Dw,uE6,N,H⟩)⟩)
   refine xq H ti235 [.pointer none] fun ahN aaB H=>⟨H.pick [3,4,5] [0,1],(ro 0 rfl (vU [yN] [] (⟨H.pick [3,4,5] [0,1],(ro 1 rfl (zZ H [yN] fun NW agR H=>⟨H.pick [4,5,6] [0,1],(ro 7 rfl (xH H 1 [pp NW 0] sizeOf235 fun ZF H=>⟨H.pick [4,5,6] [0,1],(ro 8 rfl (xH H 2 [Sv (aa xt 0) ae.length ae.length] sizeOf24 fun alo H=>⟨H.pick [4,5,6] [0,1],(xw qh ((meet ⟨_,ahN,Dw,xt,NW,uE5,N,H.pick [2,1,3,0,4,5,6] [0,1]⟩)))⟩))⟩))⟩))⟩)))⟩
  refine Qc (fun ρ aaN=>∃ (xE:Env) (Gf:Nat) (Dv:Nat),ρ=upd (upd (upd (upd (upd (upd xE 0 (Sv ab b.length cb)) 4 (pp b3 0)) 5 (pp b5 0)) 9 (pp Gf 0)) 10 (pp Dv 0)) 24 (yI ae.length)/\Fresh w.heap.size []/\St w aaN [.box Dv [yN] 24,.box Gf [.pointer none] 235,.box b5 [.func (.func 215) #[] #[pp b1 0]] 126,.box b3 [Sv zO ae.length zK] 29,.box b1 [Sv zO ae.length zK] 29] [sF false Fb ab cb b,sF false ax zO zK ae]) 5 #[false,false,true,true,false,true,true,false,false] ?_ fun R5=>?_
  ·rintro ρ aju ⟨xE,Gf,Dv,rfl,N,H⟩
   refine vK [0,4] qh qm (jb rfl ?_ (jb rfl ?_ vM))
   ·refine vU [yN] [] (⟨H.pick [2,3,4] [0,1],(jS Nr ⟨_,Gf,Dv,uE7,N,H⟩)⟩)
   refine zV H underlying24 ti2 ae.length rfl rfl qf qf qf fun si If H=>⟨H.pick [3,4,5] [0,1],(ro 0 rfl (vU [yN] [] (⟨H.pick [3,4,5] [0,1],(ro 1 rfl (zZ H [yN] fun PF OA H=>⟨H.pick [4,5,6] [0,1],(ro 7 rfl (xH H 3 [pp PF 0] sizeOf235 fun ajl H=>⟨H.pick [4,5,6] [0,1],(ro 8 rfl (xH H 2 [Sv (aa si 0) ae.length ae.length] sizeOf24 fun ajG H=>⟨H.pick [4,5,6] [0,1],(xw qh ((meet ⟨_,Gf,Dv,si,PF,uE5,N,H.pick [2,3,1,0,4,5,6] [0,1]⟩)))⟩))⟩))⟩))⟩)))⟩
  refine tL 2 rfl rfl (fun _ h=>h.cell 1 rfl rfl) H ?_
  refine tN 3 rfl rfl H ?_
  refine vK [0,4,5,6] qh qm (jb rfl ?_ (jb rfl ?_ (jb rfl ?_ (jb rfl ?_ vM))))
  ·refine vU [yN] [] (⟨H,(vK [1,4,5,6] qh qm (jb rfl ?_ (jb rfl ?_ (jb rfl ?_ (jb rfl ?_ vM)))))⟩)
   ·refine zZ H [yN] fun Ox YG H=>⟨H.pick [1,2,3] [0,1],(vK [4,5,6] qh qm (jb rfl ?_ (jb rfl ?_ (jb rfl ?_ vM))))⟩
    ·refine zV H underlying24 ti2 ae.length rfl rfl qf qf qf fun I5 I3 H=>⟨H.pick [2,3,4] [0,1],(jS L35 ⟨_,Ox,I5,uE5,N,H⟩)⟩
    ·refine xq H ti235 [.pointer none] fun akz aaU H=>⟨H.pick [2,3,4] [0,1],(jS L52 ⟨_,Ox,akz,uE6,N,H⟩)⟩
    refine xq H ti24 [yN] fun alK ag0 H=>⟨H.pick [2,3,4] [0,1],(jS L65 ⟨_,Ox,alK,uE6,N,H⟩)⟩
   ·refine zV H underlying24 ti2 ae.length rfl rfl qf qf qf fun wA asw H=>⟨H.pick [1,2,3] [0,1],(jS Wz ⟨_,wA,uE5,N,H⟩)⟩
   ·refine xq H ti235 [.pointer none] fun aaJ aaW H=>⟨H.pick [1,2,3] [0,1],(jS Sc ⟨_,aaJ,uE6,N,H⟩)⟩
   refine xq H ti24 [yN] fun tO PG H=>⟨H.pick [1,2,3] [0,1],(jS Ci ⟨_,tO,uE6,N,H⟩)⟩
  ·refine zV H underlying24 ti2 ae.length rfl rfl qf qf qf fun Ev Ot H=>⟨H.pick [1,2,3] [0,1],(vK [0,5,6] qh qm (jb rfl ?_ (jb rfl ?_ (jb rfl ?_ vM))))⟩
   ·refine vU [yN] [] (⟨H.pick [1,2,3] [0,1],(jS Wz ⟨_,Ev,uE5,N,H⟩)⟩)
   ·refine xq H ti235 [.pointer none] fun aml Ud H=>⟨H.pick [2,3,4] [0,1],(jS Zq ⟨_,Ev,aml,uE5,N,H⟩)⟩
   refine xq H ti24 [yN] fun Jt aj5 H=>⟨H.pick [2,3,4] [0,1],(jS acM ⟨_,Ev,Jt,uE5,N,H⟩)⟩
  ·refine xq H ti235 [.pointer none] fun wM aiv H=>⟨H.pick [1,2,3] [0,1],(vK [0,4,6] qh qm (jb rfl ?_ (jb rfl ?_ (jb rfl ?_ vM))))⟩
   ·refine vU [yN] [] (⟨H.pick [1,2,3] [0,1],(jS Sc ⟨_,wM,uE6,N,H⟩)⟩)
   ·refine zV H underlying24 ti2 ae.length rfl rfl qf qf qf fun Us aak H=>⟨H.pick [2,3,4] [0,1],(jS Zq ⟨_,Us,wM,uE5,N,H.pick [1,0,2,3,4] [0,1]⟩)⟩
   refine xq H ti24 [yN] fun tC atQ H=>⟨H.pick [2,3,4] [0,1],(jS R5 ⟨_,wM,tC,uE6,N,H⟩)⟩
  refine xq H ti24 [yN] fun JS IK H=>⟨H.pick [1,2,3] [0,1],(vK [0,4,5] qh qm (jb rfl ?_ (jb rfl ?_ (jb rfl ?_ vM))))⟩
  ·refine vU [yN] [] (⟨H.pick [1,2,3] [0,1],(jS Ci ⟨_,JS,uE6,N,H⟩)⟩)
  ·refine zV H underlying24 ti2 ae.length rfl rfl qf qf qf fun ajw av7 H=>⟨H.pick [2,3,4] [0,1],(jS acM ⟨_,ajw,JS,uE5,N,H.pick [1,0,2,3,4] [0,1]⟩)⟩
  refine xq H ti235 [.pointer none] fun afD akr H=>⟨H.pick [2,3,4] [0,1],(jS R5 ⟨_,afD,JS,uE6,N,H.pick [1,0,2,3,4] [0,1]⟩)⟩
 clear H N
 rintro ρ af2 ⟨xE,Dt,sO,wm,Dh,rfl,N,H⟩
 refine t_n (zcr (sw (xq H ti238 [.nilFunc] fun B4 Px H=>zjc (sp (.func (.func 224) #[] #[pp b3 0,pp b5 0,pp Dt 0,pp sO 0,pp B4 0]) (sw (xH H 0 [.func (.func 224) #[] #[pp b3 0,pp b5 0,pp Dt 0,pp sO 0,pp B4 0]] sizeOf238 fun alB H=>zjc (oL rfl (H.cell 0 rfl rfl) (sq 1 ?_))))))))
 replace H:=H.nilRow 24 1
 replace H:=H.jo (α:=yLI)
 have H1:St w alB [.box b3 [Sv zO ae.length zK] 29,.box b5 [.func (.func 215) #[] #[pp b1 0]] 126,.box b1 [Sv zO ae.length zK] 29,.box Dt [pp Dh 0] 235,.box Dh [yN] 237,.box sO [Sv (aa wm 0) ae.length ae.length] 24,.box B4 [.func (.func 224) #[] #[pp b3 0,pp b5 0,pp Dt 0,pp sO 0,pp B4 0]] 238,rr none 0 0 24 1 [],rr (aa wm 0) ae.length ae.length 2 1 ((List.replicate ae.length (0:Int)).map (Value.int .i64))] [sF false Fb ab cb b,sF false ax zO zK ae,xy true [] [] ([]:yLL)]:=H.pick [7,6,8,3,5,2,1,0,4] [1,2,0]
 have N1:Fresh _ [[]]:=N.emp
 have K1:Kept [] []:=Kept.nil _
 refine sw (zL #[yI 0,Sv ab b.length cb,pp b3 0,pp b5 0,pp Dt 0,pp sO 0,pp B4 0] rfl rfl call224 (packFrom_ok ae.length 0 b ae ([]:yLL) (List.replicate ae.length (0:Int)) ab cb Fb zO zK ax b3 b5 b1 Dt Dh sO B4 none 0 0 [] [] (aa wm 0) ae.length ae.length H1 N1 K1 qf (by assumption) (by (simp;done)) (by (simp;done))) ?_)
 clear H H1 N1 K1
 rintro _ aiT ⟨KX,sK,aab,sE,UF,Si,an8,aqv,rfl,N,H⟩
 obtain rfl:=H.zg (α:=yLI) 7 rfl 2 rfl qj
 refine zjc (oL rfl (H.cell 3 rfl rfl) (sw (zQ #[pp Dh 0] rfl rfl call226 (en func226 ntmps226 ?_))))
 refine zcr (sq 1 (sp (yI 0) (zjcc (sq 2 (oF rfl (oL rfl (H.cell 4 rfl rfl) (oN rfl (sp (Bv (decide (((gath ([]:yLL) (begins ((List.replicate ae.length (0:Int)).take 0) (packs ae (ae.length - 0) 0 b))).length:Int) > 2000))) (zjn (cD rfl (fun af3=>?_) (fun af3=>?_)))))))))))
 ·refine zcr (sq 1 (sp (yI 3) (zjr (t_r (ret2 yN (yI 3) rfl rfl rfl ⟨_,rfl,(sq 1 (sp (yI 3) (sq 1 (sp (yI 3) (zjr (ret2 yN (yI 3) rfl rfl rfl ⟨_,rfl,?_⟩))))))⟩)))))
  replace H:=H.erases [8,7,6,5,4,3,1,0]
  dsimp only [vz,List.eraseIdx] at H
  refine sq 1 (sp (yI 3) (sq 1 (sp (yI 3) (zjr ?_))))
  replace H:=H.nilRow 24 1
  replace H:=H.jo (α:=yLI)
  refine ret2 yN (yI 3) rfl rfl rfl ⟨_,rfl,?_,H.base⟩
  rw [all_bI (cs:=(List.replicate ae.length (0:Int))) ql qf]
  exact ⟨none,0,0,[],[],rfl,(N.emp.pick [0]),H.pick [0] [0]⟩
 refine qV (t_n (zcr (sq 2 (oF rfl (oL rfl (H.cell 4 rfl rfl) (sq 1 (sp (yI 0) (zjr (ret2 (Sv sK ((gath ([]:yLL) (begins ((List.replicate ae.length (0:Int)).take 0) (packs ae (ae.length - 0) 0 b))).length) sE) (yI 0) rfl rfl rfl ⟨_,rfl,?_⟩)))))))))
 refine sq 1 (sp (yI 0) (sq 1 (sp (yI 0) (zjr (ret2 (Sv sK ((gath ([]:yLL) (begins ((List.replicate ae.length (0:Int)).take 0) (packs ae (ae.length - 0) 0 b))).length) sE) (yI 0) rfl rfl rfl ⟨_,rfl,?_⟩)))))
 replace H:=H.erases [8,6,5,4,3,1,0]
 dsimp only [vz,List.eraseIdx] at H
 refine sq 1 (sp (yI 0) (sq 1 (sp (yI 0) (zjr (ret2 (Sv sK ((gath ([]:yLL) (begins ((List.replicate ae.length (0:Int)).take 0) (packs ae (ae.length - 0) 0 b))).length) sE) (yI 0) rfl rfl rfl ⟨_,rfl,?_,H.base⟩)))))
 rw [all_0I (cs:=(List.replicate ae.length (0:Int))) ql qf]
 exact ⟨sK,(gath ([]:yLL) (begins ((List.replicate ae.length (0:Int)).take 0) (packs ae (ae.length - 0) 0 b))).length,sE,UF,Si,rfl,N,H.pick [1] [2]⟩
end
end Go.Proofs.YtdhklgjmiamiaaaGreat
