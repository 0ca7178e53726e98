/- Walks and laws, printed by program and by hand: what each function comes to, for all arguments, part 5. -/
import Derived.Test.YtdhklgjmiamiaaaGreatA4
namespace Go.Proofs.YtdhklgjmiamiaaaGreat
open Go.Proofs.Tryz
set_option linter.unusedVariables false
set_option linter.unusedSimpArgs false
set_option maxRecDepth 100000
set_option maxHeartbeats 4000000
open Go.RowKit
open Go.Proofs.Tryz
open Go.Proofs.YtdhklgjmiamiaaaGreat.Tot (tot)
open Go.Proofs.YtdhklgjmiamiaaaGreat.Mark (cnt mrk mkd mkd_mark cnt_mark)
variable {F G vF xW xk zD zh:yLN} {M M' iv kk:Int} {Ns:List yLN} {W0 w:World} {X xs:List Value} {b c i j k nn:Nat} {e t u:TypeId} {fr wl:Bool} {l m z:yLI} {ps:List Prv} {qG qO qZ xI xg:yOA} {rules:List vS} {s:qC} {v:Value} {x y:Operand} {Γ:List Fact}
section
variable {qE qN xf xG qY : Nat}
theorem specLR_ok (w:World) (s:qC) (t:qH) (qP:zP w xk qG qE s.qA) (xm:zP w xW qO qN s.qB) (zi:zP w zD xg xf t.qK) (zI:zP w vF xI xG t.qQ) (xM:zP w zh qZ qY t.qL):Calls Tryz.prog 17 #[.agg #[yI s.xK,Sv qG s.qA.length qE,Sv qO s.qB.length qN],.agg #[Sv xg t.qK.length xf,Sv xI t.qQ.length xG,Sv qZ t.qL.length qY]] w (Ret (fun v w' =>v=.tuple #[yI ((Qw s t).1),yI ((Qw s t).2)]) w):=by
 refine en func17 ntmps17 ?_
 have H:=(((((St.start w).arg xM).arg zI).arg zi).arg xm).arg qP
 have yz:=qM zi
 have y9:=qM zI
 have jO:=qM xM
 clear qP xm zi zI xM
 have N:=Fresh.nil w.heap.size
 refine zcr (sw (zZ H (yS s qG qE qO qN) fun b1 w2 H=>sw (zZ H (yT t xg xf xI xG qZ qY) fun b3 w4 H=>sp (yI 0) (sp (yI 0) (zjc (sw (xU (yS s qG qE qO qN) isAgg27 sizeOf27 rfl (qF (H.cells 1 rfl) 0 3) (sw (xU (yT t xg xf xI xG qZ qY) isAgg31 sizeOf31 rfl (qF (H.cells 0 rfl) 0 3) (sw (zQ #[.agg #[yI s.xK,Sv qG s.qA.length qE,Sv qO s.qB.length qN],.agg #[Sv xg t.qK.length xf,Sv xI t.qQ.length xG,Sv qZ t.qL.length qY]] rfl rfl call20 (en func20 ntmps20 ?_))))))))))))
 refine zcr (sw (zZ H (yS s qG qE qO qN) fun b5 w6 H=>sw (zZ H (yT t xg xf xI xG qZ qY) fun b7 w8 H=>sw (xq H ti46 [yN,yN] fun b9 nq H=>sp (yI 0) (zjcc (sw (oq (l03Both_ok _ s t (qF (H.cells 2 rfl) 0 3) (H.get 0 rfl).1 (H.get 1 rfl).1 (qF (H.cells 1 rfl) 0 3) (H.get 2 rfl).1 (H.get 3 rfl).1 (H.get 4 rfl).1) H fun uE H=>sq 1 (zjn (cQ rfl (fun dO=>?_) (fun dO=>?_))))))))))
 ·refine zcr (sw (vU [yN,yN] [] (sw (xY H 0 [yN,yN] sizeOf46 fun yi H=>sp (yI 1) (zjr (t_r (retC2 H 0 rfl (yI 1) rfl isAgg46 sizeOf46 rfl rfl ⟨_,rfl,?_⟩)))))))
  replace H:=H.erases [2,1,0]
  dsimp only [vz,List.eraseIdx] at H
  refine sq 2 (sp (yI 1) (sw (xq H ti46 [yN,yN] fun Dh HF H=>sw (xY H 0 [yN,yN] sizeOf46 fun Dn H=>sp (yI 1) (zjcc (sp (yI 1) (sp (Bv true) (zjn (cTr rfl (zcr (sp (yI 1) (sp (yI 0) (sp (yI 1) (zjr (t_r (ret2 (yI 0) (yI 1) rfl rfl rfl ⟨_,rfl,?_,H.base⟩))))))))))))))))
  rw [lr_1 ‹_›]
 have k0:=(‹ve s/\xZ s t›:ve s/\xZ s t)
 have k1:=k0.1
 have k2:=k0.2
 obtain ⟨q7,q8,q9,Tm⟩:=k2.sizes k1.1
 have q13:=fun k hk=>Nat.le_trans (Tm k hk) (by decide:8<=1000000)
 refine qV (t_n (zcr (sw (zQ #[pp b5 0,pp b7 0] rfl rfl call65 (en func65 ntmps65 ?_)))))
 refine zcr (sw (xq H ti46 [yN,yN] fun kJ rO H=>sq 1 (sp (yI 0) (zjc (sq 1 ?_)))))
 have afF:=H.base.size
 refine sw (oc (l02Own_ok _ t (qF (H.cells 2 rfl) 0 3) (H.get 2 rfl).1 (H.get 3 rfl).1 (H.get 4 rfl).1 qg qg qg qg) ?_)
 rintro _ Hu ⟨fP,PS,gq,iQ,aaO,iW,Ei,D0,eJ,O7,fe,rfl,M,K⟩ _
 replace N:=N.merge afF qm M
 replace H:=H.merge K M
 obtain rfl:=H.VM 0 rfl
 obtain rfl:=H.zg (α:=yLI) 1 rfl 0 rfl qj
 obtain rfl:=H.jC 2 rfl
 refine sw (zf H underlying38 ti31 (yT t fP gq iQ iW eJ fe) fun HM AP H=>sw (vU [Sv (aa HM 0) 1 1,yN] [(0,Sv (aa HM 0) 1 1)] (sw (xq H ti46 [yN,yN] fun vl Dc H=>sw (xY H 0 [Sv (aa HM 0) 1 1,yN] sizeOf46 fun CC H=>zjc (sw (zf H underlying24 ti2 [yI (-1)] fun vr Dr H=>sq 1 (zjcc (sp (yI 0) (zjn (qR ?_)))))))))))
 replace H:=H.Xv 0 [(-1)] 1
 replace H:=H.boxRow 2 rfl 3 1 rfl qj
 replace H:=H.jo (α:=qH)
 obtain ⟨G36,N,at8,H⟩:=H.freezeB 3 rfl N (H.jA [1])
 have H0:=H
 obtain ⟨C6,aa1,ain,H⟩:=H.Ql (α:=yLI) 4 rfl 2 rfl qj
 replace N:Fresh w.heap.size [C6,G36]:=Fresh.ice (N.pick [1,0]) H0 4 aa1.1 aa1.2 (H0.jA [0])
 clear H0
 obtain ⟨G41,N,axh,H⟩:=H.zN 5 rfl N (H.jA [0,1])
 replace H:=H.VC 3 rfl 2 rfl 1 rfl 0 rfl
 replace N:Fresh w.heap.size [([]++(G36++C6++G41))]:=(N.emp.pick [3,2,1,0]).join.join.swap.join
 replace H:St _ _ [rr (aa vr 0) 1 1 2 1 ([(-1)].map (Value.int .i64)),.box vl [Sv (aa HM 0) 1 1,yN] 46,rr (aa HM 0) 1 1 31 3 (yT t fP gq iQ iW eJ fe),rr none 0 0 0 1 [],rr none 0 0 0 1 [],rr none 0 0 0 1 [],.box kJ [yN,yN] 46,.box b9 [yN,yN] 46,.box b7 (yT t xg xf xI xG qZ qY) 31,.box b5 (yS s qG qE qO qN) 27,.box b3 (yT t xg xf xI xG qZ qY) 31,.box b1 (yS s qG qE qO qN) 27] [xy true ([]++(G36++C6++G41)) (yT t fP gq iQ iW eJ fe) [t],sF true G41 eJ fe t.qL,sF true C6 iQ iW t.qQ,sF true G36 fP gq t.qK,xy true [] [] ([]:List qH),xy true D0 Ei t.qQ,sF false xk qG qE s.qA,sF false xW qO qN s.qB,sF false zD xg xf t.qK,sF false vF xI xG t.qQ,sF false zh qZ qY t.qL]:=H
 replace H:=H.nilRow 24 1
 replace H:=H.jo (α:=yLI)
 refine zl ((fun Z0 Z1 Z2 Z3 Z4 Z5 Z6 Z7 Z8 Z9 bx=>fun m' ρ Df=>∃ (xE:Env) (nB:yOA) (nL:Nat) (nw:Nat) (BB:yLI) (i:Nat) (zJ:yOA) (zC:Nat) (zF:Nat) (ah:List qH) (jD:List Value) (yR:yLN) (zY:yOA) (qU:Nat) (zX:Nat) (ar:yLL) (yE:List Value) (jF:yLN),ρ=upd (upd (upd (upd (upd xE 0 (pp b5 0)) 4 (pp kJ 0)) 7 (pp vl 0)) 8 (Sv nB nL nw)) 9 (yI i)/\(grRes s t=grGo s (302 - i) i ah ar)/\(∀ u∈ah,xZ s u)/\(0 < ah.length/\ah.length<=300)/\(ar.length=i)/\(i<=ah.length)/\(GrOk ah ar)/\(BB.length=ah.length)/\m' =(301 - i)/\Fresh w.heap.size [jF]/\St w Df [rr zY qU zX 24 1 yE,rr nB nL nw 2 1 (BB.map (Value.int .i64)),.box vl [Sv zJ zC zF,Sv zY qU zX] 46,rr zJ zC zF 31 3 jD,Z0,Z1,Z2,Z3,Z4,Z5] [xy true jF yE ar,xy true yR jD ah,Z6,Z7,Z8,Z9,bx]) _ _ _ _ _ _ _ _ _ _ _) ((301 - 0)) ⟨_,(aa vr 0),1,1,[(-1)],0,(aa HM 0),1,1,[t],(yT t fP gq iQ iW eJ fe),([]++(G36++C6++G41)),none,0,0,([]:yLL),[],[],uE5,(by rfl),(by exact fun u hu=>by obtain rfl:=List.mem_singleton.1 hu;exact k2),qm,(by rfl),qm,(by exact GrOk.start t),(by rfl),rfl,(N.emp.pick [0]),H.pick (0::1::2::3::zR 7 6) (0::1::zR 7 5)⟩ ?_
 clear H N
 rintro m' ρ Dy ⟨xE,nB,nL,nw,BB,i,zJ,zC,zF,ah,jD,yR,zY,qU,zX,ar,yE,jF,rfl,kr,ka,kl,kn,ki,ko,kf,rfl,N,H⟩
 have JQ:=H.jC 1 rfl
 have j4:=H.zg (α:=qH) 3 rfl 1 rfl qj
 have CJ:=H.zg (α:=yLI) 0 rfl 0 rfl qj
 refine zcc (sp (yI i) (oF rfl (oL rfl (H.cell 2 rfl rfl) (oN rfl (sq 1 (zjn (cD rfl (fun oU=>?_) (fun oU=>?_))))))))
 ·refine qV (t_n (xQ (qR (zcr (oF rfl (oL rfl (H.cell 2 rfl rfl) (sp (yI i) ?_)))))))
  obtain ⟨OU,rfl⟩:=H.jK 3 rfl qf
  obtain ⟨kG,kC,CE,m4,m7,G5,gX,gH,wO,B2,H⟩:=H.rowel_StateD 3 rfl 1 rfl (iv:=i) i qf qf
  refine oI rfl rfl (sw (xU [Sv kG (((ah[i]!).qK).length) kC,Sv m4 (((ah[i]!).qQ).length) m7,Sv gX (((ah[i]!).qL).length) gH] isAgg31 sizeOf31 rfl (qF (fun j v hj=>H.Vk 3 rfl (B2 j v hj)) 0 3) (sw (xq H ti31 [yN,yN,yN] fun Mb HC H=>sw (xY H 0 [Sv kG (((ah[i]!).qK).length) kC,Sv m4 (((ah[i]!).qQ).length) m7,Sv gX (((ah[i]!).qL).length) gH] sizeOf31 fun w51 H=>zjc (sq 1 ?_))))))
  have ks:=ka (ah[i]!) (mem_at (k:=i) qf rfl)
  have nl:=succ_len s (ah[i]!)
  have NE:=H.base.size
  have N7:=H.ltN (L:=[jF]) [3]
  refine sw (oc (l03Succ_ok _ s (ah[i]!) (qF (H.cells 8 rfl) 0 3) (H.get 5 rfl).1 (H.get 6 rfl).1 (qF (H.cells 0 rfl) 0 3) (H.get 0 rfl).1 (H.get 1 rfl).1 (H.get 2 rfl).1 qg qg) ?_)
  rintro _ Hi ⟨D9,ZN,uP,U1,V3,rfl,M,K⟩ _
  replace N:=N.merge NE N7 M
  replace H:=H.merge K M
  obtain rfl:=H.zg (α:=qH) 0 rfl 0 rfl qj
  refine sq 5 (zjcc (sq 1 (sp (Bv (((xu s (ah[i]!)).2:Int) != 0)) (zjn (zT (((xu s (ah[i]!)).2:Int) != 0) rfl (fun pd=>?_) (fun pd=>?_))))))
  ·replace pd:=bne_iff_ne.1 pd
   refine zcr (sw (vU [yN,yN] [] (sq 2 (sw (xY H 6 [yN,yN] sizeOf46 fun Hj H=>sq 2 (zjr (t_r (zr5 (retC3 H 6 rfl (Sv nB nL nw) (yI ((xu s (ah[i]!)).2)) rfl isAgg46 sizeOf46 rfl rfl rfl ⟨_,rfl,?_⟩)))))))))
   replace H:=H.erases [6,5,4,2,1,0]
   dsimp only [vz,List.eraseIdx] at H
   refine sq 4 (sw (xq H ti46 [yN,yN] fun C4 KY H=>sw (xY H 0 [yN,yN] sizeOf46 fun w62 H=>sq 2 (zjc (sw (xU [yN,yN] isAgg46 sizeOf46 rfl (qF (H.cells 0 rfl) 0 2) (sq 1 (sw (xY H 2 [yN,yN] sizeOf46 fun w63 H=>sq 1 (zjr (retC2 H 2 rfl (yI ((xu s (ah[i]!)).2)) rfl isAgg46 sizeOf46 rfl rfl ⟨_,rfl,?_⟩)))))))))))
   replace H:=H.erases [4,3,2,1,0]
   dsimp only [vz,List.eraseIdx] at H
   refine sq 3 (sw (xq H ti46 [yN,yN] fun RJ Pm H=>sw (xY H 0 [yN,yN] sizeOf46 fun E1 H=>sq 1 (zjcc (sq 1 (sp (Bv (((xu s (ah[i]!)).2:Int) != 0)) (zjn (zT (((xu s (ah[i]!)).2:Int) != 0) rfl (fun wq=>?_) (fun h=>absurd (xx h) pd)))))))))
   replace wq:=bne_iff_ne.1 wq
   refine zcr (sq 1 (sp (yI 0) (sq 1 (zjr (t_r (ret2 (yI 0) (yI ((xu s (ah[i]!)).2)) rfl rfl rfl ⟨_,rfl,?_,H.base⟩))))))
   rw [lr_c k0 (kr.trans (gr_code qf qf ql)) rfl ql]
  replace pd:=xx pd
  refine qV (t_n (zcr (sw (vW H underlying24 ti2 fun b68 HD H=>sq 1 (zjcc (sp (yI 0) (zjn (qR ?_))))))))
  have H0:=H
  obtain ⟨Zv,Yw,aq7,H⟩:=H.Ql (α:=qH) 1 rfl 0 rfl qj
  replace N:Fresh w.heap.size [Zv,jF]:=Fresh.ice N H0 1 Yw.1 Yw.2 (H0.jA [4])
  clear H0
  replace H:=H.Xv 0 [] 0
  refine zl ((fun Z0 Z1 Z2 Z3 Z4 Z5 Z6 Z7 Z8 Z9 bx bG dy fj ix oS BX FT=>fun m' ρ w73=>∃ (xE:Env) (fO:yOA) (fS:Nat) (gt:Nat) (pf:yLI) (j0:yOA) (iX:Nat) (iJ:Nat) (row:yLI) (k:Nat) (Qo:yOA) (jJ:Nat) (Qn:Nat) (cV:List qH) (QX:List Value) (VL:yLN),ρ=upd (upd (upd (upd (upd (upd (upd (upd xE 0 (pp b5 0)) 4 (pp kJ 0)) 7 (pp vl 0)) 8 (Sv fO fS gt)) 9 (yI i)) 11 (Sv D9 (((xu s (ah[i]!)).1).length) uP)) 13 (Sv j0 iX iJ)) 14 (yI k)/\row=(ja ah (xu s (ah[i]!)).1 k).2/\cV=(ja ah (xu s (ah[i]!)).1 k).1/\((k:Int)<=(((xu s (ah[i]!)).1).length))/\(pf.length=(ja ah (xu s (ah[i]!)).1 k).1.length)/\m' =((((xu s (ah[i]!)).1).length) - (k:Int)).toNat/\Fresh w.heap.size [Zv,jF]/\St w w73 [rr j0 iX iJ 2 1 (row.map (Value.int .i64)),Z0,Z1,rr fO fS gt 2 1 (pf.map (Value.int .i64)),.box vl [Sv Qo jJ Qn,Sv zY qU zX] 46,rr Qo jJ Qn 31 3 QX,Z2,Z3,Z4,Z5,Z6,Z7] [Z8,Z9,bx,bG,dy,xy true VL QX cV,fj,ix,oS,BX,FT]) _ _ _ _ _ _ _ _ _ _ _ _ _ _ _ _ _ _) (((((xu s (ah[i]!)).1).length) - (0:Int)).toNat) ⟨_,nB,nL,nw,BB,(aa b68 0),0,0,([]:yLI),0,(aa OU 0),zC,zF,ah,jD,yR,uE8,(by rfl),(by rfl),qf,ql,rfl,N,H.pick (0::zR 2 11) (0::zR 2 10)⟩ ?_
  clear H N
  rintro m' ρ w74 ⟨xE,fO,fS,gt,pf,j0,iX,iJ,row,k,Qo,jJ,Qn,cV,QX,VL,rfl,rfl,rfl,i0,kf2,rfl,N,H⟩
  have JQ:=H.jC 3 rfl
  have OG:=H.jC 0 rfl
  have j4:=H.zg (α:=qH) 5 rfl 5 rfl qj
  obtain ⟨al1,al2,al3⟩:=XU (S:=ah) (nx:=(xu s (ah[i]!)).1) k
  refine zcc (sp (yI k) (sq 1 (oN rfl (sq 1 (zjn (cD rfl (fun h75=>?_) (fun h75=>?_)))))))
  ·refine qV (t_n (xQ (qR (xQ (jE rfl H fun H=>tF 0 rfl rfl H ?_)))))
   refine tL 1 rfl rfl (fun _ h=>h.cell 4 rfl rfl) H ?_
   refine rtl 2 H ?_
   refine rtp 3 (yI k) H ?_
   obtain ⟨ws,o78,rfl⟩:=H.addr 0 rfl qf
   obtain ⟨dz,dE,tg,fc,eS,uN,cX,cT,rI,H⟩:=H.elem_StateD 0 rfl k k qf qf qf
   refine tI 4 rfl rfl rfl (H.pick (zR 0 12) (zR 4 11)) (ro 5 rfl ?_)
   obtain ⟨G81,Oj,C7⟩:=H.jY (α:=qH) 5 rfl 9 rfl qj
   refine oq (VG (by rw [← Oj]) (l03Find_ok _ ((ja ah (xu s (ah[i]!)).1 k).1) (((xu s (ah[i]!)).1)[k]!) (Oj▸C7) (qF (H.get 3 rfl) 0 3) (H.get 0 rfl).1 (H.get 1 rfl).1 (H.get 2 rfl).1)) H fun w85 H=>⟨H.pick (zR 0 12) (zR 4 11),(rtl 6 (H.pick (zR 0 12) (zR 4 11)) ?_)⟩
   refine xw qh (t_n (zcc (sq 1 (sp (Bv (decide ((firstIdx (fun zz=>decide (((ja ah (xu s (ah[i]!)).1 k).1)[zz]! =(((xu s (ah[i]!)).1)[k]!))) ((ja ah (xu s (ah[i]!)).1 k).1).length:Int) < 0))) (zjn (cD rfl (fun h87=>?_) (fun h87=>?_)))))))
   ·refine zcr (oF rfl (oL rfl (H.cell 4 rfl rfl) (oN rfl (sq 1 (zjn (xQ (VP (fun ρ I4=>∃ (xE:Env) (a88:yOA) (c89:Nat),ρ=upd (upd (upd (upd (upd (upd (upd (upd (upd xE 0 (pp b5 0)) 4 (pp kJ 0)) 7 (pp vl 0)) 8 (Sv fO fS gt)) 9 (yI i)) 11 (Sv (aa ws o78) (((xu s (ah[i]!)).1).length) uP)) 13 (Sv j0 iX iJ)) 14 (yI k)) 15 (yI jJ)/\Fresh w.heap.size [Zv,jF]/\St w I4 [rr j0 iX iJ 2 1 (((ja ah (xu s (ah[i]!)).1 k).2).map (Value.int .i64)),.box Mb [Sv kG (((ah[i]!).qK).length) kC,Sv m4 (((ah[i]!).qQ).length) m7,Sv gX (((ah[i]!).qL).length) gH] 31,rr zY qU zX 24 1 yE,rr fO fS gt 2 1 (pf.map (Value.int .i64)),.box vl [Sv a88 (jJ+1) c89,Sv zY qU zX] 46,rr a88 (jJ+1) c89 31 3 (QX++[Sv dz (((((xu s (ah[i]!)).1)[k]!).qK).length) dE,Sv fc (((((xu s (ah[i]!)).1)[k]!).qQ).length) eS,Sv cX (((((xu s (ah[i]!)).1)[k]!).qL).length) cT]),.box kJ [yN,yN] 46,.box b9 [yN,yN] 46,.box b7 (yT t xg xf xI xG qZ qY) 31,.box b5 (yS s qG qE qO qN) 27,.box b3 (yT t xg xf xI xG qZ qY) 31,.box b1 (yS s qG qE qO qN) 27] [xy true (VL++(tg++uN++rI)) (QX++[Sv dz (((((xu s (ah[i]!)).1)[k]!).qK).length) dE,Sv fc (((((xu s (ah[i]!)).1)[k]!).qQ).length) eS,Sv cX (((((xu s (ah[i]!)).1)[k]!).qL).length) cT]) (((ja ah (xu s (ah[i]!)).1 k).1)++[⟨(((xu s (ah[i]!)).1)[k]!).qK,(((xu s (ah[i]!)).1)[k]!).qQ,(((xu s (ah[i]!)).1)[k]!).qL⟩]),sF true tg dz dE ((((xu s (ah[i]!)).1)[k]!).qK),sF true uN fc eS ((((xu s (ah[i]!)).1)[k]!).qQ),sF true rI cX cT ((((xu s (ah[i]!)).1)[k]!).qL),atF ws (o78+(k:Int).toNat * 3) [Sv dz (((((xu s (ah[i]!)).1)[k]!).qK).length) dE,Sv fc (((((xu s (ah[i]!)).1)[k]!).qQ).length) eS,Sv cX (((((xu s (ah[i]!)).1)[k]!).qL).length) cT],sF true Zv (aa ws o78) uP ((xu s (ah[i]!)).1),sF true CE kG kC ((ah[i]!).qK),sF true G5 m4 m7 ((ah[i]!).qQ),sF true wO gX gH ((ah[i]!).qL),xy true jF yE ar,sF false xk qG qE s.qA,sF false xW qO qN s.qB,sF false zD xg xf t.qK,sF false vF xI xG t.qQ,sF false zh qZ qY t.qL]) ?_ ?_)))))))
    ·refine yK rfl H (0::1::2::3::zR 6 6) fun H=>?_
     have S:=H.jm (0::1::2::3::zR 6 6) (zR 0 15)
     refine tF 0 rfl rfl S ?_
     refine rtl 2 S ?_
     refine rtp 3 (yI k) S ?_
     refine tI 4 rfl rfl rfl S ?_
     refine rt 5 _ (y8 (cs:=[Sv dz (((((xu s (ah[i]!)).1)[k]!).qK).length) dE,Sv fc (((((xu s (ah[i]!)).1)[k]!).qQ).length) eS,Sv cX (((((xu s (ah[i]!)).1)[k]!).qL).length) cT]) isAgg31 sizeOf31 rfl (fun _ h=>qF (h.get 3 rfl) 0 3)) S ?_
     refine vK [1,6] qh qm (jb rfl ?_ (jb rfl ?_ vM))
     ·refine x9 (Sv Qo jJ Qn) isAgg38 rfl (H.cell 4 rfl rfl) (⟨H.pick (0::1::2::3::zR 6 6) (zR 0 15),(ro 6 rfl (zf H underlying38 ti31 [Sv dz (((((xu s (ah[i]!)).1)[k]!).qK).length) dE,Sv fc (((((xu s (ah[i]!)).1)[k]!).qQ).length) eS,Sv cX (((((xu s (ah[i]!)).1)[k]!).qL).length) cT] fun b92 w93 H=>⟨H.pick (1::2::3::4::zR 7 6) (zR 0 15),(ro 7 rfl ?_)⟩))⟩)
      refine zo H 6 rfl 0 rfl underlying38 ti31 rfl qj rfl rfl rfl qw qp qf fun Rx P1 YS H=>?_
      replace H:=H.VC 9 rfl 0 rfl 1 rfl 2 rfl
      refine ⟨H.pick (1::2::3::4::zR 7 6) (zR 1 15),(tF 8 rfl rfl (H.pick (1::2::3::4::zR 7 6) (zR 1 15)) ?_)⟩
      refine ro 9 rfl (xH H 5 [Sv Rx (jJ+1) P1,Sv zY qU zX] sizeOf38 fun N9 H=>⟨H.pick (1::2::3::4::zR 7 6) (zR 1 15),(xw qh ((meet ⟨_,Rx,P1,uE9,N,H.pick (zR 1 12) [0,1,2,3,4,5,6,7,8,9,11,12,13,14,15]⟩)))⟩)
     refine zf H underlying38 ti31 [Sv dz (((((xu s (ah[i]!)).1)[k]!).qK).length) dE,Sv fc (((((xu s (ah[i]!)).1)[k]!).qQ).length) eS,Sv cX (((((xu s (ah[i]!)).1)[k]!).qL).length) cT] fun Li Zz H=>⟨H.pick (1::2::3::4::zR 7 6) (zR 0 15),(ro 1 rfl (x9 (Sv Qo jJ Qn) isAgg38 rfl (H.cell 5 rfl rfl) (⟨H.pick (1::2::3::4::zR 7 6) (zR 0 15),(ro 7 rfl ?_)⟩)))⟩
     refine zo H 6 rfl 0 rfl underlying38 ti31 rfl qj rfl rfl rfl qw qp qf fun CK BJ wV H=>?_
     replace H:=H.VC 9 rfl 0 rfl 1 rfl 2 rfl
     refine ⟨H.pick (1::2::3::4::zR 7 6) (zR 1 15),(tF 8 rfl rfl (H.pick (1::2::3::4::zR 7 6) (zR 1 15)) ?_)⟩
     refine ro 9 rfl (xH H 5 [Sv CK (jJ+1) BJ,Sv zY qU zX] sizeOf38 fun OV H=>⟨H.pick (1::2::3::4::zR 7 6) (zR 1 15),(xw qh ((meet ⟨_,CK,BJ,uE9,N,H.pick (zR 1 12) [0,1,2,3,4,5,6,7,8,9,11,12,13,14,15]⟩)))⟩)
    clear H N
    rintro ρ EP ⟨xE,a88,c89,rfl,N,H⟩
    refine t_n (xJ (sq 1 (sp (yI i) (sw (zf H underlying24 ti2 [yI i] fun at3 aiR H=>sw (zo H 4 rfl 0 rfl underlying24 ti2 rfl qj rfl rfl rfl qw qp qf fun ayj asy N8 H=>?_))))))
    rw [snocI] at H
    refine sq 1 (zjn (xJ (sq 2 (sw (zf H underlying24 ti2 [yI jJ] fun CD aax H=>sw (zo H 2 rfl 0 rfl underlying24 ti2 rfl qj rfl rfl rfl qw qp qf fun awC awM US H=>?_))))))
    rw [snocI] at H
    refine sq 1 (xO (b_n (t_n (xJ (sp (yI k) (sw (zn k 1 rfl rfl qf (sq 1 (xO (qX (m' :=((((xu s (ah[i]!)).1).length) - ((k+1):Int)).toNat) qf ⟨_,_,_,_,_,_,_,_,_,k+1,_,_,_,_,_,_,uE8,?_,?_,?_,?_,rfl,N,H.pick (zR 2 12) (5::6::7::8::9::0::zR 10 5)⟩))))))))))
    ·(refine Eq.trans ?_ (Vq (k:=k) ‹_›).2;congr 2 <;> omega)
    ·exact (Vq (k:=k) ‹_›).1
    ·omega
    ·(rw [← (Vq (k:=k) ‹_›).1,List.length_append,List.length_append];exact congrArg (·+1) kf2)
   refine qV (t_n (xJ (sq 2 (sw (zf H underlying24 ti2 [yI (firstIdx (fun zz=>decide (((ja ah (xu s (ah[i]!)).1 k).1)[zz]! =(((xu s (ah[i]!)).1)[k]!))) ((ja ah (xu s (ah[i]!)).1 k).1).length)] fun yp tJ H=>(sw (zo H 1 rfl 0 rfl underlying24 ti2 rfl qj rfl rfl rfl qw qp qf fun G9 Fr TF H=>?_)))))))
   rw [snocI] at H
   refine sq 1 (xO (b_n (t_n (xJ (sp (yI k) (sw (zn k 1 rfl rfl qf (sq 1 (xO (qX (m' :=((((xu s (ah[i]!)).1).length) - ((k+1):Int)).toNat) qf ⟨_,_,_,_,_,_,_,_,_,k+1,_,_,_,_,_,_,uE8,?_,?_,?_,?_,rfl,N,H.pick (zR 1 12) (zR 4 11)⟩))))))))))
   ·exact (Vp (k:=k) ‹_›).2
   ·exact (Vp (k:=k) ‹_›).1
   ·omega
   ·(rw [← (Vp (k:=k) ‹_›).1];omega)
  refine zx4 (zcr (oF rfl (oL rfl (H.cell 4 rfl rfl) (sq 1 (sw (zf H underlying29 ti24 [Sv j0 iX iJ] fun awp Cl H=>?_))))))
  obtain ⟨ali,N,anB,H⟩:=H.zN 1 rfl N (H.jA [0,4])
  refine sw (zo H 3 rfl 0 rfl underlying29 ti24 rfl qj rfl rfl rfl qw qp qf fun aiM akX Zf H=>?_)
  replace H:=H.yx 5 rfl 0 rfl
  replace N:Fresh w.heap.size [(jF++ali),Zv]:=(N.pick [2,0,1]).join
  refine oF rfl (sw (xH H 5 [Sv Qo jJ Qn,Sv aiM (qU+1) akX] sizeOf29 fun PO H=>zjc (oF rfl (oL rfl (H.cell 5 rfl rfl) (oN rfl (sp (Bv (decide ((jJ:Int) > 300))) (zjn (cD rfl (fun PB=>?_) (fun PB=>?_)))))))))
  ·refine zcr (sw (vU [yN,yN] [] (sq 1 (sw (xY H 7 [yN,yN] sizeOf46 fun NL H=>sq 1 (sp (yI 3) (zjr (zr5 (retC3 H 7 rfl (Sv fO fS gt) (yI 3) rfl isAgg46 sizeOf46 rfl rfl rfl ⟨_,rfl,?_⟩)))))))))
   replace H:=H.erases [7,6,5,3,2,1,0]
   dsimp only [vz,List.eraseIdx] at H
   refine sq 3 (sp (yI 3) (sw (xq H ti46 [yN,yN] fun sA afM H=>sw (xY H 0 [yN,yN] sizeOf46 fun aeU H=>sq 1 (sp (yI 3) (zjc (sw (xU [yN,yN] isAgg46 sizeOf46 rfl (qF (H.cells 0 rfl) 0 2) (sp (yI 3) (sw (xY H 2 [yN,yN] sizeOf46 fun aaf H=>sp (yI 3) (zjr (retC2 H 2 rfl (yI 3) rfl isAgg46 sizeOf46 rfl rfl ⟨_,rfl,?_⟩)))))))))))))
   replace H:=H.erases [4,3,2,1,0]
   dsimp only [vz,List.eraseIdx] at H
   refine sq 2 (sp (yI 3) (sw (xq H ti46 [yN,yN] fun awX BQ H=>sw (xY H 0 [yN,yN] sizeOf46 fun abf H=>sp (yI 3) (zjcc (sp (yI 3) (sp (Bv true) (zjn (cTr rfl (zcr (sp (yI 3) (sp (yI 0) (sp (yI 3) (zjr (t_r (ret2 (yI 0) (yI 3) rfl rfl rfl ⟨_,rfl,?_,H.base⟩))))))))))))))))
   rw [lr_c k0 (kr.trans (gr_many qf qf qf (k:=k) qf qf)) rfl qj]
  refine qV (b_n (t_n (xJ (sp (yI i) (sw (zn i 1 rfl rfl qf (sq 1 (xO (qX (m' :=(301 - (i+1))) qf ⟨_,_,_,_,_,i+1,_,_,_,_,_,_,_,_,_,_,_,_,uE5,?_,?_,?_,?_,?_,?_,?_,rfl,(N.pick [0]),H.pick (zR 3 10) (0::zR 7 6)⟩)))))))))
  ·exact kr.trans (gr_go qf qf qf (k:=k) qf qf)
  ·exact addSt_mem ka succ_ok k qf
  ·omega
  ·simp;omega
  ·omega
  ·exact ko.next qf qf
  ·omega
 refine zx4 (zcr (sw (xU [Sv zJ zC zF,Sv zY qU zX] isAgg46 sizeOf46 rfl (qF (H.cells 2 rfl) 0 2) (sq 1 (sw (xY H 4 [Sv zJ zC zF,Sv zY qU zX] sizeOf46 fun EI H=>sq 1 (sp (yI 0) (zjr (retC3 H 4 rfl (Sv nB nL nw) (yI 0) rfl isAgg46 sizeOf46 rfl rfl rfl ⟨_,rfl,?_⟩)))))))))
 replace H:=H.erases [4,2]
 dsimp only [vz,List.eraseIdx] at H
 refine sq 3 (sp (yI 0) (sw (xq H ti46 [yN,yN] fun wL arm H=>sw (xY H 0 [Sv zJ zC zF,Sv zY qU zX] sizeOf46 fun IA H=>sq 1 (sp (yI 0) (zjc (sw (xU [Sv zJ zC zF,Sv zY qU zX] isAgg46 sizeOf46 rfl (qF (H.cells 0 rfl) 0 2) (sp (yI 0) (sw (xY H 4 [Sv zJ zC zF,Sv zY qU zX] sizeOf46 fun akR H=>sp (yI 0) (zjr (retC2 H 4 rfl (yI 0) rfl isAgg46 sizeOf46 rfl rfl ⟨_,rfl,?_⟩)))))))))))))
 replace H:=H.erases [6,5,4,2,0]
 dsimp only [vz,List.eraseIdx] at H
 refine sq 2 (sp (yI 0) (sw (xq H ti46 [yN,yN] fun lF Pu H=>sw (xY H 0 [Sv zJ zC zF,Sv zY qU zX] sizeOf46 fun Nn H=>sp (yI 0) (zjcc (sp (yI 0) (sp (Bv false) (zjn (cFr rfl (qV (t_n (zcr (sw (zQ #[pp lF 0] rfl rfl call63 (en func63 ntmps63 ?_)))))))))))))))
 refine zcr (sq 1 (sp (Bv false) (zjc (sq 2 (oF rfl (oL rfl (H.cell 0 rfl rfl) (oN rfl (sq 1 (zjc (sq 1 (sw (zV H underlying24 ti2 qU rfl rfl qf qf qf fun vp Ja H=>sq 1 (zjc (sq 1 (sw (o_makeB H underlying28 ti4 qU rfl rfl qf qf qf fun ss Wd H=>sq 1 (zjc (sq 2 (zjn (xQ (qR (zl ((fun Z0 Z1 Z2 Z3 Z4 Z5 Z6 Z7 Z8 Z9 bx bG=>fun m' ρ Na=>∃ (xE:Env) (left:Int) (done:List Bool) (uL:yLI),ρ=upd (upd (upd (upd (upd xE 0 (pp lF 0)) 4 (yI qU)) 5 (Sv (aa vp 0) qU qU)) 6 (Sv (aa ss 0) qU qU)) 7 (yI left)/\(LayI ar uL done left)/\m' =(left:Int).toNat/\Fresh w.heap.size [jF]/\St w Na [rr (aa ss 0) qU qU 4 1 (done.map (Value.bool)),rr (aa vp 0) qU qU 2 1 (uL.map (Value.int .i64)),Z0,Z1,Z2,Z3,Z4] [Z5,Z6,Z7,Z8,Z9,bx,bG]) _ _ _ _ _ _ _ _ _ _ _ _) ((qU:Int).toNat) ⟨_,qU,(List.replicate qU (false)),(List.replicate qU (0:Int)),uE5,(by rw [show qU=ar.length by omega];exact LayI.start ar),rfl,N,H⟩ ?_))))))))))))))))))))))
 clear H N
 rintro m' ρ ahH ⟨xE,left,done,uL,rfl,l1,rfl,N,H⟩
 have Ig:=H.VM 0 rfl
 have EY:=H.jC 1 rfl
 refine zcc (sq 1 (sp (Bv (decide ((left:Int) > 0))) (zjn (cD rfl (fun alL=>?_) (fun alL=>?_)))))
 ·refine qV (t_n (qR (zcr (sp (Bv false) (zjcc (sp (yI 0) (zjn (qR (zl ((fun Z0 Z1 Z2 Z3 Z4 Z5 Z6 Z7 Z8 Z9 bx bG=>fun m' ρ Kg=>∃ (xE:Env) (gC:Int) (nc:Bool) (az:Nat) (fb:List Bool) (dm:yLI),ρ=upd (upd (upd (upd (upd (upd (upd xE 0 (pp lF 0)) 4 (yI qU)) 5 (Sv (aa vp 0) qU qU)) 6 (Sv (aa ss 0) qU qU)) 7 (yI gC)) 8 (Bv nc)) 9 (yI az)/\((az:Int)<=qU)/\(LayI ar dm fb gC)/\(nc=true->gC < left)/\(nc=false->gC=left/\NoneR ar fb az)/\(gC<=left)/\m' =(qU - (az:Int)).toNat/\Fresh w.heap.size [jF]/\St w Kg [rr (aa ss 0) qU qU 4 1 (fb.map (Value.bool)),rr (aa vp 0) qU qU 2 1 (dm.map (Value.int .i64)),Z0,Z1,Z2,Z3,Z4] [Z5,Z6,Z7,Z8,Z9,bx,bG]) _ _ _ _ _ _ _ _ _ _ _ _) ((qU - (0:Int)).toNat) ⟨_,left,false,0,done,uL,uE7,qf,ql,(by exact fun h=>by cases h),(by exact fun _=>⟨rfl,fun j hj=>by omega⟩),qf,rfl,N,H⟩ ?_)))))))))
  clear H N
  rintro m' ρ M7 ⟨xE,gC,nc,az,fb,dm,rfl,i0,l2,l3,l4,l5,rfl,N,H⟩
  have Ig:=H.VM 0 rfl
  have EY:=H.jC 1 rfl
  refine zcc (sq 3 (zjn (cD rfl (fun alT=>?_) (fun alT=>?_))))
  ·refine qV (t_n (xQ (qR (zcc (sq 2 (oI rfl rfl (oL rfl (H.rowBool 0 rfl (iv:=az) (i:=az) qf qf) (zjn (zT _ rfl (fun ak3=>?_) (fun ak3=>?_))))))))))
   ·refine Qx (t_x (b_x (t_n (xJ (sq 1 (sw (zn az 1 rfl rfl qf (sq 1 (xO (qX (m' :=(qU - ((az+1):Int)).toNat) qf ⟨_,_,_,az+1,_,_,uE7,?_,?_,?_,?_,?_,rfl,N,H⟩))))))))))
    ·omega
    ·assumption
    ·assumption
    ·exact fun h=>⟨(l4 h).1,(l4 h).2.succ (.inl ql)⟩
    ·omega
   refine qV (t_n (zcr (sp (Bv true) (zjc (sp (yI 0) (zjcc (sp (yI 0) (zjn (qR (zl ((fun Z0 Z1 Z2 Z3 Z4 Z5 Z6 Z7 Z8 Z9 bx bG dy fj=>fun m' ρ Ke=>∃ (xE:Env) (ready:Bool) (dc:Int) (k:Nat),ρ=upd (upd (upd (upd (upd (upd (upd (upd (upd (upd xE 0 (pp lF 0)) 4 (yI qU)) 5 (Sv (aa vp 0) qU qU)) 6 (Sv (aa ss 0) qU qU)) 7 (yI gC)) 8 (Bv nc)) 9 (yI az)) 10 (Bv ready)) 11 (yI dc)) 12 (yI k)/\ready=(rdTo fb (ar[az]!) k)/\dc=(mxF (fun j=>dm[j]!) (ar[az]!) k)/\((k:Int)<=((ar[az]!).length))/\m' =(((ar[az]!).length) - (k:Int)).toNat/\Fresh w.heap.size [jF]/\St w Ke [Z0,Z1,Z2,Z3,Z4,Z5,Z6] [Z7,Z8,Z9,bx,bG,dy,fj]) _ _ _ _ _ _ _ _ _ _ _ _ _ _) ((((ar[az]!).length) - (0:Int)).toNat) ⟨_,true,0,0,uE10,(by rfl),(by rfl),qf,rfl,N,H⟩ ?_))))))))))
   clear H N
   rintro m' ρ FF ⟨xE,ready,dc,k,rfl,rfl,rfl,i0,rfl,N,H⟩
   refine zcc (sp (yI k) (sq 2 (oF rfl (oL rfl (H.cell 2 rfl rfl) (sq 1 ?_)))))
   obtain ⟨OI,rfl⟩:=H.jK 3 rfl qf
   refine oI rfl rfl ?_
   obtain ⟨awL,auz,aw0,awn,afI,H⟩:=H.yg 3 rfl 0 rfl (iv:=az) az qf qf
   refine oL rfl (afI) (oN rfl (sq 1 (zjn (cD rfl (fun ai4=>?_) (fun ai4=>?_)))))
   ·obtain ⟨r1,r2⟩:=ko.rows az qf k qf
    have r3:=l2.nn (((ar[az]!)[k]!).toNat) qf
    have r6:=l2.lf
    have r7:=List.count_le_length (a:=true) (l:=fb)
    have r8:=ko.lens az qf
    refine qV (t_n (xQ (qR (zcr (sq 2 (oF rfl (oL rfl (H.cell 2 rfl rfl) (sq 1 (oI rfl rfl ?_)))))))))
    obtain ⟨avI,axU,sr,arT,Y2,H⟩:=H.yg 3 rfl 1 rfl (iv:=az) az qf qf
    refine oL rfl (Y2) (sp (yI k) ?_)
    obtain ⟨agY,ai5,rfl⟩:=H.addr 0 rfl qf
    refine oI rfl rfl (oL rfl (H.zA 0 rfl k qf) (sq 1 (zjc (sp (Bv (rdTo fb (ar[az]!) k)) (sp (Bv (rdTo fb (ar[az]!) k)) ?_)))))
    cases h173:((rdTo fb (ar[az]!) k))
    ·refine xR (zR 59 4) (sp (Bv false) (sp (Bv false) (zjn (xJ (sq 3 (oI rfl rfl (oL rfl (H.QJ 1 rfl (iv:=(ar[az]!)[k]!) (i:=(((ar[az]!)[k]!).toNat)) qf qf) (sw (zn (dm[((ar[az]!)[k]!).toNat]!) 1 rfl rfl qf (sw (oq (l00Max_ok FF (mxF (fun j=>dm[j]!) (ar[az]!) k) ((dm[((ar[az]!)[k]!).toNat]!)+1)) H fun amy H=>sq 1 (xO (b_n (t_n (xJ (sp (yI k) (sw (zn k 1 rfl rfl qf (sq 1 (xO (qX (m' :=(((ar[az]!).length) - ((k+1):Int)).toNat) qf ⟨_,_,_,k+1,uE10,?_,?_,?_,rfl,N,H.pick (zR 0 7) (zR 2 7)⟩)))))))))))))))))))))
     ·(rw [rdTo,‹rdTo _ _ _=false›];rfl)
     ·rfl
     ·omega
    refine qJ 58 rfl rfl (sq 1 (qJ 58 rfl rfl (sq 1 (qJ 58 rfl rfl (oI rfl rfl (qJ 58 rfl rfl (oL rfl (H.rowBool 0 rfl (iv:=(ar[az]!)[k]!) (i:=(((ar[az]!)[k]!).toNat)) qf qf) (sq 2 (zjn (xJ (sq 3 (oI rfl rfl (oL rfl (H.QJ 1 rfl (iv:=(ar[az]!)[k]!) (i:=(((ar[az]!)[k]!).toNat)) qf qf) (sw (zn (dm[((ar[az]!)[k]!).toNat]!) 1 rfl rfl qf (sw (oq (l00Max_ok FF (mxF (fun j=>dm[j]!) (ar[az]!) k) ((dm[((ar[az]!)[k]!).toNat]!)+1)) H fun aaN H=>sq 1 (xO (b_n (t_n (xJ (sp (yI k) (sw (zn k 1 rfl rfl qf (sq 1 (xO (qX (m' :=(((ar[az]!).length) - ((k+1):Int)).toNat) qf ⟨_,_,_,k+1,uE10,?_,?_,?_,rfl,N,H.pick (zR 0 7) (zR 2 7)⟩)))))))))))))))))))))))))))
    ·(rw [rdTo,‹rdTo _ _ _=true›];rfl)
    ·rfl
    ·omega
   refine zx4 (zcr (sp (Bv (rdTo fb (ar[az]!) k)) (zjn (zT _ rfl (fun ahb=>?_) (fun ahb=>?_)))))
   ·have r6:=l2.lf
    have r7:=List.count_le_length (a:=true) (l:=fb)
    refine zcr (sq 2 (oI rfl rfl (sw (Qq H 0 rfl true sizeOf4 rfl rfl (i:=az) qf qf fun If H=>zjc (sq 3 (oI rfl rfl (sw (y5 H 1 rfl (mxF (fun j=>dm[j]!) (ar[az]!) k) sizeOf2 rfl rfl (i:=az) qf qf fun W1 H=>zjc (sp (Bv true) (zjn (xJ (sq 1 (sw (o_sub gC 1 rfl rfl qf (sq 1 (xO (b_n (t_n (xJ (sq 1 (sw (zn az 1 rfl rfl qf (sq 1 (xO (qX (m' :=(qU - ((az+1):Int)).toNat) qf ⟨_,_,_,az+1,_,_,uE7,?_,?_,?_,?_,?_,rfl,N,H.pick (zR 0 7) (zR 1 7)⟩)))))))))))))))))))))))))
    ·omega
    ·exact l2.set qf ql (fun q hq=>by have:=(ko.rows az qf q hq).2;omega) (fun q hq=>rdTo_true ‹rdTo _ _ _=true› q qf) qf
    ·exact fun _=>by omega
    ·exact fun h=>Bool.noConfusion h
    ·omega
   refine qV (b_n (t_n (xJ (sq 1 (sw (zn az 1 rfl rfl qf (sq 1 (xO (qX (m' :=(qU - ((az+1):Int)).toNat) qf ⟨_,_,_,az+1,_,_,uE7,?_,?_,?_,?_,?_,rfl,N,H.pick (zR 0 7) (zR 1 7)⟩)))))))))
   ·omega
   ·assumption
   ·assumption
   ·exact fun h=>⟨(l4 h).1,(l4 h).2.succ (.inr (by obtain ⟨q,h1,h2⟩:=rdTo_false ‹rdTo _ _ _=false›;exact ⟨q,by omega,h2⟩))⟩
   ·omega
  refine zx4 (zcr (sp (Bv nc) (sp (Bv !nc) (zjn (zT _ rfl (fun wU=>?_) (fun wU=>?_))))))
  ·replace wU:=xB wU
   obtain ⟨e1,e2⟩:=l4 (by cases nc <;> simp_all)
   refine zcr (sq 2 (sp (Bv false) (zjr (b_r (t_r (b_r (t_r (ret2 (Sv (aa vp 0) qU qU) (Bv false) rfl rfl rfl ⟨_,rfl,?_⟩))))))))
   replace H:=H.erases [0]
   dsimp only [vz,List.eraseIdx] at H
   refine sq 2 (sp (Bv false) (sq 1 (sp (Bv false) (zjcc (sp (Bv false) (sp (Bv true) (zjn (cTr rfl (zcr (sp (yI 0) (sp (yI 4) (zjr (t_r (ret2 (yI 0) (yI 4) rfl rfl rfl ⟨_,rfl,?_,H.base⟩))))))))))))))
   rw [lr_n k0 (kr.trans (gr_end qf)) (lay_not l2 qf ko qf (by rw [show ar.length=az by omega];exact e2))]
  replace wU:=xn wU
  have l6:=l3 (by cases nc <;> simp_all)
  refine qV (b_n (qX (m' :=(gC:Int).toNat) qf ⟨_,_,_,_,uE5,?_,rfl,N,H⟩))
  ·assumption
 refine zx4 (zcr (sq 2 (sp (Bv true) (zjr (ret2 (Sv (aa vp 0) qU qU) (Bv true) rfl rfl rfl ⟨_,rfl,?_⟩)))))
 replace H:=H.erases [0]
 dsimp only [vz,List.eraseIdx] at H
 refine sq 2 (sp (Bv true) (sq 1 (sp (Bv true) (zjcc (sp (Bv true) (sp (Bv false) (zjn (cFr rfl (qV (t_n (zcr (sq 1 (oI rfl rfl (oL rfl (H.QJ 0 rfl (iv:=0) (i:=0) qf qf) (sq 1 (sp (yI 0) (zjr (ret2 (yI (uL[0]!)) (yI 0) rfl rfl rfl ⟨_,rfl,?_,H.base⟩))))))))))))))))))
 rw [lr_y k0 (kr.trans (gr_end qf)) (lay_end (S:=ah) l1 qf qf)]
theorem implLR_ok (w:World) (s:qC) (t:qH) (qP:zP w xk qG qE s.qA) (xm:zP w xW qO qN s.qB) (zi:zP w zD xg xf t.qK) (zI:zP w vF xI xG t.qQ) (xM:zP w zh qZ qY t.qL):Calls Tryz.prog 18 #[.agg #[yI s.xK,Sv qG s.qA.length qE,Sv qO s.qB.length qN],.agg #[Sv xg t.qK.length xf,Sv xI t.qQ.length xG,Sv qZ t.qL.length qY]] w (Ret (fun v w' =>v=.tuple #[yI ((Qw s t).1),yI ((Qw s t).2)]) w):=by
 refine en func18 ntmps18 ?_
 have H:=(((((St.start w).arg xM).arg zI).arg zi).arg xm).arg qP
 have yz:=qM zi
 have y9:=qM zI
 have jO:=qM xM
 clear qP xm zi zI xM
 have N:=Fresh.nil w.heap.size
 refine zcr (sw (zZ H (yS s qG qE qO qN) fun b1 w2 H=>sw (zZ H (yT t xg xf xI xG qZ qY) fun b3 w4 H=>sp (yI 0) (sp (yI 0) (zjc (sw (xU (yS s qG qE qO qN) isAgg27 sizeOf27 rfl (qF (H.cells 1 rfl) 0 3) (sw (xU (yT t xg xf xI xG qZ qY) isAgg31 sizeOf31 rfl (qF (H.cells 0 rfl) 0 3) (sw (zQ #[.agg #[yI s.xK,Sv qG s.qA.length qE,Sv qO s.qB.length qN],.agg #[Sv xg t.qK.length xf,Sv xI t.qQ.length xG,Sv qZ t.qL.length qY]] rfl rfl call21 (en func21 ntmps21 ?_))))))))))))
 refine zcr (sw (zZ H (yS s qG qE qO qN) fun b5 w6 H=>sw (zZ H (yT t xg xf xI xG qZ qY) fun b7 w8 H=>sw (xq H ti46 [yN,yN] fun b9 nq H=>sp (yI 0) (zjcc (sw (xU (yS s qG qE qO qN) isAgg27 sizeOf27 rfl (qF (H.cells 2 rfl) 0 3) (sw (xU (yT t xg xf xI xG qZ qY) isAgg31 sizeOf31 rfl (qF (H.cells 1 rfl) 0 3) (sw (oq (validState_ok _ s t (H.get 0 rfl).1 (H.get 1 rfl).1 (H.get 2 rfl).1 (H.get 3 rfl).1 (H.get 4 rfl).1) H fun uE H=>sq 1 (zjn (cQ rfl (fun dO=>?_) (fun dO=>?_))))))))))))))
 ·refine zcr (sw (vU [yN,yN] [] (sw (xY H 0 [yN,yN] sizeOf46 fun yi H=>sp (yI 1) (zjr (t_r (retC2 H 0 rfl (yI 1) rfl isAgg46 sizeOf46 rfl rfl ⟨_,rfl,?_⟩)))))))
  replace H:=H.erases [2,1,0]
  dsimp only [vz,List.eraseIdx] at H
  refine sq 2 (sp (yI 1) (sw (xq H ti46 [yN,yN] fun Dh HF H=>sw (xY H 0 [yN,yN] sizeOf46 fun Dn H=>sp (yI 1) (zjcc (sp (yI 1) (sp (Bv true) (zjn (cTr rfl (zcr (sp (yI 1) (sp (yI 0) (sp (yI 1) (zjr (t_r (ret2 (yI 0) (yI 1) rfl rfl rfl ⟨_,rfl,?_,H.base⟩))))))))))))))))
  rw [lr_1 ‹_›]
 have k0:=(‹ve s/\xZ s t›:ve s/\xZ s t)
 have k1:=k0.1
 have k2:=k0.2
 obtain ⟨q7,q8,q9,Tm⟩:=k2.sizes k1.1
 have q13:=fun k hk=>Nat.le_trans (Tm k hk) (by decide:8<=1000000)
 refine qV (t_n (zcr (sw (xU (yS s qG qE qO qN) isAgg27 sizeOf27 rfl (qF (H.cells 2 rfl) 0 3) (sw (xU (yT t xg xf xI xG qZ qY) isAgg31 sizeOf31 rfl (qF (H.cells 1 rfl) 0 3) (sw (zQ #[.agg #[yI s.xK,Sv qG s.qA.length qE,Sv qO s.qB.length qN],.agg #[Sv xg t.qK.length xf,Sv xI t.qQ.length xG,Sv qZ t.qL.length qY]] rfl rfl call66 (en func66 ntmps66 ?_)))))))))
 refine zcr (sw (zZ H (yS s qG qE qO qN) fun kJ rO H=>sw (zZ H (yT t xg xf xI xG qZ qY) fun sg Hu H=>sw (xq H ti46 [yN,yN] fun PV Bo H=>sp (yI 0) (zjc (sw (xU (yT t xg xf xI xG qZ qY) isAgg31 sizeOf31 rfl (qF (H.cells 1 rfl) 0 3) ?_)))))))
 have ah2:=H.base.size
 refine sw (oc (Vm _ t (H.get 2 rfl).1 (H.get 3 rfl).1 (H.get 4 rfl).1 qg qg qg qg) ?_)
 rintro _ HK ⟨f8,Ro,fU,iZ,ab6,iY,G6,Gm,eF,Oc,ep,rfl,M,K⟩ _
 replace N:=N.merge ah2 qm M
 replace H:=H.merge K M
 obtain rfl:=H.VM 0 rfl
 obtain rfl:=H.zg (α:=yLI) 1 rfl 0 rfl qj
 obtain rfl:=H.jC 2 rfl
 refine sw (zf H underlying38 ti31 (yT t f8 fU iZ iY eF ep) fun uI Dg H=>sw (vU [Sv (aa uI 0) 1 1,yN] [(0,Sv (aa uI 0) 1 1)] (sw (xq H ti46 [yN,yN] fun Hr Ks H=>sw (xY H 0 [Sv (aa uI 0) 1 1,yN] sizeOf46 fun N6 H=>zjcc (sp (yI 0) (zjn (qR ?_))))))))
 replace H:=H.boxRow 1 rfl 3 1 rfl qj
 replace H:=H.jo (α:=qH)
 obtain ⟨C6,N,ain,H⟩:=H.freezeB 2 rfl N (H.jA [1])
 have H0:=H
 obtain ⟨PX,aa7,ajg,H⟩:=H.Ql (α:=yLI) 3 rfl 2 rfl qj
 replace N:Fresh w.heap.size [PX,C6]:=Fresh.ice (N.pick [1,0]) H0 3 aa7.1 aa7.2 (H0.jA [0])
 clear H0
 obtain ⟨G43,N,auE,H⟩:=H.zN 4 rfl N (H.jA [0,1])
 replace H:=H.VC 3 rfl 2 rfl 1 rfl 0 rfl
 replace N:Fresh w.heap.size [([]++(C6++PX++G43))]:=(N.emp.pick [3,2,1,0]).join.join.swap.join
 replace H:St _ _ [.box Hr [Sv (aa uI 0) 1 1,yN] 46,rr (aa uI 0) 1 1 31 3 (yT t f8 fU iZ iY eF ep),rr none 0 0 0 1 [],rr none 0 0 0 1 [],rr none 0 0 0 1 [],.box PV [yN,yN] 46,.box sg (yT t xg xf xI xG qZ qY) 31,.box kJ (yS s qG qE qO qN) 27,.box b9 [yN,yN] 46,.box b7 (yT t xg xf xI xG qZ qY) 31,.box b5 (yS s qG qE qO qN) 27,.box b3 (yT t xg xf xI xG qZ qY) 31,.box b1 (yS s qG qE qO qN) 27] [xy true ([]++(C6++PX++G43)) (yT t f8 fU iZ iY eF ep) [t],sF true G43 eF ep t.qL,sF true PX iZ iY t.qQ,sF true C6 f8 fU t.qK,xy true [] [] ([]:List qH),xy true Gm G6 t.qQ,sF false xk qG qE s.qA,sF false xW qO qN s.qB,sF false zD xg xf t.qK,sF false vF xI xG t.qQ,sF false zh qZ qY t.qL]:=H
 replace H:=H.nilRow 24 1
 replace H:=H.jo (α:=yLI)
 refine zl ((fun Z0 Z1 Z2 Z3 Z4 Z5 Z6 Z7 Z8 Z9 bx bG dy=>fun m' ρ Ou=>∃ (xE:Env) (i:Nat) (zJ:yOA) (zC:Nat) (zF:Nat) (ah:List qH) (jD:List Value) (yR:yLN) (zY:yOA) (qU:Nat) (zX:Nat) (ar:yLL) (yE:List Value) (jF:yLN),ρ=upd (upd (upd (upd xE 2 (pp kJ 0)) 4 (pp PV 0)) 6 (pp Hr 0)) 7 (yI i)/\(grRes s t=grGo s (302 - i) i ah ar)/\(∀ u∈ah,xZ s u)/\(0 < ah.length/\ah.length<=300)/\(ar.length=i)/\(i<=ah.length)/\(GrOk ah ar)/\m' =(301 - i)/\Fresh w.heap.size [jF]/\St w Ou [rr zY qU zX 24 1 yE,.box Hr [Sv zJ zC zF,Sv zY qU zX] 46,rr zJ zC zF 31 3 jD,Z0,Z1,Z2,Z3,Z4,Z5,Z6,Z7] [xy true jF yE ar,xy true yR jD ah,Z8,Z9,bx,bG,dy]) _ _ _ _ _ _ _ _ _ _ _ _ _) ((301 - 0)) ⟨_,0,(aa uI 0),1,1,[t],(yT t f8 fU iZ iY eF ep),([]++(C6++PX++G43)),none,0,0,([]:yLL),[],[],uE4,(by rfl),(by exact fun u hu=>by obtain rfl:=List.mem_singleton.1 hu;exact k2),qm,(by rfl),qm,(by exact GrOk.start t),rfl,(N.emp.pick [0]),H.pick (0::1::2::zR 6 8) (0::1::zR 7 5)⟩ ?_
 clear H N
 rintro m' ρ C1 ⟨xE,i,zJ,zC,zF,ah,jD,yR,zY,qU,zX,ar,yE,jF,rfl,kr,ka,kl,kn,ki,ko,rfl,N,H⟩
 have j4:=H.zg (α:=qH) 2 rfl 1 rfl qj
 have CJ:=H.zg (α:=yLI) 0 rfl 0 rfl qj
 refine zcc (sp (yI i) (oF rfl (oL rfl (H.cell 1 rfl rfl) (oN rfl (sq 1 (zjn (cD rfl (fun h47=>?_) (fun h47=>?_))))))))
 ·have ks:=ka (ah[i]!) (mem_at (k:=i) qf rfl)
  have nl:=succ_len s (ah[i]!)
  refine qV (t_n (xQ (qR (xQ (jE rfl H fun H=>rt 0 _ (y8 (cs:=(yS s qG qE qO qN)) isAgg27 sizeOf27 rfl (fun _ h=>qF (h.cells 5 rfl) 0 3)) H ?_)))))
  refine tF 1 rfl rfl H ?_
  refine tL 2 rfl rfl (fun _ h=>h.cell 1 rfl rfl) H ?_
  refine rtp 3 (yI i) H ?_
  obtain ⟨Mb,rfl⟩:=H.jK 2 rfl qf
  obtain ⟨Cd,Cq,RF,FV,Ep,V4,xL,wx,Nz,GC,H⟩:=H.rowel_StateD 2 rfl 1 rfl (iv:=i) i qf qf
  have S:=H.jm (zR 0 11) (zR 3 7)
  refine tI 4 rfl rfl rfl S ?_
  refine rt 5 _ (y8 (cs:=[Sv Cd (((ah[i]!).qK).length) Cq,Sv FV (((ah[i]!).qQ).length) Ep,Sv xL (((ah[i]!).qL).length) wx]) isAgg31 sizeOf31 rfl (fun _ h=>qF (fun j v hj=>h.Vk 2 rfl (GC j v hj)) 0 3)) S ?_
  refine ro 6 rfl ?_
  have NE:=H.base.size
  have N7:=H.ltN (L:=[jF]) [3]
  refine oc (nextStates_ok _ s (ah[i]!) (H.get 5 rfl).1 (H.get 6 rfl).1 (H.get 0 rfl).1 (H.get 1 rfl).1 (H.get 2 rfl).1 qg qg) ?_
  rintro _ Hi ⟨D9,ZN,uP,U1,V3,rfl,M,K⟩ _
  replace N:=N.merge NE N7 M
  replace H:=H.merge K M
  obtain rfl:=H.zg (α:=qH) 0 rfl 0 rfl qj
  refine ⟨H.pick (zR 1 11) (zR 4 7),?_⟩
  have S:=H.jm (zR 1 11) (zR 4 7)
  refine rtl 7 S ?_
  refine rtl 8 S ?_
  refine rtl 9 S ?_
  refine rtl 10 S ?_
  refine rtl 11 S ?_
  refine xw qh (t_n (zcc (sq 1 (sp (Bv (((xu s (ah[i]!)).2:Int) != 0)) (zjn (zT (((xu s (ah[i]!)).2:Int) != 0) rfl (fun pd=>?_) (fun pd=>?_)))))))
  ·replace pd:=bne_iff_ne.1 pd
   refine zcr (sw (vU [yN,yN] [] (sq 1 (sw (xY H 4 [yN,yN] sizeOf46 fun Hj H=>sq 1 (zjr (t_r (zr5 (retC2 H 4 rfl (yI ((xu s (ah[i]!)).2)) rfl isAgg46 sizeOf46 rfl rfl ⟨_,rfl,?_⟩)))))))))
   replace H:=H.erases [6,5,4,3,2,1,0]
   dsimp only [vz,List.eraseIdx] at H
   refine sq 2 (sw (xY H 0 [yN,yN] sizeOf46 fun w60 H=>sq 1 (zjr (retC2 H 0 rfl (yI ((xu s (ah[i]!)).2)) rfl isAgg46 sizeOf46 rfl rfl ⟨_,rfl,?_⟩))))
   replace H:=H.erases [2,1,0]
   dsimp only [vz,List.eraseIdx] at H
   refine sq 3 (sw (xq H ti46 [yN,yN] fun b61 w62 H=>sw (xY H 0 [yN,yN] sizeOf46 fun w63 H=>sq 1 (zjcc (sq 1 (sp (Bv (((xu s (ah[i]!)).2:Int) != 0)) (zjn (zT (((xu s (ah[i]!)).2:Int) != 0) rfl (fun B5=>?_) (fun h=>absurd (xx h) pd)))))))))
   replace B5:=bne_iff_ne.1 B5
   refine zcr (sq 1 (sp (yI 0) (sq 1 (zjr (t_r (ret2 (yI 0) (yI ((xu s (ah[i]!)).2)) rfl rfl rfl ⟨_,rfl,?_,H.base⟩))))))
   rw [lr_c k0 (kr.trans (gr_code qf qf ql)) rfl ql]
  replace pd:=xx pd
  refine qV (t_n (zcr (sw (vW H underlying24 ti2 fun AE E1 H=>sq 1 (zjcc (sq 1 (oN rfl (sp (yI 0) (zjn (qR ?_))))))))))
  have H0:=H
  obtain ⟨G67,acc,afn,H⟩:=H.Ql (α:=qH) 1 rfl 0 rfl qj
  replace N:Fresh w.heap.size [G67,jF]:=Fresh.ice N H0 1 acc.1 acc.2 (H0.jA [4])
  clear H0
  replace H:=H.Xv 0 [] 0
  refine zl ((fun Z0 Z1 Z2 Z3 Z4 Z5 Z6 Z7 Z8 Z9 bx bG dy fj ix oS=>fun m' ρ w70=>∃ (xE:Env) (A8:yOA) (A4:Nat) (zb:Nat) (own:yLI) (k:Nat) (Qo:yOA) (jJ:Nat) (Qn:Nat) (cV:List qH) (QX:List Value) (VL:yLN),ρ=upd (upd (upd (upd (upd (upd (upd (upd xE 2 (pp kJ 0)) 4 (pp PV 0)) 6 (pp Hr 0)) 7 (yI i)) 10 (Sv A8 A4 zb)) 40 (Sv D9 (((xu s (ah[i]!)).1).length) uP)) 41 (yI (((xu s (ah[i]!)).1).length))) 42 (yI k)/\own=(ja ah (xu s (ah[i]!)).1 k).2/\cV=(ja ah (xu s (ah[i]!)).1 k).1/\((k:Int)<=(((xu s (ah[i]!)).1).length))/\m' =((((xu s (ah[i]!)).1).length) - (k:Int)).toNat/\Fresh w.heap.size [G67,jF]/\St w w70 [rr A8 A4 zb 2 1 (own.map (Value.int .i64)),Z0,.box Hr [Sv Qo jJ Qn,Sv zY qU zX] 46,rr Qo jJ Qn 31 3 QX,Z1,Z2,Z3,Z4,Z5,Z6,Z7,Z8] [Z9,bx,xy true VL QX cV,bG,dy,fj,ix,oS]) _ _ _ _ _ _ _ _ _ _ _ _ _ _ _ _) (((((xu s (ah[i]!)).1).length) - (0:Int)).toNat) ⟨_,(aa AE 0),0,0,([]:yLI),0,(aa Mb 0),zC,zF,ah,jD,yR,uE8,(by rfl),(by rfl),qf,rfl,N,H.pick (0::zR 2 11) (0::zR 5 7)⟩ ?_
  clear H N
  rintro m' ρ w71 ⟨xE,A8,A4,zb,own,k,Qo,jJ,Qn,cV,QX,VL,rfl,rfl,rfl,i0,rfl,N,H⟩
  have xb:=H.jC 0 rfl
  have j4:=H.zg (α:=qH) 3 rfl 2 rfl qj
  obtain ⟨al1,al2,al3⟩:=XU (S:=ah) (nx:=(xu s (ah[i]!)).1) k
  refine zcr (sq 1 (zjn (xQ (cD rfl (fun h72=>?_) (fun h72=>?_)))))
  ·refine qV (t_n (xQ (qR (zcr ?_))))
   obtain ⟨b73,o74,rfl⟩:=H.addr 0 rfl qf
   obtain ⟨gr,f7,Rs,iI,j8,abZ,eV,eX,OM,H⟩:=H.elem_StateD 0 rfl k k qf qf qf
   refine oI rfl rfl (sw (xU [Sv gr (((((xu s (ah[i]!)).1)[k]!).qK).length) f7,Sv iI (((((xu s (ah[i]!)).1)[k]!).qQ).length) j8,Sv eV (((((xu s (ah[i]!)).1)[k]!).qL).length) eX] isAgg31 sizeOf31 rfl (qF (H.get 3 rfl) 0 3) (sw (xq H ti31 [yN,yN,yN] fun ws WE H=>(sw (xY H 0 [Sv gr (((((xu s (ah[i]!)).1)[k]!).qK).length) f7,Sv iI (((((xu s (ah[i]!)).1)[k]!).qQ).length) j8,Sv eV (((((xu s (ah[i]!)).1)[k]!).qL).length) eX] sizeOf31 fun LL H=>zjc (oF rfl (oL rfl (H.cell 3 rfl rfl) (sw (xU [Sv gr (((((xu s (ah[i]!)).1)[k]!).qK).length) f7,Sv iI (((((xu s (ah[i]!)).1)[k]!).qQ).length) j8,Sv eV (((((xu s (ah[i]!)).1)[k]!).qL).length) eX] isAgg31 sizeOf31 rfl (qF (H.cells 0 rfl) 0 3) ?_))))))))))
   obtain ⟨G80,DT,h82⟩:=H.jY (α:=qH) 4 rfl 6 rfl qj
   refine sw (oq (VG (by rw [← DT]) (find_ok _ ((ja ah (xu s (ah[i]!)).1 k).1) (((xu s (ah[i]!)).1)[k]!) (DT▸h82) (H.get 0 rfl).1 (H.get 1 rfl).1 (H.get 2 rfl).1)) H fun HG H=>sq 1 (zjcc (sq 1 (sp (Bv (decide ((firstIdx (fun zz=>decide (((ja ah (xu s (ah[i]!)).1 k).1)[zz]! =(((xu s (ah[i]!)).1)[k]!))) ((ja ah (xu s (ah[i]!)).1 k).1).length:Int) < 0))) (zjn (cD rfl (fun lB=>?_) (fun lB=>?_)))))))
   ·refine zcr (oF rfl (oL rfl (H.cell 3 rfl rfl) ?_))
    obtain ⟨G87,aah,Do⟩:=H.jY (α:=qH) 4 rfl 6 rfl qj
    refine sw (oq (VG (by rw [← aah]) (sizeS_ok _ ((ja ah (xu s (ah[i]!)).1 k).1) (aah▸Do))) H fun TN H=>sq 1 (zjn (xJ (oF rfl (oL rfl (H.cell 3 rfl rfl) (sw (xU [Sv gr (((((xu s (ah[i]!)).1)[k]!).qK).length) f7,Sv iI (((((xu s (ah[i]!)).1)[k]!).qQ).length) j8,Sv eV (((((xu s (ah[i]!)).1)[k]!).qL).length) eX] isAgg31 sizeOf31 rfl (qF (H.cells 0 rfl) 0 3) (sw (zf H underlying38 ti31 [Sv gr (((((xu s (ah[i]!)).1)[k]!).qK).length) f7,Sv iI (((((xu s (ah[i]!)).1)[k]!).qQ).length) j8,Sv eV (((((xu s (ah[i]!)).1)[k]!).qL).length) eX] fun Hs Zw H=>sw (zo H 5 rfl 0 rfl underlying38 ti31 rfl qj rfl rfl rfl qw qp qf fun a95 c96 N9 H=>?_))))))))))
    replace H:=H.VC 6 rfl 0 rfl 1 rfl 2 rfl
    refine oF rfl (sw (xH H 4 [Sv a95 (jJ+1) c96,Sv zY qU zX] sizeOf38 fun w98 H=>zjn (xJ (sq 2 (sw (zf H underlying24 ti2 [yI (((ja ah (xu s (ah[i]!)).1 k).1).length)] fun b99 IOz H=>sw (zo H 3 rfl 0 rfl underlying24 ti2 rfl qj rfl rfl rfl qw qp qf fun H6 Ji OV H=>?_)))))))
    rw [snocI] at H
    refine sq 1 (xO (b_n (t_n (xJ (sw (zn k 1 rfl rfl qf (sq 1 (xO (qX (m' :=((((xu s (ah[i]!)).1).length) - ((k+1):Int)).toNat) qf ⟨_,_,_,_,_,k+1,_,_,_,_,_,_,uE8,?_,?_,?_,rfl,N,H.pick (zR 3 12) (5::6::0::zR 8 5)⟩)))))))))
    ·(refine Eq.trans ?_ (Vq (k:=k) ‹_›).2;congr 2 <;> omega)
    ·exact (Vq (k:=k) ‹_›).1
    ·omega
   refine qV (t_n (xJ (sq 2 (sw (zf H underlying24 ti2 [yI (firstIdx (fun zz=>decide (((ja ah (xu s (ah[i]!)).1 k).1)[zz]! =(((xu s (ah[i]!)).1)[k]!))) ((ja ah (xu s (ah[i]!)).1 k).1).length)] fun abE I6 H=>(sw (zo H 2 rfl 0 rfl underlying24 ti2 rfl qj rfl rfl rfl qw qp qf fun axN asA abF H=>?_)))))))
   rw [snocI] at H
   refine sq 1 (xO (b_n (t_n (xJ (sw (zn k 1 rfl rfl qf (sq 1 (xO (qX (m' :=((((xu s (ah[i]!)).1).length) - ((k+1):Int)).toNat) qf ⟨_,_,_,_,_,k+1,_,_,_,_,_,_,uE8,?_,?_,?_,rfl,N,H.pick (zR 2 12) (zR 4 8)⟩)))))))))
   ·exact (Vp (k:=k) ‹_›).2
   ·exact (Vp (k:=k) ‹_›).1
   ·omega
  refine zx4 (zcc (oF rfl (oL rfl (H.cell 2 rfl rfl) (oN rfl (sp (Bv (decide ((jJ:Int) > 300))) (zjn (cD rfl (fun agT=>?_) (fun agT=>?_))))))))
  ·refine zcr (sw (vU [yN,yN] [] (sw (xY H 4 [yN,yN] sizeOf46 fun ahS H=>sp (yI 3) (zjr (t_r (zr5 (retC2 H 4 rfl (yI 3) rfl isAgg46 sizeOf46 rfl rfl ⟨_,rfl,?_⟩))))))))
   replace H:=H.erases [6,5,4,3,2,1,0]
   dsimp only [vz,List.eraseIdx] at H
   refine sq 1 (sp (yI 3) (sw (xY H 0 [yN,yN] sizeOf46 fun aax H=>sp (yI 3) (zjr (retC2 H 0 rfl (yI 3) rfl isAgg46 sizeOf46 rfl rfl ⟨_,rfl,?_⟩)))))
   replace H:=H.erases [2,1,0]
   dsimp only [vz,List.eraseIdx] at H
   refine sq 2 (sp (yI 3) (sw (xq H ti46 [yN,yN] fun asc Ga H=>sw (xY H 0 [yN,yN] sizeOf46 fun US H=>sp (yI 3) (zjcc (sp (yI 3) (sp (Bv true) (zjn (cTr rfl (zcr (sp (yI 3) (sp (yI 0) (sp (yI 3) (zjr (t_r (ret2 (yI 0) (yI 3) rfl rfl rfl ⟨_,rfl,?_,H.base⟩))))))))))))))))
   rw [lr_c k0 (kr.trans (gr_many qf qf qf (k:=k) qf qf)) rfl qj]
  refine qV (t_n (xJ (oF rfl (oL rfl (H.cell 2 rfl rfl) (sq 1 (sw (zf H underlying29 ti24 [Sv A8 A4 zb] fun yp tJ H=>?_)))))))
  obtain ⟨tZ,N,Zi,H⟩:=H.zN 1 rfl N (H.jA [0,1])
  refine sw (zo H 2 rfl 0 rfl underlying29 ti24 rfl qj rfl rfl rfl qw qp qf fun G9 Fr TF H=>?_)
  replace H:=H.yx 2 rfl 0 rfl
  replace N:Fresh w.heap.size [(jF++tZ),G67]:=(N.pick [2,0,1]).join
  refine oF rfl (sw (xH H 3 [Sv Qo jJ Qn,Sv G9 (qU+1) Fr] sizeOf29 fun U4 H=>xO (b_n (t_n (xJ (sp (yI i) (sw (zn i 1 rfl rfl qf (sq 1 (xO (qX (m' :=(301 - (i+1))) qf ⟨_,i+1,_,_,_,_,_,_,_,_,_,_,_,_,uE4,?_,?_,?_,?_,?_,?_,rfl,(N.pick [0]),H.pick (zR 2 11) (0::zR 4 6)⟩)))))))))))
  ·exact kr.trans (gr_go qf qf qf (k:=k) qf qf)
  ·exact addSt_mem ka succ_ok k qf
  ·omega
  ·simp;omega
  ·omega
  ·exact ko.next qf qf
 refine zx4 (zcr (sw (xU [Sv zJ zC zF,Sv zY qU zX] isAgg46 sizeOf46 rfl (qF (H.cells 1 rfl) 0 2) (sw (xY H 3 [Sv zJ zC zF,Sv zY qU zX] sizeOf46 fun Oa H=>sp (yI 0) (zjr (retC2 H 3 rfl (yI 0) rfl isAgg46 sizeOf46 rfl rfl ⟨_,rfl,?_⟩)))))))
 replace H:=H.erases [5,4,3,1]
 dsimp only [vz,List.eraseIdx] at H
 refine sq 1 (sp (yI 0) (sw (xY H 2 [Sv zJ zC zF,Sv zY qU zX] sizeOf46 fun Zf H=>sp (yI 0) (zjr (retC2 H 2 rfl (yI 0) rfl isAgg46 sizeOf46 rfl rfl ⟨_,rfl,?_⟩)))))
 replace H:=H.erases [4,3,2]
 dsimp only [vz,List.eraseIdx] at H
 refine sq 2 (sp (yI 0) (sw (xq H ti46 [yN,yN] fun t8 H7 H=>sw (xY H 0 [Sv zJ zC zF,Sv zY qU zX] sizeOf46 fun PO H=>sp (yI 0) (zjcc (sp (yI 0) (sp (Bv false) (zjn (cFr rfl (qV (t_n (zcr (sw (xU [Sv zJ zC zF,Sv zY qU zX] isAgg46 sizeOf46 rfl (qF (H.cells 0 rfl) 0 2) (sw (zQ #[.agg #[Sv zJ zC zF,Sv zY qU zX]] rfl rfl call64 (en func64 ntmps64 ?_)))))))))))))))))
 refine zcr (sw (zZ H [Sv zJ zC zF,Sv zY qU zX] fun dZ NL H=>sp (yI 0) (sp (Bv false) (zjn (xQ (VP (fun ρ IM=>∃ (xE:Env) (sA:Nat) (rS:Nat) (we:Nat) (lq:Nat),ρ=upd (upd (upd xE 1 (pp dZ 0)) 4 (pp sA 0)) 5 (pp rS 0)/\Fresh w.heap.size [jF]/\St w IM [.box rS [Sv (aa we 0) qU qU] 24,.box sA [Sv (aa lq 0) qU qU] 135,rr (aa we 0) qU qU 2 1 ((List.replicate qU (0:Int)).map (Value.int .i64)),rr (aa lq 0) qU qU 3 1 ((List.replicate qU (0:Int)).map (Value.int .i64)),.box dZ [Sv zJ zC zF,Sv zY qU zX] 46,.box t8 [Sv zJ zC zF,Sv zY qU zX] 46,rr zY qU zX 24 1 yE,rr zJ zC zF 31 3 jD,.box b3 (yT t xg xf xI xG qZ qY) 31,.box b1 (yS s qG qE qO qN) 27] [xy true jF yE ar,xy true yR jD ah,sF false xk qG qE s.qA,sF false xW qO qN s.qB,sF false zD xg xf t.qK,sF false vF xI xG t.qQ,sF false zh qZ qY t.qL]) ?_ ?_))))))
 ·refine jE rfl H fun H=>?_
  refine Qc (fun ρ IA=>∃ (xE:Env) (wN:Nat) (xz:Nat) (wL:Nat),ρ=upd (upd (upd (upd (upd xE 1 (pp dZ 0)) 4 (pp xz 0)) 5 (pp wL 0)) 11 (Sv (aa wN 0) qU qU)) 14 (yI qU)/\Fresh w.heap.size [jF]/\St w IA [.box wL [yN] 24,.box xz [yN] 135,rr (aa wN 0) qU qU 3 1 ((List.replicate qU (0:Int)).map (Value.int .i64)),.box dZ [Sv zJ zC zF,Sv zY qU zX] 46,.box t8 [Sv zJ zC zF,Sv zY qU zX] 46,rr zY qU zX 24 1 yE,rr zJ zC zF 31 3 jD,.box b3 (yT t xg xf xI xG qZ qY) 31,.box b1 (yS s qG qE qO qN) 27] [xy true jF yE ar,xy true yR jD ah,sF false xk qG qE s.qA,sF false xW qO qN s.qB,sF false zD xg xf t.qK,sF false vF xI xG t.qQ,sF false zh qZ qY t.qL]) 3 #[true,true,true,true,true,true,true,false,true,true,false,false] ?_ fun Oq=>?_
  ·rintro ρ akR ⟨xE,wN,xz,wL,rfl,N,H⟩
   refine vK [7,10] qh qm (jb rfl ?_ (jb rfl ?_ vM))
   ·refine zV H underlying24 ti2 qU rfl rfl qf qf qf fun lF Pu H=>⟨H.pick (zR 4 6) (zR 0 7),(ro 10 rfl (xH H 2 [Sv (aa wN 0) qU qU] sizeOf135 fun Nn H=>⟨H.pick (zR 4 6) (zR 0 7),(ro 11 rfl (xH H 1 [Sv (aa lF 0) qU qU] sizeOf24 fun Iv H=>⟨H.pick (zR 4 6) (zR 0 7),(xw qh ((meet ⟨_,xz,wL,lF,wN,uE3,N,H.pick (1::2::0::zR 3 7) (zR 0 7)⟩)))⟩))⟩))⟩
   refine xH H 1 [Sv (aa wN 0) qU qU] sizeOf135 fun Ja H=>⟨H.pick (zR 3 6) (zR 0 7),(ro 7 rfl (zV H underlying24 ti2 qU rfl rfl qf qf qf fun ss Wd H=>⟨H.pick (zR 4 6) (zR 0 7),(ro 11 rfl (xH H 1 [Sv (aa ss 0) qU qU] sizeOf24 fun Na H=>⟨H.pick (zR 4 6) (zR 0 7),(xw qh ((meet ⟨_,xz,wL,ss,wN,uE3,N,H.pick (1::2::0::zR 3 7) (zR 0 7)⟩)))⟩))⟩))⟩
  refine Qc (fun ρ M7=>∃ (xE:Env) (wP:Nat) (pG:Nat),ρ=upd (upd (upd xE 1 (pp dZ 0)) 11 (Sv (aa wP 0) qU qU)) 15 (Sv (aa pG 0) qU qU)/\Fresh w.heap.size [jF]/\St w M7 [rr (aa pG 0) qU qU 2 1 ((List.replicate qU (0:Int)).map (Value.int .i64)),rr (aa wP 0) qU qU 3 1 ((List.replicate qU (0:Int)).map (Value.int .i64)),.box dZ [Sv zJ zC zF,Sv zY qU zX] 46,.box t8 [Sv zJ zC zF,Sv zY qU zX] 46,rr zY qU zX 24 1 yE,rr zJ zC zF 31 3 jD,.box b3 (yT t xg xf xI xG qZ qY) 31,.box b1 (yS s qG qE qO qN) 27] [xy true jF yE ar,xy true yR jD ah,sF false xk qG qE s.qA,sF false xW qO qN s.qB,sF false zD xg xf t.qK,sF false vF xI xG t.qQ,sF false zh qZ qY t.qL]) 4 #[true,true,true,true,true,true,true,true,false,false,false,false] ?_ fun Su=>?_
  ·rintro ρ Iy ⟨xE,wP,pG,rfl,N,H⟩
   refine vK [8,9] qh qm (jb rfl ?_ (jb rfl ?_ vM))
   ·refine xq H ti135 [yN] fun aha Ke H=>⟨H.pick (zR 3 6) (zR 0 7),(ro 9 rfl (xq H ti24 [yN] fun af1 WU H=>⟨H.pick (zR 4 6) (zR 0 7),(ro 10 rfl (xH H 1 [Sv (aa wP 0) qU qU] sizeOf135 fun M1 H=>⟨H.pick (zR 4 6) (zR 0 7),(ro 11 rfl (xH H 0 [Sv (aa pG 0) qU qU] sizeOf24 fun Ip H=>⟨H.pick (zR 4 6) (zR 0 7),(xw qh ((meet ⟨_,aha,af1,pG,wP,uE3,N,H⟩)))⟩))⟩))⟩))⟩
   refine xq H ti24 [yN] fun DO GV H=>⟨H.pick (zR 3 6) (zR 0 7),(ro 8 rfl (xq H ti135 [yN] fun akG SK H=>⟨H.pick (zR 4 6) (zR 0 7),(ro 10 rfl (xH H 0 [Sv (aa wP 0) qU qU] sizeOf135 fun auP H=>⟨H.pick (zR 4 6) (zR 0 7),(ro 11 rfl (xH H 1 [Sv (aa pG 0) qU qU] sizeOf24 fun ah7 H=>⟨H.pick (zR 4 6) (zR 0 7),(xw qh ((meet ⟨_,akG,DO,pG,wP,uE3,N,H.pick (1::0::zR 2 8) (zR 0 7)⟩)))⟩))⟩))⟩))⟩
  refine Qc (fun ρ aaB=>∃ (xE:Env) (wX:Nat) (GT:Nat),ρ=upd (upd (upd (upd xE 1 (pp dZ 0)) 4 (pp GT 0)) 11 (Sv (aa wX 0) qU qU)) 14 (yI qU)/\Fresh w.heap.size [jF]/\St w aaB [.box GT [yN] 135,rr (aa wX 0) qU qU 3 1 ((List.replicate qU (0:Int)).map (Value.int .i64)),.box dZ [Sv zJ zC zF,Sv zY qU zX] 46,.box t8 [Sv zJ zC zF,Sv zY qU zX] 46,rr zY qU zX 24 1 yE,rr zJ zC zF 31 3 jD,.box b3 (yT t xg xf xI xG qZ qY) 31,.box b1 (yS s qG qE qO qN) 27] [xy true jF yE ar,xy true yR jD ah,sF false xk qG qE s.qA,sF false xW qO qN s.qB,sF false zD xg xf t.qK,sF false vF xI xG t.qQ,sF false zh qZ qY t.qL]) 4 #[true,true,true,true,true,true,true,false,true,false,false,false] ?_ fun ZM=>?_
  ·rintro ρ alV ⟨xE,wX,GT,rfl,N,H⟩
   refine vK [7,9] qh qm (jb rfl ?_ (jb rfl ?_ vM))
   ·refine zV H underlying24 ti2 qU rfl rfl qf qf qf fun acn ZF H=>⟨H.pick (zR 3 6) (zR 0 7),(ro 9 rfl (xq H ti24 [yN] fun alH amy H=>⟨H.pick (zR 4 6) (zR 0 7),(ro 10 rfl (xH H 2 [Sv (aa wX 0) qU qU] sizeOf135 fun O6 H=>⟨H.pick (zR 4 6) (zR 0 7),(ro 11 rfl (xH H 0 [Sv (aa acn 0) qU qU] sizeOf24 fun alN H=>⟨H.pick (zR 4 6) (zR 0 7),(xw qh (?_))⟩))⟩))⟩))⟩
    exact meet ⟨_,GT,alH,acn,wX,uE3,N,H.pick (0::2::1::zR 3 7) (zR 0 7)⟩
   refine xq H ti24 [yN] fun wZ aju H=>⟨H.pick (zR 3 6) (zR 0 7),(jS Oq ⟨_,wX,GT,wZ,uE5,N,H⟩)⟩
  refine Qc (fun ρ OA=>∃ (xE:Env) (si:Nat) (GH:Nat),ρ=upd (upd (upd (upd xE 1 (pp dZ 0)) 5 (pp GH 0)) 11 (Sv (aa si 0) qU qU)) 14 (yI qU)/\Fresh w.heap.size [jF]/\St w OA [.box GH [yN] 24,rr (aa si 0) qU qU 3 1 ((List.replicate qU (0:Int)).map (Value.int .i64)),.box dZ [Sv zJ zC zF,Sv zY qU zX] 46,.box t8 [Sv zJ zC zF,Sv zY qU zX] 46,rr zY qU zX 24 1 yE,rr zJ zC zF 31 3 jD,.box b3 (yT t xg xf xI xG qZ qY) 31,.box b1 (yS s qG qE qO qN) 27] [xy true jF yE ar,xy true yR jD ah,sF false xk qG qE s.qA,sF false xW qO qN s.qB,sF false zD xg xf t.qK,sF false vF xI xG t.qQ,sF false zh qZ qY t.qL]) 4 #[true,true,true,true,true,true,true,false,false,true,false,false] ?_ fun ade=>?_
  ·rintro ρ ajl ⟨xE,si,GH,rfl,N,H⟩
   refine vK [7,8] qh qm (jb rfl ?_ (jb rfl ?_ vM))
   ·refine zV H underlying24 ti2 qU rfl rfl qf qf qf fun Tx O1 H=>⟨H.pick (zR 3 6) (zR 0 7),(ro 8 rfl (xq H ti135 [yN] fun alI asN H=>⟨H.pick (zR 4 6) (zR 0 7),(ro 10 rfl (xH H 0 [Sv (aa si 0) qU qU] sizeOf135 fun I3 H=>⟨H.pick (zR 4 6) (zR 0 7),(ro 11 rfl (xH H 2 [Sv (aa Tx 0) qU qU] sizeOf24 fun act H=>⟨H.pick (zR 4 6) (zR 0 7),(xw qh (?_))⟩))⟩))⟩))⟩
    exact meet ⟨_,alI,GH,Tx,si,uE3,N,H.pick (2::0::1::zR 3 7) (zR 0 7)⟩
   refine xq H ti135 [yN] fun ahU WJ H=>⟨H.pick (zR 3 6) (zR 0 7),(jS Oq ⟨_,si,ahU,GH,uE5,N,H.pick (1::0::zR 2 7) (zR 0 7)⟩)⟩
  refine Qc (fun ρ abb=>∃ (xE:Env) (yd:Nat) (wA:Nat),ρ=upd (upd (upd (upd xE 1 (pp dZ 0)) 4 (pp wA 0)) 10 (yI qU)) 15 (Sv (aa yd 0) qU qU)/\Fresh w.heap.size [jF]/\St w abb [.box wA [yN] 135,rr (aa yd 0) qU qU 2 1 ((List.replicate qU (0:Int)).map (Value.int .i64)),.box dZ [Sv zJ zC zF,Sv zY qU zX] 46,.box t8 [Sv zJ zC zF,Sv zY qU zX] 46,rr zY qU zX 24 1 yE,rr zJ zC zF 31 3 jD,.box b3 (yT t xg xf xI xG qZ qY) 31,.box b1 (yS s qG qE qO qN) 27] [xy true jF yE ar,xy true yR jD ah,sF false xk qG qE s.qA,sF false xW qO qN s.qB,sF false zD xg xf t.qK,sF false vF xI xG t.qQ,sF false zh qZ qY t.qL]) 4 #[true,true,true,false,true,true,true,true,true,false,false,false] ?_ fun WI=>?_
  ·rintro ρ aaW ⟨xE,yd,wA,rfl,N,H⟩
   refine vK [3,9] qh qm (jb rfl ?_ (jb rfl ?_ vM))
   ·refine zV H underlying135 ti3 qU rfl rfl qf qf qf fun tO PG H=>⟨H.pick (zR 3 6) (zR 0 7),(ro 9 rfl (xq H ti24 [yN] fun Ev Ot H=>⟨H.pick (zR 4 6) (zR 0 7),(ro 10 rfl (xH H 2 [Sv (aa tO 0) qU qU] sizeOf135 fun OX H=>⟨H.pick (zR 4 6) (zR 0 7),(ro 11 rfl (xH H 0 [Sv (aa yd 0) qU qU] sizeOf24 fun Ud H=>⟨H.pick (zR 4 6) (zR 0 7),(xw qh (?_))⟩))⟩))⟩))⟩
    exact meet ⟨_,wA,Ev,yd,tO,uE3,N,H.pick (0::2::3::1::zR 4 6) (zR 0 7)⟩
   refine xq H ti24 [yN] fun Jt aj5 H=>⟨H.pick (zR 3 6) (zR 0 7),(ro 3 rfl (zV H underlying135 ti3 qU rfl rfl qf qf qf fun wM aiv H=>⟨H.pick (zR 4 6) (zR 0 7),(ro 10 rfl (xH H 2 [Sv (aa wM 0) qU qU] sizeOf135 fun asB H=>⟨H.pick (zR 4 6) (zR 0 7),(ro 11 rfl (xH H 1 [Sv (aa yd 0) qU qU] sizeOf24 fun aak H=>⟨H.pick (zR 4 6) (zR 0 7),(xw qh (?_))⟩))⟩))⟩))⟩
   exact meet ⟨_,wA,Jt,yd,wM,uE3,N,H.pick (1::2::3::0::zR 4 6) (zR 0 7)⟩
  refine Qc (fun ρ IK=>∃ (xE:Env) (tC:Nat) (Ea:Nat),ρ=upd (upd (upd (upd xE 1 (pp dZ 0)) 5 (pp Ea 0)) 10 (yI qU)) 15 (Sv (aa tC 0) qU qU)/\Fresh w.heap.size [jF]/\St w IK [.box Ea [yN] 24,rr (aa tC 0) qU qU 2 1 ((List.replicate qU (0:Int)).map (Value.int .i64)),.box dZ [Sv zJ zC zF,Sv zY qU zX] 46,.box t8 [Sv zJ zC zF,Sv zY qU zX] 46,rr zY qU zX 24 1 yE,rr zJ zC zF 31 3 jD,.box b3 (yT t xg xf xI xG qZ qY) 31,.box b1 (yS s qG qE qO qN) 27] [xy true jF yE ar,xy true yR jD ah,sF false xk qG qE s.qA,sF false xW qO qN s.qB,sF false zD xg xf t.qK,sF false vF xI xG t.qQ,sF false zh qZ qY t.qL]) 4 #[true,true,true,false,true,true,true,true,false,true,false,false] ?_ fun aaT=>?_
  ·rintro ρ asR ⟨xE,tC,Ea,rfl,N,H⟩
   refine vK [3,8] qh qm (jb rfl ?_ (jb rfl ?_ vM))
   ·refine zV H underlying135 ti3 qU rfl rfl qf qf qf fun Zu PD H=>⟨H.pick (zR 3 6) (zR 0 7),(ro 8 rfl (xq H ti135 [yN] fun akQ af2 H=>⟨H.pick (zR 4 6) (zR 0 7),(ro 10 rfl (xH H 0 [Sv (aa Zu 0) qU qU] sizeOf135 fun akS H=>⟨H.pick (zR 4 6) (zR 0 7),(ro 11 rfl (xH H 2 [Sv (aa tC 0) qU qU] sizeOf24 fun Px H=>⟨H.pick (zR 4 6) (zR 0 7),(xw qh (?_))⟩))⟩))⟩))⟩
    exact meet ⟨_,akQ,Ea,tC,Zu,uE3,N,H.pick (2::0::3::1::zR 4 6) (zR 0 7)⟩
   refine xq H ti135 [yN] fun afb aiT H=>⟨H.pick (zR 3 6) (zR 0 7),(ro 3 rfl (zV H underlying135 ti3 qU rfl rfl qf qf qf fun ZI awu H=>⟨H.pick (zR 4 6) (zR 0 7),(ro 10 rfl (xH H 1 [Sv (aa ZI 0) qU qU] sizeOf135 fun auf H=>⟨H.pick (zR 4 6) (zR 0 7),(ro 11 rfl (xH H 2 [Sv (aa tC 0) qU qU] sizeOf24 fun ayx H=>⟨H.pick (zR 4 6) (zR 0 7),(xw qh (?_))⟩))⟩))⟩))⟩
   exact meet ⟨_,afb,Ea,tC,ZI,uE3,N,H.pick (2::1::3::0::zR 4 6) (zR 0 7)⟩
  refine Qc (fun ρ OS=>∃ (xE:Env) (EL:Nat) (DC:Nat),ρ=upd (upd (upd (upd (upd xE 1 (pp dZ 0)) 4 (pp EL 0)) 5 (pp DC 0)) 10 (yI qU)) 14 (yI qU)/\Fresh w.heap.size [jF]/\St w OS [.box DC [yN] 24,.box EL [yN] 135,.box dZ [Sv zJ zC zF,Sv zY qU zX] 46,.box t8 [Sv zJ zC zF,Sv zY qU zX] 46,rr zY qU zX 24 1 yE,rr zJ zC zF 31 3 jD,.box b3 (yT t xg xf xI xG qZ qY) 31,.box b1 (yS s qG qE qO qN) 27] [xy true jF yE ar,xy true yR jD ah,sF false xk qG qE s.qA,sF false xW qO qN s.qB,sF false zD xg xf t.qK,sF false vF xI xG t.qQ,sF false zh qZ qY t.qL]) 4 #[true,true,true,false,true,true,true,false,true,true,false,false] ?_ fun Tw=>?_
  ·rintro ρ aiy ⟨xE,EL,DC,rfl,N,H⟩
   refine vK [3,7] qh qm (jb rfl ?_ (jb rfl ?_ vM))
   ·refine zV H underlying135 ti3 qU rfl rfl qf qf qf fun Ow akm H=>⟨H.pick (zR 3 6) (zR 0 7),(jS Oq ⟨_,Ow,EL,DC,uE5,N,H.pick (1::2::0::zR 3 6) (zR 0 7)⟩)⟩
   refine zV H underlying24 ti2 qU rfl rfl qf qf qf fun ack aiY H=>⟨H.pick (zR 3 6) (zR 0 7),(ro 3 rfl (zV H underlying135 ti3 qU rfl rfl qf qf qf fun uC aht H=>⟨H.pick (zR 4 6) (zR 0 7),(ro 10 rfl (xH H 3 [Sv (aa uC 0) qU qU] sizeOf135 fun aks H=>⟨H.pick (zR 4 6) (zR 0 7),(ro 11 rfl (xH H 2 [Sv (aa ack 0) qU qU] sizeOf24 fun E5 H=>⟨H.pick (zR 4 6) (zR 0 7),(xw qh (?_))⟩))⟩))⟩))⟩
   exact meet ⟨_,EL,DC,ack,uC,uE3,N,H.pick (2::3::1::0::zR 4 6) (zR 0 7)⟩
  refine tF 0 rfl rfl H ?_
  refine tL 1 rfl rfl (fun _ h=>h.cell 0 rfl rfl) H ?_
  refine tN 2 rfl rfl H ?_
  refine tF 4 rfl rfl H ?_
  refine tL 5 rfl rfl (fun _ h=>h.cell 0 rfl rfl) H ?_
  refine tN 6 rfl rfl H ?_
  refine vK [3,7,8,9] qh qm (jb rfl ?_ (jb rfl ?_ (jb rfl ?_ (jb rfl ?_ vM))))
  ·refine zV H underlying135 ti3 qU rfl rfl qf qf qf fun oK arc H=>⟨H.pick (zR 1 6) (zR 0 7),(vK [7,8,9] qh qm (jb rfl ?_ (jb rfl ?_ (jb rfl ?_ vM))))⟩
   ·refine zV H underlying24 ti2 qU rfl rfl qf qf qf fun ai7 afq H=>⟨H.pick (zR 2 6) (zR 0 7),(jS Su ⟨_,oK,ai7,uE3,N,H⟩)⟩
   ·refine xq H ti135 [yN] fun afZ akB H=>⟨H.pick (zR 2 6) (zR 0 7),(jS ZM ⟨_,oK,afZ,uE4,N,H⟩)⟩
   refine xq H ti24 [yN] fun afQ arx H=>⟨H.pick (zR 2 6) (zR 0 7),(jS ade ⟨_,oK,afQ,uE4,N,H⟩)⟩
  ·refine zV H underlying24 ti2 qU rfl rfl qf qf qf fun Oo acj H=>⟨H.pick (zR 1 6) (zR 0 7),(vK [3,8,9] qh qm (jb rfl ?_ (jb rfl ?_ (jb rfl ?_ vM))))⟩
   ·refine zV H underlying135 ti3 qU rfl rfl qf qf qf fun aeW atl H=>⟨H.pick (zR 2 6) (zR 0 7),(jS Su ⟨_,aeW,Oo,uE3,N,H.pick (1::0::zR 2 6) (zR 0 7)⟩)⟩
   ·refine xq H ti135 [yN] fun ahv ahD H=>⟨H.pick (zR 2 6) (zR 0 7),(jS WI ⟨_,Oo,ahv,uE4,N,H⟩)⟩
   refine xq H ti24 [yN] fun akM arL H=>⟨H.pick (zR 2 6) (zR 0 7),(jS aaT ⟨_,Oo,akM,uE4,N,H⟩)⟩
  ·refine xq H ti135 [yN] fun OR akI H=>⟨H.pick (zR 1 6) (zR 0 7),(vK [3,7,9] qh qm (jb rfl ?_ (jb rfl ?_ (jb rfl ?_ vM))))⟩
   ·refine zV H underlying135 ti3 qU rfl rfl qf qf qf fun alx aj4 H=>⟨H.pick (zR 2 6) (zR 0 7),(jS ZM ⟨_,alx,OR,uE4,N,H.pick (1::0::zR 2 6) (zR 0 7)⟩)⟩
   ·refine zV H underlying24 ti2 qU rfl rfl qf qf qf fun amf aiI H=>⟨H.pick (zR 2 6) (zR 0 7),(jS WI ⟨_,amf,OR,uE4,N,H.pick (1::0::zR 2 6) (zR 0 7)⟩)⟩
   refine xq H ti24 [yN] fun amB al7 H=>⟨H.pick (zR 2 6) (zR 0 7),(jS Tw ⟨_,OR,amB,uE5,N,H⟩)⟩
  refine xq H ti24 [yN] fun Pi azk H=>⟨H.pick (zR 1 6) (zR 0 7),(vK [3,7,8] qh qm (jb rfl ?_ (jb rfl ?_ (jb rfl ?_ vM))))⟩
  ·refine zV H underlying135 ti3 qU rfl rfl qf qf qf fun afW ayt H=>⟨H.pick (zR 2 6) (zR 0 7),(jS ade ⟨_,afW,Pi,uE4,N,H.pick (1::0::zR 2 6) (zR 0 7)⟩)⟩
  ·refine zV H underlying24 ti2 qU rfl rfl qf qf qf fun Of aig H=>⟨H.pick (zR 2 6) (zR 0 7),(jS aaT ⟨_,Of,Pi,uE4,N,H.pick (1::0::zR 2 6) (zR 0 7)⟩)⟩
  refine xq H ti135 [yN] fun ajD akb H=>⟨H.pick (zR 2 6) (zR 0 7),(jS Tw ⟨_,ajD,Pi,uE5,N,H.pick (1::0::zR 2 6) (zR 0 7)⟩)⟩
 clear H N
 rintro ρ Ta ⟨xE,sA,rS,we,lq,rfl,N,H⟩
 refine t_n (zcr (sw (xq H ti71 [.nilFunc] fun CY Sw H=>zjc (sp (.func (.func 111) #[] #[pp sA 0,pp dZ 0,pp CY 0,pp rS 0]) (sw (xH H 0 [.func (.func 111) #[] #[pp sA 0,pp dZ 0,pp CY 0,pp rS 0]] sizeOf71 fun aiV H=>zjc (oL rfl (H.cell 0 rfl rfl) ?_)))))))
 have H0:=H
 obtain ⟨sj,MQ,Uq,H⟩:=H.Ql (α:=yLI) 7 rfl 0 rfl qj
 replace N:Fresh w.heap.size [sj]:=Fresh.ice N H0 7 MQ.1 MQ.2 (H0.jA [])
 clear H0
 replace H:=H.unfreeI 0 rfl
 have TP:=H.isLen 0 rfl
 have rin:=ko.rowsIn qf qf
 have vi:=VisI.start ar
 rw [show ar.length=qU by omega] at vi
 have v00:(List.replicate qU (0:Int))[(0:Int).toNat]! =0:=repAt1 (show 0 < qU by omega)
 have H1:St w aiV [.box sA [Sv (aa lq 0) qU qU] 135,.box dZ [Sv zJ zC zF,Sv zY ar.length zX] 46,.box CY [.func (.func 111) #[] #[pp sA 0,pp dZ 0,pp CY 0,pp rS 0]] 71,.box rS [Sv (aa we 0) qU qU] 24,.row (Sv (aa lq 0) qU qU) 3 1 qU ((List.replicate qU (0:Int)).map (Value.int .i64)),.row (Sv (aa we 0) qU qU) 2 1 qU ((List.replicate qU (0:Int)).map (Value.int .i64)),.box t8 [Sv zJ zC zF,Sv zY qU zX] 46,.row yN 0 1 0 [],.row (Sv zJ zC zF) 31 3 zC jD,.box b3 (yT t xg xf xI xG qZ qY) 31,.box b1 (yS s qG qE qO qN) 27] [isF false sj (Sv zY ar.length zX) ar,isF false sj (Sv zY qU zX) ar,isF true sj (Sv zY qU zX) ar,xy true jF yE ar,xy true yR jD ah,isF false xk (Sv qG s.qA.length qE) s.qA,isF false xW (Sv qO s.qB.length qN) s.qB,isF false zD (Sv xg t.qK.length xf) t.qK,isF false vF (Sv xI t.qQ.length xG) t.qQ,isF false zh (Sv qZ t.qL.length qY) t.qL]:=by (rw [← TP]);exact H.pick [2,5,0,1,4,3,6,7,8,9,10] (0::zR 0 9)
 have N1:Fresh _ [sj]:=N
 have K1:Kept [] [isF false sj (Sv zY qU zX) ar,isF true sj (Sv zY qU zX) ar,xy true jF yE ar,xy true yR jD ah,sF false xk qG qE s.qA,sF false xW qO qN s.qB,sF false zD xg xf t.qK,sF false vF xI xG t.qQ,sF false zh qZ qY t.qL]:=Kept.nil _
 replace K1:=K1.cons (F:=sj) 0 rfl rfl
 refine sw (zL #[yI 0,pp sA 0,pp dZ 0,pp CY 0,pp rS 0] rfl rfl call111 (VG (by rfl) (visit_ok 300 (0:Int) (List.replicate qU (0:Int)) (List.replicate qU (0:Int)) ar zJ zC zF zY zX sj sA dZ CY rS (aa lq 0) qU qU (aa we 0) qU qU H1 N1 K1 (by assumption) (by exact ⟨by omega,by omega⟩) ql ql (by exact fun j hj=>(rep0 hj).elim) (by exact rep_cnt qf))) ?_)
 clear H H1 N1 K1
 rintro _ akN ⟨anw,GM,amP,apA,apE,rfl,N,H⟩
 refine sp (Bv (dec (Halts ar (0:Int).toNat))) (zjc (oL rfl (H.cell 3 rfl rfl) (oI rfl rfl (oL rfl (H.QJ 5 rfl (iv:=0) (i:=0) qf qf) (sp (Bv (dec (Halts ar (0:Int).toNat))) (sq 1 (sp (Bv (dec (Halts ar (0:Int).toNat))) (zjr (ret2 (yI (GM[0]!)) (Bv (dec (Halts ar (0:Int).toNat))) rfl rfl rfl ⟨_,rfl,?_⟩)))))))))
 replace H:=H.erases [7,5,4,3,2,1,0]
 dsimp only [vz,List.eraseIdx] at H
 refine sp (.tuple #[yI (GM[0]!),Bv (dec (Halts ar (0:Int).toNat))]) (sq 1 (sp (Bv (dec (Halts ar (0:Int).toNat))) (sq 1 (sp (Bv (dec (Halts ar (0:Int).toNat))) (zjcc (sp (Bv (dec (Halts ar (0:Int).toNat))) (sp (Bv (!(dec (Halts ar (0:Int).toNat)))) (zjn (cQ rfl (fun NH=>?_) (fun NH=>?_))))))))))
 ·refine zcr (sp (yI 0) (sp (yI 4) (zjr (t_r (ret2 (yI 0) (yI 4) rfl rfl rfl ⟨_,rfl,?_,H.base⟩)))))
  rw [lr_n k0 (kr.trans (gr_end qf)) ‹_›]
 refine qV (t_n (zcr (sq 2 (sp (yI 0) (zjr (ret2 (yI (GM[0]!)) (yI 0) rfl rfl rfl ⟨_,rfl,?_,H.base⟩))))))
 rw [lr_y k0 (kr.trans (gr_end qf)) ((‹Halts ar _->VisEnd ar _ _ _ _ _› ‹Halts ar _›).vi.fi 0 qf (‹Halts ar _->VisEnd ar _ _ _ _ _› ‹Halts ar _›).me)]
end
section
instance:qW UInt8 where
 size:=1
 rep:=fun _ F cs x=>F=[]/\cs=[.int .u8 (x.toNat:Int)]
 len:=by rintro w F cs x ⟨_,rfl⟩;rfl
 one:=by rintro w F cs x ⟨_,rfl⟩ u hu;simp only [List.mem_singleton] at hu;subst hu;rfl
 stay:=by rintro w w' F cs x h _;exact h
 lt:=by rintro w F cs x ⟨rfl,_⟩ b hb;simp at hb
section
variable {P : Program} {io : Array Oper} {Q : Exit -> Act -> World -> Prop} {n : Nat} {ρ : Env} {W0 w : World} {ai : List Oper} {ps : List Prv} {Γ : List Fact}
 {d:Nat} {ty:TypeId} {pos:String} {af:Array Edge} {K:Env->World->Prop}
theorem St.elemByte (H:St W0 w ps Γ) (i:Nat) {o m:Nat} {l:List UInt8} (hf:Γ[i]? =some (isF fr F (Sv (some ⟨b,o,none⟩) m c) l)) (iv:Int) (k:Nat) (hk:iv.toNat=k) (h0:0<=iv) (h1:iv < l.length):
 w.cell? ⟨b,o+iv.toNat * 1,none⟩=some (.int .u8 (((l[k]!).toNat:Nat):Int)):=by
 obtain ⟨cs,Fk,hc,hr,_⟩:=H.elem i hf iv h0 h1
 rw [hk] at hr
 obtain ⟨_,rfl⟩:=hr
 have:=hc 0 _ rfl
 simpa [qW.size] using this
theorem byte_lt (x:UInt8):((x.toNat:Nat):Int)<=255:=by have:=x.toNat_lt;omega
theorem o_mulU [Dfr] (a b:Int) (hx:ev n ρ x=.int .u64 a) (hy:ev n ρ y=.int .u64 b) (k:∀ r,K (upd ρ d (.int .u64 r)) w):OW P Q ⟨some d,.binOp .mul t x y u,ty,pos,af,none⟩ n ρ w K:=
 XE (.int .u64 (IntKind.u64.wrap (a * b))) (by simp [execOp,hx,hy,eqGuard,binOp,Op.intArith]) (k _)
theorem o_addU [Dfr] (a b:Int) (hx:ev n ρ x=.int .u64 a) (hy:ev n ρ y=.int .u64 b) (k:∀ r,K (upd ρ d (.int .u64 r)) w):OW P Q ⟨some d,.binOp .add t x y u,ty,pos,af,none⟩ n ρ w K:=
 XE (.int .u64 (IntKind.u64.wrap (a+b))) (by simp [execOp,hx,hy,eqGuard,binOp,Op.intArith]) (k _)
theorem o_shrU [Dfr] (a b:Int) (h:0<=b) (hx:ev n ρ x=.int .u64 a) (hy:ev n ρ y=.int .u64 b) (k:∀ r,K (upd ρ d (.int .u64 r)) w):OW P Q ⟨some d,.binOp .shr t x y u,ty,pos,af,none⟩ n ρ w K:=
 XE (.int .u64 (a.fdiv (2 ^ (min b.toNat IntKind.u64.bits)))) (by simp [execOp,hx,hy,eqGuard,binOp,Op.shift,show ¬ b < 0 by omega]) (k _)
theorem and_bd (a:Int):0<=IntKind.u64.wrap ((BitVec.ofInt IntKind.u64.bits a &&& BitVec.ofInt IntKind.u64.bits 255).toNat:Int)/\IntKind.u64.wrap ((BitVec.ofInt IntKind.u64.bits a &&& BitVec.ofInt IntKind.u64.bits 255).toNat:Int)<=255:=by
 have b6:IntKind.u64.bits=64:=rfl
 have s6:IntKind.u64.signed=false:=rfl
 have h:(BitVec.ofInt IntKind.u64.bits a &&& BitVec.ofInt IntKind.u64.bits 255).toNat<=255:=by
  rw [BitVec.toNat_and]
  exact Nat.le_trans Nat.and_le_right qj
 generalize (BitVec.ofInt IntKind.u64.bits a &&& BitVec.ofInt IntKind.u64.bits 255).toNat=m at h ⊢
 simp only [IntKind.wrap,b6,s6,Bool.false_and,Bool.false_eq_true,if_false]
 omega
theorem o_andU [Dfr] (a:Int) (hx:ev n ρ x=.int .u64 a) (hy:ev n ρ y=.int .u64 255) (k:∀ r,0<=r/\r<=255->K (upd ρ d (.int .u64 r)) w):OW P Q ⟨some d,.binOp .and t x y u,ty,pos,af,none⟩ n ρ w K:=
 XE (.int .u64 (IntKind.u64.wrap ((BitVec.ofInt IntKind.u64.bits a &&& BitVec.ofInt IntKind.u64.bits 255).toNat:Int))) (by simp [execOp,hx,hy,eqGuard,binOp,Op.intBits]) (k _ (and_bd a))
theorem o_conv [Dfr] {s:TypeId} {ds:TypeDesc} {k k' :IntKind} (a:Int) (hs:P.underlying s=some ds) (ht:P.underlying t=some (.int k')) (hx:ev n ρ x=.int k a) (h:K (upd ρ d (.int k' (k'.wrap a))) w):
 OW P Q ⟨some d,.convert s t x,ty,pos,af,none⟩ n ρ w K:=
 XE _ (by simp [execOp,hx,convert,run_underlying hs,run_underlying ht,Conv.intToInt]) h
theorem o_convI [Dfr] {s:TypeId} {ds:TypeDesc} {k:IntKind} (a:Int) (hs:P.underlying s=some ds) (ht:P.underlying t=some (.int .i64)) (hx:ev n ρ x=.int k a) (h0:0<=a/\a<=255) (h:K (upd ρ d (.int .i64 a)) w):
 OW P Q ⟨some d,.convert s t x,ty,pos,af,none⟩ n ρ w K:=by
 refine o_conv a hs ht hx ?_
 rw [wrap_in qf]
 exact h
theorem o_convU [Dfr] {s:TypeId} {ds:TypeDesc} {k:IntKind} (a:Int) (hs:P.underlying s=some ds) (ht:P.underlying t=some (.int .u64)) (hx:ev n ρ x=.int k a) (h:∀ r,K (upd ρ d (.int .u64 r)) w):
 OW P Q ⟨some d,.convert s t x,ty,pos,af,none⟩ n ρ w K:=o_conv a hs ht hx (h _)
end
section
variable {P : Program} {n : Nat} {ρ : Env} {W0 w : World} {ps : List Prv} {Γ : List Fact}
theorem retCC {fn:Func} {R:Ending->World->Prop} {t u T U:Nat} {cs ds:List Value} {tb tc:TypeId} (H:St W0 w ps Γ) (i:Nat) (hp:ps[i]? =some (.box b cs tb)) (j:Nat) (hq:ps[j]? =some (.box c ds tc)) (hr:fn.results=#[.cell t T,.cell u U])
 (ha:∀ w,(isAgg T).run P w=.ok true w) (hs:∀ w,(Go.sizeOf T).run P w=.ok cs.length w) (ha' :∀ w,(isAgg U).run P w=.ok true w) (hs' :∀ w,(Go.sizeOf U).run P w=.ok ds.length w)
 (hv:ev n ρ (.tmp t)=.pointer (some ⟨b,0,none⟩)) (hx:ev n ρ (.tmp u)=.pointer (some ⟨c,0,none⟩)) (h:R (.returned (.tuple #[.agg cs.toArray,.agg ds.toArray])) w):bodyPost P fn R .ret (mk n ρ) w:=by
 have hl:=run_loadCells_list (P:=P) w ⟨b,0,none⟩ cs (fun j v hv=>by rw [Addr.add_mid];exact H.cells i hp j v hv)
 have KM :=run_loadCells_list (P:=P) w ⟨c,0,none⟩ ds (fun k v hv=>by rw [Addr.add_mid];exact H.cells j hq k v hv)
 have e:=congrFun (QA n ρ) (.tmp t)
 have e' :=congrFun (QA n ρ) (.tmp u)
 simp only [Act.eval,Array.getD_eq_getD_getElem?] at e e'
 rw [hv] at e
 rw [hx] at e'
 exact bodyPost_ret (v:=.tuple #[.agg cs.toArray,.agg ds.toArray]) (by simp [results,hr,e,e',asAddr,loadVar,ha,hs,hl,ha',hs',KM]) rfl h
end
end
section
def vT (kk M:Int) (l:yLI):Prop:=l.length=kk.toNat/\∀ j,j < l.length->0<=l[j]! /\l[j]! <=M
theorem vT.len (h:vT kk M l) (h0:0<=kk):(l.length:Int)=kk:=by have:=h.1;omega
theorem vT.zero (h0:0<=kk) (hM:0<=M):vT kk M (List.replicate kk.toNat 0):=⟨by simp,fun j hj=>by
 rw [getElem!_pos (List.replicate kk.toNat (0:Int)) j hj,List.getElem_replicate]
 omega⟩
theorem vT.mono (h:vT kk M l) (hM:M<=M'):vT kk M' l:=⟨h.1,fun j hj=>by have:=h.2 j hj;omega⟩
theorem vT.put {v:Int} (h:vT kk M l) (h0:0<=v/\v<=M):vT kk M (l.set i v):=⟨by rw [List.length_set];exact h.1,fun j hj=>by
 rw [List.length_set] at hj
 rw [getElem!_pos (l.set i v) j (by rw [List.length_set];exact hj),List.getElem_set]
 split
 ·exact h0
 ·have:=h.2 j hj
  rwa [getElem!_pos l j hj] at this⟩
theorem vT.up (h:vT kk M l) (hi:i < l.length) (hM:M+1<=M'):vT kk M' (l.set i (l[i]! +1)):=
 (h.mono (by omega:M<=M')).put (by have:=h.2 i hi;omega)
theorem vT.ok (h:vT kk M l) (hk:1<=kk/\kk<=8) (hM:M<=1000):vZ kk l:=
 ⟨⟨fun j hj=>by have:=h.2 j hj;omega,by have:=h.len qf;omega,by have:=h.len qf;omega⟩,h.len qf⟩
theorem vT.small (h:vT kk M l) (hk:1<=kk/\kk<=8) (hM:M<=1000):Small l:=vX (h.ok hk hM)
theorem sumTo_up {l:yLI} (h:∀ j,j < l.length->0<=l[j]!):∀ k,k<=l.length->0<=sumTo l k/\∀ i,i < k->l[i]! <=sumTo l k
 | 0,_=>⟨Int.le_refl _,fun i hi=>by omega⟩
 | k+1,hk=>by
  obtain ⟨h1,h2⟩:=sumTo_up h k qf
  have h3:=h k qf
  refine ⟨by simp only [sumTo];omega,fun i hi=>?_⟩
  simp only [sumTo]
  rcases Nat.lt_or_eq_of_le (Nat.le_of_lt_succ hi) with h4 | h4
  ·have:=h2 i h4;omega
  ·subst h4;omega
theorem vT.one (h:vT kk M l) (hk:1<=kk/\kk<=8) (hM:1<=M) (hs:QS l=0) (hi:i < l.length):QS (l.set i 1)≠0:=by
 have h1:=h.put (i:=i) (v:=1) qf
 have h2:=(sumTo_up (l:=l.set i 1) (fun j hj=>(h1.2 j hj).1) _ (Nat.le_refl _)).2 i (by rw [List.length_set];exact hi)
 rw [getElem!_pos (l.set i 1) i (by rw [List.length_set];exact hi),List.getElem_set_self] at h2
 show sumTo _ _≠0
 omega
def IntoDr (kk:Int) (par:yLI) (cell:Int) (l:List Xj) (c:Int):Prop:=
 ∀ j,j < l.length->(0<=(l[j]!).qI/\(l[j]!).qI < c)/\Lies par cell (l[j]!).qI/\vT kk 1 (l[j]!).Qa/\QS (l[j]!).Qa≠0/\(0 < j->(l[j - 1]!).qI < (l[j]!).qI)
theorem IntoDr.nil (kk:Int) (par:yLI) (cell c:Int):IntoDr kk par cell [] c:=fun j hj=>by simp at hj
theorem IntoDr.mono {par:yLI} {cell c c' :Int} {l:List Xj} (h:IntoDr kk par cell l c) (hc:c<=c'):IntoDr kk par cell l c' :=fun j hj=>by
 obtain ⟨h1,h2⟩:=h j hj
 exact ⟨by omega,h2⟩
theorem VA {α:Type} [Inhabited α] {l:List α} {x:α}:(l++[x])[j]! =if j < l.length then l[j]! else if j=l.length then x else default:=by
 by_cases h:j < l.length
 ·rw [if_pos h,getElem!_pos (l++[x]) j qy,getElem!_pos l j h,List.getElem_append_left h]
 ·rw [if_neg h]
  by_cases h2:j=l.length
  ·subst h2
   rw [if_pos rfl,getElem!_pos (l++[x]) l.length qm]
   simp
  ·rw [if_neg h2,getElem!_neg (l++[x]) j qy]
theorem IntoDr.snoc {par:yLI} {cell c:Int} {l:List Xj} {b:yLI} (h:IntoDr kk par cell l c) (hc:0<=c) (hl:Lies par cell c) (hb:vT kk 1 b) (hs:QS b≠0):IntoDr kk par cell (l++[⟨c,b⟩]) (c+1):=fun j hj=>by
 have rd :j < l.length\/j=l.length:=by simp at hj;omega
 rcases rd with rd | rd
 ·obtain ⟨h1,h2,h3,h4,h5⟩:=h j rd
  rw [VA,if_pos rd,VA,if_pos qf]
  exact ⟨by omega,h2,h3,h4,h5⟩
 ·subst rd
  rw [VA,if_neg qf,if_pos rfl]
  refine ⟨⟨hc,by show c < c+1;omega⟩,hl,hb,hs,fun h0=>?_⟩
  rw [VA,if_pos qf]
  exact (h (l.length - 1) qf).1.2
structure RuleDr (kk:Int) (par:yLI) (r:vS):Prop where
 cell:0<=r.qI/\r.qI < par.length
 rank:0<=r.jG/\r.jG<=2
 melts:¬ (r.vg=true/\r.qI=0)
 need:vT kk 2 r.zk/\QS r.zk≠0
 hav:vT kk 1 r.vk
 lack:vT kk 1 r.vw
 here:vT kk 2 r.zS
 out:vT kk 2 r.jX
 many:r.xe.length<=3
 into:IntoDr kk par r.qI r.xe par.length
theorem RuleDr.ok {s:qC} {r:vS} (h:RuleDr s.xK s.qA r) (hk:1<=s.xK/\s.xK<=8):RuleOk s r:=
 ⟨⟨h.cell.1,by have:=h.cell.2;omega⟩,by have:=h.rank;omega,h.melts,h.many,h.need.1.ok hk qf,h.hav.ok hk qf,h.lack.ok hk qf,h.here.ok hk qf,h.out.ok hk qf,h.need.2,
  fun j hj=>by
   obtain ⟨h1,h2,h3,h4,h5⟩:=h.into j hj
   exact ⟨⟨h1.1,by omega⟩,h2,h3.ok hk qf,h4,h5⟩⟩
theorem ruleDr_of {par:yLI} {cell rank:Int} {need hav lack here out:yLI} {into:List Xj} {melts:Bool} (h1:0<=cell/\cell < (par.length:Int)) (h2:0<=rank/\rank<=2) (h3:melts=true->cell≠0)
 (h4:vT kk 2 need/\QS need≠0) (h5:vT kk 1 hav) (h6:vT kk 1 lack) (h7:vT kk 2 here) (h8:vT kk 1 out) (h9:into.length<=3/\IntoDr kk par cell into par.length):RuleDr kk par ⟨cell,rank,need,hav,lack,here,out,into,melts⟩:=
 ⟨h1,h2,fun h=>h3 h.1 h.2,h4,h5,h6,h7,h8.mono qf,h9.1,h9.2⟩
def jq (kk:Int) (par:yLI) (l:List vS):Prop:=∀ j,j < l.length->RuleDr kk par (l[j]!)
theorem jq.nil (kk:Int) (par:yLI):jq kk par []:=fun j hj=>by simp at hj
theorem jq.snoc {par:yLI} {l:List vS} {r:vS} (h:jq kk par l) (hr:RuleDr kk par r):jq kk par (l++[r]):=fun j hj=>by
 rw [VA]
 by_cases h1:j < l.length
 ·rw [if_pos h1];exact h j h1
 ·rw [if_neg h1,if_pos (by simp at hj;omega)];exact hr
theorem jq.set {kk:Int} {par:yLI} {l:List vS} {r:vS} {i:Nat} (h:jq kk par l) (hr:RuleDr kk par r):jq kk par (l.set i r):=fun j hj=>by
 rw [List.length_set] at hj
 rw [getElem!_pos (l.set i r) j (by rw [List.length_set];exact hj),List.getElem_set]
 split
 ·exact hr
 ·have:=h j hj;rwa [getElem!_pos l j hj] at this
def ParDr (par:yLI):Prop:=1<=par.length/\par[0]! = -1/\∀ c,1<=c->c < par.length->0<=par[c]! /\par[c]! <=(c:Int) - 1
theorem ParDr.one:ParDr [-1]:=⟨by simp,rfl,fun c h1 h2=>by simp at h2;omega⟩
theorem ParDr.snoc {par:yLI} {v:Int} (h:ParDr par) (hv:0<=v/\v < par.length):ParDr (par++[v]):=by
 obtain ⟨h1,h2,h3⟩:=h
 refine ⟨by simp,by rw [VA,if_pos qf];exact h2,fun c hc hl=>?_⟩
 rw [VA]
 by_cases h4:c < par.length
 ·rw [if_pos h4];exact h3 c hc h4
 ·have h5:c=par.length:=by simp at hl;omega
  rw [if_neg h4,if_pos h5];omega
theorem frame_of {par:yLI} (h:ParDr par) (hk:1<=kk/\kk<=3) (hl:par.length<=3):jk ⟨kk,par,rules⟩:=
 ⟨⟨hk.1,by show kk<=8;omega⟩,⟨h.1,by show par.length<=6;omega⟩,h.2.1,h.2.2⟩
structure SysDr (kk:Int) (par:yLI) (rules:List vS):Prop where
 kinds:1<=kk/\kk<=3
 cells:1<=par.length/\par.length<=3
 skin:par[0]! = -1
 up:∀ c,1<=c->c < par.length->0<=par[c]! /\par[c]! <=(c:Int) - 1
 few:rules.length<=5
 rules:jq kk par rules
theorem sysDr_of {par:yLI} (h:ParDr par) (hk:1<=kk/\kk<=3) (hl:par.length<=3) (hr:rules.length<=5) (hd:jq kk par rules):SysDr kk par rules:=⟨hk,⟨h.1,hl⟩,h.2.1,h.2.2,hr,hd⟩
theorem SysDr.frame {par:yLI} (h:SysDr kk par rules):jk ⟨kk,par,rules⟩:=by
 have h1:=h.kinds
 have h2:=h.cells
 exact ⟨⟨h1.1,by show kk<=8;omega⟩,⟨h2.1,by show par.length<=6;omega⟩,h.skin,h.up⟩
theorem SysDr.ok {kk:Int} {par:yLI} {rules:List vS} (h:SysDr kk par rules):ve ⟨kk,par,rules⟩:=by
 have h1:=h.kinds
 have h3:=h.few
 refine ⟨h.frame,by show rules.length<=16;omega,fun j hj=>⟨(h.rules j hj).ok (s:=⟨kk,par,rules⟩) ⟨h1.1,by show kk<=8;omega⟩,?_⟩⟩
 have h4:=(ofCell_bd rules (rules[j]!).qI (j+1)).2
 have h5:j < rules.length:=hj
 show Vb rules (rules[j]!).qI (j+1)<=8
 omega
structure StDr (kk:Int) (n:Nat) (M:Int) (alive:List Bool) (bags:yLL) (around:yLI):Prop where
 la:alive.length=n
 lb:bags.length=n
 skin:alive[0]! =true
 around:vT kk 2 around
 bags:∀ c,c < bags.length->vT kk M (bags[c]!)/\(alive[c]! =false->QS (bags[c]!)<=0)
theorem StDr.ok {kk M:Int} {par:yLI} {rules:List vS} {alive:List Bool} {bags:yLL} {around:yLI} (h:StDr kk par.length M alive bags around) (hs:SysDr kk par rules) (hM:M<=1000):xZ ⟨kk,par,rules⟩ ⟨alive,bags,around⟩:=by
 have h1:=hs.kinds
 exact ⟨h.la,h.lb,h.skin,h.around.ok ⟨h1.1,by omega⟩ qf,fun c hc=>⟨(h.bags c hc).1.ok ⟨h1.1,by show kk<=8;omega⟩ hM,(h.bags c hc).2⟩⟩
theorem sum_zeros (n:Nat):QS (List.replicate n (0:Int))<=0:=by
 have:∀ k,k<=n->sumTo (List.replicate n (0:Int)) k=0:=fun k=>by
  induction k with
  | zero=>intro _;rfl
  | succ k ih=>
   intro hk
   rw [sumTo,ih qf,getElem!_pos (List.replicate n (0:Int)) k qy,List.getElem_replicate]
   rfl
 have h:=this (List.replicate n (0:Int)).length qm
 show sumTo _ _<=0
 omega
structure StTo (kk M:Int) (c:Nat) (alive:List Bool) (bags:yLL):Prop where
 la:alive.length=c
 lb:bags.length=c
 skin:0 < c->alive[0]! =true
 bags:∀ j,j < bags.length->vT kk M (bags[j]!)/\(alive[j]! =false->QS (bags[j]!)<=0)
theorem StTo.nil (kk M:Int):StTo kk M 0 [] []:=⟨rfl,rfl,fun h=>by omega,fun j hj=>by simp at hj⟩
theorem StTo.snoc {alive:List Bool} {bags:yLL} {a:Bool} {b:yLI} (h:StTo kk M c alive bags) (ha:c=0->a=true) (hb:vT kk M b) (hz:a=false->QS b<=0):StTo kk M (c+1) (alive++[a]) (bags++[b]):=by
 have la:=h.la
 have lb:=h.lb
 refine ⟨by simp [la],by simp [lb],fun _=>?_,fun j hj=>?_⟩
 ·rw [VA]
  by_cases h0:0 < c
  ·rw [if_pos qf];exact h.skin h0
  ·rw [if_neg qf,if_pos qf];exact ha qf
 ·rw [VA,VA]
  by_cases h1:j < c
  ·rw [if_pos qf,if_pos qf];exact h.bags j qf
  ·rw [if_neg qf,if_pos (by simp at hj;omega),if_neg qf,if_pos (by simp at hj;omega)];exact ⟨hb,hz⟩
end
section
theorem dNext_ok (ak:List UInt8) (ip:Int) (sd:Int) (bs:Nat) (ac:yOA) (cc:Nat) (Fc:yLN) (H:St W0 w ((.box bs [Sv ac ak.length cc,yI ip,.int .u64 sd] 115)::ps) ((sF false Fc ac cc ak)::Γ)) (N:Fresh W0.heap.size (Ns)) (K0:Kept Ns Γ) (q0:0<=ip/\ip<=100000):Calls Tryz.prog 89 #[pp bs 0] w (fun e w' =>∃ v,e=.returned v/\∃ (jx:Int) (uQ:Int) (v_:Int),(ip<=jx/\jx<=ip+1)/\(0<=v_/\v_<=255)/\v=yI v_/\Fresh W0.heap.size (Ns)/\St W0 w' ((.box bs [Sv ac ak.length cc,yI jx,.int .u64 uQ] 115)::ps) ((sF false Fc ac cc ak)::Γ)):=by
 refine en func89 ntmps89 ?_
 have aoo:=qM (H.get 0 rfl).1
 refine zcr (sp (yI 0) (zjc (sp (yI 0) (zjn (xQ (xQ (QT rfl H [0] [0] fun H=>?_)))))))
 have S:=H.jm [0] [0]
 refine rtl 0 S ?_
 refine rtl 1 S ?_
 refine tF 2 rfl rfl S ?_
 refine tL 3 rfl rfl (fun _ h=>h.cell 0 rfl rfl) S ?_
 refine rtl 4 S ?_
 refine rtl 5 S ?_
 refine tF 6 rfl rfl S ?_
 refine tL 7 rfl rfl (fun _ h=>h.cell 0 rfl rfl) S ?_
 refine tN 8 rfl rfl S ?_
 refine rtl 9 S ?_
 refine xw qh (t_n (cD rfl (fun h2=>?_) (fun h2=>?_)))
 ·refine QT rfl H [0] [0] fun H=>?_
  have S:=H.jm [0] [0]
  refine rtl 0 S ?_
  refine rtl 1 S ?_
  refine tF 2 rfl rfl S ?_
  refine tL 3 rfl rfl (fun _ h=>h.cell 0 rfl rfl) S ?_
  refine rtl 4 S ?_
  refine rtl 5 S ?_
  refine tF 6 rfl rfl S ?_
  refine tL 7 rfl rfl (fun _ h=>h.cell 0 rfl rfl) S ?_
  obtain ⟨b4,o5,rfl⟩:=H.addr 0 rfl qf
  refine tI 8 rfl rfl rfl (H.pick [0] [0]) (ro 9 rfl ?_)
  have hb7:=byte_lt (ak[ip.toNat]!)
  refine x9 (.int .u8 (((ak[ip.toNat]!).toNat:Nat):Int)) isAgg5 rfl (H.elemByte 0 rfl ip ip.toNat qf qf qf) (⟨H.pick [0] [0],(ro 10 rfl (o_convI (((ak[ip.toNat]!).toNat:Nat):Int) underlying5 underlying3 rfl qf (⟨H.pick [0] [0],(rtl 11 (H.pick [0] [0]) ?_)⟩)))⟩)
  refine xw qh (t_n (zcr (sq 2 (oF rfl (oL rfl (H.cell 0 rfl rfl) (sw (zn ip 1 rfl rfl qf (sq 1 (oF rfl (sw (xH H 0 [Sv (aa b4 o5) ak.length cc,yI (ip+1),.int .u64 sd] sizeOf3 fun w8 H=>?_)))))))))))
  dsimp only [List.set] at H
  refine zjc (sq 3 (oF rfl (oL rfl (H.cell 0 rfl rfl) (sw (o_mulU sd 6364136223846793005 rfl rfl fun r9=>sq 1 (sw (o_convU (((ak[ip.toNat]!).toNat:Nat):Int) underlying3 underlying113 rfl fun r10=>sw (o_addU r9 r10 rfl rfl fun r11=>sw (o_addU r11 1442695040888963407 rfl rfl fun r12=>sq 1 (oF rfl (sw (xH H 0 [Sv (aa b4 o5) ak.length cc,yI (ip+1),.int .u64 r12] sizeOf113 fun xV H=>?_))))))))))))
  dsimp only [List.set] at H
  refine zjn (xQ (xQ (QT rfl H [0] [0] fun H=>?_)))
  have S:=H.jm [0] [0]
  refine rtl 0 S ?_
  refine rtl 1 S ?_
  refine tF 2 rfl rfl S ?_
  refine tL 3 rfl rfl (fun _ h=>h.cell 0 rfl rfl) S ?_
  refine rtl 4 S ?_
  refine rtl 5 S ?_
  refine tF 6 rfl rfl S ?_
  refine tL 7 rfl rfl (fun _ h=>h.cell 0 rfl rfl) S ?_
  refine tN 8 rfl rfl S ?_
  refine rtl 9 S ?_
  refine xw qh (t_n (cD rfl (fun kL=>?_) (fun kL=>?_)))
  ·refine zcr (sq 2 (zjr (t_r (ret1 (yI (((ak[ip.toNat]!).toNat:Nat):Int)) rfl rfl ⟨_,rfl,(⟨ip+1,r12,(((ak[ip.toNat]!).toNat:Nat):Int),qf,qf,rfl,N,H.zU 1 1 [0] [0] qo qo⟩)⟩))))
  refine qV (t_n (zcr (sq 2 (oF rfl (oL rfl (H.cell 0 rfl rfl) (sw (o_shrU r12 40 qj rfl rfl fun r16=>sw (o_andU r16 rfl rfl fun r17 aym=>sw (o_convI r17 underlying113 underlying2 rfl qf (sq 1 (zjr (ret1 (yI r17) rfl rfl ⟨_,rfl,(⟨ip+1,r12,r17,qf,qf,rfl,N,H.zU 1 1 [0] [0] qo qo⟩)⟩))))))))))))
 refine qV (t_n (zcr (sq 2 (oF rfl (oL rfl (H.cell 0 rfl rfl) (sw (zn ip 1 rfl rfl qf (sq 1 (oF rfl (sw (xH H 0 [Sv ac ak.length cc,yI (ip+1),.int .u64 sd] sizeOf3 fun Dn H=>?_)))))))))))
 dsimp only [List.set] at H
 refine zjc (sq 3 (oF rfl (oL rfl (H.cell 0 rfl rfl) (sw (o_mulU sd 6364136223846793005 rfl rfl fun r19=>sp (yI 0) (sw (o_convU 0 underlying3 underlying113 rfl fun r20=>sw (o_addU r19 r20 rfl rfl fun r21=>sw (o_addU r21 1442695040888963407 rfl rfl fun Rp=>sq 1 (oF rfl (sw (xH H 0 [Sv ac ak.length cc,yI (ip+1),.int .u64 Rp] sizeOf113 fun wT H=>?_))))))))))))
 dsimp only [List.set] at H
 refine zjn (xQ (xQ (QT rfl H [0] [0] fun H=>?_)))
 have S:=H.jm [0] [0]
 refine rtl 0 S ?_
 refine rtl 1 S ?_
 refine tF 2 rfl rfl S ?_
 refine tL 3 rfl rfl (fun _ h=>h.cell 0 rfl rfl) S ?_
 refine rtl 4 S ?_
 refine rtl 5 S ?_
 refine tF 6 rfl rfl S ?_
 refine tL 7 rfl rfl (fun _ h=>h.cell 0 rfl rfl) S ?_
 refine tN 8 rfl rfl S ?_
 refine rtl 9 S ?_
 refine xw qh (t_n (cD rfl (fun Cc=>?_) (fun Cc=>?_)))
 ·refine zcr (sp (yI 0) (sp (yI 0) (zjr (t_r (ret1 (yI 0) rfl rfl ⟨_,rfl,(⟨ip+1,Rp,0,qf,qf,rfl,N,H.zU 1 1 [0] [0] qo qo⟩)⟩)))))
 refine qV (t_n (zcr (sq 2 (oF rfl (oL rfl (H.cell 0 rfl rfl) (sw (o_shrU Rp 40 qj rfl rfl fun r26=>sw (o_andU r26 rfl rfl fun r27 ayp=>sw (o_convI r27 underlying113 underlying2 rfl qf (sq 1 (zjr (ret1 (yI r27) rfl rfl ⟨_,rfl,(⟨ip+1,Rp,r27,qf,qf,rfl,N,H.zU 1 1 [0] [0] qo qo⟩)⟩))))))))))))
theorem yM (ak:List UInt8) (ip:Int) (sd:Int) (bs:Nat) (ac:yOA) (cc:Nat) (Fc:yLN) (nn:Int) (H:St W0 w ((.box bs [Sv ac ak.length cc,yI ip,.int .u64 sd] 115)::ps) ((sF false Fc ac cc ak)::Γ)) (N:Fresh W0.heap.size (Ns)) (K0:Kept Ns Γ) (q0:0<=ip/\ip<=90000):Calls Tryz.prog 43 #[pp bs 0,yI nn] w (fun e w' =>∃ v,e=.returned v/\∃ (jx:Int) (uQ:Int) (v_:Int),(ip<=jx/\jx<=ip+2)/\(0<=v_/\(v_ < nn\/v_=0))/\v=yI v_/\Fresh W0.heap.size (Ns)/\St W0 w' ((.box bs [Sv ac ak.length cc,yI jx,.int .u64 uQ] 115)::ps) ((sF false Fc ac cc ak)::Γ)):=by
 refine en func43 ntmps43 ?_
 refine zcr (sp (yI 0) (zjcc (sp (yI nn) (sp (Bv (decide ((nn:Int)<=1))) (zjn (cD rfl (fun h1=>?_) (fun h1=>?_)))))))
 ·refine zcr (sp (yI 0) (zjr (t_r (ret1 (yI 0) rfl rfl ⟨_,rfl,(⟨ip,sd,0,qf,(by omega),rfl,N,H.zU 1 1 [0] [0] qo qo⟩)⟩))))
 refine qV (t_n (zcr (sq 1 ?_)))
 have H1:=H.yl 1 1 [0] [0] qo qo
 have N1:Fresh _ (Ns):=N
 have K1:Kept (Ns) (Γ):=K0.behind 0 rfl
 refine sw (zL #[pp bs 0] rfl rfl call89 (dNext_ok ak ip sd bs ac cc Fc H1 N1 K1 qg) ?_)
 clear H H1 N1 K1
 rintro _ w2 ⟨Nk,Eh,wn,hx4,hx5,rfl,N,H⟩
 refine sq 1 (zjcc (sp (yI nn) (sp (Bv (decide ((nn:Int) > 200))) (zjn (cD rfl (fun h9=>?_) (fun h9=>?_))))))
 ·refine xJ (sq 1 (sw (o_mul wn 256 rfl rfl qf (sq 1 ?_))))
  have H1:=H.yl 1 1 [0] [0] qo qo
  have N1:Fresh _ (Ns):=N
  have K1:Kept (Ns) (Γ):=K0.behind 0 rfl
  refine sw (zL #[pp bs 0] rfl rfl call89 (dNext_ok ak Nk Eh bs ac cc Fc H1 N1 K1 qg) ?_)
  clear H H1 N1 K1
  rintro _ nq ⟨aM,qu,fT,auo,aru,rfl,N,H⟩
  refine sw (zn (wn * 256) fT rfl rfl qf (sq 1 (zjc (sq 1 (sp (yI nn) (sw (o_rem ((wn * 256)+fT) nn rfl rfl qf qf qf (sq 1 (zjr (ret1 (yI (((wn * 256)+fT) % nn)) rfl rfl ⟨_,rfl,?_⟩))))))))))
  have hm:=fun (x:Int)=>Int.emod_nonneg x (show nn≠0 by omega)
  have hm2:=fun (x:Int)=>Int.emod_lt_of_pos x (show 0 < nn by omega)
  exact ⟨aM,qu,((wn * 256)+fT) % nn,qf,(by exact ⟨hm _,.inl (hm2 _)⟩),rfl,N,H.zU 1 1 [0] [0] qo qo⟩
 refine qV (t_n (zcr (sq 1 (sp (yI nn) (sw (o_rem wn nn rfl rfl qf qf qf (sq 1 (zjr (ret1 (yI (wn % nn)) rfl rfl ⟨_,rfl,?_⟩)))))))))
 have hm:=fun (x:Int)=>Int.emod_nonneg x (show nn≠0 by omega)
 have hm2:=fun (x:Int)=>Int.emod_lt_of_pos x (show 0 < nn by omega)
 exact ⟨Nk,Eh,wn % nn,qf,(by exact ⟨hm _,.inl (hm2 _)⟩),rfl,N,H.zU 1 1 [0] [0] qo qo⟩
theorem Vg (ak:List UInt8) (ip:Int) (sd:Int) (bs:Nat) (ac:yOA) (cc:Nat) (Fc:yLN) (nn:Int) (H:St W0 w ((.box bs [Sv ac ak.length cc,yI ip,.int .u64 sd] 115)::ps) ((sF false Fc ac cc ak)::Γ)) (N:Fresh W0.heap.size (Ns)) (K0:Kept Ns Γ) (q0:0<=ip/\ip<=90000):Calls Tryz.prog 41 #[pp bs 0,yI nn] w (fun e w' =>∃ v,e=.returned v/\∃ (jx:Int) (uQ:Int) (v_:Bool),(ip<=jx/\jx<=ip+2)/\v=Bv v_/\Fresh W0.heap.size (Ns)/\St W0 w' ((.box bs [Sv ac ak.length cc,yI jx,.int .u64 uQ] 115)::ps) ((sF false Fc ac cc ak)::Γ)):=by
 refine en func41 ntmps41 ?_
 refine zcr (sp (Bv false) (zjc (sq 1 (sp (yI nn) ?_))))
 have H1:=H.yl 1 1 [0] [0] qo qo
 have N1:Fresh _ (Ns):=N
 have K1:Kept (Ns) (Γ):=K0.behind 0 rfl
 refine sw (zL #[pp bs 0,yI nn] rfl rfl call43 (yM ak ip sd bs ac cc Fc nn H1 N1 K1 qg) ?_)
 clear H H1 N1 K1
 rintro _ w1 ⟨Hx,Nk,Eh,hx3,hx4,rfl,N,H⟩
 refine sp (Bv ((Eh:Int) == 0)) (sp (Bv ((Eh:Int) == 0)) (zjr (ret1 (Bv ((Eh:Int) == 0)) rfl rfl ⟨_,rfl,(⟨Hx,Nk,(Eh:Int) == 0,qf,rfl,N,H.zU 1 1 [0] [0] qo qo⟩)⟩)))
theorem dFew_ok (ak:List UInt8) (ip:Int) (sd:Int) (bs:Nat) (ac:yOA) (cc:Nat) (Fc:yLN) (kk:Int) (most:Int) (H:St W0 w ((.box bs [Sv ac ak.length cc,yI ip,.int .u64 sd] 115)::ps) ((sF false Fc ac cc ak)::Γ)) (N:Fresh W0.heap.size (Ns)) (K0:Kept Ns Γ) (q0:0<=ip/\ip<=80000) (q1:1<=kk/\kk<=8) (q2:1<=most/\most<=6):Calls Tryz.prog 141 #[pp bs 0,yI kk,yI most] w (fun e w' =>∃ v,e=.returned v/\∃ (jx:Int) (uQ:Int) (uk:yLI) (rao:yOA) (U5:Nat) (rco:Nat),(ip<=jx/\jx<=ip+20)/\(vT kk most uk)/\v=Sv rao U5 rco/\Fresh W0.heap.size (Ns)/\St W0 w' ((.box bs [Sv ac ak.length cc,yI jx,.int .u64 uQ] 115)::(rr rao U5 rco 2 1 (uk.map (Value.int .i64)))::ps) ((sF false Fc ac cc ak)::Γ)):=by
 refine en func141 ntmps141 ?_
 refine zcr (sq 1 (zjc (sp (yI kk) (sw (zV H underlying24 ti2 kk.toNat rfl rfl qf qf qf fun b1 w2 H=>sq 1 (zjcc (sq 2 (sw (zn most 1 rfl rfl qf ?_)))))))))
 have H1:=H.yl 2 1 [1,0] [0] qo qo
 have N1:Fresh _ (Ns):=N
 have K1:Kept (Ns) (Γ):=K0.behind 0 rfl
 refine sw (zL #[pp bs 0,yI (most+1)] rfl rfl call43 (yM ak ip sd bs ac cc Fc (most+1) H1 N1 K1 qg) ?_)
 clear H H1 N1 K1
 rintro _ w3 ⟨Eh,wn,lG,hx5,hx6,rfl,N,H⟩
 refine sq 1 (zjn (qR (zl ((fun Z0=>fun m' ρ nq=>∃ (xE:Env) (k:Int) (bw:Int) (aJ:Int) (out:yLI),ρ=upd (upd (upd (upd xE 0 (pp bs 0)) 1 (yI kk)) 7 (Sv (aa b1 0) kk.toNat kk.toNat)) 8 (yI k)/\(0<=k/\k<=most)/\(ip<=bw/\bw+2 * k<=ip+20)/\(vT kk (most - k) out)/\m' =k.toNat/\Fresh W0.heap.size (Ns)/\St W0 nq ((.box bs [Sv ac ak.length cc,yI bw,.int .u64 aJ] 115)::(rr (aa b1 0) kk.toNat kk.toNat 2 1 (out.map (Value.int .i64)))::ps) (Z0::Γ)) _) (lG.toNat) ⟨_,lG,Eh,wn,(List.replicate kk.toNat (0:Int)),uE4,qf,qf,(by exact vT.zero qf qf),rfl,N,H⟩ ?_)))
 clear H N
 rintro m' ρ nr ⟨xE,k,bw,aJ,out,rfl,i1,i2,i3,rfl,N,H⟩
 have bR:=H.jC 1 rfl
 have i4:=i3.len qf
 refine zcc (sp (yI k) (sp (Bv (decide ((k:Int) > 0))) (zjn (cD rfl (fun db=>?_) (fun db=>?_)))))
 ·refine qV (t_n (xQ (qR (xJ (sq 2 (sp (yI kk) ?_))))))
  have H1:=H.yl 2 1 [0,1] [0] qo qo
  have N1:Fresh _ (Ns):=N
  have K1:Kept (Ns) (Γ):=K0.behind 0 rfl
  refine sw (zL #[pp bs 0,yI kk] rfl rfl call43 (yM ak bw aJ bs ac cc Fc kk H1 N1 K1 qg) ?_)
  clear H H1 N1 K1
  rintro _ xV ⟨wJ,ave,vc,axj,atM,rfl,N,H⟩
  have i5:=i3.2 vc.toNat qf
  refine oI rfl rfl (oL rfl (H.QJ 1 rfl (iv:=vc) (i:=vc.toNat) qf qf) (sw (zn (out[vc.toNat]!) 1 rfl rfl qf (oI rfl rfl (sw (y5 H 1 rfl ((out[vc.toNat]!)+1) sizeOf2 rfl rfl (i:=vc.toNat) qf qf fun rO H=>?_))))))
  dsimp only [List.set] at H
  refine xO (b_n (t_n (xJ (sp (yI k) (sw (o_sub k 1 rfl rfl qf (sq 1 (xO (qX (m' :=(k - 1).toNat) qf ⟨_,_,_,_,_,uE4,?_,?_,?_,rfl,N,H⟩)))))))))
  ·omega
  ·omega
  ·exact i3.up qf qf
 refine zx4 (zcr (sq 2 (zjr (ret1 (Sv (aa b1 0) kk.toNat kk.toNat) rfl rfl ⟨_,rfl,(⟨bw,aJ,out,(aa b1 0),kk.toNat,kk.toNat,qf,(by rw [show most=most - k by omega];exact i3),rfl,N,H.zU 2 1 [0,1] [0] qo qo⟩)⟩))))
theorem Q3 (ak:List UInt8) (ip:Int) (sd:Int) (bs:Nat) (ac:yOA) (cc:Nat) (Fc:yLN) (kk:Int) (most:Int) (H:St W0 w ((.box bs [Sv ac ak.length cc,yI ip,.int .u64 sd] 115)::ps) ((sF false Fc ac cc ak)::Γ)) (N:Fresh W0.heap.size (Ns)) (K0:Kept Ns Γ) (q0:0<=ip/\ip<=70000) (q1:1<=kk/\kk<=8) (q2:1<=most/\most<=6):Calls Tryz.prog 183 #[pp bs 0,yI kk,yI most] w (fun e w' =>∃ v,e=.returned v/\∃ (jx:Int) (uQ:Int) (uk:yLI) (rao:yOA) (U5:Nat) (rco:Nat),(ip<=jx/\jx<=ip+24)/\(vT kk most uk/\QS uk≠0)/\v=Sv rao U5 rco/\Fresh W0.heap.size (Ns)/\St W0 w' ((.box bs [Sv ac ak.length cc,yI jx,.int .u64 uQ] 115)::(rr rao U5 rco 2 1 (uk.map (Value.int .i64)))::ps) ((sF false Fc ac cc ak)::Γ)):=by
 refine en func183 ntmps183 ?_
 refine zcr (sq 1 (zjc (sq 1 (sp (yI kk) (sq 1 ?_)))))
 have H1:=H.yl 1 1 [0] [0] qo qo
 have N1:Fresh _ (Ns):=N
 have K1:Kept (Ns) (Γ):=K0.behind 0 rfl
 refine sw (zL #[pp bs 0,yI kk,yI most] rfl rfl call141 (dFew_ok ak ip sd bs ac cc Fc kk most H1 N1 K1 qg qg qg) ?_)
 clear H H1 N1 K1
 rintro _ w1 ⟨Hx,Nk,Jk,kP,rn9,C3,hx3,hx4,rfl,N,H⟩
 obtain rfl:=H.jC 1 rfl
 have j1:=(‹vT kk most _›:vT kk most Jk)
 have j2:=j1.small q1 qf
 have j3:=j1.len qf
 refine sq 1 (zjcc (sq 1 ?_))
 obtain ⟨OL,agQ,ir⟩:=H.yH 1 rfl
 refine sw (oq (XY _ Jk ir (by assumption)) H fun Et H=>sp (Bv ((QS Jk:Int) == 0)) (zjn (cE rfl (fun GX=>?_) (fun GX=>?_))))
 ·refine xJ (sq 2 (sp (yI kk) ?_))
  have H1:=H.yl 2 1 [0,1] [0] qo qo
  have N1:Fresh _ (Ns):=N
  have K1:Kept (Ns) (Γ):=K0.behind 0 rfl
  refine sw (zL #[pp bs 0,yI kk] rfl rfl call43 (yM ak Hx Nk bs ac cc Fc kk H1 N1 K1 qg) ?_)
  clear H H1 N1 K1
  rintro _ HF ⟨J4,ajE,wE,atz,awv,rfl,N,H⟩
  obtain ⟨b24,rfl⟩:=H.jK 1 rfl qf
  refine oI rfl rfl (sw (y5 H 1 rfl 1 sizeOf2 rfl rfl (i:=wE.toNat) qf qf fun C5 H=>?_))
  dsimp only [List.set] at H
  refine zjc (sq 2 (zjr (ret1 (Sv (aa b24 0) Jk.length C3) rfl rfl ⟨_,rfl,(⟨J4,ajE,(Jk.set wE.toNat 1),(aa b24 0),Jk.length,C3,qf,(by exact ⟨j1.put qf,j1.one q1 qf ‹_› qf⟩),rfl,N,H.zU 2 1 [0,1] [0] qo qo⟩)⟩)))
 refine qV (t_n (zcr (sq 2 (zjr (ret1 (Sv kP Jk.length C3) rfl rfl ⟨_,rfl,(⟨Hx,Nk,Jk,kP,Jk.length,C3,qf,(by exact ⟨j1,by assumption⟩),rfl,N,H.zU 2 1 [0,1] [0] qo qo⟩)⟩)))))
theorem dRule_ok (ak:List UInt8) (ip:Int) (sd:Int) (bs:Nat) (ac:yOA) (cc:Nat) (Fc:yLN) (kk:Int) (par:yLI) (rules:List vS) (bY:Nat) (fg:yOA) (Iu:Nat) (fl:Nat) (fk:yOA) (Kb:Nat) (fm:Nat) (bD:List Value) (aF:yLN) (H:St W0 w ((.box bs [Sv ac ak.length cc,yI ip,.int .u64 sd] 115)::(.box bY [yI kk,Sv fg Iu fl,Sv fk Kb fm] 27)::(rr fg Iu fl 2 1 (par.map (Value.int .i64)))::(rr fk Kb fm 70 9 bD)::ps) ((sF false Fc ac cc ak)::(xy true aF bD rules)::Γ)) (N:Fresh W0.heap.size (aF::Ns)) (K0:Kept Ns Γ) (q0:0<=ip/\ip<=60000) (f0:jk (⟨kk,par,rules⟩:qC)):Calls Tryz.prog 140 #[pp bs 0,pp bY 0] w (fun e w' =>∃ v,e=.returned v/\∃ (jx:Int) (uQ:Int) (MK:Int) (Mj:Int) (Mz:yLI) (Lq:yLI) (Mm:yLI) (MD:yLI) (uk:yLI) (LF:List Xj) (Eg:Bool) (raN:yOA) (rnN:Nat) (rcN:Nat) (raH:yOA) (rnH:Nat) (rcH:Nat) (raL:yOA) (rnL:Nat) (rcL:Nat) (raE:yOA) (rnE:Nat) (rcE:Nat) (raO:yOA) (rnO:Nat) (rcO:Nat) (raI:yOA) (rnI:Nat) (rcI:Nat) (rxI:List Value) (rFI:yLN),(ip<=jx/\jx<=ip+300)/\(RuleDr kk par ⟨MK,Mj,Mz,Lq,Mm,MD,uk,LF,Eg⟩)/\v=.agg #[yI MK,yI Mj,Sv raN rnN rcN,Sv raH rnH rcH,Sv raL rnL rcL,Sv raE rnE rcE,Sv raO rnO rcO,Sv raI rnI rcI,Bv Eg]/\Fresh W0.heap.size (aF::rFI::Ns)/\St W0 w' ((.box bs [Sv ac ak.length cc,yI jx,.int .u64 uQ] 115)::(.box bY [yI kk,Sv fg Iu fl,Sv fk Kb fm] 27)::(rr fg Iu fl 2 1 (par.map (Value.int .i64)))::(rr fk Kb fm 70 9 bD)::(rr raN rnN rcN 2 1 (Mz.map (Value.int .i64)))::(rr raH rnH rcH 2 1 (Lq.map (Value.int .i64)))::(rr raL rnL rcL 2 1 (Mm.map (Value.int .i64)))::(rr raE rnE rcE 2 1 (MD.map (Value.int .i64)))::(rr raO rnO rcO 2 1 (uk.map (Value.int .i64)))::(rr raI rnI rcI 128 2 rxI)::ps) ((sF false Fc ac cc ak)::(xy true aF bD rules)::(xy true rFI rxI LF)::Γ)):=by
 refine en func140 ntmps140 ?_
 obtain rfl:=H.jC 2 rfl
 obtain rfl:=H.zg (α:=vS) 3 rfl 1 rfl qj
 have f1:1<=kk/\kk<=8:=f0.1
 have f2:1<=par.length/\par.length<=6:=f0.2.1
 refine zcr (sw (xq H ti70 [yI 0,yI 0,yN,yN,yN,yN,yN,yN,Bv false] fun b1 w2 H=>zjc (sq 2 (oF rfl (oL rfl (H.cell 2 rfl rfl) (oN rfl (sq 1 (zjn (xQ (VP (fun ρ xV=>∃ (xE:Env) (Ua:Int) (kz:Int) (Hx:Int) (hX:yLI) (b7:Nat) (kP:yOA) (mv:Nat) (np:Nat) (ls:Nat) (FZ:Int),ρ=upd (upd (upd (upd (upd xE 0 (pp bs 0)) 1 (pp bY 0)) 4 (pp b1 0)) 5 (yI par.length)) 6 (pp b7 0)/\(ip<=Ua/\Ua<=ip+2)/\(0<=kz/\(kz < par.length\/kz=0))/\(Ua<=Hx/\Hx<=Ua+24)/\(vT kk (2:Int) hX/\QS hX≠0)/\Fresh W0.heap.size (aF::Ns)/\St W0 xV ((.box b7 [yI kz,yI 0,Sv kP hX.length mv,Sv (aa np 0) kk.toNat kk.toNat,Sv (aa ls 0) kk.toNat kk.toNat,yN,yN,yN,Bv false] 70)::(rr (aa ls 0) kk.toNat kk.toNat 2 1 ((List.replicate kk.toNat (0:Int)).map (Value.int .i64)))::(rr (aa np 0) kk.toNat kk.toNat 2 1 ((List.replicate kk.toNat (0:Int)).map (Value.int .i64)))::(.box bs [Sv ac ak.length cc,yI Hx,.int .u64 FZ] 115)::(rr kP hX.length mv 2 1 (hX.map (Value.int .i64)))::(.box b1 [yI 0,yI 0,yN,yN,yN,yN,yN,yN,Bv false] 70)::(.box bY [yI kk,Sv fg par.length fl,Sv fk rules.length fm] 27)::(rr fg par.length fl 2 1 (par.map (Value.int .i64)))::(rr fk rules.length fm 70 9 bD)::ps) ((sF false Fc ac cc ak)::(xy true aF bD rules)::Γ)) ?_ ?_))))))))))
 ·refine QT rfl H [0,2,3,4] [0,1] fun H=>?_
  refine Qc (fun ρ C5=>∃ (xE:Env) (qu:Int) (fT:Int) (wJ:Int) (mn:yLI) (rZ:yOA) (cW:Nat) (sg:Nat) (fH:Nat) (wE:Int),ρ=upd (upd (upd (upd (upd (upd (upd (upd xE 0 (pp bs 0)) 1 (pp bY 0)) 4 (pp b1 0)) 5 (yI par.length)) 15 (yI fT)) 21 (Sv rZ mn.length cW)) 26 (Sv (aa sg 0) kk.toNat kk.toNat)) 31 (Sv (aa fH 0) kk.toNat kk.toNat)/\(ip<=qu/\qu<=ip+2)/\(0<=fT/\(fT < par.length\/fT=0))/\(qu<=wJ/\wJ<=qu+24)/\(vT kk (2:Int) mn/\QS mn≠0)/\Fresh W0.heap.size (aF::Ns)/\St W0 C5 ((rr (aa fH 0) kk.toNat kk.toNat 2 1 ((List.replicate kk.toNat (0:Int)).map (Value.int .i64)))::(rr (aa sg 0) kk.toNat kk.toNat 2 1 ((List.replicate kk.toNat (0:Int)).map (Value.int .i64)))::(.box bs [Sv ac ak.length cc,yI wJ,.int .u64 wE] 115)::(rr rZ mn.length cW 2 1 (mn.map (Value.int .i64)))::(.box b1 [yI 0,yI 0,yN,yN,yN,yN,yN,yN,Bv false] 70)::(.box bY [yI kk,Sv fg par.length fl,Sv fk rules.length fm] 27)::(rr fg par.length fl 2 1 (par.map (Value.int .i64)))::(rr fk rules.length fm 70 9 bD)::ps) ((sF false Fc ac cc ak)::(xy true aF bD rules)::Γ)) 3 #[true,true,true,true,true,true,true,true,true,true,true,true,true,true,true,true,true,true,true,false,false,false] ?_ fun L24=>?_
  ·rintro ρ HK ⟨xE,qu,fT,wJ,mn,rZ,cW,sg,fH,wE,rfl,ZO,WZ,TJ,G3,N,H⟩
   refine vK [19,20] qh qm (jb rfl ?_ (jb rfl ?_ vM))
   ·refine vU [yI fT,yI 0,Sv rZ mn.length cW,Sv (aa sg 0) kk.toNat kk.toNat,Sv (aa fH 0) kk.toNat kk.toNat,yN,yN,yN,Bv false] [(0,yI fT),(2,Sv rZ mn.length cW),(3,Sv (aa sg 0) kk.toNat kk.toNat),(4,Sv (aa fH 0) kk.toNat kk.toNat)] (⟨H.pick (zR 4 4) [0,1],(ro 20 rfl (xq H ti70 [yI 0,yI 0,yN,yN,yN,yN,yN,yN,Bv false] fun vl Dc H=>⟨H.pick (zR 5 4) [0,1],(ro 21 rfl ?_)⟩))⟩)
    refine xY H 0 [yI fT,yI 0,Sv rZ mn.length cW,Sv (aa sg 0) kk.toNat kk.toNat,Sv (aa fH 0) kk.toNat kk.toNat,yN,yN,yN,Bv false] sizeOf70 fun CC H=>?_
    dsimp only [List.set] at H
    refine ⟨H.pick (zR 5 4) [0,1],(xw qh ((meet ⟨_,qu,fT,wJ,mn,vl,rZ,cW,sg,fH,wE,uE5,ZO,WZ,TJ,G3,N,H⟩)))⟩
   refine xq H ti70 [yI 0,yI 0,yN,yN,yN,yN,yN,yN,Bv false] fun vr Dr H=>⟨H.pick (zR 5 4) [0,1],(ro 19 rfl (vU [yI fT,yI 0,Sv rZ mn.length cW,Sv (aa sg 0) kk.toNat kk.toNat,Sv (aa fH 0) kk.toNat kk.toNat,yN,yN,yN,Bv false] [(0,yI fT),(2,Sv rZ mn.length cW),(3,Sv (aa sg 0) kk.toNat kk.toNat),(4,Sv (aa fH 0) kk.toNat kk.toNat)] (⟨H.pick (zR 5 4) [0,1],(ro 21 rfl ?_)⟩)))⟩
   refine xY H 0 [yI fT,yI 0,Sv rZ mn.length cW,Sv (aa sg 0) kk.toNat kk.toNat,Sv (aa fH 0) kk.toNat kk.toNat,yN,yN,yN,Bv false] sizeOf70 fun Ks H=>?_
   dsimp only [List.set] at H
   refine ⟨H.pick (zR 5 4) [0,1],(xw qh ((meet ⟨_,qu,fT,wJ,mn,vr,rZ,cW,sg,fH,wE,uE5,ZO,WZ,TJ,G3,N,H⟩)))⟩
  refine Qc (fun ρ C1=>∃ (xE:Env) (uA:Int) (nQ:Int) (B7:Int) (pL:yLI) (va:yOA) (vj:Nat) (DG:Nat) (Jw:Int),ρ=upd (upd (upd (upd (upd (upd (upd (upd xE 0 (pp bs 0)) 1 (pp bY 0)) 4 (pp b1 0)) 5 (yI par.length)) 15 (yI nQ)) 21 (Sv va pL.length vj)) 26 (Sv (aa DG 0) kk.toNat kk.toNat)) 30 (yI kk)/\(ip<=uA/\uA<=ip+2)/\(0<=nQ/\(nQ < par.length\/nQ=0))/\(uA<=B7/\B7<=uA+24)/\(vT kk (2:Int) pL/\QS pL≠0)/\Fresh W0.heap.size (aF::Ns)/\St W0 C1 ((rr (aa DG 0) kk.toNat kk.toNat 2 1 ((List.replicate kk.toNat (0:Int)).map (Value.int .i64)))::(.box bs [Sv ac ak.length cc,yI B7,.int .u64 Jw] 115)::(rr va pL.length vj 2 1 (pL.map (Value.int .i64)))::(.box b1 [yI 0,yI 0,yN,yN,yN,yN,yN,yN,Bv false] 70)::(.box bY [yI kk,Sv fg par.length fl,Sv fk rules.length fm] 27)::(rr fg par.length fl 2 1 (par.map (Value.int .i64)))::(rr fk rules.length fm 70 9 bD)::ps) ((sF false Fc ac cc ak)::(xy true aF bD rules)::Γ)) 4 #[true,true,true,true,true,true,true,true,true,true,true,true,true,true,true,true,true,true,false,false,false,false] ?_ fun L45=>?_
  ·rintro ρ Ng ⟨xE,uA,nQ,B7,pL,va,vj,DG,Jw,rfl,B2,Wg,Vn,GC,N,H⟩
   refine vK [18,20] qh qm (jb rfl ?_ (jb rfl ?_ vM))
   ·refine zV H underlying24 ti2 kk.toNat rfl rfl qf qf qf fun PK Hi H=>⟨H.pick (zR 4 4) [0,1],(jS L24 ⟨_,uA,nQ,B7,pL,va,vj,DG,PK,Jw,uE8,B2,Wg,Vn,GC,N,H⟩)⟩
   refine xq H ti70 [yI 0,yI 0,yN,yN,yN,yN,yN,yN,Bv false] fun b54 Hz H=>⟨H.pick (zR 4 4) [0,1],(ro 18 rfl (zV H underlying24 ti2 kk.toNat rfl rfl qf qf qf fun R2 PZ H=>⟨H.pick (zR 5 4) [0,1],(ro 19 rfl ?_)⟩))⟩
   refine vU [yI nQ,yI 0,Sv va pL.length vj,Sv (aa DG 0) kk.toNat kk.toNat,Sv (aa R2 0) kk.toNat kk.toNat,yN,yN,yN,Bv false] [(0,yI nQ),(2,Sv va pL.length vj),(3,Sv (aa DG 0) kk.toNat kk.toNat),(4,Sv (aa R2 0) kk.toNat kk.toNat)] (⟨H.pick (zR 5 4) [0,1],(ro 21 rfl ?_)⟩)
   refine xY H 1 [yI nQ,yI 0,Sv va pL.length vj,Sv (aa DG 0) kk.toNat kk.toNat,Sv (aa R2 0) kk.toNat kk.toNat,yN,yN,yN,Bv false] sizeOf70 fun Jp H=>?_
   dsimp only [List.set] at H
   refine ⟨H.pick (zR 5 4) [0,1],(xw qh ((meet ⟨_,uA,nQ,B7,pL,b54,va,vj,DG,R2,Jw,uE5,B2,Wg,Vn,GC,N,H.zU 9 2 (1::0::zR 2 7) [0,1] qo qo⟩)))⟩
  refine Qc (fun ρ Rr=>∃ (xE:Env) (xi:Int) (su:Int) (Cz:Int) (pC:yLI) (uX:yOA) (uO:Nat) (AE:Nat) (xl:Int),ρ=upd (upd (upd (upd (upd (upd (upd (upd xE 0 (pp bs 0)) 1 (pp bY 0)) 4 (pp b1 0)) 5 (yI par.length)) 15 (yI su)) 21 (Sv uX pC.length uO)) 25 (yI kk)) 31 (Sv (aa AE 0) kk.toNat kk.toNat)/\(ip<=xi/\xi<=ip+2)/\(0<=su/\(su < par.length\/su=0))/\(xi<=Cz/\Cz<=xi+24)/\(vT kk (2:Int) pC/\QS pC≠0)/\Fresh W0.heap.size (aF::Ns)/\St W0 Rr ((rr (aa AE 0) kk.toNat kk.toNat 2 1 ((List.replicate kk.toNat (0:Int)).map (Value.int .i64)))::(.box bs [Sv ac ak.length cc,yI Cz,.int .u64 xl] 115)::(rr uX pC.length uO 2 1 (pC.map (Value.int .i64)))::(.box b1 [yI 0,yI 0,yN,yN,yN,yN,yN,yN,Bv false] 70)::(.box bY [yI kk,Sv fg par.length fl,Sv fk rules.length fm] 27)::(rr fg par.length fl 2 1 (par.map (Value.int .i64)))::(rr fk rules.length fm 70 9 bD)::ps) ((sF false Fc ac cc ak)::(xy true aF bD rules)::Γ)) 4 #[true,true,true,true,true,true,true,true,true,true,true,true,true,false,true,true,true,true,true,false,false,false] ?_ fun L67=>?_
  ·rintro ρ HD ⟨xE,xi,su,Cz,pC,uX,uO,AE,xl,rfl,YZ,sn,Jf,acF,N,H⟩
   refine vK [13,20] qh qm (jb rfl ?_ (jb rfl ?_ vM))
   ·refine zV H underlying24 ti2 kk.toNat rfl rfl qf qf qf fun b74 V5 H=>⟨H.pick (zR 4 4) [0,1],(jS L24 ⟨_,xi,su,Cz,pC,uX,uO,b74,AE,xl,uE8,YZ,sn,Jf,acF,N,H.zU 8 2 (1::0::zR 2 6) [0,1] qo qo⟩)⟩
   refine xq H ti70 [yI 0,yI 0,yN,yN,yN,yN,yN,yN,Bv false] fun Ho w77 H=>⟨H.pick (zR 4 4) [0,1],(ro 13 rfl (zV H underlying24 ti2 kk.toNat rfl rfl qf qf qf fun b78 LL H=>⟨H.pick (zR 5 4) [0,1],(ro 19 rfl ?_)⟩))⟩
   refine vU [yI su,yI 0,Sv uX pC.length uO,Sv (aa b78 0) kk.toNat kk.toNat,Sv (aa AE 0) kk.toNat kk.toNat,yN,yN,yN,Bv false] [(0,yI su),(2,Sv uX pC.length uO),(3,Sv (aa b78 0) kk.toNat kk.toNat),(4,Sv (aa AE 0) kk.toNat kk.toNat)] (⟨H.pick (zR 5 4) [0,1],(ro 21 rfl ?_)⟩)
   refine xY H 1 [yI su,yI 0,Sv uX pC.length uO,Sv (aa b78 0) kk.toNat kk.toNat,Sv (aa AE 0) kk.toNat kk.toNat,yN,yN,yN,Bv false] sizeOf70 fun MS H=>?_
   dsimp only [List.set] at H
   refine ⟨H.pick (zR 5 4) [0,1],(xw qh ((meet ⟨_,xi,su,Cz,pC,Ho,uX,uO,b78,AE,xl,uE5,YZ,sn,Jf,acF,N,H.zU 9 2 (1::2::0::zR 3 6) [0,1] qo qo⟩)))⟩
  refine Qc (fun ρ I4=>∃ (xE:Env) (wW:Int) (ny:Int) (tD:Int) (mf:yLI) (rV:yOA) (rT:Nat) (tM:Nat) (xp:Int),ρ=upd (upd (upd (upd (upd (upd (upd (upd (upd xE 0 (pp bs 0)) 1 (pp bY 0)) 4 (pp b1 0)) 5 (yI par.length)) 6 (pp tM 0)) 15 (yI ny)) 21 (Sv rV mf.length rT)) 25 (yI kk)) 30 (yI kk)/\(ip<=wW/\wW<=ip+2)/\(0<=ny/\(ny < par.length\/ny=0))/\(wW<=tD/\tD<=wW+24)/\(vT kk (2:Int) mf/\QS mf≠0)/\Fresh W0.heap.size (aF::Ns)/\St W0 I4 ((.box tM [yI 0,yI 0,yN,yN,yN,yN,yN,yN,Bv false] 70)::(.box bs [Sv ac ak.length cc,yI tD,.int .u64 xp] 115)::(rr rV mf.length rT 2 1 (mf.map (Value.int .i64)))::(.box b1 [yI 0,yI 0,yN,yN,yN,yN,yN,yN,Bv false] 70)::(.box bY [yI kk,Sv fg par.length fl,Sv fk rules.length fm] 27)::(rr fg par.length fl 2 1 (par.map (Value.int .i64)))::(rr fk rules.length fm 70 9 bD)::ps) ((sF false Fc ac cc ak)::(xy true aF bD rules)::Γ)) 4 #[true,true,true,true,true,true,true,true,true,true,true,true,true,false,true,true,true,true,false,false,true,false] ?_ fun L89=>?_
  ·rintro ρ TN ⟨xE,wW,ny,tD,mf,rV,rT,tM,xp,rfl,Jz,vd,OF,Pg,N,H⟩
   refine vK [13,18] qh qm (jb rfl ?_ (jb rfl ?_ vM))
   ·refine zV H underlying24 ti2 kk.toNat rfl rfl qf qf qf fun b96 N9 H=>⟨H.pick (zR 4 4) [0,1],(ro 18 rfl (zV H underlying24 ti2 kk.toNat rfl rfl qf qf qf fun Li Zz H=>⟨H.pick (zR 5 4) [0,1],(ro 19 rfl (vU [yI ny,yI 0,Sv rV mf.length rT,Sv (aa b96 0) kk.toNat kk.toNat,Sv (aa Li 0) kk.toNat kk.toNat,yN,yN,yN,Bv false] [(0,yI ny),(2,Sv rV mf.length rT),(3,Sv (aa b96 0) kk.toNat kk.toNat),(4,Sv (aa Li 0) kk.toNat kk.toNat)] ?_))⟩))⟩
    refine ⟨H.pick (zR 5 4) [0,1],(ro 21 rfl (xY H 2 [yI ny,yI 0,Sv rV mf.length rT,Sv (aa b96 0) kk.toNat kk.toNat,Sv (aa Li 0) kk.toNat kk.toNat,yN,yN,yN,Bv false] sizeOf70 fun IOz H=>?_))⟩
    dsimp only [List.set] at H
    refine ⟨H.pick (zR 5 4) [0,1],(xw qh ((meet ⟨_,wW,ny,tD,mf,tM,rV,rT,b96,Li,xp,uE5,Jz,vd,OF,Pg,N,H.zU 9 2 (2::0::1::zR 3 6) [0,1] qo qo⟩)))⟩
   refine zV H underlying24 ti2 kk.toNat rfl rfl qf qf qf fun l0 wV H=>⟨H.pick (zR 4 4) [0,1],(ro 13 rfl (zV H underlying24 ti2 kk.toNat rfl rfl qf qf qf fun Jg EP H=>⟨H.pick (zR 5 4) [0,1],(ro 19 rfl (vU [yI ny,yI 0,Sv rV mf.length rT,Sv (aa Jg 0) kk.toNat kk.toNat,Sv (aa l0 0) kk.toNat kk.toNat,yN,yN,yN,Bv false] [(0,yI ny),(2,Sv rV mf.length rT),(3,Sv (aa Jg 0) kk.toNat kk.toNat),(4,Sv (aa l0 0) kk.toNat kk.toNat)] ?_))⟩))⟩
   refine ⟨H.pick (zR 5 4) [0,1],(ro 21 rfl (xY H 2 [yI ny,yI 0,Sv rV mf.length rT,Sv (aa Jg 0) kk.toNat kk.toNat,Sv (aa l0 0) kk.toNat kk.toNat,yN,yN,yN,Bv false] sizeOf70 fun I6 H=>?_))⟩
   dsimp only [List.set] at H
   refine ⟨H.pick (zR 5 4) [0,1],(xw qh ((meet ⟨_,wW,ny,tD,mf,tM,rV,rT,Jg,l0,xp,uE5,Jz,vd,OF,Pg,N,H.zU 9 2 (2::1::0::zR 3 6) [0,1] qo qo⟩)))⟩
  refine Qc (fun ρ PA=>∃ (xE:Env) (oy:Int) (kV:Int) (uV:Nat) (uj:Nat) (za:Int),ρ=upd (upd (upd (upd (upd (upd (upd (upd (upd xE 0 (pp bs 0)) 1 (pp bY 0)) 4 (pp b1 0)) 5 (yI par.length)) 15 (yI kV)) 16 (pp bs 0)) 20 (yI kk)) 26 (Sv (aa uV 0) kk.toNat kk.toNat)) 31 (Sv (aa uj 0) kk.toNat kk.toNat)/\(ip<=oy/\oy<=ip+2)/\(0<=kV/\(kV < par.length\/kV=0))/\Fresh W0.heap.size (aF::Ns)/\St W0 PA ((rr (aa uj 0) kk.toNat kk.toNat 2 1 ((List.replicate kk.toNat (0:Int)).map (Value.int .i64)))::(rr (aa uV 0) kk.toNat kk.toNat 2 1 ((List.replicate kk.toNat (0:Int)).map (Value.int .i64)))::(.box bs [Sv ac ak.length cc,yI oy,.int .u64 za] 115)::(.box b1 [yI 0,yI 0,yN,yN,yN,yN,yN,yN,Bv false] 70)::(.box bY [yI kk,Sv fg par.length fl,Sv fk rules.length fm] 27)::(rr fg par.length fl 2 1 (par.map (Value.int .i64)))::(rr fk rules.length fm 70 9 bD)::ps) ((sF false Fc ac cc ak)::(xy true aF bD rules)::Γ)) 4 #[true,true,true,true,true,true,true,true,false,true,true,true,true,true,true,true,true,true,true,false,false,false] ?_ fun OD=>?_
  ·rintro ρ Ga ⟨xE,oy,kV,uV,uj,za,rfl,Ky,Mt,N,H⟩
   refine vK [8,20] qh qm (jb rfl ?_ (jb rfl ?_ vM))
   ·have H1:=H.yl 7 2 [2,0,1,3,4,5,6] [0,1] qo qo
    have N1:Fresh _ (aF::Ns):=N
    have K1:Kept (Ns) ((xy true aF bD rules)::Γ):=K0.behind 1 rfl
    replace K1:=K1.cons (F:=aF) 0 rfl rfl
    refine zL #[pp bs 0,yI kk,yI 2] rfl rfl call183 (Q3 ak oy za bs ac cc Fc kk (2:Int) H1 N1 K1 qg qg qg) ?_
    clear H H1 N1 K1
    rintro _ tJ ⟨aaZ,Sg,Wp,acY,apa,aaX,Vv,Ti,rfl,N,H⟩
    obtain rfl:=H.jC 1 rfl
    refine ⟨H.pick (zR 4 4) [0,1],(jS L24 ⟨_,oy,kV,aaZ,Wp,acY,aaX,uV,uj,Sg,uE8,Ky,Mt,Vv,Ti,N,H.zU 8 2 [2,3,0,1,4,5,6,7] [0,1] qo qo⟩)⟩
   refine xq H ti70 [yI 0,yI 0,yN,yN,yN,yN,yN,yN,Bv false] fun akH PO H=>⟨H.pick (zR 4 4) [0,1],(ro 8 rfl ?_)⟩
   have H1:=H.yl 8 2 [3,0,1,2,4,5,6,7] [0,1] qo qo
   have N1:Fresh _ (aF::Ns):=N
   have K1:Kept (Ns) ((xy true aF bD rules)::Γ):=K0.behind 1 rfl
   replace K1:=K1.cons (F:=aF) 0 rfl rfl
   refine zL #[pp bs 0,yI kk,yI 2] rfl rfl call183 (Q3 ak oy za bs ac cc Fc kk (2:Int) H1 N1 K1 qg qg qg) ?_
   clear H H1 N1 K1
   rintro _ Zd ⟨WO,UJ,qz,Am,aqn,Ba,abW,S0,rfl,N,H⟩
   obtain rfl:=H.jC 1 rfl
   refine ⟨H.pick (zR 5 4) [0,1],(ro 19 rfl (vU [yI kV,yI 0,Sv Am qz.length Ba,Sv (aa uV 0) kk.toNat kk.toNat,Sv (aa uj 0) kk.toNat kk.toNat,yN,yN,yN,Bv false] [(0,yI kV),(2,Sv Am qz.length Ba),(3,Sv (aa uV 0) kk.toNat kk.toNat),(4,Sv (aa uj 0) kk.toNat kk.toNat)] (⟨H.pick (zR 5 4) [0,1],(ro 21 rfl ?_)⟩)))⟩
   refine xY H 2 [yI kV,yI 0,Sv Am qz.length Ba,Sv (aa uV 0) kk.toNat kk.toNat,Sv (aa uj 0) kk.toNat kk.toNat,yN,yN,yN,Bv false] sizeOf70 fun abl H=>?_
   dsimp only [List.set] at H
   refine ⟨H.pick (zR 5 4) [0,1],(xw qh ((meet ⟨_,oy,kV,WO,qz,akH,Am,Ba,uV,uj,UJ,uE5,Ky,Mt,abW,S0,N,H.zU 9 2 [2,3,4,0,1,5,6,7,8] [0,1] qo qo⟩)))⟩
  refine Qc (fun ρ Iv=>∃ (xE:Env) (oe:Int) (f9:Int) (nI:Nat) (lF:Nat) (z6:Int),ρ=upd (upd (upd (upd (upd (upd (upd (upd (upd (upd xE 0 (pp bs 0)) 1 (pp bY 0)) 4 (pp b1 0)) 5 (yI par.length)) 6 (pp lF 0)) 15 (yI f9)) 16 (pp bs 0)) 20 (yI kk)) 26 (Sv (aa nI 0) kk.toNat kk.toNat)) 30 (yI kk)/\(ip<=oe/\oe<=ip+2)/\(0<=f9/\(f9 < par.length\/f9=0))/\Fresh W0.heap.size (aF::Ns)/\St W0 Iv ((.box lF [yI 0,yI 0,yN,yN,yN,yN,yN,yN,Bv false] 70)::(rr (aa nI 0) kk.toNat kk.toNat 2 1 ((List.replicate kk.toNat (0:Int)).map (Value.int .i64)))::(.box bs [Sv ac ak.length cc,yI oe,.int .u64 z6] 115)::(.box b1 [yI 0,yI 0,yN,yN,yN,yN,yN,yN,Bv false] 70)::(.box bY [yI kk,Sv fg par.length fl,Sv fk rules.length fm] 27)::(rr fg par.length fl 2 1 (par.map (Value.int .i64)))::(rr fk rules.length fm 70 9 bD)::ps) ((sF false Fc ac cc ak)::(xy true aF bD rules)::Γ)) 4 #[true,true,true,true,true,true,true,true,false,true,true,true,true,true,true,true,true,true,false,false,true,false] ?_ fun Ci=>?_
  ·rintro ρ Ja ⟨xE,oe,f9,nI,lF,z6,rfl,LR,Lf,N,H⟩
   refine vK [8,18] qh qm (jb rfl ?_ (jb rfl ?_ vM))
   ·have H1:=H.yl 7 2 [2,0,1,3,4,5,6] [0,1] qo qo
    have N1:Fresh _ (aF::Ns):=N
    have K1:Kept (Ns) ((xy true aF bD rules)::Γ):=K0.behind 1 rfl
    replace K1:=K1.cons (F:=aF) 0 rfl rfl
    refine zL #[pp bs 0,yI kk,yI 2] rfl rfl call183 (Q3 ak oe z6 bs ac cc Fc kk (2:Int) H1 N1 K1 qg qg qg) ?_
    clear H H1 N1 K1
    rintro _ Na ⟨To,aa9,Bc,AW,anx,Bg,U8,VZ,rfl,N,H⟩
    obtain rfl:=H.jC 1 rfl
    refine ⟨H.pick (zR 4 4) [0,1],(ro 18 rfl (zV H underlying24 ti2 kk.toNat rfl rfl qf qf qf fun Ee Ip H=>⟨H.pick (zR 5 4) [0,1],(ro 19 rfl (vU [yI f9,yI 0,Sv AW Bc.length Bg,Sv (aa nI 0) kk.toNat kk.toNat,Sv (aa Ee 0) kk.toNat kk.toNat,yN,yN,yN,Bv false] [(0,yI f9),(2,Sv AW Bc.length Bg),(3,Sv (aa nI 0) kk.toNat kk.toNat),(4,Sv (aa Ee 0) kk.toNat kk.toNat)] (⟨H.pick (zR 5 4) [0,1],(ro 21 rfl ?_)⟩)))⟩))⟩
    refine xY H 3 [yI f9,yI 0,Sv AW Bc.length Bg,Sv (aa nI 0) kk.toNat kk.toNat,Sv (aa Ee 0) kk.toNat kk.toNat,yN,yN,yN,Bv false] sizeOf70 fun OC H=>?_
    dsimp only [List.set] at H
    refine ⟨H.pick (zR 5 4) [0,1],(xw qh ((meet ⟨_,oe,f9,To,Bc,lF,AW,Bg,nI,Ee,aa9,uE5,LR,Lf,U8,VZ,N,H.zU 9 2 [3,0,4,1,2,5,6,7,8] [0,1] qo qo⟩)))⟩
   refine zV H underlying24 ti2 kk.toNat rfl rfl qf qf qf fun IU Gt H=>⟨H.pick (zR 4 4) [0,1],(ro 8 rfl ?_)⟩
   have H1:=H.yl 8 2 [3,0,1,2,4,5,6,7] [0,1] qo qo
   have N1:Fresh _ (aF::Ns):=N
   have K1:Kept (Ns) ((xy true aF bD rules)::Γ):=K0.behind 1 rfl
   replace K1:=K1.cons (F:=aF) 0 rfl rfl
   refine zL #[pp bs 0,yI kk,yI 2] rfl rfl call183 (Q3 ak oe z6 bs ac cc Fc kk (2:Int) H1 N1 K1 qg qg qg) ?_
   clear H H1 N1 K1
   rintro _ SK ⟨TZ,Zo,y1,AJ,aq2,yy,acO,acB,rfl,N,H⟩
   obtain rfl:=H.jC 1 rfl
   refine ⟨H.pick (zR 5 4) [0,1],(ro 19 rfl (vU [yI f9,yI 0,Sv AJ y1.length yy,Sv (aa nI 0) kk.toNat kk.toNat,Sv (aa IU 0) kk.toNat kk.toNat,yN,yN,yN,Bv false] [(0,yI f9),(2,Sv AJ y1.length yy),(3,Sv (aa nI 0) kk.toNat kk.toNat),(4,Sv (aa IU 0) kk.toNat kk.toNat)] (⟨H.pick (zR 5 4) [0,1],(ro 21 rfl ?_)⟩)))⟩
   refine xY H 3 [yI f9,yI 0,Sv AJ y1.length yy,Sv (aa nI 0) kk.toNat kk.toNat,Sv (aa IU 0) kk.toNat kk.toNat,yN,yN,yN,Bv false] sizeOf70 fun alo H=>?_
   dsimp only [List.set] at H
   refine ⟨H.pick (zR 5 4) [0,1],(xw qh ((meet ⟨_,oe,f9,TZ,y1,lF,AJ,yy,nI,IU,Zo,uE5,LR,Lf,acO,acB,N,H.zU 9 2 [3,2,4,0,1,5,6,7,8] [0,1] qo qo⟩)))⟩
  refine Qc (fun ρ If=>∃ (xE:Env) (jp:Int) (fW:Int) (oR:Nat) (wZ:Nat) (AB:Int),ρ=upd (upd (upd (upd (upd (upd (upd (upd (upd (upd xE 0 (pp bs 0)) 1 (pp bY 0)) 4 (pp b1 0)) 5 (yI par.length)) 6 (pp wZ 0)) 15 (yI fW)) 16 (pp bs 0)) 20 (yI kk)) 25 (yI kk)) 31 (Sv (aa oR 0) kk.toNat kk.toNat)/\(ip<=jp/\jp<=ip+2)/\(0<=fW/\(fW < par.length\/fW=0))/\Fresh W0.heap.size (aF::Ns)/\St W0 If ((.box wZ [yI 0,yI 0,yN,yN,yN,yN,yN,yN,Bv false] 70)::(rr (aa oR 0) kk.toNat kk.toNat 2 1 ((List.replicate kk.toNat (0:Int)).map (Value.int .i64)))::(.box bs [Sv ac ak.length cc,yI jp,.int .u64 AB] 115)::(.box b1 [yI 0,yI 0,yN,yN,yN,yN,yN,yN,Bv false] 70)::(.box bY [yI kk,Sv fg par.length fl,Sv fk rules.length fm] 27)::(rr fg par.length fl 2 1 (par.map (Value.int .i64)))::(rr fk rules.length fm 70 9 bD)::ps) ((sF false Fc ac cc ak)::(xy true aF bD rules)::Γ)) 4 #[true,true,true,true,true,true,true,true,false,true,true,true,true,false,true,true,true,true,true,false,true,false] ?_ fun O4=>?_
  ·rintro ρ W1 ⟨xE,jp,fW,oR,wZ,AB,rfl,DP,DY,N,H⟩
   refine vK [8,13] qh qm (jb rfl ?_ (jb rfl ?_ vM))
   ·have H1:=H.yl 7 2 [2,0,1,3,4,5,6] [0,1] qo qo
    have N1:Fresh _ (aF::Ns):=N
    have K1:Kept (Ns) ((xy true aF bD rules)::Γ):=K0.behind 1 rfl
    replace K1:=K1.cons (F:=aF) 0 rfl rfl
    refine zL #[pp bs 0,yI kk,yI 2] rfl rfl call183 (Q3 ak jp AB bs ac cc Fc kk (2:Int) H1 N1 K1 qg qg qg) ?_
    clear H H1 N1 K1
    rintro _ ajG ⟨T8,Up,Bx,mh,acC,lX,Yn,aaS,rfl,N,H⟩
    obtain rfl:=H.jC 1 rfl
    refine ⟨H.pick (zR 4 4) [0,1],(ro 13 rfl (zV H underlying24 ti2 kk.toNat rfl rfl qf qf qf fun IG abb H=>⟨H.pick (zR 5 4) [0,1],(ro 19 rfl (vU [yI fW,yI 0,Sv mh Bx.length lX,Sv (aa IG 0) kk.toNat kk.toNat,Sv (aa oR 0) kk.toNat kk.toNat,yN,yN,yN,Bv false] [(0,yI fW),(2,Sv mh Bx.length lX),(3,Sv (aa IG 0) kk.toNat kk.toNat),(4,Sv (aa oR 0) kk.toNat kk.toNat)] (⟨H.pick (zR 5 4) [0,1],(ro 21 rfl ?_)⟩)))⟩))⟩
    refine xY H 3 [yI fW,yI 0,Sv mh Bx.length lX,Sv (aa IG 0) kk.toNat kk.toNat,Sv (aa oR 0) kk.toNat kk.toNat,yN,yN,yN,Bv false] sizeOf70 fun aaW H=>?_
    dsimp only [List.set] at H
    refine ⟨H.pick (zR 5 4) [0,1],(xw qh ((meet ⟨_,jp,fW,T8,Bx,wZ,mh,lX,IG,oR,Up,uE5,DP,DY,Yn,aaS,N,H.zU 9 2 [3,4,0,1,2,5,6,7,8] [0,1] qo qo⟩)))⟩
   refine zV H underlying24 ti2 kk.toNat rfl rfl qf qf qf fun tO PG H=>⟨H.pick (zR 4 4) [0,1],(ro 8 rfl ?_)⟩
   have H1:=H.yl 8 2 [3,0,1,2,4,5,6,7] [0,1] qo qo
   have N1:Fresh _ (aF::Ns):=N
   have K1:Kept (Ns) ((xy true aF bD rules)::Γ):=K0.behind 1 rfl
   replace K1:=K1.cons (F:=aF) 0 rfl rfl
   refine zL #[pp bs 0,yI kk,yI 2] rfl rfl call183 (Q3 ak jp AB bs ac cc Fc kk (2:Int) H1 N1 K1 qg qg qg) ?_
   clear H H1 N1 K1
   rintro _ arG ⟨TX,acJ,A6,mB,Yi,mE,Fx,Ui,rfl,N,H⟩
   obtain rfl:=H.jC 1 rfl
   refine ⟨H.pick (zR 5 4) [0,1],(ro 19 rfl (vU [yI fW,yI 0,Sv mB A6.length mE,Sv (aa tO 0) kk.toNat kk.toNat,Sv (aa oR 0) kk.toNat kk.toNat,yN,yN,yN,Bv false] [(0,yI fW),(2,Sv mB A6.length mE),(3,Sv (aa tO 0) kk.toNat kk.toNat),(4,Sv (aa oR 0) kk.toNat kk.toNat)] (⟨H.pick (zR 5 4) [0,1],(ro 21 rfl ?_)⟩)))⟩
   refine xY H 3 [yI fW,yI 0,Sv mB A6.length mE,Sv (aa tO 0) kk.toNat kk.toNat,Sv (aa oR 0) kk.toNat kk.toNat,yN,yN,yN,Bv false] sizeOf70 fun akl H=>?_
   dsimp only [List.set] at H
   refine ⟨H.pick (zR 5 4) [0,1],(xw qh ((meet ⟨_,jp,fW,TX,A6,wZ,mB,mE,tO,oR,acJ,uE5,DP,DY,Fx,Ui,N,H.zU 9 2 [3,4,2,0,1,5,6,7,8] [0,1] qo qo⟩)))⟩
  refine Qc (fun ρ PD=>∃ (xE:Env) (og:Int) (nW:Int) (CL:Nat) (wc:Int),ρ=upd (upd (upd (upd (upd (upd (upd (upd (upd xE 0 (pp bs 0)) 1 (pp bY 0)) 4 (pp b1 0)) 5 (yI par.length)) 15 (yI nW)) 16 (pp bs 0)) 20 (yI kk)) 26 (Sv (aa CL 0) kk.toNat kk.toNat)) 30 (yI kk)/\(ip<=og/\og<=ip+2)/\(0<=nW/\(nW < par.length\/nW=0))/\Fresh W0.heap.size (aF::Ns)/\St W0 PD ((rr (aa CL 0) kk.toNat kk.toNat 2 1 ((List.replicate kk.toNat (0:Int)).map (Value.int .i64)))::(.box bs [Sv ac ak.length cc,yI og,.int .u64 wc] 115)::(.box b1 [yI 0,yI 0,yN,yN,yN,yN,yN,yN,Bv false] 70)::(.box bY [yI kk,Sv fg par.length fl,Sv fk rules.length fm] 27)::(rr fg par.length fl 2 1 (par.map (Value.int .i64)))::(rr fk rules.length fm 70 9 bD)::ps) ((sF false Fc ac cc ak)::(xy true aF bD rules)::Γ)) 5 #[true,true,true,true,true,true,true,true,false,true,true,true,true,true,true,true,true,true,false,false,false,false] ?_ fun TM=>?_
  ·rintro ρ akr ⟨xE,og,nW,CL,wc,rfl,GA,E6,N,H⟩
   refine vK [8,18,20] qh qm (jb rfl ?_ (jb rfl ?_ (jb rfl ?_ vM)))
   ·have H1:=H.yl 6 2 [1,0,2,3,4,5] [0,1] qo qo
    have N1:Fresh _ (aF::Ns):=N
    have K1:Kept (Ns) ((xy true aF bD rules)::Γ):=K0.behind 1 rfl
    replace K1:=K1.cons (F:=aF) 0 rfl rfl
    refine zL #[pp bs 0,yI kk,yI 2] rfl rfl call183 (Q3 ak og wc bs ac cc Fc kk (2:Int) H1 N1 K1 qg qg qg) ?_
    clear H H1 N1 K1
    rintro _ Px ⟨Uu,acm,KX,sK,aab,sE,ab0,Sy,rfl,N,H⟩
    obtain rfl:=H.jC 1 rfl
    refine ⟨H.pick (zR 3 4) [0,1],(jS L45 ⟨_,og,nW,Uu,KX,sK,sE,CL,acm,uE8,GA,E6,ab0,Sy,N,H.zU 7 2 [2,0,1,3,4,5,6] [0,1] qo qo⟩)⟩
   ·refine zV H underlying24 ti2 kk.toNat rfl rfl qf qf qf fun ajf aiy H=>⟨H.pick (zR 3 4) [0,1],(jS OD ⟨_,og,nW,CL,ajf,wc,uE9,GA,E6,N,H⟩)⟩
   refine xq H ti70 [yI 0,yI 0,yN,yN,yN,yN,yN,yN,Bv false] fun Ow akm H=>⟨H.pick (zR 3 4) [0,1],(jS Ci ⟨_,og,nW,CL,Ow,wc,uE10,GA,E6,N,H⟩)⟩
  refine Qc (fun ρ E5=>∃ (xE:Env) (od:Int) (oB:Int) (uC:Nat) (uK:Int),ρ=upd (upd (upd (upd (upd (upd (upd (upd (upd xE 0 (pp bs 0)) 1 (pp bY 0)) 4 (pp b1 0)) 5 (yI par.length)) 15 (yI oB)) 16 (pp bs 0)) 20 (yI kk)) 25 (yI kk)) 31 (Sv (aa uC 0) kk.toNat kk.toNat)/\(ip<=od/\od<=ip+2)/\(0<=oB/\(oB < par.length\/oB=0))/\Fresh W0.heap.size (aF::Ns)/\St W0 E5 ((rr (aa uC 0) kk.toNat kk.toNat 2 1 ((List.replicate kk.toNat (0:Int)).map (Value.int .i64)))::(.box bs [Sv ac ak.length cc,yI od,.int .u64 uK] 115)::(.box b1 [yI 0,yI 0,yN,yN,yN,yN,yN,yN,Bv false] 70)::(.box bY [yI kk,Sv fg par.length fl,Sv fk rules.length fm] 27)::(rr fg par.length fl 2 1 (par.map (Value.int .i64)))::(rr fk rules.length fm 70 9 bD)::ps) ((sF false Fc ac cc ak)::(xy true aF bD rules)::Γ)) 5 #[true,true,true,true,true,true,true,true,false,true,true,true,true,false,true,true,true,true,true,false,false,false] ?_ fun SA=>?_
  ·rintro ρ awq ⟨xE,od,oB,uC,uK,rfl,Fg,DI,N,H⟩
   refine vK [8,13,20] qh qm (jb rfl ?_ (jb rfl ?_ (jb rfl ?_ vM)))
   ·have H1:=H.yl 6 2 [1,0,2,3,4,5] [0,1] qo qo
    have N1:Fresh _ (aF::Ns):=N
    have K1:Kept (Ns) ((xy true aF bD rules)::Γ):=K0.behind 1 rfl
    replace K1:=K1.cons (F:=aF) 0 rfl rfl
    refine zL #[pp bs 0,yI kk,yI 2] rfl rfl call183 (Q3 ak od uK bs ac cc Fc kk (2:Int) H1 N1 K1 qg qg qg) ?_
    clear H H1 N1 K1
    rintro _ afq ⟨Yy,WQ,U3,abr,an5,Zg,Uc,Wq,rfl,N,H⟩
    obtain rfl:=H.jC 1 rfl
    refine ⟨H.pick (zR 3 4) [0,1],(jS L67 ⟨_,od,oB,Yy,U3,abr,Zg,uC,WQ,uE8,Fg,DI,Uc,Wq,N,H.zU 7 2 [2,0,1,3,4,5,6] [0,1] qo qo⟩)⟩
   ·refine zV H underlying24 ti2 kk.toNat rfl rfl qf qf qf fun aiw azD H=>⟨H.pick (zR 3 4) [0,1],(jS OD ⟨_,od,oB,aiw,uC,uK,uE9,Fg,DI,N,H.zU 7 2 (1::0::zR 2 5) [0,1] qo qo⟩)⟩
   refine xq H ti70 [yI 0,yI 0,yN,yN,yN,yN,yN,yN,Bv false] fun W3 ajn H=>⟨H.pick (zR 3 4) [0,1],(jS O4 ⟨_,od,oB,uC,W3,uK,uE10,Fg,DI,N,H⟩)⟩
  refine Qc (fun ρ w262=>∃ (xE:Env) (om:Int) (oi:Int) (Cf:Nat) (uJ:Int),ρ=upd (upd (upd (upd (upd (upd (upd (upd (upd (upd xE 0 (pp bs 0)) 1 (pp bY 0)) 4 (pp b1 0)) 5 (yI par.length)) 6 (pp Cf 0)) 15 (yI oi)) 16 (pp bs 0)) 20 (yI kk)) 25 (yI kk)) 30 (yI kk)/\(ip<=om/\om<=ip+2)/\(0<=oi/\(oi < par.length\/oi=0))/\Fresh W0.heap.size (aF::Ns)/\St W0 w262 ((.box Cf [yI 0,yI 0,yN,yN,yN,yN,yN,yN,Bv false] 70)::(.box bs [Sv ac ak.length cc,yI om,.int .u64 uJ] 115)::(.box b1 [yI 0,yI 0,yN,yN,yN,yN,yN,yN,Bv false] 70)::(.box bY [yI kk,Sv fg par.length fl,Sv fk rules.length fm] 27)::(rr fg par.length fl 2 1 (par.map (Value.int .i64)))::(rr fk rules.length fm 70 9 bD)::ps) ((sF false Fc ac cc ak)::(xy true aF bD rules)::Γ)) 5 #[true,true,true,true,true,true,true,true,false,true,true,true,true,false,true,true,true,true,false,false,true,false] ?_ fun SO=>?_
  ·rintro ρ al7 ⟨xE,om,oi,Cf,uJ,rfl,GQ,Gy,N,H⟩
   refine vK [8,13,18] qh qm (jb rfl ?_ (jb rfl ?_ (jb rfl ?_ vM)))
   ·have H1:=H.yl 6 2 [1,0,2,3,4,5] [0,1] qo qo
    have N1:Fresh _ (aF::Ns):=N
    have K1:Kept (Ns) ((xy true aF bD rules)::Γ):=K0.behind 1 rfl
    replace K1:=K1.cons (F:=aF) 0 rfl rfl
    refine zL #[pp bs 0,yI kk,yI 2] rfl rfl call183 (Q3 ak om uJ bs ac cc Fc kk (2:Int) H1 N1 K1 qg qg qg) ?_
    clear H H1 N1 K1
    rintro _ aui ⟨UM,TC,abD,acV,api,Wx,YE,ac7,rfl,N,H⟩
    obtain rfl:=H.jC 1 rfl
    refine ⟨H.pick (zR 3 4) [0,1],(jS L89 ⟨_,om,oi,UM,abD,acV,Wx,Cf,TC,uE9,GQ,Gy,YE,ac7,N,H.zU 7 2 [2,0,1,3,4,5,6] [0,1] qo qo⟩)⟩
   ·refine zV H underlying24 ti2 kk.toNat rfl rfl qf qf qf fun alq aza H=>⟨H.pick (zR 3 4) [0,1],(jS Ci ⟨_,om,oi,alq,Cf,uJ,uE10,GQ,Gy,N,H.zU 7 2 (1::0::zR 2 5) [0,1] qo qo⟩)⟩
   refine zV H underlying24 ti2 kk.toNat rfl rfl qf qf qf fun akw avJ H=>⟨H.pick (zR 3 4) [0,1],(jS O4 ⟨_,om,oi,akw,Cf,uJ,uE10,GQ,Gy,N,H.zU 7 2 (1::0::zR 2 5) [0,1] qo qo⟩)⟩
  refine Qc (fun ρ abv=>∃ (xE:Env) (vh:Nat) (uR:Nat),ρ=upd (upd (upd (upd (upd (upd (upd (upd (upd (upd xE 0 (pp bs 0)) 1 (pp bY 0)) 4 (pp b1 0)) 5 (yI par.length)) 13 (pp bs 0)) 14 (yI par.length)) 16 (pp bs 0)) 20 (yI kk)) 26 (Sv (aa vh 0) kk.toNat kk.toNat)) 31 (Sv (aa uR 0) kk.toNat kk.toNat)/\Fresh W0.heap.size (aF::Ns)/\St W0 abv ((rr (aa uR 0) kk.toNat kk.toNat 2 1 ((List.replicate kk.toNat (0:Int)).map (Value.int .i64)))::(rr (aa vh 0) kk.toNat kk.toNat 2 1 ((List.replicate kk.toNat (0:Int)).map (Value.int .i64)))::(.box b1 [yI 0,yI 0,yN,yN,yN,yN,yN,yN,Bv false] 70)::(.box bs [Sv ac ak.length cc,yI ip,.int .u64 sd] 115)::(.box bY [yI kk,Sv fg par.length fl,Sv fk rules.length fm] 27)::(rr fg par.length fl 2 1 (par.map (Value.int .i64)))::(rr fk rules.length fm 70 9 bD)::ps) ((sF false Fc ac cc ak)::(xy true aF bD rules)::Γ)) 5 #[true,true,false,true,true,true,true,true,false,true,true,true,true,true,true,true,true,true,true,false,false,false] ?_ fun TO=>?_
  ·rintro ρ ayg ⟨xE,vh,uR,rfl,N,H⟩
   refine vK [2,20] qh qm (jb rfl ?_ (jb rfl ?_ vM))
   ·have H1:=H.yl 7 2 [3,0,1,2,4,5,6] [0,1] qo qo
    have N1:Fresh _ (aF::Ns):=N
    have K1:Kept (Ns) ((xy true aF bD rules)::Γ):=K0.behind 1 rfl
    replace K1:=K1.cons (F:=aF) 0 rfl rfl
    refine zL #[pp bs 0,yI par.length] rfl rfl call43 (yM ak ip sd bs ac cc Fc par.length H1 N1 K1 qg) ?_
    clear H H1 N1 K1
    rintro _ ajh ⟨YI,acb,Zn,abO,Zm,rfl,N,H⟩
    refine ⟨H.pick (zR 3 4) [0,1],(jS OD ⟨_,YI,Zn,vh,uR,acb,uE9,abO,Zm,N,H.zU 7 2 [1,2,0,3,4,5,6] [0,1] qo qo⟩)⟩
   refine xq H ti70 [yI 0,yI 0,yN,yN,yN,yN,yN,yN,Bv false] fun afe at4 H=>⟨H.pick [3,5,6,7] [0,1],(ro 2 rfl ?_)⟩
   have H1:=H.yl 8 2 [4,0,1,2,3,5,6,7] [0,1] qo qo
   have N1:Fresh _ (aF::Ns):=N
   have K1:Kept (Ns) ((xy true aF bD rules)::Γ):=K0.behind 1 rfl
   replace K1:=K1.cons (F:=aF) 0 rfl rfl
   refine zL #[pp bs 0,yI par.length] rfl rfl call43 (yM ak ip sd bs ac cc Fc par.length H1 N1 K1 qg) ?_
   clear H H1 N1 K1
   rintro _ atS ⟨MA,Y5,zw,S8,acw,rfl,N,H⟩
   refine ⟨H.pick (zR 4 4) [0,1],(ro 8 rfl ?_)⟩
   have H1:=H.yl 8 2 [0,1,2,3,4,5,6,7] [0,1] qo qo
   have N1:Fresh _ (aF::Ns):=N
   have K1:Kept (Ns) ((xy true aF bD rules)::Γ):=K0.behind 1 rfl
   replace K1:=K1.cons (F:=aF) 0 rfl rfl
   refine zL #[pp bs 0,yI kk,yI 2] rfl rfl call183 (Q3 ak MA Y5 bs ac cc Fc kk (2:Int) H1 N1 K1 qg qg qg) ?_
   clear H H1 N1 K1
   rintro _ akx ⟨YH,UL,y0,y4,aps,Ad,U6,acP,rfl,N,H⟩
   obtain rfl:=H.jC 1 rfl
   refine ⟨H.pick (zR 5 4) [0,1],(ro 19 rfl (vU [yI zw,yI 0,Sv y4 y0.length Ad,Sv (aa vh 0) kk.toNat kk.toNat,Sv (aa uR 0) kk.toNat kk.toNat,yN,yN,yN,Bv false] [(0,yI zw),(2,Sv y4 y0.length Ad),(3,Sv (aa vh 0) kk.toNat kk.toNat),(4,Sv (aa uR 0) kk.toNat kk.toNat)] (⟨H.pick (zR 5 4) [0,1],(ro 21 rfl ?_)⟩)))⟩
   refine xY H 2 [yI zw,yI 0,Sv y4 y0.length Ad,Sv (aa vh 0) kk.toNat kk.toNat,Sv (aa uR 0) kk.toNat kk.toNat,yN,yN,yN,Bv false] sizeOf70 fun asW H=>?_
   dsimp only [List.set] at H
   refine ⟨H.pick (zR 5 4) [0,1],(xw qh ((meet ⟨_,MA,zw,YH,y0,afe,y4,Ad,vh,uR,UL,uE5,S8,acw,U6,acP,N,H.zU 9 2 [2,3,4,0,1,5,6,7,8] [0,1] qo qo⟩)))⟩
  refine Qc (fun ρ w315=>∃ (xE:Env) (wa:Nat) (Gw:Nat),ρ=upd (upd (upd (upd (upd (upd (upd (upd (upd (upd (upd xE 0 (pp bs 0)) 1 (pp bY 0)) 4 (pp b1 0)) 5 (yI par.length)) 6 (pp Gw 0)) 13 (pp bs 0)) 14 (yI par.length)) 16 (pp bs 0)) 20 (yI kk)) 26 (Sv (aa wa 0) kk.toNat kk.toNat)) 30 (yI kk)/\Fresh W0.heap.size (aF::Ns)/\St W0 w315 ((.box Gw [yI 0,yI 0,yN,yN,yN,yN,yN,yN,Bv false] 70)::(rr (aa wa 0) kk.toNat kk.toNat 2 1 ((List.replicate kk.toNat (0:Int)).map (Value.int .i64)))::(.box b1 [yI 0,yI 0,yN,yN,yN,yN,yN,yN,Bv false] 70)::(.box bs [Sv ac ak.length cc,yI ip,.int .u64 sd] 115)::(.box bY [yI kk,Sv fg par.length fl,Sv fk rules.length fm] 27)::(rr fg par.length fl 2 1 (par.map (Value.int .i64)))::(rr fk rules.length fm 70 9 bD)::ps) ((sF false Fc ac cc ak)::(xy true aF bD rules)::Γ)) 5 #[true,true,false,true,true,true,true,true,false,true,true,true,true,true,true,true,true,true,false,false,true,false] ?_ fun T0=>?_
  ·rintro ρ abk ⟨xE,wa,Gw,rfl,N,H⟩
   refine vK [2,18] qh qm (jb rfl ?_ (jb rfl ?_ vM))
   ·have H1:=H.yl 7 2 [3,0,1,2,4,5,6] [0,1] qo qo
    have N1:Fresh _ (aF::Ns):=N
    have K1:Kept (Ns) ((xy true aF bD rules)::Γ):=K0.behind 1 rfl
    replace K1:=K1.cons (F:=aF) 0 rfl rfl
    refine zL #[pp bs 0,yI par.length] rfl rfl call43 (yM ak ip sd bs ac cc Fc par.length H1 N1 K1 qg) ?_
    clear H H1 N1 K1
    rintro _ aeJ ⟨WT,abB,W5,Y6,ZP,rfl,N,H⟩
    refine ⟨H.pick (zR 3 4) [0,1],(jS Ci ⟨_,WT,W5,wa,Gw,abB,uE10,Y6,ZP,N,H.zU 7 2 [1,2,0,3,4,5,6] [0,1] qo qo⟩)⟩
   refine zV H underlying24 ti2 kk.toNat rfl rfl qf qf qf fun JJ av1 H=>⟨H.pick [3,5,6,7] [0,1],(ro 2 rfl ?_)⟩
   have H1:=H.yl 8 2 [4,0,1,2,3,5,6,7] [0,1] qo qo
   have N1:Fresh _ (aF::Ns):=N
   have K1:Kept (Ns) ((xy true aF bD rules)::Γ):=K0.behind 1 rfl
   replace K1:=K1.cons (F:=aF) 0 rfl rfl
   refine zL #[pp bs 0,yI par.length] rfl rfl call43 (yM ak ip sd bs ac cc Fc par.length H1 N1 K1 qg) ?_
   clear H H1 N1 K1
   rintro _ awG ⟨My,acG,z8,Sk,YX,rfl,N,H⟩
   refine ⟨H.pick (zR 4 4) [0,1],(ro 8 rfl ?_)⟩
   have H1:=H.yl 8 2 [0,1,2,3,4,5,6,7] [0,1] qo qo
   have N1:Fresh _ (aF::Ns):=N
   have K1:Kept (Ns) ((xy true aF bD rules)::Γ):=K0.behind 1 rfl
   replace K1:=K1.cons (F:=aF) 0 rfl rfl
   refine zL #[pp bs 0,yI kk,yI 2] rfl rfl call183 (Q3 ak My acG bs ac cc Fc kk (2:Int) H1 N1 K1 qg qg qg) ?_
   clear H H1 N1 K1
   rintro _ awA ⟨Sb,WY,BD,Br,amV,Ap,ZU,aaV,rfl,N,H⟩
   obtain rfl:=H.jC 1 rfl
   refine ⟨H.pick (zR 5 4) [0,1],(ro 19 rfl (vU [yI z8,yI 0,Sv Br BD.length Ap,Sv (aa wa 0) kk.toNat kk.toNat,Sv (aa JJ 0) kk.toNat kk.toNat,yN,yN,yN,Bv false] [(0,yI z8),(2,Sv Br BD.length Ap),(3,Sv (aa wa 0) kk.toNat kk.toNat),(4,Sv (aa JJ 0) kk.toNat kk.toNat)] (⟨H.pick (zR 5 4) [0,1],(ro 21 rfl ?_)⟩)))⟩
   refine xY H 3 [yI z8,yI 0,Sv Br BD.length Ap,Sv (aa wa 0) kk.toNat kk.toNat,Sv (aa JJ 0) kk.toNat kk.toNat,yN,yN,yN,Bv false] sizeOf70 fun as5 H=>?_
   dsimp only [List.set] at H
   refine ⟨H.pick (zR 5 4) [0,1],(xw qh ((meet ⟨_,My,z8,Sb,BD,Gw,Br,Ap,wa,JJ,WY,uE5,Sk,YX,ZU,aaV,N,H.zU 9 2 [3,2,4,0,1,5,6,7,8] [0,1] qo qo⟩)))⟩
  refine Qc (fun ρ w347=>∃ (xE:Env) (vD:Nat) (DX:Nat),ρ=upd (upd (upd (upd (upd (upd (upd (upd (upd (upd (upd xE 0 (pp bs 0)) 1 (pp bY 0)) 4 (pp b1 0)) 5 (yI par.length)) 6 (pp DX 0)) 13 (pp bs 0)) 14 (yI par.length)) 16 (pp bs 0)) 20 (yI kk)) 25 (yI kk)) 31 (Sv (aa vD 0) kk.toNat kk.toNat)/\Fresh W0.heap.size (aF::Ns)/\St W0 w347 ((.box DX [yI 0,yI 0,yN,yN,yN,yN,yN,yN,Bv false] 70)::(rr (aa vD 0) kk.toNat kk.toNat 2 1 ((List.replicate kk.toNat (0:Int)).map (Value.int .i64)))::(.box b1 [yI 0,yI 0,yN,yN,yN,yN,yN,yN,Bv false] 70)::(.box bs [Sv ac ak.length cc,yI ip,.int .u64 sd] 115)::(.box bY [yI kk,Sv fg par.length fl,Sv fk rules.length fm] 27)::(rr fg par.length fl 2 1 (par.map (Value.int .i64)))::(rr fk rules.length fm 70 9 bD)::ps) ((sF false Fc ac cc ak)::(xy true aF bD rules)::Γ)) 5 #[true,true,false,true,true,true,true,true,false,true,true,true,true,false,true,true,true,true,true,false,true,false] ?_ fun SH=>?_
  ·rintro ρ azq ⟨xE,vD,DX,rfl,N,H⟩
   refine vK [2,13] qh qm (jb rfl ?_ (jb rfl ?_ vM))
   ·have H1:=H.yl 7 2 [3,0,1,2,4,5,6] [0,1] qo qo
    have N1:Fresh _ (aF::Ns):=N
    have K1:Kept (Ns) ((xy true aF bD rules)::Γ):=K0.behind 1 rfl
    replace K1:=K1.cons (F:=aF) 0 rfl rfl
    refine zL #[pp bs 0,yI par.length] rfl rfl call43 (yM ak ip sd bs ac cc Fc par.length H1 N1 K1 qg) ?_
    clear H H1 N1 K1
    rintro _ asL ⟨TK,abw,Th,Tz,Uy,rfl,N,H⟩
    refine ⟨H.pick (zR 3 4) [0,1],(jS O4 ⟨_,TK,Th,vD,DX,abw,uE10,Tz,Uy,N,H.zU 7 2 [1,2,0,3,4,5,6] [0,1] qo qo⟩)⟩
   refine zV H underlying24 ti2 kk.toNat rfl rfl qf qf qf fun HY awI H=>⟨H.pick [3,5,6,7] [0,1],(ro 2 rfl ?_)⟩
   have H1:=H.yl 8 2 [4,0,1,2,3,5,6,7] [0,1] qo qo
   have N1:Fresh _ (aF::Ns):=N
   have K1:Kept (Ns) ((xy true aF bD rules)::Γ):=K0.behind 1 rfl
   replace K1:=K1.cons (F:=aF) 0 rfl rfl
   refine zL #[pp bs 0,yI par.length] rfl rfl call43 (yM ak ip sd bs ac cc Fc par.length H1 N1 K1 qg) ?_
   clear H H1 N1 K1
   rintro _ aiu ⟨ME,Zx,AY,acy,Ut,rfl,N,H⟩
   refine ⟨H.pick (zR 4 4) [0,1],(ro 8 rfl ?_)⟩
   have H1:=H.yl 8 2 [0,1,2,3,4,5,6,7] [0,1] qo qo
   have N1:Fresh _ (aF::Ns):=N
   have K1:Kept (Ns) ((xy true aF bD rules)::Γ):=K0.behind 1 rfl
   replace K1:=K1.cons (F:=aF) 0 rfl rfl
   refine zL #[pp bs 0,yI kk,yI 2] rfl rfl call183 (Q3 ak ME Zx bs ac cc Fc kk (2:Int) H1 N1 K1 qg qg qg) ?_
   clear H H1 N1 K1
   rintro _ atd ⟨VY,aaj,AH,Ak,ao3,A7,YN,ada,rfl,N,H⟩
   obtain rfl:=H.jC 1 rfl
   refine ⟨H.pick (zR 5 4) [0,1],(ro 19 rfl (vU [yI AY,yI 0,Sv Ak AH.length A7,Sv (aa HY 0) kk.toNat kk.toNat,Sv (aa vD 0) kk.toNat kk.toNat,yN,yN,yN,Bv false] [(0,yI AY),(2,Sv Ak AH.length A7),(3,Sv (aa HY 0) kk.toNat kk.toNat),(4,Sv (aa vD 0) kk.toNat kk.toNat)] (⟨H.pick (zR 5 4) [0,1],(ro 21 rfl ?_)⟩)))⟩
   refine xY H 3 [yI AY,yI 0,Sv Ak AH.length A7,Sv (aa HY 0) kk.toNat kk.toNat,Sv (aa vD 0) kk.toNat kk.toNat,yN,yN,yN,Bv false] sizeOf70 fun ayM H=>?_
   dsimp only [List.set] at H
   refine ⟨H.pick (zR 5 4) [0,1],(xw qh ((meet ⟨_,ME,AY,VY,AH,DX,Ak,A7,HY,vD,aaj,uE5,acy,Ut,YN,ada,N,H.zU 9 2 [3,4,2,0,1,5,6,7,8] [0,1] qo qo⟩)))⟩
  have S:=H.jm [0,2,3,4] [0,1]
  refine rtl 0 S ?_
  refine rtl 1 S ?_
  refine rtl 3 S ?_
  refine rtl 4 S ?_
  refine rtl 5 S ?_
  refine tF 6 rfl rfl S ?_
  refine tL 7 rfl rfl (fun _ h=>h.cell 1 rfl rfl) S ?_
  refine rtl 9 S ?_
  refine rtl 10 S ?_
  refine tF 11 rfl rfl S ?_
  refine tL 12 rfl rfl (fun _ h=>h.cell 1 rfl rfl) S ?_
  refine rtl 14 S ?_
  refine rtl 15 S ?_
  refine tF 16 rfl rfl S ?_
  refine tL 17 rfl rfl (fun _ h=>h.cell 1 rfl rfl) S ?_
  refine vK [2,13,18,20] qh qm (jb rfl ?_ (jb rfl ?_ (jb rfl ?_ (jb rfl ?_ vM))))
  ·have H1:=H.yl 5 2 [1,0,2,3,4] [0,1] qo qo
   have N1:Fresh _ (aF::Ns):=N
   have K1:Kept (Ns) ((xy true aF bD rules)::Γ):=K0.behind 1 rfl
   replace K1:=K1.cons (F:=aF) 0 rfl rfl
   refine zL #[pp bs 0,yI par.length] rfl rfl call43 (yM ak ip sd bs ac cc Fc par.length H1 N1 K1 qg) ?_
   clear H H1 N1 K1
   rintro _ aln ⟨qt,Av,tw,sY,sI,rfl,N,H⟩
   refine ⟨H.pick (zR 1 4) [0,1],(vK [8,13,18,20] qh qm (jb rfl ?_ (jb rfl ?_ (jb rfl ?_ (jb rfl ?_ vM)))))⟩
   ·have H1:=H.yl 5 2 [0,1,2,3,4] [0,1] qo qo
    have N1:Fresh _ (aF::Ns):=N
    have K1:Kept (Ns) ((xy true aF bD rules)::Γ):=K0.behind 1 rfl
    replace K1:=K1.cons (F:=aF) 0 rfl rfl
    refine zL #[pp bs 0,yI kk,yI 2] rfl rfl call183 (Q3 ak qt Av bs ac cc Fc kk (2:Int) H1 N1 K1 qg qg qg) ?_
    clear H H1 N1 K1
    rintro _ al8 ⟨DU,E8,Gs,Er,anf,FJ,ES,E7,rfl,N,H⟩
    obtain rfl:=H.jC 1 rfl
    refine ⟨H.pick (zR 2 4) [0,1],(vK [13,18,20] qh qm (jb rfl ?_ (jb rfl ?_ (jb rfl ?_ vM))))⟩
    ·refine zV H underlying24 ti2 kk.toNat rfl rfl qf qf qf fun ajc aw4 H=>⟨H.pick (zR 3 4) [0,1],(jS L45 ⟨_,qt,tw,DU,Gs,Er,FJ,ajc,E8,uE8,sY,sI,ES,E7,N,H⟩)⟩
    ·refine zV H underlying24 ti2 kk.toNat rfl rfl qf qf qf fun aj2 ay9 H=>⟨H.pick (zR 3 4) [0,1],(jS L67 ⟨_,qt,tw,DU,Gs,Er,FJ,aj2,E8,uE8,sY,sI,ES,E7,N,H⟩)⟩
    refine xq H ti70 [yI 0,yI 0,yN,yN,yN,yN,yN,yN,Bv false] fun aj3 arP H=>⟨H.pick (zR 3 4) [0,1],(jS L89 ⟨_,qt,tw,DU,Gs,Er,FJ,aj3,E8,uE9,sY,sI,ES,E7,N,H⟩)⟩
   ·refine zV H underlying24 ti2 kk.toNat rfl rfl qf qf qf fun aeH azm H=>⟨H.pick (zR 2 4) [0,1],(jS TM ⟨_,qt,tw,aeH,Av,uE9,sY,sI,N,H⟩)⟩
   ·refine zV H underlying24 ti2 kk.toNat rfl rfl qf qf qf fun ajb awx H=>⟨H.pick (zR 2 4) [0,1],(jS SA ⟨_,qt,tw,ajb,Av,uE9,sY,sI,N,H⟩)⟩
   refine xq H ti70 [yI 0,yI 0,yN,yN,yN,yN,yN,yN,Bv false] fun af9 avd H=>⟨H.pick (zR 2 4) [0,1],(jS SO ⟨_,qt,tw,af9,Av,uE10,sY,sI,N,H⟩)⟩
  ·refine zV H underlying24 ti2 kk.toNat rfl rfl qf qf qf fun OH atY H=>⟨H.pick [1,3,4,5] [0,1],(vK [2,18,20] qh qm (jb rfl ?_ (jb rfl ?_ (jb rfl ?_ vM))))⟩
   ·have H1:=H.yl 6 2 [2,0,1,3,4,5] [0,1] qo qo
    have N1:Fresh _ (aF::Ns):=N
    have K1:Kept (Ns) ((xy true aF bD rules)::Γ):=K0.behind 1 rfl
    replace K1:=K1.cons (F:=aF) 0 rfl rfl
    refine zL #[pp bs 0,yI par.length] rfl rfl call43 (yM ak ip sd bs ac cc Fc par.length H1 N1 K1 qg) ?_
    clear H H1 N1 K1
    rintro _ auY ⟨abM,Xs,S4,ZS,S7,rfl,N,H⟩
    refine ⟨H.pick (zR 2 4) [0,1],(jS TM ⟨_,abM,S4,OH,Xs,uE9,ZS,S7,N,H.zU 6 2 [1,0,2,3,4,5] [0,1] qo qo⟩)⟩
   ·refine zV H underlying24 ti2 kk.toNat rfl rfl qf qf qf fun aiS atV H=>⟨H.pick [2,4,5,6] [0,1],(jS TO ⟨_,OH,aiS,uE10,N,H⟩)⟩
   refine xq H ti70 [yI 0,yI 0,yN,yN,yN,yN,yN,yN,Bv false] fun ae3 avg H=>⟨H.pick [2,4,5,6] [0,1],(jS T0 ⟨_,OH,ae3,uE11,N,H⟩)⟩
  ·refine zV H underlying24 ti2 kk.toNat rfl rfl qf qf qf fun NZ aul H=>⟨H.pick [1,3,4,5] [0,1],(vK [2,13,20] qh qm (jb rfl ?_ (jb rfl ?_ (jb rfl ?_ vM))))⟩
   ·have H1:=H.yl 6 2 [2,0,1,3,4,5] [0,1] qo qo
    have N1:Fresh _ (aF::Ns):=N
    have K1:Kept (Ns) ((xy true aF bD rules)::Γ):=K0.behind 1 rfl
    replace K1:=K1.cons (F:=aF) 0 rfl rfl
    refine zL #[pp bs 0,yI par.length] rfl rfl call43 (yM ak ip sd bs ac cc Fc par.length H1 N1 K1 qg) ?_
    clear H H1 N1 K1
    rintro _ axs ⟨acA,abH,TQ,R9,R8,rfl,N,H⟩
    refine ⟨H.pick (zR 2 4) [0,1],(jS SA ⟨_,acA,TQ,NZ,abH,uE9,R9,R8,N,H.zU 6 2 [1,0,2,3,4,5] [0,1] qo qo⟩)⟩
   ·refine zV H underlying24 ti2 kk.toNat rfl rfl qf qf qf fun agk asM H=>⟨H.pick [2,4,5,6] [0,1],(jS TO ⟨_,agk,NZ,uE10,N,H.zU 7 2 (1::0::zR 2 5) [0,1] qo qo⟩)⟩
   refine xq H ti70 [yI 0,yI 0,yN,yN,yN,yN,yN,yN,Bv false] fun agh ayk H=>⟨H.pick [2,4,5,6] [0,1],(jS SH ⟨_,NZ,agh,uE11,N,H⟩)⟩
  refine xq H ti70 [yI 0,yI 0,yN,yN,yN,yN,yN,yN,Bv false] fun MX arQ H=>⟨H.pick [1,3,4,5] [0,1],(vK [2,13,18] qh qm (jb rfl ?_ (jb rfl ?_ (jb rfl ?_ vM))))⟩
  ·have H1:=H.yl 6 2 [2,0,1,3,4,5] [0,1] qo qo
   have N1:Fresh _ (aF::Ns):=N
   have K1:Kept (Ns) ((xy true aF bD rules)::Γ):=K0.behind 1 rfl
   replace K1:=K1.cons (F:=aF) 0 rfl rfl
   refine zL #[pp bs 0,yI par.length] rfl rfl call43 (yM ak ip sd bs ac cc Fc par.length H1 N1 K1 qg) ?_
   clear H H1 N1 K1
   rintro _ asT ⟨abg,V7,aar,aaC,Ux,rfl,N,H⟩
   refine ⟨H.pick (zR 2 4) [0,1],(jS SO ⟨_,abg,aar,MX,V7,uE10,aaC,Ux,N,H.zU 6 2 [1,0,2,3,4,5] [0,1] qo qo⟩)⟩
  ·refine zV H underlying24 ti2 kk.toNat rfl rfl qf qf qf fun afh atR H=>⟨H.pick [2,4,5,6] [0,1],(jS T0 ⟨_,afh,MX,uE11,N,H.zU 7 2 (1::0::zR 2 5) [0,1] qo qo⟩)⟩
  refine zV H underlying24 ti2 kk.toNat rfl rfl qf qf qf fun aeI auR H=>⟨H.pick [2,4,5,6] [0,1],(jS SH ⟨_,aeI,MX,uE11,N,H.zU 7 2 (1::0::zR 2 5) [0,1] qo qo⟩)⟩
 clear H N
 rintro ρ awT ⟨xE,Ua,kz,Hx,hX,b7,kP,mv,np,ls,FZ,rfl,amF,apo,aqq,anp,N,H⟩
 refine t_n (zcr (sq 3 (oF rfl (oL rfl (H.cell 6 rfl rfl) ?_))))
 have H1:=H.yl 9 2 [3,0,1,2,4,5,6,7,8] [0,1] qo qo
 have N1:Fresh _ (aF::Ns):=N
 have K1:Kept (Ns) ((xy true aF bD rules)::Γ):=K0.behind 1 rfl
 replace K1:=K1.cons (F:=aF) 0 rfl rfl
 refine sw (zL #[pp bs 0,yI kk,yI 2] rfl rfl call141 (dFew_ok ak Hx FZ bs ac cc Fc kk (2:Int) H1 N1 K1 qg qg qg) ?_)
 clear H H1 N1 K1
 rintro _ auV ⟨UV,acq,aY,bI,ap8,bH,apV,aqm,rfl,N,H⟩
 obtain rfl:=H.jC 1 rfl
 refine oF rfl (sw (xH H 2 [yI kz,yI 0,Sv kP hX.length mv,Sv (aa np 0) kk.toNat kk.toNat,Sv (aa ls 0) kk.toNat kk.toNat,Sv bI aY.length bH,yN,yN,Bv false] sizeOf24 fun akY H=>?_))
 dsimp only [List.set] at H
 refine zjc (sq 3 (oF rfl (oL rfl (H.cell 7 rfl rfl) ?_)))
 have H1:=H.yl 10 2 [0,1,2,3,4,5,6,7,8,9] [0,1] qo qo
 have N1:Fresh _ (aF::Ns):=N
 have K1:Kept (Ns) ((xy true aF bD rules)::Γ):=K0.behind 1 rfl
 replace K1:=K1.cons (F:=aF) 0 rfl rfl
 refine sw (zL #[pp bs 0,yI kk,yI 1] rfl rfl call141 (dFew_ok ak UV acq bs ac cc Fc kk (1:Int) H1 N1 K1 qg qg qg) ?_)
 clear H H1 N1 K1
 rintro _ azc ⟨U0,Wu,bh,bO,aqC,bM,aqt,apO,rfl,N,H⟩
 obtain rfl:=H.jC 1 rfl
 refine oF rfl (sw (xH H 3 [yI kz,yI 0,Sv kP hX.length mv,Sv (aa np 0) kk.toNat kk.toNat,Sv (aa ls 0) kk.toNat kk.toNat,Sv bI aY.length bH,Sv bO bh.length bM,yN,Bv false] sizeOf24 fun WD H=>?_))
 dsimp only [List.set] at H
 refine zjcc (sq 1 ?_)
 have H1:=H.yl 11 2 [0,1,2,3,4,5,6,7,8,9,10] [0,1] qo qo
 have N1:Fresh _ (aF::Ns):=N
 have K1:Kept (Ns) ((xy true aF bD rules)::Γ):=K0.behind 1 rfl
 replace K1:=K1.cons (F:=aF) 0 rfl rfl
 refine sw (zL #[pp bs 0,yI 5] rfl rfl call41 (Vg ak U0 Wu bs ac cc Fc (5:Int) H1 N1 K1 qg) ?_)
 clear H H1 N1 K1
 rintro _ aeA ⟨KA,Ln,anP,apx,rfl,N,H⟩
 refine zjn (VP (fun ρ w477=>∃ (xE:Env) (bw:Int) (aJ:Int) (yX:yOA) (yU:Nat) (yV:Nat) (iN:yLI),ρ=upd (upd (upd (upd (upd xE 0 (pp bs 0)) 1 (pp bY 0)) 4 (pp b1 0)) 5 (yI par.length)) 6 (pp b7 0)/\(vT kk 1 iN)/\(ip<=bw/\bw<=ip+92)/\Fresh W0.heap.size (aF::Ns)/\St W0 w477 ((.box bs [Sv ac ak.length cc,yI bw,.int .u64 aJ] 115)::(rr bO bh.length bM 2 1 (bh.map (Value.int .i64)))::(rr bI aY.length bH 2 1 (aY.map (Value.int .i64)))::(.box b7 [yI kz,yI 0,Sv kP hX.length mv,Sv yX yU yV,Sv (aa ls 0) kk.toNat kk.toNat,Sv bI aY.length bH,Sv bO bh.length bM,yN,Bv false] 70)::(rr (aa ls 0) kk.toNat kk.toNat 2 1 ((List.replicate kk.toNat (0:Int)).map (Value.int .i64)))::(rr yX yU yV 2 1 (iN.map (Value.int .i64)))::(rr kP hX.length mv 2 1 (hX.map (Value.int .i64)))::(.box b1 [yI 0,yI 0,yN,yN,yN,yN,yN,yN,Bv false] 70)::(.box bY [yI kk,Sv fg par.length fl,Sv fk rules.length fm] 27)::(rr fg par.length fl 2 1 (par.map (Value.int .i64)))::(rr fk rules.length fm 70 9 bD)::ps) ((sF false Fc ac cc ak)::(xy true aF bD rules)::Γ)) ?_ ?_)
 ·refine zT _ rfl (fun ak6=>?_) (fun ak6=>?_)
  ·refine xJ (sq 3 (oF rfl (oL rfl (H.cell 8 rfl rfl) ?_)))
   have H1:=H.yl 11 2 [0,1,2,3,4,5,6,7,8,9,10] [0,1] qo qo
   have N1:Fresh _ (aF::Ns):=N
   have K1:Kept (Ns) ((xy true aF bD rules)::Γ):=K0.behind 1 rfl
   replace K1:=K1.cons (F:=aF) 0 rfl rfl
   refine sw (zL #[pp bs 0,yI kk,yI 1] rfl rfl call183 (Q3 ak KA Ln bs ac cc Fc kk (1:Int) H1 N1 K1 qg qg qg) ?_)
   clear H H1 N1 K1
   rintro _ ax4 ⟨abd,aca,Fd,L9,aoN,Le,amZ,anS,rfl,N,H⟩
   obtain rfl:=H.jC 1 rfl
   refine oF rfl (sw (xH H 4 [yI kz,yI 0,Sv kP hX.length mv,Sv L9 Fd.length Le,Sv (aa ls 0) kk.toNat kk.toNat,Sv bI aY.length bH,Sv bO bh.length bM,yN,Bv false] sizeOf24 fun ayo H=>?_))
   dsimp only [List.set] at H
   refine xO (meet ⟨_,abd,aca,L9,Fd.length,Le,Fd,uE5,?_,?_,N,H.zU 12 2 [0,2,3,4,5,1,7,8,9,10,11] [0,1] qo qo⟩)
   ·exact (‹vT kk 1 _/\_›).1
   ·omega
  refine qV (meet ⟨_,KA,Ln,(aa np 0),kk.toNat,kk.toNat,(List.replicate kk.toNat (0:Int)),uE5,?_,?_,N,H⟩)
  ·exact vT.zero qf qf
  ·omega
 clear H N
 rintro ρ ary ⟨xE,bw,aJ,yX,yU,yV,iN,rfl,jh,jhp,N,H⟩
 refine t_n (zcc (sq 1 ?_))
 have H1:=H.yl 11 2 [0,1,2,3,4,5,6,7,8,9,10] [0,1] qo qo
 have N1:Fresh _ (aF::Ns):=N
 have K1:Kept (Ns) ((xy true aF bD rules)::Γ):=K0.behind 1 rfl
 replace K1:=K1.cons (F:=aF) 0 rfl rfl
 refine sw (zL #[pp bs 0,yI 5] rfl rfl call41 (Vg ak bw aJ bs ac cc Fc (5:Int) H1 N1 K1 qg) ?_)
 clear H H1 N1 K1
 rintro _ avS ⟨MV,Md,anA,aoO,rfl,N,H⟩
 refine zjn (VP (fun ρ w497=>∃ (xE:Env) (bn:Int) (bB:Int) (Qj:yOA) (Qh:Nat) (Qi:Nat) (lA:yLI),ρ=upd (upd (upd (upd (upd xE 0 (pp bs 0)) 1 (pp bY 0)) 4 (pp b1 0)) 5 (yI par.length)) 6 (pp b7 0)/\(vT kk 1 lA)/\(ip<=bn/\bn<=ip+118)/\Fresh W0.heap.size (aF::Ns)/\St W0 w497 ((.box bs [Sv ac ak.length cc,yI bn,.int .u64 bB] 115)::(rr bO bh.length bM 2 1 (bh.map (Value.int .i64)))::(rr bI aY.length bH 2 1 (aY.map (Value.int .i64)))::(.box b7 [yI kz,yI 0,Sv kP hX.length mv,Sv yX yU yV,Sv Qj Qh Qi,Sv bI aY.length bH,Sv bO bh.length bM,yN,Bv false] 70)::(rr Qj Qh Qi 2 1 (lA.map (Value.int .i64)))::(rr yX yU yV 2 1 (iN.map (Value.int .i64)))::(rr kP hX.length mv 2 1 (hX.map (Value.int .i64)))::(.box b1 [yI 0,yI 0,yN,yN,yN,yN,yN,yN,Bv false] 70)::(.box bY [yI kk,Sv fg par.length fl,Sv fk rules.length fm] 27)::(rr fg par.length fl 2 1 (par.map (Value.int .i64)))::(rr fk rules.length fm 70 9 bD)::ps) ((sF false Fc ac cc ak)::(xy true aF bD rules)::Γ)) ?_ ?_)
 ·refine zT _ rfl (fun Pk=>?_) (fun Pk=>?_)
  ·refine xJ (sq 3 (oF rfl (oL rfl (H.cell 8 rfl rfl) ?_)))
   have H1:=H.yl 11 2 [0,1,2,3,4,5,6,7,8,9,10] [0,1] qo qo
   have N1:Fresh _ (aF::Ns):=N
   have K1:Kept (Ns) ((xy true aF bD rules)::Γ):=K0.behind 1 rfl
   replace K1:=K1.cons (F:=aF) 0 rfl rfl
   refine sw (zL #[pp bs 0,yI kk,yI 1] rfl rfl call183 (Q3 ak MV Md bs ac cc Fc kk (1:Int) H1 N1 K1 qg qg qg) ?_)
   clear H H1 N1 K1
   rintro _ arV ⟨WX,T3,D3,KO,aoL,Kw,apF,amE,rfl,N,H⟩
   obtain rfl:=H.jC 1 rfl
   refine oF rfl (sw (xH H 4 [yI kz,yI 0,Sv kP hX.length mv,Sv yX yU yV,Sv KO D3.length Kw,Sv bI aY.length bH,Sv bO bh.length bM,yN,Bv false] sizeOf24 fun awN H=>?_))
   dsimp only [List.set] at H
   refine xO (meet ⟨_,WX,T3,KO,D3.length,Kw,D3,uE5,?_,?_,N,H.zU 12 2 (0::2::3::4::1::zR 6 6) [0,1] qo qo⟩)
   ·exact (‹vT kk 1 _/\_›).1
   ·omega
  refine qV (meet ⟨_,MV,Md,(aa ls 0),kk.toNat,kk.toNat,(List.replicate kk.toNat (0:Int)),uE5,?_,?_,N,H⟩)
  ·exact vT.zero qf qf
  ·omega
 clear H N
 rintro ρ axg ⟨xE,bn,bB,Qj,Qh,Qi,lA,rfl,jl,jlp,N,H⟩
 refine t_n (zcc (sq 1 ?_))
 have H1:=H.yl 11 2 [0,1,2,3,4,5,6,7,8,9,10] [0,1] qo qo
 have N1:Fresh _ (aF::Ns):=N
 have K1:Kept (Ns) ((xy true aF bD rules)::Γ):=K0.behind 1 rfl
 replace K1:=K1.cons (F:=aF) 0 rfl rfl
 refine sw (zL #[pp bs 0,yI 4] rfl rfl call41 (Vg ak bn bB bs ac cc Fc (4:Int) H1 N1 K1 qg) ?_)
 clear H H1 N1 K1
 rintro _ ar5 ⟨MM,K5,anu,apI,rfl,N,H⟩
 refine zjn (VP (fun ρ w517=>∃ (xE:Env) (lI:Int) (nJ:Int) (bQ:Int),ρ=upd (upd (upd (upd (upd xE 0 (pp bs 0)) 1 (pp bY 0)) 4 (pp b1 0)) 5 (yI par.length)) 6 (pp b7 0)/\(0<=bQ/\bQ<=2)/\(ip<=lI/\lI<=ip+122)/\Fresh W0.heap.size (aF::Ns)/\St W0 w517 ((.box bs [Sv ac ak.length cc,yI lI,.int .u64 nJ] 115)::(rr bO bh.length bM 2 1 (bh.map (Value.int .i64)))::(rr bI aY.length bH 2 1 (aY.map (Value.int .i64)))::(.box b7 [yI kz,yI bQ,Sv kP hX.length mv,Sv yX yU yV,Sv Qj Qh Qi,Sv bI aY.length bH,Sv bO bh.length bM,yN,Bv false] 70)::(rr Qj Qh Qi 2 1 (lA.map (Value.int .i64)))::(rr yX yU yV 2 1 (iN.map (Value.int .i64)))::(rr kP hX.length mv 2 1 (hX.map (Value.int .i64)))::(.box b1 [yI 0,yI 0,yN,yN,yN,yN,yN,yN,Bv false] 70)::(.box bY [yI kk,Sv fg par.length fl,Sv fk rules.length fm] 27)::(rr fg par.length fl 2 1 (par.map (Value.int .i64)))::(rr fk rules.length fm 70 9 bD)::ps) ((sF false Fc ac cc ak)::(xy true aF bD rules)::Γ)) ?_ ?_)
 ·refine zT _ rfl (fun aiP=>?_) (fun aiP=>?_)
  ·refine xJ (sq 1 ?_)
   have H1:=H.yl 11 2 [0,1,2,3,4,5,6,7,8,9,10] [0,1] qo qo
   have N1:Fresh _ (aF::Ns):=N
   have K1:Kept (Ns) ((xy true aF bD rules)::Γ):=K0.behind 1 rfl
   replace K1:=K1.cons (F:=aF) 0 rfl rfl
   refine sw (zL #[pp bs 0,yI 3] rfl rfl call43 (yM ak MM K5 bs ac cc Fc (3:Int) H1 N1 K1 qg) ?_)
   clear H H1 N1 K1
   rintro _ ati ⟨R4,acz,LY,ao6,amX,rfl,N,H⟩
   refine oF rfl (sw (xH H 3 [yI kz,yI LY,Sv kP hX.length mv,Sv yX yU yV,Sv Qj Qh Qi,Sv bI aY.length bH,Sv bO bh.length bM,yN,Bv false] sizeOf2 fun awj H=>?_))
   dsimp only [List.set] at H
   refine xO (meet ⟨_,R4,acz,LY,uE5,?_,?_,N,H⟩)
   ·omega
   ·omega
  refine qV (meet ⟨_,MM,K5,0,uE5,?_,?_,N,H⟩)
  ·omega
  ·omega
 clear H N
 rintro ρ ax2 ⟨xE,lI,nJ,bQ,rfl,jr,jrp,N,H⟩
 refine t_n (zcc (sp (yI 1) (zjn (qR ?_))))
 replace H:=H.nilRow 128 2
 replace H:=H.jo (α:=Xj)
 refine zl ((fun Z0 Z1 Z2 Z3 Z4 Z5 Z6 Z7 Z8 Z9 bx=>fun m' ρ agP=>∃ (xE:Env) (c:Nat) (gJ:Int) (fK:Int) (Xm:yOA) (yF:Nat) (Xl:Nat) (es:List Xj) (cr:List Value) (yc:yLN),ρ=upd (upd (upd (upd (upd (upd xE 0 (pp bs 0)) 1 (pp bY 0)) 4 (pp b1 0)) 5 (yI par.length)) 6 (pp b7 0)) 7 (yI c)/\((c:Int)<=par.length)/\(ip<=gJ/\gJ<=ip+126+26 * c)/\(1<=(c:Int))/\(es.length<=3/\IntoDr kk par kz es c)/\m' =(par.length - (c:Int)).toNat/\Fresh W0.heap.size (aF::yc::Ns)/\St W0 agP ((rr Xm yF Xl 128 2 cr)::(.box bs [Sv ac ak.length cc,yI gJ,.int .u64 fK] 115)::Z0::Z1::(.box b7 [yI kz,yI bQ,Sv kP hX.length mv,Sv yX yU yV,Sv Qj Qh Qi,Sv bI aY.length bH,Sv bO bh.length bM,Sv Xm yF Xl,Bv false] 70)::Z2::Z3::Z4::Z5::Z6::Z7::Z8::ps) ((xy true yc cr es)::Z9::bx::Γ)) _ _ _ _ _ _ _ _ _ _ _) ((par.length - (1:Int)).toNat) ⟨_,1,lI,nJ,none,0,0,([]:List Xj),[],[],uE6,qf,qf,qf,(by exact ⟨by simp,IntoDr.nil _ _ _ _⟩),rfl,(N.emp.zU 2 [1,0] qo),H⟩ ?_
 clear H N
 rintro m' ρ as4 ⟨xE,c,gJ,fK,Xm,yF,Xl,es,cr,yc,rfl,i0,i1,i2,i3,rfl,N,H⟩
 have Rh:=H.zg (α:=Xj) 0 rfl 0 rfl qj
 refine zcc (sp (yI c) (sq 2 (zjn (cD rfl (fun ahe=>?_) (fun ahe=>?_)))))
 ·refine qV (t_n (xQ (qR (zcr (sq 1 (sp (yI c) (oF rfl (oL rfl (H.cell 4 rfl rfl) ?_))))))))
  obtain ⟨auA,ann,agp⟩:=H.yH 10 rfl
  obtain ⟨arN,apQ,ahz⟩:=H.jY (α:=vS) 11 rfl 2 rfl qj
  have c1:QU (⟨kk,par,rules⟩:qC) c:=⟨by show (0:Int)<=c;omega,by show (c:Int)<=(par.length:Int) - 1;omega⟩
  refine sw (oq (l02In_ok _ (⟨kk,par,rules⟩:qC) c kz (qF (H.cells 9 rfl) 0 3) agp ahz ql ql) H fun aw6 H=>sp (Bv (dec (Lies (⟨kk,par,rules⟩:qC).qA kz c))) ?_)
  cases J5:(dec (Lies (⟨kk,par,rules⟩:qC).qA kz c))
  ·replace J5:=zM J5
   refine xR (zR 81 4) (sp (Bv false) (sp (Bv false) (xR [87,88] (sp (Bv false) (zjn (cFr rfl (qV (b_n (t_n (xJ (sp (yI c) (sw (zn c 1 rfl rfl qf (sq 1 (xO (qX (m' :=(par.length - ((c+1):Int)).toNat) qf ⟨_,c+1,_,_,_,_,_,_,_,_,uE6,?_,?_,?_,?_,rfl,N,H⟩))))))))))))))))
   ·omega
   ·omega
   ·omega
   ·exact ⟨by omega,i3.2.mono qf⟩
  replace J5:=yG J5
  refine qJ 80 rfl rfl (oF rfl (qJ 80 rfl rfl (oL rfl (H.cell 4 rfl rfl) (qJ 80 rfl rfl (oN rfl (qJ 80 rfl rfl (sp (Bv (decide ((yF:Int) < 3))) (sp (Bv (decide ((yF:Int) < 3))) (sp (Bv (decide ((yF:Int) < 3))) ?_)))))))))
  cases Iw:(decide ((yF:Int) < 3))
  ·replace Iw:=of_decide_eq_false Iw
   refine xR [87,88] (sp (Bv false) (zjn (cFr rfl (qV (b_n (t_n (xJ (sp (yI c) (sw (zn c 1 rfl rfl qf (sq 1 (xO (qX (m' :=(par.length - ((c+1):Int)).toNat) qf ⟨_,c+1,_,_,_,_,_,_,_,_,uE6,?_,?_,?_,?_,rfl,N,H⟩)))))))))))))
   ·omega
   ·omega
   ·omega
   ·exact ⟨by omega,i3.2.mono qf⟩
  replace Iw:=of_decide_eq_true Iw
  refine qJ 86 rfl rfl (sq 1 (qJ 86 rfl rfl ?_))
  have H1:=H.yl 12 3 [1,0,2,3,4,5,6,7,8,9,10,11] [1,0,2] qo qo
  have N1:Fresh _ (aF::yc::Ns):=N
  have K1:Kept (Ns) ((xy true yc cr es)::(xy true aF bD rules)::Γ):=K0.behind 2 rfl
  replace K1:=K1.cons (F:=yc) 0 rfl rfl
  replace K1:=K1.cons (F:=aF) 1 rfl rfl
  refine sw (zL #[pp bs 0,yI 3] rfl rfl call41 (Vg ak gJ fK bs ac cc Fc (3:Int) H1 N1 K1 qg) ?_)
  clear H H1 N1 K1
  rintro _ ay6 ⟨Bw,LC,KE,aqb,rfl,N,H⟩
  refine sp (Bv KE) (zjn (zT _ rfl (fun alO=>?_) (fun alO=>?_)))
  ·refine VP (fun ρ w556=>∃ (xE:Env) (AI:Int) (rU:yLI) (L7:Int) (O0:yOA) (Og:Nat) (Az:yOA) (zc:Nat) (IZ:yLN),ρ=upd (upd (upd (upd (upd (upd (upd (upd (upd (upd (upd (upd xE 0 (pp bs 0)) 1 (pp bY 0)) 4 (pp b1 0)) 5 (yI par.length)) 6 (pp b7 0)) 7 (yI c)) 81 (pp b7 (0+7))) 82 (Sv Xm yF Xl)) 83 (yI yF)) 84 (Bv true)) 87 (pp bs 0)) 88 (Bv KE)/\(Bw<=AI/\AI<=Bw+24)/\(vT kk (1:Int) rU/\QS rU≠0)/\Fresh W0.heap.size ((yc++IZ)::aF::Ns)/\St W0 w556 ((.box bs [Sv ac ak.length cc,yI AI,.int .u64 L7] 115)::(rr O0 (yF+1) Og 128 2 (cr++[yI c,Sv Az rU.length zc]))::(rr bO bh.length bM 2 1 (bh.map (Value.int .i64)))::(rr bI aY.length bH 2 1 (aY.map (Value.int .i64)))::(.box b7 [yI kz,yI bQ,Sv kP hX.length mv,Sv yX yU yV,Sv Qj Qh Qi,Sv bI aY.length bH,Sv bO bh.length bM,Sv O0 (yF+1) Og,Bv false] 70)::(rr Qj Qh Qi 2 1 (lA.map (Value.int .i64)))::(rr yX yU yV 2 1 (iN.map (Value.int .i64)))::(rr kP hX.length mv 2 1 (hX.map (Value.int .i64)))::(.box b1 [yI 0,yI 0,yN,yN,yN,yN,yN,yN,Bv false] 70)::(.box bY [yI kk,Sv fg par.length fl,Sv fk rules.length fm] 27)::(rr fg par.length fl 2 1 (par.map (Value.int .i64)))::(rr fk rules.length fm 70 9 bD)::ps) ((xy true (yc++IZ) (cr++[yI c,Sv Az rU.length zc]) (es++[(⟨c,rU⟩:Xj)]))::(sF true IZ Az zc rU)::(sF false Fc ac cc ak)::(xy true aF bD rules)::Γ)) ?_ ?_
   ·refine QT rfl H [2,3,5,6,7,8,9,10,11] [0,1,2] fun H=>?_
    have S:=H.jm (2::3::zR 5 7) [0,1,2]
    refine tF 0 rfl rfl S ?_
    refine rtp 2 (yI c) S ?_
    refine rtl 3 S ?_
    refine rtl 4 S ?_
    refine rtl 5 S ?_
    refine tF 6 rfl rfl S ?_
    refine tL 7 rfl rfl (fun _ h=>h.cell 6 rfl rfl) S ?_
    refine vK [1,8] qh qm (jb rfl ?_ (jb rfl ?_ vM))
    ·refine x9 (Sv Xm yF Xl) isAgg68 rfl (H.cell 4 rfl rfl) (⟨H.pick (2::3::zR 5 7) [0,1,2],(ro 8 rfl ?_)⟩)
     have H1:=H.yl 12 3 [0,1,2,3,4,5,6,7,8,9,10,11] [0,1,2] qo qo
     have N1:Fresh _ (aF::yc::Ns):=N
     have K1:Kept (Ns) ((xy true yc cr es)::(xy true aF bD rules)::Γ):=K0.behind 2 rfl
     replace K1:=K1.cons (F:=yc) 0 rfl rfl
     replace K1:=K1.cons (F:=aF) 1 rfl rfl
     refine zL #[pp bs 0,yI kk,yI 1] rfl rfl call183 (Q3 ak Bw LC bs ac cc Fc kk (1:Int) H1 N1 K1 qg qg qg) ?_
     clear H H1 N1 K1
     rintro _ azh ⟨abK,Tg,AN,AA,amI,AC,abU,VT,rfl,N,H⟩
     obtain rfl:=H.jC 1 rfl
     refine ⟨H.pick (3::4::zR 6 7) [0,1,2],(ro 9 rfl (vU [yI c,Sv AA AN.length AC] [(0,yI c),(1,Sv AA AN.length AC)] (⟨H.pick (3::4::zR 6 7) [0,1,2],(ro 10 rfl (zf H underlying68 ti128 [yI c,Sv AA AN.length AC] fun ay4 aro H=>⟨H.pick (4::5::zR 7 7) [0,1,2],(ro 11 rfl ?_)⟩))⟩)))⟩
     obtain ⟨abJ,N,aoK,H⟩:=H.zN 2 rfl N (fun F hF b hb=>(List.mem_append.1 (show F∈[aF,yc]++Ns from hF)).elim (fun h=>(H.jA (L:=[aF,yc]) [2,1]) F h b hb) fun h=>H.QG (K0.behind 3 rfl) F h b hb)
     dsimp only [List.set] at H
     refine zo H 3 rfl 0 rfl underlying68 ti128 rfl qj rfl rfl rfl qw qp qf fun Vc R7 aw3 H=>?_
     dsimp only [List.set] at H
     replace H:=H.snoc_IntoD 2 rfl c 0 rfl
     replace N:Fresh W0.heap.size ((yc++abJ)::aF::Ns):=(N.zU 3 [2,0,1] qo).join
     refine ⟨H.pick (4::5::zR 7 7) [2,3,4],(tF 12 rfl rfl (H.pick (4::5::zR 7 7) [2,3,4]) ?_)⟩
     refine ro 13 rfl (xH H 6 [yI kz,yI bQ,Sv kP hX.length mv,Sv yX yU yV,Sv Qj Qh Qi,Sv bI aY.length bH,Sv bO bh.length bM,Sv Vc (yF+1) R7,Bv false] sizeOf68 fun awo H=>?_)
     dsimp only [List.set] at H
     refine ⟨H.pick (4::5::zR 7 7) [2,3,4],(xw qh ((meet ⟨_,abK,AN,Tg,Vc,R7,AA,AC,abJ,uE12,abU,VT,N,H.zU 14 5 (1::zR 3 11) [0,1,2,4] qo qo⟩)))⟩
    have H1:=H.yl 12 3 [0,1,2,3,4,5,6,7,8,9,10,11] [0,1,2] qo qo
    have N1:Fresh _ (aF::yc::Ns):=N
    have K1:Kept (Ns) ((xy true yc cr es)::(xy true aF bD rules)::Γ):=K0.behind 2 rfl
    replace K1:=K1.cons (F:=yc) 0 rfl rfl
    replace K1:=K1.cons (F:=aF) 1 rfl rfl
    refine zL #[pp bs 0,yI kk,yI 1] rfl rfl call183 (Q3 ak Bw LC bs ac cc Fc kk (1:Int) H1 N1 K1 qg qg qg) ?_
    clear H H1 N1 K1
    rintro _ av2 ⟨DN,EA,kO,kT,aqy,kW,GK,GU,rfl,N,H⟩
    obtain rfl:=H.jC 1 rfl
    refine ⟨H.pick (3::4::zR 6 7) [0,1,2],(vK [1,9] qh qm (jb rfl ?_ (jb rfl ?_ vM)))⟩
    ·refine x9 (Sv Xm yF Xl) isAgg68 rfl (H.cell 5 rfl rfl) (⟨H.pick (3::4::zR 6 7) [0,1,2],(ro 9 rfl (vU [yI c,Sv kT kO.length kW] [(0,yI c),(1,Sv kT kO.length kW)] (⟨H.pick (3::4::zR 6 7) [0,1,2],(ro 10 rfl (zf H underlying68 ti128 [yI c,Sv kT kO.length kW] fun atZ ar9 H=>⟨H.pick (4::5::zR 7 7) [0,1,2],(ro 11 rfl ?_)⟩))⟩)))⟩)
     obtain ⟨Yp,N,apL,H⟩:=H.zN 2 rfl N (fun F hF b hb=>(List.mem_append.1 (show F∈[aF,yc]++Ns from hF)).elim (fun h=>(H.jA (L:=[aF,yc]) [2,1]) F h b hb) fun h=>H.QG (K0.behind 3 rfl) F h b hb)
     dsimp only [List.set] at H
     refine zo H 3 rfl 0 rfl underlying68 ti128 rfl qj rfl rfl rfl qw qp qf fun Vi acu avQ H=>?_
     dsimp only [List.set] at H
     replace H:=H.snoc_IntoD 2 rfl c 0 rfl
     replace N:Fresh W0.heap.size ((yc++Yp)::aF::Ns):=(N.zU 3 [2,0,1] qo).join
     refine ⟨H.pick (4::5::zR 7 7) [2,3,4],(tF 12 rfl rfl (H.pick (4::5::zR 7 7) [2,3,4]) ?_)⟩
     refine ro 13 rfl (xH H 6 [yI kz,yI bQ,Sv kP hX.length mv,Sv yX yU yV,Sv Qj Qh Qi,Sv bI aY.length bH,Sv bO bh.length bM,Sv Vi (yF+1) acu,Bv false] sizeOf68 fun avT H=>?_)
     dsimp only [List.set] at H
     refine ⟨H.pick (4::5::zR 7 7) [2,3,4],(xw qh ((meet ⟨_,DN,kO,EA,Vi,acu,kT,kW,Yp,uE12,GK,GU,N,H.zU 14 5 (1::zR 3 11) [0,1,2,4] qo qo⟩)))⟩
    refine vU [yI c,Sv kT kO.length kW] [(0,yI c),(1,Sv kT kO.length kW)] (⟨H.pick (3::4::zR 6 7) [0,1,2],(vK [1,10] qh qm (jb rfl ?_ (jb rfl ?_ vM)))⟩)
    ·refine x9 (Sv Xm yF Xl) isAgg68 rfl (H.cell 5 rfl rfl) (⟨H.pick (3::4::zR 6 7) [0,1,2],(ro 10 rfl (zf H underlying68 ti128 [yI c,Sv kT kO.length kW] fun azy auD H=>⟨H.pick (4::5::zR 7 7) [0,1,2],(ro 11 rfl ?_)⟩))⟩)
     obtain ⟨ach,N,aqe,H⟩:=H.zN 2 rfl N (fun F hF b hb=>(List.mem_append.1 (show F∈[aF,yc]++Ns from hF)).elim (fun h=>(H.jA (L:=[aF,yc]) [2,1]) F h b hb) fun h=>H.QG (K0.behind 3 rfl) F h b hb)
     dsimp only [List.set] at H
     refine zo H 3 rfl 0 rfl underlying68 ti128 rfl qj rfl rfl rfl qw qp qf fun W2 Sd avU H=>?_
     dsimp only [List.set] at H
     replace H:=H.snoc_IntoD 2 rfl c 0 rfl
     replace N:Fresh W0.heap.size ((yc++ach)::aF::Ns):=(N.zU 3 [2,0,1] qo).join
     refine ⟨H.pick (4::5::zR 7 7) [2,3,4],(tF 12 rfl rfl (H.pick (4::5::zR 7 7) [2,3,4]) ?_)⟩
     refine ro 13 rfl (xH H 6 [yI kz,yI bQ,Sv kP hX.length mv,Sv yX yU yV,Sv Qj Qh Qi,Sv bI aY.length bH,Sv bO bh.length bM,Sv W2 (yF+1) Sd,Bv false] sizeOf68 fun axL H=>?_)
     dsimp only [List.set] at H
     refine ⟨H.pick (4::5::zR 7 7) [2,3,4],(xw qh ((meet ⟨_,DN,kO,EA,W2,Sd,kT,kW,ach,uE12,GK,GU,N,H.zU 14 5 (1::zR 3 11) [0,1,2,4] qo qo⟩)))⟩
    refine zf H underlying68 ti128 [yI c,Sv kT kO.length kW] fun auS arb H=>⟨H.pick (4::5::zR 7 7) [0,1,2],(ro 1 rfl (x9 (Sv Xm yF Xl) isAgg68 rfl (H.cell 6 rfl rfl) (⟨H.pick (4::5::zR 7 7) [0,1,2],(ro 11 rfl ?_)⟩)))⟩
    obtain ⟨acd,N,amM,H⟩:=H.zN 2 rfl N (fun F hF b hb=>(List.mem_append.1 (show F∈[aF,yc]++Ns from hF)).elim (fun h=>(H.jA (L:=[aF,yc]) [2,1]) F h b hb) fun h=>H.QG (K0.behind 3 rfl) F h b hb)
    dsimp only [List.set] at H
    refine zo H 3 rfl 0 rfl underlying68 ti128 rfl qj rfl rfl rfl qw qp qf fun Yz Uj avv H=>?_
    dsimp only [List.set] at H
    replace H:=H.snoc_IntoD 2 rfl c 0 rfl
    replace N:Fresh W0.heap.size ((yc++acd)::aF::Ns):=(N.zU 3 [2,0,1] qo).join
    refine ⟨H.pick (4::5::zR 7 7) [2,3,4],(tF 12 rfl rfl (H.pick (4::5::zR 7 7) [2,3,4]) ?_)⟩
    refine ro 13 rfl (xH H 6 [yI kz,yI bQ,Sv kP hX.length mv,Sv yX yU yV,Sv Qj Qh Qi,Sv bI aY.length bH,Sv bO bh.length bM,Sv Yz (yF+1) Uj,Bv false] sizeOf68 fun axc H=>?_)
    dsimp only [List.set] at H
    refine ⟨H.pick (4::5::zR 7 7) [2,3,4],(xw qh ((meet ⟨_,DN,kO,EA,Yz,Uj,kT,kW,acd,uE12,GK,GU,N,H.zU 14 5 (1::zR 3 11) [0,1,2,4] qo qo⟩)))⟩
   clear H N
   rintro ρ ayC ⟨xE,AI,rU,L7,O0,Og,Az,zc,IZ,rfl,ape,apK,N,H⟩
   refine b_n (t_n (xJ (sp (yI c) (sw (zn c 1 rfl rfl qf (sq 1 (xO (qX (m' :=(par.length - ((c+1):Int)).toNat) qf ⟨_,c+1,_,_,_,_,_,_,_,_,uE6,?_,?_,?_,?_,rfl,(N.zU 2 [1,0] qo),H.zU 12 4 (1::0::zR 2 10) [0,2,3] qo qo⟩))))))))
   ·omega
   ·omega
   ·omega
   ·exact ⟨by simp;omega,i3.2.snoc qf ‹Lies par _ _› (‹vT kk 1 _/\_›).1 (‹vT kk 1 _/\_›).2⟩
  refine qV (b_n (t_n (xJ (sp (yI c) (sw (zn c 1 rfl rfl qf (sq 1 (xO (qX (m' :=(par.length - ((c+1):Int)).toNat) qf ⟨_,c+1,_,_,_,_,_,_,_,_,uE6,?_,?_,?_,?_,rfl,N,H.zU 12 3 (1::0::zR 2 10) [1,0,2] qo qo⟩)))))))))
  ·omega
  ·omega
  ·omega
  ·exact ⟨by omega,i3.2.mono qf⟩
 refine zx4 (zcr (oF rfl (oL rfl (H.cell 4 rfl rfl) (sp (Bv (decide ((kz:Int) > 0))) (sp (Bv (decide ((kz:Int) > 0))) ?_)))))
 cases JV:(decide ((kz:Int) > 0))
 ·replace JV:=of_decide_eq_false JV
  refine xR [107,108] (sp (Bv false) (oF rfl (sw (xH H 4 [yI kz,yI bQ,Sv kP hX.length mv,Sv yX yU yV,Sv Qj Qh Qi,Sv bI aY.length bH,Sv bO bh.length bM,Sv Xm yF Xl,Bv false] sizeOf4 fun auM H=>?_))))
  dsimp only [List.set] at H
  refine zjc (sw (xU [yI kz,yI bQ,Sv kP hX.length mv,Sv yX yU yV,Sv Qj Qh Qi,Sv bI aY.length bH,Sv bO bh.length bM,Sv Xm yF Xl,Bv false] isAgg70 sizeOf70 rfl (qF (H.cells 4 rfl) 0 9) (sw (xY H 8 [yI kz,yI bQ,Sv kP hX.length mv,Sv yX yU yV,Sv Qj Qh Qi,Sv bI aY.length bH,Sv bO bh.length bM,Sv Xm yF Xl,Bv false] sizeOf70 fun arn H=>?_))))
  dsimp only [List.set] at H
  refine zjr (retC H 8 rfl rfl isAgg70 sizeOf70 rfl ⟨_,rfl,?_⟩)
  have he:(c:Int)=par.length:=by omega
  exact ⟨gJ,fK,kz,bQ,hX,iN,lA,aY,bh,es,false,kP,hX.length,mv,yX,yU,yV,Qj,Qh,Qi,bI,aY.length,bH,bO,bh.length,bM,Xm,yF,Xl,cr,yc,qf,(by exact ruleDr_of qf qg (by exact (fun h=>by cases h)) ql jh jl ql ql ⟨i3.1,he▸i3.2⟩),rfl,N,H.zU 12 3 [1,9,10,11,7,6,5,3,2,0] [1,2,0] qo qo⟩
 replace JV:=of_decide_eq_true JV
 refine qJ 106 rfl rfl (sq 1 (qJ 106 rfl rfl ?_))
 have H1:=H.yl 12 3 [1,0,2,3,4,5,6,7,8,9,10,11] [1,0,2] qo qo
 have N1:Fresh _ (aF::yc::Ns):=N
 have K1:Kept (Ns) ((xy true yc cr es)::(xy true aF bD rules)::Γ):=K0.behind 2 rfl
 replace K1:=K1.cons (F:=yc) 0 rfl rfl
 replace K1:=K1.cons (F:=aF) 1 rfl rfl
 refine sw (zL #[pp bs 0,yI 6] rfl rfl call41 (Vg ak gJ fK bs ac cc Fc (6:Int) H1 N1 K1 qg) ?_)
 clear H H1 N1 K1
 rintro _ asf ⟨ZW,SG,uY,apM,rfl,N,H⟩
 refine sp (Bv uY) (oF rfl (sw (xH H 4 [yI kz,yI bQ,Sv kP hX.length mv,Sv yX yU yV,Sv Qj Qh Qi,Sv bI aY.length bH,Sv bO bh.length bM,Sv Xm yF Xl,Bv uY] sizeOf4 fun asC H=>?_)))
 dsimp only [List.set] at H
 refine zjc (sw (xU [yI kz,yI bQ,Sv kP hX.length mv,Sv yX yU yV,Sv Qj Qh Qi,Sv bI aY.length bH,Sv bO bh.length bM,Sv Xm yF Xl,Bv uY] isAgg70 sizeOf70 rfl (qF (H.cells 4 rfl) 0 9) (sw (xY H 8 [yI kz,yI bQ,Sv kP hX.length mv,Sv yX yU yV,Sv Qj Qh Qi,Sv bI aY.length bH,Sv bO bh.length bM,Sv Xm yF Xl,Bv uY] sizeOf70 fun asd H=>?_))))
 dsimp only [List.set] at H
 refine zjr (retC H 8 rfl rfl isAgg70 sizeOf70 rfl ⟨_,rfl,?_⟩)
 have he:(c:Int)=par.length:=by omega
 exact ⟨ZW,SG,kz,bQ,hX,iN,lA,aY,bh,es,uY,kP,hX.length,mv,yX,yU,yV,Qj,Qh,Qi,bI,aY.length,bH,bO,bh.length,bM,Xm,yF,Xl,cr,yc,qf,(by exact ruleDr_of qf qg (by exact (fun _=>by omega)) ql jh jl ql ql ⟨i3.1,he▸i3.2⟩),rfl,N,H.zU 12 3 [0,9,10,11,7,6,5,3,2,1] [0,2,1] qo qo⟩
theorem dSystem_ok (ak:List UInt8) (ip:Int) (sd:Int) (bs:Nat) (ac:yOA) (cc:Nat) (Fc:yLN) (H:St W0 w ((.box bs [Sv ac ak.length cc,yI ip,.int .u64 sd] 115)::ps) ((sF false Fc ac cc ak)::Γ)) (N:Fresh W0.heap.size (Ns)) (K0:Kept Ns Γ) (q0:0<=ip/\ip<=50000):Calls Tryz.prog 87 #[pp bs 0] w (fun e w' =>∃ v,e=.returned v/\∃ (jx:Int) (uQ:Int) (Gi:Int) (se:yLI) (iP:List vS) (MI:yOA) (LU:Nat) (L4:Nat) (KQ:yOA) (Kk:Nat) (LE:Nat) (LD:List Value) (Qf:yLN),(ip<=jx/\jx<=ip+2000)/\(SysDr Gi se iP)/\v=.agg #[yI Gi,Sv MI LU L4,Sv KQ Kk LE]/\Fresh W0.heap.size (Qf::Ns)/\St W0 w' ((.box bs [Sv ac ak.length cc,yI jx,.int .u64 uQ] 115)::(rr MI LU L4 2 1 (se.map (Value.int .i64)))::(rr KQ Kk LE 70 9 LD)::ps) ((sF false Fc ac cc ak)::(xy true Qf LD iP)::Γ)):=by
 refine en func87 ntmps87 ?_
 refine zcr (sw (xq H ti27 [yI 0,yN,yN] fun b1 w2 H=>zjc (sq 1 ?_)))
 have H1:=H.yl 2 1 [1,0] [0] qo qo
 have N1:Fresh _ (Ns):=N
 have K1:Kept (Ns) (Γ):=K0.behind 0 rfl
 refine sw (zL #[pp bs 0,yI 3] rfl rfl call43 (yM ak ip sd bs ac cc Fc (3:Int) H1 N1 K1 qg) ?_)
 clear H H1 N1 K1
 rintro _ w3 ⟨Eh,wn,lG,hx5,hx6,rfl,N,H⟩
 refine sw (zn 1 lG rfl rfl qf (sw (zf H underlying24 ti2 [yI (-1)] fun np nr H=>sw (vU [yI (1+lG),Sv (aa np 0) 1 1,yN] [(0,yI (1+lG)),(1,Sv (aa np 0) 1 1)] (sw (xq H ti27 [yI 0,yN,yN] fun vq xV H=>sw (xY H 0 [yI (1+lG),Sv (aa np 0) 1 1,yN] sizeOf27 fun Et H=>?_)))))))
 dsimp only [List.set] at H
 refine zjcc (sq 1 ?_)
 have H1:=H.yl 4 1 [2,0,1,3] [0] qo qo
 have N1:Fresh _ (Ns):=N
 have K1:Kept (Ns) (Γ):=K0.behind 0 rfl
 refine sw (zL #[pp bs 0,yI 3] rfl rfl call43 (yM ak Eh wn bs ac cc Fc (3:Int) H1 N1 K1 qg) ?_)
 clear H H1 N1 K1
 rintro _ yi ⟨vc,afz,J4,atg,ayq,rfl,N,H⟩
 refine sq 1 (zjn (qR ?_))
 replace H:=H.Xv 2 [(-1)] 1
 dsimp only [List.set] at H
 refine zl ((fun Z0 Z1=>fun m' ρ Hu=>∃ (xE:Env) (c:Int) (bw:Int) (aJ:Int) (jW:yOA) (vJ:Nat) (jV:Nat) (be:yLI),ρ=upd (upd (upd (upd xE 0 (pp bs 0)) 2 (pp b1 0)) 3 (pp vq 0)) 4 (yI c)/\(ip<=bw/\bw+2 * c<=ip+8)/\(0<=c/\(be.length:Int)+c<=3)/\(ParDr be)/\m' =c.toNat/\Fresh W0.heap.size (Ns)/\St W0 Hu ((.box bs [Sv ac ak.length cc,yI bw,.int .u64 aJ] 115)::(.box vq [yI (1+lG),Sv jW vJ jV,yN] 27)::(rr jW vJ jV 2 1 (be.map (Value.int .i64)))::Z0::ps) (Z1::Γ)) _ _) (J4.toNat) ⟨_,J4,vc,afz,(aa np 0),1,1,[(-1)],uE4,qf,qy,(by exact ParDr.one),rfl,N,H⟩ ?_
 clear H N
 rintro m' ρ wT ⟨xE,c,bw,aJ,jW,vJ,jV,be,rfl,i1,i2,i3,rfl,N,H⟩
 have J3:=H.jC 2 rfl
 have i4:=i3.1
 refine zcc (sp (yI c) (sp (Bv (decide ((c:Int) > 0))) (zjn (cD rfl (fun pg=>?_) (fun pg=>?_)))))
 ·refine qV (t_n (xQ (qR (VP (fun ρ AP=>∃ (xE:Env) (E2:Int) (CS:Int) (acg:Int) (a28:yOA) (c29:Nat),ρ=upd (upd (upd (upd xE 0 (pp bs 0)) 2 (pp b1 0)) 3 (pp vq 0)) 4 (yI c)/\(bw<=E2/\E2<=bw+2)/\(0<=CS/\(CS < vJ\/CS=0))/\Fresh W0.heap.size (Ns)/\St W0 AP ((.box bs [Sv ac ak.length cc,yI E2,.int .u64 acg] 115)::(.box vq [yI (1+lG),Sv a28 (vJ+1) c29,yN] 27)::(rr a28 (vJ+1) c29 2 1 ((be++[CS]).map (Value.int .i64)))::(.box b1 [yI 0,yN,yN] 27)::ps) ((sF false Fc ac cc ak)::Γ)) ?_ ?_))))
  ·refine QT rfl H [3] [0] fun H=>?_
   have S:=H.jm [3] [0]
   refine tF 0 rfl rfl S ?_
   refine rtl 2 S ?_
   refine tF 3 rfl rfl S ?_
   refine vK [1,4] qh qm (jb rfl ?_ (jb rfl ?_ vM))
   ·refine x9 (Sv jW vJ jV) isAgg24 rfl (H.cell 1 rfl rfl) (⟨H.pick [3] [0],(ro 4 rfl (x9 (Sv jW vJ jV) isAgg24 rfl (H.cell 1 rfl rfl) (⟨H.pick [3] [0],(tN 5 rfl rfl (H.pick [3] [0]) ?_)⟩)))⟩)
    refine ro 6 rfl ?_
    have H1:=H.yl 4 1 [0,1,2,3] [0] qo qo
    have N1:Fresh _ (Ns):=N
    have K1:Kept (Ns) (Γ):=K0.behind 0 rfl
    refine zL #[pp bs 0,yI vJ] rfl rfl call43 (yM ak bw aJ bs ac cc Fc vJ H1 N1 K1 qg) ?_
    clear H H1 N1 K1
    rintro _ Dc ⟨agj,uA,nQ,aez,akV,rfl,N,H⟩
    refine ⟨H.pick [3] [0],(ro 7 rfl (zf H underlying24 ti2 [yI nQ] fun Dl w40 H=>⟨H.pick [4] [0],(ro 8 rfl (zo H 3 rfl 0 rfl underlying24 ti2 rfl qj rfl rfl rfl qw qp qf fun a41 c42 Df H=>?_))⟩))⟩
    rw [snocI] at H
    dsimp only [List.set] at H
    refine ⟨H.pick [4] [0],(tF 9 rfl rfl (H.pick [4] [0]) ?_)⟩
    refine ro 10 rfl (xH H 2 [yI (1+lG),Sv a41 (vJ+1) c42,yN] sizeOf24 fun Dy H=>?_)
    dsimp only [List.set] at H
    refine ⟨H.pick [4] [0],(xw qh ((meet ⟨_,agj,nQ,uA,a41,c42,uE4,aez,akV,N,H.zU 5 1 (zR 1 4) [0] qo qo⟩)))⟩
   refine x9 (Sv jW vJ jV) isAgg24 rfl (H.cell 1 rfl rfl) (⟨H.pick [3] [0],(tN 5 rfl rfl (H.pick [3] [0]) ?_)⟩)
   refine vK [1,6] qh qm (jb rfl ?_ (jb rfl ?_ vM))
   ·refine x9 (Sv jW vJ jV) isAgg24 rfl (H.cell 1 rfl rfl) (⟨H.pick [3] [0],(ro 6 rfl ?_)⟩)
    have H1:=H.yl 4 1 [0,1,2,3] [0] qo qo
    have N1:Fresh _ (Ns):=N
    have K1:Kept (Ns) (Γ):=K0.behind 0 rfl
    refine zL #[pp bs 0,yI vJ] rfl rfl call43 (yM ak bw aJ bs ac cc Fc vJ H1 N1 K1 qg) ?_
    clear H H1 N1 K1
    rintro _ Ou ⟨akZ,ahP,Wb,aiz,B2,rfl,N,H⟩
    refine ⟨H.pick [3] [0],(ro 7 rfl (zf H underlying24 ti2 [yI Wb] fun PK Hi H=>⟨H.pick [4] [0],(ro 8 rfl (zo H 3 rfl 0 rfl underlying24 ti2 rfl qj rfl rfl rfl qw qp qf fun RB Rm L8 H=>?_))⟩))⟩
    rw [snocI] at H
    dsimp only [List.set] at H
    refine ⟨H.pick [4] [0],(tF 9 rfl rfl (H.pick [4] [0]) ?_)⟩
    refine ro 10 rfl (xH H 2 [yI (1+lG),Sv RB (vJ+1) Rm,yN] sizeOf24 fun PZ H=>?_)
    dsimp only [List.set] at H
    refine ⟨H.pick [4] [0],(xw qh ((meet ⟨_,akZ,Wb,ahP,RB,Rm,uE4,aiz,B2,N,H.zU 5 1 (zR 1 4) [0] qo qo⟩)))⟩
   have H1:=H.yl 4 1 [0,1,2,3] [0] qo qo
   have N1:Fresh _ (Ns):=N
   have K1:Kept (Ns) (Γ):=K0.behind 0 rfl
   refine zL #[pp bs 0,yI vJ] rfl rfl call43 (yM ak bw aJ bs ac cc Fc vJ H1 N1 K1 qg) ?_
   clear H H1 N1 K1
   rintro _ Jp ⟨Za,SP,IV,adf,aaF,rfl,N,H⟩
   refine ⟨H.pick [3] [0],(vK [1,7] qh qm (jb rfl ?_ (jb rfl ?_ vM)))⟩
   ·refine x9 (Sv jW vJ jV) isAgg24 rfl (H.cell 1 rfl rfl) (⟨H.pick [3] [0],(ro 7 rfl (zf H underlying24 ti2 [yI IV] fun AE E1 H=>⟨H.pick [4] [0],(ro 8 rfl (zo H 3 rfl 0 rfl underlying24 ti2 rfl qj rfl rfl rfl qw qp qf fun a67 c68 HD H=>?_))⟩))⟩)
    rw [snocI] at H
    dsimp only [List.set] at H
    refine ⟨H.pick [4] [0],(tF 9 rfl rfl (H.pick [4] [0]) ?_)⟩
    refine ro 10 rfl (xH H 2 [yI (1+lG),Sv a67 (vJ+1) c68,yN] sizeOf24 fun w70 H=>?_)
    dsimp only [List.set] at H
    refine ⟨H.pick [4] [0],(xw qh ((meet ⟨_,Za,IV,SP,a67,c68,uE4,adf,aaF,N,H.zU 5 1 (zR 1 4) [0] qo qo⟩)))⟩
   refine zf H underlying24 ti2 [yI IV] fun b71 HE H=>⟨H.pick [4] [0],(ro 1 rfl (x9 (Sv jW vJ jV) isAgg24 rfl (H.cell 2 rfl rfl) (⟨H.pick [4] [0],(ro 8 rfl (zo H 3 rfl 0 rfl underlying24 ti2 rfl qj rfl rfl rfl qw qp qf fun Tn Ty V5 H=>?_))⟩)))⟩
   rw [snocI] at H
   dsimp only [List.set] at H
   refine ⟨H.pick [4] [0],(tF 9 rfl rfl (H.pick [4] [0]) ?_)⟩
   refine ro 10 rfl (xH H 2 [yI (1+lG),Sv Tn (vJ+1) Ty,yN] sizeOf24 fun WR H=>?_)
   dsimp only [List.set] at H
   refine ⟨H.pick [4] [0],(xw qh ((meet ⟨_,Za,IV,SP,Tn,Ty,uE4,adf,aaF,N,H.zU 5 1 (zR 1 4) [0] qo qo⟩)))⟩
  clear H N
  rintro ρ w77 ⟨xE,E2,CS,acg,a28,c29,rfl,agy,ahK,N,H⟩
  refine b_n (t_n (xJ (sp (yI c) (sw (o_sub c 1 rfl rfl qf (sq 1 (xO (qX (m' :=(c - 1).toNat) qf ⟨_,_,_,_,_,_,_,_,uE4,?_,?_,?_,rfl,N,H⟩))))))))
  ·omega
  ·simp;omega
  ·exact i3.snoc (by have:=i3.1;omega)
 refine zx4 (zcc (sq 1 ?_))
 have H1:=H.yl 4 1 [0,1,2,3] [0] qo qo
 have N1:Fresh _ (Ns):=N
 have K1:Kept (Ns) (Γ):=K0.behind 0 rfl
 refine sw (zL #[pp bs 0,yI 6] rfl rfl call43 (yM ak bw aJ bs ac cc Fc (6:Int) H1 N1 K1 qg) ?_)
 clear H H1 N1 K1
 rintro _ MS ⟨IF,aiK,ab4,Cr,axx,rfl,N,H⟩
 refine sq 1 (zjn (qR ?_))
 replace H:=H.nilRow 70 9
 replace H:=H.jo (α:=vS)
 refine zl ((fun Z0 Z1 Z2=>fun m' ρ w87=>∃ (xE:Env) (k:Int) (bn:Int) (bB:Int) (XV:yOA) (Qs:Nat) (XT:Nat) (ag:List vS) (zy:List Value) (x8:yLN),ρ=upd (upd (upd (upd xE 0 (pp bs 0)) 2 (pp b1 0)) 3 (pp vq 0)) 5 (yI k)/\(ip<=bn/\bn+300 * k<=ip+1600)/\(0<=k/\(ag.length:Int)+k<=5)/\(jq (1+lG) be ag)/\m' =k.toNat/\Fresh W0.heap.size (x8::Ns)/\St W0 w87 ((rr XV Qs XT 70 9 zy)::(.box bs [Sv ac ak.length cc,yI bn,.int .u64 bB] 115)::(.box vq [yI (1+lG),Sv jW vJ jV,Sv XV Qs XT] 27)::Z0::Z1::ps) ((xy true x8 zy ag)::Z2::Γ)) _ _ _) (ab4.toNat) ⟨_,ab4,IF,aiK,none,0,0,([]:List vS),[],[],uE4,qf,qy,(by exact jq.nil _ _),rfl,N.emp,H⟩ ?_
 clear H N
 rintro m' ρ Mn ⟨xE,k,bn,bB,XV,Qs,XT,ag,zy,x8,rfl,j1,j2,j3,rfl,N,H⟩
 have sa:=H.zg (α:=vS) 0 rfl 0 rfl qj
 refine zcc (sp (yI k) (sp (Bv (decide ((k:Int) > 0))) (zjn (cD rfl (fun Do=>?_) (fun Do=>?_)))))
 ·refine qV (t_n (xQ (qR (VP (fun ρ Cl=>∃ (xE:Env) (Im:Int) (EG:Int) (FX:Int) (BZ:yLI) (uU:yLI) (BF:yLI) (BR:yLI) (CZ:yLI) (B8:List Xj) (CW:Bool) (Mo:Int) (H6:yOA) (Ji:Nat) (y3:yOA) (AS:Nat) (AQ:yOA) (Ab:Nat) (y6:yOA) (Bk:Nat) (Bh:yOA) (zd:Nat) (z7:yOA) (Ac:Nat) (zm:yOA) (AT:Nat) (GI:yLN) (Cx:yLN) (EH:yLN) (IN:yLN) (ID:yLN) (tZ:yLN),ρ=upd (upd (upd (upd xE 0 (pp bs 0)) 2 (pp b1 0)) 3 (pp vq 0)) 5 (yI k)/\(bn<=Im/\Im<=bn+300)/\(RuleDr (1+lG) be ⟨EG,FX,BZ,uU,BF,BR,CZ,B8,CW⟩)/\Fresh W0.heap.size ((x8++(GI++Cx++EH++IN++ID++tZ))::Ns)/\St W0 Cl ((.box bs [Sv ac ak.length cc,yI Im,.int .u64 Mo] 115)::(.box vq [yI (1+lG),Sv jW vJ jV,Sv H6 (Qs+1) Ji] 27)::(rr jW vJ jV 2 1 (be.map (Value.int .i64)))::(rr H6 (Qs+1) Ji 70 9 (zy++[yI EG,yI FX,Sv y3 BZ.length AS,Sv AQ uU.length Ab,Sv y6 BF.length Bk,Sv Bh BR.length zd,Sv z7 CZ.length Ac,Sv zm B8.length AT,Bv CW]))::(.box b1 [yI 0,yN,yN] 27)::ps) ((xy true (x8++(GI++Cx++EH++IN++ID++tZ)) (zy++[yI EG,yI FX,Sv y3 BZ.length AS,Sv AQ uU.length Ab,Sv y6 BF.length Bk,Sv Bh BR.length zd,Sv z7 CZ.length Ac,Sv zm B8.length AT,Bv CW]) (ag++[(⟨EG,FX,BZ,uU,BF,BR,CZ,B8,CW⟩:vS)]))::(sF true tZ zm AT B8)::(sF true ID z7 Ac CZ)::(sF true IN Bh zd BR)::(sF true EH y6 Bk BF)::(sF true Cx AQ Ab uU)::(sF true GI y3 AS BZ)::(sF false Fc ac cc ak)::Γ)) ?_ ?_))))
  ·refine QT rfl H [3,4] [0,1] fun H=>?_
   have S:=H.jm [3,4] [0,1]
   refine tF 0 rfl rfl S ?_
   refine rtl 2 S ?_
   refine vK [1,3] qh qm (jb rfl ?_ (jb rfl ?_ vM))
   ·refine x9 (Sv XV Qs XT) isAgg25 rfl (H.cell 2 rfl rfl) (⟨H.pick [3,4] [0,1],(ro 3 rfl ?_)⟩)
    have f0:jk (⟨1+lG,be,ag⟩:qC):=frame_of i3 qf qf
    have H1:=H.yl 5 2 [1,2,3,0,4] [1,0] qo qo
    have N1:Fresh _ (x8::Ns):=N
    have K1:Kept (Ns) (Γ):=K0.behind 0 rfl
    refine zL #[pp bs 0,pp vq 0] rfl rfl call140 (dRule_ok ak bn bB bs ac cc Fc (1+lG) be ag vq jW vJ jV XV Qs XT zy x8 H1 N1 K1 qg qg) ?_
    clear H H1 N1 K1
    rintro _ Oa ⟨Yl,Yb,Hc,DF,Kr,KV,Lt,qz,Ki,LJ,EM,Ko,aqx,Lp,Ml,aqK,K2,LO,aq6,KW,LG,aqD,Km,LW,apk,Lj,MB,anv,L5,aqR,kU,UQ,adb,rfl,N,H⟩
    obtain rfl:=H.jC 4 rfl
    obtain rfl:=H.jC 5 rfl
    obtain rfl:=H.jC 6 rfl
    obtain rfl:=H.jC 7 rfl
    obtain rfl:=H.jC 8 rfl
    obtain rfl:=H.zg (α:=Xj) 9 rfl 2 rfl qj
    refine ⟨H.pick [2,10] [1,0],(ro 4 rfl (zf H underlying25 ti70 [yI Hc,yI DF,Sv Ko Kr.length Lp,Sv Ml KV.length K2,Sv LO Lt.length KW,Sv LG qz.length Km,Sv LW Ki.length Lj,Sv MB LJ.length L5,Bv EM] fun OI M1 H=>⟨H.pick [3,11] [1,0],(ro 5 rfl ?_)⟩))⟩
    obtain ⟨mF,N,abQ,H⟩:=H.zN 5 rfl N (fun F hF b hb=>(List.mem_append.1 (show F∈[x8,kU]++Ns from hF)).elim (fun h=>(H.jA (L:=[x8,kU]) [1,2]) F h b hb) fun h=>H.QG (K0.behind 3 rfl) F h b hb)
    dsimp only [List.set] at H
    obtain ⟨re,N,aqk,H⟩:=H.zN 6 rfl N (fun F hF b hb=>(List.mem_append.1 (show F∈[mF,x8,kU]++Ns from hF)).elim (fun h=>(H.jA (L:=[mF,x8,kU]) [0,2,3]) F h b hb) fun h=>H.QG (K0.behind 4 rfl) F h b hb)
    dsimp only [List.set] at H
    obtain ⟨sr,N,amG,H⟩:=H.zN 7 rfl N (fun F hF b hb=>(List.mem_append.1 (show F∈[re,mF,x8,kU]++Ns from hF)).elim (fun h=>(H.jA (L:=[re,mF,x8,kU]) [0,1,3,4]) F h b hb) fun h=>H.QG (K0.behind 5 rfl) F h b hb)
    dsimp only [List.set] at H
    obtain ⟨vu,N,TG,H⟩:=H.zN 8 rfl N (fun F hF b hb=>(List.mem_append.1 (show F∈[sr,re,mF,x8,kU]++Ns from hF)).elim (fun h=>(H.jA (L:=[sr,re,mF,x8,kU]) [0,1,2,4,5]) F h b hb) fun h=>H.QG (K0.behind 6 rfl) F h b hb)
    dsimp only [List.set] at H
    obtain ⟨Fw,N,ap5,H⟩:=H.zN 9 rfl N (fun F hF b hb=>(List.mem_append.1 (show F∈[vu,sr,re,mF,x8,kU]++Ns from hF)).elim (fun h=>(H.jA (L:=[vu,sr,re,mF,x8,kU]) [0,1,2,3,5,6]) F h b hb) fun h=>H.QG (K0.behind 7 rfl) F h b hb)
    dsimp only [List.set] at H
    have H0:=H
    obtain ⟨PN,Ly,ap7,H⟩:=H.Ql (α:=Xj) 10 rfl 7 rfl qj
    replace N:Fresh W0.heap.size (PN::Fw::vu::sr::re::mF::x8::Ns):=Fresh.ice (N.zU 7 (6::zR 0 6) qo) H0 10 Ly.1 Ly.2 (fun F hF b hb=>(List.mem_append.1 (show F∈[Fw,vu,sr,re,mF,x8]++Ns from hF)).elim (fun h=>(H0.jA (L:=[Fw,vu,sr,re,mF,x8]) [0,1,2,3,4,6]) F h b hb) fun h=>H0.QG (K0.behind 8 rfl) F h b hb)
    clear H0
    dsimp only [List.set] at H
    refine zo H 4 rfl 0 rfl underlying25 ti70 rfl qj rfl rfl rfl qw qp qf fun YQ abe GV H=>?_
    dsimp only [List.set] at H
    replace H:=H.snoc_RuleD 7 rfl Hc DF 5 rfl 4 rfl 3 rfl 2 rfl 1 rfl 0 rfl EM
    replace N:Fresh W0.heap.size ((x8++(mF++re++sr++vu++Fw++PN))::Ns):=(N.zU 7 [5,4,3,2,1,0,6] qo).join.join.join.join.join.swap.join
    refine ⟨H.pick [3,11] [8,7],(tF 6 rfl rfl (H.pick [3,11] [8,7]) ?_)⟩
    refine ro 7 rfl (xH H 2 [yI (1+lG),Sv jW vJ jV,Sv YQ (Qs+1) abe] sizeOf25 fun O6 H=>?_)
    dsimp only [List.set] at H
    refine ⟨H.pick [3,11] [8,7],(xw qh ((meet ⟨_,Yl,Hc,DF,Kr,KV,Lt,qz,Ki,LJ,EM,Yb,YQ,abe,Ko,Lp,Ml,K2,LO,KW,LG,Km,LW,Lj,MB,L5,mF,re,sr,vu,Fw,PN,uE4,UQ,adb,N,H.zU 12 10 [1,2,3,4,11] (zR 0 8) qo qo⟩)))⟩
   have f0:jk (⟨1+lG,be,ag⟩:qC):=frame_of i3 qf qf
   have H1:=H.yl 5 2 [1,2,3,0,4] [1,0] qo qo
   have N1:Fresh _ (x8::Ns):=N
   have K1:Kept (Ns) (Γ):=K0.behind 0 rfl
   refine zL #[pp bs 0,pp vq 0] rfl rfl call140 (dRule_ok ak bn bB bs ac cc Fc (1+lG) be ag vq jW vJ jV XV Qs XT zy x8 H1 N1 K1 qg qg) ?_
   clear H H1 N1 K1
   rintro _ alN ⟨KB,Kl,sG,tp,An,A9,y2,yv,Bq,Be,tn,mh,acC,lX,A1,amU,BE,AU,apc,yq,BC,ao7,Ag,Bf,aom,zp,mB,Yi,mE,anh,cZ,MN,KK,rfl,N,H⟩
   obtain rfl:=H.jC 4 rfl
   obtain rfl:=H.jC 5 rfl
   obtain rfl:=H.jC 6 rfl
   obtain rfl:=H.jC 7 rfl
   obtain rfl:=H.jC 8 rfl
   obtain rfl:=H.zg (α:=Xj) 9 rfl 2 rfl qj
   refine ⟨H.pick [2,10] [1,0],(vK [1,4] qh qm (jb rfl ?_ (jb rfl ?_ vM)))⟩
   ·refine x9 (Sv XV Qs XT) isAgg25 rfl (H.cell 1 rfl rfl) (⟨H.pick [2,10] [1,0],(ro 4 rfl (zf H underlying25 ti70 [yI sG,yI tp,Sv mh An.length lX,Sv A1 A9.length BE,Sv AU y2.length yq,Sv BC yv.length Ag,Sv Bf Bq.length zp,Sv mB Be.length mE,Bv tn] fun JS IK H=>⟨H.pick [3,11] [1,0],(ro 5 rfl ?_)⟩))⟩)
    obtain ⟨m8,N,apw,H⟩:=H.zN 5 rfl N (fun F hF b hb=>(List.mem_append.1 (show F∈[x8,cZ]++Ns from hF)).elim (fun h=>(H.jA (L:=[x8,cZ]) [1,2]) F h b hb) fun h=>H.QG (K0.behind 3 rfl) F h b hb)
    dsimp only [List.set] at H
    obtain ⟨rC,N,anY,H⟩:=H.zN 6 rfl N (fun F hF b hb=>(List.mem_append.1 (show F∈[m8,x8,cZ]++Ns from hF)).elim (fun h=>(H.jA (L:=[m8,x8,cZ]) [0,2,3]) F h b hb) fun h=>H.QG (K0.behind 4 rfl) F h b hb)
    dsimp only [List.set] at H
    obtain ⟨sy,N,aqw,H⟩:=H.zN 7 rfl N (fun F hF b hb=>(List.mem_append.1 (show F∈[rC,m8,x8,cZ]++Ns from hF)).elim (fun h=>(H.jA (L:=[rC,m8,x8,cZ]) [0,1,3,4]) F h b hb) fun h=>H.QG (K0.behind 5 rfl) F h b hb)
    dsimp only [List.set] at H
    obtain ⟨vf,N,YT,H⟩:=H.zN 8 rfl N (fun F hF b hb=>(List.mem_append.1 (show F∈[sy,rC,m8,x8,cZ]++Ns from hF)).elim (fun h=>(H.jA (L:=[sy,rC,m8,x8,cZ]) [0,1,2,4,5]) F h b hb) fun h=>H.QG (K0.behind 6 rfl) F h b hb)
    dsimp only [List.set] at H
    obtain ⟨GN,N,anb,H⟩:=H.zN 9 rfl N (fun F hF b hb=>(List.mem_append.1 (show F∈[vf,sy,rC,m8,x8,cZ]++Ns from hF)).elim (fun h=>(H.jA (L:=[vf,sy,rC,m8,x8,cZ]) [0,1,2,3,5,6]) F h b hb) fun h=>H.QG (K0.behind 7 rfl) F h b hb)
    dsimp only [List.set] at H
    have H0:=H
    obtain ⟨PL,Me,ans,H⟩:=H.Ql (α:=Xj) 10 rfl 7 rfl qj
    replace N:Fresh W0.heap.size (PL::GN::vf::sy::rC::m8::x8::Ns):=Fresh.ice (N.zU 7 (6::zR 0 6) qo) H0 10 Me.1 Me.2 (fun F hF b hb=>(List.mem_append.1 (show F∈[GN,vf,sy,rC,m8,x8]++Ns from hF)).elim (fun h=>(H0.jA (L:=[GN,vf,sy,rC,m8,x8]) [0,1,2,3,4,6]) F h b hb) fun h=>H0.QG (K0.behind 8 rfl) F h b hb)
    clear H0
    dsimp only [List.set] at H
    refine zo H 4 rfl 0 rfl underlying25 ti70 rfl qj rfl rfl rfl qw qp qf fun ZT aaP PD H=>?_
    dsimp only [List.set] at H
    replace H:=H.snoc_RuleD 7 rfl sG tp 5 rfl 4 rfl 3 rfl 2 rfl 1 rfl 0 rfl tn
    replace N:Fresh W0.heap.size ((x8++(m8++rC++sy++vf++GN++PL))::Ns):=(N.zU 7 [5,4,3,2,1,0,6] qo).join.join.join.join.join.swap.join
    refine ⟨H.pick [3,11] [8,7],(tF 6 rfl rfl (H.pick [3,11] [8,7]) ?_)⟩
    refine ro 7 rfl (xH H 2 [yI (1+lG),Sv jW vJ jV,Sv ZT (Qs+1) aaP] sizeOf25 fun OS H=>?_)
    dsimp only [List.set] at H
    refine ⟨H.pick [3,11] [8,7],(xw qh ((meet ⟨_,KB,sG,tp,An,A9,y2,yv,Bq,Be,tn,Kl,ZT,aaP,mh,lX,A1,BE,AU,yq,BC,Ag,Bf,zp,mB,mE,m8,rC,sy,vf,GN,PL,uE4,MN,KK,N,H.zU 12 10 [1,2,3,4,11] (zR 0 8) qo qo⟩)))⟩
   refine zf H underlying25 ti70 [yI sG,yI tp,Sv mh An.length lX,Sv A1 A9.length BE,Sv AU y2.length yq,Sv BC yv.length Ag,Sv Bf Bq.length zp,Sv mB Be.length mE,Bv tn] fun awE amA H=>⟨H.pick [3,11] [1,0],(ro 1 rfl (x9 (Sv XV Qs XT) isAgg25 rfl (H.cell 2 rfl rfl) (⟨H.pick [3,11] [1,0],(ro 5 rfl ?_)⟩)))⟩
   obtain ⟨nC,N,anW,H⟩:=H.zN 5 rfl N (fun F hF b hb=>(List.mem_append.1 (show F∈[x8,cZ]++Ns from hF)).elim (fun h=>(H.jA (L:=[x8,cZ]) [1,2]) F h b hb) fun h=>H.QG (K0.behind 3 rfl) F h b hb)
   dsimp only [List.set] at H
   obtain ⟨pJ,N,ao9,H⟩:=H.zN 6 rfl N (fun F hF b hb=>(List.mem_append.1 (show F∈[nC,x8,cZ]++Ns from hF)).elim (fun h=>(H.jA (L:=[nC,x8,cZ]) [0,2,3]) F h b hb) fun h=>H.QG (K0.behind 4 rfl) F h b hb)
   dsimp only [List.set] at H
   obtain ⟨sx,N,Wt,H⟩:=H.zN 7 rfl N (fun F hF b hb=>(List.mem_append.1 (show F∈[pJ,nC,x8,cZ]++Ns from hF)).elim (fun h=>(H.jA (L:=[pJ,nC,x8,cZ]) [0,1,3,4]) F h b hb) fun h=>H.QG (K0.behind 5 rfl) F h b hb)
   dsimp only [List.set] at H
   obtain ⟨xa,N,ana,H⟩:=H.zN 8 rfl N (fun F hF b hb=>(List.mem_append.1 (show F∈[sx,pJ,nC,x8,cZ]++Ns from hF)).elim (fun h=>(H.jA (L:=[sx,pJ,nC,x8,cZ]) [0,1,2,4,5]) F h b hb) fun h=>H.QG (K0.behind 6 rfl) F h b hb)
   dsimp only [List.set] at H
   obtain ⟨B3,N,adc,H⟩:=H.zN 9 rfl N (fun F hF b hb=>(List.mem_append.1 (show F∈[xa,sx,pJ,nC,x8,cZ]++Ns from hF)).elim (fun h=>(H.jA (L:=[xa,sx,pJ,nC,x8,cZ]) [0,1,2,3,5,6]) F h b hb) fun h=>H.QG (K0.behind 7 rfl) F h b hb)
   dsimp only [List.set] at H
   have H0:=H
   obtain ⟨NT,LV,an2,H⟩:=H.Ql (α:=Xj) 10 rfl 7 rfl qj
   replace N:Fresh W0.heap.size (NT::B3::xa::sx::pJ::nC::x8::Ns):=Fresh.ice (N.zU 7 (6::zR 0 6) qo) H0 10 LV.1 LV.2 (fun F hF b hb=>(List.mem_append.1 (show F∈[B3,xa,sx,pJ,nC,x8]++Ns from hF)).elim (fun h=>(H0.jA (L:=[B3,xa,sx,pJ,nC,x8]) [0,1,2,3,4,6]) F h b hb) fun h=>H0.QG (K0.behind 8 rfl) F h b hb)
   clear H0
   dsimp only [List.set] at H
   refine zo H 4 rfl 0 rfl underlying25 ti70 rfl qj rfl rfl rfl qw qp qf fun SZ aad aiY H=>?_
   dsimp only [List.set] at H
   replace H:=H.snoc_RuleD 7 rfl sG tp 5 rfl 4 rfl 3 rfl 2 rfl 1 rfl 0 rfl tn
   replace N:Fresh W0.heap.size ((x8++(nC++pJ++sx++xa++B3++NT))::Ns):=(N.zU 7 [5,4,3,2,1,0,6] qo).join.join.join.join.join.swap.join
   refine ⟨H.pick [3,11] [8,7],(tF 6 rfl rfl (H.pick [3,11] [8,7]) ?_)⟩
   refine ro 7 rfl (xH H 2 [yI (1+lG),Sv jW vJ jV,Sv SZ (Qs+1) aad] sizeOf25 fun acj H=>?_)
   dsimp only [List.set] at H
   refine ⟨H.pick [3,11] [8,7],(xw qh ((meet ⟨_,KB,sG,tp,An,A9,y2,yv,Bq,Be,tn,Kl,SZ,aad,mh,lX,A1,BE,AU,yq,BC,Ag,Bf,zp,mB,mE,nC,pJ,sx,xa,B3,NT,uE4,MN,KK,N,H.zU 12 10 [1,2,3,4,11] (zR 0 8) qo qo⟩)))⟩
  clear H N
  rintro ρ ace ⟨xE,Im,EG,FX,BZ,uU,BF,BR,CZ,B8,CW,Mo,H6,Ji,y3,AS,AQ,Ab,y6,Bk,Bh,zd,z7,Ac,zm,AT,GI,Cx,EH,IN,ID,tZ,rfl,aob,amY,N,H⟩
  refine b_n (t_n (xJ (sp (yI k) (sw (o_sub k 1 rfl rfl qf (sq 1 (xO (qX (m' :=(k - 1).toNat) qf ⟨_,_,_,_,_,_,_,_,_,_,uE4,?_,?_,?_,rfl,N,H.zU 5 8 [3,0,1,2,4] [0,7] qo qo⟩))))))))
  ·omega
  ·simp;omega
  ·exact j3.snoc ql
 refine zx4 (zcr (sw (xU [yI (1+lG),Sv jW vJ jV,Sv XV Qs XT] isAgg27 sizeOf27 rfl (qF (H.cells 2 rfl) 0 3) (sw (xY H 4 [yI (1+lG),Sv jW vJ jV,Sv XV Qs XT] sizeOf27 fun ahD H=>?_)))))
 dsimp only [List.set] at H
 refine zjr (retC H 4 rfl rfl isAgg27 sizeOf27 rfl ⟨_,rfl,(⟨bn,bB,1+lG,be,ag,jW,vJ,jV,XV,Qs,XT,zy,x8,qf,(by exact sysDr_of i3 qf qf qf j3),rfl,N,H.zU 5 2 [1,3,0] [1,0] qo qo⟩)⟩)
theorem dState_ok (ak:List UInt8) (ip:Int) (sd:Int) (bs:Nat) (ac:yOA) (cc:Nat) (Fc:yLN) (kk:Int) (par:yLI) (rules:List vS) (bY:Nat) (fg:yOA) (Iu:Nat) (fl:Nat) (fk:yOA) (Kb:Nat) (fm:Nat) (bD:List Value) (aF:yLN) (Ok:Bool) (most:Int) (H:St W0 w ((.box bs [Sv ac ak.length cc,yI ip,.int .u64 sd] 115)::(.box bY [yI kk,Sv fg Iu fl,Sv fk Kb fm] 27)::(rr fg Iu fl 2 1 (par.map (Value.int .i64)))::(rr fk Kb fm 70 9 bD)::ps) ((sF false Fc ac cc ak)::(xy Ok aF bD rules)::Γ)) (N:Fresh W0.heap.size (Ns)) (K0:Kept Ns Γ) (q0:0<=ip/\ip<=40000) (f0:jk (⟨kk,par,rules⟩:qC)) (q2:1<=most/\most<=6):Calls Tryz.prog 88 #[pp bs 0,pp bY 0,yI most] w (fun e w' =>∃ v,e=.returned v/\∃ (jx:Int) (uQ:Int) (i7:List Bool) (oA:yLL) (fx:yLI) (Mw:yOA) (LP:Nat) (KD:Nat) (MF:yOA) (KC:Nat) (KF:Nat) (Lr:List Value) (Kv:yLN) (MO:yOA) (KZ:Nat) (Lo:Nat),(ip<=jx/\jx<=ip+200)/\(StDr kk par.length most i7 oA fx)/\v=.agg #[Sv Mw LP KD,Sv MF KC KF,Sv MO KZ Lo]/\Fresh W0.heap.size (Kv::Ns)/\St W0 w' ((.box bs [Sv ac ak.length cc,yI jx,.int .u64 uQ] 115)::(.box bY [yI kk,Sv fg Iu fl,Sv fk Kb fm] 27)::(rr fg Iu fl 2 1 (par.map (Value.int .i64)))::(rr fk Kb fm 70 9 bD)::(rr Mw LP KD 4 1 (i7.map (Value.bool)))::(rr MF KC KF 24 1 Lr)::(rr MO KZ Lo 2 1 (fx.map (Value.int .i64)))::ps) ((sF false Fc ac cc ak)::(xy Ok aF bD rules)::(xy true Kv Lr oA)::Γ)):=by
 refine en func88 ntmps88 ?_
 obtain rfl:=H.jC 2 rfl
 obtain rfl:=H.zg (α:=vS) 3 rfl 1 rfl qj
 have f1:1<=kk/\kk<=8:=f0.1
 have f2:1<=par.length/\par.length<=6:=f0.2.1
 refine zcr (sw (xq H ti31 [yN,yN,yN] fun b1 w2 H=>zjc (sq 2 (oF rfl (oL rfl (H.cell 2 rfl rfl) (sw (zV H underlying24 ti2 kk.toNat rfl rfl qf qf qf fun b3 w4 H=>sw (vU [yN,yN,Sv (aa b3 0) kk.toNat kk.toNat] [(2,Sv (aa b3 0) kk.toNat kk.toNat)] (sw (xq H ti31 [yN,yN,yN] fun b5 w6 H=>(sw (xY H 0 [yN,yN,Sv (aa b3 0) kk.toNat kk.toNat] sizeOf31 fun w7 H=>?_))))))))))))
 dsimp only [List.set] at H
 refine zjcc (sp (yI 0) (zjn (qR ?_)))
 replace H:=H.nilRowB 4
 replace H:=H.nilRow 24 1
 replace H:=H.jo (α:=yLI)
 refine zl ((fun Z0 Z1 Z2 Z3 Z4 Z5 Z6=>fun m' ρ w8=>∃ (xE:Env) (c:Nat) (bw:Int) (aJ:Int) (Vr:yOA) (Qu:Nat) (Vo:Nat) (m5:List Bool) (X9:yOA) (Xk:Nat) (X5:Nat) (fI:yLL) (cJ:List Value) (yj:yLN),ρ=upd (upd (upd (upd (upd (upd xE 0 (pp bs 0)) 1 (pp bY 0)) 2 (yI most)) 6 (pp b1 0)) 7 (pp b5 0)) 8 (yI c)/\((c:Int)<=par.length)/\(ip<=bw/\bw<=ip+22 * c)/\(StTo kk most c m5 fI)/\m' =(par.length - (c:Int)).toNat/\Fresh W0.heap.size (yj::Ns)/\St W0 w8 ((rr X9 Xk X5 24 1 cJ)::(rr Vr Qu Vo 4 1 (m5.map (Value.bool)))::(.box b5 [Sv Vr Qu Vo,Sv X9 Xk X5,Sv (aa b3 0) kk.toNat kk.toNat] 31)::Z0::Z1::(.box bs [Sv ac ak.length cc,yI bw,.int .u64 aJ] 115)::Z2::Z3::Z4::ps) ((xy true yj cJ fI)::Z5::Z6::Γ)) _ _ _ _ _ _ _) ((par.length - (0:Int)).toNat) ⟨_,0,ip,sd,none,0,0,[],none,0,0,([]:yLL),[],[],uE6,qf,qf,(by exact StTo.nil _ _),rfl,N.emp,H⟩ ?_
 clear H N
 rintro m' ρ w9 ⟨xE,c,bw,aJ,Vr,Qu,Vo,m5,X9,Xk,X5,fI,cJ,yj,rfl,i0,i1,i2,rfl,N,H⟩
 have OP:=H.VM 1 rfl
 have Rw:=H.zg (α:=yLI) 0 rfl 0 rfl qj
 have i3:=i2.la
 have i4:=i2.lb
 refine zcc (sp (yI c) (sq 2 (oF rfl (oL rfl (H.cell 6 rfl rfl) (oN rfl (sq 1 (zjn (cD rfl (fun aZ=>?_) (fun aZ=>?_)))))))))
 ·refine qV (t_n (xQ (qR (zcr (sp (yI c) (sp (Bv ((c:Int) == 0)) (sp (Bv ((c:Int) == 0)) ?_)))))))
  cases aU:((c:Int) == 0)
  ·replace aU:=ne_of_beq_false aU
   refine qJ 28 rfl rfl (sq 1 (qJ 28 rfl rfl ?_))
   have H1:=H.yl 9 3 [5,0,1,2,3,4,6,7,8] [1,0,2] qo qo
   have N1:Fresh _ (yj::Ns):=N
   have K1:Kept (Ns) ((xy true yj cJ fI)::(xy Ok aF bD rules)::Γ):=K0.behind 2 rfl
   replace K1:=K1.cons (F:=yj) 0 rfl rfl
   refine sw (zL #[pp bs 0,yI 8] rfl rfl call41 (Vg ak bw aJ bs ac cc Fc (8:Int) H1 N1 K1 qg) ?_)
   clear H H1 N1 K1
   rintro _ uE ⟨qu,fT,vt,atu,rfl,N,H⟩
   refine qJ 28 rfl rfl (sp (Bv !vt) (sp (Bv !vt) (sp (Bv !vt) (zjc (sq 2 (oF rfl (oL rfl (H.cell 6 rfl rfl) (sw (zV H underlying24 ti2 kk.toNat rfl rfl qf qf qf fun Sa s0 H=>sq 1 (zjcc (sp (Bv !vt) (zjn (zT _ rfl (fun oV=>?_) (fun oV=>?_))))))))))))))
   ·replace oV:=xB oV
    refine xJ (sq 3 (oF rfl (oL rfl (H.cell 7 rfl rfl) (sq 1 ?_))))
    have H1:=H.yl 10 3 [1,0,2,3,4,5,6,7,8,9] [0,1,2] qo qo
    have N1:Fresh _ (yj::Ns):=N
    have K1:Kept (Ns) ((xy true yj cJ fI)::(xy Ok aF bD rules)::Γ):=K0.behind 2 rfl
    replace K1:=K1.cons (F:=yj) 0 rfl rfl
    refine sw (zL #[pp bs 0,yI kk,yI most] rfl rfl call141 (dFew_ok ak qu fT bs ac cc Fc kk most H1 N1 K1 qg qg qg) ?_)
    clear H H1 N1 K1
    rintro _ In ⟨E2,CS,fQ,lg,Wc,lk,afp,amx,rfl,N,H⟩
    obtain rfl:=H.jC 1 rfl
    refine sq 1 (zjc (oF rfl (oL rfl (H.cell 5 rfl rfl) (sp (Bv !vt) (sw (zf H underlying28 ti4 [Bv !vt] fun vl Dc H=>sw (zo H 5 rfl 0 rfl underlying28 ti4 rfl qj rfl rfl rfl qw qp qf fun a33 c34 Dr H=>?_)))))))
    rw [snocB] at H
    dsimp only [List.set] at H
    refine oF rfl (sw (xH H 6 [Sv a33 (Qu+1) c34,Sv X9 Xk X5,Sv (aa b3 0) kk.toNat kk.toNat] sizeOf28 fun Ks H=>?_))
    dsimp only [List.set] at H
    refine zjn (xJ (oF rfl (oL rfl (H.cell 6 rfl rfl) (sq 1 (sw (zf H underlying29 ti24 [Sv lg fQ.length lk] fun b37 KT H=>?_))))))
    obtain ⟨G42,N,auT,H⟩:=H.zN 3 rfl N (fun F hF b hb=>(List.mem_append.1 (show F∈[yj]++Ns from hF)).elim (fun h=>(H.jA (L:=[yj]) [1]) F h b hb) fun h=>H.QG (K0.behind 3 rfl) F h b hb)
    dsimp only [List.set] at H
    refine sw (zo H 5 rfl 0 rfl underlying29 ti24 rfl qj rfl rfl rfl qw qp qf fun a39 P3 Mx H=>?_)
    dsimp only [List.set] at H
    replace H:=H.yx 2 rfl 0 rfl
    replace N:Fresh W0.heap.size ((yj++G42)::Ns):=(N.zU 2 [1,0] qo).join
    refine oF rfl (sw (xH H 7 [Sv a33 (Qu+1) c34,Sv a39 (Xk+1) P3,Sv (aa b3 0) kk.toNat kk.toNat] sizeOf29 fun Dy H=>?_))
    dsimp only [List.set] at H
    refine xO (b_n (t_n (xJ (sp (yI c) (sw (zn c 1 rfl rfl qf (sq 1 (xO (qX (m' :=(par.length - ((c+1):Int)).toNat) qf ⟨_,c+1,_,_,_,_,_,_,_,_,_,_,_,_,uE6,?_,?_,?_,rfl,N,H.zU 13 5 [5,6,7,8,9,2,10,11,12] [0,2,4] qo qo⟩)))))))))
    ·omega
    ·omega
    ·exact i2.snoc (fun h=>by omega) ql (fun h=>by simp_all)
   replace oV:=xn oV
   refine qV (t_n (zcr (oF rfl (oL rfl (H.cell 4 rfl rfl) (sp (Bv !vt) (sw (zf H underlying28 ti4 [Bv !vt] fun JI C1 H=>sw (zo H 4 rfl 0 rfl underlying28 ti4 rfl qj rfl rfl rfl qw qp qf fun a47 c48 Pz H=>?_))))))))
   rw [snocB] at H
   dsimp only [List.set] at H
   refine oF rfl (sw (xH H 5 [Sv a47 (Qu+1) c48,Sv X9 Xk X5,Sv (aa b3 0) kk.toNat kk.toNat] sizeOf28 fun HC H=>?_))
   dsimp only [List.set] at H
   refine zjn (xJ (oF rfl (oL rfl (H.cell 5 rfl rfl) (sq 1 (sw (zf H underlying29 ti24 [Sv (aa Sa 0) kk.toNat kk.toNat] fun LB P5 H=>?_))))))
   obtain ⟨G56,N,azH,H⟩:=H.zN 2 rfl N (fun F hF b hb=>(List.mem_append.1 (show F∈[yj]++Ns from hF)).elim (fun h=>(H.jA (L:=[yj]) [1]) F h b hb) fun h=>H.QG (K0.behind 3 rfl) F h b hb)
   dsimp only [List.set] at H
   refine sw (zo H 4 rfl 0 rfl underlying29 ti24 rfl qj rfl rfl rfl qw qp qf fun a53 c54 Hz H=>?_)
   dsimp only [List.set] at H
   replace H:=H.yx 2 rfl 0 rfl
   replace N:Fresh W0.heap.size ((yj++G56)::Ns):=(N.zU 2 [1,0] qo).join
   refine oF rfl (sw (xH H 6 [Sv a47 (Qu+1) c48,Sv a53 (Xk+1) c54,Sv (aa b3 0) kk.toNat kk.toNat] sizeOf29 fun Jp H=>?_))
   dsimp only [List.set] at H
   refine xO (b_n (t_n (xJ (sp (yI c) (sw (zn c 1 rfl rfl qf (sq 1 (xO (qX (m' :=(par.length - ((c+1):Int)).toNat) qf ⟨_,c+1,_,_,_,_,_,_,_,_,_,_,_,_,uE6,?_,?_,?_,rfl,N,H.zU 12 5 [4,5,6,7,8,3,9,10,11] [0,2,4] qo qo⟩)))))))))
   ·omega
   ·omega
   ·exact i2.snoc (fun h=>by omega) (vT.zero qf qf) (fun _=>sum_zeros _)
  replace aU:=eq_of_beq aU
  refine xR [29,30,31] (sp (Bv true) (sp (Bv true) (zjc (sq 2 (oF rfl (oL rfl (H.cell 6 rfl rfl) (sw (zV H underlying24 ti2 kk.toNat rfl rfl qf qf qf fun ZG w60 H=>sq 1 (zjcc (sp (Bv true) (zjn (cTr rfl (xJ (sq 3 (oF rfl (oL rfl (H.cell 7 rfl rfl) (sq 1 ?_)))))))))))))))))
  have H1:=H.yl 10 3 [6,0,1,2,3,4,5,7,8,9] [1,0,2] qo qo
  have N1:Fresh _ (yj::Ns):=N
  have K1:Kept (Ns) ((xy true yj cJ fI)::(xy Ok aF bD rules)::Γ):=K0.behind 2 rfl
  replace K1:=K1.cons (F:=yj) 0 rfl rfl
  refine sw (zL #[pp bs 0,yI kk,yI most] rfl rfl call141 (dFew_ok ak bw aJ bs ac cc Fc kk most H1 N1 K1 qg qg qg) ?_)
  clear H H1 N1 K1
  rintro _ KY ⟨Sl,xl,aie,ahE,arC,agf,aao,Ym,rfl,N,H⟩
  obtain rfl:=H.jC 1 rfl
  refine sq 1 (zjc (oF rfl (oL rfl (H.cell 5 rfl rfl) (sp (Bv true) (sw (zf H underlying28 ti4 [Bv true] fun b71 HE H=>sw (zo H 5 rfl 0 rfl underlying28 ti4 rfl qj rfl rfl rfl qw qp qf fun Tn Ty V5 H=>?_)))))))
  rw [snocB] at H
  dsimp only [List.set] at H
  refine oF rfl (sw (xH H 6 [Sv Tn (Qu+1) Ty,Sv X9 Xk X5,Sv (aa b3 0) kk.toNat kk.toNat] sizeOf28 fun WR H=>?_))
  dsimp only [List.set] at H
  refine zjn (xJ (oF rfl (oL rfl (H.cell 6 rfl rfl) (sq 1 (sw (zf H underlying29 ti24 [Sv ahE aie.length agf] fun ws WE H=>?_))))))
  obtain ⟨G82,N,ax3,H⟩:=H.zN 3 rfl N (fun F hF b hb=>(List.mem_append.1 (show F∈[yj]++Ns from hF)).elim (fun h=>(H.jA (L:=[yj]) [1]) F h b hb) fun h=>H.QG (K0.behind 3 rfl) F h b hb)
  dsimp only [List.set] at H
  refine sw (zo H 5 rfl 0 rfl underlying29 ti24 rfl qj rfl rfl rfl qw qp qf fun a79 c80 SR H=>?_)
  dsimp only [List.set] at H
  replace H:=H.yx 2 rfl 0 rfl
  replace N:Fresh W0.heap.size ((yj++G82)::Ns):=(N.zU 2 [1,0] qo).join
  refine oF rfl (sw (xH H 7 [Sv Tn (Qu+1) Ty,Sv a79 (Xk+1) c80,Sv (aa b3 0) kk.toNat kk.toNat] sizeOf29 fun HG H=>?_))
  dsimp only [List.set] at H
  refine xO (b_n (t_n (xJ (sp (yI c) (sw (zn c 1 rfl rfl qf (sq 1 (xO (qX (m' :=(par.length - ((c+1):Int)).toNat) qf ⟨_,c+1,_,_,_,_,_,_,_,_,_,_,_,_,uE6,?_,?_,?_,rfl,N,H.zU 13 5 [5,6,7,8,9,2,10,11,12] [0,2,4] qo qo⟩)))))))))
  ·omega
  ·omega
  ·exact i2.snoc (fun _=>rfl) ql (fun h=>by cases h)
 refine zx4 (zcc (sq 1 ?_))
 have H1:=H.yl 9 3 [5,0,1,2,3,4,6,7,8] [1,0,2] qo qo
 have N1:Fresh _ (yj::Ns):=N
 have K1:Kept (Ns) ((xy true yj cJ fI)::(xy Ok aF bD rules)::Γ):=K0.behind 2 rfl
 replace K1:=K1.cons (F:=yj) 0 rfl rfl
 refine sw (zL #[pp bs 0,yI 3] rfl rfl call41 (Vg ak bw aJ bs ac cc Fc (3:Int) H1 N1 K1 qg) ?_)
 clear H H1 N1 K1
 rintro _ w85 ⟨xp,abN,ata,azv,rfl,N,H⟩
 refine zjn (zT _ rfl (fun Rv=>?_) (fun Rv=>?_))
 ·refine xJ (sq 3 (oF rfl (oL rfl (H.cell 6 rfl rfl) ?_)))
  have H1:=H.yl 9 3 [0,1,2,3,4,5,6,7,8] [0,1,2] qo qo
  have N1:Fresh _ (yj::Ns):=N
  have K1:Kept (Ns) ((xy true yj cJ fI)::(xy Ok aF bD rules)::Γ):=K0.behind 2 rfl
  replace K1:=K1.cons (F:=yj) 0 rfl rfl
  refine sw (zL #[pp bs 0,yI kk,yI 2] rfl rfl call141 (dFew_ok ak xp abN bs ac cc Fc kk (2:Int) H1 N1 K1 qg qg qg) ?_)
  clear H H1 N1 K1
  rintro _ Yj ⟨aly,Pb,GG,Jq,abc,A5,OF,Pg,rfl,N,H⟩
  obtain rfl:=H.jC 1 rfl
  refine oF rfl (sw (xH H 4 [Sv Vr Qu Vo,Sv X9 Xk X5,Sv Jq GG.length A5] sizeOf24 fun wV H=>?_))
  dsimp only [List.set] at H
  refine zjc (sw (xU [Sv Vr Qu Vo,Sv X9 Xk X5,Sv Jq GG.length A5] isAgg31 sizeOf31 rfl (qF (H.cells 4 rfl) 0 3) (sw (xY H 6 [Sv Vr Qu Vo,Sv X9 Xk X5,Sv Jq GG.length A5] sizeOf31 fun OV H=>?_))))
  dsimp only [List.set] at H
  refine zjr (retC H 6 rfl rfl isAgg31 sizeOf31 rfl ⟨_,rfl,?_⟩)
  obtain rfl:c=par.length:=by omega
  exact ⟨aly,Pb,m5,fI,GG,Vr,Qu,Vo,X9,Xk,X5,cJ,yj,Jq,GG.length,A5,qf,(by exact ⟨i2.la,i2.lb,i2.skin qf,by assumption,i2.bags⟩),rfl,N,H.zU 10 3 [0,7,8,9,3,2,1] [0,2,1] qo qo⟩
 refine qV (t_n (zcr (sw (xU [Sv Vr Qu Vo,Sv X9 Xk X5,Sv (aa b3 0) kk.toNat kk.toNat] isAgg31 sizeOf31 rfl (qF (H.cells 3 rfl) 0 3) (sw (xY H 5 [Sv Vr Qu Vo,Sv X9 Xk X5,Sv (aa b3 0) kk.toNat kk.toNat] sizeOf31 fun EP H=>?_))))))
 dsimp only [List.set] at H
 refine zjr (retC H 5 rfl rfl isAgg31 sizeOf31 rfl ⟨_,rfl,?_⟩)
 obtain rfl:c=par.length:=by omega
 exact ⟨xp,abN,m5,fI,(List.replicate kk.toNat (0:Int)),Vr,Qu,Vo,X9,Xk,X5,cJ,yj,(aa b3 0),kk.toNat,kk.toNat,qf,(by exact ⟨i2.la,i2.lb,i2.skin qf,vT.zero qf qf,i2.bags⟩),rfl,N,H.zU 9 3 [0,6,7,8,2,1,4] [0,2,1] qo qo⟩
end
section
theorem St.rowel_RuleD (H:St W0 w ps Γ) (k:Nat) (hp:ps[k]? =some (.row (Sv (some ⟨b,0,none⟩) nn c) e 9 nn xs)) (j:Nat) {l:List vS}
 (hf:Γ[j]? =some (xy fr F xs l)) {iv:Int} (i:Nat) (h:iv.toNat=i) (h1:i < nn):
 ∃ (aN:yOA) (cN:Nat) (FN:yLN) (aH:yOA) (cH:Nat) (FH:yLN) (aL:yOA) (cL:Nat) (FL:yLN) (aE:yOA) (cE:Nat) (FE:yLN) (aO:yOA) (cO:Nat) (FO:yLN) (aI:yOA) (cI:Nat) (FI:yLN),
  (∀ (q:Nat) (v:Value),([.int .i64 (l[i]!).qI,.int .i64 (l[i]!).jG,Sv aN ((l[i]!).zk.length) cN,Sv aH ((l[i]!).vk.length) cH,Sv aL ((l[i]!).vw.length) cL,Sv aE ((l[i]!).zS.length) cE,Sv aO ((l[i]!).jX.length) cO,Sv aI ((l[i]!).xe.length) cI,Bv (l[i]!).vg]:List Value)[q]? =some v->xs[0+iv.toNat * 9+q]? =some v)∧
  St W0 w ps (isF fr FN (Sv aN ((l[i]!).zk.length) cN) ((l[i]!).zk)::isF fr FH (Sv aH ((l[i]!).vk.length) cH) ((l[i]!).vk)::isF fr FL (Sv aL ((l[i]!).vw.length) cL) ((l[i]!).vw) ::
   isF fr FE (Sv aE ((l[i]!).zS.length) cE) ((l[i]!).zS)::isF fr FO (Sv aO ((l[i]!).jX.length) cO) ((l[i]!).jX)::isF fr FI (Sv aI ((l[i]!).xe.length) cI) ((l[i]!).xe)::Γ):=by
 obtain ⟨cs,G,hc,hr,aT,ff,v1,v2,hv,ut⟩:=St.rowElem (α:=vS) H k hp j hf qj h h1
 obtain ⟨vN,vH,vL,vE,vO,vI,FN,FH,FL,FE,FO,FI,rfl,eb,hN,hH,hL,hE,hO,hI⟩:=id hr
 obtain ⟨aN,cN,rfl⟩:=slice_form hN
 obtain ⟨aH,cH,rfl⟩:=slice_form hH
 obtain ⟨aL,cL,rfl⟩:=slice_form hL
 obtain ⟨aE,cE,rfl⟩:=slice_form hE
 obtain ⟨aO,cO,rfl⟩:=slice_form hO
 obtain ⟨aI,cI,rfl⟩:=slice_form hI
 refine ⟨aN,cN,FN,aH,cH,FH,aL,cL,FL,aE,cE,FE,aO,cO,FO,aI,cI,FI,fun q v hq=>?_,?_⟩
 ·have ut:v1.length=i * 9:=ut
  have oT:q < 9:=by
   rcases Nat.lt_or_ge q 9 with h | h
   ·exact h
   ·rw [List.getElem?_eq_none (by simpa using h)] at hq;cases hq
  rw [hv,List.append_assoc,Nat.zero_add,h,← ut,List.getElem?_append_right qf,Nat.add_sub_cancel_left,List.getElem?_append_left (by simpa using oT)]
  exact hq
 ·have hs:∀ {x:Nat} {X:yLN},x∈X->(∀ y∈X,y∈G)->x∈G:=fun h h' =>h' _ h
  have s6:=H.yt j hf (isF fr FI (Sv aI ((l[i]!).xe.length) cI) ((l[i]!).xe)) ⟨hI,fun e=>(ff e).sub (by rw [eb];intro x hx;simp [hx])⟩ (fun x hx=>aT x (by rw [eb];have hx:x∈FI:=hx;simp [hx]))
  have s5:=s6.yt (j+1) hf (isF fr FO (Sv aO ((l[i]!).jX.length) cO) ((l[i]!).jX)) ⟨hO,fun e=>(ff e).sub (by rw [eb];intro x hx;simp [hx])⟩ (fun x hx=>aT x (by rw [eb];have hx:x∈FO:=hx;simp [hx]))
  have s4:=s5.yt (j+2) hf (isF fr FE (Sv aE ((l[i]!).zS.length) cE) ((l[i]!).zS)) ⟨hE,fun e=>(ff e).sub (by rw [eb];intro x hx;simp [hx])⟩ (fun x hx=>aT x (by rw [eb];have hx:x∈FE:=hx;simp [hx]))
  have s3:=s4.yt (j+3) hf (isF fr FL (Sv aL ((l[i]!).vw.length) cL) ((l[i]!).vw)) ⟨hL,fun e=>(ff e).sub (by rw [eb];intro x hx;simp [hx])⟩ (fun x hx=>aT x (by rw [eb];have hx:x∈FL:=hx;simp [hx]))
  have s2:=s3.yt (j+4) hf (isF fr FH (Sv aH ((l[i]!).vk.length) cH) ((l[i]!).vk)) ⟨hH,fun e=>(ff e).sub (by rw [eb];intro x hx;simp [hx])⟩ (fun x hx=>aT x (by rw [eb];have hx:x∈FH:=hx;simp [hx]))
  exact s2.yt (j+5) hf (isF fr FN (Sv aN ((l[i]!).zk.length) cN) ((l[i]!).zk)) ⟨hN,fun e=>(ff e).sub (by rw [eb];intro x hx;simp [hx])⟩ (fun x hx=>aT x (by rw [eb];have hx:x∈FN:=hx;simp [hx]))
theorem part_lt {q:Nat} (h:xs[q]? =some v):q < xs.length:=(List.getElem?_eq_some_iff.1 h).1
theorem part_get {cells:List Value} {B:Nat} (hx:∀ (q:Nat) (v:Value),cells[q]? =some v->xs[B+q]? =some v) (j:Nat) (u:Value) (hj:j < cells.length):
 ∀ (q:Nat) (v:Value),(cells.set j u)[q]? =some v->(xs.set (B+j) u)[B+q]? =some v:=fun q v h=>by
 have hl:=part_lt (hx j _ (List.getElem?_eq_getElem hj))
 by_cases e:q=j
 ·subst e
  rw [List.getElem?_set_self hj] at h
  rw [List.getElem?_set_self hl]
  exact h
 ·rw [List.getElem?_set_ne (fun h=>e h.symm)] at h
  rw [List.getElem?_set_ne qf]
  exact hx q v h
section
variable {P : Program} {io : Array Oper} {Q : Exit -> Act -> World -> Prop} {n : Nat} {ρ : Env} {W0 w : World} {ai : List Oper} {ps : List Prv} {Γ : List Fact}
 {d:Nat} {ty:TypeId} {pos:String} {af:Array Edge} {K:Env->World->Prop}
theorem XJ {aC:Nat} {sz:Nat} (H:St W0 w ps Γ) (k:Nat) (hp:ps[k]? =some (.row (Sv (some ⟨b,0,none⟩) nn c) e sz nn xs)) (v:Value)
 (hs:∀ w,(Go.sizeOf t).run P w=.ok 1 w) (hx:ev n ρ x=.pointer (some ⟨b,aC,none⟩)) (hy:ev n ρ y=v) (h1:v.oneCell' =true) (h2:aC < xs.length)
 (kk:∀ w',St W0 w' (ps.set k (.row (Sv (some ⟨b,0,none⟩) nn c) e sz nn (xs.set aC v))) Γ->K ρ w'):
 OW P Q ⟨none,.store t x y,ty,pos,af,none⟩ n ρ w K:=by
 have hc:v.cells=#[v]:=by cases v <;> first | rfl | (simp [Value.oneCell'] at h1)
 refine o_storeRow H k hp v (by simpa [hc] using hs) hx hy (by simp [hc,h1]) (by simp [hc];omega) ?_
 simp only [hc,List.size_toArray,List.length_cons,List.length_nil,Nat.zero_add]
 rw [show xs.take aC++[v]++xs.drop (aC+1)=xs.set aC v by rw [List.set_eq_take_append_cons_drop,if_pos qf];simp]
 exact kk
end
theorem reps_part {α:Type} [qW α] [Inhabited α] {l:List α} {f:α} (i q:Nat) (hi:i < l.length) (hq:q < qW.size α)
 (hr:∀ Fk ck,qW.rep w Fk ck (l[i]!)->∃ F',qW.rep w F' (ck.set q v) f/\∀ b∈F',b∈Fk\/b∈G) (h:reps w F X l):
 ∃ F',reps w F' (X.set (i * qW.size α+q) v) (l.set i f)/\∀ b∈F',b∈F\/b∈G:=by
 obtain ⟨F1,Fk,F2,v1,cs,v2,hF,hv,JH,TH,h1,h2,h3⟩:=reps_get h i hi
 obtain ⟨F',Pj,hs⟩:=hr Fk cs (by rw [getElem!_pos l i hi];exact h1)
 refine ⟨F1++F' ++F2,?_,fun b hb=>?_⟩
 ·rw [hv,← JH,List.append_assoc v1,List.set_append_right _ _ qf,Nat.add_sub_cancel_left,List.set_append_left _ _ qf,List.set_eq_take_append_cons_drop (l:=l),if_pos hi,← List.append_assoc]
  have:=yO (yO h2 (reps_one Pj)) h3
  simpa using this
 ·simp only [List.mem_append] at hb
  rw [hF]
  rcases hb with (hb | hb) | hb
  ·exact .inl (by simp [hb])
  ·rcases hs b hb with h | h
   ·exact .inl (by simp [h])
   ·exact .inr h
  ·exact .inl (by simp [hb])
section
variable {W0 w : World} {ps : List Prv} {Γ : List Fact}
theorem St.part {β:Type} [qW β] (H:St W0 w ps Γ) (j:Nat) {l:List vS} (hf:Γ[j]? =some (xy fr F X l)) (m:Nat) {z:β} (hg:Γ[m]? =some (isF wl G v z))
 {iv:Int} (i:Nat) (hi:iv.toNat=i) (h1:i < l.length) (q:Nat) (hq:q < 9) (f:vS) (hr:∀ Fk ck,qW.rep w Fk ck (l[i]!)->∃ F',qW.rep w F' (ck.set q v) f/\∀ b∈F',b∈Fk\/b∈G):
 ∃ F',St W0 w ps (xy false F' (X.set (0+iv.toNat * 9+q) v) (l.set i f)::Γ):=by
 subst hi
 obtain ⟨F',h2,h3⟩:=reps_part (α:=vS) iv.toNat q h1 hq hr (H.get j hf).1
 refine ⟨F',H.add _ ⟨by rw [Nat.zero_add];exact h2,by simp⟩ fun b hb=>?_⟩
 rcases h3 b hb with h | h
 ·exact (H.facts _ (List.mem_of_getElem? hf)).2 b h
 ·exact (H.facts _ (List.mem_of_getElem? hg)).2 b h
theorem St.part_5 (H:St W0 w ps Γ) (j:Nat) {l:List vS} (hf:Γ[j]? =some (xy fr F X l)) (m:Nat) (hg:Γ[m]? =some (isF wl G v z)) (i:Nat) (hi:iv.toNat=i) (h1:i < l.length):
 ∃ F',St W0 w ps (xy false F' (X.set (0+iv.toNat * 9+5) v) (l.set i { l[i]! with zS:=z })::Γ):=by
 refine H.part j hf m hg i hi h1 5 qj _ fun Fk ck hk=>?_
 obtain ⟨v1,v2,v3,v4,v5,v6,F1,F2,F3,F4,F5,F6,rfl,rfl,k1,k2,k3,k4,k5,k6⟩:=hk
 refine ⟨_,⟨v1,v2,v3,v,v5,v6,F1,F2,F3,G,F5,F6,rfl,rfl,k1,k2,k3,(H.get m hg).1,k5,k6⟩,fun b hb=>?_⟩
 simp only [List.mem_append] at hb
 rcases hb with ((((hb | hb) | hb) | hb) | hb) | hb <;> simp [hb]
theorem St.part_6 (H:St W0 w ps Γ) (j:Nat) {l:List vS} (hf:Γ[j]? =some (xy fr F X l)) (m:Nat) (hg:Γ[m]? =some (isF wl G v z)) (i:Nat) (hi:iv.toNat=i) (h1:i < l.length):
 ∃ F',St W0 w ps (xy false F' (X.set (0+iv.toNat * 9+6) v) (l.set i { l[i]! with jX:=z })::Γ):=by
 refine H.part j hf m hg i hi h1 6 qj _ fun Fk ck hk=>?_
 obtain ⟨v1,v2,v3,v4,v5,v6,F1,F2,F3,F4,F5,F6,rfl,rfl,k1,k2,k3,k4,k5,k6⟩:=hk
 refine ⟨_,⟨v1,v2,v3,v4,v,v6,F1,F2,F3,F4,G,F6,rfl,rfl,k1,k2,k3,k4,(H.get m hg).1,k6⟩,fun b hb=>?_⟩
 simp only [List.mem_append] at hb
 rcases hb with ((((hb | hb) | hb) | hb) | hb) | hb <;> simp [hb]
theorem St.part_7 (H:St W0 w ps Γ) (j:Nat) {l:List vS} (hf:Γ[j]? =some (xy fr F X l)) (m:Nat) {z:List Xj} (hg:Γ[m]? =some (isF wl G v z)) (i:Nat) (hi:iv.toNat=i) (h1:i < l.length):
 ∃ F',St W0 w ps (xy false F' (X.set (0+iv.toNat * 9+7) v) (l.set i { l[i]! with xe:=z })::Γ):=by
 refine H.part j hf m hg i hi h1 7 qj _ fun Fk ck hk=>?_
 obtain ⟨v1,v2,v3,v4,v5,v6,F1,F2,F3,F4,F5,F6,rfl,rfl,k1,k2,k3,k4,k5,k6⟩:=hk
 refine ⟨_,⟨v1,v2,v3,v4,v5,v,F1,F2,F3,F4,F5,G,rfl,rfl,k1,k2,k3,k4,k5,(H.get m hg).1⟩,fun b hb=>?_⟩
 simp only [List.mem_append] at hb
 rcases hb with ((((hb | hb) | hb) | hb) | hb) | hb <;> simp [hb]
end
theorem jq.here {par:yLI} {l:List vS} {b:yLI} (h:jq kk par l) (hi:i < l.length) (hb:vT kk 2 b):jq kk par (l.set i { l[i]! with zS:=b }):=
 h.set (let r:=h i hi;⟨r.cell,r.rank,r.melts,r.need,r.hav,r.lack,hb,r.out,r.many,r.into⟩)
theorem jq.out {par:yLI} {l:List vS} {b:yLI} (h:jq kk par l) (hi:i < l.length) (hb:vT kk 2 b):jq kk par (l.set i { l[i]! with jX:=b }):=
 h.set (let r:=h i hi;⟨r.cell,r.rank,r.melts,r.need,r.hav,r.lack,r.here,hb,r.many,r.into⟩)
theorem jq.into {par:yLI} {l:List vS} (h:jq kk par l) (hi:i < l.length):jq kk par (l.set i { l[i]! with xe:=[]}):=
 h.set (let r:=h i hi;⟨r.cell,r.rank,r.melts,r.need,r.hav,r.lack,r.here,r.out,by simp,IntoDr.nil _ _ _ _⟩)
theorem jq.still {par:yLI} {l:List vS} (h:jq kk par l) (hi:i < l.length):jq kk par (l.set i { l[i]! with vg:=false }):=
 h.set (let r:=h i hi;⟨r.cell,r.rank,(fun e=>Bool.noConfusion e.1),r.need,r.hav,r.lack,r.here,r.out,r.many,r.into⟩)
theorem SysDr.with {par:yLI} {ym:List vS} (h:SysDr kk par rules) (h1:ym.length<=5) (h2:jq kk par ym):SysDr kk par ym :=⟨h.kinds,h.cells,h.skin,h.up,h1,h2⟩
def HereTo (kk:Int) (k:Nat) (l:yLI):Prop:=vT kk 2 l/\∀ j,j < l.length->k<=j+1->l[j]! =0
theorem HereTo.zero {kk:Int} (h0:0<=kk):HereTo kk 1 (List.replicate kk.toNat 0):=⟨vT.zero h0 qf,fun j hj _=>by rw [getElem!_pos (List.replicate kk.toNat (0:Int)) j hj,List.getElem_replicate]⟩
theorem HereTo.go (h:HereTo kk k l):HereTo kk (k+1) l:=⟨h.1,fun j hj hk=>h.2 j hj qf⟩
theorem HereTo.put {kk:Int} {k i:Nat} {l:yLI} {v:Int} (h:HereTo kk k l) (hi:i < l.length) (hk:i+1=k) (hv:0<=v/\v<=2):HereTo kk (k+1) (l.set i (l[i]! +v)):=by
 have h0:=h.2 i hi qf
 refine ⟨h.1.put qf,fun j hj uG =>?_⟩
 rw [List.length_set] at hj
 rw [getElem!_pos (l.set i _) j (by rw [List.length_set];exact hj),List.getElem_set,if_neg qf]
 have:=h.2 j hj qf
 rwa [getElem!_pos l j hj] at this
end
section
theorem dShrink_ok (ak:List UInt8) (ip:Int) (sd:Int) (bs:Nat) (ac:yOA) (cc:Nat) (Fc:yLN) (H:St W0 w ((.box bs [Sv ac ak.length cc,yI ip,.int .u64 sd] 115)::ps) ((sF false Fc ac cc ak)::Γ)) (N:Fresh W0.heap.size (Ns)) (K0:Kept Ns Γ) (q0:0<=ip/\ip<=30000):Calls Tryz.prog 40 #[pp bs 0] w (fun e w' =>∃ v,e=.returned v/\∃ (jx:Int) (uQ:Int) (Gi:Int) (se:yLI) (iP:List vS) (i7:List Bool) (oA:yLL) (fx:yLI) (MI:yOA) (LU:Nat) (L4:Nat) (KQ:yOA) (Kk:Nat) (LE:Nat) (LD:List Value) (Qf:yLN) (Mw:yOA) (LP:Nat) (KD:Nat) (MF:yOA) (KC:Nat) (KF:Nat) (Lr:List Value) (Kv:yLN) (MO:yOA) (KZ:Nat) (Lo:Nat),(ip<=jx/\jx<=ip+5000)/\(SysDr Gi se iP)/\(StDr Gi se.length 4 i7 oA fx)/\v=.tuple #[.agg #[yI Gi,Sv MI LU L4,Sv KQ Kk LE],.agg #[Sv Mw LP KD,Sv MF KC KF,Sv MO KZ Lo]]/\Fresh W0.heap.size (Kv::Ns)/\St W0 w' ((.box bs [Sv ac ak.length cc,yI jx,.int .u64 uQ] 115)::(rr MI LU L4 2 1 (se.map (Value.int .i64)))::(rr KQ Kk LE 70 9 LD)::(rr Mw LP KD 4 1 (i7.map (Value.bool)))::(rr MF KC KF 24 1 Lr)::(rr MO KZ Lo 2 1 (fx.map (Value.int .i64)))::ps) ((sF false Fc ac cc ak)::(xy false Qf LD iP)::(xy true Kv Lr oA)::Γ)):=by
 refine en func40 ntmps40 ?_
 refine zcr (sw (xq H ti27 [yI 0,yN,yN] fun b1 w2 H=>sw (xq H ti31 [yN,yN,yN] fun b3 w4 H=>zjc (sq 1 ?_))))
 have H1:=H.yl 3 1 [2,0,1] [0] qo qo
 have N1:Fresh _ (Ns):=N
 have K1:Kept (Ns) (Γ):=K0.behind 0 rfl
 refine sw (zL #[pp bs 0] rfl rfl call87 (dSystem_ok ak ip sd bs ac cc Fc H1 N1 K1 qg) ?_)
 clear H H1 N1 K1
 rintro _ w5 ⟨lG,alJ,aw,im,fD,pB,aw9,sb,uo,ae4,oH,afa,ajH,hx7,hx8,rfl,N,H⟩
 obtain rfl:=H.jC 1 rfl
 obtain rfl:=H.zg (α:=vS) 2 rfl 1 rfl qj
 have k1:=(‹SysDr _ _ _›).kinds
 have k3:=(‹SysDr _ _ _›).few
 have k4:=(‹SysDr _ _ _›).rules
 refine sw (xq H ti27 [yI 0,yN,yN] fun fH wT H=>sw (xY H 0 [yI aw,Sv pB im.length sb,Sv uo fD.length oH] sizeOf27 fun Bo H=>?_))
 dsimp only [List.set] at H
 refine zjcc (sp (yI 0) (zjn (qR ?_)))
 replace H:=H.unfree 1 rfl
 refine zl ((fun Z0 Z1 Z2 Z3 Z4=>fun m' ρ C5=>∃ (xE:Env) (i:Nat) (bw:Int) (aJ:Int) (ag:List vS) (zy:List Value) (x8:yLN),ρ=upd (upd (upd (upd (upd xE 0 (pp bs 0)) 2 (pp b1 0)) 3 (pp b3 0)) 4 (pp fH 0)) 5 (yI i)/\((i:Int)<=fD.length)/\(ip<=bw/\bw<=ip+2000+100 * i)/\(ag.length<=5/\jq aw im ag)/\m' =(fD.length - (i:Int)).toNat/\Fresh W0.heap.size (Ns)/\St W0 C5 (Z0::(.box bs [Sv ac ak.length cc,yI bw,.int .u64 aJ] 115)::Z1::(rr uo fD.length oH 70 9 zy)::Z2::Z3::ps) (Z4::(xy false x8 zy ag)::Γ)) _ _ _ _ _) ((fD.length - (0:Int)).toNat) ⟨_,0,lG,alJ,fD,afa,ajH,uE5,qf,qf,(by exact ⟨by omega,k4⟩),rfl,(N.zU 1 [] qo),H.zU 6 3 (zR 0 6) [1,0] qo qo⟩ ?_
 clear H N
 rintro m' ρ HK ⟨xE,i,bw,aJ,ag,zy,x8,rfl,i0,j1,j2,rfl,N,H⟩
 have sa:=H.zg (α:=vS) 3 rfl 1 rfl qj
 refine zcc (sp (yI i) (oF rfl (oL rfl (H.cell 0 rfl rfl) (oN rfl (sq 1 (zjn (cD rfl (fun lJ=>?_) (fun lJ=>?_))))))))
 ·refine qV (t_n (xQ (qR (zcr (oF rfl (oL rfl (H.cell 0 rfl rfl) (sp (yI i) ?_)))))))
  obtain ⟨wH,rfl⟩:=H.jK 3 rfl qf
  obtain ⟨Xw,QD,cj,QI,QF,cg,QH,QE,bV,rq,rL,vy,Vj,Vh,de,Q7,Q5,bZ,G3,H⟩:=H.rowel_RuleD 3 rfl 1 rfl (iv:=i) i qf qf
  refine oI rfl rfl (sq 1 (zjcc (sq 1 ?_)))
  have H1:=H.yl 6 8 [1,0,2,3,4,5] [6,0,1,2,3,4,5,7] qo qo
  have N1:Fresh _ (Ns):=N
  have K1:Kept (Ns) ((sF false cj Xw QD ((ag[i]!).zk))::(sF false cg QI QF ((ag[i]!).vk))::(sF false bV QH QE ((ag[i]!).vw))::(sF false vy rq rL ((ag[i]!).zS))::(sF false de Vj Vh ((ag[i]!).jX))::(sF false bZ Q7 Q5 ((ag[i]!).xe))::(xy false x8 zy ag)::Γ):=K0.behind 7 rfl
  refine sw (zL #[pp bs 0,yI 8] rfl rfl call41 (Vg ak bw aJ bs ac cc Fc (8:Int) H1 N1 K1 qg) ?_)
  clear H H1 N1 K1
  rintro _ Mi ⟨ajS,aeR,ax8,atj,rfl,N,H⟩
  refine zjn (zT _ rfl (fun uF=>?_) (fun uF=>?_))
  ·refine Qx (t_x (b_x (t_n (xJ (sp (yI i) (sw (zn i 1 rfl rfl qf (sq 1 (xO (qX (m' :=(fD.length - ((i+1):Int)).toNat) qf ⟨_,i+1,_,_,_,_,_,uE5,?_,?_,?_,rfl,N,H.zU 6 8 [1,0,2,3,4,5] [0,7] qo qo⟩))))))))))
   ·omega
   ·omega
   ·exact ⟨by (skip);omega,by have q2:=j2.2;(repeat' (assumption))⟩
  refine qV (t_n (zcr (sq 1 (oF rfl (oL rfl (H.cell 1 rfl rfl) (sw (zV H underlying24 ti2 aw.toNat rfl rfl qf qf qf fun nm E4 H=>sq 1 (oF rfl (sw (XJ H 4 rfl (Sv (aa nm 0) aw.toNat aw.toNat) sizeOf24 rfl rfl rfl (part_lt (G3 5 _ rfl)) fun w40 H=>?_))))))))))
  have uZ:=part_get (cells:=[yI ((ag[i]!).qI),yI ((ag[i]!).jG),Sv Xw (((ag[i]!).zk).length) QD,Sv QI (((ag[i]!).vk).length) QF,Sv QH (((ag[i]!).vw).length) QE,Sv rq (((ag[i]!).zS).length) rL,Sv Vj (((ag[i]!).jX).length) Vh,Sv Q7 (((ag[i]!).xe).length) Q5,Bv ((ag[i]!).vg)]) G3 5 (Sv (aa nm 0) aw.toNat aw.toNat) (Nat.le_of_ble_eq_true rfl)
  replace uZ:∀ (q:Nat) (v:Value),([yI ((ag[i]!).qI),yI ((ag[i]!).jG),Sv Xw (((ag[i]!).zk).length) QD,Sv QI (((ag[i]!).vk).length) QF,Sv QH (((ag[i]!).vw).length) QE,Sv (aa nm 0) aw.toNat aw.toNat,Sv Vj (((ag[i]!).jX).length) Vh,Sv Q7 (((ag[i]!).xe).length) Q5,Bv ((ag[i]!).vg)]:List Value)[q]? =some v->(zy.set (0+(i:Int).toNat * 9+5) (Sv (aa nm 0) aw.toNat aw.toNat))[0+(i:Int).toNat * 9+q]? =some v:=uZ
  dsimp only [List.set] at H
  refine zjcc (sp (yI 1) (zjn (qR ?_)))
  have k7:=(j2.2 i qf).need.1.len qf
  refine zl ((fun Z0 Z1 Z2 Z3 Z4 Z5 Z6 Z7 Z8 Z9 bx bG=>fun m' ρ wR=>∃ (xE:Env) (k:Nat) (bn:Int) (bB:Int) (sv:yLI),ρ=upd (upd (upd (upd (upd (upd (upd xE 0 (pp bs 0)) 2 (pp b1 0)) 3 (pp b3 0)) 4 (pp fH 0)) 5 (yI i)) 6 (pp wH (0+(i:Int).toNat * 9))) 7 (yI k)/\((k:Int)<=aw)/\(ip<=bn/\bn<=ip+2002+100 * i+4 * k)/\(HereTo aw k sv)/\(1<=(k:Int))/\m' =(aw - (k:Int)).toNat/\Fresh W0.heap.size (Ns)/\St W0 wR ((rr (aa nm 0) aw.toNat aw.toNat 2 1 (sv.map (Value.int .i64)))::(.box bs [Sv ac ak.length cc,yI bn,.int .u64 bB] 115)::Z0::Z1::Z2::Z3::Z4::ps) (Z5::Z6::Z7::Z8::Z9::bx::bG::Γ)) _ _ _ _ _ _ _ _ _ _ _ _) ((aw - (1:Int)).toNat) ⟨_,1,ajS,aeR,(List.replicate aw.toNat (0:Int)),uE7,qf,qf,(by exact HereTo.zero qf),qf,rfl,N,H.zU 7 8 (zR 0 7) [0,1,2,3,5,6,7] qo qo⟩ ?_
  clear H N
  rintro m' ρ Df ⟨xE,k,bn,bB,sv,rfl,i0,k0,k2,k6,rfl,N,H⟩
  have agM:=H.jC 0 rfl
  refine zcc (sp (yI k) (oF rfl (oL rfl (H.cell 2 rfl rfl) (sq 1 (zjn (cD rfl (fun Hf=>?_) (fun Hf=>?_)))))))
  ·refine qV (t_n (xQ (qR (zcr (sq 2 (oF rfl (oL rfl (H.Vk 4 rfl (uZ 2 _ rfl)) (sp (yI k) ?_))))))))
   obtain ⟨JI,Ys,rfl⟩:=H.addr 1 rfl qf
   refine oI rfl rfl (oL rfl (H.zA 1 rfl k qf) (sp (Bv (decide ((((ag[i]!).zk)[k]! :Int) > 0))) (sp (Bv (decide ((((ag[i]!).zk)[k]! :Int) > 0))) ?_)))
   cases oW:(decide ((((ag[i]!).zk)[k]! :Int) > 0))
   ·replace oW:=of_decide_eq_false oW
    refine xR [44,45] (sp (Bv false) (zjn (cFr rfl (qV (b_n (t_n (xJ (sp (yI k) (sw (zn k 1 rfl rfl qf (sq 1 (xO (qX (m' :=(aw - ((k+1):Int)).toNat) qf ⟨_,k+1,_,_,_,uE7,?_,?_,?_,?_,rfl,N,H⟩)))))))))))))
    ·omega
    ·omega
    ·exact k2.go
    ·omega
   replace oW:=of_decide_eq_true oW
   refine qJ 43 rfl rfl (sq 1 (qJ 43 rfl rfl ?_))
   have H1:=H.yl 7 7 [1,0,2,3,4,5,6] [0,1,2,3,4,5,6] qo qo
   have N1:Fresh _ (Ns):=N
   have K1:Kept (Ns) ((sF false cj (aa JI Ys) QD ((ag[i]!).zk))::(sF false cg QI QF ((ag[i]!).vk))::(sF false bV QH QE ((ag[i]!).vw))::(sF false de Vj Vh ((ag[i]!).jX))::(sF false bZ Q7 Q5 ((ag[i]!).xe))::(xy false x8 zy ag)::Γ):=K0.behind 6 rfl
   refine sw (zL #[pp bs 0,yI 2] rfl rfl call41 (Vg ak bn bB bs ac cc Fc (2:Int) H1 N1 K1 qg) ?_)
   clear H H1 N1 K1
   rintro _ Pz ⟨JR,aaD,acf,GC,rfl,N,H⟩
   refine sp (Bv acf) (zjn (zT _ rfl (fun HH=>?_) (fun HH=>?_)))
   ·refine VP (fun ρ Hj=>∃ (xE:Env) (Ia:Int) (DB:Int) (abh:Int),ρ=upd (upd (upd (upd (upd (upd (upd (upd (upd xE 0 (pp bs 0)) 2 (pp b1 0)) 3 (pp b3 0)) 4 (pp fH 0)) 5 (yI i)) 6 (pp wH (0+(i:Int).toNat * 9))) 7 (yI k)) 44 (pp bs 0)) 45 (Bv acf)/\(JR<=Ia/\Ia<=JR+2)/\(0<=DB/\(DB < (3:Int)\/DB=0))/\Fresh W0.heap.size (Ns)/\St W0 Hj ((.box bs [Sv ac ak.length cc,yI Ia,.int .u64 abh] 115)::(rr (aa nm 0) aw.toNat aw.toNat 2 1 ((sv.set ((k - 1:Int).toNat) ((sv[(k - 1:Int).toNat]!)+DB)).map (Value.int .i64)))::(.box fH [yI aw,Sv pB im.length sb,Sv (aa wH 0) fD.length oH] 27)::(rr pB im.length sb 2 1 (im.map (Value.int .i64)))::(rr (aa wH 0) fD.length oH 70 9 (zy.set (0+(i:Int).toNat * 9+5) (Sv (aa nm 0) aw.toNat aw.toNat)))::(.box b3 [yN,yN,yN] 31)::(.box b1 [yI 0,yN,yN] 27)::ps) ((sF false Fc ac cc ak)::(sF false cj (aa JI Ys) QD ((ag[i]!).zk))::(sF false cg QI QF ((ag[i]!).vk))::(sF false bV QH QE ((ag[i]!).vw))::(sF false de Vj Vh ((ag[i]!).jX))::(sF false bZ Q7 Q5 ((ag[i]!).xe))::(xy false x8 zy ag)::Γ)) ?_ ?_
    ·refine QT rfl H [2,3,4,5,6] [0,1,2,3,4,5,6] fun H=>?_
     have S:=H.jm (zR 2 5) (zR 0 7)
     refine rtl 0 S ?_
     refine rtl 1 S ?_
     refine tF 2 rfl rfl S ?_
     refine tL 3 rfl rfl (fun _ h=>h.Vk 2 rfl (uZ 5 _ rfl)) S ?_
     refine rtp 4 (yI k) S ?_
     refine rt 5 _ (y_sub k 1 rfl rfl qf) S ?_
     refine tI 6 rfl rfl rfl S ?_
     refine rtl 8 S ?_
     refine vK [7,9] qh qm (jb rfl ?_ (jb rfl ?_ vM))
     ·refine x9 (yI (sv[(k - 1:Int).toNat]!)) isAgg2 rfl (H.QJ 1 rfl (iv:=k - 1) (i:=((k - 1:Int).toNat)) qf qf) (⟨H.pick (zR 2 5) (zR 0 7),(ro 9 rfl ?_)⟩)
      have H1:=H.yl 7 7 [0,1,2,3,4,5,6] [0,1,2,3,4,5,6] qo qo
      have N1:Fresh _ (Ns):=N
      have K1:Kept (Ns) ((sF false cj (aa JI Ys) QD ((ag[i]!).zk))::(sF false cg QI QF ((ag[i]!).vk))::(sF false bV QH QE ((ag[i]!).vw))::(sF false de Vj Vh ((ag[i]!).jX))::(sF false bZ Q7 Q5 ((ag[i]!).xe))::(xy false x8 zy ag)::Γ):=K0.behind 6 rfl
      refine zL #[pp bs 0,yI 3] rfl rfl call43 (yM ak JR aaD bs ac cc Fc (3:Int) H1 N1 K1 qg) ?_
      clear H H1 N1 K1
      rintro _ KY ⟨Sl,xl,PI,aao,Ym,rfl,N,H⟩
      have k5:=k2.2 (k - 1:Int).toNat qf qf
      refine ⟨H.pick (zR 2 5) (zR 0 7),?_⟩
      have S:=H.jm (zR 2 5) (zR 0 7)
      refine rt 10 _ (y_add (sv[(k - 1:Int).toNat]!) PI rfl rfl qf) S ?_
      refine tI 11 rfl rfl rfl S ?_
      refine ro 12 rfl (y5 H 1 rfl ((sv[(k - 1:Int).toNat]!)+PI) sizeOf2 rfl rfl (i:=((k - 1:Int).toNat)) qf qf fun Rr H=>?_)
      dsimp only [List.set] at H
      refine ⟨H.pick (zR 2 5) (zR 0 7),(xw qh ((meet ⟨_,Sl,PI,xl,uE9,aao,Ym,N,H⟩)))⟩
     have H1:=H.yl 7 7 [0,1,2,3,4,5,6] [0,1,2,3,4,5,6] qo qo
     have N1:Fresh _ (Ns):=N
     have K1:Kept (Ns) ((sF false cj (aa JI Ys) QD ((ag[i]!).zk))::(sF false cg QI QF ((ag[i]!).vk))::(sF false bV QH QE ((ag[i]!).vw))::(sF false de Vj Vh ((ag[i]!).jX))::(sF false bZ Q7 Q5 ((ag[i]!).xe))::(xy false x8 zy ag)::Γ):=K0.behind 6 rfl
     refine zL #[pp bs 0,yI 3] rfl rfl call43 (yM ak JR aaD bs ac cc Fc (3:Int) H1 N1 K1 qg) ?_
     clear H H1 N1 K1
     rintro _ HD ⟨ajI,akU,B6,sn,Jf,rfl,N,H⟩
     have k5:=k2.2 (k - 1:Int).toNat qf qf
     refine ⟨H.pick (zR 2 5) (zR 0 7),(ro 7 rfl (x9 (yI (sv[(k - 1:Int).toNat]!)) isAgg2 rfl (H.QJ 1 rfl (iv:=k - 1) (i:=((k - 1:Int).toNat)) qf qf) (⟨H.pick (zR 2 5) (zR 0 7),?_⟩)))⟩
     have S:=H.jm (zR 2 5) (zR 0 7)
     refine rt 10 _ (y_add (sv[(k - 1:Int).toNat]!) B6 rfl rfl qf) S ?_
     refine tI 11 rfl rfl rfl S ?_
     refine ro 12 rfl (y5 H 1 rfl ((sv[(k - 1:Int).toNat]!)+B6) sizeOf2 rfl rfl (i:=((k - 1:Int).toNat)) qf qf fun WR H=>?_)
     dsimp only [List.set] at H
     refine ⟨H.pick (zR 2 5) (zR 0 7),(xw qh ((meet ⟨_,ajI,B6,akU,uE9,sn,Jf,N,H⟩)))⟩
    clear H N
    rintro ρ w77 ⟨xE,Ia,DB,abh,rfl,agy,ahK,N,H⟩
    refine b_n (t_n (xJ (sp (yI k) (sw (zn k 1 rfl rfl qf (sq 1 (xO (qX (m' :=(aw - ((k+1):Int)).toNat) qf ⟨_,k+1,_,_,_,uE7,?_,?_,?_,?_,rfl,N,H.zU 7 7 (1::0::zR 2 5) (zR 0 7) qo qo⟩))))))))
    ·omega
    ·omega
    ·exact k2.put qf qf qf
    ·omega
   refine qV (b_n (t_n (xJ (sp (yI k) (sw (zn k 1 rfl rfl qf (sq 1 (xO (qX (m' :=(aw - ((k+1):Int)).toNat) qf ⟨_,k+1,_,_,_,uE7,?_,?_,?_,?_,rfl,N,H.zU 7 7 (1::0::zR 2 5) (zR 0 7) qo qo⟩)))))))))
   ·omega
   ·omega
   ·exact k2.go
   ·omega
  refine zx4 (zcc (sq 1 ?_))
  have H1:=H.yl 7 7 [1,0,2,3,4,5,6] [0,1,2,3,4,5,6] qo qo
  have N1:Fresh _ (Ns):=N
  have K1:Kept (Ns) ((sF false cj Xw QD ((ag[i]!).zk))::(sF false cg QI QF ((ag[i]!).vk))::(sF false bV QH QE ((ag[i]!).vw))::(sF false de Vj Vh ((ag[i]!).jX))::(sF false bZ Q7 Q5 ((ag[i]!).xe))::(xy false x8 zy ag)::Γ):=K0.behind 6 rfl
  refine sw (zL #[pp bs 0,yI 2] rfl rfl call41 (Vg ak bn bB bs ac cc Fc (2:Int) H1 N1 K1 qg) ?_)
  clear H H1 N1 K1
  rintro _ MS ⟨tD,IF,asq,Cr,rfl,N,H⟩
  refine zjn (zT _ rfl (fun lB=>?_) (fun lB=>?_))
  ·refine xJ (sq 1 (oF rfl (oL rfl (H.cell 2 rfl rfl) (sw (zV H underlying24 ti2 aw.toNat rfl rfl qf qf qf fun tM Mn H=>sq 1 (oF rfl ?_))))))
   obtain ⟨Gk,N,av6,H⟩:=H.zN 2 rfl N (fun F hF b hb=>(List.mem_append.1 (show F∈[]++Ns from hF)).elim (fun h=>(H.jA (L:=[]) []) F h b hb) fun h=>H.QG (K0.behind 7 rfl) F h b hb)
   dsimp only [List.set] at H
   obtain ⟨F91,H⟩:=H.part_5 7 rfl 0 rfl (iv:=i) i qf (by omega)
   dsimp only [List.set] at H
   refine sw (XJ H 5 rfl (Sv (aa tM 0) aw.toNat aw.toNat) sizeOf24 rfl rfl rfl (part_lt (uZ 6 _ rfl)) fun Yj H=>?_)
   have vd:=part_get (cells:=[yI ((ag[i]!).qI),yI ((ag[i]!).jG),Sv Xw (((ag[i]!).zk).length) QD,Sv QI (((ag[i]!).vk).length) QF,Sv QH (((ag[i]!).vw).length) QE,Sv (aa nm 0) aw.toNat aw.toNat,Sv Vj (((ag[i]!).jX).length) Vh,Sv Q7 (((ag[i]!).xe).length) Q5,Bv ((ag[i]!).vg)]) uZ 6 (Sv (aa tM 0) aw.toNat aw.toNat) (Nat.le_of_ble_eq_true rfl)
   replace vd:∀ (q:Nat) (v:Value),([yI ((ag[i]!).qI),yI ((ag[i]!).jG),Sv Xw (((ag[i]!).zk).length) QD,Sv QI (((ag[i]!).vk).length) QF,Sv QH (((ag[i]!).vw).length) QE,Sv (aa nm 0) aw.toNat aw.toNat,Sv (aa tM 0) aw.toNat aw.toNat,Sv Q7 (((ag[i]!).xe).length) Q5,Bv ((ag[i]!).vg)]:List Value)[q]? =some v->((zy.set (0+(i:Int).toNat * 9+5) (Sv (aa nm 0) aw.toNat aw.toNat)).set (0+(i:Int).toNat * 9+6) (Sv (aa tM 0) aw.toNat aw.toNat))[0+(i:Int).toNat * 9+q]? =some v:=vd
   dsimp only [List.set] at H
   refine zjc (sq 1 ?_)
   have H1:=H.yl 8 9 [1,0,2,3,4,5,6,7] [2,0,1,3,4,5,6,7,8] qo qo
   have N1:Fresh _ (Gk::Ns):=N
   have K1:Kept (Ns) ((xy false F91 (zy.set (0+(i:Int).toNat * 9+5) (Sv (aa nm 0) aw.toNat aw.toNat)) (ag.set i { ag[i]! with zS:=sv }))::(isF true Gk (Sv (aa nm 0) aw.toNat aw.toNat) sv)::(sF false cj Xw QD ((ag[i]!).zk))::(sF false cg QI QF ((ag[i]!).vk))::(sF false bV QH QE ((ag[i]!).vw))::(sF false de Vj Vh ((ag[i]!).jX))::(sF false bZ Q7 Q5 ((ag[i]!).xe))::(xy false x8 zy ag)::Γ):=K0.behind 8 rfl
   replace K1:=K1.cons (F:=Gk) 1 rfl rfl
   refine sw (zL #[pp bs 0,yI 2] rfl rfl call41 (Vg ak tD IF bs ac cc Fc (2:Int) H1 N1 K1 qg) ?_)
   clear H H1 N1 K1
   rintro _ Zw ⟨Pb,agG,CW,avH,rfl,N,H⟩
   refine zjn (zT _ rfl (fun MZ=>?_) (fun MZ=>?_))
   ·refine xJ (sq 1 (sw (vW H underlying68 ti128 fun l0 wV H=>sq 1 (oF rfl ?_))))
    obtain ⟨Ix,N,ant,H⟩:=H.zN 2 rfl N (fun F hF b hb=>(List.mem_append.1 (show F∈[Gk]++Ns from hF)).elim (fun h=>(H.jA (L:=[Gk]) [2]) F h b hb) fun h=>H.QG (K0.behind 9 rfl) F h b hb)
    dsimp only [List.set] at H
    obtain ⟨VS,H⟩:=H.part_6 2 rfl 0 rfl (iv:=i) i qf (by (simp only [List.length_set];omega))
    dsimp only [List.set] at H
    refine sw (XJ H 6 rfl (Sv (aa l0 0) 0 0) sizeOf68 rfl rfl rfl (part_lt (vd 7 _ rfl)) fun aiR H=>?_)
    have Lc:=part_get (cells:=[yI ((ag[i]!).qI),yI ((ag[i]!).jG),Sv Xw (((ag[i]!).zk).length) QD,Sv QI (((ag[i]!).vk).length) QF,Sv QH (((ag[i]!).vw).length) QE,Sv (aa nm 0) aw.toNat aw.toNat,Sv (aa tM 0) aw.toNat aw.toNat,Sv Q7 (((ag[i]!).xe).length) Q5,Bv ((ag[i]!).vg)]) vd 7 (Sv (aa l0 0) 0 0) (Nat.le_of_ble_eq_true rfl)
    replace Lc:∀ (q:Nat) (v:Value),([yI ((ag[i]!).qI),yI ((ag[i]!).jG),Sv Xw (((ag[i]!).zk).length) QD,Sv QI (((ag[i]!).vk).length) QF,Sv QH (((ag[i]!).vw).length) QE,Sv (aa nm 0) aw.toNat aw.toNat,Sv (aa tM 0) aw.toNat aw.toNat,Sv (aa l0 0) 0 0,Bv ((ag[i]!).vg)]:List Value)[q]? =some v->(((zy.set (0+(i:Int).toNat * 9+5) (Sv (aa nm 0) aw.toNat aw.toNat)).set (0+(i:Int).toNat * 9+6) (Sv (aa tM 0) aw.toNat aw.toNat)).set (0+(i:Int).toNat * 9+7) (Sv (aa l0 0) 0 0))[0+(i:Int).toNat * 9+q]? =some v:=Lc
    dsimp only [List.set] at H
    refine xO (b_n (t_n (xJ (sp (yI i) (sw (zn i 1 rfl rfl qf (sq 1 (xO ?_))))))))
    replace H:=H.boxRow 0 rfl 2 0 rfl qj
    dsimp only [List.set] at H
    replace H:=H.jo (α:=Xj)
    replace H:St _ _ ((rr (aa l0 0) 0 0 128 2 [])::(.box bs [Sv ac ak.length cc,yI Pb,.int .u64 agG] 115)::(rr none 0 0 0 1 [])::(rr none 0 0 0 1 [])::(.box fH [yI aw,Sv pB im.length sb,Sv (aa wH 0) fD.length oH] 27)::(rr pB im.length sb 2 1 (im.map (Value.int .i64)))::(rr (aa wH 0) fD.length oH 70 9 (((zy.set (0+(i:Int).toNat * 9+5) (Sv (aa nm 0) aw.toNat aw.toNat)).set (0+(i:Int).toNat * 9+6) (Sv (aa tM 0) aw.toNat aw.toNat)).set (0+(i:Int).toNat * 9+7) (Sv (aa l0 0) 0 0)))::(.box b3 [yN,yN,yN] 31)::(.box b1 [yI 0,yN,yN] 27)::ps) ((xy true [] [] ([]:List Xj))::(xy false VS ((zy.set (0+(i:Int).toNat * 9+5) (Sv (aa nm 0) aw.toNat aw.toNat)).set (0+(i:Int).toNat * 9+6) (Sv (aa tM 0) aw.toNat aw.toNat)) ((ag.set i { ag[i]! with zS:=sv }).set i { (ag.set i { ag[i]! with zS:=sv })[i]! with jX:=(List.replicate aw.toNat (0:Int))}))::(isF true Ix (Sv (aa tM 0) aw.toNat aw.toNat) (List.replicate aw.toNat (0:Int)))::(sF false Fc ac cc ak)::(xy false F91 (zy.set (0+(i:Int).toNat * 9+5) (Sv (aa nm 0) aw.toNat aw.toNat)) (ag.set i { ag[i]! with zS:=sv }))::(isF true Gk (Sv (aa nm 0) aw.toNat aw.toNat) sv)::(sF false cj Xw QD ((ag[i]!).zk))::(sF false cg QI QF ((ag[i]!).vk))::(sF false bV QH QE ((ag[i]!).vw))::(sF false de Vj Vh ((ag[i]!).jX))::(sF false bZ Q7 Q5 ((ag[i]!).xe))::(xy false x8 zy ag)::Γ):=H
    have H0:=H
    obtain ⟨aae,Ld,E3,H⟩:=H.Ql (α:=Xj) 0 rfl 0 rfl qj
    replace N:Fresh W0.heap.size (aae::Ix::Gk::Ns):=Fresh.ice N.emp H0 0 Ld.1 Ld.2 (fun F hF b hb=>(List.mem_append.1 (show F∈[Ix,Gk]++Ns from hF)).elim (fun h=>(H0.jA (L:=[Ix,Gk]) [2,5]) F h b hb) fun h=>H0.QG (K0.behind 12 rfl) F h b hb)
    clear H0
    dsimp only [List.set] at H
    obtain ⟨asz,H⟩:=H.part_7 2 rfl 0 rfl (iv:=i) i qf (by (simp only [List.length_set];omega))
    dsimp only [List.set] at H
    refine qX (m' :=(fD.length - ((i+1):Int)).toNat) qf ⟨_,i+1,_,_,_,_,_,uE5,?_,?_,?_,rfl,(N.zU 3 [] qo),H.zU 9 14 [4,1,5,6,7,8] [5,0] qo qo⟩
    ·omega
    ·omega
    ·exact ⟨by (simp only [List.length_set]);omega,by have q2:=j2.2;(repeat' (first | assumption | exact k2.1 | exact vT.zero qf qf | (simp only [List.length_set];omega) | omega | apply jq.here | apply jq.out | apply jq.into))⟩
   refine qV (b_n (t_n (xJ (sp (yI i) (sw (zn i 1 rfl rfl qf (sq 1 (xO ?_))))))))
   obtain ⟨auH,N,ank,H⟩:=H.zN 1 rfl N (fun F hF b hb=>(List.mem_append.1 (show F∈[Gk]++Ns from hF)).elim (fun h=>(H.jA (L:=[Gk]) [2]) F h b hb) fun h=>H.QG (K0.behind 9 rfl) F h b hb)
   dsimp only [List.set] at H
   obtain ⟨ayO,H⟩:=H.part_6 2 rfl 0 rfl (iv:=i) i qf (by (simp only [List.length_set];omega))
   dsimp only [List.set] at H
   refine qX (m' :=(fD.length - ((i+1):Int)).toNat) qf ⟨_,i+1,_,_,_,_,_,uE5,?_,?_,?_,rfl,(N.zU 2 [] qo),H.zU 8 11 [3,0,4,5,6,7] [2,0] qo qo⟩
   ·omega
   ·omega
   ·exact ⟨by (simp only [List.length_set]);omega,by have q2:=j2.2;(repeat' (first | assumption | exact k2.1 | exact vT.zero qf qf | (simp only [List.length_set];omega) | omega | apply jq.here | apply jq.out))⟩
  refine qV (t_n (zcr (sq 1 ?_)))
  have H1:=H.yl 7 7 [0,1,2,3,4,5,6] [0,1,2,3,4,5,6] qo qo
  have N1:Fresh _ (Ns):=N
  have K1:Kept (Ns) ((sF false cj Xw QD ((ag[i]!).zk))::(sF false cg QI QF ((ag[i]!).vk))::(sF false bV QH QE ((ag[i]!).vw))::(sF false de Vj Vh ((ag[i]!).jX))::(sF false bZ Q7 Q5 ((ag[i]!).xe))::(xy false x8 zy ag)::Γ):=K0.behind 6 rfl
  refine sw (zL #[pp bs 0,yI 2] rfl rfl call41 (Vg ak tD IF bs ac cc Fc (2:Int) H1 N1 K1 qg) ?_)
  clear H H1 N1 K1
  rintro _ agx ⟨U7,abV,aof,aqT,rfl,N,H⟩
  refine zjn (zT _ rfl (fun afL=>?_) (fun afL=>?_))
  ·refine xJ (sq 1 (sw (vW H underlying68 ti128 fun Cw Oa H=>sq 1 (oF rfl ?_))))
   obtain ⟨nH,N,KS,H⟩:=H.zN 2 rfl N (fun F hF b hb=>(List.mem_append.1 (show F∈[]++Ns from hF)).elim (fun h=>(H.jA (L:=[]) []) F h b hb) fun h=>H.QG (K0.behind 7 rfl) F h b hb)
   dsimp only [List.set] at H
   obtain ⟨aiC,H⟩:=H.part_5 7 rfl 0 rfl (iv:=i) i qf (by omega)
   dsimp only [List.set] at H
   refine sw (XJ H 5 rfl (Sv (aa Cw 0) 0 0) sizeOf68 rfl rfl rfl (part_lt (uZ 7 _ rfl)) fun PO H=>?_)
   have KG:=part_get (cells:=[yI ((ag[i]!).qI),yI ((ag[i]!).jG),Sv Xw (((ag[i]!).zk).length) QD,Sv QI (((ag[i]!).vk).length) QF,Sv QH (((ag[i]!).vw).length) QE,Sv (aa nm 0) aw.toNat aw.toNat,Sv Vj (((ag[i]!).jX).length) Vh,Sv Q7 (((ag[i]!).xe).length) Q5,Bv ((ag[i]!).vg)]) uZ 7 (Sv (aa Cw 0) 0 0) (Nat.le_of_ble_eq_true rfl)
   replace KG:∀ (q:Nat) (v:Value),([yI ((ag[i]!).qI),yI ((ag[i]!).jG),Sv Xw (((ag[i]!).zk).length) QD,Sv QI (((ag[i]!).vk).length) QF,Sv QH (((ag[i]!).vw).length) QE,Sv (aa nm 0) aw.toNat aw.toNat,Sv Vj (((ag[i]!).jX).length) Vh,Sv (aa Cw 0) 0 0,Bv ((ag[i]!).vg)]:List Value)[q]? =some v->((zy.set (0+(i:Int).toNat * 9+5) (Sv (aa nm 0) aw.toNat aw.toNat)).set (0+(i:Int).toNat * 9+7) (Sv (aa Cw 0) 0 0))[0+(i:Int).toNat * 9+q]? =some v:=KG
   dsimp only [List.set] at H
   refine xO (b_n (t_n (xJ (sp (yI i) (sw (zn i 1 rfl rfl qf (sq 1 (xO ?_))))))))
   replace H:=H.boxRow 0 rfl 2 0 rfl qj
   dsimp only [List.set] at H
   replace H:=H.jo (α:=Xj)
   replace H:St _ _ ((rr (aa Cw 0) 0 0 128 2 [])::(.box bs [Sv ac ak.length cc,yI U7,.int .u64 abV] 115)::(rr none 0 0 0 1 [])::(.box fH [yI aw,Sv pB im.length sb,Sv (aa wH 0) fD.length oH] 27)::(rr pB im.length sb 2 1 (im.map (Value.int .i64)))::(rr (aa wH 0) fD.length oH 70 9 ((zy.set (0+(i:Int).toNat * 9+5) (Sv (aa nm 0) aw.toNat aw.toNat)).set (0+(i:Int).toNat * 9+7) (Sv (aa Cw 0) 0 0)))::(.box b3 [yN,yN,yN] 31)::(.box b1 [yI 0,yN,yN] 27)::ps) ((xy true [] [] ([]:List Xj))::(xy false aiC (zy.set (0+(i:Int).toNat * 9+5) (Sv (aa nm 0) aw.toNat aw.toNat)) (ag.set i { ag[i]! with zS:=sv }))::(isF true nH (Sv (aa nm 0) aw.toNat aw.toNat) sv)::(sF false Fc ac cc ak)::(sF false cj Xw QD ((ag[i]!).zk))::(sF false cg QI QF ((ag[i]!).vk))::(sF false bV QH QE ((ag[i]!).vw))::(sF false de Vj Vh ((ag[i]!).jX))::(sF false bZ Q7 Q5 ((ag[i]!).xe))::(xy false x8 zy ag)::Γ):=H
   have H0:=H
   obtain ⟨NV,Lg,LN,H⟩:=H.Ql (α:=Xj) 0 rfl 0 rfl qj
   replace N:Fresh W0.heap.size (NV::nH::Ns):=Fresh.ice N.emp H0 0 Lg.1 Lg.2 (fun F hF b hb=>(List.mem_append.1 (show F∈[nH]++Ns from hF)).elim (fun h=>(H0.jA (L:=[nH]) [2]) F h b hb) fun h=>H0.QG (K0.behind 10 rfl) F h b hb)
   clear H0
   dsimp only [List.set] at H
   obtain ⟨ac5,H⟩:=H.part_7 2 rfl 0 rfl (iv:=i) i qf (by (simp only [List.length_set];omega))
   dsimp only [List.set] at H
   refine qX (m' :=(fD.length - ((i+1):Int)).toNat) qf ⟨_,i+1,_,_,_,_,_,uE5,?_,?_,?_,rfl,(N.zU 2 [] qo),H.zU 8 12 [3,1,4,5,6,7] [5,0] qo qo⟩
   ·omega
   ·omega
   ·exact ⟨by (simp only [List.length_set]);omega,by have q2:=j2.2;(repeat' (first | assumption | exact k2.1 | (simp only [List.length_set];omega) | omega | apply jq.here | apply jq.into))⟩
  refine qV (b_n (t_n (xJ (sp (yI i) (sw (zn i 1 rfl rfl qf (sq 1 (xO ?_))))))))
  obtain ⟨ath,N,aoU,H⟩:=H.zN 1 rfl N (fun F hF b hb=>(List.mem_append.1 (show F∈[]++Ns from hF)).elim (fun h=>(H.jA (L:=[]) []) F h b hb) fun h=>H.QG (K0.behind 7 rfl) F h b hb)
  dsimp only [List.set] at H
  obtain ⟨ax5,H⟩:=H.part_5 7 rfl 0 rfl (iv:=i) i qf (by omega)
  dsimp only [List.set] at H
  refine qX (m' :=(fD.length - ((i+1):Int)).toNat) qf ⟨_,i+1,_,_,_,_,_,uE5,?_,?_,?_,rfl,(N.zU 1 [] qo),H.zU 7 9 [2,0,3,4,5,6] [2,0] qo qo⟩
  ·omega
  ·omega
  ·exact ⟨by (simp only [List.length_set]);omega,by have q2:=j2.2;(repeat' (first | assumption | exact k2.1 | omega | apply jq.here))⟩
 refine zx4 (xQ (QT rfl H [0,2,3] [0,1] fun H=>?_))
 have S:=H.jm [0,2,3] [0,1]
 refine rt 0 _ (y8 (cs:=[yI aw,Sv pB im.length sb,Sv uo fD.length oH]) isAgg27 sizeOf27 rfl (fun _ h=>qF (h.cells 0 rfl) 0 3)) S ?_
 refine rtl 1 S ?_
 refine ro 2 rfl ?_
 have sd:=(‹SysDr _ _ _›).with j2.1 j2.2
 have f0:jk (⟨aw,im,ag⟩:qC):=sd.frame
 have H1:=H.yl 6 2 [1,0,2,3,4,5] [0,1] qo qo
 have N1:Fresh _ (Ns):=N
 have K1:Kept (Ns) (Γ):=K0.behind 0 rfl
 refine zL #[pp bs 0,pp fH 0,yI 4] rfl rfl call88 (dState_ok ak bw aJ bs ac cc Fc aw im ag fH pB im.length sb uo fD.length oH zy x8 false (4:Int) H1 N1 K1 qg qg qg) ?_
 clear H H1 N1 K1
 rintro _ EI ⟨Tr,abI,Gq,EX,Gp,Ku,aqg,MH,Mq,ao4,LH,UK,aas,Lx,aoT,ML,anO,aq1,rfl,N,H⟩
 obtain rfl:=H.VM 4 rfl
 obtain rfl:=H.zg (α:=yLI) 5 rfl 2 rfl qj
 obtain rfl:=H.jC 6 rfl
 refine ⟨H.pick [1,2,3] [0,1],(ro 3 rfl (xY H 8 [yI aw,Sv pB im.length sb,Sv uo fD.length oH] sizeOf27 fun FF H=>?_))⟩
 dsimp only [List.set] at H
 refine ⟨H.pick [1,2,3] [0,1],(ro 4 rfl (xY H 7 [Sv Ku Gq.length MH,Sv Mq EX.length LH,Sv Lx Gp.length ML] sizeOf31 fun WU H=>?_))⟩
 dsimp only [List.set] at H
 refine ⟨H.pick [1,2,3] [0,1],(xw qh (t_n (c_ret (retCC H 8 rfl 7 rfl rfl isAgg27 sizeOf27 isAgg31 sizeOf31 rfl rfl ⟨_,rfl,(⟨Tr,abI,aw,im,ag,Gq,EX,Gp,pB,im.length,sb,uo,fD.length,oH,zy,x8,Ku,Gq.length,MH,Mq,EX.length,LH,UK,aas,Lx,Gp.length,ML,qf,ql,ql,rfl,N,H.zU 9 3 (0::zR 2 5) [0,1,2] qo qo⟩)⟩))))⟩
end
section
theorem get_set {α:Type} [Inhabited α] (l:List α) (i j:Nat) (v:α) (hi:i < l.length):(l.set i v)[j]! =if i=j then v else l[j]! :=by
 by_cases hj:j < l.length
 ·rw [getElem!_pos _ _ (by rw [List.length_set];exact hj),List.getElem_set,getElem!_pos l j hj]
 ·rw [getElem!_neg _ _ (by rw [List.length_set];exact hj),getElem!_neg l j hj,if_neg qf]
theorem plusL_get (h:j < l.length):(jT l m 1)[j]! =l[j]! +m[j]! :=by
 rw [getElem!_pos _ _ (by rw [Qd];exact h)]
 simp [jT,plusTo]
theorem rep_get (n j:Nat):(List.replicate n (0:Int))[j]! =0:=by
 by_cases h:j < n
 ·rw [getElem!_pos _ _ (by simpa using h)];simp
 ·rw [getElem!_neg _ _ (by simpa using h)];rfl
def kidIn (s:qC) (t:qH) (k:Int) (j:Nat):Bool:=t.qK[j]! && (xF s t j == k)
def kidsTo (s:qC) (t:qH) (k:Int) (n:Nat):yLI:=((List.range n).filter (kidIn s t k)).map fun j:Nat=>(j:Int)
section
variable {s : qC} {t : qH} {c : Int}
structure Xa (s:qC) (t:qH) (c:Int):Prop where
 frame:jk s
 state:xZ s t
 cell:QU s c
 skin:c≠0
 alive:t.qK[c.toNat]! =true
theorem Xa.pos (h:Xa s t c):0 < c:=by have:=h.cell.1;have:=h.skin;omega
theorem Xa.par (h:Xa s t c):0<=xF s t c/\xF s t c < c/\t.qK[(xF s t c).toNat]! =true:=QK h.frame h.state.2.2.1 h.pos h.cell.2
theorem Xa.alive' (h:Xa s t c) (j:Nat):(melted s t c).qK[j]! =if c.toNat=j then false else t.qK[j]! :=by
 have:=h.cell;have:=h.state.1
 exact get_set _ _ _ _ qf
theorem Xa.bags' (h:Xa s t c) (j:Nat):(melted s t c).qQ[j]! =if c.toNat=j then List.replicate s.xK.toNat 0 else if (xF s t c).toNat=j then jT (t.qQ[(xF s t c).toNat]!) (t.qQ[c.toNat]!) 1 else t.qQ[j]! :=by
 have:=h.cell;have:=h.state.2.1;have hp:=h.par
 show ((t.qQ.set _ _).set _ _)[j]! =_
 rw [get_set _ _ _ _ (by rw [List.length_set];omega),get_set _ _ _ _ qf]
def Few5 (t:qH):Prop:=(∀ k,k < t.qQ.length->∀ j,j < (t.qQ[k]!).length->(t.qQ[k]!)[j]! <=5)/\∀ j,j < t.qL.length->t.qL[j]! <=5
def allTo (t:qH):Nat->yLI
 | 0=>t.qL
 | k+1=>jT (allTo t k) (t.qQ[k]!) 1
theorem allTo_len (t:qH):∀ k,(allTo t k).length=t.qL.length
 | 0=>rfl
 | k+1=>by rw [allTo,Qd,allTo_len t k]
def colTo (t:qH) (j:Nat):Nat->Int
 | 0=>0
 | k+1=>colTo t j k+(t.qQ[k]!)[j]!
theorem allTo_get (t:qH) {j:Nat} (hj:j < t.qL.length):∀ k,(allTo t k)[j]! =t.qL[j]! +colTo t j k
 | 0=>by simp [allTo,colTo]
 | k+1=>by
  rw [allTo,plusL_get (by rw [allTo_len];exact hj),allTo_get t hj k,colTo]
  omega
theorem Xa.lens (h:Xa s t c) (hk:k < s.qA.length):(t.qQ[k]!).length=s.xK.toNat:=by
 have:=(h.state.bagLen (k:=k) (by rw [h.state.2.1];exact hk)).2
 omega
theorem Xa.col (h:Xa s t c) {j:Nat} (hj:j < s.xK.toNat):∀ k,colTo (melted s t c) j k=colTo t j k+(if (xF s t c).toNat < k then (t.qQ[c.toNat]!)[j]! else 0) - (if c.toNat < k then (t.qQ[c.toNat]!)[j]! else 0)
 | 0=>by simp [colTo]
 | k+1=>by
  have hp:=h.par
  have hc:=h.cell
  rw [colTo,colTo,Xa.col h hj k,h.bags']
  by_cases e1:c.toNat=k
  ·subst e1
   rw [if_pos rfl,rep_get,if_neg (show ¬ c.toNat < c.toNat by omega),if_pos (show c.toNat < c.toNat+1 by omega),if_pos (show (xF s t c).toNat < c.toNat by omega),if_pos (show (xF s t c).toNat < c.toNat+1 by omega)]
   omega
  ·rw [if_neg e1]
   by_cases e2:(xF s t c).toNat=k
   ·subst e2
    rw [if_pos rfl,plusL_get (by rw [h.lens qf];exact hj),if_neg (show ¬ (xF s t c).toNat < (xF s t c).toNat by omega),if_pos (show (xF s t c).toNat < (xF s t c).toNat+1 by omega),
     if_neg (show ¬ c.toNat < (xF s t c).toNat by omega),if_neg (show ¬ c.toNat < (xF s t c).toNat+1 by omega)]
    omega
   ·rw [if_neg e2]
    have a1:((xF s t c).toNat < k+1)=((xF s t c).toNat < k):=by apply propext;omega
    have a2:(c.toNat < k+1)=(c.toNat < k):=by apply propext;omega
    simp only [a1,a2]
    omega
theorem Xa.total (h:Xa s t c):allTo (melted s t c) s.qA.length=allTo t s.qA.length:=by
 have hp:=h.par
 have hc:=h.cell
 have hl:(melted s t c).qL=t.qL:=rfl
 have hk:t.qL.length=s.xK.toNat:=by have:=h.state.2.2.2.1.2;omega
 apply List.ext_getElem
 ·rw [allTo_len,allTo_len,hl]
 ·intro j h1 h2
  rw [allTo_len] at h2
  rw [← getElem!_pos,← getElem!_pos,allTo_get _ (by rw [hl];exact h2),allTo_get _ h2,h.col qf,if_pos qf,if_pos qf,hl]
  omega
theorem Xa.ok (h:Xa s t c) (hf:Few5 t):xZ s (melted s t c):=by
 have hp:=h.par
 have hc:=h.cell
 have ht:=h.state
 have e1:(melted s t c).qK.length=t.qK.length:=by simp [melted]
 have e2:(melted s t c).qQ.length=t.qQ.length:=by simp [melted]
 refine ⟨by rw [e1];exact ht.1,by rw [e2];exact ht.2.1,by rw [h.alive',if_neg (by have:=h.pos;omega)];exact ht.2.2.1,ht.2.2.2.1,fun k hk=>?_⟩
 rw [e2] at hk
 rw [h.bags',h.alive']
 have hkk:=ht.2.1
 by_cases g1:c.toNat=k
 ·rw [if_pos g1,if_pos g1]
  have hK:=h.frame.1
  refine ⟨⟨⟨fun j hj=>by rw [rep_get];omega,by simp;omega,by simp;omega⟩,by simp;omega⟩,fun _=>?_⟩
  have hz:∀ n,sumTo (List.replicate s.xK.toNat 0) n=0:=by
   intro n
   induction n with
   | zero=>simp [sumTo]
   | succ n ih=>simp only [sumTo,ih,rep_get];omega
  unfold QS
  rw [hz]
  omega
 ·rw [if_neg g1,if_neg g1]
  by_cases g2:(xF s t c).toNat=k
  ·rw [if_pos g2]
   subst g2
   have bp:=ht.bagLen hk
   have bc:=ht.bagLen (k:=c.toNat) qf
   refine ⟨⟨⟨fun j hj=>?_,by rw [Qd];exact bp.1.2.1,by rw [Qd];exact bp.1.2.2⟩,by rw [Qd];exact bp.2⟩,fun hd=>?_⟩
   ·rw [Qd] at hj
    rw [plusL_get hj]
    have CF:j < (t.qQ[c.toNat]!).length:=by have:=bp.2;have:=bc.2;omega
    have a1:=bp.1.1 j hj
    have a2:=bc.1.1 j CF
    have a3:=hf.1 _ hk j hj
    have a4:=hf.1 c.toNat qf j CF
    omega
   ·rw [hp.2.2] at hd;cases hd
  ·rw [if_neg g2]
   exact ht.2.2.2.2 k hk
end
def StillTo (s:qC) (k:Nat):Prop:=∀ i,i < k->(s.qB[i]!).vg=false
theorem StillTo.succ (h:StillTo s k) (h1:(s.qB[k]!).vg=false):StillTo s (k+1):=fun j hj=>by
 by_cases e:j=k
 ·subst e;exact h1
 ·exact h j qf
def WholeTo (t:qH) (k:Nat):Prop:=∀ c,c < k->t.qK[c]! =true
theorem WholeTo.succ {t:qH} (h:WholeTo t k) (h1:t.qK[k]! =true):WholeTo t (k+1):=fun j hj=>by
 by_cases e:j=k
 ·subst e;exact h1
 ·exact h j qf
abbrev Whole (t:qH):Prop:=WholeTo t t.qK.length
def TookOk (s:qC) (l:yLI) (i:Nat):Prop:=l.length=zt s/\∀ q,q < zt s-> -(1000000 * (i:Int))<=l[q]! /\l[q]! <=1000000 * (i:Int)
theorem TookOk.zero (s:qC):TookOk s (List.replicate s.xK.toNat 0) 0:=by
 refine ⟨by simp [zt],fun k hk=>?_⟩
 rw [getElem!_pos (List.replicate s.xK.toNat (0:Int)) k (by simpa [zt] using hk)];simp
theorem TookOk.keep (h:TookOk s l i):TookOk s l (i+1):=⟨h.1,fun q hq=>by have:=h.2 q hq;omega⟩
theorem TookOk.plus {n:Int} (h:TookOk s l i) (hm:vZ s.xK m) (hn: -1000<=n/\n<=1000):TookOk s (jT l m n) (i+1):=by
 refine ⟨by rw [Qd];exact h.1,fun q hq=>?_⟩
 rw [Vz (by rw [h.1];exact hq)]
 have:=h.2 q hq
 have:=hm.mul hn q hq
 omega
theorem TookOk.mid (h:TookOk s l i) (hi:i<=16) (hk:zt s<=8):l.length=zt s/\Mid l:=by
 refine ⟨h.1,by have:=h.1;omega,fun q hq=>?_⟩
 have:=h.2 q (by have:=h.1;omega)
 omega
def AllBags (b:yLL) (k:Nat):Prop:=∀ j,j < k->XA (b[j]!)
theorem AllBags.succ {b:yLL} (h:AllBags b k) (h1:XA (b[k]!)):AllBags b (k+1):=fun j hj=>by
 by_cases e:j=k
 ·subst e;exact h1
 ·exact h j qf
end
end Go.Proofs.YtdhklgjmiamiaaaGreat
