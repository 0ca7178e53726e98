/- Walks and laws, printed by program and by hand: what each function comes to, for all arguments, part 3. -/
import Derived.Test.YtcpnclokildllaaGreatA2
namespace Go.Proofs.YtcpnclokildllaaGreat
set_option linter.unusedVariables false
set_option linter.unusedSimpArgs false
open Go.Proofs.YtcpnclokildllaaGreat.Tot (tot)
open Go.Proofs.YtcpnclokildllaaGreat.Mark (cnt mrk mkd mkd_mark cnt_mark)
section
open Go.Proofs.Tryz
open Go.RowKit
set_option linter.unusedVariables false
set_option linter.unusedSimpArgs false
set_option maxRecDepth 100000
set_option maxHeartbeats 4000000
variable {cl bs os qB qI br or ji jm jk jd yD vW bt ot qP xn qM cm : Nat}
theorem l01Bag_ok (w:World) (l:yLI) {al:yOA} {Fl:yLN} (hl:qU.rep w Fl [Sv al l.length cl] l):Calls Tryz.prog 177 #[Sv al l.length cl] w (Ret (fun v w' =>v=Bv (dec (Ql l))) w):=by
 refine en func177 ntmps177 ?_
 have H:=(St.start w).arg hl
 have nhl:=qQ hl
 clear hl
 refine zcr (sp (Bv false) (zjcc (sp (yI 0) (zjn (qZ ?_)))))
 refine zU (fun m' ρ w1=>∃ (zl:Env) (k:Nat),ρ=upd (upd zl 0 (Sv al l.length cl)) 3 (yI k)∧(k≤l.length)∧(Counts l k)∧m' =l.length - k∧St w w1 [] [sF false Fl al cl l]) (l.length - 0) ⟨_,0,uE2,qf,(by exact Counts.zero l),rfl,H⟩ ?_
 clear H
 rintro m' ρ w2 ⟨zl,k,rfl,i0,i1,rfl,H⟩
 refine zcc (sps [yI k,Sv al l.length cl] (oN rfl (sp (Bv (decide ((k:Int) < l.length))) (zjn (cD rfl (fun h3=>?_) (fun h3=>?_))))))
 ·skip
  refine xe (t_n (zg (qZ (zcr (sps [Sv al l.length cl,yI k] ?_)))))
  obtain ⟨b4,o5,rfl⟩:=H.addr 0 rfl qf
  refine oI rfl rfl (oL rfl (H.jg 0 rfl k qf qf) (sw (oq (l00In_ok w2 (l[k]!) 0 1000) H fun w6 H=>sp (Bv (!(inR (l[k]!) 0 1000))) (zjn (xI (!(inR (l[k]!) 0 1000)) rfl (fun h8=>?_) (fun h8=>?_))))))
  ·skip
   replace h8:=xC h8
   replace h8:=Xn h8
   refine zcr (sp (Bv false) (zjr (zr5 (ret1 (Bv false) rfl rfl ⟨_,rfl,?_,H.base⟩))))
   rw [xk (fun h=>‹¬ (0≤l[k]! ∧l[k]! ≤1000)› (h.1 k qf))]
  replace h8:=xw h8
  replace h8:=QL.1 h8
  refine xe (b_n (t_n (zn (sp (yI k) (sw (zN k 1 rfl rfl qf (sp (yI (k+1)) (zo (xm (m' :=l.length - (k+1)) qf ⟨_,k+1,uE2,?_,?_,rfl,H⟩)))))))))
  · omega
  · exact i1.succ ‹_›
 refine zx4 (zcr (sp (Sv al l.length cl) (oN rfl (sw (oq (l00In_ok w2 l.length 1 8) H fun w9 H=>sp (Bv (inR l.length 1 8)) (zjr (ret1 (Bv (inR l.length 1 8)) rfl rfl ⟨_,rfl,?_,H.base⟩)))))))
 obtain rfl:k=l.length:=by omega
 refine congrArg Value.bool (dec_eq ?_)
 rw [QL]
 exact ⟨fun h=>⟨i1,by omega,by omega⟩,fun h=>by have:=h.2;omega⟩

theorem QF (w:World) (s:qy) (b:yLI) {qC:yOA} {qY:yLN} {qK:yOA} {xK:yLN} {ab:yOA} {cb:Nat} {Fb:yLN} (hs:jQ w bs os (yS s qC qB qK qI)) (qW:qU.rep w qY [Sv qC s.qw.length qB] s.qw) (xF:qU.rep w xK [Sv qK s.qx.length qI] s.qx) (hb:qU.rep w Fb [Sv ab b.length cb] b):Calls Tryz.prog 119 #[pp bs os,Sv ab b.length cb] w (Ret (fun v w' =>v=Bv (dec (zZ s.xf b))) w):=by
 refine en func119 ntmps119 ?_
 have H:=((((St.start w).arg hb).arg xF).arg qW).argAt hs
 have vH:=qQ qW
 have jM:=qQ xF
 have nhb:=qQ hb
 clear hs qW xF hb
 refine zcr (sp (Bv false) (zjc (sp (Sv ab b.length cb) (sw (oq (l01Bag_ok _ b (H.get 3 rfl).1) H fun w1 H=>sp (Bv (dec (Ql b))) ?_)))))
 cases h3:(dec (Ql b))
 ·skip
  replace h3:=zO h3
  refine xU [8,9,10,11,12,13,14] (sps [Bv false,Bv false] (zjr (ret1 (Bv false) rfl rfl ⟨_,rfl,?_,H.base⟩)))
  rw [xk (fun h=>‹¬ Ql b› h.1)]
 replace h3:=yB h3
 refine qL 7 rfl rfl (sp (Sv ab b.length cb) (qL 7 rfl rfl (oN rfl (qL 7 rfl rfl (sp (pp bs os) (qL 7 rfl rfl (sp (pp bs os) (qL 7 rfl rfl (oF rfl (qL 7 rfl rfl (oL rfl (H.zu 0 rfl 0 rfl) (qL 7 rfl rfl (sps [Bv ((b.length:Int) == s.xf),Bv ((b.length:Int) == s.xf),Bv ((b.length:Int) == s.xf)] (zjr (ret1 (Bv ((b.length:Int) == s.xf)) rfl rfl ⟨_,rfl,(congrArg Value.bool (dec_eq ?_)),H.base⟩)))))))))))))))
 rw [beq_iff_eq]
 exact ⟨fun h=>⟨‹_›,h⟩,fun h=>h.2⟩

theorem l02Frame_ok (w:World) (s:qy) {qC:yOA} {qY:yLN} {qK:yOA} {xK:yLN} (hs:jQ w bs os (yS s qC qB qK qI)) (qW:qU.rep w qY [Sv qC s.qw.length qB] s.qw) (xF:qU.rep w xK [Sv qK s.qx.length qI] s.qx):Calls Tryz.prog 117 #[pp bs os] w (Ret (fun v w' =>v=Bv (dec (jO s))) w):=by
 refine en func117 ntmps117 ?_
 have H:=(((St.start w).arg xF).arg qW).argAt hs
 have vH:=qQ qW
 have jM:=qQ xF
 clear hs qW xF
 refine zcr (sp (Bv false) (zjcc (sps [pp bs os,pp bs os] (oF rfl (oL rfl (H.zu 0 rfl 0 rfl) (sw (oq (l00In_ok w s.xf 1 8) H fun w1 H=>sps [Bv (!(inR s.xf 1 8)),Bv (!(inR s.xf 1 8))] ?_)))))))
 cases h3:(!(inR s.xf 1 8))
 ·skip
  replace h3:=xw h3
  replace h3:=QL.1 h3
  refine qL 10 rfl rfl (sp (pp bs os) (qL 10 rfl rfl (sp (pp bs os) (qL 10 rfl rfl (oF rfl (qL 10 rfl rfl (oL rfl (H.zu 0 rfl 1 rfl) (qL 10 rfl rfl (oN rfl (qL 10 rfl rfl (sw (oq (l00In_ok w1 s.qw.length 1 6) H fun w4 H=>qL 10 rfl rfl (sps [Bv (!(inR s.qw.length 1 6)),Bv (!(inR s.qw.length 1 6)),Bv (!(inR s.qw.length 1 6))] ?_)))))))))))))
  cases h6:(!(inR s.qw.length 1 6))
  ·skip
   replace h6:=xw h6
   replace h6:=QL.1 h6
   refine qL 19 rfl rfl (sp (pp bs os) (qL 19 rfl rfl (sp (pp bs os) (qL 19 rfl rfl (oF rfl (qL 19 rfl rfl (oL rfl (H.zu 0 rfl 1 rfl) (qL 19 rfl rfl ?_))))))))
   obtain ⟨b7,o8,rfl⟩:=H.addr 1 rfl qf
   refine oI rfl rfl (qL 19 rfl rfl (oL rfl (H.jg 1 rfl 0 qf qf) (qL 19 rfl rfl (sps [Bv ((s.qw[0]! :Int) != (-1)),Bv ((s.qw[0]! :Int) != (-1))] (zjn (xI ((s.qw[0]! :Int) != (-1)) rfl (fun h9=>?_) (fun h9=>?_)))))))
   ·skip
    replace h9:=bne_iff_ne.1 h9
    refine zcr (sp (Bv false) (zjr (t_r (ret1 (Bv false) rfl rfl ⟨_,rfl,?_,H.base⟩))))
    rw [xk (fun h=>by obtain ⟨h1,h2,h3,h4⟩:=h;first | omega | (have:=h4 k qf qf;omega))]
   replace h9:=zh h9
   refine xe (t_n (zcc (sp (yI 1) (zjn (qZ ?_)))))
   refine zU (fun m' ρ w10=>∃ (zl:Env) (k:Nat),ρ=upd (upd zl 0 (pp bs os)) 3 (yI k)∧(k≤s.qw.length)∧(1≤k)∧(FrameTo s k)∧m' =s.qw.length - k∧St w w10 [] [atF bs os [yI s.xf,Sv (aa b7 o8) s.qw.length qB,Sv qK s.qx.length qI],sF false qY (aa b7 o8) qB s.qw,sF false xK qK qI s.qx]) (s.qw.length - 1) ⟨_,1,uE2,qf,qf,(by exact FrameTo.one s),rfl,H⟩ ?_
   clear H
   rintro m' ρ w11 ⟨zl,k,rfl,i0,i2,i1,rfl,H⟩
   refine zcc (sps [yI k,pp bs os,pp bs os] (oF rfl (oL rfl (H.zu 0 rfl 1 rfl) (oN rfl (sp (Bv (decide ((k:Int) < s.qw.length))) (zjn (cD rfl (fun h12=>?_) (fun h12=>?_))))))))
   ·skip
    refine xe (t_n (zg (qZ (zcr (sps [pp bs os,pp bs os] (oF rfl (oL rfl (H.zu 0 rfl 1 rfl) (sp (yI k) (oI rfl rfl (oL rfl (H.jg 1 rfl k qf qf) (sp (yI k) (sw (o_sub k 1 rfl rfl qf (sw (oq (l00In_ok w11 (s.qw[k]!) 0 (k - 1)) H fun w13 H=>sp (Bv (!(inR (s.qw[k]!) 0 (k - 1)))) (zjn (xI (!(inR (s.qw[k]!) 0 (k - 1))) rfl (fun h15=>?_) (fun h15=>?_))))))))))))))))))
    ·skip
     replace h15:=xC h15
     replace h15:=Xn h15
     refine zcr (sp (Bv false) (zjr (zr5 (ret1 (Bv false) rfl rfl ⟨_,rfl,?_,H.base⟩))))
     rw [xk (fun h=>by obtain ⟨h1,h2,h3,h4⟩:=h;first | omega | (have:=h4 k qf qf;omega))]
    replace h15:=xw h15
    replace h15:=QL.1 h15
    refine xe (b_n (t_n (zn (sp (yI k) (sw (zN k 1 rfl rfl qf (sp (yI (k+1)) (zo (xm (m' :=s.qw.length - (k+1)) qf ⟨_,k+1,uE2,?_,?_,?_,rfl,H⟩)))))))))
    · omega
    · omega
    · exact i1.succ ‹_›
   refine zx4 (zcr (sp (Bv true) (zjr (ret1 (Bv true) rfl rfl ⟨_,rfl,?_,H.base⟩))))
   obtain rfl:k=s.qw.length:=by omega
   rw [yl ⟨by omega,by omega,by omega,i1⟩]
  replace h6:=xC h6
  replace h6:=Xn h6
  refine xU [20,21,22,23,24,25,26] (sp (Bv true) (zjn (xI true rfl (fun _=>zcr (sp (Bv false) (zjr (t_r (ret1 (Bv false) rfl rfl ⟨_,rfl,?_,H.base⟩))))) (fun h=>absurd h qj))))
  rw [xk (fun h=>by obtain ⟨h1,h2,h3,h4⟩:=h;first | omega | (have:=h4 k qf qf;omega))]
 replace h3:=xC h3
 replace h3:=Xn h3
 refine xU [11,12,13,14,15,16,17] (sps [Bv true,Bv true] (xU [20,21,22,23,24,25,26] (sp (Bv true) (zjn (xI true rfl (fun _=>zcr (sp (Bv false) (zjr (t_r (ret1 (Bv false) rfl rfl ⟨_,rfl,?_,H.base⟩))))) (fun h=>absurd h qj))))))
 rw [xk (fun h=>by obtain ⟨h1,h2,h3,h4⟩:=h;first | omega | (have:=h4 k qf qf;omega))]

theorem l02In_ok (w:World) (s:qy) (c:Int) (other:Int) {qC:yOA} {qY:yLN} {qK:yOA} {xK:yLN} (hs:jQ w bs os (yS s qC qB qK qI)) (qW:qU.rep w qY [Sv qC s.qw.length qB] s.qw) (xF:qU.rep w xK [Sv qK s.qx.length qI] s.qx) (p0:jO s) (p1:CellIn s c):Calls Tryz.prog 176 #[pp bs os,yI c,yI other] w (Ret (fun v w' =>v=Bv (dec (Lies s.qw other c))) w):=by
 refine en func176 ntmps176 ?_
 have H:=(((St.start w).arg xF).arg qW).argAt hs
 have vH:=qQ qW
 have jM:=qQ xF
 clear hs qW xF
 refine zcr (sp (Bv false) (zjn (zg (qZ ?_))))
 refine zU (fun m' ρ w1=>∃ (zl:Env) (y:Int),ρ=upd (upd (upd zl 0 (pp bs os)) 1 (yI y)) 2 (yI other)∧(0≤y∧y≤(s.qw.length:Int) - 1)∧(Lies s.qw other c↔Lies s.qw other y)∧m' =y.toNat∧St w w1 [] [atF bs os (yS s qC qB qK qI),sF false qY qC qB s.qw,sF false xK qK qI s.qx]) (c.toNat) ⟨_,c,uE3,(by exact p1),(by exact Iff.rfl),rfl,H⟩ ?_
 clear H
 rintro m' ρ w2 ⟨zl,y,rfl,i0,i1,rfl,H⟩
 have up:=fun h=>p0.up (c:=y) h i0.2
 refine zcc (sps [yI y,Bv (decide ((y:Int) > 0))] (zjn (cD rfl (fun h3=>?_) (fun h3=>?_))))
 ·skip
  refine xe (t_n (qZ (zcr (sps [pp bs os,pp bs os] (oF rfl (oL rfl (H.zu 0 rfl 1 rfl) (sp (yI y) ?_)))))))
  obtain ⟨b4,o5,rfl⟩:=H.addr 1 rfl qf
  refine oI rfl rfl (oL rfl (H.jg 1 rfl y qf qf) (sp (yI (s.qw[y.toNat]!)) (zjc (sps [yI (s.qw[y.toNat]!),yI other,Bv ((s.qw[y.toNat]! :Int) == other)] (zjn (cE rfl (fun h6=>?_) (fun h6=>?_)))))))
  ·skip
   refine zcr (sp (Bv true) (zjr (b_r (t_r (b_r (t_r (ret1 (Bv true) rfl rfl ⟨_,rfl,?_,H.base⟩)))))))
   rw [yl (i1.2 (.here qf ‹_›))]
  refine xe (b_n ?_)
  have up1:=up qf
  refine xm (m' :=(s.qw[y.toNat]!).toNat) qf ⟨_,(s.qw[y.toNat]!),uE3,?_,?_,rfl,H⟩
  · have:=up qf;omega
  · exact i1.trans (lies_iff.trans ⟨fun h=>h.2.resolve_left ‹_›,fun h=>⟨by omega,.inr h⟩⟩)
 refine zx4 (zcr (sp (Bv false) (zjr (ret1 (Bv false) rfl rfl ⟨_,rfl,?_,H.base⟩))))
 rw [xk (fun h=>by have:=(lies_iff.1 (i1.1 h)).1;omega)]

theorem l02Rule_ok (w:World) (s:qy) (r:jy) {qC:yOA} {qY:yLN} {qK:yOA} {xK:yLN} {jo:yOA} {Q8:yLN} {jv:yOA} {Xb:yLN} {jq:yOA} {Q9:yLN} {je:yOA} {Xa:yLN} {yG:yOA} {FrOut:yLN} {vX:yOA} {XM:yLN} (hs:jQ w bs os (yS s qC qB qK qI)) (qW:qU.rep w qY [Sv qC s.qw.length qB] s.qw) (xF:qU.rep w xK [Sv qK s.qx.length qI] s.qx) (hr:jQ w br or [yI r.qE,yI r.vI,Sv jo r.xM.length ji,Sv jv r.zF.length jm,Sv jq r.zD.length jk,Sv je r.zC.length jd,Sv yG r.jI.length yD,Sv vX r.qO.length vW,Bv r.zV]) (hrNeed:qU.rep w Q8 [Sv jo r.xM.length ji] r.xM) (hrHave:qU.rep w Xb [Sv jv r.zF.length jm] r.zF) (hrLack:qU.rep w Q9 [Sv jq r.zD.length jk] r.zD) (hrHere:qU.rep w Xa [Sv je r.zC.length jd] r.zC) (hrOut:qU.rep w FrOut [Sv yG r.jI.length yD] r.jI) (hrInto:qU.rep w XM [Sv vX r.qO.length vW] r.qO) (p0:jO s):Calls Tryz.prog 118 #[pp bs os,pp br or] w (Ret (fun v w' =>v=Bv (dec (RuleOk s r))) w):=by
 refine en func118 ntmps118 ?_
 have H:=((((((((((St.start w).arg hrInto).arg hrOut).arg hrHere).arg hrLack).arg hrHave).arg hrNeed).argAt hr).arg xF).arg qW).argAt hs
 have vH:=qQ qW
 have jM:=qQ xF
 have nhrNeed:=qQ hrNeed
 have nhrHave:=qQ hrHave
 have nhrLack:=qQ hrLack
 have nhrHere:=qQ hrHere
 have nhrOut:=qQ hrOut
 have nhrInto:=qQ hrInto
 clear hs qW xF hr hrNeed hrHave hrLack hrHere hrOut hrInto
 refine zcr (sp (Bv false) (zjn (zg (zg ?_))))
 refine yj rfl H fun H=>rtp 0 (pp br or) H ?_
 refine rtp 1 (pp br or) H ?_
 refine tF 2 rfl rfl H ?_
 refine tL 3 rfl rfl (fun _ h=>h.zu 3 rfl 0 rfl) H ?_
 refine rtp 4 (pp bs os) H ?_
 refine rtp 5 (pp bs os) H ?_
 refine tF 6 rfl rfl H ?_
 refine tL 7 rfl rfl (fun _ h=>h.zu 0 rfl 1 rfl) H ?_
 refine tN 8 rfl rfl H ?_
 refine rt 9 (yI (s.qw.length - 1)) (y_sub s.qw.length 1 rfl rfl qf) H ?_
 refine ro 10 rfl (oq (l00In_ok w.drew r.qE 0 (s.qw.length - 1)) H fun w2 H=>⟨H,(rtp 11 (Bv (!(inR r.qE 0 (s.qw.length - 1)))) H ?_)⟩)
 refine rtp 12 (Bv (!(inR r.qE 0 (s.qw.length - 1)))) H ?_
 cases h4:(!(inR r.qE 0 (s.qw.length - 1)))
 ·skip
  replace h4:=xw h4
  replace h4:=QL.1 h4
  refine rgp 13 (pp br or) 19 H ?_
  refine rgp 14 (pp br or) 19 H ?_
  refine gF 15 rfl rfl H ?_
  refine gL 16 rfl rfl (fun _ h=>h.zu 3 rfl 1 rfl) H ?_
  refine zH [17] qh qm (Xg rfl (e:=19) rfl rfl (oq (l00In_ok w2 r.vI 0 9) H fun w5 H=>⟨H,(rgp 18 (Bv (!(inR r.vI 0 9))) 19 H ?_)⟩) zI)
  refine rtp 19 (Bv (!(inR r.vI 0 9))) H ?_
  refine rtp 20 (Bv (!(inR r.vI 0 9))) H ?_
  cases h7:(!(inR r.vI 0 9))
  ·skip
   replace h7:=xw h7
   replace h7:=QL.1 h7
   refine rgp 21 (pp br or) 27 H ?_
   refine rgp 22 (pp br or) 27 H ?_
   refine gF 23 rfl rfl H ?_
   refine gL 24 rfl rfl (fun _ h=>h.zu 3 rfl 8 rfl) H ?_
   refine rgp 25 (Bv r.zV) 27 H ?_
   cases h8:(r.zV)
   ·skip
    rw [h8] at H
    refine zL [26,27,28,29,30] 5 (H) (rgp 31 (Bv false) 27 H ?_)
    refine rtp 32 (Bv false) H ?_
    refine rtp 33 (Bv false) H ?_
    refine rgp 34 (pp br or) 40 H ?_
    refine rgp 35 (pp br or) 40 H ?_
    refine gF 36 rfl rfl H ?_
    refine gL 37 rfl rfl (fun _ h=>h.zu 3 rfl 7 rfl) H ?_
    refine gN 38 rfl rfl H ?_
    refine rgp 39 (Bv (decide ((r.qO.length:Int) > 3))) 40 H ?_
    refine rtp 40 (Bv (decide ((r.qO.length:Int) > 3))) H ?_
    refine xg qh (t_n (cD rfl (fun h9=>?_) (fun h9=>?_)))
    ·skip
     refine zcr (sp (Bv false) (zjr (t_r (ret1 (Bv false) rfl rfl ⟨_,rfl,?_,H.base⟩))))
     rw [xk (fun h=>by obtain ⟨h1,h2,h3,h4,h5,h6,h7,h8,h9,h10,h11⟩:=h;first | contradiction | omega | exact h3 ⟨‹_›,‹_›⟩ | (obtain ⟨q1,q2,q3,q4,q5⟩:=h11 k qf;first | contradiction | omega | (have:=q5 qf;omega)))]
    refine xe (t_n (zcc (sps [pp bs os,pp br or,pp br or] (oF rfl (oL rfl (H.zu 3 rfl 2 rfl) (sw (oq (QF _ s r.xM (qJ (H.get 0 rfl) 0 3) (H.get 1 rfl).1 (H.get 2 rfl).1 (H.get 4 rfl).1) H fun w10 H=>sps [Bv (!(dec (zZ s.xf r.xM))),Bv (!(dec (zZ s.xf r.xM)))] ?_)))))))
    cases h12:(!(dec (zZ s.xf r.xM)))
    ·skip
     replace h12:=xw h12
     replace h12:=yB h12
     refine qL 55 rfl rfl (sp (pp bs os) (qL 55 rfl rfl (sp (pp br or) (qL 55 rfl rfl (sp (pp br or) (qL 55 rfl rfl (oF rfl (qL 55 rfl rfl (oL rfl (H.zu 3 rfl 3 rfl) (qL 55 rfl rfl (sw (oq (QF _ s r.zF (qJ (H.get 0 rfl) 0 3) (H.get 1 rfl).1 (H.get 2 rfl).1 (H.get 5 rfl).1) H fun w13 H=>qL 55 rfl rfl (sps [Bv (!(dec (zZ s.xf r.zF))),Bv (!(dec (zZ s.xf r.zF))),Bv (!(dec (zZ s.xf r.zF)))] ?_)))))))))))))
     cases h15:(!(dec (zZ s.xf r.zF)))
     ·skip
      replace h15:=xw h15
      replace h15:=yB h15
      refine qL 64 rfl rfl (sp (pp bs os) (qL 64 rfl rfl (sp (pp br or) (qL 64 rfl rfl (sp (pp br or) (qL 64 rfl rfl (oF rfl (qL 64 rfl rfl (oL rfl (H.zu 3 rfl 4 rfl) (qL 64 rfl rfl (sw (oq (QF _ s r.zD (qJ (H.get 0 rfl) 0 3) (H.get 1 rfl).1 (H.get 2 rfl).1 (H.get 6 rfl).1) H fun w16 H=>qL 64 rfl rfl (sps [Bv (!(dec (zZ s.xf r.zD))),Bv (!(dec (zZ s.xf r.zD))),Bv (!(dec (zZ s.xf r.zD)))] ?_)))))))))))))
      cases h18:(!(dec (zZ s.xf r.zD)))
      ·skip
       replace h18:=xw h18
       replace h18:=yB h18
       refine qL 73 rfl rfl (sp (pp bs os) (qL 73 rfl rfl (sp (pp br or) (qL 73 rfl rfl (sp (pp br or) (qL 73 rfl rfl (oF rfl (qL 73 rfl rfl (oL rfl (H.zu 3 rfl 5 rfl) (qL 73 rfl rfl (sw (oq (QF _ s r.zC (qJ (H.get 0 rfl) 0 3) (H.get 1 rfl).1 (H.get 2 rfl).1 (H.get 7 rfl).1) H fun w19 H=>qL 73 rfl rfl (sps [Bv (!(dec (zZ s.xf r.zC))),Bv (!(dec (zZ s.xf r.zC))),Bv (!(dec (zZ s.xf r.zC)))] ?_)))))))))))))
       cases h21:(!(dec (zZ s.xf r.zC)))
       ·skip
        replace h21:=xw h21
        replace h21:=yB h21
        refine qL 82 rfl rfl (sp (pp bs os) (qL 82 rfl rfl (sp (pp br or) (qL 82 rfl rfl (sp (pp br or) (qL 82 rfl rfl (oF rfl (qL 82 rfl rfl (oL rfl (H.zu 3 rfl 6 rfl) (qL 82 rfl rfl (sw (oq (QF _ s r.jI (qJ (H.get 0 rfl) 0 3) (H.get 1 rfl).1 (H.get 2 rfl).1 (H.get 8 rfl).1) H fun w22 H=>qL 82 rfl rfl (sps [Bv (!(dec (zZ s.xf r.jI))),Bv (!(dec (zZ s.xf r.jI))),Bv (!(dec (zZ s.xf r.jI)))] ?_)))))))))))))
        cases h24:(!(dec (zZ s.xf r.jI)))
        ·skip
         replace h24:=xw h24
         replace h24:=yB h24
         refine qL 91 rfl rfl (sp (pp br or) (qL 91 rfl rfl (sp (pp br or) (qL 91 rfl rfl (oF rfl (qL 91 rfl rfl (oL rfl (H.zu 3 rfl 2 rfl) (qL 91 rfl rfl (sw (oq (XC _ r.xM (H.get 4 rfl).1 (by first | assumption | exact vG ql | exact yF ql)) H fun w25 H=>qL 91 rfl rfl (sps [Bv ((QJ r.xM:Int) == 0),Bv ((QJ r.xM:Int) == 0)] (zjn (cE rfl (fun h27=>?_) (fun h27=>?_))))))))))))))
         ·skip
          refine zcr (sp (Bv false) (zjr (t_r (ret1 (Bv false) rfl rfl ⟨_,rfl,?_,H.base⟩))))
          rw [xk (fun h=>by obtain ⟨h1,h2,h3,h4,h5,h6,h7,h8,h9,h10,h11⟩:=h;first | contradiction | omega | exact h3 ⟨‹_›,‹_›⟩ | (obtain ⟨q1,q2,q3,q4,q5⟩:=h11 k qf;first | contradiction | omega | (have:=q5 qf;omega)))]
         refine xe (t_n (zcc (sp (yI 0) (zjn (qZ ?_)))))
         refine zU (fun m' ρ w28=>∃ (zl:Env) (k:Nat),ρ=upd (upd (upd zl 0 (pp bs os)) 1 (pp br or)) 5 (yI k)∧(k≤r.qO.length)∧(IntosTo s r k)∧m' =r.qO.length - k∧St w w28 [] [atF bs os (yS s qC qB qK qI),sF false qY qC qB s.qw,sF false xK qK qI s.qx,atF br or [yI r.qE,yI r.vI,Sv jo r.xM.length ji,Sv jv r.zF.length jm,Sv jq r.zD.length jk,Sv je r.zC.length jd,Sv yG r.jI.length yD,Sv vX r.qO.length vW,Bv false],sF false Q8 jo ji r.xM,sF false Xb jv jm r.zF,sF false Q9 jq jk r.zD,sF false Xa je jd r.zC,sF false FrOut yG yD r.jI,sF false XM vX vW r.qO]) (r.qO.length - 0) ⟨_,0,uE3,qf,(by exact fun j hj=>by omega),rfl,H⟩ ?_
         clear H
         rintro m' ρ w29 ⟨zl,k,rfl,i0,i1,rfl,H⟩
         refine zcc (sps [yI k,pp br or,pp br or] (oF rfl (oL rfl (H.zu 3 rfl 7 rfl) (oN rfl (sp (Bv (decide ((k:Int) < r.qO.length))) (zjn (cD rfl (fun h30=>?_) (fun h30=>?_))))))))
         ·skip
          refine xe (t_n (zg (qZ (zcr (sps [pp br or,pp br or] (oF rfl (oL rfl (H.zu 3 rfl 7 rfl) (sp (yI k) ?_))))))))
          obtain ⟨b31,o32,rfl⟩:=H.addr 9 rfl qf
          obtain ⟨ae33Bag,ce33Bag,Fe33Bag,H⟩:=H.yZ 9 rfl k k qf qf qf
          refine oI rfl rfl (sp (pp b31 (o32+(k:Int).toNat * 2)) (zjn (zg (zg ?_))))
          refine yj rfl H fun H=>rtp 0 (pp b31 (o32+(k:Int).toNat * 2)) H ?_
          refine rtp 1 (pp b31 (o32+(k:Int).toNat * 2)) H ?_
          refine tF 2 rfl rfl H ?_
          refine tL 3 rfl rfl (fun _ h=>h.zu 1 rfl 0 rfl) H ?_
          refine rtp 4 (pp bs os) H ?_
          refine rtp 5 (pp bs os) H ?_
          refine tF 6 rfl rfl H ?_
          refine tL 7 rfl rfl (fun _ h=>h.zu 2 rfl 1 rfl) H ?_
          refine tN 8 rfl rfl H ?_
          refine rt 9 (yI (s.qw.length - 1)) (y_sub s.qw.length 1 rfl rfl qf) H ?_
          refine ro 10 rfl (oq (l00In_ok w29.drew ((r.qO[k]!).qE) 0 (s.qw.length - 1)) H fun w35 H=>⟨H,(rtp 11 (Bv (!(inR ((r.qO[k]!).qE) 0 (s.qw.length - 1)))) H ?_)⟩)
          refine rtp 12 (Bv (!(inR ((r.qO[k]!).qE) 0 (s.qw.length - 1)))) H ?_
          cases h37:(!(inR ((r.qO[k]!).qE) 0 (s.qw.length - 1)))
          ·skip
           replace h37:=xw h37
           replace h37:=QL.1 h37
           refine rgp 13 (pp bs os) 126 H ?_
           refine rgp 14 (pp b31 (o32+(k:Int).toNat * 2)) 126 H ?_
           refine rgp 15 (pp b31 (o32+(k:Int).toNat * 2)) 126 H ?_
           refine gF 16 rfl rfl H ?_
           refine gL 17 rfl rfl (fun _ h=>h.zu 1 rfl 0 rfl) H ?_
           refine rgp 18 (pp br or) 126 H ?_
           refine rgp 19 (pp br or) 126 H ?_
           refine gF 20 rfl rfl H ?_
           refine gL 21 rfl rfl (fun _ h=>h.zu 5 rfl 0 rfl) H ?_
           refine zH [22] qh qm (Xg rfl (e:=126) rfl rfl (oq (l02In_ok _ s ((r.qO[k]!).qE) r.qE (qJ (H.get 2 rfl) 0 3) (H.get 3 rfl).1 (H.get 4 rfl).1 ql ql) H fun w38 H=>⟨H,(rgp 23 (Bv (!(dec (Lies s.qw r.qE ((r.qO[k]!).qE))))) 126 H ?_)⟩) zI)
           refine rtp 24 (Bv (!(dec (Lies s.qw r.qE ((r.qO[k]!).qE))))) H ?_
           refine rtp 25 (Bv (!(dec (Lies s.qw r.qE ((r.qO[k]!).qE))))) H ?_
           cases h40:(!(dec (Lies s.qw r.qE ((r.qO[k]!).qE))))
           ·skip
            replace h40:=xw h40
            replace h40:=yB h40
            refine rgp 26 (pp bs os) 139 H ?_
            refine rgp 27 (pp b31 (o32+(k:Int).toNat * 2)) 139 H ?_
            refine rgp 28 (pp b31 (o32+(k:Int).toNat * 2)) 139 H ?_
            refine gF 29 rfl rfl H ?_
            refine gL 30 rfl rfl (fun _ h=>h.zu 1 rfl 1 rfl) H ?_
            refine zH [31] qh qm (Xg rfl (e:=139) rfl rfl (oq (QF _ s ((r.qO[k]!).Qm) (qJ (H.get 2 rfl) 0 3) (H.get 3 rfl).1 (H.get 4 rfl).1 (H.get 0 rfl).1) H fun w41 H=>⟨H,(rgp 32 (Bv (!(dec (zZ s.xf ((r.qO[k]!).Qm))))) 139 H ?_)⟩) zI)
            refine rtp 33 (Bv (!(dec (zZ s.xf ((r.qO[k]!).Qm))))) H ?_
            refine rtp 34 (Bv (!(dec (zZ s.xf ((r.qO[k]!).Qm))))) H ?_
            cases h43:(!(dec (zZ s.xf ((r.qO[k]!).Qm))))
            ·skip
             replace h43:=xw h43
             replace h43:=yB h43
             refine rgp 35 (pp b31 (o32+(k:Int).toNat * 2)) 148 H ?_
             refine rgp 36 (pp b31 (o32+(k:Int).toNat * 2)) 148 H ?_
             refine gF 37 rfl rfl H ?_
             refine gL 38 rfl rfl (fun _ h=>h.zu 1 rfl 1 rfl) H ?_
             refine zH [39] qh qm (Xg rfl (e:=148) rfl rfl (oq (XC _ ((r.qO[k]!).Qm) (H.get 0 rfl).1 (by first | assumption | exact vG ql | exact yF ql)) H fun w44 H=>⟨H,(rgp 40 (Bv ((QJ ((r.qO[k]!).Qm):Int) == 0)) 148 H ?_)⟩) zI)
             refine rtp 41 (Bv ((QJ ((r.qO[k]!).Qm):Int) == 0)) H ?_
             refine xg qh (t_n (cE rfl (fun h46=>?_) (fun h46=>?_)))
             ·skip
              refine zcr (sp (Bv false) (zjr (t_r (zr5 (ret1 (Bv false) rfl rfl ⟨_,rfl,?_,H.base⟩)))))
              rw [xk (fun h=>by obtain ⟨h1,h2,h3,h4,h5,h6,h7,h8,h9,h10,h11⟩:=h;first | contradiction | omega | exact h3 ⟨‹_›,‹_›⟩ | (obtain ⟨q1,q2,q3,q4,q5⟩:=h11 k qf;first | contradiction | omega | (have:=q5 qf;omega)))]
             refine xe (t_n (zg ?_))
             refine yj rfl H fun H=>rtp 0 (yI k) H ?_
             refine rtp 1 (Bv (decide ((k:Int) > 0))) H ?_
             refine rtp 2 (Bv (decide ((k:Int) > 0))) H ?_
             cases h48:(decide ((k:Int) > 0))
             ·skip
              replace h48:=of_decide_eq_false h48
              refine zL [3,4,5,6,7,8,9,10,11,12,13,14,15,16] 14 (H) (rtp 17 (Bv false) H ?_)
              refine xg qh (t_n (xI false rfl (fun h=>absurd h qj) (fun _=>xe (b_n (t_n (zn (sp (yI k) (sw (zN k 1 rfl rfl qf (sp (yI (k+1)) (zo (xm (m' :=r.qO.length - (k+1)) qf ⟨_,k+1,uE3,?_,?_,rfl,H.sel _ (.refl _) _ qm⟩))))))))))))
              · omega
              · exact i1.succ ⟨‹_›,‹_›,‹_›,‹_›,fun hk=>by omega⟩
             replace h48:=of_decide_eq_true h48
             refine rgp 3 (pp br or) 158 H ?_
             refine rgp 4 (pp br or) 158 H ?_
             refine gF 5 rfl rfl H ?_
             refine gL 6 rfl rfl (fun _ h=>h.zu 5 rfl 7 rfl) H ?_
             refine rgp 7 (yI k) 158 H ?_
             refine rg 8 (yI (k - 1)) 158 (y_sub k 1 rfl rfl qf) H ?_
             obtain ⟨ae49Bag,ce49Bag,Fe49Bag,H⟩:=H.yZ 11 rfl (k - 1) (k - 1) qf qf qf
             refine gI 9 rfl rfl rfl (H.sel _ (.refl _) _ (fun _ h=>List.mem_cons_of_mem _ (List.mem_cons_of_mem _ (h)))) ?_
             refine gF 10 rfl rfl (H.sel _ (.refl _) _ (fun _ h=>List.mem_cons_of_mem _ (List.mem_cons_of_mem _ (h)))) ?_
             refine rgp 12 (pp b31 (o32+(k:Int).toNat * 2)) 158 (H.sel _ (.refl _) _ (fun _ h=>List.mem_cons_of_mem _ (List.mem_cons_of_mem _ (h)))) ?_
             refine rgp 13 (pp b31 (o32+(k:Int).toNat * 2)) 158 (H.sel _ (.refl _) _ (fun _ h=>List.mem_cons_of_mem _ (List.mem_cons_of_mem _ (h)))) ?_
             refine gF 14 rfl rfl (H.sel _ (.refl _) _ (fun _ h=>List.mem_cons_of_mem _ (List.mem_cons_of_mem _ (h)))) ?_
             refine gL 15 rfl rfl (fun _ h=>h.zu 1 rfl 0 rfl) (H.sel _ (.refl _) _ (fun _ h=>List.mem_cons_of_mem _ (List.mem_cons_of_mem _ (h)))) ?_
             refine zH [11] qh qm (Xg rfl (e:=158) rfl rfl (zt (yI ((r.qO[k - 1]!).qE)) isAgg2 rfl (H.zu 1 rfl 0 rfl) (⟨H.dF 2,(rgp 16 (Bv (decide (((r.qO[k - 1]!).qE:Int)≥((r.qO[k]!).qE)))) 158 (H.sel _ (.refl _) _ (fun _ h=>List.mem_cons_of_mem _ (List.mem_cons_of_mem _ (h)))) ?_)⟩)) zI)
             refine rtp 17 (Bv (decide (((r.qO[k - 1]!).qE:Int)≥((r.qO[k]!).qE)))) (H.sel _ (.refl _) _ (fun _ h=>List.mem_cons_of_mem _ (List.mem_cons_of_mem _ (h)))) ?_
             refine xg qh (t_n (cD rfl (fun h50=>?_) (fun h50=>?_)))
             ·skip
              refine zcr (sp (Bv false) (zjr (zr5 (ret1 (Bv false) rfl rfl ⟨_,rfl,?_,H.base⟩))))
              rw [xk (fun h=>by obtain ⟨h1,h2,h3,h4,h5,h6,h7,h8,h9,h10,h11⟩:=h;first | contradiction | omega | exact h3 ⟨‹_›,‹_›⟩ | (obtain ⟨q1,q2,q3,q4,q5⟩:=h11 k qf;first | contradiction | omega | (have:=q5 qf;omega)))]
             refine xe (b_n (t_n (zn (sp (yI k) (sw (zN k 1 rfl rfl qf (sp (yI (k+1)) (zo (xm (m' :=r.qO.length - (k+1)) qf ⟨_,k+1,uE3,?_,?_,rfl,H.sel _ (.refl _) _ qm⟩)))))))))
             · omega
             · exact i1.succ ⟨‹_›,‹_›,‹_›,‹_›,fun hk=>by omega⟩
            replace h43:=xC h43
            replace h43:=zO h43
            refine zL [35,36,37,38,39,40] 6 (H) (rtp 41 (Bv true) H ?_)
            refine xg qh (t_n (xI true rfl (fun _=>zcr (sp (Bv false) (zjr (t_r (zr5 (ret1 (Bv false) rfl rfl ⟨_,rfl,?_,H.base⟩)))))) (fun h=>absurd h qj)))
            rw [xk (fun h=>by obtain ⟨h1,h2,h3,h4,h5,h6,h7,h8,h9,h10,h11⟩:=h;first | contradiction | omega | exact h3 ⟨‹_›,‹_›⟩ | (obtain ⟨q1,q2,q3,q4,q5⟩:=h11 k qf;first | contradiction | omega | (have:=q5 qf;omega)))]
           replace h40:=xC h40
           replace h40:=zO h40
           refine zL [26,27,28,29,30,31,32] 7 (H) (rtp 33 (Bv true) H ?_)
           refine rtp 34 (Bv true) H ?_
           refine zL [35,36,37,38,39,40] 6 (H) (rtp 41 (Bv true) H ?_)
           refine xg qh (t_n (xI true rfl (fun _=>zcr (sp (Bv false) (zjr (t_r (zr5 (ret1 (Bv false) rfl rfl ⟨_,rfl,?_,H.base⟩)))))) (fun h=>absurd h qj)))
           rw [xk (fun h=>by obtain ⟨h1,h2,h3,h4,h5,h6,h7,h8,h9,h10,h11⟩:=h;first | contradiction | omega | exact h3 ⟨‹_›,‹_›⟩ | (obtain ⟨q1,q2,q3,q4,q5⟩:=h11 k qf;first | contradiction | omega | (have:=q5 qf;omega)))]
          replace h37:=xC h37
          replace h37:=Xn h37
          refine zL [13,14,15,16,17,18,19,20,21,22,23] 11 (H) (rtp 24 (Bv true) H ?_)
          refine rtp 25 (Bv true) H ?_
          refine zL [26,27,28,29,30,31,32] 7 (H) (rtp 33 (Bv true) H ?_)
          refine rtp 34 (Bv true) H ?_
          refine zL [35,36,37,38,39,40] 6 (H) (rtp 41 (Bv true) H ?_)
          refine xg qh (t_n (xI true rfl (fun _=>zcr (sp (Bv false) (zjr (t_r (zr5 (ret1 (Bv false) rfl rfl ⟨_,rfl,?_,H.base⟩)))))) (fun h=>absurd h qj)))
          rw [xk (fun h=>by obtain ⟨h1,h2,h3,h4,h5,h6,h7,h8,h9,h10,h11⟩:=h;first | contradiction | omega | exact h3 ⟨‹_›,‹_›⟩ | (obtain ⟨q1,q2,q3,q4,q5⟩:=h11 k qf;first | contradiction | omega | (have:=q5 qf;omega)))]
         refine zx4 (zcr (sp (Bv true) (zjr (ret1 (Bv true) rfl rfl ⟨_,rfl,?_,H.base⟩))))
         obtain rfl:k=r.qO.length:=by omega
         rw [yl ⟨by assumption,by omega,by simp_all,by omega,by assumption,by assumption,by assumption,by assumption,by assumption,by assumption,i1⟩]
        replace h24:=xC h24
        replace h24:=zO h24
        refine xU [92,93,94,95,96,97] (sp (Bv true) (zjn (xI true rfl (fun _=>zcr (sp (Bv false) (zjr (t_r (ret1 (Bv false) rfl rfl ⟨_,rfl,?_,H.base⟩))))) (fun h=>absurd h qj))))
        rw [xk (fun h=>by obtain ⟨h1,h2,h3,h4,h5,h6,h7,h8,h9,h10,h11⟩:=h;first | contradiction | omega | exact h3 ⟨‹_›,‹_›⟩ | (obtain ⟨q1,q2,q3,q4,q5⟩:=h11 k qf;first | contradiction | omega | (have:=q5 qf;omega)))]
       replace h21:=xC h21
       replace h21:=zO h21
       refine xU [83,84,85,86,87,88,89] (sps [Bv true,Bv true] (xU [92,93,94,95,96,97] (sp (Bv true) (zjn (xI true rfl (fun _=>zcr (sp (Bv false) (zjr (t_r (ret1 (Bv false) rfl rfl ⟨_,rfl,?_,H.base⟩))))) (fun h=>absurd h qj))))))
       rw [xk (fun h=>by obtain ⟨h1,h2,h3,h4,h5,h6,h7,h8,h9,h10,h11⟩:=h;first | contradiction | omega | exact h3 ⟨‹_›,‹_›⟩ | (obtain ⟨q1,q2,q3,q4,q5⟩:=h11 k qf;first | contradiction | omega | (have:=q5 qf;omega)))]
      replace h18:=xC h18
      replace h18:=zO h18
      refine xU [74,75,76,77,78,79,80] (sps [Bv true,Bv true] (xU [83,84,85,86,87,88,89] (sps [Bv true,Bv true] (xU [92,93,94,95,96,97] (sp (Bv true) (zjn (xI true rfl (fun _=>zcr (sp (Bv false) (zjr (t_r (ret1 (Bv false) rfl rfl ⟨_,rfl,?_,H.base⟩))))) (fun h=>absurd h qj))))))))
      rw [xk (fun h=>by obtain ⟨h1,h2,h3,h4,h5,h6,h7,h8,h9,h10,h11⟩:=h;first | contradiction | omega | exact h3 ⟨‹_›,‹_›⟩ | (obtain ⟨q1,q2,q3,q4,q5⟩:=h11 k qf;first | contradiction | omega | (have:=q5 qf;omega)))]
     replace h15:=xC h15
     replace h15:=zO h15
     refine xU [65,66,67,68,69,70,71] (sps [Bv true,Bv true] (xU [74,75,76,77,78,79,80] (sps [Bv true,Bv true] (xU [83,84,85,86,87,88,89] (sps [Bv true,Bv true] (xU [92,93,94,95,96,97] (sp (Bv true) (zjn (xI true rfl (fun _=>zcr (sp (Bv false) (zjr (t_r (ret1 (Bv false) rfl rfl ⟨_,rfl,?_,H.base⟩))))) (fun h=>absurd h qj))))))))))
     rw [xk (fun h=>by obtain ⟨h1,h2,h3,h4,h5,h6,h7,h8,h9,h10,h11⟩:=h;first | contradiction | omega | exact h3 ⟨‹_›,‹_›⟩ | (obtain ⟨q1,q2,q3,q4,q5⟩:=h11 k qf;first | contradiction | omega | (have:=q5 qf;omega)))]
    replace h12:=xC h12
    replace h12:=zO h12
    refine xU [56,57,58,59,60,61,62] (sps [Bv true,Bv true] (xU [65,66,67,68,69,70,71] (sps [Bv true,Bv true] (xU [74,75,76,77,78,79,80] (sps [Bv true,Bv true] (xU [83,84,85,86,87,88,89] (sps [Bv true,Bv true] (xU [92,93,94,95,96,97] (sp (Bv true) (zjn (xI true rfl (fun _=>zcr (sp (Bv false) (zjr (t_r (ret1 (Bv false) rfl rfl ⟨_,rfl,?_,H.base⟩))))) (fun h=>absurd h qj))))))))))))
    rw [xk (fun h=>by obtain ⟨h1,h2,h3,h4,h5,h6,h7,h8,h9,h10,h11⟩:=h;first | contradiction | omega | exact h3 ⟨‹_›,‹_›⟩ | (obtain ⟨q1,q2,q3,q4,q5⟩:=h11 k qf;first | contradiction | omega | (have:=q5 qf;omega)))]
   rw [h8] at H
   refine rgp 26 (pp br or) 32 H ?_
   refine rgp 27 (pp br or) 32 H ?_
   refine gF 28 rfl rfl H ?_
   refine gL 29 rfl rfl (fun _ h=>h.zu 3 rfl 0 rfl) H ?_
   refine rgp 30 (Bv ((r.qE:Int) == 0)) 32 H ?_
   refine rgp 31 (Bv ((r.qE:Int) == 0)) 27 H ?_
   refine rtp 32 (Bv ((r.qE:Int) == 0)) H ?_
   refine rtp 33 (Bv ((r.qE:Int) == 0)) H ?_
   cases h51:((r.qE:Int) == 0)
   ·skip
    replace h51:=ne_of_beq_false h51
    refine rgp 34 (pp br or) 40 H ?_
    refine rgp 35 (pp br or) 40 H ?_
    refine gF 36 rfl rfl H ?_
    refine gL 37 rfl rfl (fun _ h=>h.zu 3 rfl 7 rfl) H ?_
    refine gN 38 rfl rfl H ?_
    refine rgp 39 (Bv (decide ((r.qO.length:Int) > 3))) 40 H ?_
    refine rtp 40 (Bv (decide ((r.qO.length:Int) > 3))) H ?_
    refine xg qh (t_n (cD rfl (fun h52=>?_) (fun h52=>?_)))
    ·skip
     refine zcr (sp (Bv false) (zjr (t_r (ret1 (Bv false) rfl rfl ⟨_,rfl,?_,H.base⟩))))
     rw [xk (fun h=>by obtain ⟨h1,h2,h3,h4,h5,h6,h7,h8,h9,h10,h11⟩:=h;first | contradiction | omega | exact h3 ⟨‹_›,‹_›⟩ | (obtain ⟨q1,q2,q3,q4,q5⟩:=h11 k qf;first | contradiction | omega | (have:=q5 qf;omega)))]
    refine xe (t_n (zcc (sps [pp bs os,pp br or,pp br or] (oF rfl (oL rfl (H.zu 3 rfl 2 rfl) (sw (oq (QF _ s r.xM (qJ (H.get 0 rfl) 0 3) (H.get 1 rfl).1 (H.get 2 rfl).1 (H.get 4 rfl).1) H fun w53 H=>sps [Bv (!(dec (zZ s.xf r.xM))),Bv (!(dec (zZ s.xf r.xM)))] ?_)))))))
    cases h55:(!(dec (zZ s.xf r.xM)))
    ·skip
     replace h55:=xw h55
     replace h55:=yB h55
     refine qL 55 rfl rfl (sp (pp bs os) (qL 55 rfl rfl (sp (pp br or) (qL 55 rfl rfl (sp (pp br or) (qL 55 rfl rfl (oF rfl (qL 55 rfl rfl (oL rfl (H.zu 3 rfl 3 rfl) (qL 55 rfl rfl (sw (oq (QF _ s r.zF (qJ (H.get 0 rfl) 0 3) (H.get 1 rfl).1 (H.get 2 rfl).1 (H.get 5 rfl).1) H fun w56 H=>qL 55 rfl rfl (sps [Bv (!(dec (zZ s.xf r.zF))),Bv (!(dec (zZ s.xf r.zF))),Bv (!(dec (zZ s.xf r.zF)))] ?_)))))))))))))
     cases h58:(!(dec (zZ s.xf r.zF)))
     ·skip
      replace h58:=xw h58
      replace h58:=yB h58
      refine qL 64 rfl rfl (sp (pp bs os) (qL 64 rfl rfl (sp (pp br or) (qL 64 rfl rfl (sp (pp br or) (qL 64 rfl rfl (oF rfl (qL 64 rfl rfl (oL rfl (H.zu 3 rfl 4 rfl) (qL 64 rfl rfl (sw (oq (QF _ s r.zD (qJ (H.get 0 rfl) 0 3) (H.get 1 rfl).1 (H.get 2 rfl).1 (H.get 6 rfl).1) H fun w59 H=>qL 64 rfl rfl (sps [Bv (!(dec (zZ s.xf r.zD))),Bv (!(dec (zZ s.xf r.zD))),Bv (!(dec (zZ s.xf r.zD)))] ?_)))))))))))))
      cases h61:(!(dec (zZ s.xf r.zD)))
      ·skip
       replace h61:=xw h61
       replace h61:=yB h61
       refine qL 73 rfl rfl (sp (pp bs os) (qL 73 rfl rfl (sp (pp br or) (qL 73 rfl rfl (sp (pp br or) (qL 73 rfl rfl (oF rfl (qL 73 rfl rfl (oL rfl (H.zu 3 rfl 5 rfl) (qL 73 rfl rfl (sw (oq (QF _ s r.zC (qJ (H.get 0 rfl) 0 3) (H.get 1 rfl).1 (H.get 2 rfl).1 (H.get 7 rfl).1) H fun w62 H=>qL 73 rfl rfl (sps [Bv (!(dec (zZ s.xf r.zC))),Bv (!(dec (zZ s.xf r.zC))),Bv (!(dec (zZ s.xf r.zC)))] ?_)))))))))))))
       cases h64:(!(dec (zZ s.xf r.zC)))
       ·skip
        replace h64:=xw h64
        replace h64:=yB h64
        refine qL 82 rfl rfl (sp (pp bs os) (qL 82 rfl rfl (sp (pp br or) (qL 82 rfl rfl (sp (pp br or) (qL 82 rfl rfl (oF rfl (qL 82 rfl rfl (oL rfl (H.zu 3 rfl 6 rfl) (qL 82 rfl rfl (sw (oq (QF _ s r.jI (qJ (H.get 0 rfl) 0 3) (H.get 1 rfl).1 (H.get 2 rfl).1 (H.get 8 rfl).1) H fun w65 H=>qL 82 rfl rfl (sps [Bv (!(dec (zZ s.xf r.jI))),Bv (!(dec (zZ s.xf r.jI))),Bv (!(dec (zZ s.xf r.jI)))] ?_)))))))))))))
        cases h67:(!(dec (zZ s.xf r.jI)))
        ·skip
         replace h67:=xw h67
         replace h67:=yB h67
         refine qL 91 rfl rfl (sp (pp br or) (qL 91 rfl rfl (sp (pp br or) (qL 91 rfl rfl (oF rfl (qL 91 rfl rfl (oL rfl (H.zu 3 rfl 2 rfl) (qL 91 rfl rfl (sw (oq (XC _ r.xM (H.get 4 rfl).1 (by first | assumption | exact vG ql | exact yF ql)) H fun w68 H=>qL 91 rfl rfl (sps [Bv ((QJ r.xM:Int) == 0),Bv ((QJ r.xM:Int) == 0)] (zjn (cE rfl (fun h70=>?_) (fun h70=>?_))))))))))))))
         ·skip
          refine zcr (sp (Bv false) (zjr (t_r (ret1 (Bv false) rfl rfl ⟨_,rfl,?_,H.base⟩))))
          rw [xk (fun h=>by obtain ⟨h1,h2,h3,h4,h5,h6,h7,h8,h9,h10,h11⟩:=h;first | contradiction | omega | exact h3 ⟨‹_›,‹_›⟩ | (obtain ⟨q1,q2,q3,q4,q5⟩:=h11 k qf;first | contradiction | omega | (have:=q5 qf;omega)))]
         refine xe (t_n (zcc (sp (yI 0) (zjn (qZ ?_)))))
         refine zU (fun m' ρ w71=>∃ (zl:Env) (k:Nat),ρ=upd (upd (upd zl 0 (pp bs os)) 1 (pp br or)) 5 (yI k)∧(k≤r.qO.length)∧(IntosTo s r k)∧m' =r.qO.length - k∧St w w71 [] [atF bs os (yS s qC qB qK qI),sF false qY qC qB s.qw,sF false xK qK qI s.qx,atF br or [yI r.qE,yI r.vI,Sv jo r.xM.length ji,Sv jv r.zF.length jm,Sv jq r.zD.length jk,Sv je r.zC.length jd,Sv yG r.jI.length yD,Sv vX r.qO.length vW,Bv true],sF false Q8 jo ji r.xM,sF false Xb jv jm r.zF,sF false Q9 jq jk r.zD,sF false Xa je jd r.zC,sF false FrOut yG yD r.jI,sF false XM vX vW r.qO]) (r.qO.length - 0) ⟨_,0,uE3,qf,(by exact fun j hj=>by omega),rfl,H⟩ ?_
         clear H
         rintro m' ρ w72 ⟨zl,k,rfl,i0,i1,rfl,H⟩
         refine zcc (sps [yI k,pp br or,pp br or] (oF rfl (oL rfl (H.zu 3 rfl 7 rfl) (oN rfl (sp (Bv (decide ((k:Int) < r.qO.length))) (zjn (cD rfl (fun h73=>?_) (fun h73=>?_))))))))
         ·skip
          refine xe (t_n (zg (qZ (zcr (sps [pp br or,pp br or] (oF rfl (oL rfl (H.zu 3 rfl 7 rfl) (sp (yI k) ?_))))))))
          obtain ⟨b74,o75,rfl⟩:=H.addr 9 rfl qf
          obtain ⟨ae76Bag,ce76Bag,Fe76Bag,H⟩:=H.yZ 9 rfl k k qf qf qf
          refine oI rfl rfl (sp (pp b74 (o75+(k:Int).toNat * 2)) (zjn (zg (zg ?_))))
          refine yj rfl H fun H=>rtp 0 (pp b74 (o75+(k:Int).toNat * 2)) H ?_
          refine rtp 1 (pp b74 (o75+(k:Int).toNat * 2)) H ?_
          refine tF 2 rfl rfl H ?_
          refine tL 3 rfl rfl (fun _ h=>h.zu 1 rfl 0 rfl) H ?_
          refine rtp 4 (pp bs os) H ?_
          refine rtp 5 (pp bs os) H ?_
          refine tF 6 rfl rfl H ?_
          refine tL 7 rfl rfl (fun _ h=>h.zu 2 rfl 1 rfl) H ?_
          refine tN 8 rfl rfl H ?_
          refine rt 9 (yI (s.qw.length - 1)) (y_sub s.qw.length 1 rfl rfl qf) H ?_
          refine ro 10 rfl (oq (l00In_ok w72.drew ((r.qO[k]!).qE) 0 (s.qw.length - 1)) H fun w78 H=>⟨H,(rtp 11 (Bv (!(inR ((r.qO[k]!).qE) 0 (s.qw.length - 1)))) H ?_)⟩)
          refine rtp 12 (Bv (!(inR ((r.qO[k]!).qE) 0 (s.qw.length - 1)))) H ?_
          cases h80:(!(inR ((r.qO[k]!).qE) 0 (s.qw.length - 1)))
          ·skip
           replace h80:=xw h80
           replace h80:=QL.1 h80
           refine rgp 13 (pp bs os) 126 H ?_
           refine rgp 14 (pp b74 (o75+(k:Int).toNat * 2)) 126 H ?_
           refine rgp 15 (pp b74 (o75+(k:Int).toNat * 2)) 126 H ?_
           refine gF 16 rfl rfl H ?_
           refine gL 17 rfl rfl (fun _ h=>h.zu 1 rfl 0 rfl) H ?_
           refine rgp 18 (pp br or) 126 H ?_
           refine rgp 19 (pp br or) 126 H ?_
           refine gF 20 rfl rfl H ?_
           refine gL 21 rfl rfl (fun _ h=>h.zu 5 rfl 0 rfl) H ?_
           refine zH [22] qh qm (Xg rfl (e:=126) rfl rfl (oq (l02In_ok _ s ((r.qO[k]!).qE) r.qE (qJ (H.get 2 rfl) 0 3) (H.get 3 rfl).1 (H.get 4 rfl).1 ql ql) H fun w81 H=>⟨H,(rgp 23 (Bv (!(dec (Lies s.qw r.qE ((r.qO[k]!).qE))))) 126 H ?_)⟩) zI)
           refine rtp 24 (Bv (!(dec (Lies s.qw r.qE ((r.qO[k]!).qE))))) H ?_
           refine rtp 25 (Bv (!(dec (Lies s.qw r.qE ((r.qO[k]!).qE))))) H ?_
           cases h83:(!(dec (Lies s.qw r.qE ((r.qO[k]!).qE))))
           ·skip
            replace h83:=xw h83
            replace h83:=yB h83
            refine rgp 26 (pp bs os) 139 H ?_
            refine rgp 27 (pp b74 (o75+(k:Int).toNat * 2)) 139 H ?_
            refine rgp 28 (pp b74 (o75+(k:Int).toNat * 2)) 139 H ?_
            refine gF 29 rfl rfl H ?_
            refine gL 30 rfl rfl (fun _ h=>h.zu 1 rfl 1 rfl) H ?_
            refine zH [31] qh qm (Xg rfl (e:=139) rfl rfl (oq (QF _ s ((r.qO[k]!).Qm) (qJ (H.get 2 rfl) 0 3) (H.get 3 rfl).1 (H.get 4 rfl).1 (H.get 0 rfl).1) H fun w84 H=>⟨H,(rgp 32 (Bv (!(dec (zZ s.xf ((r.qO[k]!).Qm))))) 139 H ?_)⟩) zI)
            refine rtp 33 (Bv (!(dec (zZ s.xf ((r.qO[k]!).Qm))))) H ?_
            refine rtp 34 (Bv (!(dec (zZ s.xf ((r.qO[k]!).Qm))))) H ?_
            cases h86:(!(dec (zZ s.xf ((r.qO[k]!).Qm))))
            ·skip
             replace h86:=xw h86
             replace h86:=yB h86
             refine rgp 35 (pp b74 (o75+(k:Int).toNat * 2)) 148 H ?_
             refine rgp 36 (pp b74 (o75+(k:Int).toNat * 2)) 148 H ?_
             refine gF 37 rfl rfl H ?_
             refine gL 38 rfl rfl (fun _ h=>h.zu 1 rfl 1 rfl) H ?_
             refine zH [39] qh qm (Xg rfl (e:=148) rfl rfl (oq (XC _ ((r.qO[k]!).Qm) (H.get 0 rfl).1 (by first | assumption | exact vG ql | exact yF ql)) H fun w87 H=>⟨H,(rgp 40 (Bv ((QJ ((r.qO[k]!).Qm):Int) == 0)) 148 H ?_)⟩) zI)
             refine rtp 41 (Bv ((QJ ((r.qO[k]!).Qm):Int) == 0)) H ?_
             refine xg qh (t_n (cE rfl (fun h89=>?_) (fun h89=>?_)))
             ·skip
              refine zcr (sp (Bv false) (zjr (t_r (zr5 (ret1 (Bv false) rfl rfl ⟨_,rfl,?_,H.base⟩)))))
              rw [xk (fun h=>by obtain ⟨h1,h2,h3,h4,h5,h6,h7,h8,h9,h10,h11⟩:=h;first | contradiction | omega | exact h3 ⟨‹_›,‹_›⟩ | (obtain ⟨q1,q2,q3,q4,q5⟩:=h11 k qf;first | contradiction | omega | (have:=q5 qf;omega)))]
             refine xe (t_n (zg ?_))
             refine yj rfl H fun H=>rtp 0 (yI k) H ?_
             refine rtp 1 (Bv (decide ((k:Int) > 0))) H ?_
             refine rtp 2 (Bv (decide ((k:Int) > 0))) H ?_
             cases h91:(decide ((k:Int) > 0))
             ·skip
              replace h91:=of_decide_eq_false h91
              refine zL [3,4,5,6,7,8,9,10,11,12,13,14,15,16] 14 (H) (rtp 17 (Bv false) H ?_)
              refine xg qh (t_n (xI false rfl (fun h=>absurd h qj) (fun _=>xe (b_n (t_n (zn (sp (yI k) (sw (zN k 1 rfl rfl qf (sp (yI (k+1)) (zo (xm (m' :=r.qO.length - (k+1)) qf ⟨_,k+1,uE3,?_,?_,rfl,H.sel _ (.refl _) _ qm⟩))))))))))))
              · omega
              · exact i1.succ ⟨‹_›,‹_›,‹_›,‹_›,fun hk=>by omega⟩
             replace h91:=of_decide_eq_true h91
             refine rgp 3 (pp br or) 158 H ?_
             refine rgp 4 (pp br or) 158 H ?_
             refine gF 5 rfl rfl H ?_
             refine gL 6 rfl rfl (fun _ h=>h.zu 5 rfl 7 rfl) H ?_
             refine rgp 7 (yI k) 158 H ?_
             refine rg 8 (yI (k - 1)) 158 (y_sub k 1 rfl rfl qf) H ?_
             obtain ⟨ae92Bag,ce92Bag,Fe92Bag,H⟩:=H.yZ 11 rfl (k - 1) (k - 1) qf qf qf
             refine gI 9 rfl rfl rfl (H.sel _ (.refl _) _ (fun _ h=>List.mem_cons_of_mem _ (List.mem_cons_of_mem _ (h)))) ?_
             refine gF 10 rfl rfl (H.sel _ (.refl _) _ (fun _ h=>List.mem_cons_of_mem _ (List.mem_cons_of_mem _ (h)))) ?_
             refine rgp 12 (pp b74 (o75+(k:Int).toNat * 2)) 158 (H.sel _ (.refl _) _ (fun _ h=>List.mem_cons_of_mem _ (List.mem_cons_of_mem _ (h)))) ?_
             refine rgp 13 (pp b74 (o75+(k:Int).toNat * 2)) 158 (H.sel _ (.refl _) _ (fun _ h=>List.mem_cons_of_mem _ (List.mem_cons_of_mem _ (h)))) ?_
             refine gF 14 rfl rfl (H.sel _ (.refl _) _ (fun _ h=>List.mem_cons_of_mem _ (List.mem_cons_of_mem _ (h)))) ?_
             refine gL 15 rfl rfl (fun _ h=>h.zu 1 rfl 0 rfl) (H.sel _ (.refl _) _ (fun _ h=>List.mem_cons_of_mem _ (List.mem_cons_of_mem _ (h)))) ?_
             refine zH [11] qh qm (Xg rfl (e:=158) rfl rfl (zt (yI ((r.qO[k - 1]!).qE)) isAgg2 rfl (H.zu 1 rfl 0 rfl) (⟨H.dF 2,(rgp 16 (Bv (decide (((r.qO[k - 1]!).qE:Int)≥((r.qO[k]!).qE)))) 158 (H.sel _ (.refl _) _ (fun _ h=>List.mem_cons_of_mem _ (List.mem_cons_of_mem _ (h)))) ?_)⟩)) zI)
             refine rtp 17 (Bv (decide (((r.qO[k - 1]!).qE:Int)≥((r.qO[k]!).qE)))) (H.sel _ (.refl _) _ (fun _ h=>List.mem_cons_of_mem _ (List.mem_cons_of_mem _ (h)))) ?_
             refine xg qh (t_n (cD rfl (fun h93=>?_) (fun h93=>?_)))
             ·skip
              refine zcr (sp (Bv false) (zjr (zr5 (ret1 (Bv false) rfl rfl ⟨_,rfl,?_,H.base⟩))))
              rw [xk (fun h=>by obtain ⟨h1,h2,h3,h4,h5,h6,h7,h8,h9,h10,h11⟩:=h;first | contradiction | omega | exact h3 ⟨‹_›,‹_›⟩ | (obtain ⟨q1,q2,q3,q4,q5⟩:=h11 k qf;first | contradiction | omega | (have:=q5 qf;omega)))]
             refine xe (b_n (t_n (zn (sp (yI k) (sw (zN k 1 rfl rfl qf (sp (yI (k+1)) (zo (xm (m' :=r.qO.length - (k+1)) qf ⟨_,k+1,uE3,?_,?_,rfl,H.sel _ (.refl _) _ qm⟩)))))))))
             · omega
             · exact i1.succ ⟨‹_›,‹_›,‹_›,‹_›,fun hk=>by omega⟩
            replace h86:=xC h86
            replace h86:=zO h86
            refine zL [35,36,37,38,39,40] 6 (H) (rtp 41 (Bv true) H ?_)
            refine xg qh (t_n (xI true rfl (fun _=>zcr (sp (Bv false) (zjr (t_r (zr5 (ret1 (Bv false) rfl rfl ⟨_,rfl,?_,H.base⟩)))))) (fun h=>absurd h qj)))
            rw [xk (fun h=>by obtain ⟨h1,h2,h3,h4,h5,h6,h7,h8,h9,h10,h11⟩:=h;first | contradiction | omega | exact h3 ⟨‹_›,‹_›⟩ | (obtain ⟨q1,q2,q3,q4,q5⟩:=h11 k qf;first | contradiction | omega | (have:=q5 qf;omega)))]
           replace h83:=xC h83
           replace h83:=zO h83
           refine zL [26,27,28,29,30,31,32] 7 (H) (rtp 33 (Bv true) H ?_)
           refine rtp 34 (Bv true) H ?_
           refine zL [35,36,37,38,39,40] 6 (H) (rtp 41 (Bv true) H ?_)
           refine xg qh (t_n (xI true rfl (fun _=>zcr (sp (Bv false) (zjr (t_r (zr5 (ret1 (Bv false) rfl rfl ⟨_,rfl,?_,H.base⟩)))))) (fun h=>absurd h qj)))
           rw [xk (fun h=>by obtain ⟨h1,h2,h3,h4,h5,h6,h7,h8,h9,h10,h11⟩:=h;first | contradiction | omega | exact h3 ⟨‹_›,‹_›⟩ | (obtain ⟨q1,q2,q3,q4,q5⟩:=h11 k qf;first | contradiction | omega | (have:=q5 qf;omega)))]
          replace h80:=xC h80
          replace h80:=Xn h80
          refine zL [13,14,15,16,17,18,19,20,21,22,23] 11 (H) (rtp 24 (Bv true) H ?_)
          refine rtp 25 (Bv true) H ?_
          refine zL [26,27,28,29,30,31,32] 7 (H) (rtp 33 (Bv true) H ?_)
          refine rtp 34 (Bv true) H ?_
          refine zL [35,36,37,38,39,40] 6 (H) (rtp 41 (Bv true) H ?_)
          refine xg qh (t_n (xI true rfl (fun _=>zcr (sp (Bv false) (zjr (t_r (zr5 (ret1 (Bv false) rfl rfl ⟨_,rfl,?_,H.base⟩)))))) (fun h=>absurd h qj)))
          rw [xk (fun h=>by obtain ⟨h1,h2,h3,h4,h5,h6,h7,h8,h9,h10,h11⟩:=h;first | contradiction | omega | exact h3 ⟨‹_›,‹_›⟩ | (obtain ⟨q1,q2,q3,q4,q5⟩:=h11 k qf;first | contradiction | omega | (have:=q5 qf;omega)))]
         refine zx4 (zcr (sp (Bv true) (zjr (ret1 (Bv true) rfl rfl ⟨_,rfl,?_,H.base⟩))))
         obtain rfl:k=r.qO.length:=by omega
         rw [yl ⟨by assumption,by omega,by simp_all,by omega,by assumption,by assumption,by assumption,by assumption,by assumption,by assumption,i1⟩]
        replace h67:=xC h67
        replace h67:=zO h67
        refine xU [92,93,94,95,96,97] (sp (Bv true) (zjn (xI true rfl (fun _=>zcr (sp (Bv false) (zjr (t_r (ret1 (Bv false) rfl rfl ⟨_,rfl,?_,H.base⟩))))) (fun h=>absurd h qj))))
        rw [xk (fun h=>by obtain ⟨h1,h2,h3,h4,h5,h6,h7,h8,h9,h10,h11⟩:=h;first | contradiction | omega | exact h3 ⟨‹_›,‹_›⟩ | (obtain ⟨q1,q2,q3,q4,q5⟩:=h11 k qf;first | contradiction | omega | (have:=q5 qf;omega)))]
       replace h64:=xC h64
       replace h64:=zO h64
       refine xU [83,84,85,86,87,88,89] (sps [Bv true,Bv true] (xU [92,93,94,95,96,97] (sp (Bv true) (zjn (xI true rfl (fun _=>zcr (sp (Bv false) (zjr (t_r (ret1 (Bv false) rfl rfl ⟨_,rfl,?_,H.base⟩))))) (fun h=>absurd h qj))))))
       rw [xk (fun h=>by obtain ⟨h1,h2,h3,h4,h5,h6,h7,h8,h9,h10,h11⟩:=h;first | contradiction | omega | exact h3 ⟨‹_›,‹_›⟩ | (obtain ⟨q1,q2,q3,q4,q5⟩:=h11 k qf;first | contradiction | omega | (have:=q5 qf;omega)))]
      replace h61:=xC h61
      replace h61:=zO h61
      refine xU [74,75,76,77,78,79,80] (sps [Bv true,Bv true] (xU [83,84,85,86,87,88,89] (sps [Bv true,Bv true] (xU [92,93,94,95,96,97] (sp (Bv true) (zjn (xI true rfl (fun _=>zcr (sp (Bv false) (zjr (t_r (ret1 (Bv false) rfl rfl ⟨_,rfl,?_,H.base⟩))))) (fun h=>absurd h qj))))))))
      rw [xk (fun h=>by obtain ⟨h1,h2,h3,h4,h5,h6,h7,h8,h9,h10,h11⟩:=h;first | contradiction | omega | exact h3 ⟨‹_›,‹_›⟩ | (obtain ⟨q1,q2,q3,q4,q5⟩:=h11 k qf;first | contradiction | omega | (have:=q5 qf;omega)))]
     replace h58:=xC h58
     replace h58:=zO h58
     refine xU [65,66,67,68,69,70,71] (sps [Bv true,Bv true] (xU [74,75,76,77,78,79,80] (sps [Bv true,Bv true] (xU [83,84,85,86,87,88,89] (sps [Bv true,Bv true] (xU [92,93,94,95,96,97] (sp (Bv true) (zjn (xI true rfl (fun _=>zcr (sp (Bv false) (zjr (t_r (ret1 (Bv false) rfl rfl ⟨_,rfl,?_,H.base⟩))))) (fun h=>absurd h qj))))))))))
     rw [xk (fun h=>by obtain ⟨h1,h2,h3,h4,h5,h6,h7,h8,h9,h10,h11⟩:=h;first | contradiction | omega | exact h3 ⟨‹_›,‹_›⟩ | (obtain ⟨q1,q2,q3,q4,q5⟩:=h11 k qf;first | contradiction | omega | (have:=q5 qf;omega)))]
    replace h55:=xC h55
    replace h55:=zO h55
    refine xU [56,57,58,59,60,61,62] (sps [Bv true,Bv true] (xU [65,66,67,68,69,70,71] (sps [Bv true,Bv true] (xU [74,75,76,77,78,79,80] (sps [Bv true,Bv true] (xU [83,84,85,86,87,88,89] (sps [Bv true,Bv true] (xU [92,93,94,95,96,97] (sp (Bv true) (zjn (xI true rfl (fun _=>zcr (sp (Bv false) (zjr (t_r (ret1 (Bv false) rfl rfl ⟨_,rfl,?_,H.base⟩))))) (fun h=>absurd h qj))))))))))))
    rw [xk (fun h=>by obtain ⟨h1,h2,h3,h4,h5,h6,h7,h8,h9,h10,h11⟩:=h;first | contradiction | omega | exact h3 ⟨‹_›,‹_›⟩ | (obtain ⟨q1,q2,q3,q4,q5⟩:=h11 k qf;first | contradiction | omega | (have:=q5 qf;omega)))]
   replace h51:=eq_of_beq h51
   refine zL [34,35,36,37,38,39] 6 (H) (rtp 40 (Bv true) H ?_)
   refine xg qh (t_n (xI true rfl (fun _=>zcr (sp (Bv false) (zjr (t_r (ret1 (Bv false) rfl rfl ⟨_,rfl,?_,H.base⟩))))) (fun h=>absurd h qj)))
   rw [xk (fun h=>by obtain ⟨h1,h2,h3,h4,h5,h6,h7,h8,h9,h10,h11⟩:=h;first | contradiction | omega | exact h3 ⟨‹_›,‹_›⟩ | (obtain ⟨q1,q2,q3,q4,q5⟩:=h11 k qf;first | contradiction | omega | (have:=q5 qf;omega)))]
  replace h7:=xC h7
  replace h7:=Xn h7
  refine zL [21,22,23,24,25,26,27,28,29,30,31] 11 (H) (rtp 32 (Bv true) H ?_)
  refine rtp 33 (Bv true) H ?_
  refine zL [34,35,36,37,38,39] 6 (H) (rtp 40 (Bv true) H ?_)
  refine xg qh (t_n (xI true rfl (fun _=>zcr (sp (Bv false) (zjr (t_r (ret1 (Bv false) rfl rfl ⟨_,rfl,?_,H.base⟩))))) (fun h=>absurd h qj)))
  rw [xk (fun h=>by obtain ⟨h1,h2,h3,h4,h5,h6,h7,h8,h9,h10,h11⟩:=h;first | contradiction | omega | exact h3 ⟨‹_›,‹_›⟩ | (obtain ⟨q1,q2,q3,q4,q5⟩:=h11 k qf;first | contradiction | omega | (have:=q5 qf;omega)))]
 replace h4:=xC h4
 replace h4:=Xn h4
 refine zL [13,14,15,16,17,18] 6 (H) (rtp 19 (Bv true) H ?_)
 refine rtp 20 (Bv true) H ?_
 refine zL [21,22,23,24,25,26,27,28,29,30,31] 11 (H) (rtp 32 (Bv true) H ?_)
 refine rtp 33 (Bv true) H ?_
 refine zL [34,35,36,37,38,39] 6 (H) (rtp 40 (Bv true) H ?_)
 refine xg qh (t_n (xI true rfl (fun _=>zcr (sp (Bv false) (zjr (t_r (ret1 (Bv false) rfl rfl ⟨_,rfl,?_,H.base⟩))))) (fun h=>absurd h qj)))
 rw [xk (fun h=>by obtain ⟨h1,h2,h3,h4,h5,h6,h7,h8,h9,h10,h11⟩:=h;first | contradiction | omega | exact h3 ⟨‹_›,‹_›⟩ | (obtain ⟨q1,q2,q3,q4,q5⟩:=h11 k qf;first | contradiction | omega | (have:=q5 qf;omega)))]

theorem l02State_ok (w:World) (s:qy) (t:qA) {qC:yOA} {qY:yLN} {qK:yOA} {xK:yLN} {qR:yOA} {zq:yLN} {xq:yOA} {zX:yLN} {qN:yOA} {xN:yLN} (hs:jQ w bs os (yS s qC qB qK qI)) (qW:qU.rep w qY [Sv qC s.qw.length qB] s.qw) (xF:qU.rep w xK [Sv qK s.qx.length qI] s.qx) (ht:jQ w bt ot (yT t qR qP xq xn qN qM)) (zy:qU.rep w zq [Sv qR t.qF.length qP] t.qF) (ve:qU.rep w zX [Sv xq t.qG.length xn] t.qG) (xW:qU.rep w xN [Sv qN t.qH.length qM] t.qH) (p0:jO s):Calls Tryz.prog 60 #[pp bs os,pp bt ot] w (Ret (fun v w' =>v=Bv (dec (xJ s t))) w):=by
 refine en func60 ntmps60 ?_
 have H:=(((((((St.start w).arg xW).arg ve).arg zy).argAt ht).arg xF).arg qW).argAt hs
 have vH:=qQ qW
 have jM:=qQ xF
 have Qg:=qQ zy
 have QZ:=qQ ve
 have yC:=qQ xW
 clear hs qW xF ht zy ve xW
 have p1:=p0.2.1
 refine zcr (sp (Bv false) (zjn (zg (zg ?_))))
 refine yj rfl H fun H=>rtp 0 (pp bt ot) H ?_
 refine rtp 1 (pp bt ot) H ?_
 refine tF 2 rfl rfl H ?_
 refine tL 3 rfl rfl (fun _ h=>h.zu 3 rfl 0 rfl) H ?_
 refine tN 4 rfl rfl H ?_
 refine rtp 5 (pp bs os) H ?_
 refine rtp 6 (pp bs os) H ?_
 refine tF 7 rfl rfl H ?_
 refine tL 8 rfl rfl (fun _ h=>h.zu 0 rfl 1 rfl) H ?_
 refine tN 9 rfl rfl H ?_
 refine rtp 10 (Bv ((t.qF.length:Int) != s.qw.length)) H ?_
 refine rtp 11 (Bv ((t.qF.length:Int) != s.qw.length)) H ?_
 cases h2:((t.qF.length:Int) != s.qw.length)
 ·skip
  replace h2:=zh h2
  refine rgp 12 (pp bt ot) 17 H ?_
  refine rgp 13 (pp bt ot) 17 H ?_
  refine gF 14 rfl rfl H ?_
  refine gL 15 rfl rfl (fun _ h=>h.zu 3 rfl 1 rfl) H ?_
  refine gN 16 rfl rfl H ?_
  refine rgp 17 (pp bs os) 17 H ?_
  refine rgp 18 (pp bs os) 17 H ?_
  refine gF 19 rfl rfl H ?_
  refine gL 20 rfl rfl (fun _ h=>h.zu 0 rfl 1 rfl) H ?_
  refine gN 21 rfl rfl H ?_
  refine rgp 22 (Bv ((t.qG.length:Int) != s.qw.length)) 17 H ?_
  refine rtp 23 (Bv ((t.qG.length:Int) != s.qw.length)) H ?_
  refine rtp 24 (Bv ((t.qG.length:Int) != s.qw.length)) H ?_
  cases h3:((t.qG.length:Int) != s.qw.length)
  ·skip
   replace h3:=zh h3
   refine rgp 25 (pp bt ot) 30 H ?_
   refine rgp 26 (pp bt ot) 30 H ?_
   refine gF 27 rfl rfl H ?_
   refine gL 28 rfl rfl (fun _ h=>h.zu 3 rfl 0 rfl) H ?_
   obtain ⟨b4,o5,rfl⟩:=H.addr 4 rfl qf
   refine gI 29 rfl rfl rfl H ?_
   refine gL 30 rfl rfl (fun _ h=>h.XE 4 rfl 0 qf qf) H ?_
   refine rgp 31 (Bv (!(t.qF[0]!))) 30 H ?_
   refine rtp 32 (Bv (!(t.qF[0]!))) H ?_
   refine rtp 33 (Bv (!(t.qF[0]!))) H ?_
   cases h6:(!(t.qF[0]!))
   ·skip
    replace h6:=xw h6
    refine rgp 34 (pp bs os) 39 H ?_
    refine rgp 35 (pp bt ot) 39 H ?_
    refine rgp 36 (pp bt ot) 39 H ?_
    refine gF 37 rfl rfl H ?_
    refine gL 38 rfl rfl (fun _ h=>h.zu 3 rfl 2 rfl) H ?_
    refine zH [39] qh qm (Xg rfl (e:=39) rfl rfl (oq (QF _ s t.qH (qJ (H.get 0 rfl) 0 3) (H.get 1 rfl).1 (H.get 2 rfl).1 (H.get 6 rfl).1) H fun w7 H=>⟨H,(rgp 40 (Bv (!(dec (zZ s.xf t.qH)))) 39 H ?_)⟩) zI)
    refine rtp 41 (Bv (!(dec (zZ s.xf t.qH)))) H ?_
    refine xg qh (t_n (cQ rfl (fun h9=>?_) (fun h9=>?_)))
    ·skip
     refine zcr (sp (Bv false) (zjr (t_r (ret1 (Bv false) rfl rfl ⟨_,rfl,?_,H.base⟩))))
     rw [xk (fun h=>by obtain ⟨h1,h2,h3,h4,h5⟩:=h;first | contradiction | omega | (simp_all;done) | (obtain ⟨q1,q2⟩:=h5 k qf;first | contradiction | (have:=q2 ql;omega)))]
    refine xe (t_n (zcc (sp (yI 0) (zjn (qZ ?_)))))
    refine zU (fun m' ρ w10=>∃ (zl:Env) (k:Nat),ρ=upd (upd (upd zl 0 (pp bs os)) 1 (pp bt ot)) 5 (yI k)∧(k≤t.qG.length)∧(BagsTo s t k)∧m' =t.qG.length - k∧St w w10 [] [atF bs os (yS s qC qB qK qI),sF false qY qC qB s.qw,sF false xK qK qI s.qx,atF bt ot [Sv (aa b4 o5) t.qF.length qP,Sv xq t.qG.length xn,Sv qN t.qH.length qM],sF false zq (aa b4 o5) qP t.qF,sF false zX xq xn t.qG,sF false xN qN qM t.qH]) (t.qG.length - 0) ⟨_,0,uE3,qf,(by exact fun j hj=>by omega),rfl,H⟩ ?_
    clear H
    rintro m' ρ w11 ⟨zl,k,rfl,i0,i1,rfl,H⟩
    refine zcc (sps [yI k,pp bt ot,pp bt ot] (oF rfl (oL rfl (H.zu 3 rfl 1 rfl) (oN rfl (sp (Bv (decide ((k:Int) < t.qG.length))) (zjn (cD rfl (fun h12=>?_) (fun h12=>?_))))))))
    ·skip
     refine xe (t_n (zg (qZ (zcr (sps [pp bs os,pp bt ot,pp bt ot] (oF rfl (oL rfl (H.zu 3 rfl 1 rfl) (sp (yI k) ?_))))))))
     obtain ⟨b13,o14,rfl⟩:=H.addr 5 rfl qf
     obtain ⟨ae15,ce15,Fe15,H⟩:=H.jS 5 rfl k k qf qf qf
     refine oI rfl rfl (oL rfl (H.zu 1 rfl 0 rfl) (sw (oq (QF _ s (t.qG[k]!) (qJ (H.get 2 rfl) 0 3) (H.get 3 rfl).1 (H.get 4 rfl).1 (H.get 0 rfl).1) H fun w16 H=>sps [Bv (!(dec (zZ s.xf (t.qG[k]!)))),Bv (!(dec (zZ s.xf (t.qG[k]!))))] ?_)))
     cases h18:(!(dec (zZ s.xf (t.qG[k]!))))
     ·skip
      replace h18:=xw h18
      replace h18:=yB h18
      refine qL 67 rfl rfl (sp (pp bt ot) (qL 67 rfl rfl (sp (pp bt ot) (qL 67 rfl rfl (oF rfl (qL 67 rfl rfl (oL rfl (H.zu 5 rfl 0 rfl) (qL 67 rfl rfl (sp (yI k) (qL 67 rfl rfl (oI rfl rfl (qL 67 rfl rfl (oL rfl (H.XE 6 rfl k qf qf) (qL 67 rfl rfl (sp (Bv (!(t.qF[k]!))) (qL 67 rfl rfl (sp (Bv (!(t.qF[k]!))) ?_)))))))))))))))))
      cases h19:(!(t.qF[k]!))
      ·skip
       replace h19:=xw h19
       refine xU [77,78,79,80,81,82,83,84,85] (qL 67 rfl rfl (sps [Bv false,Bv false] (zjn (xI false rfl (fun h=>absurd h qj) (fun _=>xe (b_n (t_n (zn (sp (yI k) (sw (zN k 1 rfl rfl qf (sp (yI (k+1)) (zo (xm (m' :=t.qG.length - (k+1)) qf ⟨_,k+1,uE3,?_,?_,rfl,H.sel _ (.refl _) _ qm⟩))))))))))))))
       · omega
       · exact i1.succ ‹_› (fun hk=>by first | omega | simp_all)
      replace h19:=xC h19
      refine qL 76 rfl rfl (sp (pp bt ot) (qL 76 rfl rfl (sp (pp bt ot) (qL 76 rfl rfl (oF rfl (qL 76 rfl rfl (oL rfl (H.zu 5 rfl 1 rfl) (qL 76 rfl rfl (sp (yI k) (qL 76 rfl rfl (oI rfl rfl (qL 76 rfl rfl (oL rfl (H.zu 1 rfl 0 rfl) (qL 76 rfl rfl (sw (oq (XC _ (t.qG[k]!) (H.get 0 rfl).1 (by first | assumption | exact vG ql | exact yF ql)) H fun w20 H=>qL 76 rfl rfl (sp (Bv (decide ((QJ (t.qG[k]!):Int) > 0))) (qL 67 rfl rfl ?_))))))))))))))))))
      refine sps [Bv (decide ((QJ (t.qG[k]!):Int) > 0)),Bv (decide ((QJ (t.qG[k]!):Int) > 0))] (zjn (cD rfl (fun h22=>?_) (fun h22=>?_)))
      ·skip
       refine zcr (sp (Bv false) (zjr (zr5 (ret1 (Bv false) rfl rfl ⟨_,rfl,?_,H.base⟩))))
       rw [xk (fun h=>by obtain ⟨h1,h2,h3,h4,h5⟩:=h;first | contradiction | omega | (simp_all;done) | (obtain ⟨q1,q2⟩:=h5 k qf;first | contradiction | (have:=q2 ql;omega)))]
      refine xe (b_n (t_n (zn (sp (yI k) (sw (zN k 1 rfl rfl qf (sp (yI (k+1)) (zo (xm (m' :=t.qG.length - (k+1)) qf ⟨_,k+1,uE3,?_,?_,rfl,H.sel _ (.refl _) _ qm⟩)))))))))
      · omega
      · exact i1.succ ‹_› (fun hk=>by first | omega | simp_all)
     replace h18:=xC h18
     replace h18:=zO h18
     refine xU [68,69,70,71,72,73,74,75,76,77,78,79,80,81,82,83,84,85,86] (sp (Bv true) (zjn (xI true rfl (fun _=>zcr (sp (Bv false) (zjr (zr5 (ret1 (Bv false) rfl rfl ⟨_,rfl,?_,H.base⟩))))) (fun h=>absurd h qj))))
     rw [xk (fun h=>by obtain ⟨h1,h2,h3,h4,h5⟩:=h;first | contradiction | omega | (simp_all;done) | (obtain ⟨q1,q2⟩:=h5 k qf;first | contradiction | (have:=q2 ql;omega)))]
    refine zx4 (zcr (sp (Bv true) (zjr (ret1 (Bv true) rfl rfl ⟨_,rfl,?_,H.base⟩))))
    obtain rfl:k=t.qG.length:=by omega
    rw [yl ⟨by omega,by omega,by first | assumption | simp_all,by assumption,i1⟩]
   replace h6:=xC h6
   refine zL [34,35,36,37,38,39,40] 7 (H) (rtp 41 (Bv true) H ?_)
   refine xg qh (t_n (xI true rfl (fun _=>zcr (sp (Bv false) (zjr (t_r (ret1 (Bv false) rfl rfl ⟨_,rfl,?_,H.base⟩))))) (fun h=>absurd h qj)))
   rw [xk (fun h=>by obtain ⟨h1,h2,h3,h4,h5⟩:=h;first | contradiction | omega | (simp_all;done) | (obtain ⟨q1,q2⟩:=h5 k qf;first | contradiction | (have:=q2 ql;omega)))]
  replace h3:=bne_iff_ne.1 h3
  refine zL [25,26,27,28,29,30,31] 7 (H) (rtp 32 (Bv true) H ?_)
  refine rtp 33 (Bv true) H ?_
  refine zL [34,35,36,37,38,39,40] 7 (H) (rtp 41 (Bv true) H ?_)
  refine xg qh (t_n (xI true rfl (fun _=>zcr (sp (Bv false) (zjr (t_r (ret1 (Bv false) rfl rfl ⟨_,rfl,?_,H.base⟩))))) (fun h=>absurd h qj)))
  rw [xk (fun h=>by obtain ⟨h1,h2,h3,h4,h5⟩:=h;first | contradiction | omega | (simp_all;done) | (obtain ⟨q1,q2⟩:=h5 k qf;first | contradiction | (have:=q2 ql;omega)))]
 replace h2:=bne_iff_ne.1 h2
 refine zL [12,13,14,15,16,17,18,19,20,21,22] 11 (H) (rtp 23 (Bv true) H ?_)
 refine rtp 24 (Bv true) H ?_
 refine zL [25,26,27,28,29,30,31] 7 (H) (rtp 32 (Bv true) H ?_)
 refine rtp 33 (Bv true) H ?_
 refine zL [34,35,36,37,38,39,40] 7 (H) (rtp 41 (Bv true) H ?_)
 refine xg qh (t_n (xI true rfl (fun _=>zcr (sp (Bv false) (zjr (t_r (ret1 (Bv false) rfl rfl ⟨_,rfl,?_,H.base⟩))))) (fun h=>absurd h qj)))
 rw [xk (fun h=>by obtain ⟨h1,h2,h3,h4,h5⟩:=h;first | contradiction | omega | (simp_all;done) | (obtain ⟨q1,q2⟩:=h5 k qf;first | contradiction | (have:=q2 ql;omega)))]

theorem l02Parent_ok (w:World) (s:qy) (t:qA) (c:Int) {qC:yOA} {qY:yLN} {qK:yOA} {xK:yLN} {qR:yOA} {zq:yLN} {xq:yOA} {zX:yLN} {qN:yOA} {xN:yLN} (hs:jQ w bs os (yS s qC qB qK qI)) (qW:qU.rep w qY [Sv qC s.qw.length qB] s.qw) (xF:qU.rep w xK [Sv qK s.qx.length qI] s.qx) (ht:jQ w bt ot (yT t qR qP xq xn qN qM)) (zy:qU.rep w zq [Sv qR t.qF.length qP] t.qF) (ve:qU.rep w zX [Sv xq t.qG.length xn] t.qG) (xW:qU.rep w xN [Sv qN t.qH.length qM] t.qH) (p0:jO s) (p1:CellIn s c) (p2:t.qF.length=s.qw.length):Calls Tryz.prog 113 #[pp bs os,pp bt ot,yI c] w (Ret (fun v w' =>v=yI (xh s t c)) w):=by
 refine en func113 ntmps113 ?_
 have H:=(((((((St.start w).arg xW).arg ve).arg zy).argAt ht).arg xF).arg qW).argAt hs
 have vH:=qQ qW
 have jM:=qQ xF
 have Qg:=qQ zy
 have QZ:=qQ ve
 have yC:=qQ xW
 clear hs qW xF ht zy ve xW
 have p3:=p0.step p1.1 p1.2
 refine zcr (sp (yI 0) (zjc (sps [pp bs os,pp bs os] (oF rfl (oL rfl (H.zu 0 rfl 1 rfl) (sp (yI c) ?_))))))
 obtain ⟨b1,o2,rfl⟩:=H.addr 1 rfl qf
 refine oI rfl rfl (oL rfl (H.jg 1 rfl c qf qf) (sp (yI (s.qw[c.toNat]!)) (zjn (zg (qZ ?_)))))
 refine zU (fun m' ρ w3=>∃ (zl:Env) (y:Int) (n:Nat),ρ=upd (upd (upd (upd zl 0 (pp bs os)) 1 (pp bt ot)) 6 (yI 0)) 7 (yI y)∧(-1≤y∧y≤(s.qw.length:Int) - 1)∧(y < n)∧(xh s t c=climb s.qw t.qF n y)∧m' =(y+1).toNat∧St w w3 [] [atF bs os [yI s.xf,Sv (aa b1 o2) s.qw.length qB,Sv qK s.qx.length qI],sF false qY (aa b1 o2) qB s.qw,sF false xK qK qI s.qx,atF bt ot (yT t qR qP xq xn qN qM),sF false zq qR qP t.qF,sF false zX xq xn t.qG,sF false xN qN qM t.qH]) (((s.qw[c.toNat]!)+1).toNat) ⟨_,s.qw[c.toNat]!,s.qw.length,uE4,qf,qf,(by rfl),rfl,H⟩ ?_
 clear H
 rintro m' ρ w4 ⟨zl,y,n,rfl,i0,i1,i2,rfl,H⟩
 have up:=fun h=>p0.step (c:=y) h i0.2
 refine zcc (sps [yI y,Bv (decide ((y:Int)≥0)),Bv (decide ((y:Int)≥0))] ?_)
 cases h5:(decide ((y:Int)≥0))
 ·skip
  replace h5:=of_decide_eq_false h5
  refine xU [18,19,20,21,22,23,24,25] (sp (Bv false) (zjn (xI false rfl (fun h=>absurd h qj) (fun _=>zx4 (zcr (sps [yI y,yI y] (zjr (ret1 (yI y) rfl rfl ⟨_,rfl,?_,H.base⟩))))))))
  rw [i2,climb_end (by first | omega | simp_all)]
 replace h5:=of_decide_eq_true h5
 refine qL 17 rfl rfl (sp (pp bt ot) (qL 17 rfl rfl (sp (pp bt ot) (qL 17 rfl rfl (oF rfl (qL 17 rfl rfl (oL rfl (H.zu 3 rfl 0 rfl) (qL 17 rfl rfl (sp (yI y) (qL 17 rfl rfl ?_))))))))))
 obtain ⟨b6,o7,rfl⟩:=H.addr 4 rfl qf
 refine oI rfl rfl (qL 17 rfl rfl (oL rfl (H.XE 4 rfl y qf qf) (qL 17 rfl rfl (sps [Bv (!(t.qF[y.toNat]!)),Bv (!(t.qF[y.toNat]!))] (zjn (xI (!(t.qF[y.toNat]!)) rfl (fun h8=>?_) (fun h8=>?_)))))))
 ·skip
  replace h8:=xC h8
  refine xe (t_n (qZ (zn (sps [pp bs os,pp bs os] (oF rfl (oL rfl (H.zu 0 rfl 1 rfl) (sp (yI y) (oI rfl rfl (oL rfl (H.jg 1 rfl y qf qf) (sp (yI (s.qw[y.toNat]!)) (zo (b_n ?_))))))))))))
  have up1:=up qf
  refine xm (m' :=((s.qw[y.toNat]!)+1).toNat) qf ⟨_,(s.qw[y.toNat]!),n - 1,uE4,?_,?_,?_,rfl,H⟩
  · omega
  · omega
  · exact i2.trans (climb_go qf qf ‹_›)
 replace h8:=xw h8
 refine zx4 (zcr (sps [yI y,yI y] (zjr (ret1 (yI y) rfl rfl ⟨_,rfl,?_,H.base⟩))))
 rw [i2,climb_end (by first | omega | simp_all)]

theorem l02Ok_ok (w:World) (s:qy) {qC:yOA} {qY:yLN} {qK:yOA} {xK:yLN} (hs:jQ w bs os (yS s qC qB qK qI)) (qW:qU.rep w qY [Sv qC s.qw.length qB] s.qw) (xF:qU.rep w xK [Sv qK s.qx.length qI] s.qx):Calls Tryz.prog 59 #[pp bs os] w (Ret (fun v w' =>v=Bv (dec (vw s))) w):=by
 refine en func59 ntmps59 ?_
 have H:=(((St.start w).arg xF).arg qW).argAt hs
 have vH:=qQ qW
 have jM:=qQ xF
 clear hs qW xF
 have p1:=fun h:jO s=>h.2.1
 refine zcr (sp (Bv false) (zjcc (sp (pp bs os) (sw (oq (l02Frame_ok _ s (qJ (H.get 0 rfl) 0 3) (H.get 1 rfl).1 (H.get 2 rfl).1) H fun w1 H=>sps [Bv (!(dec (jO s))),Bv (!(dec (jO s)))] ?_)))))
 cases h3:(!(dec (jO s)))
 ·skip
  replace h3:=xw h3
  replace h3:=yB h3
  refine qL 8 rfl rfl (sp (pp bs os) (qL 8 rfl rfl (sp (pp bs os) (qL 8 rfl rfl (oF rfl (qL 8 rfl rfl (oL rfl (H.zu 0 rfl 2 rfl) (qL 8 rfl rfl (oN rfl (qL 8 rfl rfl (sps [Bv (decide ((s.qx.length:Int) > 16)),Bv (decide ((s.qx.length:Int) > 16))] (zjn (cD rfl (fun h4=>?_) (fun h4=>?_))))))))))))))
  ·skip
   refine zcr (sp (Bv false) (zjr (t_r (ret1 (Bv false) rfl rfl ⟨_,rfl,?_,H.base⟩))))
   rw [xk (fun h=>by obtain ⟨h1,h2,h3⟩:=h;first | contradiction | omega | (obtain ⟨q1,q2⟩:=h3 k qf;first | contradiction | (have:=Vd (k:=k+1) q;omega)))]
  have p2:=p1 ql
  refine xe (t_n (zcr (sps [pp bs os,pp bs os] (oF rfl (oL rfl (H.zu 0 rfl 1 rfl) (oN rfl (sw (o_make1 H underlying24 ti2 rfl s.qw.length rfl rfl qf qf fun b5 w6 H=>?_))))))))
  replace H:St _ _ [.box b5 (List.replicate s.qw.length (yI 0)) 2] _:=H
  refine sp (Sv (aa b5 0) s.qw.length s.qw.length) (zjcc (sp (yI 0) (zjn (qZ ?_))))
  rw [ints_zero,counts_zero] at H
  refine zU (fun m' ρ w7=>∃ (zl:Env) (k:Nat),ρ=upd (upd (upd zl 0 (pp bs os)) 3 (Sv (aa b5 0) s.qw.length s.qw.length)) 4 (yI k)∧(k≤s.qx.length)∧(RulesTo s k)∧m' =s.qx.length - k∧St w w7 [.box b5 ((counts s k).map (Value.int .i64)) 2] [atF bs os (yS s qC qB qK qI),sF false qY qC qB s.qw,sF false xK qK qI s.qx]) (s.qx.length - 0) ⟨_,0,uE3,qf,(by exact fun j hj=>by omega),rfl,H⟩ ?_
  clear H
  rintro m' ρ w8 ⟨zl,k,rfl,i0,i1,rfl,H⟩
  refine zcc (sps [yI k,pp bs os,pp bs os] (oF rfl (oL rfl (H.zu 0 rfl 2 rfl) (oN rfl (sp (Bv (decide ((k:Int) < s.qx.length))) (zjn (cD rfl (fun h9=>?_) (fun h9=>?_))))))))
  ·skip
   refine xe (t_n (zg (qZ (zcc (sps [pp bs os,pp bs os,pp bs os] (oF rfl (oL rfl (H.zu 0 rfl 2 rfl) (sp (yI k) ?_))))))))
   obtain ⟨b10,o11,rfl⟩:=H.addr 2 rfl qf
   obtain ⟨ae12Need,ce12Need,Fe12Need,ae12Have,ce12Have,Fe12Have,ae12Lack,ce12Lack,Fe12Lack,ae12Here,ce12Here,Fe12Here,ae12Out,ce12Out,Fe12Out,ae12Into,ce12Into,Fe12Into,H⟩:=H.yY 2 rfl k k qf qf qf
   refine oI rfl rfl (sw (oq (l02Rule_ok _ s (s.qx[k]!) (qJ (H.get 7 rfl) 0 3) (H.get 8 rfl).1 (H.get 9 rfl).1 (qJ (H.get 6 rfl) 0 9) (H.get 0 rfl).1 (H.get 1 rfl).1 (H.get 2 rfl).1 (H.get 3 rfl).1 (H.get 4 rfl).1 (H.get 5 rfl).1 ql) H fun w13 H=>sp (Bv (!(dec (RuleOk s (s.qx[k]!))))) (zjn (cQ rfl (fun h15=>?_) (fun h15=>?_)))))
   ·skip
    refine zcr (sp (Bv false) (zjr (t_r (zr5 (ret1 (Bv false) rfl rfl ⟨_,rfl,?_,H.base⟩)))))
    rw [xk (fun h=>by obtain ⟨h1,h2,h3⟩:=h;first | contradiction | omega | (obtain ⟨q1,q2⟩:=h3 k qf;first | contradiction | (have:=Vd (k:=k+1) q;omega)))]
   have q:=(h15).1
   refine xe (t_n (zcr (sps [Sv (aa b5 0) s.qw.length s.qw.length,pp bs os,pp bs os] (oF rfl (oL rfl (H.zu 7 rfl 2 rfl) (sp (yI k) (oI rfl rfl (oF rfl (oL rfl (H.zu 6 rfl 0 rfl) (oI rfl rfl (oL rfl (H.cell 0 rfl (ints_get (by rw [counts_len];omega))) (sw (zN ((counts s k)[((s.qx[k]!).qE:Int).toNat]!) 1 rfl rfl (by (first | omega | (rw [Vd q];have:=ofCell_bd s.qx (s.qx[k]!).qE k;omega))) (oI rfl rfl ?_))))))))))))))
   refine sw (o_store1 H 0 rfl (yI (((counts s k)[((s.qx[k]!).qE:Int).toNat]!)+1)) sizeOf2 rfl rfl rfl (ints_lt (by rw [counts_len];omega)) fun w16 H=>?_)
   rw [ints_set] at H
   rw [counts_succ q] at H
   replace H:St _ _ [.box b5 ((counts s (k+1)).map (Value.int .i64)) 2] _:=H
   refine zjc (sps [Sv (aa b5 0) s.qw.length s.qw.length,pp bs os,pp bs os] (oF rfl (oL rfl (H.zu 7 rfl 2 rfl) (sp (yI k) (oI rfl rfl (oF rfl (oL rfl (H.zu 6 rfl 0 rfl) (oI rfl rfl (oL rfl (H.cell 0 rfl (ints_get (by rw [counts_len];omega))) (sp (Bv (decide (((counts s (k+1))[((s.qx[k]!).qE:Int).toNat]! :Int) > 8))) (zjn (cD rfl (fun h17=>?_) (fun h17=>?_)))))))))))))
   ·skip
    refine zcr (sp (Bv false) (zjr (zr5 (ret1 (Bv false) rfl rfl ⟨_,rfl,?_,H.base⟩))))
    rw [xk (fun h=>by obtain ⟨h1,h2,h3⟩:=h;first | contradiction | omega | (obtain ⟨q1,q2⟩:=h3 k qf;first | contradiction | (have:=Vd (k:=k+1) q;omega)))]
   refine xe (b_n (t_n (zn (sp (yI k) (sw (zN k 1 rfl rfl (by (first | omega | (rw [Vd q];have:=ofCell_bd s.qx (s.qx[k]!).qE k;omega))) (sp (yI (k+1)) (zo (xm (m' :=s.qx.length - (k+1)) qf ⟨_,k+1,uE3,?_,?_,rfl,H.sel _ (.refl _) _ qm⟩)))))))))
   · omega
   · exact i1.succ ‹_› (by have:=Vd (k:=k+1) q;omega)
  refine zx4 (zcr (sp (Bv true) (zjr (ret1 (Bv true) rfl rfl ⟨_,rfl,?_,H.base⟩))))
  obtain rfl:k=s.qx.length:=by omega
  rw [yl ⟨by assumption,by omega,i1⟩]
 replace h3:=xC h3
 replace h3:=zO h3
 refine xU [9,10,11,12,13,14] (sp (Bv true) (zjn (xI true rfl (fun _=>zcr (sp (Bv false) (zjr (t_r (ret1 (Bv false) rfl rfl ⟨_,rfl,?_,H.base⟩))))) (fun h=>absurd h qj))))
 rw [xk (fun h=>by obtain ⟨h1,h2,h3⟩:=h;first | contradiction | omega | (obtain ⟨q1,q2⟩:=h3 k qf;first | contradiction | (have:=Vd (k:=k+1) q;omega)))]
theorem cloneB_ok (w:World) (l:List Bool) {al:yOA} {Fl:yLN} (hl:qU.rep w Fl [Sv al l.length cl] l) (p0:l.length≤1000000):Calls Tryz.prog 103 #[Sv al l.length cl] w (Ret (fun v w' =>∃ (ra:yOA) (rn:Nat) (rc:Nat),v=Sv ra rn rc∧Fresh w.heap.size []∧St w w' [rr ra rn rc 4 1 (l.map (Value.bool))] []) w):=by
 refine en func103 ntmps103 ?_
 have H:=(St.start w).arg hl
 have nhl:=qQ hl
 clear hl
 have N:=Fresh.nil w.heap.size
 refine zcr (sp yN (zjcc (sp (Sv al l.length cl) (sw (o_eqnil underlying28 al l.length cl rfl (zjn (xI (al.isNone) rfl (fun h1=>?_) (fun h1=>?_))))))))
 ·skip
  refine zcr (sp yN (zjr (t_r ?_)))
  replace H:=H.nilRowB 4
  refine ret1 yN rfl rfl ⟨_,rfl,?_,H.base⟩
  obtain rfl:=H.nilOf 0 rfl ‹_›
  exact ⟨none,0,0,rfl,N,H.pick [0] []⟩
 refine xe (t_n (zcr (sw (jR H underlying28 ti4 fun b2 w3 H=>sp (Sv al l.length cl) ?_))))
 replace H:=H.boxRowB 0 [] 0
 refine sw (o_appendFR H 0 rfl 0 rfl underlying28 ti4 rfl qj rfl rfl qp qf fun a4 c5 w6 us7 G8 H hG9=>?_)
 obtain ⟨_,rfl⟩:=reps_bools (H.get 0 rfl).1
 replace H:=H.sub _ fun f hf=>List.mem_cons_of_mem _ hf
 rw [catB] at H
 refine sp (Sv a4 (0+l.length) c5) (zjr (ret1 (Sv a4 (0+l.length) c5) rfl rfl ⟨_,rfl,(⟨a4,0+l.length,c5,rfl,N,H.pick [0] []⟩),H.base⟩))
theorem isShell_ok (w:World) (s:qy) {qC:yOA} {qY:yLN} {qK:yOA} {xK:yLN} (qW:qU.rep w qY [Sv qC s.qw.length qB] s.qw) (xF:qU.rep w xK [Sv qK s.qx.length qI] s.qx):Calls Tryz.prog 121 #[.agg #[yI s.xf,Sv qC s.qw.length qB,Sv qK s.qx.length qI]] w (Ret (fun v w' =>v=Bv (dec (jO s))) w):=by
 refine en func121 ntmps121 ?_
 have H:=((St.start w).arg xF).arg qW
 have vH:=qQ qW
 have jM:=qQ xF
 clear qW xF
 have N:=Fresh.nil w.heap.size
 refine zcr (sw (vF H (yS s qC qB qK qI) fun b1 w2 H=>sp (Bv false) (zjcc (oF rfl (oL rfl (H.cell 0 rfl rfl) (sw (oq (Xj w2 s.xf 1 8) H fun w3 H=>sps [Bv (!(inR s.xf 1 8)),Bv (!(inR s.xf 1 8))] ?_)))))))
 cases h5:(!(inR s.xf 1 8))
 ·skip
  replace h5:=xw h5
  replace h5:=QL.1 h5
  refine qL 9 rfl rfl (oF rfl (qL 9 rfl rfl (oL rfl (H.cell 0 rfl rfl) (qL 9 rfl rfl (sw (oq (sizeI_ok _ s.qw (H.get 0 rfl).1) H fun w6 H=>qL 9 rfl rfl (sw (oq (Xj w6 (s.qw.length:Int) 1 6) H fun w8 H=>qL 9 rfl rfl (sps [Bv (!(inR (s.qw.length:Int) 1 6)),Bv (!(inR (s.qw.length:Int) 1 6)),Bv (!(inR (s.qw.length:Int) 1 6))] ?_)))))))))
  cases h10:(!(inR (s.qw.length:Int) 1 6))
  ·skip
   replace h10:=xw h10
   replace h10:=QL.1 h10
   refine qL 16 rfl rfl (oF rfl (qL 16 rfl rfl (oL rfl (H.cell 0 rfl rfl) (qL 16 rfl rfl ?_))))
   obtain ⟨b11,o12,rfl⟩:=H.addr 0 rfl qf
   refine oI rfl rfl (qL 16 rfl rfl (oL rfl (H.jg 0 rfl 0 qf qf) (qL 16 rfl rfl (sps [Bv ((s.qw[0]! :Int) != (-1)),Bv ((s.qw[0]! :Int) != (-1))] (zjn (xI ((s.qw[0]! :Int) != (-1)) rfl (fun h14=>?_) (fun h14=>?_)))))))
   ·skip
    replace h14:=bne_iff_ne.1 h14
    refine zcr (sp (Bv false) (zjr (t_r (ret1 (Bv false) rfl rfl ⟨_,rfl,?_,H.base⟩))))
    rw [xk (fun h=>by obtain ⟨h1,h2,h3,h4⟩:=h;first | omega | (have:=h4 (c+1) qf qf;rw [← dg qf] at this;omega))]
   replace h14:=zh h14
   refine xe (t_n (zcc (oF rfl (oL rfl (H.cell 0 rfl rfl) (sw (o_tail H 0 rfl 1 underlying24 ti2 rfl qf fun a15 G16 hG17 H=>?_))))))
   have hl18:(s.qw.drop 1).length=s.qw.length - 1:=List.length_drop
   refine oN rfl (sp (yI 0) (zjn (qZ ?_)))
   refine zU (fun m' ρ w19=>∃ (zl:Env) (c:Nat),ρ=upd (upd (upd zl 25 (Sv a15 ((s.qw.drop 1).length) (qB - 1))) 26 (yI ((s.qw.drop 1).length))) 27 (yI c)∧((c:Int)≤((s.qw.drop 1).length))∧(FrameTo s (c+1))∧m' =(((s.qw.drop 1).length) - (c:Int)).toNat∧Fresh w.heap.size []∧St w w19 [.box b1 [yI s.xf,Sv (aa b11 o12) s.qw.length qB,Sv qK s.qx.length qI] 27] [sF false G16 a15 (qB - 1) (s.qw.drop 1),sF false qY (aa b11 o12) qB s.qw,sF false xK qK qI s.qx]) ((((s.qw.drop 1).length) - (0:Int)).toNat) ⟨_,0,uE3,qf,(by exact FrameTo.one s),rfl,N,H⟩ ?_
   clear H N
   rintro m' ρ w20 ⟨zl,c,rfl,i0,i1,rfl,N,H⟩
   have dg:=drop_get (l:=s.qw) (k:=c)
   refine zcr (sp (Bv (decide ((c:Int) < ((s.qw.drop 1).length)))) (zjn (zg (cD rfl (fun h21=>?_) (fun h21=>?_)))))
   ·skip
    refine xe (t_n (zg (qZ (zcr (sp (yI c) ?_)))))
    obtain ⟨b22,o23,rfl⟩:=H.addr 0 rfl qf
    refine oI rfl rfl (oL rfl (H.jg 0 rfl c qf qf) (sps [yI c,yI ((s.qw.drop 1)[c]!)] (zjc (sps [yI ((s.qw.drop 1)[c]!),yI c] (sw (oq (Xj w20 ((s.qw.drop 1)[c]!) 0 c) H fun w25 H=>sp (Bv (!(inR ((s.qw.drop 1)[c]!) 0 c))) (zjn (xI (!(inR ((s.qw.drop 1)[c]!) 0 c)) rfl (fun h27=>?_) (fun h27=>?_)))))))))
    ·skip
     replace h27:=xC h27
     replace h27:=Xn h27
     refine zcr (sp (Bv false) (zjr (zr5 (ret1 (Bv false) rfl rfl ⟨_,rfl,?_,H.base⟩))))
     rw [xk (fun h=>by obtain ⟨h1,h2,h3,h4⟩:=h;first | omega | (have:=h4 (c+1) qf qf;rw [← dg qf] at this;omega))]
    replace h27:=xw h27
    replace h27:=QL.1 h27
    refine xe (b_n (t_n (zn (sw (zN c 1 rfl rfl qf (sp (yI (c+1)) (zo (xm (m' :=(((s.qw.drop 1).length) - ((c+1):Int)).toNat) qf ⟨_,c+1,uE3,?_,?_,rfl,N,H⟩))))))))
    · omega
    · exact i1.succ (by rw [← dg qf];omega)
   refine zx4 (zcr (sp (Bv true) (zjr (ret1 (Bv true) rfl rfl ⟨_,rfl,?_,H.base⟩))))
   rw [yl ⟨by omega,by omega,by omega,(show s.qw.length=c+1 by omega)▸i1⟩]
  replace h10:=xC h10
  replace h10:=Xn h10
  refine xU [17,18,19,20,21] (sp (Bv true) (zjn (xI true rfl (fun _=>zcr (sp (Bv false) (zjr (t_r (ret1 (Bv false) rfl rfl ⟨_,rfl,?_,H.base⟩))))) (fun h=>absurd h qj))))
  rw [xk (fun h=>by obtain ⟨h1,h2,h3,h4⟩:=h;first | omega | (have:=h4 (c+1) qf qf;rw [← dg qf] at this;omega))]
 replace h5:=xC h5
 replace h5:=Xn h5
 refine xU [10,11,12,13,14] (sps [Bv true,Bv true] (xU [17,18,19,20,21] (sp (Bv true) (zjn (xI true rfl (fun _=>zcr (sp (Bv false) (zjr (t_r (ret1 (Bv false) rfl rfl ⟨_,rfl,?_,H.base⟩))))) (fun h=>absurd h qj))))))
 rw [xk (fun h=>by obtain ⟨h1,h2,h3,h4⟩:=h;first | omega | (have:=h4 (c+1) qf qf;rw [← dg qf] at this;omega))]

theorem isCell_ok (w:World) (s:qy) (c:Int) {qC:yOA} {qY:yLN} {qK:yOA} {xK:yLN} (qW:qU.rep w qY [Sv qC s.qw.length qB] s.qw) (xF:qU.rep w xK [Sv qK s.qx.length qI] s.qx):Calls Tryz.prog 62 #[.agg #[yI s.xf,Sv qC s.qw.length qB,Sv qK s.qx.length qI],yI c] w (Ret (fun v w' =>v=Bv (inR c 0 ((s.qw.length:Int) - 1))) w):=by
 refine en func62 ntmps62 ?_
 have H:=((St.start w).arg xF).arg qW
 have vH:=qQ qW
 have jM:=qQ xF
 clear qW xF
 have N:=Fresh.nil w.heap.size
 refine zcr (sw (vF H (yS s qC qB qK qI) fun b1 w2 H=>sp (Bv false) (zjc (sp (yI c) (oF rfl (oL rfl (H.cell 0 rfl rfl) (sw (oq (sizeI_ok _ s.qw (H.get 0 rfl).1) H fun w3 H=>sw (o_sub (s.qw.length:Int) 1 rfl rfl qf (sw (oq (Xj w3 c 0 ((s.qw.length:Int) - 1)) H fun w5 H=>sp (Bv (inR c 0 ((s.qw.length:Int) - 1))) (zjr (ret1 (Bv (inR c 0 ((s.qw.length:Int) - 1))) rfl rfl ⟨_,rfl,?_,H.base⟩)))))))))))))
 rfl

theorem lies_ok (w:World) (s:qy) (c:Int) (within:Int) {qC:yOA} {qY:yLN} {qK:yOA} {xK:yLN} (qW:qU.rep w qY [Sv qC s.qw.length qB] s.qw) (xF:qU.rep w xK [Sv qK s.qx.length qI] s.qx) (p0:jO s) (p1:CellIn s c):Calls Tryz.prog 178 #[.agg #[yI s.xf,Sv qC s.qw.length qB,Sv qK s.qx.length qI],yI c,yI within] w (Ret (fun v w' =>v=Bv (dec (Lies s.qw within c))) w):=by
 refine en func178 ntmps178 ?_
 have H:=((St.start w).arg xF).arg qW
 have vH:=qQ qW
 have jM:=qQ xF
 clear qW xF
 have N:=Fresh.nil w.heap.size
 have p2:=p0.step p1.1 p1.2
 refine zcr (sw (vF H (yS s qC qB qK qI) fun b1 w2 H=>sp (Bv false) (zjcc (oF rfl (oL rfl (H.cell 0 rfl rfl) (sp (yI c) ?_))))))
 obtain ⟨b3,o4,rfl⟩:=H.addr 0 rfl qf
 refine oI rfl rfl (oL rfl (H.jg 0 rfl c qf qf) (sp (yI (s.qw[c.toNat]!)) (zjn (qZ ?_))))
 refine zU (fun m' ρ w6=>∃ (zl:Env) (c_1:Int),ρ=upd (upd (upd zl 1 (yI c_1)) 2 (yI within)) 3 (pp b1 0)∧(-1≤c_1∧c_1≤(s.qw.length:Int) - 1)∧(Lies s.qw within c↔0≤c_1∧(c_1=within∨Lies s.qw within c_1))∧m' =(c_1+1).toNat∧Fresh w.heap.size []∧St w w6 [.box b1 [yI s.xf,Sv (aa b3 o4) s.qw.length qB,Sv qK s.qx.length qI] 27] [sF false qY (aa b3 o4) qB s.qw,sF false xK qK qI s.qx]) (((s.qw[c.toNat]!)+1).toNat) ⟨_,s.qw[c.toNat]!,uE3,qf,(by exact lies_up p0 p1),rfl,N,H⟩ ?_
 clear H N
 rintro m' ρ w7 ⟨zl,c_1,rfl,i0,i1,rfl,N,H⟩
 have up:=fun h=>p0.step (c:=c_1) h i0.2
 refine zcc (sps [yI c_1,Bv (decide ((c_1:Int)≥0))] (zjn (cD rfl (fun h8=>?_) (fun h8=>?_))))
 ·skip
  refine xe (t_n (zg (qZ (zcr (sps [yI c_1,yI within,Bv ((c_1:Int) == within)] (zjn (cE rfl (fun h9=>?_) (fun h9=>?_))))))))
  ·skip
   refine zcr (sp (Bv true) (zjr (zr5 (ret1 (Bv true) rfl rfl ⟨_,rfl,?_,H.base⟩))))
   rw [yl (i1.2 ⟨by omega,.inl ‹_›⟩)]
  refine xe (b_n (t_n (zn (oF rfl (oL rfl (H.cell 0 rfl rfl) (sp (yI c_1) (oI rfl rfl (oL rfl (H.jg 0 rfl c_1 qf qf) (sp (yI (s.qw[c_1.toNat]!)) (zo ?_))))))))))
  have up1:=up qf
  refine xm (m' :=((s.qw[c_1.toNat]!)+1).toNat) qf ⟨_,s.qw[c_1.toNat]!,uE3,?_,?_,rfl,N,H⟩
  · omega
  · exact i1.trans ⟨fun h=>(lies_up p0 ⟨by omega,by omega⟩).1 (h.2.resolve_left ‹_›),fun h=>⟨by omega,.inr ((lies_up p0 ⟨by omega,by omega⟩).2 h)⟩⟩
 refine zx4 (zcr (sp (Bv false) (zjr (ret1 (Bv false) rfl rfl ⟨_,rfl,?_,H.base⟩))))
 rw [xk (fun h=>by have:=(i1.1 h).1;omega)]

theorem isRule_ok (w:World) (s:qy) (r:jy) {qC:yOA} {qY:yLN} {qK:yOA} {xK:yLN} {jo:yOA} {Q8:yLN} {jv:yOA} {Xb:yLN} {jq:yOA} {Q9:yLN} {je:yOA} {Xa:yLN} {yG:yOA} {FrOut:yLN} {vX:yOA} {XM:yLN} (qW:qU.rep w qY [Sv qC s.qw.length qB] s.qw) (xF:qU.rep w xK [Sv qK s.qx.length qI] s.qx) (hrNeed:qU.rep w Q8 [Sv jo r.xM.length ji] r.xM) (hrHave:qU.rep w Xb [Sv jv r.zF.length jm] r.zF) (hrLack:qU.rep w Q9 [Sv jq r.zD.length jk] r.zD) (hrHere:qU.rep w Xa [Sv je r.zC.length jd] r.zC) (hrOut:qU.rep w FrOut [Sv yG r.jI.length yD] r.jI) (hrInto:qU.rep w XM [Sv vX r.qO.length vW] r.qO) (p0:jO s):Calls Tryz.prog 122 #[.agg #[yI s.xf,Sv qC s.qw.length qB,Sv qK s.qx.length qI],.agg #[yI r.qE,yI r.vI,Sv jo r.xM.length ji,Sv jv r.zF.length jm,Sv jq r.zD.length jk,Sv je r.zC.length jd,Sv yG r.jI.length yD,Sv vX r.qO.length vW,Bv r.zV]] w (Ret (fun v w' =>v=Bv (dec (RuleOk s r))) w):=by
 refine en func122 ntmps122 ?_
 have H:=((((((((St.start w).arg hrInto).arg hrOut).arg hrHere).arg hrLack).arg hrHave).arg hrNeed).arg xF).arg qW
 have vH:=qQ qW
 have jM:=qQ xF
 have nhrNeed:=qQ hrNeed
 have nhrHave:=qQ hrHave
 have nhrLack:=qQ hrLack
 have nhrHere:=qQ hrHere
 have nhrOut:=qQ hrOut
 have nhrInto:=qQ hrInto
 clear qW xF hrNeed hrHave hrLack hrHere hrOut hrInto
 have N:=Fresh.nil w.heap.size
 refine zcr (sw (vF H (yS s qC qB qK qI) fun b1 w2 H=>sw (vF H [yI r.qE,yI r.vI,Sv jo r.xM.length ji,Sv jv r.zF.length jm,Sv jq r.zD.length jk,Sv je r.zC.length jd,Sv yG r.jI.length yD,Sv vX r.qO.length vW,Bv r.zV] fun b3 w4 H=>sp (Bv false) (zjcc ?_))))
 refine sw (zB (yS s qC qB qK qI) isAgg27 sizeOf27 rfl (qJ (H.cells 1 rfl) 0 3) (oF rfl (oL rfl (H.cell 0 rfl rfl) (sw (oq (isCell_ok _ s r.qE (H.get 0 rfl).1 (H.get 1 rfl).1) H fun w6 H=>sps [Bv (!(inR r.qE 0 ((s.qw.length:Int) - 1))),Bv (!(inR r.qE 0 ((s.qw.length:Int) - 1)))] ?_)))))
 cases h8:(!(inR r.qE 0 ((s.qw.length:Int) - 1)))
 ·skip
  replace h8:=xw h8
  replace h8:=QL.1 h8
  refine qL 14 rfl rfl (oF rfl (qL 14 rfl rfl (oL rfl (H.cell 0 rfl rfl) (qL 14 rfl rfl (sw (oq (Xj w6 r.vI 0 9) H fun w9 H=>qL 14 rfl rfl (sps [Bv (!(inR r.vI 0 9)),Bv (!(inR r.vI 0 9)),Bv (!(inR r.vI 0 9))] ?_)))))))
  cases h11:(!(inR r.vI 0 9))
  ·skip
   replace h11:=xw h11
   replace h11:=QL.1 h11
   refine qL 20 rfl rfl (oF rfl (qL 20 rfl rfl (oL rfl (H.cell 0 rfl rfl) (qL 20 rfl rfl (sp (Bv r.zV) ?_)))))
   cases h12:(r.zV)
   ·skip
    rw [h12] at H
    refine xU [24,25,26] (qL 20 rfl rfl (sps [Bv false,Bv false,Bv false] (qL 29 rfl rfl (oF rfl (qL 29 rfl rfl (oL rfl (H.cell 0 rfl rfl) (qL 29 rfl rfl (oN rfl (qL 29 rfl rfl (sps [Bv (decide ((r.qO.length:Int) > 3)),Bv (decide ((r.qO.length:Int) > 3))] (zjn (cD rfl (fun h13=>?_) (fun h13=>?_)))))))))))))
    ·skip
     refine zcr (sp (Bv false) (zjr (t_r (ret1 (Bv false) rfl rfl ⟨_,rfl,?_,H.base⟩))))
     rw [xk (fun h=>by obtain ⟨h1,h2,h3,h4,h5,h6,h7,h8,h9,h10,h11⟩:=h;first | contradiction | omega | exact h3 ⟨‹_›,‹_›⟩ | (obtain ⟨q1,q2,q3,q4,q5⟩:=h11 i qf;first | contradiction | omega | (have:=q5 qf;omega)) | (refine absurd ?_ ‹¬ zZ _ _›;rcases (show k=0∨k=1∨k=2∨k=3∨k=4 by omega) with e | e | e | e | e <;> subst e <;> assumption))]
    refine xe (t_n (zcc (oF rfl (oL rfl (H.cell 0 rfl rfl) (oF rfl (oL rfl (H.cell 0 rfl rfl) (oF rfl (oL rfl (H.cell 0 rfl rfl) (oF rfl (oL rfl (H.cell 0 rfl rfl) (oF rfl (oL rfl (H.cell 0 rfl rfl) (sw (o_buildF H underlying29 ti24 [Sv jo r.xM.length ji,Sv jv r.zF.length jm,Sv jq r.zD.length jk,Sv je r.zC.length jd,Sv yG r.jI.length yD] rfl (by simp [Value.cells]) rfl qj qj fun b14 w15 H=>oN rfl (sp (yI 0) (zjn (qZ ?_)))))))))))))))))
    replace H:=H.boxRow 0 rfl 1 5 rfl qj
    replace H:=H.jD (α:=yLI)
    replace H:=H.XW false 7 rfl 0 rfl qm
    replace H:=H.XW false 7 rfl 0 rfl qm
    replace H:=H.XW false 7 rfl 0 rfl qm
    replace H:=H.XW false 7 rfl 0 rfl qm
    replace H:=H.XW false 7 rfl 0 rfl qm
    refine zU (fun m' ρ w16=>∃ (zl:Env) (k:Nat),ρ=upd (upd (upd (upd (upd zl 2 (pp b1 0)) 3 (pp b3 0)) 45 (Sv (aa b14 0) 5 5)) 46 (yI 5)) 47 (yI k)∧((k:Int)≤5)∧(∀ j,j < k→zZ s.xf ([r.xM,r.zF,r.zD,r.zC,r.jI][j]!))∧m' =(5 - (k:Int)).toNat∧Fresh w.heap.size []∧St w w16 [rr (aa b14 0) 5 5 24 1 [Sv jo r.xM.length ji,Sv jv r.zF.length jm,Sv jq r.zD.length jk,Sv je r.zC.length jd,Sv yG r.jI.length yD],.box b3 [yI r.qE,yI r.vI,Sv jo r.xM.length ji,Sv jv r.zF.length jm,Sv jq r.zD.length jk,Sv je r.zC.length jd,Sv yG r.jI.length yD,Sv vX r.qO.length vW,Bv false] 56,.box b1 (yS s qC qB qK qI) 27] [qX false (Q8++(Xb++(Q9++(Xa++(FrOut++[]))))) [Sv jo r.xM.length ji,Sv jv r.zF.length jm,Sv jq r.zD.length jk,Sv je r.zC.length jd,Sv yG r.jI.length yD] [r.xM,r.zF,r.zD,r.zC,r.jI],sF false qY qC qB s.qw,sF false xK qK qI s.qx,sF false Q8 jo ji r.xM,sF false Xb jv jm r.zF,sF false Q9 jq jk r.zD,sF false Xa je jd r.zC,sF false FrOut yG yD r.jI,sF false XM vX vW r.qO]) ((5 - (0:Int)).toNat) ⟨_,0,uE5,qf,(by intro j hj;omega),rfl,N,H.pick [0,1,2] [0,6,7,8,9,10,11,12,13]⟩ ?_
    clear H N
    rintro m' ρ w17 ⟨zl,k,rfl,i0,i1,rfl,N,H⟩
    refine zcr (sp (Bv (decide ((k:Int) < 5))) (zjn (zg (cD rfl (fun h18=>?_) (fun h18=>?_)))))
    ·skip
     refine xe (t_n (zg (qZ (zcr (oI rfl rfl ?_)))))
     obtain ⟨a19,c20,G21,s22,h23,H⟩:=H.jV 0 rfl 0 rfl (iv:=k) k qf qf
     refine oL rfl (h23) (sp (Sv a19 (([r.xM,r.zF,r.zD,r.zC,r.jI][k]!).length) c20) (zjc (oF rfl (oL rfl (H.cell 2 rfl rfl) (sp (Sv a19 (([r.xM,r.zF,r.zD,r.zC,r.jI][k]!).length) c20) (sw (oq (Xp _ s.xf ([r.xM,r.zF,r.zD,r.zC,r.jI][k]!) (H.get 0 rfl).1) H fun w24 H=>sp (Bv (!(dec (zZ s.xf ([r.xM,r.zF,r.zD,r.zC,r.jI][k]!))))) (zjn (cQ rfl (fun h26=>?_) (fun h26=>?_))))))))))
     ·skip
      refine zcr (sp (Bv false) (zjr (zr5 (ret1 (Bv false) rfl rfl ⟨_,rfl,?_,H.base⟩))))
      rw [xk (fun h=>by obtain ⟨h1,h2,h3,h4,h5,h6,h7,h8,h9,h10,h11⟩:=h;first | contradiction | omega | exact h3 ⟨‹_›,‹_›⟩ | (obtain ⟨q1,q2,q3,q4,q5⟩:=h11 i qf;first | contradiction | omega | (have:=q5 qf;omega)) | (refine absurd ?_ ‹¬ zZ _ _›;rcases (show k=0∨k=1∨k=2∨k=3∨k=4 by omega) with e | e | e | e | e <;> subst e <;> assumption))]
     refine xe (b_n (t_n (zn (sw (zN k 1 rfl rfl qf (sp (yI (k+1)) (zo (xm (m' :=(5 - ((k+1):Int)).toNat) qf ⟨_,k+1,uE5,?_,?_,rfl,N,H.pick [0,1,2] [1,2,3,4,5,6,7,8,9]⟩))))))))
     · omega
     · intro j hj;by_cases e:j=k;(subst e;assumption);exact i1 j qf
    refine zx4 (zcc (oF rfl (oL rfl (H.cell 1 rfl rfl) (oN rfl (sp (yI 0) (zjn (qZ ?_)))))))
    have n1:zZ s.xf r.xM:=i1 0 qf
    have n2:zZ s.xf r.zF:=i1 1 qf
    have n3:zZ s.xf r.zD:=i1 2 qf
    have n4:zZ s.xf r.zC:=i1 3 qf
    have n5:zZ s.xf r.jI:=i1 4 qf
    refine zU (fun m' ρ w27=>∃ (zl:Env) (i:Nat),ρ=upd (upd (upd (upd (upd zl 2 (pp b1 0)) 3 (pp b3 0)) 58 (Sv vX r.qO.length vW)) 59 (yI r.qO.length)) 60 (yI i)∧((i:Int)≤r.qO.length)∧(IntosTo s r i)∧m' =(r.qO.length - (i:Int)).toNat∧Fresh w.heap.size []∧St w w27 [rr (aa b14 0) 5 5 24 1 [Sv jo r.xM.length ji,Sv jv r.zF.length jm,Sv jq r.zD.length jk,Sv je r.zC.length jd,Sv yG r.jI.length yD],.box b3 [yI r.qE,yI r.vI,Sv jo r.xM.length ji,Sv jv r.zF.length jm,Sv jq r.zD.length jk,Sv je r.zC.length jd,Sv yG r.jI.length yD,Sv vX r.qO.length vW,Bv false] 56,.box b1 (yS s qC qB qK qI) 27] [qX false (Q8++(Xb++(Q9++(Xa++(FrOut++[]))))) [Sv jo r.xM.length ji,Sv jv r.zF.length jm,Sv jq r.zD.length jk,Sv je r.zC.length jd,Sv yG r.jI.length yD] [r.xM,r.zF,r.zD,r.zC,r.jI],sF false qY qC qB s.qw,sF false xK qK qI s.qx,sF false Q8 jo ji r.xM,sF false Xb jv jm r.zF,sF false Q9 jq jk r.zD,sF false Xa je jd r.zC,sF false FrOut yG yD r.jI,sF false XM vX vW r.qO]) ((r.qO.length - (0:Int)).toNat) ⟨_,0,uE5,qf,(by exact fun j hj=>by omega),rfl,N,H⟩ ?_
    clear H N
    rintro m' ρ w28 ⟨zl,i,rfl,i0,i2,rfl,N,H⟩
    refine zcr (sp (Bv (decide ((i:Int) < r.qO.length))) (zjn (zg (cD rfl (fun h29=>?_) (fun h29=>?_)))))
    ·skip
     refine xe (t_n (zg (qZ (zcr (sp (yI i) ?_)))))
     obtain ⟨b30,o31,rfl⟩:=H.addr 8 rfl qf
     obtain ⟨ae33Bag,ce33Bag,Fe33Bag,H⟩:=H.yZ 8 rfl i i qf qf qf
     refine oI rfl rfl (sw (zB [yI ((r.qO[i]!).qE),Sv ae33Bag (((r.qO[i]!).Qm).length) ce33Bag] isAgg142 sizeOf142 rfl (qJ (H.get 1 rfl) 0 2) (sw (xx H ti142 [yI 0,yN] fun b34 w35 H=>sp (yI i) (sw (xu H 0 [yI ((r.qO[i]!).qE),Sv ae33Bag (((r.qO[i]!).Qm).length) ce33Bag] sizeOf142 fun w36 H=>zjn (zg ?_)))))))
     refine yj rfl H fun H=>rt 0 (.agg #[yI s.xf,Sv qC s.qw.length qB,Sv qK s.qx.length qI]) (yK (cs:=(yS s qC qB qK qI)) isAgg27 sizeOf27 rfl (fun _ h=>qJ (h.cells 3 rfl) 0 3)) H ?_
     refine tF 1 rfl rfl H ?_
     refine tL 2 rfl rfl (fun _ h=>h.cell 0 rfl rfl) H ?_
     refine ro 3 rfl (oq (isCell_ok _ s ((r.qO[i]!).qE) (H.get 3 rfl).1 (H.get 4 rfl).1) H fun w39 H=>⟨H,(rtp 4 (Bv (!(inR ((r.qO[i]!).qE) 0 ((s.qw.length:Int) - 1)))) H ?_)⟩)
     refine rtp 5 (Bv (!(inR ((r.qO[i]!).qE) 0 ((s.qw.length:Int) - 1)))) H ?_
     cases h41:(!(inR ((r.qO[i]!).qE) 0 ((s.qw.length:Int) - 1)))
     ·skip
      replace h41:=xw h41
      replace h41:=QL.1 h41
      refine rg 6 (.agg #[yI s.xf,Sv qC s.qw.length qB,Sv qK s.qx.length qI]) 70 (yK (cs:=(yS s qC qB qK qI)) isAgg27 sizeOf27 rfl (fun _ h=>qJ (h.cells 3 rfl) 0 3)) H ?_
      refine gF 7 rfl rfl H ?_
      refine gL 8 rfl rfl (fun _ h=>h.cell 0 rfl rfl) H ?_
      refine gF 9 rfl rfl H ?_
      refine gL 10 rfl rfl (fun _ h=>h.cell 2 rfl rfl) H ?_
      refine zH [11] qh qm (Xg rfl (e:=70) rfl rfl (oq (lies_ok _ s ((r.qO[i]!).qE) r.qE (H.get 3 rfl).1 (H.get 4 rfl).1 qg qg) H fun w43 H=>⟨H,(rgp 12 (Bv (!(dec (Lies s.qw r.qE ((r.qO[i]!).qE))))) 70 H ?_)⟩) zI)
      refine rtp 13 (Bv (!(dec (Lies s.qw r.qE ((r.qO[i]!).qE))))) H ?_
      refine rtp 14 (Bv (!(dec (Lies s.qw r.qE ((r.qO[i]!).qE))))) H ?_
      cases h45:(!(dec (Lies s.qw r.qE ((r.qO[i]!).qE))))
      ·skip
       replace h45:=xw h45
       replace h45:=yB h45
       refine gF 15 rfl rfl H ?_
       refine gL 16 rfl rfl (fun _ h=>h.cell 3 rfl rfl) H ?_
       refine gF 17 rfl rfl H ?_
       refine gL 18 rfl rfl (fun _ h=>h.cell 0 rfl rfl) H ?_
       refine zH [19] qh qm (Xg rfl (e:=79) rfl rfl (oq (Xp _ s.xf ((r.qO[i]!).Qm) (H.get 0 rfl).1) H fun w46 H=>⟨H,(rgp 20 (Bv (!(dec (zZ s.xf ((r.qO[i]!).Qm))))) 79 H ?_)⟩) zI)
       refine rtp 21 (Bv (!(dec (zZ s.xf ((r.qO[i]!).Qm))))) H ?_
       refine rtp 22 (Bv (!(dec (zZ s.xf ((r.qO[i]!).Qm))))) H ?_
       cases h48:(!(dec (zZ s.xf ((r.qO[i]!).Qm))))
       ·skip
        replace h48:=xw h48
        replace h48:=yB h48
        refine gF 23 rfl rfl H ?_
        refine gL 24 rfl rfl (fun _ h=>h.cell 0 rfl rfl) H ?_
        refine zH [25] qh qm (Xg rfl (e:=87) rfl rfl ?_ zI)
        have sm:Small ((r.qO[i]!).Qm):=vG (by first | assumption | exact i1 0 qf)
        refine oq (XH _ ((r.qO[i]!).Qm) (H.get 0 rfl).1 (by first | assumption | exact vG ql | exact yF ql)) H fun w49 H=>⟨H,(rgp 26 (Bv ((QJ ((r.qO[i]!).Qm):Int) == 0)) 87 H ?_)⟩
        refine rtp 27 (Bv ((QJ ((r.qO[i]!).Qm):Int) == 0)) H ?_
        refine rtp 28 (Bv ((QJ ((r.qO[i]!).Qm):Int) == 0)) H ?_
        cases h51:((QJ ((r.qO[i]!).Qm):Int) == 0)
        ·skip
         replace h51:=ne_of_beq_false h51
         refine rgp 29 (yI i) 93 H ?_
         refine rgp 30 (Bv (decide ((i:Int) > 0))) 93 H ?_
         refine rgp 31 (Bv (decide ((i:Int) > 0))) 93 H ?_
         cases h52:(decide ((i:Int) > 0))
         ·skip
          replace h52:=of_decide_eq_false h52
          refine zL [32,33,34,35,36,37,38,39,40,41] 10 (H) (rgp 42 (Bv false) 93 H ?_)
          refine rtp 43 (Bv false) H ?_
          refine xg qh (t_n (xI false rfl (fun h=>absurd h qj) (fun _=>xe (b_n (t_n (zn (sw (zN i 1 rfl rfl qf (sp (yI (i+1)) (zo (xm (m' :=(r.qO.length - ((i+1):Int)).toNat) qf ⟨_,i+1,uE5,?_,?_,rfl,N,H.pick [1,2,3] [2,3,4,5,6,7,8,9,10]⟩)))))))))))
          · omega
          · exact i2.succ ⟨‹_›,‹_›,‹_›,‹_›,fun hk=>by omega⟩
         replace h52:=of_decide_eq_true h52
         refine gF 32 rfl rfl H ?_
         refine gL 33 rfl rfl (fun _ h=>h.cell 0 rfl rfl) H ?_
         refine gF 34 rfl rfl H ?_
         refine gL 35 rfl rfl (fun _ h=>h.cell 2 rfl rfl) H ?_
         refine rgp 36 (yI i) 96 H ?_
         refine rg 37 (yI (i - 1)) 96 (y_sub i 1 rfl rfl qf) H ?_
         obtain ⟨ae53Bag,ce53Bag,Fe53Bag,H⟩:=H.yZ 10 rfl (i - 1) (i - 1) qf qf qf
         have S:=H.jG [0,1,2,3] [2,3,4,5,6,7,8,9,10,11,12]
         refine gI 38 rfl rfl rfl S ?_
         refine gF 39 rfl rfl S ?_
         refine zH [40] qh qm (Xg rfl (e:=96) rfl rfl (zt (yI ((r.qO[i - 1]!).qE)) isAgg2 rfl (H.zu 1 rfl 0 rfl) (⟨H.pick [0,1,2,3] [2,3,4,5,6,7,8,9,10,11,12],?_⟩)) zI)
         have S:=H.jG [0,1,2,3] [2,3,4,5,6,7,8,9,10,11,12]
         refine rgp 41 (Bv (decide (((r.qO[i]!).qE:Int)≤((r.qO[i - 1]!).qE)))) 96 S ?_
         refine rgp 42 (Bv (decide (((r.qO[i]!).qE:Int)≤((r.qO[i - 1]!).qE)))) 93 S ?_
         refine rtp 43 (Bv (decide (((r.qO[i]!).qE:Int)≤((r.qO[i - 1]!).qE)))) S ?_
         refine xg qh (t_n (cD rfl (fun h54=>?_) (fun h54=>?_)))
         ·skip
          refine zcr (sp (Bv false) (zjr (zr5 (ret1 (Bv false) rfl rfl ⟨_,rfl,?_,H.base⟩))))
          rw [xk (fun h=>by obtain ⟨h1,h2,h3,h4,h5,h6,h7,h8,h9,h10,h11⟩:=h;first | contradiction | omega | exact h3 ⟨‹_›,‹_›⟩ | (obtain ⟨q1,q2,q3,q4,q5⟩:=h11 i qf;first | contradiction | omega | (have:=q5 qf;omega)) | (refine absurd ?_ ‹¬ zZ _ _›;rcases (show k=0∨k=1∨k=2∨k=3∨k=4 by omega) with e | e | e | e | e <;> subst e <;> assumption))]
         refine xe (b_n (t_n (zn (sw (zN i 1 rfl rfl qf (sp (yI (i+1)) (zo (xm (m' :=(r.qO.length - ((i+1):Int)).toNat) qf ⟨_,i+1,uE5,?_,?_,rfl,N,H.pick [1,2,3] [4,5,6,7,8,9,10,11,12]⟩))))))))
         · omega
         · exact i2.succ ⟨‹_›,‹_›,‹_›,‹_›,fun hk=>by omega⟩
        replace h51:=eq_of_beq h51
        refine zL [29,30,31,32,33,34,35,36,37,38,39,40,41,42] 14 (H) (rtp 43 (Bv true) H ?_)
        refine xg qh (t_n (xI true rfl (fun _=>zcr (sp (Bv false) (zjr (zr5 (ret1 (Bv false) rfl rfl ⟨_,rfl,?_,H.base⟩))))) (fun h=>absurd h qj)))
        rw [xk (fun h=>by obtain ⟨h1,h2,h3,h4,h5,h6,h7,h8,h9,h10,h11⟩:=h;first | contradiction | omega | exact h3 ⟨‹_›,‹_›⟩ | (obtain ⟨q1,q2,q3,q4,q5⟩:=h11 i qf;first | contradiction | omega | (have:=q5 qf;omega)) | (refine absurd ?_ ‹¬ zZ _ _›;rcases (show k=0∨k=1∨k=2∨k=3∨k=4 by omega) with e | e | e | e | e <;> subst e <;> assumption))]
       replace h48:=xC h48
       replace h48:=zO h48
       refine zL [23,24,25,26] 4 (H) (rtp 27 (Bv true) H ?_)
       refine rtp 28 (Bv true) H ?_
       refine zL [29,30,31,32,33,34,35,36,37,38,39,40,41,42] 14 (H) (rtp 43 (Bv true) H ?_)
       refine xg qh (t_n (xI true rfl (fun _=>zcr (sp (Bv false) (zjr (zr5 (ret1 (Bv false) rfl rfl ⟨_,rfl,?_,H.base⟩))))) (fun h=>absurd h qj)))
       rw [xk (fun h=>by obtain ⟨h1,h2,h3,h4,h5,h6,h7,h8,h9,h10,h11⟩:=h;first | contradiction | omega | exact h3 ⟨‹_›,‹_›⟩ | (obtain ⟨q1,q2,q3,q4,q5⟩:=h11 i qf;first | contradiction | omega | (have:=q5 qf;omega)) | (refine absurd ?_ ‹¬ zZ _ _›;rcases (show k=0∨k=1∨k=2∨k=3∨k=4 by omega) with e | e | e | e | e <;> subst e <;> assumption))]
      replace h45:=xC h45
      replace h45:=zO h45
      refine zL [15,16,17,18,19,20] 6 (H) (rtp 21 (Bv true) H ?_)
      refine rtp 22 (Bv true) H ?_
      refine zL [23,24,25,26] 4 (H) (rtp 27 (Bv true) H ?_)
      refine rtp 28 (Bv true) H ?_
      refine zL [29,30,31,32,33,34,35,36,37,38,39,40,41,42] 14 (H) (rtp 43 (Bv true) H ?_)
      refine xg qh (t_n (xI true rfl (fun _=>zcr (sp (Bv false) (zjr (zr5 (ret1 (Bv false) rfl rfl ⟨_,rfl,?_,H.base⟩))))) (fun h=>absurd h qj)))
      rw [xk (fun h=>by obtain ⟨h1,h2,h3,h4,h5,h6,h7,h8,h9,h10,h11⟩:=h;first | contradiction | omega | exact h3 ⟨‹_›,‹_›⟩ | (obtain ⟨q1,q2,q3,q4,q5⟩:=h11 i qf;first | contradiction | omega | (have:=q5 qf;omega)) | (refine absurd ?_ ‹¬ zZ _ _›;rcases (show k=0∨k=1∨k=2∨k=3∨k=4 by omega) with e | e | e | e | e <;> subst e <;> assumption))]
     replace h41:=xC h41
     replace h41:=Xn h41
     refine zL [6,7,8,9,10,11,12] 7 (H) (rtp 13 (Bv true) H ?_)
     refine rtp 14 (Bv true) H ?_
     refine zL [15,16,17,18,19,20] 6 (H) (rtp 21 (Bv true) H ?_)
     refine rtp 22 (Bv true) H ?_
     refine zL [23,24,25,26] 4 (H) (rtp 27 (Bv true) H ?_)
     refine rtp 28 (Bv true) H ?_
     refine zL [29,30,31,32,33,34,35,36,37,38,39,40,41,42] 14 (H) (rtp 43 (Bv true) H ?_)
     refine xg qh (t_n (xI true rfl (fun _=>zcr (sp (Bv false) (zjr (zr5 (ret1 (Bv false) rfl rfl ⟨_,rfl,?_,H.base⟩))))) (fun h=>absurd h qj)))
     rw [xk (fun h=>by obtain ⟨h1,h2,h3,h4,h5,h6,h7,h8,h9,h10,h11⟩:=h;first | contradiction | omega | exact h3 ⟨‹_›,‹_›⟩ | (obtain ⟨q1,q2,q3,q4,q5⟩:=h11 i qf;first | contradiction | omega | (have:=q5 qf;omega)) | (refine absurd ?_ ‹¬ zZ _ _›;rcases (show k=0∨k=1∨k=2∨k=3∨k=4 by omega) with e | e | e | e | e <;> subst e <;> assumption))]
    refine zx4 (zcr (oF rfl (oL rfl (H.cell 1 rfl rfl) ?_)))
    have sm:Small r.xM:=vG (by first | assumption | exact i1 0 qf)
    refine sw (oq (XH _ r.xM (H.get 3 rfl).1 (by first | assumption | exact vG ql | exact yF ql)) H fun w55 H=>sps [Bv (decide ((QJ r.xM:Int) > 0)),Bv (decide ((QJ r.xM:Int) > 0))] (zjr (ret1 (Bv (decide ((QJ r.xM:Int) > 0))) rfl rfl ⟨_,rfl,(congrArg Value.bool (dec_eq ?_)),H.base⟩)))
    rw [decide_eq_true_iff]
    exact ⟨fun h=>⟨by omega,by omega,by simp_all,by omega,n1,n2,n3,n4,n5,by omega,(show i=r.qO.length by omega)▸i2⟩,fun h=>by have:=h.2.2.2.2.2.2.2.2.2.1;have:=sum_nonneg n1.1;omega⟩
   rw [h12] at H
   refine qL 23 rfl rfl (oF rfl (qL 23 rfl rfl (oL rfl (H.cell 0 rfl rfl) (qL 23 rfl rfl (sp (Bv ((r.qE:Int) == 0)) (qL 20 rfl rfl (sps [Bv ((r.qE:Int) == 0),Bv ((r.qE:Int) == 0),Bv ((r.qE:Int) == 0)] ?_)))))))
   cases h57:((r.qE:Int) == 0)
   ·skip
    replace h57:=ne_of_beq_false h57
    refine qL 29 rfl rfl (oF rfl (qL 29 rfl rfl (oL rfl (H.cell 0 rfl rfl) (qL 29 rfl rfl (oN rfl (qL 29 rfl rfl (sps [Bv (decide ((r.qO.length:Int) > 3)),Bv (decide ((r.qO.length:Int) > 3))] (zjn (cD rfl (fun h58=>?_) (fun h58=>?_))))))))))
    ·skip
     refine zcr (sp (Bv false) (zjr (t_r (ret1 (Bv false) rfl rfl ⟨_,rfl,?_,H.base⟩))))
     rw [xk (fun h=>by obtain ⟨h1,h2,h3,h4,h5,h6,h7,h8,h9,h10,h11⟩:=h;first | contradiction | omega | exact h3 ⟨‹_›,‹_›⟩ | (obtain ⟨q1,q2,q3,q4,q5⟩:=h11 i qf;first | contradiction | omega | (have:=q5 qf;omega)) | (refine absurd ?_ ‹¬ zZ _ _›;rcases (show k=0∨k=1∨k=2∨k=3∨k=4 by omega) with e | e | e | e | e <;> subst e <;> assumption))]
    refine xe (t_n (zcc (oF rfl (oL rfl (H.cell 0 rfl rfl) (oF rfl (oL rfl (H.cell 0 rfl rfl) (oF rfl (oL rfl (H.cell 0 rfl rfl) (oF rfl (oL rfl (H.cell 0 rfl rfl) (oF rfl (oL rfl (H.cell 0 rfl rfl) (sw (o_buildF H underlying29 ti24 [Sv jo r.xM.length ji,Sv jv r.zF.length jm,Sv jq r.zD.length jk,Sv je r.zC.length jd,Sv yG r.jI.length yD] rfl (by simp [Value.cells]) rfl qj qj fun b59 w60 H=>oN rfl (sp (yI 0) (zjn (qZ ?_)))))))))))))))))
    replace H:=H.boxRow 0 rfl 1 5 rfl qj
    replace H:=H.jD (α:=yLI)
    replace H:=H.XW false 7 rfl 0 rfl qm
    replace H:=H.XW false 7 rfl 0 rfl qm
    replace H:=H.XW false 7 rfl 0 rfl qm
    replace H:=H.XW false 7 rfl 0 rfl qm
    replace H:=H.XW false 7 rfl 0 rfl qm
    refine zU (fun m' ρ w61=>∃ (zl:Env) (k:Nat),ρ=upd (upd (upd (upd (upd zl 2 (pp b1 0)) 3 (pp b3 0)) 45 (Sv (aa b59 0) 5 5)) 46 (yI 5)) 47 (yI k)∧((k:Int)≤5)∧(∀ j,j < k→zZ s.xf ([r.xM,r.zF,r.zD,r.zC,r.jI][j]!))∧m' =(5 - (k:Int)).toNat∧Fresh w.heap.size []∧St w w61 [rr (aa b59 0) 5 5 24 1 [Sv jo r.xM.length ji,Sv jv r.zF.length jm,Sv jq r.zD.length jk,Sv je r.zC.length jd,Sv yG r.jI.length yD],.box b3 [yI r.qE,yI r.vI,Sv jo r.xM.length ji,Sv jv r.zF.length jm,Sv jq r.zD.length jk,Sv je r.zC.length jd,Sv yG r.jI.length yD,Sv vX r.qO.length vW,Bv true] 56,.box b1 (yS s qC qB qK qI) 27] [qX false (Q8++(Xb++(Q9++(Xa++(FrOut++[]))))) [Sv jo r.xM.length ji,Sv jv r.zF.length jm,Sv jq r.zD.length jk,Sv je r.zC.length jd,Sv yG r.jI.length yD] [r.xM,r.zF,r.zD,r.zC,r.jI],sF false qY qC qB s.qw,sF false xK qK qI s.qx,sF false Q8 jo ji r.xM,sF false Xb jv jm r.zF,sF false Q9 jq jk r.zD,sF false Xa je jd r.zC,sF false FrOut yG yD r.jI,sF false XM vX vW r.qO]) ((5 - (0:Int)).toNat) ⟨_,0,uE5,qf,(by intro j hj;omega),rfl,N,H.pick [0,1,2] [0,6,7,8,9,10,11,12,13]⟩ ?_
    clear H N
    rintro m' ρ w62 ⟨zl,k,rfl,i0,i1,rfl,N,H⟩
    refine zcr (sp (Bv (decide ((k:Int) < 5))) (zjn (zg (cD rfl (fun h63=>?_) (fun h63=>?_)))))
    ·skip
     refine xe (t_n (zg (qZ (zcr (oI rfl rfl ?_)))))
     obtain ⟨a64,c65,G66,s67,h68,H⟩:=H.jV 0 rfl 0 rfl (iv:=k) k qf qf
     refine oL rfl (h68) (sp (Sv a64 (([r.xM,r.zF,r.zD,r.zC,r.jI][k]!).length) c65) (zjc (oF rfl (oL rfl (H.cell 2 rfl rfl) (sp (Sv a64 (([r.xM,r.zF,r.zD,r.zC,r.jI][k]!).length) c65) (sw (oq (Xp _ s.xf ([r.xM,r.zF,r.zD,r.zC,r.jI][k]!) (H.get 0 rfl).1) H fun w69 H=>sp (Bv (!(dec (zZ s.xf ([r.xM,r.zF,r.zD,r.zC,r.jI][k]!))))) (zjn (cQ rfl (fun h71=>?_) (fun h71=>?_))))))))))
     ·skip
      refine zcr (sp (Bv false) (zjr (zr5 (ret1 (Bv false) rfl rfl ⟨_,rfl,?_,H.base⟩))))
      rw [xk (fun h=>by obtain ⟨h1,h2,h3,h4,h5,h6,h7,h8,h9,h10,h11⟩:=h;first | contradiction | omega | exact h3 ⟨‹_›,‹_›⟩ | (obtain ⟨q1,q2,q3,q4,q5⟩:=h11 i qf;first | contradiction | omega | (have:=q5 qf;omega)) | (refine absurd ?_ ‹¬ zZ _ _›;rcases (show k=0∨k=1∨k=2∨k=3∨k=4 by omega) with e | e | e | e | e <;> subst e <;> assumption))]
     refine xe (b_n (t_n (zn (sw (zN k 1 rfl rfl qf (sp (yI (k+1)) (zo (xm (m' :=(5 - ((k+1):Int)).toNat) qf ⟨_,k+1,uE5,?_,?_,rfl,N,H.pick [0,1,2] [1,2,3,4,5,6,7,8,9]⟩))))))))
     · omega
     · intro j hj;by_cases e:j=k;(subst e;assumption);exact i1 j qf
    refine zx4 (zcc (oF rfl (oL rfl (H.cell 1 rfl rfl) (oN rfl (sp (yI 0) (zjn (qZ ?_)))))))
    have n1:zZ s.xf r.xM:=i1 0 qf
    have n2:zZ s.xf r.zF:=i1 1 qf
    have n3:zZ s.xf r.zD:=i1 2 qf
    have n4:zZ s.xf r.zC:=i1 3 qf
    have n5:zZ s.xf r.jI:=i1 4 qf
    refine zU (fun m' ρ w72=>∃ (zl:Env) (i:Nat),ρ=upd (upd (upd (upd (upd zl 2 (pp b1 0)) 3 (pp b3 0)) 58 (Sv vX r.qO.length vW)) 59 (yI r.qO.length)) 60 (yI i)∧((i:Int)≤r.qO.length)∧(IntosTo s r i)∧m' =(r.qO.length - (i:Int)).toNat∧Fresh w.heap.size []∧St w w72 [rr (aa b59 0) 5 5 24 1 [Sv jo r.xM.length ji,Sv jv r.zF.length jm,Sv jq r.zD.length jk,Sv je r.zC.length jd,Sv yG r.jI.length yD],.box b3 [yI r.qE,yI r.vI,Sv jo r.xM.length ji,Sv jv r.zF.length jm,Sv jq r.zD.length jk,Sv je r.zC.length jd,Sv yG r.jI.length yD,Sv vX r.qO.length vW,Bv true] 56,.box b1 (yS s qC qB qK qI) 27] [qX false (Q8++(Xb++(Q9++(Xa++(FrOut++[]))))) [Sv jo r.xM.length ji,Sv jv r.zF.length jm,Sv jq r.zD.length jk,Sv je r.zC.length jd,Sv yG r.jI.length yD] [r.xM,r.zF,r.zD,r.zC,r.jI],sF false qY qC qB s.qw,sF false xK qK qI s.qx,sF false Q8 jo ji r.xM,sF false Xb jv jm r.zF,sF false Q9 jq jk r.zD,sF false Xa je jd r.zC,sF false FrOut yG yD r.jI,sF false XM vX vW r.qO]) ((r.qO.length - (0:Int)).toNat) ⟨_,0,uE5,qf,(by exact fun j hj=>by omega),rfl,N,H⟩ ?_
    clear H N
    rintro m' ρ w73 ⟨zl,i,rfl,i0,i2,rfl,N,H⟩
    refine zcr (sp (Bv (decide ((i:Int) < r.qO.length))) (zjn (zg (cD rfl (fun h74=>?_) (fun h74=>?_)))))
    ·skip
     refine xe (t_n (zg (qZ (zcr (sp (yI i) ?_)))))
     obtain ⟨b75,o76,rfl⟩:=H.addr 8 rfl qf
     obtain ⟨ae78Bag,ce78Bag,Fe78Bag,H⟩:=H.yZ 8 rfl i i qf qf qf
     refine oI rfl rfl (sw (zB [yI ((r.qO[i]!).qE),Sv ae78Bag (((r.qO[i]!).Qm).length) ce78Bag] isAgg142 sizeOf142 rfl (qJ (H.get 1 rfl) 0 2) (sw (xx H ti142 [yI 0,yN] fun b79 w80 H=>sp (yI i) (sw (xu H 0 [yI ((r.qO[i]!).qE),Sv ae78Bag (((r.qO[i]!).Qm).length) ce78Bag] sizeOf142 fun w81 H=>zjn (zg ?_)))))))
     refine yj rfl H fun H=>rt 0 (.agg #[yI s.xf,Sv qC s.qw.length qB,Sv qK s.qx.length qI]) (yK (cs:=(yS s qC qB qK qI)) isAgg27 sizeOf27 rfl (fun _ h=>qJ (h.cells 3 rfl) 0 3)) H ?_
     refine tF 1 rfl rfl H ?_
     refine tL 2 rfl rfl (fun _ h=>h.cell 0 rfl rfl) H ?_
     refine ro 3 rfl (oq (isCell_ok _ s ((r.qO[i]!).qE) (H.get 3 rfl).1 (H.get 4 rfl).1) H fun w84 H=>⟨H,(rtp 4 (Bv (!(inR ((r.qO[i]!).qE) 0 ((s.qw.length:Int) - 1)))) H ?_)⟩)
     refine rtp 5 (Bv (!(inR ((r.qO[i]!).qE) 0 ((s.qw.length:Int) - 1)))) H ?_
     cases h86:(!(inR ((r.qO[i]!).qE) 0 ((s.qw.length:Int) - 1)))
     ·skip
      replace h86:=xw h86
      replace h86:=QL.1 h86
      refine rg 6 (.agg #[yI s.xf,Sv qC s.qw.length qB,Sv qK s.qx.length qI]) 70 (yK (cs:=(yS s qC qB qK qI)) isAgg27 sizeOf27 rfl (fun _ h=>qJ (h.cells 3 rfl) 0 3)) H ?_
      refine gF 7 rfl rfl H ?_
      refine gL 8 rfl rfl (fun _ h=>h.cell 0 rfl rfl) H ?_
      refine gF 9 rfl rfl H ?_
      refine gL 10 rfl rfl (fun _ h=>h.cell 2 rfl rfl) H ?_
      refine zH [11] qh qm (Xg rfl (e:=70) rfl rfl (oq (lies_ok _ s ((r.qO[i]!).qE) r.qE (H.get 3 rfl).1 (H.get 4 rfl).1 qg qg) H fun w88 H=>⟨H,(rgp 12 (Bv (!(dec (Lies s.qw r.qE ((r.qO[i]!).qE))))) 70 H ?_)⟩) zI)
      refine rtp 13 (Bv (!(dec (Lies s.qw r.qE ((r.qO[i]!).qE))))) H ?_
      refine rtp 14 (Bv (!(dec (Lies s.qw r.qE ((r.qO[i]!).qE))))) H ?_
      cases h90:(!(dec (Lies s.qw r.qE ((r.qO[i]!).qE))))
      ·skip
       replace h90:=xw h90
       replace h90:=yB h90
       refine gF 15 rfl rfl H ?_
       refine gL 16 rfl rfl (fun _ h=>h.cell 3 rfl rfl) H ?_
       refine gF 17 rfl rfl H ?_
       refine gL 18 rfl rfl (fun _ h=>h.cell 0 rfl rfl) H ?_
       refine zH [19] qh qm (Xg rfl (e:=79) rfl rfl (oq (Xp _ s.xf ((r.qO[i]!).Qm) (H.get 0 rfl).1) H fun w91 H=>⟨H,(rgp 20 (Bv (!(dec (zZ s.xf ((r.qO[i]!).Qm))))) 79 H ?_)⟩) zI)
       refine rtp 21 (Bv (!(dec (zZ s.xf ((r.qO[i]!).Qm))))) H ?_
       refine rtp 22 (Bv (!(dec (zZ s.xf ((r.qO[i]!).Qm))))) H ?_
       cases h93:(!(dec (zZ s.xf ((r.qO[i]!).Qm))))
       ·skip
        replace h93:=xw h93
        replace h93:=yB h93
        refine gF 23 rfl rfl H ?_
        refine gL 24 rfl rfl (fun _ h=>h.cell 0 rfl rfl) H ?_
        refine zH [25] qh qm (Xg rfl (e:=87) rfl rfl ?_ zI)
        have sm:Small ((r.qO[i]!).Qm):=vG (by first | assumption | exact i1 0 qf)
        refine oq (XH _ ((r.qO[i]!).Qm) (H.get 0 rfl).1 (by first | assumption | exact vG ql | exact yF ql)) H fun w94 H=>⟨H,(rgp 26 (Bv ((QJ ((r.qO[i]!).Qm):Int) == 0)) 87 H ?_)⟩
        refine rtp 27 (Bv ((QJ ((r.qO[i]!).Qm):Int) == 0)) H ?_
        refine rtp 28 (Bv ((QJ ((r.qO[i]!).Qm):Int) == 0)) H ?_
        cases h96:((QJ ((r.qO[i]!).Qm):Int) == 0)
        ·skip
         replace h96:=ne_of_beq_false h96
         refine rgp 29 (yI i) 93 H ?_
         refine rgp 30 (Bv (decide ((i:Int) > 0))) 93 H ?_
         refine rgp 31 (Bv (decide ((i:Int) > 0))) 93 H ?_
         cases h97:(decide ((i:Int) > 0))
         ·skip
          replace h97:=of_decide_eq_false h97
          refine zL [32,33,34,35,36,37,38,39,40,41] 10 (H) (rgp 42 (Bv false) 93 H ?_)
          refine rtp 43 (Bv false) H ?_
          refine xg qh (t_n (xI false rfl (fun h=>absurd h qj) (fun _=>xe (b_n (t_n (zn (sw (zN i 1 rfl rfl qf (sp (yI (i+1)) (zo (xm (m' :=(r.qO.length - ((i+1):Int)).toNat) qf ⟨_,i+1,uE5,?_,?_,rfl,N,H.pick [1,2,3] [2,3,4,5,6,7,8,9,10]⟩)))))))))))
          · omega
          · exact i2.succ ⟨‹_›,‹_›,‹_›,‹_›,fun hk=>by omega⟩
         replace h97:=of_decide_eq_true h97
         refine gF 32 rfl rfl H ?_
         refine gL 33 rfl rfl (fun _ h=>h.cell 0 rfl rfl) H ?_
         refine gF 34 rfl rfl H ?_
         refine gL 35 rfl rfl (fun _ h=>h.cell 2 rfl rfl) H ?_
         refine rgp 36 (yI i) 96 H ?_
         refine rg 37 (yI (i - 1)) 96 (y_sub i 1 rfl rfl qf) H ?_
         obtain ⟨ae98Bag,ce98Bag,Fe98Bag,H⟩:=H.yZ 10 rfl (i - 1) (i - 1) qf qf qf
         have S:=H.jG [0,1,2,3] [2,3,4,5,6,7,8,9,10,11,12]
         refine gI 38 rfl rfl rfl S ?_
         refine gF 39 rfl rfl S ?_
         refine zH [40] qh qm (Xg rfl (e:=96) rfl rfl (zt (yI ((r.qO[i - 1]!).qE)) isAgg2 rfl (H.zu 1 rfl 0 rfl) (⟨H.pick [0,1,2,3] [2,3,4,5,6,7,8,9,10,11,12],?_⟩)) zI)
         have S:=H.jG [0,1,2,3] [2,3,4,5,6,7,8,9,10,11,12]
         refine rgp 41 (Bv (decide (((r.qO[i]!).qE:Int)≤((r.qO[i - 1]!).qE)))) 96 S ?_
         refine rgp 42 (Bv (decide (((r.qO[i]!).qE:Int)≤((r.qO[i - 1]!).qE)))) 93 S ?_
         refine rtp 43 (Bv (decide (((r.qO[i]!).qE:Int)≤((r.qO[i - 1]!).qE)))) S ?_
         refine xg qh (t_n (cD rfl (fun h99=>?_) (fun h99=>?_)))
         ·skip
          refine zcr (sp (Bv false) (zjr (zr5 (ret1 (Bv false) rfl rfl ⟨_,rfl,?_,H.base⟩))))
          rw [xk (fun h=>by obtain ⟨h1,h2,h3,h4,h5,h6,h7,h8,h9,h10,h11⟩:=h;first | contradiction | omega | exact h3 ⟨‹_›,‹_›⟩ | (obtain ⟨q1,q2,q3,q4,q5⟩:=h11 i qf;first | contradiction | omega | (have:=q5 qf;omega)) | (refine absurd ?_ ‹¬ zZ _ _›;rcases (show k=0∨k=1∨k=2∨k=3∨k=4 by omega) with e | e | e | e | e <;> subst e <;> assumption))]
         refine xe (b_n (t_n (zn (sw (zN i 1 rfl rfl qf (sp (yI (i+1)) (zo (xm (m' :=(r.qO.length - ((i+1):Int)).toNat) qf ⟨_,i+1,uE5,?_,?_,rfl,N,H.pick [1,2,3] [4,5,6,7,8,9,10,11,12]⟩))))))))
         · omega
         · exact i2.succ ⟨‹_›,‹_›,‹_›,‹_›,fun hk=>by omega⟩
        replace h96:=eq_of_beq h96
        refine zL [29,30,31,32,33,34,35,36,37,38,39,40,41,42] 14 (H) (rtp 43 (Bv true) H ?_)
        refine xg qh (t_n (xI true rfl (fun _=>zcr (sp (Bv false) (zjr (zr5 (ret1 (Bv false) rfl rfl ⟨_,rfl,?_,H.base⟩))))) (fun h=>absurd h qj)))
        rw [xk (fun h=>by obtain ⟨h1,h2,h3,h4,h5,h6,h7,h8,h9,h10,h11⟩:=h;first | contradiction | omega | exact h3 ⟨‹_›,‹_›⟩ | (obtain ⟨q1,q2,q3,q4,q5⟩:=h11 i qf;first | contradiction | omega | (have:=q5 qf;omega)) | (refine absurd ?_ ‹¬ zZ _ _›;rcases (show k=0∨k=1∨k=2∨k=3∨k=4 by omega) with e | e | e | e | e <;> subst e <;> assumption))]
       replace h93:=xC h93
       replace h93:=zO h93
       refine zL [23,24,25,26] 4 (H) (rtp 27 (Bv true) H ?_)
       refine rtp 28 (Bv true) H ?_
       refine zL [29,30,31,32,33,34,35,36,37,38,39,40,41,42] 14 (H) (rtp 43 (Bv true) H ?_)
       refine xg qh (t_n (xI true rfl (fun _=>zcr (sp (Bv false) (zjr (zr5 (ret1 (Bv false) rfl rfl ⟨_,rfl,?_,H.base⟩))))) (fun h=>absurd h qj)))
       rw [xk (fun h=>by obtain ⟨h1,h2,h3,h4,h5,h6,h7,h8,h9,h10,h11⟩:=h;first | contradiction | omega | exact h3 ⟨‹_›,‹_›⟩ | (obtain ⟨q1,q2,q3,q4,q5⟩:=h11 i qf;first | contradiction | omega | (have:=q5 qf;omega)) | (refine absurd ?_ ‹¬ zZ _ _›;rcases (show k=0∨k=1∨k=2∨k=3∨k=4 by omega) with e | e | e | e | e <;> subst e <;> assumption))]
      replace h90:=xC h90
      replace h90:=zO h90
      refine zL [15,16,17,18,19,20] 6 (H) (rtp 21 (Bv true) H ?_)
      refine rtp 22 (Bv true) H ?_
      refine zL [23,24,25,26] 4 (H) (rtp 27 (Bv true) H ?_)
      refine rtp 28 (Bv true) H ?_
      refine zL [29,30,31,32,33,34,35,36,37,38,39,40,41,42] 14 (H) (rtp 43 (Bv true) H ?_)
      refine xg qh (t_n (xI true rfl (fun _=>zcr (sp (Bv false) (zjr (zr5 (ret1 (Bv false) rfl rfl ⟨_,rfl,?_,H.base⟩))))) (fun h=>absurd h qj)))
      rw [xk (fun h=>by obtain ⟨h1,h2,h3,h4,h5,h6,h7,h8,h9,h10,h11⟩:=h;first | contradiction | omega | exact h3 ⟨‹_›,‹_›⟩ | (obtain ⟨q1,q2,q3,q4,q5⟩:=h11 i qf;first | contradiction | omega | (have:=q5 qf;omega)) | (refine absurd ?_ ‹¬ zZ _ _›;rcases (show k=0∨k=1∨k=2∨k=3∨k=4 by omega) with e | e | e | e | e <;> subst e <;> assumption))]
     replace h86:=xC h86
     replace h86:=Xn h86
     refine zL [6,7,8,9,10,11,12] 7 (H) (rtp 13 (Bv true) H ?_)
     refine rtp 14 (Bv true) H ?_
     refine zL [15,16,17,18,19,20] 6 (H) (rtp 21 (Bv true) H ?_)
     refine rtp 22 (Bv true) H ?_
     refine zL [23,24,25,26] 4 (H) (rtp 27 (Bv true) H ?_)
     refine rtp 28 (Bv true) H ?_
     refine zL [29,30,31,32,33,34,35,36,37,38,39,40,41,42] 14 (H) (rtp 43 (Bv true) H ?_)
     refine xg qh (t_n (xI true rfl (fun _=>zcr (sp (Bv false) (zjr (zr5 (ret1 (Bv false) rfl rfl ⟨_,rfl,?_,H.base⟩))))) (fun h=>absurd h qj)))
     rw [xk (fun h=>by obtain ⟨h1,h2,h3,h4,h5,h6,h7,h8,h9,h10,h11⟩:=h;first | contradiction | omega | exact h3 ⟨‹_›,‹_›⟩ | (obtain ⟨q1,q2,q3,q4,q5⟩:=h11 i qf;first | contradiction | omega | (have:=q5 qf;omega)) | (refine absurd ?_ ‹¬ zZ _ _›;rcases (show k=0∨k=1∨k=2∨k=3∨k=4 by omega) with e | e | e | e | e <;> subst e <;> assumption))]
    refine zx4 (zcr (oF rfl (oL rfl (H.cell 1 rfl rfl) ?_)))
    have sm:Small r.xM:=vG (by first | assumption | exact i1 0 qf)
    refine sw (oq (XH _ r.xM (H.get 3 rfl).1 (by first | assumption | exact vG ql | exact yF ql)) H fun w100 H=>sps [Bv (decide ((QJ r.xM:Int) > 0)),Bv (decide ((QJ r.xM:Int) > 0))] (zjr (ret1 (Bv (decide ((QJ r.xM:Int) > 0))) rfl rfl ⟨_,rfl,(congrArg Value.bool (dec_eq ?_)),H.base⟩)))
    rw [decide_eq_true_iff]
    exact ⟨fun h=>⟨by omega,by omega,by simp_all,by omega,n1,n2,n3,n4,n5,by omega,(show i=r.qO.length by omega)▸i2⟩,fun h=>by have:=h.2.2.2.2.2.2.2.2.2.1;have:=sum_nonneg n1.1;omega⟩
   replace h57:=eq_of_beq h57
   refine xU [30,31,32,33] (sp (Bv true) (zjn (xI true rfl (fun _=>zcr (sp (Bv false) (zjr (t_r (ret1 (Bv false) rfl rfl ⟨_,rfl,?_,H.base⟩))))) (fun h=>absurd h qj))))
   rw [xk (fun h=>by obtain ⟨h1,h2,h3,h4,h5,h6,h7,h8,h9,h10,h11⟩:=h;first | contradiction | omega | exact h3 ⟨‹_›,‹_›⟩ | (obtain ⟨q1,q2,q3,q4,q5⟩:=h11 i qf;first | contradiction | omega | (have:=q5 qf;omega)) | (refine absurd ?_ ‹¬ zZ _ _›;rcases (show k=0∨k=1∨k=2∨k=3∨k=4 by omega) with e | e | e | e | e <;> subst e <;> assumption))]
  replace h11:=xC h11
  replace h11:=Xn h11
  refine xU [21,22,23,24,25,26,27] (sps [Bv true,Bv true] (xU [30,31,32,33] (sp (Bv true) (zjn (xI true rfl (fun _=>zcr (sp (Bv false) (zjr (t_r (ret1 (Bv false) rfl rfl ⟨_,rfl,?_,H.base⟩))))) (fun h=>absurd h qj))))))
  rw [xk (fun h=>by obtain ⟨h1,h2,h3,h4,h5,h6,h7,h8,h9,h10,h11⟩:=h;first | contradiction | omega | exact h3 ⟨‹_›,‹_›⟩ | (obtain ⟨q1,q2,q3,q4,q5⟩:=h11 i qf;first | contradiction | omega | (have:=q5 qf;omega)) | (refine absurd ?_ ‹¬ zZ _ _›;rcases (show k=0∨k=1∨k=2∨k=3∨k=4 by omega) with e | e | e | e | e <;> subst e <;> assumption))]
 replace h8:=xC h8
 replace h8:=Xn h8
 refine xU [15,16,17,18] (sps [Bv true,Bv true] (xU [21,22,23,24,25,26,27] (sps [Bv true,Bv true] (xU [30,31,32,33] (sp (Bv true) (zjn (xI true rfl (fun _=>zcr (sp (Bv false) (zjr (t_r (ret1 (Bv false) rfl rfl ⟨_,rfl,?_,H.base⟩))))) (fun h=>absurd h qj))))))))
 rw [xk (fun h=>by obtain ⟨h1,h2,h3,h4,h5,h6,h7,h8,h9,h10,h11⟩:=h;first | contradiction | omega | exact h3 ⟨‹_›,‹_›⟩ | (obtain ⟨q1,q2,q3,q4,q5⟩:=h11 i qf;first | contradiction | omega | (have:=q5 qf;omega)) | (refine absurd ?_ ‹¬ zZ _ _›;rcases (show k=0∨k=1∨k=2∨k=3∨k=4 by omega) with e | e | e | e | e <;> subst e <;> assumption))]
theorem validSystem_ok (w:World) (s:qy) {qC:yOA} {qY:yLN} {qK:yOA} {xK:yLN} (qW:qU.rep w qY [Sv qC s.qw.length qB] s.qw) (xF:qU.rep w xK [Sv qK s.qx.length qI] s.qx):Calls Tryz.prog 61 #[.agg #[yI s.xf,Sv qC s.qw.length qB,Sv qK s.qx.length qI]] w (Ret (fun v w' =>v=Bv (dec (vw s))) w):=by
 refine en func61 ntmps61 ?_
 have H:=((St.start w).arg xF).arg qW
 have vH:=qQ qW
 have jM:=qQ xF
 clear qW xF
 have N:=Fresh.nil w.heap.size
 have p1:=fun h:jO s=>h.2.1
 refine zcr (sw (vF H (yS s qC qB qK qI) fun b1 w2 H=>sp (Bv false) (zjcc (sw (zB (yS s qC qB qK qI) isAgg27 sizeOf27 rfl (qJ (H.cells 0 rfl) 0 3) (sw (oq (isShell_ok _ s (H.get 0 rfl).1 (H.get 1 rfl).1) H fun w4 H=>sps [Bv (!(dec (jO s))),Bv (!(dec (jO s)))] ?_)))))))
 cases h6:(!(dec (jO s)))
 ·skip
  replace h6:=xw h6
  replace h6:=yB h6
  refine qL 9 rfl rfl (oF rfl (qL 9 rfl rfl (oL rfl (H.cell 0 rfl rfl) (qL 9 rfl rfl (oN rfl (qL 9 rfl rfl (sps [Bv (decide ((s.qx.length:Int) > 16)),Bv (decide ((s.qx.length:Int) > 16))] (zjn (cD rfl (fun h7=>?_) (fun h7=>?_))))))))))
  ·skip
   refine zcr (sp (Bv false) (zjr (t_r (ret1 (Bv false) rfl rfl ⟨_,rfl,?_,H.base⟩))))
   rw [xk (fun h=>by obtain ⟨h1,h2,h3⟩:=h;first | contradiction | omega | (obtain ⟨r1,r2⟩:=h3 k qf;first | contradiction | (have:=X4 (s:=s) (k:=k+1) q1 q2;omega)))]
  refine xe (t_n (zcr (sw (xP [yI 0,yI 0,yI 0,yI 0,yI 0,yI 0] [] (sw (xx H ti148 [yI 0,yI 0,yI 0,yI 0,yI 0,yI 0] fun b8 w9 H=>sw (xu H 0 [yI 0,yI 0,yI 0,yI 0,yI 0,yI 0] sizeOf148 fun w10 H=>zjcc (oF rfl (oL rfl (H.cell 1 rfl rfl) (oN rfl (sp (yI 0) (zjn (qZ ?_)))))))))))))
  have p2:=p1 ‹_›
  refine zU (fun m' ρ w11=>∃ (zl:Env) (k:Nat) (many:yLI),ρ=upd (upd (upd (upd (upd zl 1 (pp b1 0)) 3 (pp b8 0)) 17 (Sv qK s.qx.length qI)) 18 (yI s.qx.length)) 19 (yI k)∧many=counts6 s k∧((k:Int)≤s.qx.length)∧(RulesTo s k)∧m' =(s.qx.length - (k:Int)).toNat∧Fresh w.heap.size []∧St w w11 [.box b8 (many.map (Value.int .i64)) 148,.box b1 (yS s qC qB qK qI) 27] [sF false qY qC qB s.qw,sF false xK qK qI s.qx]) ((s.qx.length - (0:Int)).toNat) ⟨_,0,[0,0,0,0,0,0],uE5,(by exact counts6_zero s),qf,(by exact fun j hj=>by omega),rfl,N,H⟩ ?_
  clear H N
  rintro m' ρ w12 ⟨zl,k,many,rfl,rfl,i0,i1,rfl,N,H⟩
  refine zcr (sp (Bv (decide ((k:Int) < s.qx.length))) (zjn (zg (cD rfl (fun h13=>?_) (fun h13=>?_)))))
  ·skip
   refine xe (t_n (zg (qZ (zcr ?_))))
   obtain ⟨b14,o15,rfl⟩:=H.addr 1 rfl qf
   obtain ⟨ae17Need,ce17Need,Fe17Need,ae17Have,ce17Have,Fe17Have,ae17Lack,ce17Lack,Fe17Lack,ae17Here,ce17Here,Fe17Here,ae17Out,ce17Out,Fe17Out,ae17Into,ce17Into,Fe17Into,H⟩:=H.yY 1 rfl k k qf qf qf
   refine oI rfl rfl (sw (zB [yI ((s.qx[k]!).qE),yI ((s.qx[k]!).vI),Sv ae17Need (((s.qx[k]!).xM).length) ce17Need,Sv ae17Have (((s.qx[k]!).zF).length) ce17Have,Sv ae17Lack (((s.qx[k]!).zD).length) ce17Lack,Sv ae17Here (((s.qx[k]!).zC).length) ce17Here,Sv ae17Out (((s.qx[k]!).jI).length) ce17Out,Sv ae17Into (((s.qx[k]!).qO).length) ce17Into,Bv ((s.qx[k]!).zV)] isAgg56 sizeOf56 rfl (qJ (H.get 6 rfl) 0 9) ?_))
   refine sw (xx H ti56 [yI 0,yI 0,yN,yN,yN,yN,yN,yN,Bv false] fun b18 w19 H=>sw (xu H 0 [yI ((s.qx[k]!).qE),yI ((s.qx[k]!).vI),Sv ae17Need (((s.qx[k]!).xM).length) ce17Need,Sv ae17Have (((s.qx[k]!).zF).length) ce17Have,Sv ae17Lack (((s.qx[k]!).zD).length) ce17Lack,Sv ae17Here (((s.qx[k]!).zC).length) ce17Here,Sv ae17Out (((s.qx[k]!).jI).length) ce17Out,Sv ae17Into (((s.qx[k]!).qO).length) ce17Into,Bv ((s.qx[k]!).zV)] sizeOf56 fun w20 H=>?_))
   refine zjcc (sw (zB [yI s.xf,Sv qC s.qw.length qB,Sv (aa b14 o15) s.qx.length qI] isAgg27 sizeOf27 rfl (qJ (H.cells 2 rfl) 0 3) ?_))
   refine sw (zB [yI ((s.qx[k]!).qE),yI ((s.qx[k]!).vI),Sv ae17Need (((s.qx[k]!).xM).length) ce17Need,Sv ae17Have (((s.qx[k]!).zF).length) ce17Have,Sv ae17Lack (((s.qx[k]!).zD).length) ce17Lack,Sv ae17Here (((s.qx[k]!).zC).length) ce17Here,Sv ae17Out (((s.qx[k]!).jI).length) ce17Out,Sv ae17Into (((s.qx[k]!).qO).length) ce17Into,Bv ((s.qx[k]!).zV)] isAgg56 sizeOf56 rfl (qJ (H.cells 0 rfl) 0 9) ?_)
   refine sw (oq (isRule_ok _ s (s.qx[k]!) (H.get 7 rfl).1 (H.get 8 rfl).1 (H.get 0 rfl).1 (H.get 1 rfl).1 (H.get 2 rfl).1 (H.get 3 rfl).1 (H.get 4 rfl).1 (H.get 5 rfl).1 qg) H fun w22 H=>?_)
   have q:=fun h:RuleOk s (s.qx[k]!)=>(show 0≤(s.qx[k]!).qE∧(s.qx[k]!).qE≤5 from ⟨h.1.1,by have:=h.1.2;omega⟩)
   refine sp (Bv (!(dec (RuleOk s (s.qx[k]!))))) (zjn (cQ rfl (fun h24=>?_) (fun h24=>?_)))
   ·skip
    refine zcr (sp (Bv false) (zjr (t_r (zr5 (ret1 (Bv false) rfl rfl ⟨_,rfl,?_,H.base⟩)))))
    rw [xk (fun h=>by obtain ⟨h1,h2,h3⟩:=h;first | contradiction | omega | (obtain ⟨r1,r2⟩:=h3 k qf;first | contradiction | (have:=X4 (s:=s) (k:=k+1) q1 q2;omega)))]
   obtain ⟨q1,q2⟩:=q ‹_›
   have q3:=X4 (s:=s) (k:=k) q1 q2
   have q4:=ofCell_bd s.qx (s.qx[k]!).qE k
   refine xe (t_n (zcr (oF rfl (oL rfl (H.cell 0 rfl rfl) (sw (o_idxArr ((s.qx[k]!).qE) underlying148 ti3 rfl rfl qf qf (oL rfl (H.cell 1 rfl (ints_at (iv:=(s.qx[k]!).qE) (i:=(((s.qx[k]!).qE).toNat)) qf (by simp only [List.length_set,List.length_cons,List.length_nil,counts6_len];omega))) (sw (zN ((counts6 s k)[((s.qx[k]!).qE).toNat]!) 1 rfl rfl qf (sw (o_idxArr ((s.qx[k]!).qE) underlying148 ti3 rfl rfl qf qf ?_)))))))))))
   refine sw (o_storeArr H 1 rfl (((counts6 s k)[((s.qx[k]!).qE).toNat]!)+1) sizeOf3 rfl rfl (i:=(((s.qx[k]!).qE).toNat)) qf (by simp only [List.length_set,List.length_cons,List.length_nil,counts6_len];omega) fun w25 H=>?_)
   rw [counts6_succ q1 q2] at H
   refine zjc (oF rfl (oL rfl (H.cell 0 rfl rfl) (sw (o_idxArr ((s.qx[k]!).qE) underlying148 ti3 rfl rfl qf qf (oL rfl (H.cell 1 rfl (ints_at (iv:=(s.qx[k]!).qE) (i:=(((s.qx[k]!).qE).toNat)) qf (by simp only [List.length_set,List.length_cons,List.length_nil,counts6_len];omega))) (sp (Bv (decide (((counts6 s (k+1))[((s.qx[k]!).qE).toNat]! :Int) > 8))) (zjn (cD rfl (fun h26=>?_) (fun h26=>?_)))))))))
   ·skip
    refine zcr (sp (Bv false) (zjr (zr5 (ret1 (Bv false) rfl rfl ⟨_,rfl,?_,H.base⟩))))
    rw [xk (fun h=>by obtain ⟨h1,h2,h3⟩:=h;first | contradiction | omega | (obtain ⟨r1,r2⟩:=h3 k qf;first | contradiction | (have:=X4 (s:=s) (k:=k+1) q1 q2;omega)))]
   refine xe (b_n (t_n (zn (sw (zN k 1 rfl rfl qf (sp (yI (k+1)) (zo (xm (m' :=(s.qx.length - ((k+1):Int)).toNat) qf ⟨_,k+1,counts6 s (k+1),uE5,?_,?_,?_,rfl,N,H.pick [1,2] [7,8]⟩))))))))
   · rfl
   · omega
   · exact i1.succ ‹_› (by have:=X4 (s:=s) (k:=k+1) q1 q2;omega)
  refine zx4 (zcr (sp (Bv true) (zjr (ret1 (Bv true) rfl rfl ⟨_,rfl,?_,H.base⟩))))
  rw [yl ⟨by assumption,by omega,(show s.qx.length=k by omega)▸i1⟩]
 replace h6:=xC h6
 replace h6:=zO h6
 refine xU [10,11,12,13] (sp (Bv true) (zjn (xI true rfl (fun _=>zcr (sp (Bv false) (zjr (t_r (ret1 (Bv false) rfl rfl ⟨_,rfl,?_,H.base⟩))))) (fun h=>absurd h qj))))
 rw [xk (fun h=>by obtain ⟨h1,h2,h3⟩:=h;first | contradiction | omega | (obtain ⟨r1,r2⟩:=h3 k qf;first | contradiction | (have:=X4 (s:=s) (k:=k+1) q1 q2;omega)))]

theorem validState_ok (w:World) (s:qy) (t:qA) {qC:yOA} {qY:yLN} {qK:yOA} {xK:yLN} {qR:yOA} {zq:yLN} {xq:yOA} {zX:yLN} {qN:yOA} {xN:yLN} (qW:qU.rep w qY [Sv qC s.qw.length qB] s.qw) (xF:qU.rep w xK [Sv qK s.qx.length qI] s.qx) (zy:qU.rep w zq [Sv qR t.qF.length qP] t.qF) (ve:qU.rep w zX [Sv xq t.qG.length xn] t.qG) (xW:qU.rep w xN [Sv qN t.qH.length qM] t.qH):Calls Tryz.prog 47 #[.agg #[yI s.xf,Sv qC s.qw.length qB,Sv qK s.qx.length qI],.agg #[Sv qR t.qF.length qP,Sv xq t.qG.length xn,Sv qN t.qH.length qM]] w (Ret (fun v w' =>v=Bv (dec (vw s∧xJ s t))) w):=by
 refine en func47 ntmps47 ?_
 have H:=(((((St.start w).arg xW).arg ve).arg zy).arg xF).arg qW
 have vH:=qQ qW
 have jM:=qQ xF
 have Qg:=qQ zy
 have QZ:=qQ ve
 have yC:=qQ xW
 clear qW xF zy ve xW
 have N:=Fresh.nil w.heap.size
 refine zcr (sw (vF H (yS s qC qB qK qI) fun b1 w2 H=>sw (vF H (yT t qR qP xq xn qN qM) fun b3 w4 H=>sp (Bv false) (zjcc (sw (zB (yS s qC qB qK qI) isAgg27 sizeOf27 rfl (qJ (H.cells 1 rfl) 0 3) (sw (oq (validSystem_ok _ s (H.get 0 rfl).1 (H.get 1 rfl).1) H fun w6 H=>sps [Bv (!(dec (vw s))),Bv (!(dec (vw s)))] ?_))))))))
 cases h8:(!(dec (vw s)))
 ·skip
  replace h8:=xw h8
  replace h8:=yB h8
  have z1:=(‹vw s›:vw s).1.2.1
  refine qL 10 rfl rfl (oF rfl (qL 10 rfl rfl (oL rfl (H.cell 0 rfl rfl) (qL 10 rfl rfl (oN rfl (qL 10 rfl rfl (oF rfl (qL 10 rfl rfl (oL rfl (H.cell 1 rfl rfl) (qL 10 rfl rfl (oN rfl (qL 10 rfl rfl (sps [Bv ((t.qF.length:Int) != s.qw.length),Bv ((t.qF.length:Int) != s.qw.length),Bv ((t.qF.length:Int) != s.qw.length)] ?_)))))))))))))
  cases h9:((t.qF.length:Int) != s.qw.length)
  ·skip
   replace h9:=zh h9
   refine qL 19 rfl rfl (oF rfl (qL 19 rfl rfl (oL rfl (H.cell 0 rfl rfl) (qL 19 rfl rfl (oN rfl (qL 19 rfl rfl (oF rfl (qL 19 rfl rfl (oL rfl (H.cell 1 rfl rfl) (qL 19 rfl rfl (oN rfl (qL 19 rfl rfl (sps [Bv ((t.qG.length:Int) != s.qw.length),Bv ((t.qG.length:Int) != s.qw.length),Bv ((t.qG.length:Int) != s.qw.length)] ?_)))))))))))))
   cases h10:((t.qG.length:Int) != s.qw.length)
   ·skip
    replace h10:=zh h10
    refine qL 28 rfl rfl (oF rfl (qL 28 rfl rfl (oL rfl (H.cell 0 rfl rfl) (qL 28 rfl rfl ?_))))
    obtain ⟨b11,o12,rfl⟩:=H.addr 2 rfl qf
    refine oI rfl rfl (qL 28 rfl rfl (oL rfl (H.XE 2 rfl 0 qf qf) (qL 28 rfl rfl (sps [Bv (!(t.qF[0]!)),Bv (!(t.qF[0]!)),Bv (!(t.qF[0]!))] ?_))))
    cases h14:(!(t.qF[0]!))
    ·skip
     replace h14:=xw h14
     refine qL 35 rfl rfl (oF rfl (qL 35 rfl rfl (oL rfl (H.cell 1 rfl rfl) (qL 35 rfl rfl (oF rfl (qL 35 rfl rfl (oL rfl (H.cell 0 rfl rfl) (qL 35 rfl rfl (sw (oq (Xp _ s.xf t.qH (H.get 4 rfl).1) H fun w15 H=>qL 35 rfl rfl (sps [Bv (!(dec (zZ s.xf t.qH))),Bv (!(dec (zZ s.xf t.qH)))] (zjn (cQ rfl (fun h17=>?_) (fun h17=>?_))))))))))))))
     ·skip
      refine zcr (sp (Bv false) (zjr (t_r (ret1 (Bv false) rfl rfl ⟨_,rfl,?_,H.base⟩))))
      rw [xk (fun h=>by obtain ⟨h0,h1,h2,h3,h4,h5⟩:=h;first | contradiction | omega | (simp_all;done) | (obtain ⟨q1,q2⟩:=h5 c qf;first | contradiction | (have:=q2 ql;omega)))]
     refine xe (t_n (zcc (oF rfl (oL rfl (H.cell 0 rfl rfl) (oN rfl (sp (yI 0) (zjn (qZ ?_))))))))
     refine zU (fun m' ρ w18=>∃ (zl:Env) (c:Nat),ρ=upd (upd (upd (upd (upd zl 2 (pp b1 0)) 3 (pp b3 0)) 44 (Sv xq t.qG.length xn)) 45 (yI t.qG.length)) 46 (yI c)∧((c:Int)≤t.qG.length)∧(BagsTo s t c)∧m' =(t.qG.length - (c:Int)).toNat∧Fresh w.heap.size []∧St w w18 [.box b3 [Sv (aa b11 o12) t.qF.length qP,Sv xq t.qG.length xn,Sv qN t.qH.length qM] 31,.box b1 (yS s qC qB qK qI) 27] [sF false qY qC qB s.qw,sF false xK qK qI s.qx,sF false zq (aa b11 o12) qP t.qF,sF false zX xq xn t.qG,sF false xN qN qM t.qH]) ((t.qG.length - (0:Int)).toNat) ⟨_,0,uE5,qf,(by exact fun j hj=>by omega),rfl,N,H⟩ ?_
     clear H N
     rintro m' ρ w19 ⟨zl,c,rfl,i0,i1,rfl,N,H⟩
     refine zcr (sp (Bv (decide ((c:Int) < t.qG.length))) (zjn (zg (cD rfl (fun h20=>?_) (fun h20=>?_)))))
     ·skip
      refine xe (t_n (zg (qZ (zcr (sp (yI c) ?_)))))
      obtain ⟨b21,o22,rfl⟩:=H.addr 3 rfl qf
      obtain ⟨ae24,ce24,Fe24,H⟩:=H.jS 3 rfl c c qf qf qf
      refine oI rfl rfl (oL rfl (H.zu 1 rfl 0 rfl) (sps [yI c,Sv ae24 ((t.qG[c]!).length) ce24] (zjc (oF rfl (oL rfl (H.cell 1 rfl rfl) (sp (Sv ae24 ((t.qG[c]!).length) ce24) (sw (oq (Xp _ s.xf (t.qG[c]!) (H.get 0 rfl).1) H fun w25 H=>sps [Bv (!(dec (zZ s.xf (t.qG[c]!)))),Bv (!(dec (zZ s.xf (t.qG[c]!))))] ?_))))))))
      cases h27:(!(dec (zZ s.xf (t.qG[c]!))))
      ·skip
       replace h27:=xw h27
       replace h27:=yB h27
       refine qL 56 rfl rfl (oF rfl (qL 56 rfl rfl (oL rfl (H.cell 0 rfl rfl) (qL 56 rfl rfl (sp (yI c) (qL 56 rfl rfl (oI rfl rfl (qL 56 rfl rfl (oL rfl (H.XE 4 rfl c qf qf) (qL 56 rfl rfl (sp (Bv (!(t.qF[c]!))) (qL 56 rfl rfl (sp (Bv (!(t.qF[c]!))) ?_)))))))))))))
       cases h28:(!(t.qF[c]!))
       ·skip
        replace h28:=xw h28
        refine xU [64,65,66] (qL 56 rfl rfl (sps [Bv false,Bv false] (zjn (xI false rfl (fun h=>absurd h qj) (fun _=>xe (b_n (t_n (zn (sw (zN c 1 rfl rfl qf (sp (yI (c+1)) (zo (xm (m' :=(t.qG.length - ((c+1):Int)).toNat) qf ⟨_,c+1,uE5,?_,?_,rfl,N,H.pick [0,1] [2,3,4,5,6]⟩)))))))))))))
        · omega
        · exact i1.succ ‹_› (fun hk=>by first | omega | simp_all)
       replace h28:=xC h28
       refine qL 63 rfl rfl (sp (Sv ae24 ((t.qG[c]!).length) ce24) (qL 63 rfl rfl (sw (oq (XH _ (t.qG[c]!) (H.get 0 rfl).1 (by first | assumption | exact vG ql | exact yF ql)) H fun w29 H=>qL 63 rfl rfl (sp (Bv (decide ((QJ (t.qG[c]!):Int) > 0))) (qL 56 rfl rfl (sps [Bv (decide ((QJ (t.qG[c]!):Int) > 0)),Bv (decide ((QJ (t.qG[c]!):Int) > 0))] (zjn (cD rfl (fun h31=>?_) (fun h31=>?_))))))))))
       ·skip
        refine zcr (sp (Bv false) (zjr (zr5 (ret1 (Bv false) rfl rfl ⟨_,rfl,?_,H.base⟩))))
        rw [xk (fun h=>by obtain ⟨h0,h1,h2,h3,h4,h5⟩:=h;first | contradiction | omega | (simp_all;done) | (obtain ⟨q1,q2⟩:=h5 c qf;first | contradiction | (have:=q2 ql;omega)))]
       refine xe (b_n (t_n (zn (sw (zN c 1 rfl rfl qf (sp (yI (c+1)) (zo (xm (m' :=(t.qG.length - ((c+1):Int)).toNat) qf ⟨_,c+1,uE5,?_,?_,rfl,N,H.pick [0,1] [2,3,4,5,6]⟩))))))))
       · omega
       · exact i1.succ ‹_› (fun hk=>by first | omega | simp_all)
      replace h27:=xC h27
      replace h27:=zO h27
      refine xU [57,58,59,60,61,62,63,64,65,66,67] (sp (Bv true) (zjn (xI true rfl (fun _=>zcr (sp (Bv false) (zjr (zr5 (ret1 (Bv false) rfl rfl ⟨_,rfl,?_,H.base⟩))))) (fun h=>absurd h qj))))
      rw [xk (fun h=>by obtain ⟨h0,h1,h2,h3,h4,h5⟩:=h;first | contradiction | omega | (simp_all;done) | (obtain ⟨q1,q2⟩:=h5 c qf;first | contradiction | (have:=q2 ql;omega)))]
     refine zx4 (zcr (sp (Bv true) (zjr (ret1 (Bv true) rfl rfl ⟨_,rfl,?_,H.base⟩))))
     rw [yl ⟨by assumption,by omega,by omega,by first | assumption | simp_all,by assumption,(show t.qG.length=c by omega)▸i1⟩]
    replace h14:=xC h14
    refine xU [36,37,38,39,40,41] (sp (Bv true) (zjn (xI true rfl (fun _=>zcr (sp (Bv false) (zjr (t_r (ret1 (Bv false) rfl rfl ⟨_,rfl,?_,H.base⟩))))) (fun h=>absurd h qj))))
    rw [xk (fun h=>by obtain ⟨h0,h1,h2,h3,h4,h5⟩:=h;first | contradiction | omega | (simp_all;done) | (obtain ⟨q1,q2⟩:=h5 c qf;first | contradiction | (have:=q2 ql;omega)))]
   replace h10:=bne_iff_ne.1 h10
   refine xU [29,30,31,32,33] (sps [Bv true,Bv true] (xU [36,37,38,39,40,41] (sp (Bv true) (zjn (xI true rfl (fun _=>zcr (sp (Bv false) (zjr (t_r (ret1 (Bv false) rfl rfl ⟨_,rfl,?_,H.base⟩))))) (fun h=>absurd h qj))))))
   rw [xk (fun h=>by obtain ⟨h0,h1,h2,h3,h4,h5⟩:=h;first | contradiction | omega | (simp_all;done) | (obtain ⟨q1,q2⟩:=h5 c qf;first | contradiction | (have:=q2 ql;omega)))]
  replace h9:=bne_iff_ne.1 h9
  refine xU [20,21,22,23,24,25,26] (sps [Bv true,Bv true] (xU [29,30,31,32,33] (sps [Bv true,Bv true] (xU [36,37,38,39,40,41] (sp (Bv true) (zjn (xI true rfl (fun _=>zcr (sp (Bv false) (zjr (t_r (ret1 (Bv false) rfl rfl ⟨_,rfl,?_,H.base⟩))))) (fun h=>absurd h qj))))))))
  rw [xk (fun h=>by obtain ⟨h0,h1,h2,h3,h4,h5⟩:=h;first | contradiction | omega | (simp_all;done) | (obtain ⟨q1,q2⟩:=h5 c qf;first | contradiction | (have:=q2 ql;omega)))]
 replace h8:=xC h8
 replace h8:=zO h8
 refine xU [11,12,13,14,15,16,17] (sps [Bv true,Bv true] (xU [20,21,22,23,24,25,26] (sps [Bv true,Bv true] (xU [29,30,31,32,33] (sps [Bv true,Bv true] (xU [36,37,38,39,40,41] (sp (Bv true) (zjn (xI true rfl (fun _=>zcr (sp (Bv false) (zjr (t_r (ret1 (Bv false) rfl rfl ⟨_,rfl,?_,H.base⟩))))) (fun h=>absurd h qj))))))))))
 rw [xk (fun h=>by obtain ⟨h0,h1,h2,h3,h4,h5⟩:=h;first | contradiction | omega | (simp_all;done) | (obtain ⟨q1,q2⟩:=h5 c qf;first | contradiction | (have:=q2 ql;omega)))]

theorem parentNow_ok (w:World) (s:qy) (t:qA) (c:Int) {qC:yOA} {qY:yLN} {qK:yOA} {xK:yLN} {qR:yOA} {zq:yLN} {xq:yOA} {zX:yLN} {qN:yOA} {xN:yLN} (qW:qU.rep w qY [Sv qC s.qw.length qB] s.qw) (xF:qU.rep w xK [Sv qK s.qx.length qI] s.qx) (zy:qU.rep w zq [Sv qR t.qF.length qP] t.qF) (ve:qU.rep w zX [Sv xq t.qG.length xn] t.qG) (xW:qU.rep w xN [Sv qN t.qH.length qM] t.qH) (p0:jO s) (p1:CellIn s c) (p2:t.qF.length=s.qw.length):Calls Tryz.prog 65 #[.agg #[yI s.xf,Sv qC s.qw.length qB,Sv qK s.qx.length qI],.agg #[Sv qR t.qF.length qP,Sv xq t.qG.length xn,Sv qN t.qH.length qM],yI c] w (Ret (fun v w' =>v=yI (xh s t c)) w):=by
 refine en func65 ntmps65 ?_
 have H:=(((((St.start w).arg xW).arg ve).arg zy).arg xF).arg qW
 have vH:=qQ qW
 have jM:=qQ xF
 have Qg:=qQ zy
 have QZ:=qQ ve
 have yC:=qQ xW
 clear qW xF zy ve xW
 have N:=Fresh.nil w.heap.size
 have p3:=p0.step p1.1 p1.2
 refine zcr (sw (vF H (yS s qC qB qK qI) fun b1 w2 H=>sw (vF H (yT t qR qP xq xn qN qM) fun b3 w4 H=>sp (yI 0) (zjc (oF rfl (oL rfl (H.cell 1 rfl rfl) (sp (yI c) ?_)))))))
 obtain ⟨b5,o6,rfl⟩:=H.addr 0 rfl qf
 refine oI rfl rfl (oL rfl (H.jg 0 rfl c qf qf) (sp (yI (s.qw[c.toNat]!)) (zjn (zg (qZ ?_)))))
 refine zU (fun m' ρ w8=>∃ (zl:Env) (p:Int) (n:Nat),ρ=upd (upd (upd zl 3 (pp b1 0)) 4 (pp b3 0)) 7 (yI p)∧(-1≤p∧p≤(s.qw.length:Int) - 1)∧(p < n)∧(xh s t c=climb s.qw t.qF n p)∧m' =(p+1).toNat∧Fresh w.heap.size []∧St w w8 [.box b3 (yT t qR qP xq xn qN qM) 31,.box b1 [yI s.xf,Sv (aa b5 o6) s.qw.length qB,Sv qK s.qx.length qI] 27] [sF false qY (aa b5 o6) qB s.qw,sF false xK qK qI s.qx,sF false zq qR qP t.qF,sF false zX xq xn t.qG,sF false xN qN qM t.qH]) (((s.qw[c.toNat]!)+1).toNat) ⟨_,s.qw[c.toNat]!,s.qw.length,uE3,qf,qf,(by rfl),rfl,N,H⟩ ?_
 clear H N
 rintro m' ρ w9 ⟨zl,p,n,rfl,i0,i1,i2,rfl,N,H⟩
 have up:=fun h=>p0.step (c:=p) h i0.2
 refine zcc (sps [yI p,Bv (decide ((p:Int)≥0)),Bv (decide ((p:Int)≥0))] ?_)
 cases h10:(decide ((p:Int)≥0))
 ·skip
  replace h10:=of_decide_eq_false h10
  refine xU [16,17,18,19,20,21] (sp (Bv false) (zjn (xI false rfl (fun h=>absurd h qj) (fun _=>zx4 (zcr (sps [yI p,yI p] (zjr (ret1 (yI p) rfl rfl ⟨_,rfl,?_,H.base⟩))))))))
  rw [i2,climb_end (by first | omega | simp_all)]
 replace h10:=of_decide_eq_true h10
 refine qL 15 rfl rfl (oF rfl (qL 15 rfl rfl (oL rfl (H.cell 0 rfl rfl) (qL 15 rfl rfl (sp (yI p) (qL 15 rfl rfl ?_))))))
 obtain ⟨b11,o12,rfl⟩:=H.addr 2 rfl qf
 refine oI rfl rfl (qL 15 rfl rfl (oL rfl (H.XE 2 rfl p qf qf) (qL 15 rfl rfl (sps [Bv (!(t.qF[p.toNat]!)),Bv (!(t.qF[p.toNat]!))] (zjn (xI (!(t.qF[p.toNat]!)) rfl (fun h14=>?_) (fun h14=>?_)))))))
 ·skip
  replace h14:=xC h14
  refine xe (t_n (qZ (zn (oF rfl (oL rfl (H.cell 1 rfl rfl) (sp (yI p) (oI rfl rfl (oL rfl (H.jg 0 rfl p qf qf) (sp (yI (s.qw[p.toNat]!)) (zo (b_n ?_)))))))))))
  have up1:=up qf
  refine xm (m' :=((s.qw[p.toNat]!)+1).toNat) qf ⟨_,s.qw[p.toNat]!,n - 1,uE3,?_,?_,?_,rfl,N,H⟩
  · omega
  · omega
  · exact i2.trans (climb_go qf qf ‹_›)
 replace h14:=xw h14
 refine zx4 (zcr (sps [yI p,yI p] (zjr (ret1 (yI p) rfl rfl ⟨_,rfl,?_,H.base⟩))))
 rw [i2,climb_end (by first | omega | simp_all)]

theorem copied_ok (w:World) (t:qA) {qR:yOA} {zq:yLN} {xq:yOA} {zX:yLN} {qN:yOA} {xN:yLN} (zy:qU.rep w zq [Sv qR t.qF.length qP] t.qF) (ve:qU.rep w zX [Sv xq t.qG.length xn] t.qG) (xW:qU.rep w xN [Sv qN t.qH.length qM] t.qH) (p0:t.qF.length≤1000000) (p1:t.qH.length≤1000000) (p2:t.qG.length≤1000000) (p3:∀ j,j < t.qG.length→(t.qG[j]!).length≤1000000):Calls Tryz.prog 49 #[.agg #[Sv qR t.qF.length qP,Sv xq t.qG.length xn,Sv qN t.qH.length qM]] w (Ret (fun v w' =>∃ (raAlive:yOA) (rnAlive:Nat) (rcAlive:Nat) (raBags:yOA) (rnBags:Nat) (rcBags:Nat) (rxBags:List Value) (rFBags:yLN) (raAround:yOA) (rnAround:Nat) (rcAround:Nat),v=.agg #[Sv raAlive rnAlive rcAlive,Sv raBags rnBags rcBags,Sv raAround rnAround rcAround]∧Fresh w.heap.size [rFBags]∧St w w' [rr raAlive rnAlive rcAlive 4 1 (t.qF.map (Value.bool)),rr raBags rnBags rcBags 24 1 rxBags,rr raAround rnAround rcAround 2 1 (t.qH.map (Value.int .i64))] [qX true rFBags rxBags t.qG]) w):=by
 refine en func49 ntmps49 ?_
 have H:=(((St.start w).arg xW).arg ve).arg zy
 have Qg:=qQ zy
 have QZ:=qQ ve
 have yC:=qQ xW
 clear zy ve xW
 have N:=Fresh.nil w.heap.size
 refine zcr (sw (vF H (yT t qR qP xq xn qN qM) fun b1 w2 H=>sw (xx H ti31 [yN,yN,yN] fun b3 w4 H=>zjn (zg ?_))))
 refine c_cut (fun ρ w10=>∃ (zl:Env) (b5:Nat) (ra6:yOA) (rc7:Nat) (a8:yOA) (c9:Nat),ρ=upd (upd (upd zl 1 (pp b1 0)) 2 (pp b3 0)) 3 (pp b5 0)∧Fresh w.heap.size []∧St w w10 [.box b5 [Sv ra6 t.qF.length rc7,yN,Sv a8 t.qH.length c9] 31,rr a8 t.qH.length c9 2 1 (t.qH.map (Value.int .i64)),rr ra6 t.qF.length rc7 4 1 (t.qF.map (Value.bool)),.box b3 [yN,yN,yN] 31,.box b1 (yT t qR qP xq xn qN qM) 31] [sF false zq qR qP t.qF,sF false zX xq xn t.qG,sF false xN qN qM t.qH]) ?_ ?_
 ·skip
  refine yj rfl H fun H=>tF 0 rfl rfl H ?_
  refine tL 1 rfl rfl (fun _ h=>h.cell 1 rfl rfl) H ?_
  refine tF 3 rfl rfl H ?_
  refine tL 4 rfl rfl (fun _ h=>h.cell 1 rfl rfl) H ?_
  refine zH [2,7] qh qm (vg rfl ?_ (vg rfl ?_ zI))
  ·skip
   have sz15:=H.base.size
   refine oc (cloneB_ok _ t.qF (H.get 0 rfl).1 qg) ?_
   rintro _ w13 ⟨ra12,rn12,rc12,rfl,M,K⟩ _
   replace H:=H.merge K M
   obtain rfl:=H.rowNB 0 rfl
   refine ⟨H.pick [1,2] [0,1,2],(zH [5,7] qh qm (vg rfl ?_ (vg rfl ?_ zI)))⟩
   ·skip
    have sz18:=H.base.size
    refine oc (cloneI_ok _ t.qH (H.get 2 rfl).1 qg) ?_
    rintro v23 w21 r23 x22
    replace H:=H.zW x22 r23
    obtain ⟨a24,c25,rfl,hc26,hm27⟩:=H.jY 0 rfl
    refine ⟨H.pick [2,3] [0,1,2],(zH [6,7] qh qm (vg rfl ?_ (vg rfl ?_ zI)))⟩
    ·skip
     refine xP [Sv ra12 t.qF.length rc12,yN,Sv a24 t.qH.length c25] [(0,Sv ra12 t.qF.length rc12),(2,Sv a24 t.qH.length c25)] (⟨H.pick [2,3] [0,1,2],(ro 7 rfl (xx H ti31 [yN,yN,yN] fun b28 w29 H=>⟨H.pick [3,4] [0,1,2],(ro 8 rfl (xu H 0 [Sv ra12 t.qF.length rc12,yN,Sv a24 t.qH.length c25] sizeOf31 fun w30 H=>⟨H.pick [3,4] [0,1,2],(xg qh ((meet ⟨_,b28,ra12,rc12,a24,c25,uE3,N,H⟩)))⟩))⟩))⟩)
    refine xx H ti31 [yN,yN,yN] fun b31 w32 H=>⟨H.pick [3,4] [0,1,2],(ro 6 rfl (xP [Sv ra12 t.qF.length rc12,yN,Sv a24 t.qH.length c25] [(0,Sv ra12 t.qF.length rc12),(2,Sv a24 t.qH.length c25)] (⟨H.pick [3,4] [0,1,2],(ro 8 rfl (xu H 0 [Sv ra12 t.qF.length rc12,yN,Sv a24 t.qH.length c25] sizeOf31 fun w33 H=>⟨H.pick [3,4] [0,1,2],(xg qh ((meet ⟨_,b31,ra12,rc12,a24,c25,uE3,N,H⟩)))⟩))⟩)))⟩
   refine xx H ti31 [yN,yN,yN] fun b34 w35 H=>⟨H.pick [2,3] [0,1,2],(ro 5 rfl ?_)⟩
   have sz36:=H.base.size
   refine oc (cloneI_ok _ t.qH (H.get 2 rfl).1 qg) ?_
   rintro v41 w39 r41 x40
   replace H:=H.zW x40 r41
   obtain ⟨a42,c43,rfl,hc44,hm45⟩:=H.jY 0 rfl
   refine ⟨H.pick [3,4] [0,1,2],(ro 6 rfl (xP [Sv ra12 t.qF.length rc12,yN,Sv a42 t.qH.length c43] [(0,Sv ra12 t.qF.length rc12),(2,Sv a42 t.qH.length c43)] (⟨H.pick [3,4] [0,1,2],(ro 8 rfl (xu H 1 [Sv ra12 t.qF.length rc12,yN,Sv a42 t.qH.length c43] sizeOf31 fun w46 H=>⟨H.pick [3,4] [0,1,2],(xg qh ((meet ⟨_,b34,ra12,rc12,a42,c43,uE3,N,H.pick [1,0,2,3,4] [0,1,2]⟩)))⟩))⟩)))⟩
  refine xx H ti31 [yN,yN,yN] fun b47 w48 H=>⟨H.pick [1,2] [0,1,2],(ro 2 rfl ?_)⟩
  have sz52:=H.base.size
  refine oc (cloneB_ok _ t.qF (H.get 0 rfl).1 qg) ?_
  rintro _ w50 ⟨ra49,rn49,rc49,rfl,M,K⟩ _
  replace H:=H.merge K M
  obtain rfl:=H.rowNB 0 rfl
  refine ⟨H.pick [2,3] [0,1,2],(ro 5 rfl ?_)⟩
  have sz55:=H.base.size
  refine oc (cloneI_ok _ t.qH (H.get 2 rfl).1 qg) ?_
  rintro v60 w58 r60 x59
  replace H:=H.zW x59 r60
  obtain ⟨a61,c62,rfl,hc63,hm64⟩:=H.jY 0 rfl
  refine ⟨H.pick [3,4] [0,1,2],(ro 6 rfl (xP [Sv ra49 t.qF.length rc49,yN,Sv a61 t.qH.length c62] [(0,Sv ra49 t.qF.length rc49),(2,Sv a61 t.qH.length c62)] (⟨H.pick [3,4] [0,1,2],(ro 8 rfl (xu H 2 [Sv ra49 t.qF.length rc49,yN,Sv a61 t.qH.length c62] sizeOf31 fun w65 H=>⟨H.pick [3,4] [0,1,2],(xg qh ((meet ⟨_,b47,ra49,rc49,a61,c62,uE3,N,H.pick [2,0,1,3,4] [0,1,2]⟩)))⟩))⟩)))⟩
 clear H N
 rintro ρ w66 ⟨zl,b5,ra6,rc7,a8,c9,rfl,N,H⟩
 refine t_n (zcc (oF rfl (oL rfl (H.cell 4 rfl rfl) (oN rfl (sp (yI 0) (zjn (qZ ?_)))))))
 replace H:=H.nilRow 24 1
 replace H:=H.jD (α:=yLI)
 refine zU (fun m' ρ w67=>∃ (zl:Env) (k:Nat) (XJ:yOA) (y9:Nat) (XF:Nat) (out_Bags:yLL) (Qq:List Value) (jX:yLN),ρ=upd (upd (upd (upd (upd zl 2 (pp b3 0)) 3 (pp b5 0)) 14 (Sv xq t.qG.length xn)) 15 (yI t.qG.length)) 16 (yI k)∧out_Bags=t.qG.take k∧((k:Int)≤t.qG.length)∧m' =(t.qG.length - (k:Int)).toNat∧Fresh w.heap.size [jX]∧St w w67 [rr XJ y9 XF 24 1 Qq,.box b5 [Sv ra6 t.qF.length rc7,Sv XJ y9 XF,Sv a8 t.qH.length c9] 31,rr a8 t.qH.length c9 2 1 (t.qH.map (Value.int .i64)),rr ra6 t.qF.length rc7 4 1 (t.qF.map (Value.bool)),.box b3 [yN,yN,yN] 31,.box b1 (yT t qR qP xq xn qN qM) 31] [qX true jX Qq out_Bags,sF false zq qR qP t.qF,sF false zX xq xn t.qG,sF false xN qN qM t.qH]) ((t.qG.length - (0:Int)).toNat) ⟨_,0,none,0,0,([]:yLL),[],[],uE5,(by rfl),qf,rfl,N.emp,H⟩ ?_
 clear H N
 rintro m' ρ w68 ⟨zl,k,XJ,y9,XF,out_Bags,Qq,jX,rfl,rfl,i0,rfl,N,H⟩
 have hn_out_Bags:=H.zi (α:=yLI) 0 rfl 0 rfl qj
 have p4:=p3 k
 rw [List.length_take_of_le qf] at hn_out_Bags
 refine zcr (sp (Bv (decide ((k:Int) < t.qG.length))) (zjn (zg (cD rfl (fun h69=>?_) (fun h69=>?_)))))
 ·skip
  refine xe (t_n (zg (qZ (zcr ?_))))
  obtain ⟨b70,o71,rfl⟩:=H.addr 2 rfl qf
  obtain ⟨ae73,ce73,Fe73,H⟩:=H.jS 2 rfl k k qf qf qf
  refine oI rfl rfl (oL rfl (H.zu 1 rfl 0 rfl) (sp (Sv ae73 ((t.qG[k]!).length) ce73) (zjn ?_)))
  refine c_cut (fun ρ w79=>∃ (zl:Env) (a74:yOA) (c75:Nat) (a76:yOA) (c77:Nat) (G78:yLN),ρ=upd (upd (upd (upd (upd zl 2 (pp b3 0)) 3 (pp b5 0)) 14 (Sv (aa b70 o71) t.qG.length xn)) 15 (yI t.qG.length)) 16 (yI k)∧Fresh w.heap.size [(jX++G78)]∧St w w79 [rr a74 (y9+1) c75 24 1 (Qq++[Sv a76 ((t.qG[k]!).length) c77]),.box b5 [Sv ra6 t.qF.length rc7,Sv a74 (y9+1) c75,Sv a8 t.qH.length c9] 31,rr a8 t.qH.length c9 2 1 (t.qH.map (Value.int .i64)),rr ra6 t.qF.length rc7 4 1 (t.qF.map (Value.bool)),.box b3 [yN,yN,yN] 31,.box b1 [Sv qR t.qF.length qP,Sv (aa b70 o71) t.qG.length xn,Sv qN t.qH.length qM] 31] [qX true (jX++G78) (Qq++[Sv a76 ((t.qG[k]!).length) c77]) ((t.qG.take k)++[(t.qG[k]!)]),sF true G78 a76 c77 (t.qG[k]!),sF false Fe73 ae73 ce73 (t.qG[k]!),atF b70 (o71+(k:Int).toNat * 1) [Sv ae73 ((t.qG[k]!).length) ce73],sF false zq qR qP t.qF,sF false zX (aa b70 o71) xn t.qG,sF false xN qN qM t.qH]) ?_ ?_
  ·skip
   refine Qe rfl H [2,3,4,5] fun H=>?_
   have S:=H.jG [2,3,4,5] [0,1,2,3,4,5]
   refine tF 0 rfl rfl S ?_
   refine rtp 2 (Sv ae73 ((t.qG[k]!).length) ce73) S ?_
   refine zH [1,3] qh qm (vg rfl ?_ (vg rfl ?_ zI))
   ·skip
    refine zt (Sv XJ y9 XF) isAgg29 rfl (H.cell 1 rfl rfl) (⟨H.pick [2,3,4,5] [0,1,2,3,4,5],(ro 3 rfl ?_)⟩)
    have sz81:=H.base.size
    have lt82:=H.ltN (L:=[jX]) [2]
    refine oc (cloneI_ok _ (t.qG[k]!) (H.get 0 rfl).1 qg) ?_
    rintro v86 w84 r86 x85
    replace H:=H.zW x85 r86
    obtain ⟨a87,c88,rfl,hc89,hm90⟩:=H.jY 0 rfl
    refine ⟨H.pick [3,4,5,6] [0,1,2,3,4,5],(ro 4 rfl (zJ H underlying29 ti24 [Sv a87 ((t.qG[k]!).length) c88] fun b91 w92 H=>⟨H.pick [4,5,6,7] [0,1,2,3,4,5],(ro 5 rfl ?_)⟩))⟩
    obtain ⟨G96,N,hn97,H⟩:=H.vz 1 rfl N (H.jJ [2])
    refine zM H 2 rfl 0 rfl underlying29 ti24 rfl qj rfl rfl rfl (by simp [Value.oneCell',Value.cells]) qp qf fun a93 c94 w95 H=>?_
    replace H:=H.y5 3 rfl 0 rfl
    replace N:Fresh w.heap.size [(jX++G96)]:=(N.pick [1,0]).join
    refine ⟨H.pick [4,5,6,7] [2,3,4,5,6,7],(tF 6 rfl rfl (H.pick [4,5,6,7] [2,3,4,5,6,7]) ?_)⟩
    refine ro 7 rfl (xX H 3 [Sv ra6 t.qF.length rc7,Sv a93 (y9+1) c94,Sv a8 t.qH.length c9] sizeOf29 fun w98 H=>⟨H.pick [4,5,6,7] [2,3,4,5,6,7],(xg qh ((meet ⟨_,a93,c94,a87,c88,G96,uE5,N,H.pick [2,3,4,5,6,7] [0,1,2,3,5,6,7]⟩)))⟩)
   have sz99:=H.base.size
   have lt100:=H.ltN (L:=[jX]) [2]
   refine oc (cloneI_ok _ (t.qG[k]!) (H.get 0 rfl).1 qg) ?_
   rintro v104 w102 r104 x103
   replace H:=H.zW x103 r104
   obtain ⟨a105,c106,rfl,hc107,hm108⟩:=H.jY 0 rfl
   refine ⟨H.pick [3,4,5,6] [0,1,2,3,4,5],(zH [1,4] qh qm (vg rfl ?_ (vg rfl ?_ zI)))⟩
   ·skip
    refine zt (Sv XJ y9 XF) isAgg29 rfl (H.cell 2 rfl rfl) (⟨H.pick [3,4,5,6] [0,1,2,3,4,5],(ro 4 rfl (zJ H underlying29 ti24 [Sv a105 ((t.qG[k]!).length) c106] fun b109 w110 H=>⟨H.pick [4,5,6,7] [0,1,2,3,4,5],(ro 5 rfl ?_)⟩))⟩)
    obtain ⟨G114,N,hn115,H⟩:=H.vz 1 rfl N (H.jJ [2])
    refine zM H 2 rfl 0 rfl underlying29 ti24 rfl qj rfl rfl rfl (by simp [Value.oneCell',Value.cells]) qp qf fun a111 c112 w113 H=>?_
    replace H:=H.y5 3 rfl 0 rfl
    replace N:Fresh w.heap.size [(jX++G114)]:=(N.pick [1,0]).join
    refine ⟨H.pick [4,5,6,7] [2,3,4,5,6,7],(tF 6 rfl rfl (H.pick [4,5,6,7] [2,3,4,5,6,7]) ?_)⟩
    refine ro 7 rfl (xX H 3 [Sv ra6 t.qF.length rc7,Sv a111 (y9+1) c112,Sv a8 t.qH.length c9] sizeOf29 fun w116 H=>⟨H.pick [4,5,6,7] [2,3,4,5,6,7],(xg qh ((meet ⟨_,a111,c112,a105,c106,G114,uE5,N,H.pick [2,3,4,5,6,7] [0,1,2,3,5,6,7]⟩)))⟩)
   refine zJ H underlying29 ti24 [Sv a105 ((t.qG[k]!).length) c106] fun b117 w118 H=>⟨H.pick [4,5,6,7] [0,1,2,3,4,5],(ro 1 rfl (zt (Sv XJ y9 XF) isAgg29 rfl (H.cell 3 rfl rfl) (⟨H.pick [4,5,6,7] [0,1,2,3,4,5],(ro 5 rfl ?_)⟩)))⟩
   obtain ⟨G122,N,hn123,H⟩:=H.vz 1 rfl N (H.jJ [2])
   refine zM H 2 rfl 0 rfl underlying29 ti24 rfl qj rfl rfl rfl (by simp [Value.oneCell',Value.cells]) qp qf fun a119 c120 w121 H=>?_
   replace H:=H.y5 3 rfl 0 rfl
   replace N:Fresh w.heap.size [(jX++G122)]:=(N.pick [1,0]).join
   refine ⟨H.pick [4,5,6,7] [2,3,4,5,6,7],(tF 6 rfl rfl (H.pick [4,5,6,7] [2,3,4,5,6,7]) ?_)⟩
   refine ro 7 rfl (xX H 3 [Sv ra6 t.qF.length rc7,Sv a119 (y9+1) c120,Sv a8 t.qH.length c9] sizeOf29 fun w124 H=>⟨H.pick [4,5,6,7] [2,3,4,5,6,7],(xg qh ((meet ⟨_,a119,c120,a105,c106,G122,uE5,N,H.pick [2,3,4,5,6,7] [0,1,2,3,5,6,7]⟩)))⟩)
  clear H N
  rintro ρ w125 ⟨zl,a74,c75,a76,c77,G78,rfl,N,H⟩
  refine b_n (t_n (zn (sw (zN k 1 rfl rfl qf (sp (yI (k+1)) (zo (xm (m' :=(t.qG.length - ((k+1):Int)).toNat) qf ⟨_,k+1,a74,y9+1,c75,((t.qG.take k)++[(t.qG[k]!)]),Qq++[Sv a76 ((t.qG[k]!).length) c77],(jX++G78),uE5,?_,?_,rfl,N,H.pick [0,1,2,3,4,5] [0,4,5,6]⟩)))))))
  · exact take_snoc qf
  · omega
 refine zx4 (zcr (sw (zB [Sv ra6 t.qF.length rc7,Sv XJ y9 XF,Sv a8 t.qH.length c9] isAgg31 sizeOf31 rfl (qJ (H.cells 1 rfl) 0 3) (sw (xu H 4 [Sv ra6 t.qF.length rc7,Sv XJ y9 XF,Sv a8 t.qH.length c9] sizeOf31 fun w126 H=>zjr (retC H 4 rfl rfl isAgg31 sizeOf31 rfl ⟨_,rfl,?_,H.base⟩))))))
 obtain rfl:k=t.qG.length:=by omega
 rw [List.take_length] at H
 exact ⟨ra6,t.qF.length,rc7,XJ,y9,XF,Qq,jX,a8,t.qH.length,c9,rfl,N,H.pick [3,0,2] [0]⟩
theorem l00Max_ok (w:World) (a:Int) (b:Int):Calls Tryz.prog 175 #[yI a,yI b] w (Ret (fun v w' =>v=yI (max a b)) w):=by
 refine en func175 ntmps175 ?_
 have H:=St.start w
 have N:=Fresh.nil w.heap.size
 refine zcr (sp (yI 0) (zjcc (sps [yI a,yI b,Bv (decide ((a:Int) > b))] (zjn (cD rfl (fun h1=>?_) (fun h1=>?_))))))
 ·skip
  refine zcr (sps [yI a,yI a] (zjr (t_r (ret1 (yI a) rfl rfl ⟨_,rfl,(congrArg (Value.int .i64) ?_),H.base⟩))))
  omega
 refine xe (t_n (zcr (sps [yI b,yI b] (zjr (ret1 (yI b) rfl rfl ⟨_,rfl,(congrArg (Value.int .i64) ?_),H.base⟩)))))
 omega

theorem l01Within_ok (w:World) (l:yLI) (m:yLI) {al:yOA} {Fl:yLN} {am:yOA} {Fm:yLN} (hl:qU.rep w Fl [Sv al l.length cl] l) (hm:qU.rep w Fm [Sv am m.length cm] m) (p0:l.length≤m.length):Calls Tryz.prog 136 #[Sv al l.length cl,Sv am m.length cm] w (Ret (fun v w' =>v=Bv (within l m)) w):=by
 refine en func136 ntmps136 ?_
 have H:=((St.start w).arg hm).arg hl
 have nhl:=qQ hl
 have nhm:=qQ hm
 clear hl hm
 have N:=Fresh.nil w.heap.size
 refine zcr (sp (Bv false) (zjcc (sp (yI 0) (zjn (qZ ?_)))))
 refine zU (fun m' ρ w1=>∃ (zl:Env) (i:Nat),ρ=upd (upd (upd zl 0 (Sv al l.length cl)) 1 (Sv am m.length cm)) 5 (yI i)∧((i:Int)≤l.length)∧(withinTo l m i)∧m' =(l.length - (i:Int)).toNat∧Fresh w.heap.size []∧St w w1 [] [sF false Fl al cl l,sF false Fm am cm m]) ((l.length - (0:Int)).toNat) ⟨_,0,uE3,qf,(by exact withinTo_zero l m),rfl,N,H⟩ ?_
 clear H N
 rintro m' ρ w2 ⟨zl,i,rfl,i0,i1,rfl,N,H⟩
 refine zcc (sps [yI i,Sv al l.length cl] (oN rfl (sp (Bv (decide ((i:Int) < l.length))) (zjn (cD rfl (fun h3=>?_) (fun h3=>?_))))))
 ·skip
  refine xe (t_n (zg (qZ (zg ?_))))
  refine yj rfl H fun H=>rtp 0 (Sv al l.length cl) H ?_
  refine rtp 1 (yI i) H ?_
  obtain ⟨b5,o6,rfl⟩:=H.addr 0 rfl qf
  refine tI 2 rfl rfl rfl H ?_
  refine tL 3 rfl rfl (fun _ h=>h.QG 0 rfl i qf) H ?_
  refine rtp 4 (Sv am m.length cm) H ?_
  refine rtp 5 (yI i) H ?_
  obtain ⟨b8,o9,rfl⟩:=H.addr 1 rfl qf
  refine tI 6 rfl rfl rfl H ?_
  refine tL 7 rfl rfl (fun _ h=>h.QG 1 rfl i qf) H ?_
  refine rtp 8 (Bv (decide ((l[i]! :Int) > (m[i]!)))) H ?_
  refine xg qh (t_n (cD rfl (fun h11=>?_) (fun h11=>?_)))
  ·skip
   refine zcr (sp (Bv false) (zjr (zr5 (ret1 (Bv false) rfl rfl ⟨_,rfl,?_,H.base⟩))))
   rw [within_no (k:=i) ‹_› qf]
  refine xe (b_n (t_n (zn (sp (yI i) (sw (zN i 1 rfl rfl qf (sp (yI (i+1)) (zo (xm (m' :=(l.length - ((i+1):Int)).toNat) qf ⟨_,i+1,uE3,?_,?_,rfl,N,H⟩)))))))))
  · omega
  · exact withinTo_succ ‹_› qf
 refine zx4 (zcr (sp (Bv true) (zjr (ret1 (Bv true) rfl rfl ⟨_,rfl,?_,H.base⟩))))
 rw [within_yes ‹_› qf]

theorem l01Times_ok (w:World) (l:yLI) (m:yLI) {al:yOA} {Fl:yLN} {am:yOA} {Fm:yLN} (hl:qU.rep w Fl [Sv al l.length cl] l) (hm:qU.rep w Fm [Sv am m.length cm] m) (p0:l.length≤m.length) (p2:∀ k,k < l.length→0≤m[k]! ∧m[k]! ≤1000) (p3:∃ j,j < l.length∧0 < l[j]!):Calls Tryz.prog 116 #[Sv al l.length cl,Sv am m.length cm] w (Ret (fun v w' =>v=yI (vY l m)) w):=by
 refine en func116 ntmps116 ?_
 have H:=((St.start w).arg hm).arg hl
 have nhl:=qQ hl
 have nhm:=qQ hm
 clear hl hm
 have N:=Fresh.nil w.heap.size
 refine zcr (sp (yI 0) (zjc (sp (yI (-1)) (zjcc (sp (yI 0) (zjn (qZ ?_)))))))
 refine zU (fun m' ρ w1=>∃ (zl:Env) (best:Int) (i:Nat),ρ=upd (upd (upd (upd zl 0 (Sv al l.length cl)) 1 (Sv am m.length cm)) 5 (yI best)) 6 (yI i)∧((i:Int)≤l.length)∧(QX l m i best)∧m' =(l.length - (i:Int)).toNat∧Fresh w.heap.size []∧St w w1 [] [sF false Fl al cl l,sF false Fm am cm m]) ((l.length - (0:Int)).toNat) ⟨_,(-1),0,uE4,qf,(by exact QX.zero l m),rfl,N,H⟩ ?_
 clear H N
 rintro m' ρ w2 ⟨zl,best,i,rfl,i0,i1,rfl,N,H⟩
 refine zcc (sps [yI i,Sv al l.length cl] (oN rfl (sp (Bv (decide ((i:Int) < l.length))) (zjn (cD rfl (fun h3=>?_) (fun h3=>?_))))))
 ·skip
  refine xe (t_n (zg (qZ (zg ?_))))
  refine yj rfl H fun H=>rtp 0 (Sv al l.length cl) H ?_
  refine rtp 1 (yI i) H ?_
  obtain ⟨b5,o6,rfl⟩:=H.addr 0 rfl qf
  refine tI 2 rfl rfl rfl H ?_
  refine tL 3 rfl rfl (fun _ h=>h.QG 0 rfl i qf) H ?_
  refine rtp 4 (Bv (decide ((l[i]! :Int) > 0))) H ?_
  refine rtp 5 (Bv (decide ((l[i]! :Int) > 0))) H ?_
  cases h8:(decide ((l[i]! :Int) > 0))
  ·skip
   replace h8:=of_decide_eq_false h8
   refine zL [6,7,8,9,10,11,12,13,14,15,16,17,18,19,20] 15 (H) (rtp 21 (Bv false) H ?_)
   refine xg qh (t_n (xI false rfl (fun h=>absurd h qj) (fun _=>xe (b_n (t_n (zn (sp (yI i) (sw (zN i 1 rfl rfl (by (have:=p2 i qf;omega)) (sp (yI (i+1)) (zo (xm (m' :=(l.length - ((i+1):Int)).toNat) qf ⟨_,best,i+1,uE4,?_,?_,rfl,N,H⟩))))))))))))
   · omega
   · first | exact i1.take (p2 i qf) qf qf (Xz (fun k hk=>(p2 k hk).1) i qf).1 | exact i1.keep qf | exact i1.keep2 qf qf qf
  replace h8:=of_decide_eq_true h8
  refine rgp 6 (yI best) 18 H ?_
  refine rgp 7 (Bv (decide ((best:Int) < 0))) 18 H ?_
  refine rgp 8 (Bv (decide ((best:Int) < 0))) 18 H ?_
  cases h9:(decide ((best:Int) < 0))
  ·skip
   replace h9:=of_decide_eq_false h9
   refine rgp 9 (Sv am m.length cm) 21 H ?_
   refine rgp 10 (yI i) 21 H ?_
   obtain ⟨b10,o11,rfl⟩:=H.addr 1 rfl qf
   refine gI 11 rfl rfl rfl H ?_
   refine gL 12 rfl rfl (fun _ h=>h.jg 1 rfl i qf qf) H ?_
   refine rgp 13 (Sv (aa b5 o6) l.length cl) 21 H ?_
   refine rgp 14 (yI i) 21 H ?_
   refine gI 15 rfl rfl rfl H ?_
   refine gL 16 rfl rfl (fun _ h=>h.jg 0 rfl i qf qf) H ?_
   refine rg 17 (yI ((m[i]!) / (l[i]!))) 21 (y_quo (m[i]!) (l[i]!) rfl rfl (by (have:=p2 i qf;omega)) (by (have:=p2 i qf;omega))) H ?_
   refine rgp 18 (yI best) 21 H ?_
   refine rgp 19 (Bv (decide (((m[i]!) / (l[i]!):Int) < best))) 21 H ?_
   refine rgp 20 (Bv (decide (((m[i]!) / (l[i]!):Int) < best))) 18 H ?_
   refine rtp 21 (Bv (decide (((m[i]!) / (l[i]!):Int) < best))) H ?_
   refine xg qh (t_n (cD rfl (fun h13=>?_) (fun h13=>?_)))
   ·skip
    refine yj rfl H fun H=>rtp 0 (Sv (aa b10 o11) m.length cm) H ?_
    refine rtp 1 (yI i) H ?_
    refine tI 2 rfl rfl rfl H ?_
    refine tL 3 rfl rfl (fun _ h=>h.QG 1 rfl i qf) H ?_
    refine rtp 4 (Sv (aa b5 o6) l.length cl) H ?_
    refine rtp 5 (yI i) H ?_
    refine tI 6 rfl rfl rfl H ?_
    refine tL 7 rfl rfl (fun _ h=>h.QG 0 rfl i qf) H ?_
    refine rt 8 (yI ((m[i]!) / (l[i]!))) (y_quo (m[i]!) (l[i]!) rfl rfl (by (have:=p2 i qf;omega)) (by (have:=p2 i qf;omega))) H ?_
    refine rtp 9 (yI ((m[i]!) / (l[i]!))) H ?_
    refine xg qh (b_n (t_n (zn (sp (yI i) (sw (zN i 1 rfl rfl (by (have:=p2 i qf;omega)) (sp (yI (i+1)) (zo (xm (m' :=(l.length - ((i+1):Int)).toNat) qf ⟨_,(m[i]!) / (l[i]!),i+1,uE4,?_,?_,rfl,N,H⟩)))))))))
    · omega
    · first | exact i1.take (p2 i qf) qf qf (Xz (fun k hk=>(p2 k hk).1) i qf).1 | exact i1.keep qf | exact i1.keep2 qf qf qf
   refine xe (b_n (t_n (zn (sp (yI i) (sw (zN i 1 rfl rfl (by (have:=p2 i qf;omega)) (sp (yI (i+1)) (zo (xm (m' :=(l.length - ((i+1):Int)).toNat) qf ⟨_,best,i+1,uE4,?_,?_,rfl,N,H⟩)))))))))
   · omega
   · first | exact i1.take (p2 i qf) qf qf (Xz (fun k hk=>(p2 k hk).1) i qf).1 | exact i1.keep qf | exact i1.keep2 qf qf qf
  replace h9:=of_decide_eq_true h9
  refine zL [9,10,11,12,13,14,15,16,17,18,19] 11 (H) (rgp 20 (Bv true) 18 H ?_)
  refine rtp 21 (Bv true) H ?_
  refine xg qh (t_n (xI true rfl (fun _=>?_) (fun h=>absurd h qj)))
  refine yj rfl H fun H=>rtp 0 (Sv am m.length cm) H ?_
  refine rtp 1 (yI i) H ?_
  obtain ⟨b16,o17,rfl⟩:=H.addr 1 rfl qf
  refine tI 2 rfl rfl rfl H ?_
  refine tL 3 rfl rfl (fun _ h=>h.QG 1 rfl i qf) H ?_
  refine rtp 4 (Sv (aa b5 o6) l.length cl) H ?_
  refine rtp 5 (yI i) H ?_
  refine tI 6 rfl rfl rfl H ?_
  refine tL 7 rfl rfl (fun _ h=>h.QG 0 rfl i qf) H ?_
  refine rt 8 (yI ((m[i]!) / (l[i]!))) (y_quo (m[i]!) (l[i]!) rfl rfl (by (have:=p2 i qf;omega)) (by (have:=p2 i qf;omega))) H ?_
  refine rtp 9 (yI ((m[i]!) / (l[i]!))) H ?_
  refine xg qh (b_n (t_n (zn (sp (yI i) (sw (zN i 1 rfl rfl (by (have:=p2 i qf;omega)) (sp (yI (i+1)) (zo (xm (m' :=(l.length - ((i+1):Int)).toNat) qf ⟨_,(m[i]!) / (l[i]!),i+1,uE4,?_,?_,rfl,N,H⟩)))))))))
  · omega
  · first | exact i1.take (p2 i qf) qf qf (Xz (fun k hk=>(p2 k hk).1) i qf).1 | exact i1.keep qf | exact i1.keep2 qf qf qf
 refine zx4 (zcr (sps [yI best,yI best] (zjr (ret1 (yI best) rfl rfl ⟨_,rfl,?_,H.base⟩))))
 obtain rfl:i=l.length:=by omega
 rw [i1.done p3];rfl

theorem l03Both_ok (w:World) (s:qy) (t:qA) {qC:yOA} {qY:yLN} {qK:yOA} {xK:yLN} {qR:yOA} {zq:yLN} {xq:yOA} {zX:yLN} {qN:yOA} {xN:yLN} (hs:jQ w bs os (yS s qC qB qK qI)) (qW:qU.rep w qY [Sv qC s.qw.length qB] s.qw) (xF:qU.rep w xK [Sv qK s.qx.length qI] s.qx) (ht:jQ w bt ot (yT t qR qP xq xn qN qM)) (zy:qU.rep w zq [Sv qR t.qF.length qP] t.qF) (ve:qU.rep w zX [Sv xq t.qG.length xn] t.qG) (xW:qU.rep w xN [Sv qN t.qH.length qM] t.qH):Calls Tryz.prog 53 #[pp bs os,pp bt ot] w (Ret (fun v w' =>v=Bv (dec (vw s∧xJ s t))) w):=by
 refine en func53 ntmps53 ?_
 have H:=(((((((St.start w).arg xW).arg ve).arg zy).argAt ht).arg xF).arg qW).argAt hs
 have vH:=qQ qW
 have jM:=qQ xF
 have Qg:=qQ zy
 have QZ:=qQ ve
 have yC:=qQ xW
 clear hs qW xF ht zy ve xW
 have N:=Fresh.nil w.heap.size
 refine zcr (sp (Bv false) (zjc (sp (pp bs os) (sw (oq (l02Ok_ok _ s (qJ (H.get 0 rfl) 0 3) (H.get 1 rfl).1 (H.get 2 rfl).1) H fun w1 H=>sp (Bv (dec (vw s))) ?_)))))
 cases h3:(dec (vw s))
 ·skip
  replace h3:=zO h3
  refine xU [8,9,10] (sps [Bv false,Bv false] (zjr (ret1 (Bv false) rfl rfl ⟨_,rfl,?_,H.base⟩)))
  rw [xk (fun h=>‹¬ vw s› h.1)]
 replace h3:=yB h3
 refine qL 7 rfl rfl (sp (pp bs os) (qL 7 rfl rfl (sp (pp bt ot) (qL 7 rfl rfl (sw (oq (l02State_ok _ s t (qJ (H.get 0 rfl) 0 3) (H.get 1 rfl).1 (H.get 2 rfl).1 (qJ (H.get 3 rfl) 0 3) (H.get 4 rfl).1 (H.get 5 rfl).1 (H.get 6 rfl).1 (by first | assumption | exact (And.left (by assumption:vw _)))) H fun w4 H=>sps [Bv (dec (xJ s t)),Bv (dec (xJ s t))] (zjr (ret1 (Bv (dec (xJ s t))) rfl rfl ⟨_,rfl,(congrArg Value.bool (dec_eq ?_)),H.base⟩))))))))
 first | exact ⟨fun h=>⟨‹_›,yB h⟩,fun h=>yl h.2⟩ | (simp_all;done)

theorem l03Enabled_ok (w:World) (s:qy) (t:qA) (r:jy) {qC:yOA} {qY:yLN} {qK:yOA} {xK:yLN} {qR:yOA} {zq:yLN} {xq:yOA} {zX:yLN} {qN:yOA} {xN:yLN} {jo:yOA} {Q8:yLN} {jv:yOA} {Xb:yLN} {jq:yOA} {Q9:yLN} {je:yOA} {Xa:yLN} {yG:yOA} {FrOut:yLN} {vX:yOA} {XM:yLN} (hs:jQ w bs os (yS s qC qB qK qI)) (qW:qU.rep w qY [Sv qC s.qw.length qB] s.qw) (xF:qU.rep w xK [Sv qK s.qx.length qI] s.qx) (ht:jQ w bt ot (yT t qR qP xq xn qN qM)) (zy:qU.rep w zq [Sv qR t.qF.length qP] t.qF) (ve:qU.rep w zX [Sv xq t.qG.length xn] t.qG) (xW:qU.rep w xN [Sv qN t.qH.length qM] t.qH) (hr:jQ w br or [yI r.qE,yI r.vI,Sv jo r.xM.length ji,Sv jv r.zF.length jm,Sv jq r.zD.length jk,Sv je r.zC.length jd,Sv yG r.jI.length yD,Sv vX r.qO.length vW,Bv r.zV]) (hrNeed:qU.rep w Q8 [Sv jo r.xM.length ji] r.xM) (hrHave:qU.rep w Xb [Sv jv r.zF.length jm] r.zF) (hrLack:qU.rep w Q9 [Sv jq r.zD.length jk] r.zD) (hrHere:qU.rep w Xa [Sv je r.zC.length jd] r.zC) (hrOut:qU.rep w FrOut [Sv yG r.jI.length yD] r.jI) (hrInto:qU.rep w XM [Sv vX r.qO.length vW] r.qO) (p0:vw s) (p1:xJ s t) (p2:RuleOk s r):Calls Tryz.prog 174 #[pp bs os,pp bt ot,pp br or] w (Ret (fun v w' =>v=Bv (dec (EnOk s t r))) w):=by
 refine en func174 ntmps174 ?_
 have H:=((((((((((((((St.start w).arg hrInto).arg hrOut).arg hrHere).arg hrLack).arg hrHave).arg hrNeed).argAt hr).arg xW).arg ve).arg zy).argAt ht).arg xF).arg qW).argAt hs
 have vH:=qQ qW
 have jM:=qQ xF
 have Qg:=qQ zy
 have QZ:=qQ ve
 have yC:=qQ xW
 have nhrNeed:=qQ hrNeed
 have nhrHave:=qQ hrHave
 have nhrLack:=qQ hrLack
 have nhrHere:=qQ hrHere
 have nhrOut:=qQ hrOut
 have nhrInto:=qQ hrInto
 clear hs qW xF ht zy ve xW hr hrNeed hrHave hrLack hrHere hrOut hrInto
 have N:=Fresh.nil w.heap.size
 have p3:=p2.1
 have p4:=p1.1
 have p5:=p1.2.1
 have p6:=(p1.bagLen (k:=r.qE.toNat) qf).len
 have p7:=p2.2.2.2.2.1.len
 have p8:=p2.2.2.2.2.2.1.len
 have p9:=p2.2.2.2.2.2.2.1.len
 have p10:=vG p2.2.2.2.2.2.2.1
 have p11:=p0.1
 have p12:=p2.2.2.2.2.2.2.2.2.2.2
 refine zcr (sp (Bv false) (zjn (zg (zg ?_))))
 refine yj rfl H fun H=>rtp 0 (pp bt ot) H ?_
 refine rtp 1 (pp bt ot) H ?_
 refine tF 2 rfl rfl H ?_
 refine tL 3 rfl rfl (fun _ h=>h.zu 3 rfl 0 rfl) H ?_
 refine rtp 4 (pp br or) H ?_
 refine rtp 5 (pp br or) H ?_
 refine tF 6 rfl rfl H ?_
 refine tL 7 rfl rfl (fun _ h=>h.zu 7 rfl 0 rfl) H ?_
 obtain ⟨b2,o3,rfl⟩:=H.addr 4 rfl qf
 refine tI 8 rfl rfl rfl H ?_
 refine tL 9 rfl rfl (fun _ h=>h.XE 4 rfl r.qE qf qf) H ?_
 refine rtp 10 (Bv (!(t.qF[r.qE.toNat]!))) H ?_
 refine xg qh (t_n (xI (!(t.qF[r.qE.toNat]!)) rfl (fun h5=>?_) (fun h5=>?_)))
 ·skip
  replace h5:=xC h5
  refine zcr (sp (Bv false) (zjr (t_r (ret1 (Bv false) rfl rfl ⟨_,rfl,?_,H.base⟩))))
  rw [xk (fun h=>by obtain ⟨h1,h2,h3,h4,h5⟩:=h;first | exact ft h1 ‹_› | exact ft h2 ‹_› | exact ft h3 ‹_› | exact h4 ⟨‹_›,‹_›⟩ | (obtain ⟨q1,q2⟩:=h5 i qf;first | exact ft q1 ‹_› | exact absurd q2 ‹_›))]
 replace h5:=xw h5
 refine xe (t_n (zg ?_))
 refine yj rfl H fun H=>rtp 0 (pp bt ot) H ?_
 refine rtp 1 (pp bt ot) H ?_
 refine tF 2 rfl rfl H ?_
 refine tL 3 rfl rfl (fun _ h=>h.zu 3 rfl 1 rfl) H ?_
 refine rtp 4 (pp br or) H ?_
 refine rtp 5 (pp br or) H ?_
 refine tF 6 rfl rfl H ?_
 refine tL 7 rfl rfl (fun _ h=>h.zu 7 rfl 0 rfl) H ?_
 obtain ⟨b7,o8,rfl⟩:=H.addr 5 rfl qf
 obtain ⟨ae10,ce10,Fe10,H⟩:=H.jS 5 rfl r.qE r.qE.toNat qf qf qf
 refine tI 8 rfl rfl rfl (H.pick [] [2,3,4,5,6,7,8,9,10,11,12,13,14,15]) ?_
 refine ro 9 rfl (zt (Sv ae10 ((t.qG[r.qE.toNat]!).length) ce10) isAgg24 rfl (H.zu 1 rfl 0 rfl) (⟨H.pick [] [2,3,4,5,6,7,8,9,10,11,12,13,14,15],(rtp 10 (Sv ae10 ((t.qG[r.qE.toNat]!).length) ce10) (H.pick [] [2,3,4,5,6,7,8,9,10,11,12,13,14,15]) ?_)⟩))
 refine xg qh (t_n (zcc (sps [pp br or,pp br or] (oF rfl (oL rfl (H.zu 9 rfl 2 rfl) (sp (Sv ae10 ((t.qG[r.qE.toNat]!).length) ce10) (sw (oq (l01Within_ok _ r.xM (t.qG[r.qE.toNat]!) (H.get 10 rfl).1 (H.get 0 rfl).1 qg) H fun w12 H=>sps [Bv (!(within r.xM (t.qG[r.qE.toNat]!))),Bv (!(within r.xM (t.qG[r.qE.toNat]!)))] ?_))))))))
 cases h14:(!(within r.xM (t.qG[r.qE.toNat]!)))
 ·skip
  replace h14:=xw h14
  refine qL 38 rfl rfl (sp (pp br or) (qL 38 rfl rfl (sp (pp br or) (qL 38 rfl rfl (oF rfl (qL 38 rfl rfl (oL rfl (H.zu 9 rfl 3 rfl) (qL 38 rfl rfl (sp (Sv ae10 ((t.qG[r.qE.toNat]!).length) ce10) (qL 38 rfl rfl (sw (oq (l01Within_ok _ r.zF (t.qG[r.qE.toNat]!) (H.get 11 rfl).1 (H.get 0 rfl).1 qg) H fun w16 H=>qL 38 rfl rfl (sps [Bv (!(within r.zF (t.qG[r.qE.toNat]!))),Bv (!(within r.zF (t.qG[r.qE.toNat]!))),Bv (!(within r.zF (t.qG[r.qE.toNat]!)))] ?_)))))))))))))
  cases h18:(!(within r.zF (t.qG[r.qE.toNat]!)))
  ·skip
   replace h18:=xw h18
   refine qL 47 rfl rfl (sp (pp br or) (qL 47 rfl rfl (sp (pp br or) (qL 47 rfl rfl (oF rfl (qL 47 rfl rfl (oL rfl (H.zu 9 rfl 4 rfl) (qL 47 rfl rfl (sw (oq (XC _ r.zD (H.get 12 rfl).1 (by first | assumption | exact vG ql | exact yF ql)) H fun w19 H=>qL 47 rfl rfl (sp (Bv (decide ((QJ r.zD:Int) > 0))) (qL 47 rfl rfl (sp (Bv (decide ((QJ r.zD:Int) > 0))) ?_)))))))))))))
   cases h21:(decide ((QJ r.zD:Int) > 0))
   ·skip
    replace h21:=of_decide_eq_false h21
    refine xU [55,56,57,58,59,60] (qL 47 rfl rfl (sps [Bv false,Bv false] (zjn (xI false rfl (fun h=>absurd h qj) (fun _=>xe (t_n (zcc (sp (yI 0) (zjn (qZ ?_))))))))))
    refine zU (fun m' ρ w22=>∃ (zl:Env) (i:Nat),ρ=upd (upd (upd (upd zl 0 (pp bs os)) 1 (pp bt ot)) 2 (pp br or)) 8 (yI i)∧((i:Int)≤r.qO.length)∧(IntoUp s t r i)∧m' =(r.qO.length - (i:Int)).toNat∧Fresh w.heap.size []∧St w w22 [] [sF false Fe10 ae10 ce10 (t.qG[r.qE.toNat]!),atF b7 (o8+(r.qE:Int).toNat * 1) [Sv ae10 ((t.qG[r.qE.toNat]!).length) ce10],atF bs os (yS s qC qB qK qI),sF false qY qC qB s.qw,sF false xK qK qI s.qx,atF bt ot [Sv (aa b2 o3) t.qF.length qP,Sv (aa b7 o8) t.qG.length xn,Sv qN t.qH.length qM],sF false zq (aa b2 o3) qP t.qF,sF false zX (aa b7 o8) xn t.qG,sF false xN qN qM t.qH,atF br or [yI r.qE,yI r.vI,Sv jo r.xM.length ji,Sv jv r.zF.length jm,Sv jq r.zD.length jk,Sv je r.zC.length jd,Sv yG r.jI.length yD,Sv vX r.qO.length vW,Bv r.zV],sF false Q8 jo ji r.xM,sF false Xb jv jm r.zF,sF false Q9 jq jk r.zD,sF false Xa je jd r.zC,sF false FrOut yG yD r.jI,sF false XM vX vW r.qO]) ((r.qO.length - (0:Int)).toNat) ⟨_,0,uE4,qf,(by exact fun j hj=>by omega),rfl,N,H⟩ ?_
    clear H N
    rintro m' ρ w23 ⟨zl,i,rfl,i0,i1,rfl,N,H⟩
    refine zcc (sps [yI i,pp br or,pp br or] (oF rfl (oL rfl (H.zu 9 rfl 7 rfl) (oN rfl (sp (Bv (decide ((i:Int) < r.qO.length))) (zjn (cD rfl (fun h24=>?_) (fun h24=>?_))))))))
    ·skip
     have q:=(p12 i qf).1
     have q1:=q.1
     have q2:=q.2
     refine xe (t_n (zg (qZ (zcr (sps [pp br or,pp br or] (oF rfl (oL rfl (H.zu 9 rfl 7 rfl) (sp (yI i) ?_))))))))
     obtain ⟨b25,o26,rfl⟩:=H.addr 15 rfl qf
     obtain ⟨ae28Bag,ce28Bag,Fe28Bag,H⟩:=H.yZ 15 rfl i i qf qf qf
     refine oI rfl rfl (oF rfl (oL rfl (H.zu 1 rfl 0 rfl) (sp (yI ((r.qO[i]!).qE)) (zjn (zg ?_)))))
     refine yj rfl H fun H=>rtp 0 (pp bt ot) H ?_
     refine rtp 1 (pp bt ot) H ?_
     refine tF 2 rfl rfl H ?_
     refine tL 3 rfl rfl (fun _ h=>h.zu 7 rfl 0 rfl) H ?_
     refine rtp 4 (yI ((r.qO[i]!).qE)) H ?_
     refine tI 5 rfl rfl rfl H ?_
     refine tL 6 rfl rfl (fun _ h=>h.XE 8 rfl ((r.qO[i]!).qE) qf qf) H ?_
     refine rtp 7 (Bv (!(t.qF[((r.qO[i]!).qE).toNat]!))) H ?_
     refine rtp 8 (Bv (!(t.qF[((r.qO[i]!).qE).toNat]!))) H ?_
     cases h30:(!(t.qF[((r.qO[i]!).qE).toNat]!))
     ·skip
      replace h30:=xw h30
      refine rgp 9 (pp bs os) 88 H ?_
      refine rgp 10 (pp bt ot) 88 H ?_
      refine rgp 11 (yI ((r.qO[i]!).qE)) 88 H ?_
      refine rgp 13 (pp br or) 88 H ?_
      refine rgp 14 (pp br or) 88 H ?_
      refine gF 15 rfl rfl H ?_
      refine gL 16 rfl rfl (fun _ h=>h.zu 11 rfl 0 rfl) H ?_
      refine zH [12] qh qm (Xg rfl (e:=88) rfl rfl (oq (l02Parent_ok _ s t ((r.qO[i]!).qE) (qJ (H.get 4 rfl) 0 3) (H.get 5 rfl).1 (H.get 6 rfl).1 (qJ (H.get 7 rfl) 0 3) (H.get 8 rfl).1 (H.get 9 rfl).1 (H.get 10 rfl).1 ql ql ql) H fun w31 H=>⟨H,(rgp 17 (Bv ((xh s t ((r.qO[i]!).qE):Int) != r.qE)) 88 H ?_)⟩) zI)
      refine rtp 18 (Bv ((xh s t ((r.qO[i]!).qE):Int) != r.qE)) H ?_
      refine xg qh (t_n (xI ((xh s t ((r.qO[i]!).qE):Int) != r.qE) rfl (fun h33=>?_) (fun h33=>?_)))
      ·skip
       replace h33:=bne_iff_ne.1 h33
       refine zcr (sp (Bv false) (zjr (zr5 (ret1 (Bv false) rfl rfl ⟨_,rfl,?_,H.base⟩))))
       rw [xk (fun h=>by obtain ⟨h1,h2,h3,h4,h5⟩:=h;first | exact ft h1 ‹_› | exact ft h2 ‹_› | exact ft h3 ‹_› | exact h4 ⟨‹_›,‹_›⟩ | (obtain ⟨q1,q2⟩:=h5 i qf;first | exact ft q1 ‹_› | exact absurd q2 ‹_›))]
      replace h33:=zh h33
      refine xe (b_n (t_n (zn (sp (yI i) (sw (zN i 1 rfl rfl qf (sp (yI (i+1)) (zo (xm (m' :=(r.qO.length - ((i+1):Int)).toNat) qf ⟨_,i+1,uE4,?_,?_,rfl,N,H.pick [] [2,3,4,5,6,7,8,9,10,11,12,13,14,15,16,17]⟩)))))))))
      · omega
      · exact i1.succ ‹_› ‹_›
     replace h30:=xC h30
     refine zL [9,10,11,12,13,14,15,16,17] 9 (H) (rtp 18 (Bv true) H ?_)
     refine xg qh (t_n (xI true rfl (fun _=>zcr (sp (Bv false) (zjr (zr5 (ret1 (Bv false) rfl rfl ⟨_,rfl,?_,H.base⟩))))) (fun h=>absurd h qj)))
     rw [xk (fun h=>by obtain ⟨h1,h2,h3,h4,h5⟩:=h;first | exact ft h1 ‹_› | exact ft h2 ‹_› | exact ft h3 ‹_› | exact h4 ⟨‹_›,‹_›⟩ | (obtain ⟨q1,q2⟩:=h5 i qf;first | exact ft q1 ‹_› | exact absurd q2 ‹_›))]
    refine zx4 (zcr (sp (Bv true) (zjr (ret1 (Bv true) rfl rfl ⟨_,rfl,?_,H.base⟩))))
    rw [yl ⟨by assumption,by assumption,by assumption,fun ⟨u,v⟩=>by first | omega | exact ft v ‹_›,(show i=r.qO.length by omega)▸i1⟩]
   replace h21:=of_decide_eq_true h21
   refine qL 54 rfl rfl (sp (pp br or) (qL 54 rfl rfl (sp (pp br or) (qL 54 rfl rfl (oF rfl (qL 54 rfl rfl (oL rfl (H.zu 9 rfl 4 rfl) (qL 54 rfl rfl (sp (Sv ae10 ((t.qG[r.qE.toNat]!).length) ce10) (qL 54 rfl rfl (sw (oq (l01Within_ok _ r.zD (t.qG[r.qE.toNat]!) (H.get 12 rfl).1 (H.get 0 rfl).1 qg) H fun w35 H=>qL 47 rfl rfl (sps [Bv (within r.zD (t.qG[r.qE.toNat]!)),Bv (within r.zD (t.qG[r.qE.toNat]!))] (zjn (xI (within r.zD (t.qG[r.qE.toNat]!)) rfl (fun h37=>?_) (fun h37=>?_))))))))))))))))
   ·skip
    refine zcr (sp (Bv false) (zjr (t_r (ret1 (Bv false) rfl rfl ⟨_,rfl,?_,H.base⟩))))
    rw [xk (fun h=>by obtain ⟨h1,h2,h3,h4,h5⟩:=h;first | exact ft h1 ‹_› | exact ft h2 ‹_› | exact ft h3 ‹_› | exact h4 ⟨‹_›,‹_›⟩ | (obtain ⟨q1,q2⟩:=h5 i qf;first | exact ft q1 ‹_› | exact absurd q2 ‹_›))]
   refine xe (t_n (zcc (sp (yI 0) (zjn (qZ ?_)))))
   refine zU (fun m' ρ w38=>∃ (zl:Env) (i:Nat),ρ=upd (upd (upd (upd zl 0 (pp bs os)) 1 (pp bt ot)) 2 (pp br or)) 8 (yI i)∧((i:Int)≤r.qO.length)∧(IntoUp s t r i)∧m' =(r.qO.length - (i:Int)).toNat∧Fresh w.heap.size []∧St w w38 [] [sF false Fe10 ae10 ce10 (t.qG[r.qE.toNat]!),atF b7 (o8+(r.qE:Int).toNat * 1) [Sv ae10 ((t.qG[r.qE.toNat]!).length) ce10],atF bs os (yS s qC qB qK qI),sF false qY qC qB s.qw,sF false xK qK qI s.qx,atF bt ot [Sv (aa b2 o3) t.qF.length qP,Sv (aa b7 o8) t.qG.length xn,Sv qN t.qH.length qM],sF false zq (aa b2 o3) qP t.qF,sF false zX (aa b7 o8) xn t.qG,sF false xN qN qM t.qH,atF br or [yI r.qE,yI r.vI,Sv jo r.xM.length ji,Sv jv r.zF.length jm,Sv jq r.zD.length jk,Sv je r.zC.length jd,Sv yG r.jI.length yD,Sv vX r.qO.length vW,Bv r.zV],sF false Q8 jo ji r.xM,sF false Xb jv jm r.zF,sF false Q9 jq jk r.zD,sF false Xa je jd r.zC,sF false FrOut yG yD r.jI,sF false XM vX vW r.qO]) ((r.qO.length - (0:Int)).toNat) ⟨_,0,uE4,qf,(by exact fun j hj=>by omega),rfl,N,H⟩ ?_
   clear H N
   rintro m' ρ w39 ⟨zl,i,rfl,i0,i1,rfl,N,H⟩
   refine zcc (sps [yI i,pp br or,pp br or] (oF rfl (oL rfl (H.zu 9 rfl 7 rfl) (oN rfl (sp (Bv (decide ((i:Int) < r.qO.length))) (zjn (cD rfl (fun h40=>?_) (fun h40=>?_))))))))
   ·skip
    have q:=(p12 i qf).1
    have q1:=q.1
    have q2:=q.2
    refine xe (t_n (zg (qZ (zcr (sps [pp br or,pp br or] (oF rfl (oL rfl (H.zu 9 rfl 7 rfl) (sp (yI i) ?_))))))))
    obtain ⟨b41,o42,rfl⟩:=H.addr 15 rfl qf
    obtain ⟨ae44Bag,ce44Bag,Fe44Bag,H⟩:=H.yZ 15 rfl i i qf qf qf
    refine oI rfl rfl (oF rfl (oL rfl (H.zu 1 rfl 0 rfl) (sp (yI ((r.qO[i]!).qE)) (zjn (zg ?_)))))
    refine yj rfl H fun H=>rtp 0 (pp bt ot) H ?_
    refine rtp 1 (pp bt ot) H ?_
    refine tF 2 rfl rfl H ?_
    refine tL 3 rfl rfl (fun _ h=>h.zu 7 rfl 0 rfl) H ?_
    refine rtp 4 (yI ((r.qO[i]!).qE)) H ?_
    refine tI 5 rfl rfl rfl H ?_
    refine tL 6 rfl rfl (fun _ h=>h.XE 8 rfl ((r.qO[i]!).qE) qf qf) H ?_
    refine rtp 7 (Bv (!(t.qF[((r.qO[i]!).qE).toNat]!))) H ?_
    refine rtp 8 (Bv (!(t.qF[((r.qO[i]!).qE).toNat]!))) H ?_
    cases h46:(!(t.qF[((r.qO[i]!).qE).toNat]!))
    ·skip
     replace h46:=xw h46
     refine rgp 9 (pp bs os) 88 H ?_
     refine rgp 10 (pp bt ot) 88 H ?_
     refine rgp 11 (yI ((r.qO[i]!).qE)) 88 H ?_
     refine rgp 13 (pp br or) 88 H ?_
     refine rgp 14 (pp br or) 88 H ?_
     refine gF 15 rfl rfl H ?_
     refine gL 16 rfl rfl (fun _ h=>h.zu 11 rfl 0 rfl) H ?_
     refine zH [12] qh qm (Xg rfl (e:=88) rfl rfl (oq (l02Parent_ok _ s t ((r.qO[i]!).qE) (qJ (H.get 4 rfl) 0 3) (H.get 5 rfl).1 (H.get 6 rfl).1 (qJ (H.get 7 rfl) 0 3) (H.get 8 rfl).1 (H.get 9 rfl).1 (H.get 10 rfl).1 ql ql ql) H fun w47 H=>⟨H,(rgp 17 (Bv ((xh s t ((r.qO[i]!).qE):Int) != r.qE)) 88 H ?_)⟩) zI)
     refine rtp 18 (Bv ((xh s t ((r.qO[i]!).qE):Int) != r.qE)) H ?_
     refine xg qh (t_n (xI ((xh s t ((r.qO[i]!).qE):Int) != r.qE) rfl (fun h49=>?_) (fun h49=>?_)))
     ·skip
      replace h49:=bne_iff_ne.1 h49
      refine zcr (sp (Bv false) (zjr (zr5 (ret1 (Bv false) rfl rfl ⟨_,rfl,?_,H.base⟩))))
      rw [xk (fun h=>by obtain ⟨h1,h2,h3,h4,h5⟩:=h;first | exact ft h1 ‹_› | exact ft h2 ‹_› | exact ft h3 ‹_› | exact h4 ⟨‹_›,‹_›⟩ | (obtain ⟨q1,q2⟩:=h5 i qf;first | exact ft q1 ‹_› | exact absurd q2 ‹_›))]
     replace h49:=zh h49
     refine xe (b_n (t_n (zn (sp (yI i) (sw (zN i 1 rfl rfl qf (sp (yI (i+1)) (zo (xm (m' :=(r.qO.length - ((i+1):Int)).toNat) qf ⟨_,i+1,uE4,?_,?_,rfl,N,H.pick [] [2,3,4,5,6,7,8,9,10,11,12,13,14,15,16,17]⟩)))))))))
     · omega
     · exact i1.succ ‹_› ‹_›
    replace h46:=xC h46
    refine zL [9,10,11,12,13,14,15,16,17] 9 (H) (rtp 18 (Bv true) H ?_)
    refine xg qh (t_n (xI true rfl (fun _=>zcr (sp (Bv false) (zjr (zr5 (ret1 (Bv false) rfl rfl ⟨_,rfl,?_,H.base⟩))))) (fun h=>absurd h qj)))
    rw [xk (fun h=>by obtain ⟨h1,h2,h3,h4,h5⟩:=h;first | exact ft h1 ‹_› | exact ft h2 ‹_› | exact ft h3 ‹_› | exact h4 ⟨‹_›,‹_›⟩ | (obtain ⟨q1,q2⟩:=h5 i qf;first | exact ft q1 ‹_› | exact absurd q2 ‹_›))]
   refine zx4 (zcr (sp (Bv true) (zjr (ret1 (Bv true) rfl rfl ⟨_,rfl,?_,H.base⟩))))
   rw [yl ⟨by assumption,by assumption,by assumption,fun ⟨u,v⟩=>by first | omega | exact ft v ‹_›,(show i=r.qO.length by omega)▸i1⟩]
  replace h18:=xC h18
  refine xU [48,49,50,51,52,53,54,55,56,57,58,59,60,61] (sp (Bv true) (zjn (xI true rfl (fun _=>zcr (sp (Bv false) (zjr (t_r (ret1 (Bv false) rfl rfl ⟨_,rfl,?_,H.base⟩))))) (fun h=>absurd h qj))))
  rw [xk (fun h=>by obtain ⟨h1,h2,h3,h4,h5⟩:=h;first | exact ft h1 ‹_› | exact ft h2 ‹_› | exact ft h3 ‹_› | exact h4 ⟨‹_›,‹_›⟩ | (obtain ⟨q1,q2⟩:=h5 i qf;first | exact ft q1 ‹_› | exact absurd q2 ‹_›))]
 replace h14:=xC h14
 refine xU [39,40,41,42,43,44,45] (sps [Bv true,Bv true] (xU [48,49,50,51,52,53,54,55,56,57,58,59,60,61] (sp (Bv true) (zjn (xI true rfl (fun _=>zcr (sp (Bv false) (zjr (t_r (ret1 (Bv false) rfl rfl ⟨_,rfl,?_,H.base⟩))))) (fun h=>absurd h qj))))))
 rw [xk (fun h=>by obtain ⟨h1,h2,h3,h4,h5⟩:=h;first | exact ft h1 ‹_› | exact ft h2 ‹_› | exact ft h3 ‹_› | exact h4 ⟨‹_›,‹_›⟩ | (obtain ⟨q1,q2⟩:=h5 i qf;first | exact ft q1 ‹_› | exact absurd q2 ‹_›))]

theorem l03Applicable_ok (w:World) (s:qy) (t:qA) {qC:yOA} {qY:yLN} {qK:yOA} {xK:yLN} {qR:yOA} {zq:yLN} {xq:yOA} {zX:yLN} {qN:yOA} {xN:yLN} (hs:jQ w bs os (yS s qC qB qK qI)) (qW:qU.rep w qY [Sv qC s.qw.length qB] s.qw) (xF:qU.rep w xK [Sv qK s.qx.length qI] s.qx) (ht:jQ w bt ot (yT t qR qP xq xn qN qM)) (zy:qU.rep w zq [Sv qR t.qF.length qP] t.qF) (ve:qU.rep w zX [Sv xq t.qG.length xn] t.qG) (xW:qU.rep w xN [Sv qN t.qH.length qM] t.qH) (p0:vw s) (p1:xJ s t):Calls Tryz.prog 110 #[pp bs os,pp bt ot] w (Ret (fun v w' =>∃ (ra:yOA) (rn:Nat) (rc:Nat),v=Sv ra rn rc∧Fresh w.heap.size []∧St w w' [rr ra rn rc 4 1 ((appl s t).map (Value.bool))] []) w):=by
 refine en func110 ntmps110 ?_
 have H:=(((((((St.start w).arg xW).arg ve).arg zy).argAt ht).arg xF).arg qW).argAt hs
 have vH:=qQ qW
 have jM:=qQ xF
 have Qg:=qQ zy
 have QZ:=qQ ve
 have yC:=qQ xW
 clear hs qW xF ht zy ve xW
 have N:=Fresh.nil w.heap.size
 have p2:=p0.2.1
 have p3:=p0.1.2.1
 refine zcr (sp yN (zjc (sps [pp bs os,pp bs os] (oF rfl (oL rfl (H.zu 0 rfl 1 rfl) (oN rfl (sw (zf H underlying24 ti2 s.qw.length rfl rfl qf qf qf fun b1 w2 H=>sp (Sv (aa b1 0) s.qw.length s.qw.length) (zjc (sw (jR H underlying28 ti4 fun b3 w4 H=>sp (Sv (aa b3 0) 0 0) (zjcc (sp (yI 0) (zjn (qZ ?_)))))))))))))))
 replace H:=H.boxRowB 0 [] 0
 refine zU (fun m' ρ w5=>∃ (zl:Env) (jH:yOA) (zY:Nat) (vV:Nat) (out:List Bool) (i:Nat) (best:yLI),ρ=upd (upd (upd (upd (upd zl 0 (pp bs os)) 1 (pp bt ot)) 5 (Sv (aa b1 0) s.qw.length s.qw.length)) 6 (Sv jH zY vV)) 7 (yI i)∧out=applB s t 0 i∧best=bests s t 0 s.qw.length i∧((i:Int)≤s.qx.length)∧m' =(s.qx.length - (i:Int)).toNat∧Fresh w.heap.size []∧St w w5 [rr jH zY vV 4 1 (out.map (Value.bool)),rr (aa b1 0) s.qw.length s.qw.length 2 1 (best.map (Value.int .i64))] [atF bs os (yS s qC qB qK qI),sF false qY qC qB s.qw,sF false xK qK qI s.qx,atF bt ot (yT t qR qP xq xn qN qM),sF false zq qR qP t.qF,sF false zX xq xn t.qG,sF false xN qN qM t.qH]) ((s.qx.length - (0:Int)).toNat) ⟨_,(aa b3 0),0,0,([]:List Bool),0,(List.replicate s.qw.length (0:Int)),uE5,(by rfl),(by exact bests_zero s t 0 _),qf,rfl,N,H⟩ ?_
 clear H N
 rintro m' ρ w6 ⟨zl,jH,zY,vV,out,i,best,rfl,rfl,rfl,i0,rfl,N,H⟩
 have hn_out:=H.rowNB 0 rfl
 have hn_best:=H.vM 1 rfl
 have bl:=Xh s t 0 s.qw.length i
 have al:=applB_len s t 0 i
 refine zcc (sps [yI i,pp bs os,pp bs os] (oF rfl (oL rfl (H.zu 0 rfl 2 rfl) (oN rfl (sp (Bv (decide ((i:Int) < s.qx.length))) (zjn (cD rfl (fun h7=>?_) (fun h7=>?_))))))))
 ·skip
  have q:=p0.rule (i:=i) qf
  have qc:=q.1
  have qk:=q.cell
  have qr:=q.2.1
  refine xe (t_n (zg (qZ (zcr (sps [pp bs os,pp bs os] (oF rfl (oL rfl (H.zu 0 rfl 2 rfl) (sp (yI i) ?_))))))))
  obtain ⟨b8,o9,rfl⟩:=H.addr 2 rfl qf
  obtain ⟨ae11Need,ce11Need,Fe11Need,ae11Have,ce11Have,Fe11Have,ae11Lack,ce11Lack,Fe11Lack,ae11Here,ce11Here,Fe11Here,ae11Out,ce11Out,Fe11Out,ae11Into,ce11Into,Fe11Into,H⟩:=H.yY 2 rfl i i qf qf qf
  refine oI rfl rfl (sp (pp b8 (o9+(i:Int).toNat * 9)) (zjc (sps [pp bs os,pp bt ot,pp b8 (o9+(i:Int).toNat * 9)] (sw (oq (l03Enabled_ok _ s t (s.qx[i]!) (qJ (H.get 7 rfl) 0 3) (H.get 8 rfl).1 (H.get 9 rfl).1 (qJ (H.get 10 rfl) 0 3) (H.get 11 rfl).1 (H.get 12 rfl).1 (H.get 13 rfl).1 (qJ (H.get 6 rfl) 0 9) (H.get 0 rfl).1 (H.get 1 rfl).1 (H.get 2 rfl).1 (H.get 3 rfl).1 (H.get 4 rfl).1 (H.get 5 rfl).1 qg qg qg) H fun w13 H=>?_)))))
  refine sp (Bv (dec (EnOk s t (s.qx[i]!)))) (zjc (sps [Sv jH zY vV,Bv (dec (EnOk s t (s.qx[i]!)))] (sw (zJ H underlying28 ti4 [Bv (dec (EnOk s t (s.qx[i]!)))] fun b15 w16 H=>sw (zM H 1 rfl 0 rfl underlying28 ti4 rfl qj rfl rfl rfl (by simp [Value.oneCell',Value.cells]) qp qf fun a17 c18 w19 H=>?_)))))
  rw [snocB] at H
  refine sp (Sv a17 (zY+1) c18) (zjc (sp (Bv (dec (EnOk s t (s.qx[i]!)))) (zjn (cP rfl (fun h20=>?_) (fun h20=>?_)))))
  ·skip
   refine Qe rfl H [0,1] fun H=>?_
   have S:=H.jG [0,1] [0,1,2,3,4,5,6,7,8,9,10,11,12,13]
   refine rtp 0 (Sv (aa b1 0) s.qw.length s.qw.length) S ?_
   refine rtp 1 (pp b8 (o9+(i:Int).toNat * 9)) S ?_
   refine rtp 2 (pp b8 (o9+(i:Int).toNat * 9)) S ?_
   refine tF 3 rfl rfl S ?_
   refine tL 4 rfl rfl (fun _ h=>h.zu 6 rfl 0 rfl) S ?_
   refine rtp 5 (Sv (aa b1 0) s.qw.length s.qw.length) S ?_
   refine rtp 6 (pp b8 (o9+(i:Int).toNat * 9)) S ?_
   refine rtp 7 (pp b8 (o9+(i:Int).toNat * 9)) S ?_
   refine tF 8 rfl rfl S ?_
   refine tL 9 rfl rfl (fun _ h=>h.zu 6 rfl 0 rfl) S ?_
   refine tI 10 rfl rfl rfl S ?_
   refine rtp 12 (pp b8 (o9+(i:Int).toNat * 9)) S ?_
   refine rtp 13 (pp b8 (o9+(i:Int).toNat * 9)) S ?_
   refine tF 14 rfl rfl S ?_
   refine tL 15 rfl rfl (fun _ h=>h.zu 6 rfl 1 rfl) S ?_
   refine ro 11 rfl (zt (yI ((bests s t 0 s.qw.length i)[((s.qx[i]!).qE).toNat]!)) isAgg2 rfl (H.rowInt 2 rfl (iv:=(s.qx[i]!).qE) (i:=(((s.qx[i]!).qE).toNat)) qf qf) (⟨H.pick [0,1] [0,1,2,3,4,5,6,7,8,9,10,11,12,13],(ro 16 rfl (oq (l00Max_ok w19.drew ((bests s t 0 s.qw.length i)[((s.qx[i]!).qE).toNat]!) ((s.qx[i]!).vI)) H fun w23 H=>⟨H.pick [0,1] [0,1,2,3,4,5,6,7,8,9,10,11,12,13],(tI 17 rfl rfl rfl (H.pick [0,1] [0,1,2,3,4,5,6,7,8,9,10,11,12,13]) ?_)⟩))⟩))
   refine ro 18 rfl (Va H 2 rfl (max ((bests s t 0 s.qw.length i)[((s.qx[i]!).qE).toNat]!) ((s.qx[i]!).vI)) sizeOf2 rfl rfl (i:=(((s.qx[i]!).qE).toNat)) qf qf fun w25 H=>⟨H.pick [0,1] [0,1,2,3,4,5,6,7,8,9,10,11,12,13],(xg qh (b_n (t_n (zn (sp (yI i) (sw (zN i 1 rfl rfl qf (sp (yI (i+1)) (zo ?_)))))))))⟩)
   refine xm (m' :=(s.qx.length - ((i+1):Int)).toNat) qf ⟨_,a17,zY+1,c18,((applB s t 0 i)++[dec (EnOk s t (s.qx[i]!))]),i+1,((bests s t 0 s.qw.length i).set (((s.qx[i]!).qE).toNat) (max ((bests s t 0 s.qw.length i)[((s.qx[i]!).qE).toNat]!) ((s.qx[i]!).vI))),uE5,?_,?_,?_,rfl,N,H.pick [1,2] [7,8,9,10,11,12,13]⟩
   · exact applB_snoc s t i
   · first | exact bests_set ‹_› qf | exact bests_skip ‹_›
   · omega
  refine xe (b_n (t_n (zn (sp (yI i) (sw (zN i 1 rfl rfl qf (sp (yI (i+1)) (zo (xm (m' :=(s.qx.length - ((i+1):Int)).toNat) qf ⟨_,a17,zY+1,c18,((applB s t 0 i)++[dec (EnOk s t (s.qx[i]!))]),i+1,(bests s t 0 s.qw.length i),uE5,?_,?_,?_,rfl,N,H.pick [1,2] [7,8,9,10,11,12,13]⟩)))))))))
  · exact applB_snoc s t i
  · first | exact bests_set ‹_› qf | exact bests_skip ‹_›
  · omega
 refine zx4 (zcc (sp (yI 0) (zjn (qZ ?_))))
 refine zU (fun m' ρ w26=>∃ (zl:Env) (i_1:Nat) (out_1:List Bool),ρ=upd (upd (upd (upd zl 0 (pp bs os)) 5 (Sv (aa b1 0) s.qw.length s.qw.length)) 6 (Sv jH zY vV)) 10 (yI i_1)∧out_1=applB s t i_1 s.qx.length∧((i_1:Int)≤s.qx.length)∧m' =(s.qx.length - (i_1:Int)).toNat∧Fresh w.heap.size []∧St w w26 [rr jH zY vV 4 1 (out_1.map (Value.bool)),rr (aa b1 0) s.qw.length s.qw.length 2 1 ((bests s t 0 s.qw.length i).map (Value.int .i64))] [atF bs os (yS s qC qB qK qI),sF false qY qC qB s.qw,sF false xK qK qI s.qx]) ((s.qx.length - (0:Int)).toNat) ⟨_,0,(applB s t 0 i),uE4,(by rw [show i=s.qx.length by omega]),qf,rfl,N,H.pick [0,1] [0,1,2]⟩ ?_
 clear H N
 rintro m' ρ w27 ⟨zl,i_1,out_1,rfl,rfl,i0,rfl,N,H⟩
 have hn_out:=H.rowNB 0 rfl
 have bl:=Xh s t 0 s.qw.length i
 have al:=applB_len s t i_1 s.qx.length
 refine zcc (sps [yI i_1,pp bs os,pp bs os] (oF rfl (oL rfl (H.zu 0 rfl 2 rfl) (oN rfl (sp (Bv (decide ((i_1:Int) < s.qx.length))) (zjn (cD rfl (fun h28=>?_) (fun h28=>?_))))))))
 ·skip
  have q:=p0.rule (i:=i_1) qf
  have qc:=q.1
  have qk:=q.cell
  have qr:=q.2.1
  refine xe (t_n (zg (qZ ?_)))
  refine Qe rfl H [1] fun H=>?_
  have S:=H.jG [1] [0,1,2]
  refine rtp 0 (Sv jH zY vV) S ?_
  refine rtp 1 (yI i_1) S ?_
  refine rtp 2 (Sv jH zY vV) S ?_
  refine rtp 3 (yI i_1) S ?_
  obtain ⟨b30,rfl⟩:=H.Qc 0 rfl qf
  refine tI 4 rfl rfl rfl (H.pick [1] [0,1,2]) ?_
  refine ro 5 rfl (zt (Bv ((applB s t i_1 s.qx.length)[i_1]!)) isAgg4 rfl (H.rowBool 0 rfl (iv:=i_1) (i:=i_1) qf qf) (⟨H.pick [1] [0,1,2],(rtp 6 (Bv ((applB s t i_1 s.qx.length)[i_1]!)) (H.pick [1] [0,1,2]) ?_)⟩))
  cases h31:((applB s t i_1 s.qx.length)[i_1]!)
  ·skip
   refine zL [7,8,9,10,11,12,13,14,15,16,17,18,19,20,21,22,23,24,25,26] 20 (H.pick [1] [0,1,2]) ?_
   have S:=H.jG [1] [0,1,2]
   refine rtp 27 (Bv false) S ?_
   refine tI 28 rfl rfl rfl S ?_
   refine ro 29 rfl (QK H 0 rfl false sizeOf4 rfl rfl (i:=i_1) qf qf fun w32 H=>⟨H.pick [1] [0,1,2],(xg qh (b_n (t_n (zn (sp (yI i_1) (sw (zN i_1 1 rfl rfl qf (sp (yI (i_1+1)) (zo (xm (m' :=(s.qx.length - ((i_1+1):Int)).toNat) qf ⟨_,i_1+1,((applB s t i_1 s.qx.length).set i_1 false),uE4,?_,?_,rfl,N,H⟩))))))))))⟩)
   · first | exact applB_set qf (applB_step0 (m:=s.qx.length) qf ‹_›) | exact applB_set qf (applB_step1 (m:=s.qx.length) (n:=s.qw.length) (z:=0) (i:=i) qf ‹_› rfl qf qf qf)
   · omega
  have S:=H.jG [1] [0,1,2]
  refine rgp 7 (pp bs os) 75 S ?_
  refine rgp 8 (pp bs os) 75 S ?_
  refine gF 9 rfl rfl S ?_
  refine gL 10 rfl rfl (fun _ h=>h.zu 0 rfl 2 rfl) S ?_
  refine rgp 11 (yI i_1) 75 S ?_
  obtain ⟨b33,o34,rfl⟩:=H.addr 2 rfl qf
  obtain ⟨ae36Need,ce36Need,Fe36Need,ae36Have,ce36Have,Fe36Have,ae36Lack,ce36Lack,Fe36Lack,ae36Here,ce36Here,Fe36Here,ae36Out,ce36Out,Fe36Out,ae36Into,ce36Into,Fe36Into,H⟩:=H.yY 2 rfl i_1 i_1 qf qf qf
  have S:=H.jG [1] [7,8,9]
  refine gI 12 rfl rfl rfl S ?_
  refine gF 13 rfl rfl S ?_
  refine rgp 15 (Sv (aa b1 0) s.qw.length s.qw.length) 75 S ?_
  refine rgp 16 (pp bs os) 75 S ?_
  refine rgp 17 (pp bs os) 75 S ?_
  refine gF 18 rfl rfl S ?_
  refine gL 19 rfl rfl (fun _ h=>h.zu 0 rfl 2 rfl) S ?_
  refine rgp 20 (yI i_1) 75 S ?_
  refine gI 21 rfl rfl rfl S ?_
  refine gF 22 rfl rfl S ?_
  refine zH [14,23] qh qm (Xg rfl (e:=75) rfl rfl ?_ (Xg rfl (e:=75) rfl rfl ?_ zI))
  ·skip
   refine zt (yI ((s.qx[i_1]!).vI)) isAgg2 rfl (H.zu 6 rfl 1 rfl) (⟨H.pick [1] [7,8,9],(zH [23] qh qm (Xg rfl (e:=75) rfl rfl (zt (yI ((s.qx[i_1]!).qE)) isAgg2 rfl (H.zu 6 rfl 0 rfl) (⟨H.pick [1] [7,8,9],?_⟩)) zI))⟩)
   have S:=H.jG [1] [7,8,9]
   refine gI 24 rfl rfl rfl S ?_
   refine gL 25 rfl rfl (fun _ h=>h.rowInt 0 rfl (iv:=(s.qx[i_1]!).qE) (i:=(((s.qx[i_1]!).qE).toNat)) qf qf) S ?_
   refine rgp 26 (Bv (((s.qx[i_1]!).vI:Int) == ((bests s t 0 s.qw.length i)[((s.qx[i_1]!).qE).toNat]!))) 75 S ?_
   refine rtp 27 (Bv (((s.qx[i_1]!).vI:Int) == ((bests s t 0 s.qw.length i)[((s.qx[i_1]!).qE).toNat]!))) S ?_
   refine tI 28 rfl rfl rfl S ?_
   refine ro 29 rfl (QK H 0 rfl (((s.qx[i_1]!).vI:Int) == ((bests s t 0 s.qw.length i)[((s.qx[i_1]!).qE).toNat]!)) sizeOf4 rfl rfl (i:=i_1) qf qf fun w37 H=>⟨H.pick [1] [7,8,9],(xg qh (b_n (t_n (zn (sp (yI i_1) (sw (zN i_1 1 rfl rfl qf (sp (yI (i_1+1)) (zo (xm (m' :=(s.qx.length - ((i_1+1):Int)).toNat) qf ⟨_,i_1+1,((applB s t i_1 s.qx.length).set i_1 (((s.qx[i_1]!).vI:Int) == ((bests s t 0 s.qw.length i)[((s.qx[i_1]!).qE).toNat]!))),uE4,?_,?_,rfl,N,H.pick [0,1] [7,8,9]⟩))))))))))⟩)
   · first | exact applB_set qf (applB_step0 (m:=s.qx.length) qf ‹_›) | exact applB_set qf (applB_step1 (m:=s.qx.length) (n:=s.qw.length) (z:=0) (i:=i) qf ‹_› rfl qf qf qf)
   · omega
  refine zt (yI ((s.qx[i_1]!).qE)) isAgg2 rfl (H.zu 6 rfl 0 rfl) (⟨H.pick [1] [7,8,9],?_⟩)
  have S:=H.jG [1] [7,8,9]
  refine gI 24 rfl rfl rfl S ?_
  refine gL 25 rfl rfl (fun _ h=>h.rowInt 0 rfl (iv:=(s.qx[i_1]!).qE) (i:=(((s.qx[i_1]!).qE).toNat)) qf qf) S ?_
  refine zH [14] qh qm (Xg rfl (e:=75) rfl rfl (zt (yI ((s.qx[i_1]!).vI)) isAgg2 rfl (H.zu 6 rfl 1 rfl) (⟨H.pick [1] [7,8,9],?_⟩)) zI)
  have S:=H.jG [1] [7,8,9]
  refine rgp 26 (Bv (((s.qx[i_1]!).vI:Int) == ((bests s t 0 s.qw.length i)[((s.qx[i_1]!).qE).toNat]!))) 75 S ?_
  refine rtp 27 (Bv (((s.qx[i_1]!).vI:Int) == ((bests s t 0 s.qw.length i)[((s.qx[i_1]!).qE).toNat]!))) S ?_
  refine tI 28 rfl rfl rfl S ?_
  refine ro 29 rfl (QK H 0 rfl (((s.qx[i_1]!).vI:Int) == ((bests s t 0 s.qw.length i)[((s.qx[i_1]!).qE).toNat]!)) sizeOf4 rfl rfl (i:=i_1) qf qf fun w38 H=>⟨H.pick [1] [7,8,9],(xg qh (b_n (t_n (zn (sp (yI i_1) (sw (zN i_1 1 rfl rfl qf (sp (yI (i_1+1)) (zo (xm (m' :=(s.qx.length - ((i_1+1):Int)).toNat) qf ⟨_,i_1+1,((applB s t i_1 s.qx.length).set i_1 (((s.qx[i_1]!).vI:Int) == ((bests s t 0 s.qw.length i)[((s.qx[i_1]!).qE).toNat]!))),uE4,?_,?_,rfl,N,H.pick [0,1] [7,8,9]⟩))))))))))⟩)
  · first | exact applB_set qf (applB_step0 (m:=s.qx.length) qf ‹_›) | exact applB_set qf (applB_step1 (m:=s.qx.length) (n:=s.qw.length) (z:=0) (i:=i) qf ‹_› rfl qf qf qf)
  · omega
 refine zx4 (zcr (sps [Sv jH zY vV,Sv jH zY vV] (zjr (ret1 (Sv jH zY vV) rfl rfl ⟨_,rfl,?_,H.base⟩))))
 obtain rfl:i_1=s.qx.length:=by omega
 exact ⟨jH,zY,vV,rfl,N,H.pick [0] []⟩
theorem isEnabled_ok (w:World) (s:qy) (t:qA) (r:jy) {qC:yOA} {qY:yLN} {qK:yOA} {xK:yLN} {qR:yOA} {zq:yLN} {xq:yOA} {zX:yLN} {qN:yOA} {xN:yLN} {jo:yOA} {Q8:yLN} {jv:yOA} {Xb:yLN} {jq:yOA} {Q9:yLN} {je:yOA} {Xa:yLN} {yG:yOA} {FrOut:yLN} {vX:yOA} {XM:yLN} (qW:qU.rep w qY [Sv qC s.qw.length qB] s.qw) (xF:qU.rep w xK [Sv qK s.qx.length qI] s.qx) (zy:qU.rep w zq [Sv qR t.qF.length qP] t.qF) (ve:qU.rep w zX [Sv xq t.qG.length xn] t.qG) (xW:qU.rep w xN [Sv qN t.qH.length qM] t.qH) (hrNeed:qU.rep w Q8 [Sv jo r.xM.length ji] r.xM) (hrHave:qU.rep w Xb [Sv jv r.zF.length jm] r.zF) (hrLack:qU.rep w Q9 [Sv jq r.zD.length jk] r.zD) (hrHere:qU.rep w Xa [Sv je r.zC.length jd] r.zC) (hrOut:qU.rep w FrOut [Sv yG r.jI.length yD] r.jI) (hrInto:qU.rep w XM [Sv vX r.qO.length vW] r.qO) (p0:vw s) (p1:xJ s t) (p2:RuleOk s r):Calls Tryz.prog 84 #[.agg #[yI s.xf,Sv qC s.qw.length qB,Sv qK s.qx.length qI],.agg #[Sv qR t.qF.length qP,Sv xq t.qG.length xn,Sv qN t.qH.length qM],.agg #[yI r.qE,yI r.vI,Sv jo r.xM.length ji,Sv jv r.zF.length jm,Sv jq r.zD.length jk,Sv je r.zC.length jd,Sv yG r.jI.length yD,Sv vX r.qO.length vW,Bv r.zV]] w (Ret (fun v w' =>v=Bv (dec (EnOk s t r))) w):=by
 refine en func84 ntmps84 ?_
 have H:=(((((((((((St.start w).arg hrInto).arg hrOut).arg hrHere).arg hrLack).arg hrHave).arg hrNeed).arg xW).arg ve).arg zy).arg xF).arg qW
 have vH:=qQ qW
 have jM:=qQ xF
 have Qg:=qQ zy
 have QZ:=qQ ve
 have yC:=qQ xW
 have nhrNeed:=qQ hrNeed
 have nhrHave:=qQ hrHave
 have nhrLack:=qQ hrLack
 have nhrHere:=qQ hrHere
 have nhrOut:=qQ hrOut
 have nhrInto:=qQ hrInto
 clear qW xF zy ve xW hrNeed hrHave hrLack hrHere hrOut hrInto
 have N:=Fresh.nil w.heap.size
 have p3:=p2.1
 have p4:=p1.1
 have p5:=p1.2.1
 have p6:=(p1.bagLen (k:=r.qE.toNat) qf).len
 have p7:=p2.2.2.2.2.1.len
 have p8:=p2.2.2.2.2.2.1.len
 have p9:=p2.2.2.2.2.2.2.1.len
 have p10:=vG p2.2.2.2.2.2.2.1
 have p11:=p0.1
 have p12:=p2.2.2.2.2.2.2.2.2.2.2
 have p13:=kinds_le p0
 refine zcr (sw (vF H (yS s qC qB qK qI) fun b1 w2 H=>sw (vF H (yT t qR qP xq xn qN qM) fun b3 w4 H=>sw (vF H [yI r.qE,yI r.vI,Sv jo r.xM.length ji,Sv jv r.zF.length jm,Sv jq r.zD.length jk,Sv je r.zC.length jd,Sv yG r.jI.length yD,Sv vX r.qO.length vW,Bv r.zV] fun b5 w6 H=>sp (Bv false) (zjcc (oF rfl ?_))))))
 refine oL rfl (H.cell 1 rfl rfl) (oF rfl (oL rfl (H.cell 0 rfl rfl) ?_))
 obtain ⟨b7,o8,rfl⟩:=H.addr 2 rfl qf
 refine oI rfl rfl (oL rfl (H.XE 2 rfl r.qE qf qf) (sp (Bv (!(t.qF[r.qE.toNat]!))) (zjn (xI (!(t.qF[r.qE.toNat]!)) rfl (fun h10=>?_) (fun h10=>?_)))))
 ·skip
  replace h10:=xC h10
  refine zcr (sp (Bv false) (zjr (t_r (ret1 (Bv false) rfl rfl ⟨_,rfl,?_,H.base⟩))))
  rw [xk (fun h=>by obtain ⟨h1,h2,h3,h4,h5⟩:=h;first | exact ft h1 ‹_› | exact ft h2 ‹_› | exact ft h3 ‹_› | exact h4 ⟨‹_›,‹_›⟩ | (obtain ⟨q1,q2⟩:=h5 i qf;first | exact ft q1 ‹_› | exact absurd q2 ‹_›))]
 replace h10:=xw h10
 refine xe (t_n (zcr (oF rfl (oL rfl (H.cell 1 rfl rfl) (oF rfl (oL rfl (H.cell 0 rfl rfl) ?_))))))
 obtain ⟨b11,o12,rfl⟩:=H.addr 3 rfl qf
 obtain ⟨ae14,ce14,Fe14,H⟩:=H.jS 3 rfl r.qE r.qE.toNat qf qf qf
 refine oI rfl rfl (oL rfl (H.zu 1 rfl 0 rfl) (sp (Sv ae14 ((t.qG[r.qE.toNat]!).length) ce14) (zjcc (oF rfl (oL rfl (H.cell 0 rfl rfl) (sp (Sv ae14 ((t.qG[r.qE.toNat]!).length) ce14) (sw (oq (isWithin_ok _ r.xM (t.qG[r.qE.toNat]!) (H.get 7 rfl).1 (H.get 0 rfl).1 qg qg) H fun w15 H=>sps [Bv (!(within r.xM (t.qG[r.qE.toNat]!))),Bv (!(within r.xM (t.qG[r.qE.toNat]!)))] ?_))))))))
 cases h17:(!(within r.xM (t.qG[r.qE.toNat]!)))
 ·skip
  replace h17:=xw h17
  refine qL 26 rfl rfl (oF rfl (qL 26 rfl rfl (oL rfl (H.cell 0 rfl rfl) (qL 26 rfl rfl (sp (Sv ae14 ((t.qG[r.qE.toNat]!).length) ce14) (qL 26 rfl rfl (sw (oq (isWithin_ok _ r.zF (t.qG[r.qE.toNat]!) (H.get 8 rfl).1 (H.get 0 rfl).1 qg qg) H fun w18 H=>qL 26 rfl rfl (sps [Bv (!(within r.zF (t.qG[r.qE.toNat]!))),Bv (!(within r.zF (t.qG[r.qE.toNat]!))),Bv (!(within r.zF (t.qG[r.qE.toNat]!)))] ?_)))))))))
  cases h20:(!(within r.zF (t.qG[r.qE.toNat]!)))
  ·skip
   replace h20:=xw h20
   refine qL 33 rfl rfl (oF rfl (qL 33 rfl rfl (oL rfl (H.cell 0 rfl rfl) (qL 33 rfl rfl (sw (oq (XH _ r.zD (H.get 9 rfl).1 (by first | assumption | exact vG ql | exact yF ql)) H fun w21 H=>qL 33 rfl rfl (sp (Bv (decide ((QJ r.zD:Int) > 0))) (qL 33 rfl rfl (sp (Bv (decide ((QJ r.zD:Int) > 0))) ?_)))))))))
   cases h23:(decide ((QJ r.zD:Int) > 0))
   ·skip
    replace h23:=of_decide_eq_false h23
    refine xU [39,40,41,42] (qL 33 rfl rfl (sps [Bv false,Bv false] (zjn (xI false rfl (fun h=>absurd h qj) (fun _=>xe (t_n (zcr (oF rfl (oL rfl (H.cell 0 rfl rfl) (sp (.func (.func 154) #[] #[pp b3 0,pp b1 0,pp b5 0]) (sw (vC #[Sv vX r.qO.length vW,.func (.func 154) #[] #[pp b3 0,pp b1 0,pp b5 0]] rfl rfl call153 (en func153 ntmps153 ?_)))))))))))))
    refine zcr (sp (Bv false) (zjc (sps [Sv vX r.qO.length vW,.func (.func 154) #[] #[pp b3 0,pp b1 0,pp b5 0]] (sw (vC #[Sv vX r.qO.length vW,.func (.func 154) #[] #[pp b3 0,pp b1 0,pp b5 0]] rfl rfl call192 (en func192 ntmps192 ?_))))))
    refine zcr (sp (yI 0) (zjcc (sp (Sv vX r.qO.length vW) (oN rfl (sp (yI 0) (zjn (qZ ?_)))))))
    refine zU (fun m' ρ w24=>∃ (zl:Env) (i:Nat),ρ=upd (upd (upd (upd zl 0 (Sv vX r.qO.length vW)) 1 (.func (.func 154) #[] #[pp b3 0,pp b1 0,pp b5 0])) 7 (yI r.qO.length)) 8 (yI i)∧((i:Int)≤r.qO.length)∧(IntoUp s t r i)∧m' =(r.qO.length - (i:Int)).toNat∧Fresh w.heap.size []∧St w w24 [.box b5 [yI r.qE,yI r.vI,Sv jo r.xM.length ji,Sv jv r.zF.length jm,Sv jq r.zD.length jk,Sv je r.zC.length jd,Sv yG r.jI.length yD,Sv vX r.qO.length vW,Bv r.zV] 56,.box b3 [Sv (aa b7 o8) t.qF.length qP,Sv (aa b11 o12) t.qG.length xn,Sv qN t.qH.length qM] 31,.box b1 (yS s qC qB qK qI) 27] [sF false Fe14 ae14 ce14 (t.qG[r.qE.toNat]!),atF b11 (o12+(r.qE:Int).toNat * 1) [Sv ae14 ((t.qG[r.qE.toNat]!).length) ce14],sF false qY qC qB s.qw,sF false xK qK qI s.qx,sF false zq (aa b7 o8) qP t.qF,sF false zX (aa b11 o12) xn t.qG,sF false xN qN qM t.qH,sF false Q8 jo ji r.xM,sF false Xb jv jm r.zF,sF false Q9 jq jk r.zD,sF false Xa je jd r.zC,sF false FrOut yG yD r.jI,sF false XM vX vW r.qO]) ((r.qO.length - (0:Int)).toNat) ⟨_,0,uE4,qf,(by exact fun j hj=>by omega),rfl,N,H⟩ ?_
    clear H N
    rintro m' ρ w25 ⟨zl,i,rfl,i0,i1,rfl,N,H⟩
    refine zcr (sp (Bv (decide ((i:Int) < r.qO.length))) (zjn (zg (cD rfl (fun h26=>?_) (fun h26=>?_)))))
    ·skip
     have q:=(p12 i qf).1
     have q1:=q.1
     have q2:=q.2
     refine xe (t_n (zg (qZ (zcr (sps [yI i,yI i] (zjc (sps [.func (.func 154) #[] #[pp b3 0,pp b1 0,pp b5 0],Sv vX r.qO.length vW,yI i] ?_)))))))
     obtain ⟨b27,o28,rfl⟩:=H.addr 12 rfl qf
     obtain ⟨ae30Bag,ce30Bag,Fe30Bag,H⟩:=H.yZ 12 rfl i i qf qf qf
     refine oI rfl rfl (sw (zB [yI ((r.qO[i]!).qE),Sv ae30Bag (((r.qO[i]!).Qm).length) ce30Bag] isAgg142 sizeOf142 rfl (qJ (H.get 1 rfl) 0 2) (sw (vC #[.agg #[yI ((r.qO[i]!).qE),Sv ae30Bag (((r.qO[i]!).Qm).length) ce30Bag],pp b3 0,pp b1 0,pp b5 0] rfl rfl call154 (en func154 ntmps154 ?_)))))
     refine zcr (sw (vF H [yI ((r.qO[i]!).qE),Sv ae30Bag (((r.qO[i]!).Qm).length) ce30Bag] fun b31 w32 H=>sp (Bv false) (zjn (zg ?_))))
     refine yj rfl H fun H=>tF 0 rfl rfl H ?_
     refine tL 1 rfl rfl (fun _ h=>h.cell 2 rfl rfl) H ?_
     refine tF 2 rfl rfl H ?_
     refine tL 3 rfl rfl (fun _ h=>h.cell 0 rfl rfl) H ?_
     refine tI 4 rfl rfl rfl H ?_
     refine tL 5 rfl rfl (fun _ h=>h.XE 6 rfl ((r.qO[i]!).qE) qf qf) H ?_
     refine rtp 6 (Bv (!(t.qF[((r.qO[i]!).qE).toNat]!))) H ?_
     refine rtp 7 (Bv (!(t.qF[((r.qO[i]!).qE).toNat]!))) H ?_
     cases h34:(!(t.qF[((r.qO[i]!).qE).toNat]!))
     ·skip
      replace h34:=xw h34
      refine rg 8 (.agg #[yI s.xf,Sv qC s.qw.length qB,Sv qK s.qx.length qI]) 13 (yK (cs:=(yS s qC qB qK qI)) isAgg27 sizeOf27 rfl (fun _ h=>qJ (h.cells 3 rfl) 0 3)) H ?_
      refine rg 9 (.agg #[Sv (aa b7 o8) t.qF.length qP,Sv (aa b11 o12) t.qG.length xn,Sv qN t.qH.length qM]) 13 (yK (cs:=[Sv (aa b7 o8) t.qF.length qP,Sv (aa b11 o12) t.qG.length xn,Sv qN t.qH.length qM]) isAgg31 sizeOf31 rfl (fun _ h=>qJ (h.cells 2 rfl) 0 3)) H ?_
      refine gF 10 rfl rfl H ?_
      refine gL 11 rfl rfl (fun _ h=>h.cell 0 rfl rfl) H ?_
      refine gF 13 rfl rfl H ?_
      refine gL 14 rfl rfl (fun _ h=>h.cell 1 rfl rfl) H ?_
      refine zH [12] qh qm (Xg rfl (e:=13) rfl rfl (oq (parentNow_ok _ s t ((r.qO[i]!).qE) (H.get 4 rfl).1 (H.get 5 rfl).1 (H.get 6 rfl).1 (H.get 7 rfl).1 (H.get 8 rfl).1 qg qg qg) H fun w36 H=>⟨H,(rgp 15 (Bv ((xh s t ((r.qO[i]!).qE):Int) != r.qE)) 13 H ?_)⟩) zI)
      refine rtp 16 (Bv ((xh s t ((r.qO[i]!).qE):Int) != r.qE)) H ?_
      refine rtp 17 (Bv ((xh s t ((r.qO[i]!).qE):Int) != r.qE)) H ?_
      refine xg qh (t_n (c_ret (ret1 (Bv ((xh s t ((r.qO[i]!).qE):Int) != r.qE)) rfl rfl ⟨_,rfl,?_⟩)))
      replace H:=H.erases [0]
      dsimp only [ja,List.eraseIdx] at H
      refine zjn (xI ((xh s t ((r.qO[i]!).qE):Int) != r.qE) rfl (fun h38=>?_) (fun h38=>?_))
      ·skip
       replace h38:=bne_iff_ne.1 h38
       refine zcr (sps [yI i,yI i] (zjr (zr5 (ret1 (yI i) rfl rfl ⟨_,rfl,(sw (o_pure (Bv true) (by show some (Value.bool (decide ((i:Int)≥0)))=some (Value.bool true);rw [decide_eq_true qf]) (sp (Bv true) (zjr (ret1 (Bv true) rfl rfl ⟨_,rfl,(sps [Bv false,Bv false] (zjr (ret1 (Bv false) rfl rfl ⟨_,rfl,?_,H.base⟩)))⟩)))))⟩))))
       rw [xk (fun h=>by obtain ⟨h1,h2,h3,h4,h5⟩:=h;first | exact ft h1 ‹_› | exact ft h2 ‹_› | exact ft h3 ‹_› | exact h4 ⟨‹_›,‹_›⟩ | (obtain ⟨q1,q2⟩:=h5 i qf;first | exact ft q1 ‹_› | exact absurd q2 ‹_›))]
      replace h38:=zh h38
      refine xe (b_n (t_n (zn (sw (zN i 1 rfl rfl qf (sp (yI (i+1)) (zo (xm (m' :=(r.qO.length - ((i+1):Int)).toNat) qf ⟨_,i+1,uE4,?_,?_,rfl,N,H.pick [0,1,2] [2,3,4,5,6,7,8,9,10,11,12,13,14]⟩))))))))
      · omega
      · exact i1.succ ‹_› ‹_›
     replace h34:=xC h34
     refine zL [8,9,10,11,12,13,14,15] 8 (H) (rtp 16 (Bv true) H ?_)
     refine rtp 17 (Bv true) H ?_
     refine xg qh (t_n (c_ret (ret1 (Bv true) rfl rfl ⟨_,rfl,?_⟩)))
     replace H:=H.erases [0]
     dsimp only [ja,List.eraseIdx] at H
     refine zjn (xI true rfl (fun _=>zcr (sps [yI i,yI i] (zjr (zr5 (ret1 (yI i) rfl rfl ⟨_,rfl,(sw (o_pure (Bv true) (by show some (Value.bool (decide ((i:Int)≥0)))=some (Value.bool true);rw [decide_eq_true qf]) (sp (Bv true) (zjr (ret1 (Bv true) rfl rfl ⟨_,rfl,(sps [Bv false,Bv false] (zjr (ret1 (Bv false) rfl rfl ⟨_,rfl,?_,H.base⟩)))⟩)))))⟩))))) (fun h=>absurd h qj))
     rw [xk (fun h=>by obtain ⟨h1,h2,h3,h4,h5⟩:=h;first | exact ft h1 ‹_› | exact ft h2 ‹_› | exact ft h3 ‹_› | exact h4 ⟨‹_›,‹_›⟩ | (obtain ⟨q1,q2⟩:=h5 i qf;first | exact ft q1 ‹_› | exact absurd q2 ‹_›))]
    refine zx4 (zcr (sp (yI (-1)) (zjr (ret1 (yI (-1)) rfl rfl ⟨_,rfl,(sps [Bv false,Bv false] (zjr (ret1 (Bv false) rfl rfl ⟨_,rfl,(sps [Bv true,Bv true] (zjr (ret1 (Bv true) rfl rfl ⟨_,rfl,?_,H.base⟩)))⟩)))⟩))))
    rw [yl ⟨by assumption,by assumption,by assumption,fun ⟨u,v⟩=>by first | omega | exact ft v ‹_›,(show i=r.qO.length by omega)▸i1⟩]
   replace h23:=of_decide_eq_true h23
   refine qL 38 rfl rfl (oF rfl (qL 38 rfl rfl (oL rfl (H.cell 0 rfl rfl) (qL 38 rfl rfl (sp (Sv ae14 ((t.qG[r.qE.toNat]!).length) ce14) (qL 38 rfl rfl (sw (oq (isWithin_ok _ r.zD (t.qG[r.qE.toNat]!) (H.get 9 rfl).1 (H.get 0 rfl).1 qg qg) H fun w39 H=>qL 33 rfl rfl (sps [Bv (within r.zD (t.qG[r.qE.toNat]!)),Bv (within r.zD (t.qG[r.qE.toNat]!))] (zjn (xI (within r.zD (t.qG[r.qE.toNat]!)) rfl (fun h41=>?_) (fun h41=>?_))))))))))))
   ·skip
    refine zcr (sp (Bv false) (zjr (t_r (ret1 (Bv false) rfl rfl ⟨_,rfl,?_,H.base⟩))))
    rw [xk (fun h=>by obtain ⟨h1,h2,h3,h4,h5⟩:=h;first | exact ft h1 ‹_› | exact ft h2 ‹_› | exact ft h3 ‹_› | exact h4 ⟨‹_›,‹_›⟩ | (obtain ⟨q1,q2⟩:=h5 i qf;first | exact ft q1 ‹_› | exact absurd q2 ‹_›))]
   refine xe (t_n (zcr (oF rfl (oL rfl (H.cell 0 rfl rfl) (sp (.func (.func 154) #[] #[pp b3 0,pp b1 0,pp b5 0]) (sw (vC #[Sv vX r.qO.length vW,.func (.func 154) #[] #[pp b3 0,pp b1 0,pp b5 0]] rfl rfl call153 (en func153 ntmps153 ?_))))))))
   refine zcr (sp (Bv false) (zjc (sps [Sv vX r.qO.length vW,.func (.func 154) #[] #[pp b3 0,pp b1 0,pp b5 0]] (sw (vC #[Sv vX r.qO.length vW,.func (.func 154) #[] #[pp b3 0,pp b1 0,pp b5 0]] rfl rfl call192 (en func192 ntmps192 ?_))))))
   refine zcr (sp (yI 0) (zjcc (sp (Sv vX r.qO.length vW) (oN rfl (sp (yI 0) (zjn (qZ ?_)))))))
   refine zU (fun m' ρ w42=>∃ (zl:Env) (i:Nat),ρ=upd (upd (upd (upd zl 0 (Sv vX r.qO.length vW)) 1 (.func (.func 154) #[] #[pp b3 0,pp b1 0,pp b5 0])) 7 (yI r.qO.length)) 8 (yI i)∧((i:Int)≤r.qO.length)∧(IntoUp s t r i)∧m' =(r.qO.length - (i:Int)).toNat∧Fresh w.heap.size []∧St w w42 [.box b5 [yI r.qE,yI r.vI,Sv jo r.xM.length ji,Sv jv r.zF.length jm,Sv jq r.zD.length jk,Sv je r.zC.length jd,Sv yG r.jI.length yD,Sv vX r.qO.length vW,Bv r.zV] 56,.box b3 [Sv (aa b7 o8) t.qF.length qP,Sv (aa b11 o12) t.qG.length xn,Sv qN t.qH.length qM] 31,.box b1 (yS s qC qB qK qI) 27] [sF false Fe14 ae14 ce14 (t.qG[r.qE.toNat]!),atF b11 (o12+(r.qE:Int).toNat * 1) [Sv ae14 ((t.qG[r.qE.toNat]!).length) ce14],sF false qY qC qB s.qw,sF false xK qK qI s.qx,sF false zq (aa b7 o8) qP t.qF,sF false zX (aa b11 o12) xn t.qG,sF false xN qN qM t.qH,sF false Q8 jo ji r.xM,sF false Xb jv jm r.zF,sF false Q9 jq jk r.zD,sF false Xa je jd r.zC,sF false FrOut yG yD r.jI,sF false XM vX vW r.qO]) ((r.qO.length - (0:Int)).toNat) ⟨_,0,uE4,qf,(by exact fun j hj=>by omega),rfl,N,H⟩ ?_
   clear H N
   rintro m' ρ w43 ⟨zl,i,rfl,i0,i1,rfl,N,H⟩
   refine zcr (sp (Bv (decide ((i:Int) < r.qO.length))) (zjn (zg (cD rfl (fun h44=>?_) (fun h44=>?_)))))
   ·skip
    have q:=(p12 i qf).1
    have q1:=q.1
    have q2:=q.2
    refine xe (t_n (zg (qZ (zcr (sps [yI i,yI i] (zjc (sps [.func (.func 154) #[] #[pp b3 0,pp b1 0,pp b5 0],Sv vX r.qO.length vW,yI i] ?_)))))))
    obtain ⟨b45,o46,rfl⟩:=H.addr 12 rfl qf
    obtain ⟨ae48Bag,ce48Bag,Fe48Bag,H⟩:=H.yZ 12 rfl i i qf qf qf
    refine oI rfl rfl (sw (zB [yI ((r.qO[i]!).qE),Sv ae48Bag (((r.qO[i]!).Qm).length) ce48Bag] isAgg142 sizeOf142 rfl (qJ (H.get 1 rfl) 0 2) (sw (vC #[.agg #[yI ((r.qO[i]!).qE),Sv ae48Bag (((r.qO[i]!).Qm).length) ce48Bag],pp b3 0,pp b1 0,pp b5 0] rfl rfl call154 (en func154 ntmps154 ?_)))))
    refine zcr (sw (vF H [yI ((r.qO[i]!).qE),Sv ae48Bag (((r.qO[i]!).Qm).length) ce48Bag] fun b49 w50 H=>sp (Bv false) (zjn (zg ?_))))
    refine yj rfl H fun H=>tF 0 rfl rfl H ?_
    refine tL 1 rfl rfl (fun _ h=>h.cell 2 rfl rfl) H ?_
    refine tF 2 rfl rfl H ?_
    refine tL 3 rfl rfl (fun _ h=>h.cell 0 rfl rfl) H ?_
    refine tI 4 rfl rfl rfl H ?_
    refine tL 5 rfl rfl (fun _ h=>h.XE 6 rfl ((r.qO[i]!).qE) qf qf) H ?_
    refine rtp 6 (Bv (!(t.qF[((r.qO[i]!).qE).toNat]!))) H ?_
    refine rtp 7 (Bv (!(t.qF[((r.qO[i]!).qE).toNat]!))) H ?_
    cases h52:(!(t.qF[((r.qO[i]!).qE).toNat]!))
    ·skip
     replace h52:=xw h52
     refine rg 8 (.agg #[yI s.xf,Sv qC s.qw.length qB,Sv qK s.qx.length qI]) 13 (yK (cs:=(yS s qC qB qK qI)) isAgg27 sizeOf27 rfl (fun _ h=>qJ (h.cells 3 rfl) 0 3)) H ?_
     refine rg 9 (.agg #[Sv (aa b7 o8) t.qF.length qP,Sv (aa b11 o12) t.qG.length xn,Sv qN t.qH.length qM]) 13 (yK (cs:=[Sv (aa b7 o8) t.qF.length qP,Sv (aa b11 o12) t.qG.length xn,Sv qN t.qH.length qM]) isAgg31 sizeOf31 rfl (fun _ h=>qJ (h.cells 2 rfl) 0 3)) H ?_
     refine gF 10 rfl rfl H ?_
     refine gL 11 rfl rfl (fun _ h=>h.cell 0 rfl rfl) H ?_
     refine gF 13 rfl rfl H ?_
     refine gL 14 rfl rfl (fun _ h=>h.cell 1 rfl rfl) H ?_
     refine zH [12] qh qm (Xg rfl (e:=13) rfl rfl (oq (parentNow_ok _ s t ((r.qO[i]!).qE) (H.get 4 rfl).1 (H.get 5 rfl).1 (H.get 6 rfl).1 (H.get 7 rfl).1 (H.get 8 rfl).1 qg qg qg) H fun w54 H=>⟨H,(rgp 15 (Bv ((xh s t ((r.qO[i]!).qE):Int) != r.qE)) 13 H ?_)⟩) zI)
     refine rtp 16 (Bv ((xh s t ((r.qO[i]!).qE):Int) != r.qE)) H ?_
     refine rtp 17 (Bv ((xh s t ((r.qO[i]!).qE):Int) != r.qE)) H ?_
     refine xg qh (t_n (c_ret (ret1 (Bv ((xh s t ((r.qO[i]!).qE):Int) != r.qE)) rfl rfl ⟨_,rfl,?_⟩)))
     replace H:=H.erases [0]
     dsimp only [ja,List.eraseIdx] at H
     refine zjn (xI ((xh s t ((r.qO[i]!).qE):Int) != r.qE) rfl (fun h56=>?_) (fun h56=>?_))
     ·skip
      replace h56:=bne_iff_ne.1 h56
      refine zcr (sps [yI i,yI i] (zjr (zr5 (ret1 (yI i) rfl rfl ⟨_,rfl,(sw (o_pure (Bv true) (by show some (Value.bool (decide ((i:Int)≥0)))=some (Value.bool true);rw [decide_eq_true qf]) (sp (Bv true) (zjr (ret1 (Bv true) rfl rfl ⟨_,rfl,(sps [Bv false,Bv false] (zjr (ret1 (Bv false) rfl rfl ⟨_,rfl,?_,H.base⟩)))⟩)))))⟩))))
      rw [xk (fun h=>by obtain ⟨h1,h2,h3,h4,h5⟩:=h;first | exact ft h1 ‹_› | exact ft h2 ‹_› | exact ft h3 ‹_› | exact h4 ⟨‹_›,‹_›⟩ | (obtain ⟨q1,q2⟩:=h5 i qf;first | exact ft q1 ‹_› | exact absurd q2 ‹_›))]
     replace h56:=zh h56
     refine xe (b_n (t_n (zn (sw (zN i 1 rfl rfl qf (sp (yI (i+1)) (zo (xm (m' :=(r.qO.length - ((i+1):Int)).toNat) qf ⟨_,i+1,uE4,?_,?_,rfl,N,H.pick [0,1,2] [2,3,4,5,6,7,8,9,10,11,12,13,14]⟩))))))))
     · omega
     · exact i1.succ ‹_› ‹_›
    replace h52:=xC h52
    refine zL [8,9,10,11,12,13,14,15] 8 (H) (rtp 16 (Bv true) H ?_)
    refine rtp 17 (Bv true) H ?_
    refine xg qh (t_n (c_ret (ret1 (Bv true) rfl rfl ⟨_,rfl,?_⟩)))
    replace H:=H.erases [0]
    dsimp only [ja,List.eraseIdx] at H
    refine zjn (xI true rfl (fun _=>zcr (sps [yI i,yI i] (zjr (zr5 (ret1 (yI i) rfl rfl ⟨_,rfl,(sw (o_pure (Bv true) (by show some (Value.bool (decide ((i:Int)≥0)))=some (Value.bool true);rw [decide_eq_true qf]) (sp (Bv true) (zjr (ret1 (Bv true) rfl rfl ⟨_,rfl,(sps [Bv false,Bv false] (zjr (ret1 (Bv false) rfl rfl ⟨_,rfl,?_,H.base⟩)))⟩)))))⟩))))) (fun h=>absurd h qj))
    rw [xk (fun h=>by obtain ⟨h1,h2,h3,h4,h5⟩:=h;first | exact ft h1 ‹_› | exact ft h2 ‹_› | exact ft h3 ‹_› | exact h4 ⟨‹_›,‹_›⟩ | (obtain ⟨q1,q2⟩:=h5 i qf;first | exact ft q1 ‹_› | exact absurd q2 ‹_›))]
   refine zx4 (zcr (sp (yI (-1)) (zjr (ret1 (yI (-1)) rfl rfl ⟨_,rfl,(sps [Bv false,Bv false] (zjr (ret1 (Bv false) rfl rfl ⟨_,rfl,(sps [Bv true,Bv true] (zjr (ret1 (Bv true) rfl rfl ⟨_,rfl,?_,H.base⟩)))⟩)))⟩))))
   rw [yl ⟨by assumption,by assumption,by assumption,fun ⟨u,v⟩=>by first | omega | exact ft v ‹_›,(show i=r.qO.length by omega)▸i1⟩]
  replace h20:=xC h20
  refine xU [34,35,36,37,38,39,40,41,42,43] (sp (Bv true) (zjn (xI true rfl (fun _=>zcr (sp (Bv false) (zjr (t_r (ret1 (Bv false) rfl rfl ⟨_,rfl,?_,H.base⟩))))) (fun h=>absurd h qj))))
  rw [xk (fun h=>by obtain ⟨h1,h2,h3,h4,h5⟩:=h;first | exact ft h1 ‹_› | exact ft h2 ‹_› | exact ft h3 ‹_› | exact h4 ⟨‹_›,‹_›⟩ | (obtain ⟨q1,q2⟩:=h5 i qf;first | exact ft q1 ‹_› | exact absurd q2 ‹_›))]
 replace h17:=xC h17
 refine xU [27,28,29,30,31] (sps [Bv true,Bv true] (xU [34,35,36,37,38,39,40,41,42,43] (sp (Bv true) (zjn (xI true rfl (fun _=>zcr (sp (Bv false) (zjr (t_r (ret1 (Bv false) rfl rfl ⟨_,rfl,?_,H.base⟩))))) (fun h=>absurd h qj))))))
 rw [xk (fun h=>by obtain ⟨h1,h2,h3,h4,h5⟩:=h;first | exact ft h1 ‹_› | exact ft h2 ‹_› | exact ft h3 ‹_› | exact h4 ⟨‹_›,‹_›⟩ | (obtain ⟨q1,q2⟩:=h5 i qf;first | exact ft q1 ‹_› | exact absurd q2 ‹_›))]

theorem cloneSS_ok (w:World) (l:yLL) {al:yOA} {Fl:yLN} (hl:qU.rep w Fl [Sv al l.length cl] l) (p0:l.length≤1000000):Calls Tryz.prog 104 #[Sv al l.length cl] w (Ret (fun v w' =>∃ (ra:yOA) (rn:Nat) (rc:Nat) (rx:List Value) (rF:yLN),v=Sv ra rn rc∧(∀ b∈rF,b∈Fl)∧St w w' [rr ra rn rc 24 1 rx] [qX false rF rx l]) w):=by
 refine en func104 ntmps104 ?_
 have H:=(St.start w).arg hl
 have nhl:=qQ hl
 clear hl
 have N:=Fresh.nil w.heap.size
 refine zcr (sp yN (zjcc (sp (Sv al l.length cl) (sw (o_eqnil underlying29 al l.length cl rfl (zjn (xI (al.isNone) rfl (fun h1=>?_) (fun h1=>?_))))))))
 ·skip
  refine zcr (sp yN (zjr (t_r ?_)))
  replace H:=H.nilRow 24 1
  replace H:=H.jD (α:=yLI)
  refine ret1 yN rfl rfl ⟨_,rfl,?_,H.base⟩
  obtain rfl:=H.nilOf 1 rfl ‹_›
  replace H:=H.unfree 0 rfl
  exact ⟨none,0,0,[],[],rfl,(by intro b hb;first | (simp at hb;done) | exact id b (by simpa using hb)),H.pick [0] [0]⟩
 refine xe (t_n (zcr (sw (jR H underlying29 ti24 fun b2 w3 H=>sp (Sv al l.length cl) ?_))))
 replace H:=H.boxRow 0 rfl 1 0 rfl qj
 replace H:=H.jD (α:=yLI)
 refine sw (o_appendFR H 0 rfl 1 rfl underlying29 ti24 rfl qj rfl rfl qp qf fun a4 c5 w6 us7 G8 H hG9=>?_)
 replace H:=H.repsCat false 1 rfl 0 rfl qm
 refine sp (Sv a4 (0+l.length) c5) (zjr (ret1 (Sv a4 (0+l.length) c5) rfl rfl ⟨_,rfl,(⟨a4,0+l.length,c5,[]++us7,([]++G8),rfl,(by intro b hb;first | (simp at hb;done) | exact hG9 b (by simpa using hb)),H.pick [0] [0]⟩),H.base⟩))

theorem timesIn_ok (w:World) (l:yLI) (m:yLI) {al:yOA} {Fl:yLN} {am:yOA} {Fm:yLN} (hl:qU.rep w Fl [Sv al l.length cl] l) (hm:qU.rep w Fm [Sv am m.length cm] m) (p0:l.length≤m.length) (p2:∀ q,q < l.length→0≤m[q]! ∧m[q]! ≤1000):Calls Tryz.prog 109 #[Sv al l.length cl,Sv am m.length cm] w (Ret (fun v w' =>v=yI (vY l m)) w):=by
 refine en func109 ntmps109 ?_
 have H:=((St.start w).arg hm).arg hl
 have nhl:=qQ hl
 have nhm:=qQ hm
 clear hl hm
 have N:=Fresh.nil w.heap.size
 refine zcr (sp (yI 0) (zjc (sp (yI 1000) (zjcc (sp (Sv al l.length cl) (oN rfl (sp (yI 0) (zjn (qZ ?_)))))))))
 refine zU (fun m' ρ w1=>∃ (zl:Env) (most:Int) (k:Nat),ρ=upd (upd (upd (upd (upd zl 1 (Sv am m.length cm)) 5 (yI most)) 8 (Sv al l.length cl)) 9 (yI l.length)) 10 (yI k)∧most=yA l m k∧((k:Int)≤l.length)∧m' =(l.length - (k:Int)).toNat∧Fresh w.heap.size []∧St w w1 [] [sF false Fl al cl l,sF false Fm am cm m]) ((l.length - (0:Int)).toNat) ⟨_,1000,0,uE5,(by rfl),qf,rfl,N,H⟩ ?_
 clear H N
 rintro m' ρ w2 ⟨zl,most,k,rfl,rfl,i0,rfl,N,H⟩
 refine zcr (sp (Bv (decide ((k:Int) < l.length))) (zjn (zg (cD rfl (fun h3=>?_) (fun h3=>?_)))))
 ·skip
  refine xe (t_n (zg (qZ (zcr (sp (yI k) ?_)))))
  obtain ⟨b4,o5,rfl⟩:=H.addr 0 rfl qf
  refine oI rfl rfl (oL rfl (H.jg 0 rfl k qf qf) (sps [yI k,yI (l[k]!)] (zjc (sps [yI (l[k]!),Bv (decide ((l[k]! :Int) > 0))] (zjn (cD rfl (fun h7=>?_) (fun h7=>?_)))))))
  ·skip
   refine zn (sps [yI (yA l m k),Sv am m.length cm,yI k] ?_)
   obtain ⟨b8,o9,rfl⟩:=H.addr 1 rfl qf
   refine oI rfl rfl (oL rfl (H.jg 1 rfl k qf qf) (sp (yI (l[k]!)) (sw (o_quo (m[k]!) (l[k]!) rfl rfl (by (have:=p2 k qf;omega)) (by (have:=p2 k qf;omega)) (sw (o_min (yA l m k) ((m[k]!) / (l[k]!)) rfl rfl (sp (yI (min (yA l m k) ((m[k]!) / (l[k]!)))) (zo (b_n (t_n (zn (sw (zN k 1 rfl rfl (by (have:=p2 k qf;omega)) (sp (yI (k+1)) (zo (xm (m' :=(l.length - ((k+1):Int)).toNat) qf ⟨_,min (yA l m k) ((m[k]!) / (l[k]!)),k+1,uE5,?_,?_,rfl,N,H⟩))))))))))))))))
   · first | exact (timesTo_pos qf).symm | exact (timesTo_skip qf).symm
   · omega
  refine xe (b_n (t_n (zn (sw (zN k 1 rfl rfl (by (have:=p2 k qf;omega)) (sp (yI (k+1)) (zo (xm (m' :=(l.length - ((k+1):Int)).toNat) qf ⟨_,(yA l m k),k+1,uE5,?_,?_,rfl,N,H⟩))))))))
  · first | exact (timesTo_pos qf).symm | exact (timesTo_skip qf).symm
  · omega
 refine zx4 (zcr (sps [yI (yA l m k),yI (yA l m k)] (zjr (ret1 (yI (yA l m k)) rfl rfl ⟨_,rfl,?_,H.base⟩))))
 obtain rfl:k=l.length:=by omega
 rfl

theorem applicable_ok (w:World) (s:qy) (t:qA) {qC:yOA} {qY:yLN} {qK:yOA} {xK:yLN} {qR:yOA} {zq:yLN} {xq:yOA} {zX:yLN} {qN:yOA} {xN:yLN} (qW:qU.rep w qY [Sv qC s.qw.length qB] s.qw) (xF:qU.rep w xK [Sv qK s.qx.length qI] s.qx) (zy:qU.rep w zq [Sv qR t.qF.length qP] t.qF) (ve:qU.rep w zX [Sv xq t.qG.length xn] t.qG) (xW:qU.rep w xN [Sv qN t.qH.length qM] t.qH) (p0:vw s) (p1:xJ s t):Calls Tryz.prog 50 #[.agg #[yI s.xf,Sv qC s.qw.length qB,Sv qK s.qx.length qI],.agg #[Sv qR t.qF.length qP,Sv xq t.qG.length xn,Sv qN t.qH.length qM]] w (Ret (fun v w' =>∃ (ra:yOA) (rn:Nat) (rc:Nat),v=Sv ra rn rc∧Fresh w.heap.size []∧St w w' [rr ra rn rc 2 1 ((appls s t).map (Value.int .i64))] []) w):=by
 refine en func50 ntmps50 ?_
 have H:=(((((St.start w).arg xW).arg ve).arg zy).arg xF).arg qW
 have vH:=qQ qW
 have jM:=qQ xF
 have Qg:=qQ zy
 have QZ:=qQ ve
 have yC:=qQ xW
 clear qW xF zy ve xW
 have N:=Fresh.nil w.heap.size
 have p2:=p0.2.1
 have p3:=p0.1.2.1
 refine zcr (sw (vF H (yS s qC qB qK qI) fun b1 w2 H=>sw (vF H (yT t qR qP xq xn qN qM) fun b3 w4 H=>sp yN (zjc (sw (xP [yI 0,yI 0,yI 0,yI 0,yI 0,yI 0] [] (sw (xx H ti131 [yI 0,yI 0,yI 0,yI 0,yI 0,yI 0] fun b5 w6 H=>?_))))))))
 refine sw (xu H 0 [yI 0,yI 0,yI 0,yI 0,yI 0,yI 0] sizeOf131 fun w7 H=>zjcc (sp (yI 0) (zjn (qZ ?_))))
 refine zU (fun m' ρ w8=>∃ (zl:Env) (c:Nat) (top:yLI),ρ=upd (upd (upd (upd zl 2 (pp b1 0)) 3 (pp b3 0)) 5 (pp b5 0)) 13 (yI c)∧top=minus c∧((c:Int)≤6)∧m' =(6 - (c:Int)).toNat∧Fresh w.heap.size []∧St w w8 [.box b5 (top.map (Value.int .i64)) 131,.box b3 (yT t qR qP xq xn qN qM) 31,.box b1 (yS s qC qB qK qI) 27] [sF false qY qC qB s.qw,sF false xK qK qI s.qx,sF false zq qR qP t.qF,sF false zX xq xn t.qG,sF false xN qN qM t.qH]) ((6 - (0:Int)).toNat) ⟨_,0,[0,0,0,0,0,0],uE4,(by rfl),qf,rfl,N,H⟩ ?_
 clear H N
 rintro m' ρ w9 ⟨zl,c,top,rfl,rfl,i0,rfl,N,H⟩
 refine zcr (sp (Bv (decide ((c:Int) < 6))) (zjn (zg (cD rfl (fun h10=>?_) (fun h10=>?_)))))
 ·skip
  refine xe (t_n (zg (qZ (zcr (sps [yI c,yI c] (zjn (zn (sp (yI c) (sw (o_idxArr c underlying131 ti2 rfl rfl qf qf (sw (o_storeArr H 0 rfl (-1) sizeOf2 rfl rfl (i:=c) qf (by simp only [List.length_set,List.length_cons,List.length_nil,minus_len,Xh];omega) fun w11 H=>zo (b_n (t_n (zn (sw (zN c 1 rfl rfl qf (sp (yI (c+1)) (zo (xm (m' :=(6 - ((c+1):Int)).toNat) qf ⟨_,c+1,((minus c).set c (-1)),uE4,?_,?_,rfl,N,H⟩))))))))))))))))))))
  · exact minus_set qf
  · omega
 refine zx4 (zcc (oF rfl (oL rfl (H.cell 2 rfl rfl) (oN rfl (sp (yI 0) (zjn (qZ ?_)))))))
 refine zU (fun m' ρ w12=>∃ (zl:Env) (k:Nat) (top_1:yLI),ρ=upd (upd (upd (upd (upd (upd zl 2 (pp b1 0)) 3 (pp b3 0)) 5 (pp b5 0)) 20 (Sv qK s.qx.length qI)) 21 (yI s.qx.length)) 22 (yI k)∧top_1=bests s t (-1) 6 k∧((k:Int)≤s.qx.length)∧m' =(s.qx.length - (k:Int)).toNat∧Fresh w.heap.size []∧St w w12 [.box b5 (top_1.map (Value.int .i64)) 131,.box b3 (yT t qR qP xq xn qN qM) 31,.box b1 (yS s qC qB qK qI) 27] [sF false qY qC qB s.qw,sF false xK qK qI s.qx,sF false zq qR qP t.qF,sF false zX xq xn t.qG,sF false xN qN qM t.qH]) ((s.qx.length - (0:Int)).toNat) ⟨_,0,(minus c),uE6,(by exact minus_six qf s t),qf,rfl,N,H⟩ ?_
 clear H N
 rintro m' ρ w13 ⟨zl,k,top_1,rfl,rfl,i0,rfl,N,H⟩
 refine zcr (sp (Bv (decide ((k:Int) < s.qx.length))) (zjn (zg (cD rfl (fun h14=>?_) (fun h14=>?_)))))
 ·skip
  have q:=p0.rule (i:=k) qf
  have qc:=q.1
  have qk:=q.cell
  have qr:=q.2.1
  have q6:(s.qx[k]!).qE.toNat < 6:=by omega
  refine xe (t_n (zg (qZ (zcr ?_))))
  obtain ⟨b15,o16,rfl⟩:=H.addr 1 rfl qf
  obtain ⟨ae18Need,ce18Need,Fe18Need,ae18Have,ce18Have,Fe18Have,ae18Lack,ce18Lack,Fe18Lack,ae18Here,ce18Here,Fe18Here,ae18Out,ce18Out,Fe18Out,ae18Into,ce18Into,Fe18Into,H⟩:=H.yY 1 rfl k k qf qf qf
  refine oI rfl rfl (sw (zB [yI ((s.qx[k]!).qE),yI ((s.qx[k]!).vI),Sv ae18Need (((s.qx[k]!).xM).length) ce18Need,Sv ae18Have (((s.qx[k]!).zF).length) ce18Have,Sv ae18Lack (((s.qx[k]!).zD).length) ce18Lack,Sv ae18Here (((s.qx[k]!).zC).length) ce18Here,Sv ae18Out (((s.qx[k]!).jI).length) ce18Out,Sv ae18Into (((s.qx[k]!).qO).length) ce18Into,Bv ((s.qx[k]!).zV)] isAgg56 sizeOf56 rfl (qJ (H.get 6 rfl) 0 9) ?_))
  refine sw (xx H ti56 [yI 0,yI 0,yN,yN,yN,yN,yN,yN,Bv false] fun b19 w20 H=>sw (xu H 0 [yI ((s.qx[k]!).qE),yI ((s.qx[k]!).vI),Sv ae18Need (((s.qx[k]!).xM).length) ce18Need,Sv ae18Have (((s.qx[k]!).zF).length) ce18Have,Sv ae18Lack (((s.qx[k]!).zD).length) ce18Lack,Sv ae18Here (((s.qx[k]!).zC).length) ce18Here,Sv ae18Out (((s.qx[k]!).jI).length) ce18Out,Sv ae18Into (((s.qx[k]!).qO).length) ce18Into,Bv ((s.qx[k]!).zV)] sizeOf56 fun w21 H=>?_))
  refine zjc (sw (zB [yI s.xf,Sv qC s.qw.length qB,Sv (aa b15 o16) s.qx.length qI] isAgg27 sizeOf27 rfl (qJ (H.cells 3 rfl) 0 3) (sw (zB (yT t qR qP xq xn qN qM) isAgg31 sizeOf31 rfl (qJ (H.cells 2 rfl) 0 3) ?_))))
  refine sw (zB [yI ((s.qx[k]!).qE),yI ((s.qx[k]!).vI),Sv ae18Need (((s.qx[k]!).xM).length) ce18Need,Sv ae18Have (((s.qx[k]!).zF).length) ce18Have,Sv ae18Lack (((s.qx[k]!).zD).length) ce18Lack,Sv ae18Here (((s.qx[k]!).zC).length) ce18Here,Sv ae18Out (((s.qx[k]!).jI).length) ce18Out,Sv ae18Into (((s.qx[k]!).qO).length) ce18Into,Bv ((s.qx[k]!).zV)] isAgg56 sizeOf56 rfl (qJ (H.cells 0 rfl) 0 9) ?_)
  refine sw (oq (isEnabled_ok _ s t (s.qx[k]!) (H.get 7 rfl).1 (H.get 8 rfl).1 (H.get 9 rfl).1 (H.get 10 rfl).1 (H.get 11 rfl).1 (H.get 0 rfl).1 (H.get 1 rfl).1 (H.get 2 rfl).1 (H.get 3 rfl).1 (H.get 4 rfl).1 (H.get 5 rfl).1 qg qg qg) H fun w23 H=>zjn (cP rfl (fun h25=>?_) (fun h25=>?_)))
  ·skip
   refine Qe rfl H [0,2,3] fun H=>?_
   have S:=H.jG [0,2,3] [0,1,2,3,4,5,6,7,8,9,10,11]
   refine tF 0 rfl rfl S ?_
   refine tL 1 rfl rfl (fun _ h=>h.cell 0 rfl rfl) S ?_
   refine tF 2 rfl rfl S ?_
   refine tL 3 rfl rfl (fun _ h=>h.cell 0 rfl rfl) S ?_
   refine rt 4 (pp b5 (0+((s.qx[k]!).qE:Int).toNat * 1)) (y_idxArr b5 (0) 6 ((s.qx[k]!).qE) underlying131 ti2 rfl rfl qf qf) S ?_
   refine tF 6 rfl rfl S ?_
   refine tL 7 rfl rfl (fun _ h=>h.cell 0 rfl rfl) S ?_
   refine ro 5 rfl (zt (yI ((bests s t (-1) 6 k)[((s.qx[k]!).qE).toNat]!)) isAgg2 rfl (H.cell 1 rfl (ints_at (iv:=(s.qx[k]!).qE) (i:=(((s.qx[k]!).qE).toNat)) qf (by simp only [List.length_set,List.length_cons,List.length_nil,minus_len,Xh];omega))) (⟨H.pick [0,2,3] [0,1,2,3,4,5,6,7,8,9,10,11],?_⟩))
   have S:=H.jG [0,2,3] [0,1,2,3,4,5,6,7,8,9,10,11]
   refine rt 8 (yI (max ((bests s t (-1) 6 k)[((s.qx[k]!).qE).toNat]!) ((s.qx[k]!).vI))) (y_max ((bests s t (-1) 6 k)[((s.qx[k]!).qE).toNat]!) ((s.qx[k]!).vI) rfl rfl) S ?_
   refine rt 9 (pp b5 (0+((s.qx[k]!).qE:Int).toNat * 1)) (y_idxArr b5 (0) 6 ((s.qx[k]!).qE) underlying131 ti2 rfl rfl qf qf) S ?_
   refine ro 10 rfl (o_storeArr H 1 rfl (max ((bests s t (-1) 6 k)[((s.qx[k]!).qE).toNat]!) ((s.qx[k]!).vI)) sizeOf2 rfl rfl (i:=(((s.qx[k]!).qE).toNat)) qf (by simp only [List.length_set,List.length_cons,List.length_nil,minus_len,Xh];omega) fun w27 H=>⟨H.pick [0,2,3] [0,1,2,3,4,5,6,7,8,9,10,11],(xg qh (b_n (t_n (zn (sw (zN k 1 rfl rfl qf (sp (yI (k+1)) (zo ?_))))))))⟩)
   refine xm (m' :=(s.qx.length - ((k+1):Int)).toNat) qf ⟨_,k+1,((bests s t (-1) 6 k).set (((s.qx[k]!).qE).toNat) (max ((bests s t (-1) 6 k)[((s.qx[k]!).qE).toNat]!) ((s.qx[k]!).vI))),uE6,?_,?_,rfl,N,H.pick [1,2,3] [7,8,9,10,11]⟩
   · first | exact bests_set ‹_› qf | exact bests_skip ‹_›
   · omega
  refine xe (b_n (t_n (zn (sw (zN k 1 rfl rfl qf (sp (yI (k+1)) (zo (xm (m' :=(s.qx.length - ((k+1):Int)).toNat) qf ⟨_,k+1,(bests s t (-1) 6 k),uE6,?_,?_,rfl,N,H.pick [1,2,3] [7,8,9,10,11]⟩))))))))
  · first | exact bests_set ‹_› qf | exact bests_skip ‹_›
  · omega
 refine zx4 (zcr (sw (jR H underlying24 ti2 fun b28 w29 H=>sp (Sv (aa b28 0) 0 0) (zjcc (oF rfl (oL rfl (H.cell 3 rfl rfl) (oN rfl (sp (yI 0) (zjn (qZ ?_))))))))))
 replace H:=H.boxRowI 0 [] 0
 refine zU (fun m' ρ w30=>∃ (zl:Env) (jH:yOA) (zY:Nat) (vV:Nat) (out:yLI) (i:Nat),ρ=upd (upd (upd (upd (upd (upd (upd zl 2 (pp b1 0)) 3 (pp b3 0)) 5 (pp b5 0)) 9 (Sv jH zY vV)) 43 (Sv qK s.qx.length qI)) 44 (yI s.qx.length)) 45 (yI i)∧out=applL s t i∧((i:Int)≤s.qx.length)∧m' =(s.qx.length - (i:Int)).toNat∧Fresh w.heap.size []∧St w w30 [rr jH zY vV 2 1 (out.map (Value.int .i64)),.box b5 ((bests s t (-1) 6 k).map (Value.int .i64)) 131,.box b3 (yT t qR qP xq xn qN qM) 31,.box b1 (yS s qC qB qK qI) 27] [sF false qY qC qB s.qw,sF false xK qK qI s.qx,sF false zq qR qP t.qF,sF false zX xq xn t.qG,sF false xN qN qM t.qH]) ((s.qx.length - (0:Int)).toNat) ⟨_,(aa b28 0),0,0,([]:yLI),0,uE7,(by rfl),qf,rfl,N,H⟩ ?_
 clear H N
 rintro m' ρ w31 ⟨zl,jH,zY,vV,out,i,rfl,rfl,i0,rfl,N,H⟩
 have hn_out:=H.vM 0 rfl
 have ll:=applL_le s t i
 refine zcr (sp (Bv (decide ((i:Int) < s.qx.length))) (zjn (zg (cD rfl (fun h32=>?_) (fun h32=>?_)))))
 ·skip
  have q:=p0.rule (i:=i) qf
  have qc:=q.1
  have qk:=q.cell
  have qr:=q.2.1
  have q6:(s.qx[i]!).qE.toNat < 6:=by omega
  refine xe (t_n (zg (qZ (zcr (sp (yI i) ?_)))))
  obtain ⟨b33,o34,rfl⟩:=H.addr 1 rfl qf
  obtain ⟨ae36Need,ce36Need,Fe36Need,ae36Have,ce36Have,Fe36Have,ae36Lack,ce36Lack,Fe36Lack,ae36Here,ce36Here,Fe36Here,ae36Out,ce36Out,Fe36Out,ae36Into,ce36Into,Fe36Into,H⟩:=H.yY 1 rfl i i qf qf qf
  refine oI rfl rfl (sw (zB [yI ((s.qx[i]!).qE),yI ((s.qx[i]!).vI),Sv ae36Need (((s.qx[i]!).xM).length) ce36Need,Sv ae36Have (((s.qx[i]!).zF).length) ce36Have,Sv ae36Lack (((s.qx[i]!).zD).length) ce36Lack,Sv ae36Here (((s.qx[i]!).zC).length) ce36Here,Sv ae36Out (((s.qx[i]!).jI).length) ce36Out,Sv ae36Into (((s.qx[i]!).qO).length) ce36Into,Bv ((s.qx[i]!).zV)] isAgg56 sizeOf56 rfl (qJ (H.get 6 rfl) 0 9) ?_))
  refine sw (xx H ti56 [yI 0,yI 0,yN,yN,yN,yN,yN,yN,Bv false] fun b37 w38 H=>sp (yI i) ?_)
  refine sw (xu H 0 [yI ((s.qx[i]!).qE),yI ((s.qx[i]!).vI),Sv ae36Need (((s.qx[i]!).xM).length) ce36Need,Sv ae36Have (((s.qx[i]!).zF).length) ce36Have,Sv ae36Lack (((s.qx[i]!).zD).length) ce36Lack,Sv ae36Here (((s.qx[i]!).zC).length) ce36Here,Sv ae36Out (((s.qx[i]!).jI).length) ce36Out,Sv ae36Into (((s.qx[i]!).qO).length) ce36Into,Bv ((s.qx[i]!).zV)] sizeOf56 fun w39 H=>zjn (zg ?_))
  refine yj rfl H fun H=>tF 0 rfl rfl H ?_
  refine tL 1 rfl rfl (fun _ h=>h.cell 0 rfl rfl) H ?_
  refine tF 2 rfl rfl H ?_
  refine tL 3 rfl rfl (fun _ h=>h.cell 0 rfl rfl) H ?_
  refine rt 4 (pp b5 (0+((s.qx[i]!).qE:Int).toNat * 1)) (y_idxArr b5 (0) 6 ((s.qx[i]!).qE) underlying131 ti2 rfl rfl qf qf) H ?_
  refine tL 5 rfl rfl (fun _ h=>h.cell 2 rfl (ints_at (iv:=(s.qx[i]!).qE) (i:=(((s.qx[i]!).qE).toNat)) qf (by simp only [List.length_set,List.length_cons,List.length_nil,minus_len,Xh];omega))) H ?_
  refine rtp 6 (Bv (((s.qx[i]!).vI:Int) == ((bests s t (-1) 6 k)[((s.qx[i]!).qE).toNat]!))) H ?_
  refine rtp 7 (Bv (((s.qx[i]!).vI:Int) == ((bests s t (-1) 6 k)[((s.qx[i]!).qE).toNat]!))) H ?_
  cases h41:(((s.qx[i]!).vI:Int) == ((bests s t (-1) 6 k)[((s.qx[i]!).qE).toNat]!))
  ·skip
   replace h41:=ne_of_beq_false h41
   refine zL [8,9,10,11] 4 (H) (rtp 12 (Bv false) H ?_)
   refine xg qh (t_n (xI false rfl (fun h=>absurd h qj) (fun _=>xe (b_n (t_n (zn (sw (zN i 1 rfl rfl qf (sp (yI (i+1)) (zo (xm (m' :=(s.qx.length - ((i+1):Int)).toNat) qf ⟨_,jH,zY,vV,(applL s t i),i+1,uE7,?_,?_,rfl,N,H.pick [1,2,3,4] [7,8,9,10,11]⟩)))))))))))
   · first | exact applL_yes (appl_yes (n:=6) (z:= -1) (k:=k) qf qf qf q6 ‹_› ‹_›) | exact applL_no (appl_no (n:=6) (z:= -1) (k:=k) qf qf qf q6 ‹_›) | exact applL_no (fun h=>‹¬ EnOk _ _ _› h.1)
   · omega
  replace h41:=eq_of_beq h41
  refine rg 8 (.agg #[yI s.xf,Sv qC s.qw.length qB,Sv (aa b33 o34) s.qx.length qI]) 57 (yK (cs:=[yI s.xf,Sv qC s.qw.length qB,Sv (aa b33 o34) s.qx.length qI]) isAgg27 sizeOf27 rfl (fun _ h=>qJ (h.cells 4 rfl) 0 3)) H ?_
  refine rg 9 (.agg #[Sv qR t.qF.length qP,Sv xq t.qG.length xn,Sv qN t.qH.length qM]) 57 (yK (cs:=(yT t qR qP xq xn qN qM)) isAgg31 sizeOf31 rfl (fun _ h=>qJ (h.cells 3 rfl) 0 3)) H ?_
  refine rg 10 (.agg #[yI ((s.qx[i]!).qE),yI ((s.qx[i]!).vI),Sv ae36Need (((s.qx[i]!).xM).length) ce36Need,Sv ae36Have (((s.qx[i]!).zF).length) ce36Have,Sv ae36Lack (((s.qx[i]!).zD).length) ce36Lack,Sv ae36Here (((s.qx[i]!).zC).length) ce36Here,Sv ae36Out (((s.qx[i]!).jI).length) ce36Out,Sv ae36Into (((s.qx[i]!).qO).length) ce36Into,Bv ((s.qx[i]!).zV)]) 57 (yK (cs:=[yI ((s.qx[i]!).qE),yI ((s.qx[i]!).vI),Sv ae36Need (((s.qx[i]!).xM).length) ce36Need,Sv ae36Have (((s.qx[i]!).zF).length) ce36Have,Sv ae36Lack (((s.qx[i]!).zD).length) ce36Lack,Sv ae36Here (((s.qx[i]!).zC).length) ce36Here,Sv ae36Out (((s.qx[i]!).jI).length) ce36Out,Sv ae36Into (((s.qx[i]!).qO).length) ce36Into,Bv ((s.qx[i]!).zV)]) isAgg56 sizeOf56 rfl (fun _ h=>qJ (h.cells 0 rfl) 0 9)) H ?_
  refine zH [11] qh qm (Xg rfl (e:=57) rfl rfl (oq (isEnabled_ok _ s t (s.qx[i]!) (H.get 7 rfl).1 (H.get 8 rfl).1 (H.get 9 rfl).1 (H.get 10 rfl).1 (H.get 11 rfl).1 (H.get 0 rfl).1 (H.get 1 rfl).1 (H.get 2 rfl).1 (H.get 3 rfl).1 (H.get 4 rfl).1 (H.get 5 rfl).1 qg qg qg) H fun w43 H=>⟨H,(rtp 12 (Bv (dec (EnOk s t (s.qx[i]!)))) H ?_)⟩) zI)
  refine xg qh (t_n (cP rfl (fun h45=>?_) (fun h45=>?_)))
  ·skip
   refine zn (sps [Sv jH zY vV,yI i] (sw (zJ H underlying24 ti2 [yI i] fun b46 w47 H=>sw (zM H 2 rfl 0 rfl underlying24 ti2 rfl qj rfl rfl rfl (by simp [Value.oneCell',Value.cells]) qp qf fun a48 c49 w50 H=>?_))))
   rw [snocI] at H
   refine sp (Sv a48 (zY+1) c49) (zo (b_n (t_n (zn (sw (zN i 1 rfl rfl qf (sp (yI (i+1)) (zo (xm (m' :=(s.qx.length - ((i+1):Int)).toNat) qf ⟨_,a48,zY+1,c49,((applL s t i)++[(i:Int)]),i+1,uE7,?_,?_,rfl,N,H.pick [2,3,4,5] [7,8,9,10,11]⟩)))))))))
   · first | exact applL_yes (appl_yes (n:=6) (z:= -1) (k:=k) qf qf qf q6 ‹_› ‹_›) | exact applL_no (appl_no (n:=6) (z:= -1) (k:=k) qf qf qf q6 ‹_›) | exact applL_no (fun h=>‹¬ EnOk _ _ _› h.1)
   · omega
  refine xe (b_n (t_n (zn (sw (zN i 1 rfl rfl qf (sp (yI (i+1)) (zo (xm (m' :=(s.qx.length - ((i+1):Int)).toNat) qf ⟨_,jH,zY,vV,(applL s t i),i+1,uE7,?_,?_,rfl,N,H.pick [1,2,3,4] [7,8,9,10,11]⟩))))))))
  · first | exact applL_yes (appl_yes (n:=6) (z:= -1) (k:=k) qf qf qf q6 ‹_› ‹_›) | exact applL_no (appl_no (n:=6) (z:= -1) (k:=k) qf qf qf q6 ‹_›) | exact applL_no (fun h=>‹¬ EnOk _ _ _› h.1)
  · omega
 refine zx4 (zcr (sps [Sv jH zY vV,Sv jH zY vV] (zjr (ret1 (Sv jH zY vV) rfl rfl ⟨_,rfl,?_,H.base⟩))))
 obtain rfl:i=s.qx.length:=by omega
 exact ⟨jH,zY,vV,rfl,N,H.pick [0] []⟩
end
end Go.Proofs.YtcpnclokildllaaGreat
