/- Walks and laws, printed by program and by hand: what each function comes to, for all arguments, part 2. -/
import Derived.Test.YtdhklgjmiamiaaaGreatA1
namespace Go.Proofs.YtdhklgjmiamiaaaGreat
set_option linter.unusedVariables false
set_option linter.unusedSimpArgs false
open Go.Proofs.YtdhklgjmiamiaaaGreat.Tot (tot)
open Go.Proofs.YtdhklgjmiamiaaaGreat.Mark (cnt mrk mkd mkd_mark cnt_mark)
section
open Go.Proofs.Tryz
open Go.RowKit
set_option linter.unusedVariables false
set_option linter.unusedSimpArgs false
set_option maxRecDepth 100000
set_option maxHeartbeats 4000000
variable {bs os qI qQ bt ot xf xA qR : Nat}
theorem l01Bag_ok (w:World) (l:yLI) {al:yOA} {cl:Nat} {Fl:yLN} (hl:qO.rep w Fl [.slice al l.length cl] l):Calls Tryz.prog 182 #[.slice al l.length cl] w (Ret (fun v w' =>v=.bool (dec (BagAny l))) w):=by
 refine en func182 ntmps182 ?_
 have H:=(St.start w).arg hl
 have nhl:=qM hl
 clear hl
 refine zcr (sp (.bool false) (zjcc (sp (yI 0) (zjn (qY ?_)))))
 refine zq ((fun Z0=>fun m' ρ w1=>∃ (xM:Env) (k:Nat),ρ=upd (upd xM 0 (.slice al l.length cl)) 3 (yI k)∧(k≤l.length)∧(Counts l k)∧m' =l.length - k∧St w w1 [] [Z0]) _) (l.length - 0) ⟨_,0,uE2,qf,(by exact Counts.zero l),rfl,H⟩ ?_
 clear H
 rintro m' ρ w2 ⟨xM,k,rfl,i0,i1,rfl,H⟩
 refine zcc (sp (yI k) (sq 1 (oN rfl (sq 1 (zjn (cD rfl (fun h3=>?_) (fun h3=>?_)))))))
 ·skip
  refine qW (t_n (xQ (qY (zcr (sq 1 (sp (yI k) ?_))))))
  obtain ⟨b4,o5,rfl⟩:=H.addr 0 rfl qf
  refine oI rfl rfl (oL rfl (H.zH 0 rfl k qf) (sw (oq (l00In_ok w2 (l[k]!) 0 1000) H fun w6 H=>sq 1 (zjn (xE _ rfl (fun h8=>?_) (fun h8=>?_))))))
  ·skip
   replace h8:=xJ h8
   replace h8:=Xk h8
   refine zcr (sp (.bool false) (zjr (zr5 (ret1 (.bool false) rfl rfl ⟨_,rfl,?_,H.base⟩))))
   rw [xk (fun h=>‹¬ (0≤l[k]! ∧l[k]! ≤1000)› (h.1 k qf))]
  replace h8:=xw h8
  replace h8:=QJ.1 h8
  refine qW (b_n (t_n (xU (sp (yI k) (sw (zA k 1 rfl rfl qf (sq 1 (xY (xe (m' :=l.length - (k+1)) qf ⟨_,k+1,uE2,?_,?_,rfl,H⟩)))))))))
  · omega
  · exact i1.succ ‹_›
 refine zx4 (zcr (sq 1 (oN rfl (sw (oq (l00In_ok w2 l.length 1 8) H fun w9 H=>sq 1 (zjr (ret1 (.bool (inR l.length 1 8)) rfl rfl ⟨_,rfl,?_,H.base⟩)))))))
 obtain rfl:k=l.length:=by omega
 refine congrArg Value.bool (dec_eq ?_)
 rw [QJ]
 exact ⟨fun h=>⟨i1,by omega,by omega⟩,fun h=>by have:=h.2;omega⟩

theorem QA (w:World) (s:qE) (b:yLI) {qJ:yOA} {xu:yLN} {qV:yOA} {zh:yLN} {ab:yOA} {cb:Nat} {Fb:yLN} (hs:vG w bs os (yS s qJ qI qV qQ)) (qX:qO.rep w xu [.slice qJ s.qA.length qI] s.qA) (xn:qO.rep w zh [.slice qV s.qB.length qQ] s.qB) (hb:qO.rep w Fb [.slice ab b.length cb] b):Calls Tryz.prog 137 #[pp bs os,.slice ab b.length cb] w (Ret (fun v w' =>v=.bool (dec (vw s.xP b))) w):=by
 refine en func137 ntmps137 ?_
 have H:=((((St.start w).arg hb).arg xn).arg qX).XO hs
 have zN:=qM qX
 have vW:=qM xn
 have nhb:=qM hb
 clear hs qX xn hb
 refine zcr (sp (.bool false) (zjc (sq 1 (sw (oq (l01Bag_ok _ b (H.get 3 rfl).1) H fun w1 H=>sp (.bool (dec (BagAny b))) ?_)))))
 cases h3:(dec (BagAny b))
 ·skip
  replace h3:=zT h3
  refine xZ [8,9,10,11,12,13,14] (sp (.bool false) (sp (.bool false) (zjr (ret1 (.bool false) rfl rfl ⟨_,rfl,?_,H.base⟩))))
  rw [xk (fun h=>‹¬ BagAny b› h.1)]
 replace h3:=yX h3
 refine qL 7 rfl rfl (sq 1 (qL 7 rfl rfl (oN rfl (qL 7 rfl rfl (sq 1 (qL 7 rfl rfl (sq 1 (qL 7 rfl rfl (oF rfl (qL 7 rfl rfl (oL rfl (H.x8 0 rfl 0 rfl) (qL 7 rfl rfl (sq 3 (zjr (ret1 (.bool ((b.length:Int) == s.xP)) rfl rfl ⟨_,rfl,(congrArg Value.bool (dec_eq ?_)),H.base⟩)))))))))))))))
 rw [beq_iff_eq]
 exact ⟨fun h=>⟨‹_›,h⟩,fun h=>h.2⟩

theorem l02Frame_ok (w:World) (s:qE) {qJ:yOA} {xu:yLN} {qV:yOA} {zh:yLN} (hs:vG w bs os (yS s qJ qI qV qQ)) (qX:qO.rep w xu [.slice qJ s.qA.length qI] s.qA) (xn:qO.rep w zh [.slice qV s.qB.length qQ] s.qB):Calls Tryz.prog 135 #[pp bs os] w (Ret (fun v w' =>v=.bool (dec (jL s))) w):=by
 refine en func135 ntmps135 ?_
 have H:=(((St.start w).arg xn).arg qX).XO hs
 have zN:=qM qX
 have vW:=qM xn
 clear hs qX xn
 refine zcr (sp (.bool false) (zjcc (sq 2 (oF rfl (oL rfl (H.x8 0 rfl 0 rfl) (sw (oq (l00In_ok w s.xP 1 8) H fun w1 H=>sp (.bool (!(inR s.xP 1 8))) (sp (.bool (!(inR s.xP 1 8))) ?_))))))))
 cases h3:(!(inR s.xP 1 8))
 ·skip
  replace h3:=xw h3
  replace h3:=QJ.1 h3
  refine qL 10 rfl rfl (sq 1 (qL 10 rfl rfl (sq 1 (qL 10 rfl rfl (oF rfl (qL 10 rfl rfl (oL rfl (H.x8 0 rfl 1 rfl) (qL 10 rfl rfl (oN rfl (qL 10 rfl rfl (sw (oq (l00In_ok w1 s.qA.length 1 6) H fun w4 H=>qL 10 rfl rfl (sp (.bool (!(inR s.qA.length 1 6))) (sp (.bool (!(inR s.qA.length 1 6))) (sp (.bool (!(inR s.qA.length 1 6))) ?_)))))))))))))))
  cases h6:(!(inR s.qA.length 1 6))
  ·skip
   replace h6:=xw h6
   replace h6:=QJ.1 h6
   refine qL 19 rfl rfl (sq 1 (qL 19 rfl rfl (sq 1 (qL 19 rfl rfl (oF rfl (qL 19 rfl rfl (oL rfl (H.x8 0 rfl 1 rfl) (qL 19 rfl rfl ?_))))))))
   obtain ⟨b7,o8,rfl⟩:=H.addr 1 rfl qf
   refine oI rfl rfl (qL 19 rfl rfl (oL rfl (H.zH 1 rfl 0 qf) (qL 19 rfl rfl (sp (.bool ((s.qA[0]! :Int) != (-1))) (sp (.bool ((s.qA[0]! :Int) != (-1))) (zjn (xE ((s.qA[0]! :Int) != (-1)) rfl (fun h9=>?_) (fun h9=>?_))))))))
   ·skip
    replace h9:=bne_iff_ne.1 h9
    refine zcr (sp (.bool false) (zjr (t_r (ret1 (.bool false) rfl rfl ⟨_,rfl,?_,H.base⟩))))
    rw [xk (fun h=>by obtain ⟨h1,h2,h3,h4⟩:=h;first | omega | (have:=h4 k qf qf;omega))]
   replace h9:=xm h9
   refine qW (t_n (zcc (sp (yI 1) (zjn (qY ?_)))))
   refine zq ((fun Z0 Z1 Z2=>fun m' ρ w10=>∃ (xM:Env) (k:Nat),ρ=upd (upd xM 0 (pp bs os)) 3 (yI k)∧(k≤s.qA.length)∧(1≤k)∧(FrameTo s k)∧m' =s.qA.length - k∧St w w10 [] [Z0,Z1,Z2]) _ _ _) (s.qA.length - 1) ⟨_,1,uE2,qf,qf,(by exact FrameTo.one s),rfl,H⟩ ?_
   clear H
   rintro m' ρ w11 ⟨xM,k,rfl,i0,i2,i1,rfl,H⟩
   refine zcc (sp (yI k) (sq 2 (oF rfl (oL rfl (H.x8 0 rfl 1 rfl) (oN rfl (sq 1 (zjn (cD rfl (fun h12=>?_) (fun h12=>?_)))))))))
   ·skip
    refine qW (t_n (xQ (qY (zcr (sq 2 (oF rfl (oL rfl (H.x8 0 rfl 1 rfl) (sp (yI k) (oI rfl rfl (oL rfl (H.zH 1 rfl k qf) (sp (yI k) (sw (o_sub k 1 rfl rfl qf (sw (oq (l00In_ok w11 (s.qA[k]!) 0 (k - 1)) H fun w13 H=>sq 1 (zjn (xE _ rfl (fun h15=>?_) (fun h15=>?_))))))))))))))))))
    ·skip
     replace h15:=xJ h15
     replace h15:=Xk h15
     refine zcr (sp (.bool false) (zjr (zr5 (ret1 (.bool false) rfl rfl ⟨_,rfl,?_,H.base⟩))))
     rw [xk (fun h=>by obtain ⟨h1,h2,h3,h4⟩:=h;first | omega | (have:=h4 k qf qf;omega))]
    replace h15:=xw h15
    replace h15:=QJ.1 h15
    refine qW (b_n (t_n (xU (sp (yI k) (sw (zA k 1 rfl rfl qf (sq 1 (xY (xe (m' :=s.qA.length - (k+1)) qf ⟨_,k+1,uE2,?_,?_,?_,rfl,H⟩)))))))))
    · omega
    · omega
    · exact i1.succ ‹_›
   refine zx4 (zcr (sp (.bool true) (zjr (ret1 (.bool true) rfl rfl ⟨_,rfl,?_,H.base⟩))))
   obtain rfl:k=s.qA.length:=by omega
   rw [jY ⟨by omega,by omega,by omega,i1⟩]
  replace h6:=xJ h6
  replace h6:=Xk h6
  refine xZ [20,21,22,23,24,25,26] (sp (.bool true) (zjn (xE true rfl (fun _=>zcr (sp (.bool false) (zjr (t_r (ret1 (.bool false) rfl rfl ⟨_,rfl,?_,H.base⟩))))) (fun h=>absurd h qj))))
  rw [xk (fun h=>by obtain ⟨h1,h2,h3,h4⟩:=h;first | omega | (have:=h4 k qf qf;omega))]
 replace h3:=xJ h3
 replace h3:=Xk h3
 refine xZ [11,12,13,14,15,16,17] (sp (.bool true) (sp (.bool true) (xZ [20,21,22,23,24,25,26] (sp (.bool true) (zjn (xE true rfl (fun _=>zcr (sp (.bool false) (zjr (t_r (ret1 (.bool false) rfl rfl ⟨_,rfl,?_,H.base⟩))))) (fun h=>absurd h qj)))))))
 rw [xk (fun h=>by obtain ⟨h1,h2,h3,h4⟩:=h;first | omega | (have:=h4 k qf qf;omega))]

theorem l02In_ok (w:World) (s:qE) (c:Int) (other:Int) {qJ:yOA} {xu:yLN} {qV:yOA} {zh:yLN} (hs:vG w bs os (yS s qJ qI qV qQ)) (qX:qO.rep w xu [.slice qJ s.qA.length qI] s.qA) (xn:qO.rep w zh [.slice qV s.qB.length qQ] s.qB) (p0:jL s) (p1:CellIn s c):Calls Tryz.prog 181 #[pp bs os,yI c,yI other] w (Ret (fun v w' =>v=.bool (dec (Lies s.qA other c))) w):=by
 refine en func181 ntmps181 ?_
 have H:=(((St.start w).arg xn).arg qX).XO hs
 have zN:=qM qX
 have vW:=qM xn
 clear hs qX xn
 refine zcr (sp (.bool false) (zjn (xQ (qY ?_))))
 refine zq ((fun Z0 Z1 Z2=>fun m' ρ w1=>∃ (xM:Env) (y:Int),ρ=upd (upd (upd xM 0 (pp bs os)) 1 (yI y)) 2 (yI other)∧(0≤y∧y≤(s.qA.length:Int) - 1)∧(Lies s.qA other c↔Lies s.qA other y)∧m' =y.toNat∧St w w1 [] [Z0,Z1,Z2]) _ _ _) (c.toNat) ⟨_,c,uE3,(by exact p1),(by exact Iff.rfl),rfl,H⟩ ?_
 clear H
 rintro m' ρ w2 ⟨xM,y,rfl,i0,i1,rfl,H⟩
 have up:=fun h=>p0.up (c:=y) h i0.2
 refine zcc (sp (yI y) (sp (.bool (decide ((y:Int) > 0))) (zjn (cD rfl (fun h3=>?_) (fun h3=>?_)))))
 ·skip
  refine qW (t_n (qY (zcr (sq 2 (oF rfl (oL rfl (H.x8 0 rfl 1 rfl) (sp (yI y) ?_)))))))
  obtain ⟨b4,o5,rfl⟩:=H.addr 1 rfl qf
  refine oI rfl rfl (oL rfl (H.elemInt 1 rfl y qf qf) (sq 1 (zjc (sq 3 (zjn (cE rfl (fun h6=>?_) (fun h6=>?_)))))))
  ·skip
   refine zcr (sp (.bool true) (zjr (b_r (t_r (b_r (t_r (ret1 (.bool true) rfl rfl ⟨_,rfl,?_,H.base⟩)))))))
   rw [jY (i1.2 (.here qf ‹_›))]
  refine qW (b_n ?_)
  have up1:=up qf
  refine xe (m' :=(s.qA[y.toNat]!).toNat) qf ⟨_,(s.qA[y.toNat]!),uE3,?_,?_,rfl,H⟩
  · have:=up qf;omega
  · exact i1.trans (lies_iff.trans ⟨fun h=>h.2.resolve_left ‹_›,fun h=>⟨by omega,.inr h⟩⟩)
 refine zx4 (zcr (sp (.bool false) (zjr (ret1 (.bool false) rfl rfl ⟨_,rfl,?_,H.base⟩))))
 rw [xk (fun h=>by have:=(lies_iff.1 (i1.1 h)).1;omega)]

theorem l02Rule_ok (w:World) (s:qE) (r:jw) {qJ:yOA} {xu:yLN} {qV:yOA} {zh:yLN} {br or:Nat} {arNeed:yOA} {crNeed:Nat} {FrNeed:yLN} {arHave:yOA} {crHave:Nat} {FrHave:yLN} {arLack:yOA} {crLack:Nat} {FrLack:yLN} {arHere:yOA} {crHere:Nat} {FrHere:yLN} {arOut:yOA} {crOut:Nat} {FrOut:yLN} {X4:yOA} {X0:Nat} {FrInto:yLN} (hs:vG w bs os (yS s qJ qI qV qQ)) (qX:qO.rep w xu [.slice qJ s.qA.length qI] s.qA) (xn:qO.rep w zh [.slice qV s.qB.length qQ] s.qB) (hr:vG w br or [yI r.qP,yI r.jI,.slice arNeed r.zB.length crNeed,.slice arHave r.vJ.length crHave,.slice arLack r.vP.length crLack,.slice arHere r.vT.length crHere,.slice arOut r.yP.length crOut,.slice X4 r.xh.length X0,.bool r.jB]) (hrNeed:qO.rep w FrNeed [.slice arNeed r.zB.length crNeed] r.zB) (hrHave:qO.rep w FrHave [.slice arHave r.vJ.length crHave] r.vJ) (hrLack:qO.rep w FrLack [.slice arLack r.vP.length crLack] r.vP) (hrHere:qO.rep w FrHere [.slice arHere r.vT.length crHere] r.vT) (hrOut:qO.rep w FrOut [.slice arOut r.yP.length crOut] r.yP) (hrInto:qO.rep w FrInto [.slice X4 r.xh.length X0] r.xh) (p0:jL s):Calls Tryz.prog 136 #[pp bs os,pp br or] w (Ret (fun v w' =>v=.bool (dec (RuleOk s r))) w):=by
 refine en func136 ntmps136 ?_
 have H:=((((((((((St.start w).arg hrInto).arg hrOut).arg hrHere).arg hrLack).arg hrHave).arg hrNeed).XO hr).arg xn).arg qX).XO hs
 have zN:=qM qX
 have vW:=qM xn
 have nhrNeed:=qM hrNeed
 have nhrHave:=qM hrHave
 have nhrLack:=qM hrLack
 have nhrHere:=qM hrHere
 have nhrOut:=qM hrOut
 have nhrInto:=qM hrInto
 clear hs qX xn hr hrNeed hrHave hrLack hrHere hrOut hrInto
 refine zcr (sp (.bool false) (zjn (xQ (xQ ?_))))
 refine jf rfl H fun H=>rtl 0 H ?_
 refine rtl 1 H ?_
 refine tF 2 rfl rfl H ?_
 refine tL 3 rfl rfl (fun _ h=>h.x8 3 rfl 0 rfl) H ?_
 refine rtl 4 H ?_
 refine rtl 5 H ?_
 refine tF 6 rfl rfl H ?_
 refine tL 7 rfl rfl (fun _ h=>h.x8 0 rfl 1 rfl) H ?_
 refine tN 8 rfl rfl H ?_
 refine rt 9 _ (y_sub s.qA.length 1 rfl rfl qf) H ?_
 refine ro 10 rfl (oq (l00In_ok w.drew r.qP 0 (s.qA.length - 1)) H fun w2 H=>⟨H,(rtp 11 (.bool (!(inR r.qP 0 (s.qA.length - 1)))) H ?_)⟩)
 refine rtp 12 (.bool (!(inR r.qP 0 (s.qA.length - 1)))) H ?_
 cases h4:(!(inR r.qP 0 (s.qA.length - 1)))
 ·skip
  replace h4:=xw h4
  replace h4:=QJ.1 h4
  refine rgl 13 19 H ?_
  refine rgl 14 19 H ?_
  refine gF 15 rfl rfl H ?_
  refine gL 16 rfl rfl (fun _ h=>h.x8 3 rfl 1 rfl) H ?_
  refine zY [17] qh qm (XD rfl (e:=19) rfl rfl (oq (l00In_ok w2 r.jI 0 9) H fun w5 H=>⟨H,(rgp 18 (.bool (!(inR r.jI 0 9))) 19 H ?_)⟩) zZ)
  refine rtp 19 (.bool (!(inR r.jI 0 9))) H ?_
  refine rtp 20 (.bool (!(inR r.jI 0 9))) H ?_
  cases h7:(!(inR r.jI 0 9))
  ·skip
   replace h7:=xw h7
   replace h7:=QJ.1 h7
   refine rgl 21 27 H ?_
   refine rgl 22 27 H ?_
   refine gF 23 rfl rfl H ?_
   refine gL 24 rfl rfl (fun _ h=>h.x8 3 rfl 8 rfl) H ?_
   refine rgp 25 (.bool r.jB) 27 H ?_
   cases h8:(r.jB)
   ·skip
    rw [h8] at H
    refine zI [26,27,28,29,30] 5 (H) (rgp 31 (.bool false) 27 H ?_)
    refine rtp 32 (.bool false) H ?_
    refine rtp 33 (.bool false) H ?_
    refine rgl 34 40 H ?_
    refine rgl 35 40 H ?_
    refine gF 36 rfl rfl H ?_
    refine gL 37 rfl rfl (fun _ h=>h.x8 3 rfl 7 rfl) H ?_
    refine gN 38 rfl rfl H ?_
    refine rgp 39 (.bool (decide ((r.xh.length:Int) > 3))) 40 H ?_
    refine rtp 40 (.bool (decide ((r.xh.length:Int) > 3))) H ?_
    refine xq qh (t_n (cD rfl (fun h9=>?_) (fun h9=>?_)))
    ·skip
     refine zcr (sp (.bool false) (zjr (t_r (ret1 (.bool false) rfl rfl ⟨_,rfl,?_,H.base⟩))))
     rw [xk (fun h=>by obtain ⟨h1,h2,h3,h4,h5,h6,h7,h8,h9,h10,h11⟩:=h;first | contradiction | omega | exact h3 ⟨‹_›,‹_›⟩ | (obtain ⟨q1,q2,q3,q4,q5⟩:=h11 k qf;first | contradiction | omega | (have:=q5 qf;omega)))]
    refine qW (t_n (zcc (sq 3 (oF rfl (oL rfl (H.x8 3 rfl 2 rfl) (sw (oq (QA _ s r.zB (qC (H.get 0 rfl) 0 3) (H.get 1 rfl).1 (H.get 2 rfl).1 (H.get 4 rfl).1) H fun w10 H=>sp (.bool (!(dec (vw s.xP r.zB)))) (sp (.bool (!(dec (vw s.xP r.zB)))) ?_))))))))
    cases h12:(!(dec (vw s.xP r.zB)))
    ·skip
     replace h12:=xw h12
     replace h12:=yX h12
     refine qL 55 rfl rfl (sq 1 (qL 55 rfl rfl (sq 1 (qL 55 rfl rfl (sq 1 (qL 55 rfl rfl (oF rfl (qL 55 rfl rfl (oL rfl (H.x8 3 rfl 3 rfl) (qL 55 rfl rfl (sw (oq (QA _ s r.vJ (qC (H.get 0 rfl) 0 3) (H.get 1 rfl).1 (H.get 2 rfl).1 (H.get 5 rfl).1) H fun w13 H=>qL 55 rfl rfl (sp (.bool (!(dec (vw s.xP r.vJ)))) (sp (.bool (!(dec (vw s.xP r.vJ)))) (sp (.bool (!(dec (vw s.xP r.vJ)))) ?_)))))))))))))))
     cases h15:(!(dec (vw s.xP r.vJ)))
     ·skip
      replace h15:=xw h15
      replace h15:=yX h15
      refine qL 64 rfl rfl (sq 1 (qL 64 rfl rfl (sq 1 (qL 64 rfl rfl (sq 1 (qL 64 rfl rfl (oF rfl (qL 64 rfl rfl (oL rfl (H.x8 3 rfl 4 rfl) (qL 64 rfl rfl (sw (oq (QA _ s r.vP (qC (H.get 0 rfl) 0 3) (H.get 1 rfl).1 (H.get 2 rfl).1 (H.get 6 rfl).1) H fun w16 H=>qL 64 rfl rfl (sp (.bool (!(dec (vw s.xP r.vP)))) (sp (.bool (!(dec (vw s.xP r.vP)))) (sp (.bool (!(dec (vw s.xP r.vP)))) ?_)))))))))))))))
      cases h18:(!(dec (vw s.xP r.vP)))
      ·skip
       replace h18:=xw h18
       replace h18:=yX h18
       refine qL 73 rfl rfl (sq 1 (qL 73 rfl rfl (sq 1 (qL 73 rfl rfl (sq 1 (qL 73 rfl rfl (oF rfl (qL 73 rfl rfl (oL rfl (H.x8 3 rfl 5 rfl) (qL 73 rfl rfl (sw (oq (QA _ s r.vT (qC (H.get 0 rfl) 0 3) (H.get 1 rfl).1 (H.get 2 rfl).1 (H.get 7 rfl).1) H fun w19 H=>qL 73 rfl rfl (sp (.bool (!(dec (vw s.xP r.vT)))) (sp (.bool (!(dec (vw s.xP r.vT)))) (sp (.bool (!(dec (vw s.xP r.vT)))) ?_)))))))))))))))
       cases h21:(!(dec (vw s.xP r.vT)))
       ·skip
        replace h21:=xw h21
        replace h21:=yX h21
        refine qL 82 rfl rfl (sq 1 (qL 82 rfl rfl (sq 1 (qL 82 rfl rfl (sq 1 (qL 82 rfl rfl (oF rfl (qL 82 rfl rfl (oL rfl (H.x8 3 rfl 6 rfl) (qL 82 rfl rfl (sw (oq (QA _ s r.yP (qC (H.get 0 rfl) 0 3) (H.get 1 rfl).1 (H.get 2 rfl).1 (H.get 8 rfl).1) H fun w22 H=>qL 82 rfl rfl (sp (.bool (!(dec (vw s.xP r.yP)))) (sp (.bool (!(dec (vw s.xP r.yP)))) (sp (.bool (!(dec (vw s.xP r.yP)))) ?_)))))))))))))))
        cases h24:(!(dec (vw s.xP r.yP)))
        ·skip
         replace h24:=xw h24
         replace h24:=yX h24
         refine qL 91 rfl rfl (sq 1 (qL 91 rfl rfl (sq 1 (qL 91 rfl rfl (oF rfl (qL 91 rfl rfl (oL rfl (H.x8 3 rfl 2 rfl) (qL 91 rfl rfl (sw (oq (XG _ r.zB (H.get 4 rfl).1 (by first | assumption | exact vg ql | exact yB ql)) H fun w25 H=>qL 91 rfl rfl (sp (.bool ((QM r.zB:Int) == 0)) (sp (.bool ((QM r.zB:Int) == 0)) (zjn (cE rfl (fun h27=>?_) (fun h27=>?_)))))))))))))))
         ·skip
          refine zcr (sp (.bool false) (zjr (t_r (ret1 (.bool false) rfl rfl ⟨_,rfl,?_,H.base⟩))))
          rw [xk (fun h=>by obtain ⟨h1,h2,h3,h4,h5,h6,h7,h8,h9,h10,h11⟩:=h;first | contradiction | omega | exact h3 ⟨‹_›,‹_›⟩ | (obtain ⟨q1,q2,q3,q4,q5⟩:=h11 k qf;first | contradiction | omega | (have:=q5 qf;omega)))]
         refine qW (t_n (zcc (sp (yI 0) (zjn (qY ?_)))))
         refine zq ((fun Z0 Z1 Z2 Z3 Z4 Z5 Z6 Z7 Z8 Z9=>fun m' ρ w28=>∃ (xM:Env) (k:Nat),ρ=upd (upd (upd xM 0 (pp bs os)) 1 (pp br or)) 5 (yI k)∧(k≤r.xh.length)∧(IntosTo s r k)∧m' =r.xh.length - k∧St w w28 [] [Z0,Z1,Z2,Z3,Z4,Z5,Z6,Z7,Z8,Z9]) _ _ _ _ _ _ _ _ _ _) (r.xh.length - 0) ⟨_,0,uE3,qf,qx,rfl,H⟩ ?_
         clear H
         rintro m' ρ w29 ⟨xM,k,rfl,i0,i1,rfl,H⟩
         refine zcc (sp (yI k) (sq 2 (oF rfl (oL rfl (H.x8 3 rfl 7 rfl) (oN rfl (sq 1 (zjn (cD rfl (fun h30=>?_) (fun h30=>?_)))))))))
         ·skip
          refine qW (t_n (xQ (qY (zcr (sq 2 (oF rfl (oL rfl (H.x8 3 rfl 7 rfl) (sp (yI k) ?_))))))))
          obtain ⟨b31,o32,rfl⟩:=H.addr 9 rfl qf
          obtain ⟨ae33Bag,ce33Bag,Fe33Bag,H⟩:=H.yM 9 rfl k k qf qf qf
          refine oI rfl rfl (sq 1 (zjn (xQ (xQ ?_))))
          refine jf rfl H fun H=>rtl 0 H ?_
          refine rtl 1 H ?_
          refine tF 2 rfl rfl H ?_
          refine tL 3 rfl rfl (fun _ h=>h.x8 1 rfl 0 rfl) H ?_
          refine rtl 4 H ?_
          refine rtl 5 H ?_
          refine tF 6 rfl rfl H ?_
          refine tL 7 rfl rfl (fun _ h=>h.x8 2 rfl 1 rfl) H ?_
          refine tN 8 rfl rfl H ?_
          refine rt 9 _ (y_sub s.qA.length 1 rfl rfl qf) H ?_
          refine ro 10 rfl (oq (l00In_ok w29.drew ((r.xh[k]!).qP) 0 (s.qA.length - 1)) H fun w35 H=>⟨H,(rtp 11 (.bool (!(inR ((r.xh[k]!).qP) 0 (s.qA.length - 1)))) H ?_)⟩)
          refine rtp 12 (.bool (!(inR ((r.xh[k]!).qP) 0 (s.qA.length - 1)))) H ?_
          cases h37:(!(inR ((r.xh[k]!).qP) 0 (s.qA.length - 1)))
          ·skip
           replace h37:=xw h37
           replace h37:=QJ.1 h37
           refine rgl 13 126 H ?_
           refine rgl 14 126 H ?_
           refine rgl 15 126 H ?_
           refine gF 16 rfl rfl H ?_
           refine gL 17 rfl rfl (fun _ h=>h.x8 1 rfl 0 rfl) H ?_
           refine rgl 18 126 H ?_
           refine rgl 19 126 H ?_
           refine gF 20 rfl rfl H ?_
           refine gL 21 rfl rfl (fun _ h=>h.x8 5 rfl 0 rfl) H ?_
           refine zY [22] qh qm (XD rfl (e:=126) rfl rfl (oq (l02In_ok _ s ((r.xh[k]!).qP) r.qP (qC (H.get 2 rfl) 0 3) (H.get 3 rfl).1 (H.get 4 rfl).1 ql ql) H fun w38 H=>⟨H,(rgp 23 (.bool (!(dec (Lies s.qA r.qP ((r.xh[k]!).qP))))) 126 H ?_)⟩) zZ)
           refine rtp 24 (.bool (!(dec (Lies s.qA r.qP ((r.xh[k]!).qP))))) H ?_
           refine rtp 25 (.bool (!(dec (Lies s.qA r.qP ((r.xh[k]!).qP))))) H ?_
           cases h40:(!(dec (Lies s.qA r.qP ((r.xh[k]!).qP))))
           ·skip
            replace h40:=xw h40
            replace h40:=yX h40
            refine rgl 26 139 H ?_
            refine rgl 27 139 H ?_
            refine rgl 28 139 H ?_
            refine gF 29 rfl rfl H ?_
            refine gL 30 rfl rfl (fun _ h=>h.x8 1 rfl 1 rfl) H ?_
            refine zY [31] qh qm (XD rfl (e:=139) rfl rfl (oq (QA _ s ((r.xh[k]!).QG) (qC (H.get 2 rfl) 0 3) (H.get 3 rfl).1 (H.get 4 rfl).1 (H.get 0 rfl).1) H fun w41 H=>⟨H,(rgp 32 (.bool (!(dec (vw s.xP ((r.xh[k]!).QG))))) 139 H ?_)⟩) zZ)
            refine rtp 33 (.bool (!(dec (vw s.xP ((r.xh[k]!).QG))))) H ?_
            refine rtp 34 (.bool (!(dec (vw s.xP ((r.xh[k]!).QG))))) H ?_
            cases h43:(!(dec (vw s.xP ((r.xh[k]!).QG))))
            ·skip
             replace h43:=xw h43
             replace h43:=yX h43
             refine rgl 35 148 H ?_
             refine rgl 36 148 H ?_
             refine gF 37 rfl rfl H ?_
             refine gL 38 rfl rfl (fun _ h=>h.x8 1 rfl 1 rfl) H ?_
             refine zY [39] qh qm (XD rfl (e:=148) rfl rfl (oq (XG _ ((r.xh[k]!).QG) (H.get 0 rfl).1 (by first | assumption | exact vg ql | exact yB ql)) H fun w44 H=>⟨H,(rgp 40 (.bool ((QM ((r.xh[k]!).QG):Int) == 0)) 148 H ?_)⟩) zZ)
             refine rtp 41 (.bool ((QM ((r.xh[k]!).QG):Int) == 0)) H ?_
             refine xq qh (t_n (cE rfl (fun h46=>?_) (fun h46=>?_)))
             ·skip
              refine zcr (sp (.bool false) (zjr (t_r (zr5 (ret1 (.bool false) rfl rfl ⟨_,rfl,?_,H.base⟩)))))
              rw [xk (fun h=>by obtain ⟨h1,h2,h3,h4,h5,h6,h7,h8,h9,h10,h11⟩:=h;first | contradiction | omega | exact h3 ⟨‹_›,‹_›⟩ | (obtain ⟨q1,q2,q3,q4,q5⟩:=h11 k qf;first | contradiction | omega | (have:=q5 qf;omega)))]
             refine qW (t_n (xQ ?_))
             refine jf rfl H fun H=>rtp 0 (yI k) H ?_
             refine rtp 1 (.bool (decide ((k:Int) > 0))) H ?_
             refine rtp 2 (.bool (decide ((k:Int) > 0))) H ?_
             cases h48:(decide ((k:Int) > 0))
             ·skip
              replace h48:=of_decide_eq_false h48
              refine zI [3,4,5,6,7,8,9,10,11,12,13,14,15,16] 14 (H) (rtp 17 (.bool false) H ?_)
              refine xq qh (t_n (xE false rfl (fun h=>absurd h qj) (fun _=>qW (b_n (t_n (xU (sp (yI k) (sw (zA k 1 rfl rfl qf (sq 1 (xY (xe (m' :=r.xh.length - (k+1)) qf ⟨_,k+1,uE3,?_,?_,rfl,H.sel _ (.refl _) _ qm⟩))))))))))))
              · omega
              · exact i1.succ ⟨‹_›,‹_›,‹_›,‹_›,fun hk=>by omega⟩
             replace h48:=of_decide_eq_true h48
             refine rgl 3 158 H ?_
             refine rgl 4 158 H ?_
             refine gF 5 rfl rfl H ?_
             refine gL 6 rfl rfl (fun _ h=>h.x8 5 rfl 7 rfl) H ?_
             refine rgp 7 (yI k) 158 H ?_
             refine rg 8 _ 158 (y_sub k 1 rfl rfl qf) H ?_
             obtain ⟨ae49Bag,ce49Bag,Fe49Bag,H⟩:=H.yM 11 rfl (k - 1) (k - 1) qf qf qf
             refine gI 9 rfl rfl rfl (H.sel _ (.refl _) _ (fun _ h=>List.mem_cons_of_mem _ (List.mem_cons_of_mem _ (h)))) ?_
             refine gF 10 rfl rfl (H.sel _ (.refl _) _ (fun _ h=>List.mem_cons_of_mem _ (List.mem_cons_of_mem _ (h)))) ?_
             refine rgl 12 158 (H.sel _ (.refl _) _ (fun _ h=>List.mem_cons_of_mem _ (List.mem_cons_of_mem _ (h)))) ?_
             refine rgl 13 158 (H.sel _ (.refl _) _ (fun _ h=>List.mem_cons_of_mem _ (List.mem_cons_of_mem _ (h)))) ?_
             refine gF 14 rfl rfl (H.sel _ (.refl _) _ (fun _ h=>List.mem_cons_of_mem _ (List.mem_cons_of_mem _ (h)))) ?_
             refine gL 15 rfl rfl (fun _ h=>h.x8 1 rfl 0 rfl) (H.sel _ (.refl _) _ (fun _ h=>List.mem_cons_of_mem _ (List.mem_cons_of_mem _ (h)))) ?_
             refine zY [11] qh qm (XD rfl (e:=158) rfl rfl (zl (yI ((r.xh[k - 1]!).qP)) isAgg2 rfl (H.x8 1 rfl 0 rfl) (⟨H.dF 2,(rgl 16 158 (H.sel _ (.refl _) _ (fun _ h=>List.mem_cons_of_mem _ (List.mem_cons_of_mem _ (h)))) ?_)⟩)) zZ)
             refine rtl 17 (H.sel _ (.refl _) _ (fun _ h=>List.mem_cons_of_mem _ (List.mem_cons_of_mem _ (h)))) ?_
             refine xq qh (t_n (cD rfl (fun h50=>?_) (fun h50=>?_)))
             ·skip
              refine zcr (sp (.bool false) (zjr (zr5 (ret1 (.bool false) rfl rfl ⟨_,rfl,?_,H.base⟩))))
              rw [xk (fun h=>by obtain ⟨h1,h2,h3,h4,h5,h6,h7,h8,h9,h10,h11⟩:=h;first | contradiction | omega | exact h3 ⟨‹_›,‹_›⟩ | (obtain ⟨q1,q2,q3,q4,q5⟩:=h11 k qf;first | contradiction | omega | (have:=q5 qf;omega)))]
             refine qW (b_n (t_n (xU (sp (yI k) (sw (zA k 1 rfl rfl qf (sq 1 (xY (xe (m' :=r.xh.length - (k+1)) qf ⟨_,k+1,uE3,?_,?_,rfl,H.sel _ (.refl _) _ qm⟩)))))))))
             · omega
             · exact i1.succ ⟨‹_›,‹_›,‹_›,‹_›,fun hk=>by omega⟩
            replace h43:=xJ h43
            replace h43:=zT h43
            refine zI [35,36,37,38,39,40] 6 (H) (rtp 41 (.bool true) H ?_)
            refine xq qh (t_n (xE true rfl (fun _=>zcr (sp (.bool false) (zjr (t_r (zr5 (ret1 (.bool false) rfl rfl ⟨_,rfl,?_,H.base⟩)))))) (fun h=>absurd h qj)))
            rw [xk (fun h=>by obtain ⟨h1,h2,h3,h4,h5,h6,h7,h8,h9,h10,h11⟩:=h;first | contradiction | omega | exact h3 ⟨‹_›,‹_›⟩ | (obtain ⟨q1,q2,q3,q4,q5⟩:=h11 k qf;first | contradiction | omega | (have:=q5 qf;omega)))]
           replace h40:=xJ h40
           replace h40:=zT h40
           refine zI [26,27,28,29,30,31,32] 7 (H) (rtp 33 (.bool true) H ?_)
           refine rtp 34 (.bool true) H ?_
           refine zI [35,36,37,38,39,40] 6 (H) (rtp 41 (.bool true) H ?_)
           refine xq qh (t_n (xE true rfl (fun _=>zcr (sp (.bool false) (zjr (t_r (zr5 (ret1 (.bool false) rfl rfl ⟨_,rfl,?_,H.base⟩)))))) (fun h=>absurd h qj)))
           rw [xk (fun h=>by obtain ⟨h1,h2,h3,h4,h5,h6,h7,h8,h9,h10,h11⟩:=h;first | contradiction | omega | exact h3 ⟨‹_›,‹_›⟩ | (obtain ⟨q1,q2,q3,q4,q5⟩:=h11 k qf;first | contradiction | omega | (have:=q5 qf;omega)))]
          replace h37:=xJ h37
          replace h37:=Xk h37
          refine zI [13,14,15,16,17,18,19,20,21,22,23] 11 (H) (rtp 24 (.bool true) H ?_)
          refine rtp 25 (.bool true) H ?_
          refine zI [26,27,28,29,30,31,32] 7 (H) (rtp 33 (.bool true) H ?_)
          refine rtp 34 (.bool true) H ?_
          refine zI [35,36,37,38,39,40] 6 (H) (rtp 41 (.bool true) H ?_)
          refine xq qh (t_n (xE true rfl (fun _=>zcr (sp (.bool false) (zjr (t_r (zr5 (ret1 (.bool false) rfl rfl ⟨_,rfl,?_,H.base⟩)))))) (fun h=>absurd h qj)))
          rw [xk (fun h=>by obtain ⟨h1,h2,h3,h4,h5,h6,h7,h8,h9,h10,h11⟩:=h;first | contradiction | omega | exact h3 ⟨‹_›,‹_›⟩ | (obtain ⟨q1,q2,q3,q4,q5⟩:=h11 k qf;first | contradiction | omega | (have:=q5 qf;omega)))]
         refine zx4 (zcr (sp (.bool true) (zjr (ret1 (.bool true) rfl rfl ⟨_,rfl,?_,H.base⟩))))
         obtain rfl:k=r.xh.length:=by omega
         rw [jY ⟨by assumption,by omega,by simp_all,by omega,by assumption,by assumption,by assumption,by assumption,by assumption,by assumption,i1⟩]
        replace h24:=xJ h24
        replace h24:=zT h24
        refine xZ [92,93,94,95,96,97] (sp (.bool true) (zjn (xE true rfl (fun _=>zcr (sp (.bool false) (zjr (t_r (ret1 (.bool false) rfl rfl ⟨_,rfl,?_,H.base⟩))))) (fun h=>absurd h qj))))
        rw [xk (fun h=>by obtain ⟨h1,h2,h3,h4,h5,h6,h7,h8,h9,h10,h11⟩:=h;first | contradiction | omega | exact h3 ⟨‹_›,‹_›⟩ | (obtain ⟨q1,q2,q3,q4,q5⟩:=h11 k qf;first | contradiction | omega | (have:=q5 qf;omega)))]
       replace h21:=xJ h21
       replace h21:=zT h21
       refine xZ [83,84,85,86,87,88,89] (sp (.bool true) (sp (.bool true) (xZ [92,93,94,95,96,97] (sp (.bool true) (zjn (xE true rfl (fun _=>zcr (sp (.bool false) (zjr (t_r (ret1 (.bool false) rfl rfl ⟨_,rfl,?_,H.base⟩))))) (fun h=>absurd h qj)))))))
       rw [xk (fun h=>by obtain ⟨h1,h2,h3,h4,h5,h6,h7,h8,h9,h10,h11⟩:=h;first | contradiction | omega | exact h3 ⟨‹_›,‹_›⟩ | (obtain ⟨q1,q2,q3,q4,q5⟩:=h11 k qf;first | contradiction | omega | (have:=q5 qf;omega)))]
      replace h18:=xJ h18
      replace h18:=zT h18
      refine xZ [74,75,76,77,78,79,80] (sp (.bool true) (sp (.bool true) (xZ [83,84,85,86,87,88,89] (sp (.bool true) (sp (.bool true) (xZ [92,93,94,95,96,97] (sp (.bool true) (zjn (xE true rfl (fun _=>zcr (sp (.bool false) (zjr (t_r (ret1 (.bool false) rfl rfl ⟨_,rfl,?_,H.base⟩))))) (fun h=>absurd h qj))))))))))
      rw [xk (fun h=>by obtain ⟨h1,h2,h3,h4,h5,h6,h7,h8,h9,h10,h11⟩:=h;first | contradiction | omega | exact h3 ⟨‹_›,‹_›⟩ | (obtain ⟨q1,q2,q3,q4,q5⟩:=h11 k qf;first | contradiction | omega | (have:=q5 qf;omega)))]
     replace h15:=xJ h15
     replace h15:=zT h15
     refine xZ [65,66,67,68,69,70,71] (sp (.bool true) (sp (.bool true) (xZ [74,75,76,77,78,79,80] (sp (.bool true) (sp (.bool true) (xZ [83,84,85,86,87,88,89] (sp (.bool true) (sp (.bool true) (xZ [92,93,94,95,96,97] (sp (.bool true) (zjn (xE true rfl (fun _=>zcr (sp (.bool false) (zjr (t_r (ret1 (.bool false) rfl rfl ⟨_,rfl,?_,H.base⟩))))) (fun h=>absurd h qj)))))))))))))
     rw [xk (fun h=>by obtain ⟨h1,h2,h3,h4,h5,h6,h7,h8,h9,h10,h11⟩:=h;first | contradiction | omega | exact h3 ⟨‹_›,‹_›⟩ | (obtain ⟨q1,q2,q3,q4,q5⟩:=h11 k qf;first | contradiction | omega | (have:=q5 qf;omega)))]
    replace h12:=xJ h12
    replace h12:=zT h12
    refine xZ [56,57,58,59,60,61,62] (sp (.bool true) (sp (.bool true) (xZ [65,66,67,68,69,70,71] (sp (.bool true) (sp (.bool true) (xZ [74,75,76,77,78,79,80] (sp (.bool true) (sp (.bool true) (xZ [83,84,85,86,87,88,89] (sp (.bool true) (sp (.bool true) (xZ [92,93,94,95,96,97] (sp (.bool true) (zjn (xE true rfl (fun _=>zcr (sp (.bool false) (zjr (t_r (ret1 (.bool false) rfl rfl ⟨_,rfl,?_,H.base⟩))))) (fun h=>absurd h qj))))))))))))))))
    rw [xk (fun h=>by obtain ⟨h1,h2,h3,h4,h5,h6,h7,h8,h9,h10,h11⟩:=h;first | contradiction | omega | exact h3 ⟨‹_›,‹_›⟩ | (obtain ⟨q1,q2,q3,q4,q5⟩:=h11 k qf;first | contradiction | omega | (have:=q5 qf;omega)))]
   rw [h8] at H
   refine rgl 26 32 H ?_
   refine rgl 27 32 H ?_
   refine gF 28 rfl rfl H ?_
   refine gL 29 rfl rfl (fun _ h=>h.x8 3 rfl 0 rfl) H ?_
   refine rgp 30 (.bool ((r.qP:Int) == 0)) 32 H ?_
   refine rgp 31 (.bool ((r.qP:Int) == 0)) 27 H ?_
   refine rtp 32 (.bool ((r.qP:Int) == 0)) H ?_
   refine rtp 33 (.bool ((r.qP:Int) == 0)) H ?_
   cases h51:((r.qP:Int) == 0)
   ·skip
    replace h51:=ne_of_beq_false h51
    refine rgl 34 40 H ?_
    refine rgl 35 40 H ?_
    refine gF 36 rfl rfl H ?_
    refine gL 37 rfl rfl (fun _ h=>h.x8 3 rfl 7 rfl) H ?_
    refine gN 38 rfl rfl H ?_
    refine rgp 39 (.bool (decide ((r.xh.length:Int) > 3))) 40 H ?_
    refine rtp 40 (.bool (decide ((r.xh.length:Int) > 3))) H ?_
    refine xq qh (t_n (cD rfl (fun h52=>?_) (fun h52=>?_)))
    ·skip
     refine zcr (sp (.bool false) (zjr (t_r (ret1 (.bool false) rfl rfl ⟨_,rfl,?_,H.base⟩))))
     rw [xk (fun h=>by obtain ⟨h1,h2,h3,h4,h5,h6,h7,h8,h9,h10,h11⟩:=h;first | contradiction | omega | exact h3 ⟨‹_›,‹_›⟩ | (obtain ⟨q1,q2,q3,q4,q5⟩:=h11 k qf;first | contradiction | omega | (have:=q5 qf;omega)))]
    refine qW (t_n (zcc (sq 3 (oF rfl (oL rfl (H.x8 3 rfl 2 rfl) (sw (oq (QA _ s r.zB (qC (H.get 0 rfl) 0 3) (H.get 1 rfl).1 (H.get 2 rfl).1 (H.get 4 rfl).1) H fun w53 H=>sp (.bool (!(dec (vw s.xP r.zB)))) (sp (.bool (!(dec (vw s.xP r.zB)))) ?_))))))))
    cases h55:(!(dec (vw s.xP r.zB)))
    ·skip
     replace h55:=xw h55
     replace h55:=yX h55
     refine qL 55 rfl rfl (sq 1 (qL 55 rfl rfl (sq 1 (qL 55 rfl rfl (sq 1 (qL 55 rfl rfl (oF rfl (qL 55 rfl rfl (oL rfl (H.x8 3 rfl 3 rfl) (qL 55 rfl rfl (sw (oq (QA _ s r.vJ (qC (H.get 0 rfl) 0 3) (H.get 1 rfl).1 (H.get 2 rfl).1 (H.get 5 rfl).1) H fun w56 H=>qL 55 rfl rfl (sp (.bool (!(dec (vw s.xP r.vJ)))) (sp (.bool (!(dec (vw s.xP r.vJ)))) (sp (.bool (!(dec (vw s.xP r.vJ)))) ?_)))))))))))))))
     cases h58:(!(dec (vw s.xP r.vJ)))
     ·skip
      replace h58:=xw h58
      replace h58:=yX h58
      refine qL 64 rfl rfl (sq 1 (qL 64 rfl rfl (sq 1 (qL 64 rfl rfl (sq 1 (qL 64 rfl rfl (oF rfl (qL 64 rfl rfl (oL rfl (H.x8 3 rfl 4 rfl) (qL 64 rfl rfl (sw (oq (QA _ s r.vP (qC (H.get 0 rfl) 0 3) (H.get 1 rfl).1 (H.get 2 rfl).1 (H.get 6 rfl).1) H fun w59 H=>qL 64 rfl rfl (sp (.bool (!(dec (vw s.xP r.vP)))) (sp (.bool (!(dec (vw s.xP r.vP)))) (sp (.bool (!(dec (vw s.xP r.vP)))) ?_)))))))))))))))
      cases h61:(!(dec (vw s.xP r.vP)))
      ·skip
       replace h61:=xw h61
       replace h61:=yX h61
       refine qL 73 rfl rfl (sq 1 (qL 73 rfl rfl (sq 1 (qL 73 rfl rfl (sq 1 (qL 73 rfl rfl (oF rfl (qL 73 rfl rfl (oL rfl (H.x8 3 rfl 5 rfl) (qL 73 rfl rfl (sw (oq (QA _ s r.vT (qC (H.get 0 rfl) 0 3) (H.get 1 rfl).1 (H.get 2 rfl).1 (H.get 7 rfl).1) H fun w62 H=>qL 73 rfl rfl (sp (.bool (!(dec (vw s.xP r.vT)))) (sp (.bool (!(dec (vw s.xP r.vT)))) (sp (.bool (!(dec (vw s.xP r.vT)))) ?_)))))))))))))))
       cases h64:(!(dec (vw s.xP r.vT)))
       ·skip
        replace h64:=xw h64
        replace h64:=yX h64
        refine qL 82 rfl rfl (sq 1 (qL 82 rfl rfl (sq 1 (qL 82 rfl rfl (sq 1 (qL 82 rfl rfl (oF rfl (qL 82 rfl rfl (oL rfl (H.x8 3 rfl 6 rfl) (qL 82 rfl rfl (sw (oq (QA _ s r.yP (qC (H.get 0 rfl) 0 3) (H.get 1 rfl).1 (H.get 2 rfl).1 (H.get 8 rfl).1) H fun w65 H=>qL 82 rfl rfl (sp (.bool (!(dec (vw s.xP r.yP)))) (sp (.bool (!(dec (vw s.xP r.yP)))) (sp (.bool (!(dec (vw s.xP r.yP)))) ?_)))))))))))))))
        cases h67:(!(dec (vw s.xP r.yP)))
        ·skip
         replace h67:=xw h67
         replace h67:=yX h67
         refine qL 91 rfl rfl (sq 1 (qL 91 rfl rfl (sq 1 (qL 91 rfl rfl (oF rfl (qL 91 rfl rfl (oL rfl (H.x8 3 rfl 2 rfl) (qL 91 rfl rfl (sw (oq (XG _ r.zB (H.get 4 rfl).1 (by first | assumption | exact vg ql | exact yB ql)) H fun w68 H=>qL 91 rfl rfl (sp (.bool ((QM r.zB:Int) == 0)) (sp (.bool ((QM r.zB:Int) == 0)) (zjn (cE rfl (fun h70=>?_) (fun h70=>?_)))))))))))))))
         ·skip
          refine zcr (sp (.bool false) (zjr (t_r (ret1 (.bool false) rfl rfl ⟨_,rfl,?_,H.base⟩))))
          rw [xk (fun h=>by obtain ⟨h1,h2,h3,h4,h5,h6,h7,h8,h9,h10,h11⟩:=h;first | contradiction | omega | exact h3 ⟨‹_›,‹_›⟩ | (obtain ⟨q1,q2,q3,q4,q5⟩:=h11 k qf;first | contradiction | omega | (have:=q5 qf;omega)))]
         refine qW (t_n (zcc (sp (yI 0) (zjn (qY ?_)))))
         refine zq ((fun Z0 Z1 Z2 Z3 Z4 Z5 Z6 Z7 Z8 Z9=>fun m' ρ w71=>∃ (xM:Env) (k:Nat),ρ=upd (upd (upd xM 0 (pp bs os)) 1 (pp br or)) 5 (yI k)∧(k≤r.xh.length)∧(IntosTo s r k)∧m' =r.xh.length - k∧St w w71 [] [Z0,Z1,Z2,Z3,Z4,Z5,Z6,Z7,Z8,Z9]) _ _ _ _ _ _ _ _ _ _) (r.xh.length - 0) ⟨_,0,uE3,qf,qx,rfl,H⟩ ?_
         clear H
         rintro m' ρ w72 ⟨xM,k,rfl,i0,i1,rfl,H⟩
         refine zcc (sp (yI k) (sq 2 (oF rfl (oL rfl (H.x8 3 rfl 7 rfl) (oN rfl (sq 1 (zjn (cD rfl (fun h73=>?_) (fun h73=>?_)))))))))
         ·skip
          refine qW (t_n (xQ (qY (zcr (sq 2 (oF rfl (oL rfl (H.x8 3 rfl 7 rfl) (sp (yI k) ?_))))))))
          obtain ⟨b74,o75,rfl⟩:=H.addr 9 rfl qf
          obtain ⟨ae76Bag,ce76Bag,Fe76Bag,H⟩:=H.yM 9 rfl k k qf qf qf
          refine oI rfl rfl (sq 1 (zjn (xQ (xQ ?_))))
          refine jf rfl H fun H=>rtl 0 H ?_
          refine rtl 1 H ?_
          refine tF 2 rfl rfl H ?_
          refine tL 3 rfl rfl (fun _ h=>h.x8 1 rfl 0 rfl) H ?_
          refine rtl 4 H ?_
          refine rtl 5 H ?_
          refine tF 6 rfl rfl H ?_
          refine tL 7 rfl rfl (fun _ h=>h.x8 2 rfl 1 rfl) H ?_
          refine tN 8 rfl rfl H ?_
          refine rt 9 _ (y_sub s.qA.length 1 rfl rfl qf) H ?_
          refine ro 10 rfl (oq (l00In_ok w72.drew ((r.xh[k]!).qP) 0 (s.qA.length - 1)) H fun w78 H=>⟨H,(rtp 11 (.bool (!(inR ((r.xh[k]!).qP) 0 (s.qA.length - 1)))) H ?_)⟩)
          refine rtp 12 (.bool (!(inR ((r.xh[k]!).qP) 0 (s.qA.length - 1)))) H ?_
          cases h80:(!(inR ((r.xh[k]!).qP) 0 (s.qA.length - 1)))
          ·skip
           replace h80:=xw h80
           replace h80:=QJ.1 h80
           refine rgl 13 126 H ?_
           refine rgl 14 126 H ?_
           refine rgl 15 126 H ?_
           refine gF 16 rfl rfl H ?_
           refine gL 17 rfl rfl (fun _ h=>h.x8 1 rfl 0 rfl) H ?_
           refine rgl 18 126 H ?_
           refine rgl 19 126 H ?_
           refine gF 20 rfl rfl H ?_
           refine gL 21 rfl rfl (fun _ h=>h.x8 5 rfl 0 rfl) H ?_
           refine zY [22] qh qm (XD rfl (e:=126) rfl rfl (oq (l02In_ok _ s ((r.xh[k]!).qP) r.qP (qC (H.get 2 rfl) 0 3) (H.get 3 rfl).1 (H.get 4 rfl).1 ql ql) H fun w81 H=>⟨H,(rgp 23 (.bool (!(dec (Lies s.qA r.qP ((r.xh[k]!).qP))))) 126 H ?_)⟩) zZ)
           refine rtp 24 (.bool (!(dec (Lies s.qA r.qP ((r.xh[k]!).qP))))) H ?_
           refine rtp 25 (.bool (!(dec (Lies s.qA r.qP ((r.xh[k]!).qP))))) H ?_
           cases h83:(!(dec (Lies s.qA r.qP ((r.xh[k]!).qP))))
           ·skip
            replace h83:=xw h83
            replace h83:=yX h83
            refine rgl 26 139 H ?_
            refine rgl 27 139 H ?_
            refine rgl 28 139 H ?_
            refine gF 29 rfl rfl H ?_
            refine gL 30 rfl rfl (fun _ h=>h.x8 1 rfl 1 rfl) H ?_
            refine zY [31] qh qm (XD rfl (e:=139) rfl rfl (oq (QA _ s ((r.xh[k]!).QG) (qC (H.get 2 rfl) 0 3) (H.get 3 rfl).1 (H.get 4 rfl).1 (H.get 0 rfl).1) H fun w84 H=>⟨H,(rgp 32 (.bool (!(dec (vw s.xP ((r.xh[k]!).QG))))) 139 H ?_)⟩) zZ)
            refine rtp 33 (.bool (!(dec (vw s.xP ((r.xh[k]!).QG))))) H ?_
            refine rtp 34 (.bool (!(dec (vw s.xP ((r.xh[k]!).QG))))) H ?_
            cases h86:(!(dec (vw s.xP ((r.xh[k]!).QG))))
            ·skip
             replace h86:=xw h86
             replace h86:=yX h86
             refine rgl 35 148 H ?_
             refine rgl 36 148 H ?_
             refine gF 37 rfl rfl H ?_
             refine gL 38 rfl rfl (fun _ h=>h.x8 1 rfl 1 rfl) H ?_
             refine zY [39] qh qm (XD rfl (e:=148) rfl rfl (oq (XG _ ((r.xh[k]!).QG) (H.get 0 rfl).1 (by first | assumption | exact vg ql | exact yB ql)) H fun w87 H=>⟨H,(rgp 40 (.bool ((QM ((r.xh[k]!).QG):Int) == 0)) 148 H ?_)⟩) zZ)
             refine rtp 41 (.bool ((QM ((r.xh[k]!).QG):Int) == 0)) H ?_
             refine xq qh (t_n (cE rfl (fun h89=>?_) (fun h89=>?_)))
             ·skip
              refine zcr (sp (.bool false) (zjr (t_r (zr5 (ret1 (.bool false) rfl rfl ⟨_,rfl,?_,H.base⟩)))))
              rw [xk (fun h=>by obtain ⟨h1,h2,h3,h4,h5,h6,h7,h8,h9,h10,h11⟩:=h;first | contradiction | omega | exact h3 ⟨‹_›,‹_›⟩ | (obtain ⟨q1,q2,q3,q4,q5⟩:=h11 k qf;first | contradiction | omega | (have:=q5 qf;omega)))]
             refine qW (t_n (xQ ?_))
             refine jf rfl H fun H=>rtp 0 (yI k) H ?_
             refine rtp 1 (.bool (decide ((k:Int) > 0))) H ?_
             refine rtp 2 (.bool (decide ((k:Int) > 0))) H ?_
             cases h91:(decide ((k:Int) > 0))
             ·skip
              replace h91:=of_decide_eq_false h91
              refine zI [3,4,5,6,7,8,9,10,11,12,13,14,15,16] 14 (H) (rtp 17 (.bool false) H ?_)
              refine xq qh (t_n (xE false rfl (fun h=>absurd h qj) (fun _=>qW (b_n (t_n (xU (sp (yI k) (sw (zA k 1 rfl rfl qf (sq 1 (xY (xe (m' :=r.xh.length - (k+1)) qf ⟨_,k+1,uE3,?_,?_,rfl,H.sel _ (.refl _) _ qm⟩))))))))))))
              · omega
              · exact i1.succ ⟨‹_›,‹_›,‹_›,‹_›,fun hk=>by omega⟩
             replace h91:=of_decide_eq_true h91
             refine rgl 3 158 H ?_
             refine rgl 4 158 H ?_
             refine gF 5 rfl rfl H ?_
             refine gL 6 rfl rfl (fun _ h=>h.x8 5 rfl 7 rfl) H ?_
             refine rgp 7 (yI k) 158 H ?_
             refine rg 8 _ 158 (y_sub k 1 rfl rfl qf) H ?_
             obtain ⟨ae92Bag,ce92Bag,Fe92Bag,H⟩:=H.yM 11 rfl (k - 1) (k - 1) qf qf qf
             refine gI 9 rfl rfl rfl (H.sel _ (.refl _) _ (fun _ h=>List.mem_cons_of_mem _ (List.mem_cons_of_mem _ (h)))) ?_
             refine gF 10 rfl rfl (H.sel _ (.refl _) _ (fun _ h=>List.mem_cons_of_mem _ (List.mem_cons_of_mem _ (h)))) ?_
             refine rgl 12 158 (H.sel _ (.refl _) _ (fun _ h=>List.mem_cons_of_mem _ (List.mem_cons_of_mem _ (h)))) ?_
             refine rgl 13 158 (H.sel _ (.refl _) _ (fun _ h=>List.mem_cons_of_mem _ (List.mem_cons_of_mem _ (h)))) ?_
             refine gF 14 rfl rfl (H.sel _ (.refl _) _ (fun _ h=>List.mem_cons_of_mem _ (List.mem_cons_of_mem _ (h)))) ?_
             refine gL 15 rfl rfl (fun _ h=>h.x8 1 rfl 0 rfl) (H.sel _ (.refl _) _ (fun _ h=>List.mem_cons_of_mem _ (List.mem_cons_of_mem _ (h)))) ?_
             refine zY [11] qh qm (XD rfl (e:=158) rfl rfl (zl (yI ((r.xh[k - 1]!).qP)) isAgg2 rfl (H.x8 1 rfl 0 rfl) (⟨H.dF 2,(rgl 16 158 (H.sel _ (.refl _) _ (fun _ h=>List.mem_cons_of_mem _ (List.mem_cons_of_mem _ (h)))) ?_)⟩)) zZ)
             refine rtl 17 (H.sel _ (.refl _) _ (fun _ h=>List.mem_cons_of_mem _ (List.mem_cons_of_mem _ (h)))) ?_
             refine xq qh (t_n (cD rfl (fun h93=>?_) (fun h93=>?_)))
             ·skip
              refine zcr (sp (.bool false) (zjr (zr5 (ret1 (.bool false) rfl rfl ⟨_,rfl,?_,H.base⟩))))
              rw [xk (fun h=>by obtain ⟨h1,h2,h3,h4,h5,h6,h7,h8,h9,h10,h11⟩:=h;first | contradiction | omega | exact h3 ⟨‹_›,‹_›⟩ | (obtain ⟨q1,q2,q3,q4,q5⟩:=h11 k qf;first | contradiction | omega | (have:=q5 qf;omega)))]
             refine qW (b_n (t_n (xU (sp (yI k) (sw (zA k 1 rfl rfl qf (sq 1 (xY (xe (m' :=r.xh.length - (k+1)) qf ⟨_,k+1,uE3,?_,?_,rfl,H.sel _ (.refl _) _ qm⟩)))))))))
             · omega
             · exact i1.succ ⟨‹_›,‹_›,‹_›,‹_›,fun hk=>by omega⟩
            replace h86:=xJ h86
            replace h86:=zT h86
            refine zI [35,36,37,38,39,40] 6 (H) (rtp 41 (.bool true) H ?_)
            refine xq qh (t_n (xE true rfl (fun _=>zcr (sp (.bool false) (zjr (t_r (zr5 (ret1 (.bool false) rfl rfl ⟨_,rfl,?_,H.base⟩)))))) (fun h=>absurd h qj)))
            rw [xk (fun h=>by obtain ⟨h1,h2,h3,h4,h5,h6,h7,h8,h9,h10,h11⟩:=h;first | contradiction | omega | exact h3 ⟨‹_›,‹_›⟩ | (obtain ⟨q1,q2,q3,q4,q5⟩:=h11 k qf;first | contradiction | omega | (have:=q5 qf;omega)))]
           replace h83:=xJ h83
           replace h83:=zT h83
           refine zI [26,27,28,29,30,31,32] 7 (H) (rtp 33 (.bool true) H ?_)
           refine rtp 34 (.bool true) H ?_
           refine zI [35,36,37,38,39,40] 6 (H) (rtp 41 (.bool true) H ?_)
           refine xq qh (t_n (xE true rfl (fun _=>zcr (sp (.bool false) (zjr (t_r (zr5 (ret1 (.bool false) rfl rfl ⟨_,rfl,?_,H.base⟩)))))) (fun h=>absurd h qj)))
           rw [xk (fun h=>by obtain ⟨h1,h2,h3,h4,h5,h6,h7,h8,h9,h10,h11⟩:=h;first | contradiction | omega | exact h3 ⟨‹_›,‹_›⟩ | (obtain ⟨q1,q2,q3,q4,q5⟩:=h11 k qf;first | contradiction | omega | (have:=q5 qf;omega)))]
          replace h80:=xJ h80
          replace h80:=Xk h80
          refine zI [13,14,15,16,17,18,19,20,21,22,23] 11 (H) (rtp 24 (.bool true) H ?_)
          refine rtp 25 (.bool true) H ?_
          refine zI [26,27,28,29,30,31,32] 7 (H) (rtp 33 (.bool true) H ?_)
          refine rtp 34 (.bool true) H ?_
          refine zI [35,36,37,38,39,40] 6 (H) (rtp 41 (.bool true) H ?_)
          refine xq qh (t_n (xE true rfl (fun _=>zcr (sp (.bool false) (zjr (t_r (zr5 (ret1 (.bool false) rfl rfl ⟨_,rfl,?_,H.base⟩)))))) (fun h=>absurd h qj)))
          rw [xk (fun h=>by obtain ⟨h1,h2,h3,h4,h5,h6,h7,h8,h9,h10,h11⟩:=h;first | contradiction | omega | exact h3 ⟨‹_›,‹_›⟩ | (obtain ⟨q1,q2,q3,q4,q5⟩:=h11 k qf;first | contradiction | omega | (have:=q5 qf;omega)))]
         refine zx4 (zcr (sp (.bool true) (zjr (ret1 (.bool true) rfl rfl ⟨_,rfl,?_,H.base⟩))))
         obtain rfl:k=r.xh.length:=by omega
         rw [jY ⟨by assumption,by omega,by simp_all,by omega,by assumption,by assumption,by assumption,by assumption,by assumption,by assumption,i1⟩]
        replace h67:=xJ h67
        replace h67:=zT h67
        refine xZ [92,93,94,95,96,97] (sp (.bool true) (zjn (xE true rfl (fun _=>zcr (sp (.bool false) (zjr (t_r (ret1 (.bool false) rfl rfl ⟨_,rfl,?_,H.base⟩))))) (fun h=>absurd h qj))))
        rw [xk (fun h=>by obtain ⟨h1,h2,h3,h4,h5,h6,h7,h8,h9,h10,h11⟩:=h;first | contradiction | omega | exact h3 ⟨‹_›,‹_›⟩ | (obtain ⟨q1,q2,q3,q4,q5⟩:=h11 k qf;first | contradiction | omega | (have:=q5 qf;omega)))]
       replace h64:=xJ h64
       replace h64:=zT h64
       refine xZ [83,84,85,86,87,88,89] (sp (.bool true) (sp (.bool true) (xZ [92,93,94,95,96,97] (sp (.bool true) (zjn (xE true rfl (fun _=>zcr (sp (.bool false) (zjr (t_r (ret1 (.bool false) rfl rfl ⟨_,rfl,?_,H.base⟩))))) (fun h=>absurd h qj)))))))
       rw [xk (fun h=>by obtain ⟨h1,h2,h3,h4,h5,h6,h7,h8,h9,h10,h11⟩:=h;first | contradiction | omega | exact h3 ⟨‹_›,‹_›⟩ | (obtain ⟨q1,q2,q3,q4,q5⟩:=h11 k qf;first | contradiction | omega | (have:=q5 qf;omega)))]
      replace h61:=xJ h61
      replace h61:=zT h61
      refine xZ [74,75,76,77,78,79,80] (sp (.bool true) (sp (.bool true) (xZ [83,84,85,86,87,88,89] (sp (.bool true) (sp (.bool true) (xZ [92,93,94,95,96,97] (sp (.bool true) (zjn (xE true rfl (fun _=>zcr (sp (.bool false) (zjr (t_r (ret1 (.bool false) rfl rfl ⟨_,rfl,?_,H.base⟩))))) (fun h=>absurd h qj))))))))))
      rw [xk (fun h=>by obtain ⟨h1,h2,h3,h4,h5,h6,h7,h8,h9,h10,h11⟩:=h;first | contradiction | omega | exact h3 ⟨‹_›,‹_›⟩ | (obtain ⟨q1,q2,q3,q4,q5⟩:=h11 k qf;first | contradiction | omega | (have:=q5 qf;omega)))]
     replace h58:=xJ h58
     replace h58:=zT h58
     refine xZ [65,66,67,68,69,70,71] (sp (.bool true) (sp (.bool true) (xZ [74,75,76,77,78,79,80] (sp (.bool true) (sp (.bool true) (xZ [83,84,85,86,87,88,89] (sp (.bool true) (sp (.bool true) (xZ [92,93,94,95,96,97] (sp (.bool true) (zjn (xE true rfl (fun _=>zcr (sp (.bool false) (zjr (t_r (ret1 (.bool false) rfl rfl ⟨_,rfl,?_,H.base⟩))))) (fun h=>absurd h qj)))))))))))))
     rw [xk (fun h=>by obtain ⟨h1,h2,h3,h4,h5,h6,h7,h8,h9,h10,h11⟩:=h;first | contradiction | omega | exact h3 ⟨‹_›,‹_›⟩ | (obtain ⟨q1,q2,q3,q4,q5⟩:=h11 k qf;first | contradiction | omega | (have:=q5 qf;omega)))]
    replace h55:=xJ h55
    replace h55:=zT h55
    refine xZ [56,57,58,59,60,61,62] (sp (.bool true) (sp (.bool true) (xZ [65,66,67,68,69,70,71] (sp (.bool true) (sp (.bool true) (xZ [74,75,76,77,78,79,80] (sp (.bool true) (sp (.bool true) (xZ [83,84,85,86,87,88,89] (sp (.bool true) (sp (.bool true) (xZ [92,93,94,95,96,97] (sp (.bool true) (zjn (xE true rfl (fun _=>zcr (sp (.bool false) (zjr (t_r (ret1 (.bool false) rfl rfl ⟨_,rfl,?_,H.base⟩))))) (fun h=>absurd h qj))))))))))))))))
    rw [xk (fun h=>by obtain ⟨h1,h2,h3,h4,h5,h6,h7,h8,h9,h10,h11⟩:=h;first | contradiction | omega | exact h3 ⟨‹_›,‹_›⟩ | (obtain ⟨q1,q2,q3,q4,q5⟩:=h11 k qf;first | contradiction | omega | (have:=q5 qf;omega)))]
   replace h51:=eq_of_beq h51
   refine zI [34,35,36,37,38,39] 6 (H) (rtp 40 (.bool true) H ?_)
   refine xq qh (t_n (xE true rfl (fun _=>zcr (sp (.bool false) (zjr (t_r (ret1 (.bool false) rfl rfl ⟨_,rfl,?_,H.base⟩))))) (fun h=>absurd h qj)))
   rw [xk (fun h=>by obtain ⟨h1,h2,h3,h4,h5,h6,h7,h8,h9,h10,h11⟩:=h;first | contradiction | omega | exact h3 ⟨‹_›,‹_›⟩ | (obtain ⟨q1,q2,q3,q4,q5⟩:=h11 k qf;first | contradiction | omega | (have:=q5 qf;omega)))]
  replace h7:=xJ h7
  replace h7:=Xk h7
  refine zI [21,22,23,24,25,26,27,28,29,30,31] 11 (H) (rtp 32 (.bool true) H ?_)
  refine rtp 33 (.bool true) H ?_
  refine zI [34,35,36,37,38,39] 6 (H) (rtp 40 (.bool true) H ?_)
  refine xq qh (t_n (xE true rfl (fun _=>zcr (sp (.bool false) (zjr (t_r (ret1 (.bool false) rfl rfl ⟨_,rfl,?_,H.base⟩))))) (fun h=>absurd h qj)))
  rw [xk (fun h=>by obtain ⟨h1,h2,h3,h4,h5,h6,h7,h8,h9,h10,h11⟩:=h;first | contradiction | omega | exact h3 ⟨‹_›,‹_›⟩ | (obtain ⟨q1,q2,q3,q4,q5⟩:=h11 k qf;first | contradiction | omega | (have:=q5 qf;omega)))]
 replace h4:=xJ h4
 replace h4:=Xk h4
 refine zI [13,14,15,16,17,18] 6 (H) (rtp 19 (.bool true) H ?_)
 refine rtp 20 (.bool true) H ?_
 refine zI [21,22,23,24,25,26,27,28,29,30,31] 11 (H) (rtp 32 (.bool true) H ?_)
 refine rtp 33 (.bool true) H ?_
 refine zI [34,35,36,37,38,39] 6 (H) (rtp 40 (.bool true) H ?_)
 refine xq qh (t_n (xE true rfl (fun _=>zcr (sp (.bool false) (zjr (t_r (ret1 (.bool false) rfl rfl ⟨_,rfl,?_,H.base⟩))))) (fun h=>absurd h qj)))
 rw [xk (fun h=>by obtain ⟨h1,h2,h3,h4,h5,h6,h7,h8,h9,h10,h11⟩:=h;first | contradiction | omega | exact h3 ⟨‹_›,‹_›⟩ | (obtain ⟨q1,q2,q3,q4,q5⟩:=h11 k qf;first | contradiction | omega | (have:=q5 qf;omega)))]

theorem l02State_ok (w:World) (s:qE) (t:qF) {qJ:yOA} {xu:yLN} {qV:yOA} {zh:yLN} {xg:yOA} {zu:yLN} {xF:yOA} {zU:yLN} {qU:yOA} {x9:yLN} (hs:vG w bs os (yS s qJ qI qV qQ)) (qX:qO.rep w xu [.slice qJ s.qA.length qI] s.qA) (xn:qO.rep w zh [.slice qV s.qB.length qQ] s.qB) (ht:vG w bt ot (yT t xg xf xF xA qU qR)) (xR:qO.rep w zu [.slice xg t.qG.length xf] t.qG) (zn:qO.rep w zU [.slice xF t.qN.length xA] t.qN) (xy:qO.rep w x9 [.slice qU t.qH.length qR] t.qH) (p0:jL s):Calls Tryz.prog 83 #[pp bs os,pp bt ot] w (Ret (fun v w' =>v=.bool (dec (xX s t))) w):=by
 refine en func83 ntmps83 ?_
 have H:=(((((((St.start w).arg xy).arg zn).arg xR).XO ht).arg xn).arg qX).XO hs
 have zN:=qM qX
 have vW:=qM xn
 have jO:=qM xR
 have yH:=qM zn
 have jg:=qM xy
 clear hs qX xn ht xR zn xy
 have p1:=p0.2.1
 refine zcr (sp (.bool false) (zjn (xQ (xQ ?_))))
 refine jf rfl H fun H=>rtl 0 H ?_
 refine rtl 1 H ?_
 refine tF 2 rfl rfl H ?_
 refine tL 3 rfl rfl (fun _ h=>h.x8 3 rfl 0 rfl) H ?_
 refine tN 4 rfl rfl H ?_
 refine rtl 5 H ?_
 refine rtl 6 H ?_
 refine tF 7 rfl rfl H ?_
 refine tL 8 rfl rfl (fun _ h=>h.x8 0 rfl 1 rfl) H ?_
 refine tN 9 rfl rfl H ?_
 refine rtp 10 (.bool ((t.qG.length:Int) != s.qA.length)) H ?_
 refine rtp 11 (.bool ((t.qG.length:Int) != s.qA.length)) H ?_
 cases h2:((t.qG.length:Int) != s.qA.length)
 ·skip
  replace h2:=xm h2
  refine rgl 12 17 H ?_
  refine rgl 13 17 H ?_
  refine gF 14 rfl rfl H ?_
  refine gL 15 rfl rfl (fun _ h=>h.x8 3 rfl 1 rfl) H ?_
  refine gN 16 rfl rfl H ?_
  refine rgl 17 17 H ?_
  refine rgl 18 17 H ?_
  refine gF 19 rfl rfl H ?_
  refine gL 20 rfl rfl (fun _ h=>h.x8 0 rfl 1 rfl) H ?_
  refine gN 21 rfl rfl H ?_
  refine rgp 22 (.bool ((t.qN.length:Int) != s.qA.length)) 17 H ?_
  refine rtp 23 (.bool ((t.qN.length:Int) != s.qA.length)) H ?_
  refine rtp 24 (.bool ((t.qN.length:Int) != s.qA.length)) H ?_
  cases h3:((t.qN.length:Int) != s.qA.length)
  ·skip
   replace h3:=xm h3
   refine rgl 25 30 H ?_
   refine rgl 26 30 H ?_
   refine gF 27 rfl rfl H ?_
   refine gL 28 rfl rfl (fun _ h=>h.x8 3 rfl 0 rfl) H ?_
   obtain ⟨b4,o5,rfl⟩:=H.addr 4 rfl qf
   refine gI 29 rfl rfl rfl H ?_
   refine gL 30 rfl rfl (fun _ h=>h.elemBoolN 4 rfl 0 qf) H ?_
   refine rgp 31 (.bool (!(t.qG[0]!))) 30 H ?_
   refine rtp 32 (.bool (!(t.qG[0]!))) H ?_
   refine rtp 33 (.bool (!(t.qG[0]!))) H ?_
   cases h6:(!(t.qG[0]!))
   ·skip
    replace h6:=xw h6
    refine rgl 34 39 H ?_
    refine rgl 35 39 H ?_
    refine rgl 36 39 H ?_
    refine gF 37 rfl rfl H ?_
    refine gL 38 rfl rfl (fun _ h=>h.x8 3 rfl 2 rfl) H ?_
    refine zY [39] qh qm (XD rfl (e:=39) rfl rfl (oq (QA _ s t.qH (qC (H.get 0 rfl) 0 3) (H.get 1 rfl).1 (H.get 2 rfl).1 (H.get 6 rfl).1) H fun w7 H=>⟨H,(rgl 40 39 H ?_)⟩) zZ)
    refine rtl 41 H ?_
    refine xq qh (t_n (cQ rfl (fun h9=>?_) (fun h9=>?_)))
    ·skip
     refine zcr (sp (.bool false) (zjr (t_r (ret1 (.bool false) rfl rfl ⟨_,rfl,?_,H.base⟩))))
     rw [xk (fun h=>by obtain ⟨h1,h2,h3,h4,h5⟩:=h;first | contradiction | omega | (simp_all;done) | (obtain ⟨q1,q2⟩:=h5 k qf;first | contradiction | (have:=q2 ql;omega)))]
    refine qW (t_n (zcc (sp (yI 0) (zjn (qY ?_)))))
    refine zq ((fun Z0 Z1 Z2 Z3 Z4 Z5 Z6=>fun m' ρ w10=>∃ (xM:Env) (k:Nat),ρ=upd (upd (upd xM 0 (pp bs os)) 1 (pp bt ot)) 5 (yI k)∧(k≤t.qN.length)∧(BagsTo s t k)∧m' =t.qN.length - k∧St w w10 [] [Z0,Z1,Z2,Z3,Z4,Z5,Z6]) _ _ _ _ _ _ _) (t.qN.length - 0) ⟨_,0,uE3,qf,qx,rfl,H⟩ ?_
    clear H
    rintro m' ρ w11 ⟨xM,k,rfl,i0,i1,rfl,H⟩
    refine zcc (sp (yI k) (sq 2 (oF rfl (oL rfl (H.x8 3 rfl 1 rfl) (oN rfl (sq 1 (zjn (cD rfl (fun h12=>?_) (fun h12=>?_)))))))))
    ·skip
     refine qW (t_n (xQ (qY (zcr (sq 3 (oF rfl (oL rfl (H.x8 3 rfl 1 rfl) (sp (yI k) ?_))))))))
     obtain ⟨b13,o14,rfl⟩:=H.addr 5 rfl qf
     obtain ⟨ae15,ce15,Fe15,H⟩:=H.vX 5 rfl k k qf qf qf
     refine oI rfl rfl (oL rfl (H.x8 1 rfl 0 rfl) (sw (oq (QA _ s (t.qN[k]!) (qC (H.get 2 rfl) 0 3) (H.get 3 rfl).1 (H.get 4 rfl).1 (H.get 0 rfl).1) H fun w16 H=>sp (.bool (!(dec (vw s.xP (t.qN[k]!))))) (sp (.bool (!(dec (vw s.xP (t.qN[k]!))))) ?_))))
     cases h18:(!(dec (vw s.xP (t.qN[k]!))))
     ·skip
      replace h18:=xw h18
      replace h18:=yX h18
      refine qL 67 rfl rfl (sq 1 (qL 67 rfl rfl (sq 1 (qL 67 rfl rfl (oF rfl (qL 67 rfl rfl (oL rfl (H.x8 5 rfl 0 rfl) (qL 67 rfl rfl (sp (yI k) (qL 67 rfl rfl (oI rfl rfl (qL 67 rfl rfl (oL rfl (H.elemBoolN 6 rfl k qf) (qL 67 rfl rfl (sp (.bool (!(t.qG[k]!))) (qL 67 rfl rfl (sp (.bool (!(t.qG[k]!))) ?_)))))))))))))))))
      cases h19:(!(t.qG[k]!))
      ·skip
       replace h19:=xw h19
       refine xZ [77,78,79,80,81,82,83,84,85] (qL 67 rfl rfl (sp (.bool false) (sp (.bool false) (zjn (xE false rfl (fun h=>absurd h qj) (fun _=>qW (b_n (t_n (xU (sp (yI k) (sw (zA k 1 rfl rfl qf (sq 1 (xY (xe (m' :=t.qN.length - (k+1)) qf ⟨_,k+1,uE3,?_,?_,rfl,H.sel _ (.refl _) _ qm⟩)))))))))))))))
       · omega
       · exact i1.succ ‹_› (fun hk=>by first | omega | simp_all)
      replace h19:=xJ h19
      refine qL 76 rfl rfl (sq 1 (qL 76 rfl rfl (sq 1 (qL 76 rfl rfl (oF rfl (qL 76 rfl rfl (oL rfl (H.x8 5 rfl 1 rfl) (qL 76 rfl rfl (sp (yI k) (qL 76 rfl rfl (oI rfl rfl (qL 76 rfl rfl (oL rfl (H.x8 1 rfl 0 rfl) (qL 76 rfl rfl (sw (oq (XG _ (t.qN[k]!) (H.get 0 rfl).1 (by first | assumption | exact vg ql | exact yB ql)) H fun w20 H=>qL 76 rfl rfl (sp (.bool (decide ((QM (t.qN[k]!):Int) > 0))) (qL 67 rfl rfl ?_))))))))))))))))))
      refine sp (.bool (decide ((QM (t.qN[k]!):Int) > 0))) (sp (.bool (decide ((QM (t.qN[k]!):Int) > 0))) (zjn (cD rfl (fun h22=>?_) (fun h22=>?_))))
      ·skip
       refine zcr (sp (.bool false) (zjr (zr5 (ret1 (.bool false) rfl rfl ⟨_,rfl,?_,H.base⟩))))
       rw [xk (fun h=>by obtain ⟨h1,h2,h3,h4,h5⟩:=h;first | contradiction | omega | (simp_all;done) | (obtain ⟨q1,q2⟩:=h5 k qf;first | contradiction | (have:=q2 ql;omega)))]
      refine qW (b_n (t_n (xU (sp (yI k) (sw (zA k 1 rfl rfl qf (sq 1 (xY (xe (m' :=t.qN.length - (k+1)) qf ⟨_,k+1,uE3,?_,?_,rfl,H.sel _ (.refl _) _ qm⟩)))))))))
      · omega
      · exact i1.succ ‹_› (fun hk=>by first | omega | simp_all)
     replace h18:=xJ h18
     replace h18:=zT h18
     refine xZ [68,69,70,71,72,73,74,75,76,77,78,79,80,81,82,83,84,85,86] (sp (.bool true) (zjn (xE true rfl (fun _=>zcr (sp (.bool false) (zjr (zr5 (ret1 (.bool false) rfl rfl ⟨_,rfl,?_,H.base⟩))))) (fun h=>absurd h qj))))
     rw [xk (fun h=>by obtain ⟨h1,h2,h3,h4,h5⟩:=h;first | contradiction | omega | (simp_all;done) | (obtain ⟨q1,q2⟩:=h5 k qf;first | contradiction | (have:=q2 ql;omega)))]
    refine zx4 (zcr (sp (.bool true) (zjr (ret1 (.bool true) rfl rfl ⟨_,rfl,?_,H.base⟩))))
    obtain rfl:k=t.qN.length:=by omega
    rw [jY ⟨by omega,by omega,by first | assumption | simp_all,by assumption,i1⟩]
   replace h6:=xJ h6
   refine zI [34,35,36,37,38,39,40] 7 (H) (rtp 41 (.bool true) H ?_)
   refine xq qh (t_n (xE true rfl (fun _=>zcr (sp (.bool false) (zjr (t_r (ret1 (.bool false) rfl rfl ⟨_,rfl,?_,H.base⟩))))) (fun h=>absurd h qj)))
   rw [xk (fun h=>by obtain ⟨h1,h2,h3,h4,h5⟩:=h;first | contradiction | omega | (simp_all;done) | (obtain ⟨q1,q2⟩:=h5 k qf;first | contradiction | (have:=q2 ql;omega)))]
  replace h3:=bne_iff_ne.1 h3
  refine zI [25,26,27,28,29,30,31] 7 (H) (rtp 32 (.bool true) H ?_)
  refine rtp 33 (.bool true) H ?_
  refine zI [34,35,36,37,38,39,40] 7 (H) (rtp 41 (.bool true) H ?_)
  refine xq qh (t_n (xE true rfl (fun _=>zcr (sp (.bool false) (zjr (t_r (ret1 (.bool false) rfl rfl ⟨_,rfl,?_,H.base⟩))))) (fun h=>absurd h qj)))
  rw [xk (fun h=>by obtain ⟨h1,h2,h3,h4,h5⟩:=h;first | contradiction | omega | (simp_all;done) | (obtain ⟨q1,q2⟩:=h5 k qf;first | contradiction | (have:=q2 ql;omega)))]
 replace h2:=bne_iff_ne.1 h2
 refine zI [12,13,14,15,16,17,18,19,20,21,22] 11 (H) (rtp 23 (.bool true) H ?_)
 refine rtp 24 (.bool true) H ?_
 refine zI [25,26,27,28,29,30,31] 7 (H) (rtp 32 (.bool true) H ?_)
 refine rtp 33 (.bool true) H ?_
 refine zI [34,35,36,37,38,39,40] 7 (H) (rtp 41 (.bool true) H ?_)
 refine xq qh (t_n (xE true rfl (fun _=>zcr (sp (.bool false) (zjr (t_r (ret1 (.bool false) rfl rfl ⟨_,rfl,?_,H.base⟩))))) (fun h=>absurd h qj)))
 rw [xk (fun h=>by obtain ⟨h1,h2,h3,h4,h5⟩:=h;first | contradiction | omega | (simp_all;done) | (obtain ⟨q1,q2⟩:=h5 k qf;first | contradiction | (have:=q2 ql;omega)))]

theorem l02Parent_ok (w:World) (s:qE) (t:qF) (c:Int) {qJ:yOA} {xu:yLN} {qV:yOA} {zh:yLN} {xg:yOA} {zu:yLN} {xF:yOA} {zU:yLN} {qU:yOA} {x9:yLN} (hs:vG w bs os (yS s qJ qI qV qQ)) (qX:qO.rep w xu [.slice qJ s.qA.length qI] s.qA) (xn:qO.rep w zh [.slice qV s.qB.length qQ] s.qB) (ht:vG w bt ot (yT t xg xf xF xA qU qR)) (xR:qO.rep w zu [.slice xg t.qG.length xf] t.qG) (zn:qO.rep w zU [.slice xF t.qN.length xA] t.qN) (xy:qO.rep w x9 [.slice qU t.qH.length qR] t.qH) (p0:jL s) (p1:CellIn s c) (p2:t.qG.length=s.qA.length):Calls Tryz.prog 193 #[pp bs os,pp bt ot,yI c] w (Ret (fun v w' =>v=yI (xW s t c)) w):=by
 refine en func193 ntmps193 ?_
 have H:=(((((((St.start w).arg xy).arg zn).arg xR).XO ht).arg xn).arg qX).XO hs
 have zN:=qM qX
 have vW:=qM xn
 have jO:=qM xR
 have yH:=qM zn
 have jg:=qM xy
 clear hs qX xn ht xR zn xy
 have p3:=p0.step p1.1 p1.2
 refine zcr (sp (yI 0) (zjc (sq 2 (oF rfl (oL rfl (H.x8 0 rfl 1 rfl) (sp (yI c) ?_))))))
 obtain ⟨b1,o2,rfl⟩:=H.addr 1 rfl qf
 refine oI rfl rfl (oL rfl (H.elemInt 1 rfl c qf qf) (sq 1 (zjn (xQ (qY ?_)))))
 refine zq ((fun Z0 Z1 Z2 Z3 Z4 Z5 Z6=>fun m' ρ w3=>∃ (xM:Env) (y:Int) (n:Nat),ρ=upd (upd (upd (upd xM 0 (pp bs os)) 1 (pp bt ot)) 6 (yI 0)) 7 (yI y)∧(-1≤y∧y≤(s.qA.length:Int) - 1)∧(y < n)∧(xW s t c=climb s.qA t.qG n y)∧m' =(y+1).toNat∧St w w3 [] [Z0,Z1,Z2,Z3,Z4,Z5,Z6]) _ _ _ _ _ _ _) (((s.qA[c.toNat]!)+1).toNat) ⟨_,s.qA[c.toNat]!,s.qA.length,uE4,qf,qf,(by rfl),rfl,H⟩ ?_
 clear H
 rintro m' ρ w4 ⟨xM,y,n,rfl,i0,i1,i2,rfl,H⟩
 have up:=fun h=>p0.step (c:=y) h i0.2
 refine zcc (sp (yI y) (sp (.bool (decide ((y:Int)≥0))) (sp (.bool (decide ((y:Int)≥0))) ?_)))
 cases h5:(decide ((y:Int)≥0))
 ·skip
  replace h5:=of_decide_eq_false h5
  refine xZ [18,19,20,21,22,23,24,25] (sp (.bool false) (zjn (xE false rfl (fun h=>absurd h qj) (fun _=>zx4 (zcr (sp (yI y) (sp (yI y) (zjr (ret1 (yI y) rfl rfl ⟨_,rfl,?_,H.base⟩)))))))))
  rw [i2,climb_end (by first | omega | simp_all)]
 replace h5:=of_decide_eq_true h5
 refine qL 17 rfl rfl (sq 1 (qL 17 rfl rfl (sq 1 (qL 17 rfl rfl (oF rfl (qL 17 rfl rfl (oL rfl (H.x8 3 rfl 0 rfl) (qL 17 rfl rfl (sp (yI y) (qL 17 rfl rfl ?_))))))))))
 obtain ⟨b6,o7,rfl⟩:=H.addr 4 rfl qf
 refine oI rfl rfl (qL 17 rfl rfl (oL rfl (H.elemBool 4 rfl y qf qf) (qL 17 rfl rfl (sq 2 (zjn (xE _ rfl (fun h8=>?_) (fun h8=>?_)))))))
 ·skip
  replace h8:=xJ h8
  refine qW (t_n (qY (xU (sq 2 (oF rfl (oL rfl (H.x8 0 rfl 1 rfl) (sp (yI y) (oI rfl rfl (oL rfl (H.elemInt 1 rfl y qf qf) (sq 1 (xY (b_n ?_))))))))))))
  have up1:=up qf
  refine xe (m' :=((s.qA[y.toNat]!)+1).toNat) qf ⟨_,(s.qA[y.toNat]!),n - 1,uE4,?_,?_,?_,rfl,H⟩
  · omega
  · omega
  · exact i2.trans (climb_go qf qf ‹_›)
 replace h8:=xw h8
 refine zx4 (zcr (sp (yI y) (sp (yI y) (zjr (ret1 (yI y) rfl rfl ⟨_,rfl,?_,H.base⟩)))))
 rw [i2,climb_end (by first | omega | simp_all)]

theorem l02Ok_ok (w:World) (s:qE) {qJ:yOA} {xu:yLN} {qV:yOA} {zh:yLN} (hs:vG w bs os (yS s qJ qI qV qQ)) (qX:qO.rep w xu [.slice qJ s.qA.length qI] s.qA) (xn:qO.rep w zh [.slice qV s.qB.length qQ] s.qB):Calls Tryz.prog 82 #[pp bs os] w (Ret (fun v w' =>v=.bool (dec (vK s))) w):=by
 refine en func82 ntmps82 ?_
 have H:=(((St.start w).arg xn).arg qX).XO hs
 have zN:=qM qX
 have vW:=qM xn
 clear hs qX xn
 have p1:=fun h:jL s=>h.2.1
 refine zcr (sp (.bool false) (zjcc (sq 1 (sw (oq (l02Frame_ok _ s (qC (H.get 0 rfl) 0 3) (H.get 1 rfl).1 (H.get 2 rfl).1) H fun w1 H=>sp (.bool (!(dec (jL s)))) (sp (.bool (!(dec (jL s)))) ?_))))))
 cases h3:(!(dec (jL s)))
 ·skip
  replace h3:=xw h3
  replace h3:=yX h3
  refine qL 8 rfl rfl (sq 1 (qL 8 rfl rfl (sq 1 (qL 8 rfl rfl (oF rfl (qL 8 rfl rfl (oL rfl (H.x8 0 rfl 2 rfl) (qL 8 rfl rfl (oN rfl (qL 8 rfl rfl (sp (.bool (decide ((s.qB.length:Int) > 16))) (sp (.bool (decide ((s.qB.length:Int) > 16))) (zjn (cD rfl (fun h4=>?_) (fun h4=>?_)))))))))))))))
  ·skip
   refine zcr (sp (.bool false) (zjr (t_r (ret1 (.bool false) rfl rfl ⟨_,rfl,?_,H.base⟩))))
   rw [xk (fun h=>by obtain ⟨h1,h2,h3⟩:=h;first | contradiction | omega | (obtain ⟨q1,q2⟩:=h3 k qf;first | contradiction | (have:=Vr (k:=k+1) q;omega)))]
  have p2:=p1 ql
  refine qW (t_n (zcr (sq 2 (oF rfl (oL rfl (H.x8 0 rfl 1 rfl) (oN rfl (sw (o_make1 H underlying24 ti2 rfl s.qA.length rfl rfl qf qf fun b5 w6 H=>?_))))))))
  replace H:St _ _ [.box b5 (List.replicate s.qA.length (yI 0)) 2] _:=H
  refine sq 1 (zjcc (sp (yI 0) (zjn (qY ?_))))
  rw [ints_zero,counts_zero] at H
  refine zq ((fun Z0 Z1 Z2=>fun m' ρ w7=>∃ (xM:Env) (k:Nat),ρ=upd (upd (upd xM 0 (pp bs os)) 3 (.slice (aa b5 0) s.qA.length s.qA.length)) 4 (yI k)∧(k≤s.qB.length)∧(RulesTo s k)∧m' =s.qB.length - k∧St w w7 [.box b5 ((counts s k).map (Value.int .i64)) 2] [Z0,Z1,Z2]) _ _ _) (s.qB.length - 0) ⟨_,0,uE3,qf,qx,rfl,H⟩ ?_
  clear H
  rintro m' ρ w8 ⟨xM,k,rfl,i0,i1,rfl,H⟩
  refine zcc (sp (yI k) (sq 2 (oF rfl (oL rfl (H.x8 0 rfl 2 rfl) (oN rfl (sq 1 (zjn (cD rfl (fun h9=>?_) (fun h9=>?_)))))))))
  ·skip
   refine qW (t_n (xQ (qY (zcc (sq 3 (oF rfl (oL rfl (H.x8 0 rfl 2 rfl) (sp (yI k) ?_))))))))
   obtain ⟨b10,o11,rfl⟩:=H.addr 2 rfl qf
   obtain ⟨ae12Need,ce12Need,Fe12Need,ae12Have,ce12Have,Fe12Have,ae12Lack,ce12Lack,Fe12Lack,ae12Here,ce12Here,Fe12Here,ae12Out,ce12Out,Fe12Out,ae12Into,ce12Into,Fe12Into,H⟩:=H.yA 2 rfl k k qf qf qf
   refine oI rfl rfl (sw (oq (l02Rule_ok _ s (s.qB[k]!) (qC (H.get 7 rfl) 0 3) (H.get 8 rfl).1 (H.get 9 rfl).1 (qC (H.get 6 rfl) 0 9) (H.get 0 rfl).1 (H.get 1 rfl).1 (H.get 2 rfl).1 (H.get 3 rfl).1 (H.get 4 rfl).1 (H.get 5 rfl).1 ql) H fun w13 H=>sq 1 (zjn (cQ rfl (fun h15=>?_) (fun h15=>?_)))))
   ·skip
    refine zcr (sp (.bool false) (zjr (t_r (zr5 (ret1 (.bool false) rfl rfl ⟨_,rfl,?_,H.base⟩)))))
    rw [xk (fun h=>by obtain ⟨h1,h2,h3⟩:=h;first | contradiction | omega | (obtain ⟨q1,q2⟩:=h3 k qf;first | contradiction | (have:=Vr (k:=k+1) q;omega)))]
   have q:=(h15).1
   refine qW (t_n (zcr (sq 3 (oF rfl (oL rfl (H.x8 7 rfl 2 rfl) (sp (yI k) (oI rfl rfl (oF rfl (oL rfl (H.x8 6 rfl 0 rfl) (oI rfl rfl (oL rfl (H.cell 0 rfl (ints_get (by rw [counts_len];omega))) (sw (zA ((counts s k)[((s.qB[k]!).qP:Int).toNat]!) 1 rfl rfl (by (first | omega | (rw [Vr q];have:=ofCell_bd s.qB (s.qB[k]!).qP k;omega))) (oI rfl rfl ?_))))))))))))))
   refine sw (o_store1 H 0 rfl (yI (((counts s k)[((s.qB[k]!).qP:Int).toNat]!)+1)) sizeOf2 rfl rfl rfl (ints_lt (by rw [counts_len];omega)) fun w16 H=>?_)
   rw [ints_set] at H
   rw [counts_succ q] at H
   replace H:St _ _ [.box b5 ((counts s (k+1)).map (Value.int .i64)) 2] _:=H
   refine zjc (sq 3 (oF rfl (oL rfl (H.x8 7 rfl 2 rfl) (sp (yI k) (oI rfl rfl (oF rfl (oL rfl (H.x8 6 rfl 0 rfl) (oI rfl rfl (oL rfl (H.cell 0 rfl (ints_get (by rw [counts_len];omega))) (sp (.bool (decide (((counts s (k+1))[((s.qB[k]!).qP:Int).toNat]! :Int) > 8))) (zjn (cD rfl (fun h17=>?_) (fun h17=>?_)))))))))))))
   ·skip
    refine zcr (sp (.bool false) (zjr (zr5 (ret1 (.bool false) rfl rfl ⟨_,rfl,?_,H.base⟩))))
    rw [xk (fun h=>by obtain ⟨h1,h2,h3⟩:=h;first | contradiction | omega | (obtain ⟨q1,q2⟩:=h3 k qf;first | contradiction | (have:=Vr (k:=k+1) q;omega)))]
   refine qW (b_n (t_n (xU (sp (yI k) (sw (zA k 1 rfl rfl (by (first | omega | (rw [Vr q];have:=ofCell_bd s.qB (s.qB[k]!).qP k;omega))) (sq 1 (xY (xe (m' :=s.qB.length - (k+1)) qf ⟨_,k+1,uE3,?_,?_,rfl,H.sel _ (.refl _) _ qm⟩)))))))))
   · omega
   · exact i1.succ ‹_› (by have:=Vr (k:=k+1) q;omega)
  refine zx4 (zcr (sp (.bool true) (zjr (ret1 (.bool true) rfl rfl ⟨_,rfl,?_,H.base⟩))))
  obtain rfl:k=s.qB.length:=by omega
  rw [jY ⟨by assumption,by omega,i1⟩]
 replace h3:=xJ h3
 replace h3:=zT h3
 refine xZ [9,10,11,12,13,14] (sp (.bool true) (zjn (xE true rfl (fun _=>zcr (sp (.bool false) (zjr (t_r (ret1 (.bool false) rfl rfl ⟨_,rfl,?_,H.base⟩))))) (fun h=>absurd h qj))))
 rw [xk (fun h=>by obtain ⟨h1,h2,h3⟩:=h;first | contradiction | omega | (obtain ⟨q1,q2⟩:=h3 k qf;first | contradiction | (have:=Vr (k:=k+1) q;omega)))]
end
section

theorem climb_in {s:qE} {t:qF} (hs:jL s) (h0:t.qG[0]! =true):∀ (n:Nat) (c:Int),0≤c→c < n→c≤(s.qA.length:Int) - 1→
    0≤climb s.qA t.qG n c∧climb s.qA t.qG n c≤c∧t.qG[(climb s.qA t.qG n c).toNat]! =true
  | 0,c,h1,h2,h3=>by omega
  | n+1,c,h1,h2,h3=>by
    rw [climb]
    by_cases ha:0≤c∧t.qG[c.toNat]! =false
    · rw [if_pos ha]
      have hc:0 < c:=by
        rcases Int.lt_or_eq_of_le h1 with h | h
        · exact h
        · rw [← h] at ha;simp [h0] at ha
      have hu:=hs.up hc h3
      have:=climb_in hs h0 n (s.qA[c.toNat]!) hu.1 qf qf
      exact ⟨this.1,by omega,this.2.2⟩
    · rw [if_neg ha]
      refine ⟨h1,Int.le_refl _,?_⟩
      cases hx:t.qG[c.toNat]! with
      | true=>rfl
      | false=>exact absurd ⟨h1,hx⟩ ha
theorem Vq {s:qE} {t:qF} (hs:jL s) (h0:t.qG[0]! =true) {c:Int} (h1:0 < c) (h2:c≤(s.qA.length:Int) - 1):0≤xW s t c∧xW s t c < c∧t.qG[(xW s t c).toNat]! =true:=by
  have hu:=hs.up h1 h2
  have:=climb_in hs h0 s.qA.length (s.qA[c.toNat]!) hu.1 qf qf
  exact ⟨this.1,by have:=this.2.1;unfold xW;omega,this.2.2⟩

def melted (s:qE) (t:qF) (c:Int):qF:=
  ⟨t.qG.set c.toNat false,(t.qN.set (xW s t c).toNat (jH (t.qN[(xW s t c).toNat]!) (t.qN[c.toNat]!) 1)).set c.toNat (List.replicate s.xP.toNat 0),t.qH⟩
open Classical in
noncomputable def told (s:qE) (t:qF):qF×Int:=if xX s t then (t,0) else (default,3)
theorem told_yes {s:qE} {t:qF} (h:xX s t):told s t=(t,0):=by rw [told,if_pos h]
theorem told_no {s:qE} {t:qF} (h:¬ xX s t):told s t=(default,3):=by rw [told,if_neg h]
theorem xX.bagLen {s:qE} {t:qF} (h:xX s t) {k:Nat} (hk:k < t.qN.length):vw s.xP (t.qN[k]!):=(h.2.2.2.2 k hk).1
theorem bagOk_smallT {n:Int} {l:yLI} (h:vw n l) {t:Int} (ht: -1000000≤t∧t≤1000000):SmallT l t:=fun k hk=>by
  have:=h.1.1 k hk
  constructor
  · have h1: -(1000000 * 1000)≤t * l[k]! :=by
      rcases Int.le_total 0 t with h0 | h0
      · have:=Int.mul_nonneg h0 this.1;omega
      · have h2:=Int.mul_le_mul_of_nonneg_left this.2 (show 0≤ -t by omega)
        have h3: -t * l[k]! = -(t * l[k]!):=Int.neg_mul ..
        have h4: -t * 1000≤1000000 * 1000:=by omega
        omega
    omega
  · have h1:t * l[k]! ≤1000000 * 1000:=by
      rcases Int.le_total 0 t with h0 | h0
      · have h2:=Int.mul_le_mul_of_nonneg_left this.2 h0
        omega
      · have h2:=Int.mul_nonneg (show 0≤ -t by omega) this.1
        have h3: -t * l[k]! = -(t * l[k]!):=Int.neg_mul ..
        omega
    omega
theorem xX.sizes {s:qE} {t:qF} (hs:jL s) (h:xX s t):t.qG.length≤6∧t.qH.length≤8∧t.qN.length≤6∧∀ k,k < t.qN.length→(t.qN[k]!).length≤8:=
  ⟨by have:=h.1;have:=hs.2.1;omega,h.2.2.2.1.1.2.2,by have:=h.2.1;have:=hs.2.1;omega,fun k hk=>(h.bagLen hk).1.2.2⟩
theorem xX.add {s:qE} {t:qF} (h:xX s t) {j k:Nat} (hj:j < t.qN.length) (hk:k < t.qN.length):(t.qN[j]!).length≤(t.qN[k]!).length∧Mid (t.qN[j]!)∧SmallT (t.qN[k]!) 1:=by
  have h1:=h.bagLen hj
  have h2:=h.bagLen hk
  exact ⟨by have:=h1.2;have:=h2.2;omega,(vg h1).mid,bagOk_smallT h2 qf⟩
theorem drop_get {l:yLI} {k:Nat} (h:k+1 < l.length):(l.drop 1)[k]! =l[k+1]! :=by
  rw [getElem!_pos (l.drop 1) k (by rw [List.length_drop];omega),getElem!_pos l (k+1) h]
  simp [Nat.add_comm]
theorem lies_up {s:qE} (hs:jL s) {c o:Int} (hc:CellIn s c):Lies s.qA o c↔0≤s.qA[c.toNat]! ∧(s.qA[c.toNat]! =o∨Lies s.qA o (s.qA[c.toNat]!)):=by
  rw [lies_iff]
  rcases Int.lt_or_eq_of_le hc.1 with h | h
  · have:=hs.up h hc.2
    constructor
    · rintro ⟨_,h1⟩;exact ⟨this.1,h1⟩
    · rintro ⟨_,h1⟩;exact ⟨h,h1⟩
  · subst h
    have:=hs.2.2.1
    simp only [Int.toNat_zero] at *
    constructor
    · rintro ⟨h1,_⟩;omega
    · rintro ⟨h1,_⟩;omega
def counts6 (s:qE) (k:Nat):yLI:=(List.range 6).map fun c:Nat=>XU s.qB (c:Int) k
theorem counts6_len (s:qE) (k:Nat):(counts6 s k).length=6:=by simp [counts6]
theorem counts6_zero (s:qE):([0,0,0,0,0,0]:yLI)=counts6 s 0:=by simp [counts6,List.range_succ,XU]
theorem Vo {s:qE} {k:Nat} {c:Int} (h:0≤c) (h1:c≤5):(counts6 s k)[c.toNat]! =XU s.qB c k:=by
  rw [getElem!_pos _ _ (by rw [counts6_len];omega)]
  simp only [counts6,List.getElem_map,List.getElem_range]
  rw [show ((c.toNat:Nat):Int)=c by omega]
theorem counts6_succ {s:qE} {k:Nat} (h:0≤(s.qB[k]!).qP) (h1:(s.qB[k]!).qP≤5):
    (counts6 s k).set (s.qB[k]!).qP.toNat ((counts6 s k)[(s.qB[k]!).qP.toNat]! +1)=counts6 s (k+1):=by
  rw [Vo h h1]
  apply List.ext_getElem
  · simp [counts6]
  · intro i h1 h2
    rw [List.getElem_set]
    simp only [counts6,List.getElem_map,List.getElem_range,XU]
    by_cases e:(s.qB[k]!).qP.toNat=i
    · subst e
      rw [if_pos rfl,if_pos qf,show (((s.qB[k]!).qP.toNat:Nat):Int)=(s.qB[k]!).qP by omega]
    · rw [if_neg e,if_neg qf];omega
theorem sum_nonneg {l:yLI} (h:BagAny l):0≤QM l:=by
  have:∀ k,k≤l.length→0≤sumTo l k:=fun k=>by
    induction k with
    | zero=>intro _;exact Int.le_refl _
    | succ k ih=>intro hk;have:=ih qf;have:=h.1 k qf;simp only [sumTo];omega
  exact this _ (Nat.le_refl _)
end
section
open Go.Proofs.Tryz
open Go.RowKit
set_option linter.unusedVariables false
set_option linter.unusedSimpArgs false
set_option maxRecDepth 100000
set_option maxHeartbeats 4000000
theorem cloneB_ok (w:World) (l:List Bool) {al:yOA} {cl:Nat} {Fl:yLN} (hl:qO.rep w Fl [.slice al l.length cl] l) (p0:l.length≤1000000):Calls Tryz.prog 120 #[.slice al l.length cl] w (Ret (fun v w' =>∃ (ra:yOA) (rn:Nat) (rc:Nat),v=.slice ra rn rc∧Fresh w.heap.size []∧St w w' [rr ra rn rc 4 1 (l.map (Value.bool))] []) w):=by
 refine en func120 ntmps120 ?_
 have H:=(St.start w).arg hl
 have nhl:=qM hl
 clear hl
 have N:=Fresh.nil w.heap.size
 refine zcr (sq 1 (zjcc (sq 1 (sw (o_eqnil underlying28 al l.length cl rfl (zjn (xE _ rfl (fun h1=>?_) (fun h1=>?_))))))))
 ·skip
  refine zcr (sq 1 (zjr (t_r ?_)))
  replace H:=H.nilRowB 4
  refine ret1 yN rfl rfl ⟨_,rfl,?_,H.base⟩
  obtain rfl:=H.nilOf 0 rfl ‹_›
  exact ⟨none,0,0,rfl,N,H.pick [0] []⟩
 refine qW (t_n (zcr (sw (vU H underlying28 ti4 fun b2 w3 H=>sq 1 ?_))))
 replace H:=H.boxRowB 0 [] 0
 refine sw (o_appendFR H 0 rfl 0 rfl underlying28 ti4 rfl qj rfl rfl qp qf fun a4 c5 w6 us7 G8 H hG9=>?_)
 obtain ⟨_,rfl⟩:=reps_bools (H.get 0 rfl).1
 replace H:=H.sub _ fun f hf=>List.mem_cons_of_mem _ hf
 rw [catB] at H
 refine sq 1 (zjr (ret1 (.slice a4 (0+l.length) c5) rfl rfl ⟨_,rfl,(⟨a4,0+l.length,c5,rfl,N,H.pick [0] []⟩),H.base⟩))

theorem l02Own_ok (w:World) (t:qF) {bt ot:Nat} {xg:yOA} {xf:Nat} {zu:yLN} {xF:yOA} {xA:Nat} {zU:yLN} {qU:yOA} {qR:Nat} {x9:yLN} (ht:vG w bt ot (yT t xg xf xF xA qU qR)) (xR:qO.rep w zu [.slice xg t.qG.length xf] t.qG) (zn:qO.rep w zU [.slice xF t.qN.length xA] t.qN) (xy:qO.rep w x9 [.slice qU t.qH.length qR] t.qH) (p0:t.qG.length≤1000000) (p1:t.qH.length≤1000000) (p2:t.qN.length≤1000000) (p3:∀ k,k < t.qN.length→(t.qN[k]!).length≤1000000):Calls Tryz.prog 112 #[pp bt ot] w (Ret (fun v w' =>∃ (raAlive:yOA) (rnAlive:Nat) (rcAlive:Nat) (raBags:yOA) (rnBags:Nat) (rcBags:Nat) (rxBags:List Value) (rFBags:yLN) (raAround:yOA) (rnAround:Nat) (rcAround:Nat),v=.agg #[.slice raAlive rnAlive rcAlive,.slice raBags rnBags rcBags,.slice raAround rnAround rcAround]∧Fresh w.heap.size [rFBags]∧St w w' [rr raAlive rnAlive rcAlive 4 1 (t.qG.map (Value.bool)),rr raBags rnBags rcBags 24 1 rxBags,rr raAround rnAround rcAround 2 1 (t.qH.map (Value.int .i64))] [xB true rFBags rxBags t.qN]) w):=by
 refine en func112 ntmps112 ?_
 have H:=((((St.start w).arg xy).arg zn).arg xR).XO ht
 have jO:=qM xR
 have yH:=qM zn
 have jg:=qM xy
 clear ht xR zn xy
 have N:=Fresh.nil w.heap.size
 refine zcr (sw (xx H ti31 [yN,yN,yN] fun b1 w2 H=>zjn (xQ ?_)))
 refine c_cut (fun ρ w8=>∃ (xM:Env) (b3:Nat) (a4:yOA) (c5:Nat) (a6:yOA) (c7:Nat),ρ=upd (upd (upd xM 0 (pp bt ot)) 2 (pp b1 0)) 3 (pp b3 0)∧Fresh w.heap.size []∧St w w8 [.box b3 [.slice a4 (0+t.qG.length) c5,yN,.slice a6 t.qH.length c7] 31,rr a6 t.qH.length c7 2 1 (t.qH.map (Value.int .i64)),rr a4 (0+t.qG.length) c5 4 1 ((([]:List Bool)++t.qG).map (Value.bool)),.box b1 [yN,yN,yN] 31] [atF bt ot (yT t xg xf xF xA qU qR),sF false zu xg xf t.qG,sF false zU xF xA t.qN,sF false x9 qU qR t.qH]) ?_ ?_
 ·skip
  refine jf rfl H fun H=>rtl 1 H ?_
  refine rtl 2 H ?_
  refine tF 3 rfl rfl H ?_
  refine tL 4 rfl rfl (fun _ h=>h.x8 0 rfl 0 rfl) H ?_
  refine rtl 6 H ?_
  refine rtl 7 H ?_
  refine tF 8 rfl rfl H ?_
  refine tL 9 rfl rfl (fun _ h=>h.x8 0 rfl 2 rfl) H ?_
  refine zY [0,12] qh qm (jd rfl ?_ (jd rfl ?_ zZ))
  ·skip
   refine vU H underlying28 ti4 fun b10 w11 H=>⟨H.pick [1] [0,1,2,3],(zY [5,12] qh qm (jd rfl ?_ (jd rfl ?_ zZ)))⟩
   ·skip
    replace H:=H.boxRowB 0 [] 0
    refine o_appendFR H 0 rfl 1 rfl underlying28 ti4 rfl qj rfl rfl qp qf fun a12 c13 w14 us15 G16 H hG17=>?_
    obtain ⟨_,rfl⟩:=reps_bools (H.get 0 rfl).1
    replace H:=H.sub _ fun f hf=>List.mem_cons_of_mem _ hf
    rw [catB] at H
    refine ⟨H.pick [1] [0,1,2,3],(zY [10,12] qh qm (jd rfl ?_ (jd rfl ?_ zZ)))⟩
    ·skip
     have sz18:=H.base.size
     refine oc (Xc _ t.qH (H.get 3 rfl).1 qg) ?_
     rintro v23 w21 r23 x22
     replace H:=H.zC x22 r23
     obtain ⟨a24,c25,rfl,hc26,hm27⟩:=H.jq 0 rfl
     refine ⟨H.pick [2] [0,1,2,3],(zY [11,12] qh qm (jd rfl ?_ (jd rfl ?_ zZ)))⟩
     ·skip
      refine zO [.slice a12 (0+t.qG.length) c13,yN,.slice a24 t.qH.length c25] [(0,.slice a12 (0+t.qG.length) c13),(2,.slice a24 t.qH.length c25)] (⟨H.pick [2] [0,1,2,3],(ro 12 rfl (xx H ti31 [yN,yN,yN] fun b28 w29 H=>⟨H.pick [3] [0,1,2,3],(ro 13 rfl (xG H 0 [.slice a12 (0+t.qG.length) c13,yN,.slice a24 t.qH.length c25] sizeOf31 fun w30 H=>⟨H.pick [3] [0,1,2,3],(xq qh ((meet ⟨_,b28,a12,c13,a24,c25,uE3,N,H⟩)))⟩))⟩))⟩)
     refine xx H ti31 [yN,yN,yN] fun b31 w32 H=>⟨H.pick [3] [0,1,2,3],(ro 11 rfl (zO [.slice a12 (0+t.qG.length) c13,yN,.slice a24 t.qH.length c25] [(0,.slice a12 (0+t.qG.length) c13),(2,.slice a24 t.qH.length c25)] (⟨H.pick [3] [0,1,2,3],(ro 13 rfl (xG H 0 [.slice a12 (0+t.qG.length) c13,yN,.slice a24 t.qH.length c25] sizeOf31 fun w33 H=>⟨H.pick [3] [0,1,2,3],(xq qh ((meet ⟨_,b31,a12,c13,a24,c25,uE3,N,H⟩)))⟩))⟩)))⟩
    refine xx H ti31 [yN,yN,yN] fun b34 w35 H=>⟨H.pick [2] [0,1,2,3],(ro 10 rfl ?_)⟩
    have sz36:=H.base.size
    refine oc (Xc _ t.qH (H.get 3 rfl).1 qg) ?_
    rintro v41 w39 r41 x40
    replace H:=H.zC x40 r41
    obtain ⟨a42,c43,rfl,hc44,hm45⟩:=H.jq 0 rfl
    refine ⟨H.pick [3] [0,1,2,3],(ro 11 rfl (zO [.slice a12 (0+t.qG.length) c13,yN,.slice a42 t.qH.length c43] [(0,.slice a12 (0+t.qG.length) c13),(2,.slice a42 t.qH.length c43)] (⟨H.pick [3] [0,1,2,3],(ro 13 rfl (xG H 1 [.slice a12 (0+t.qG.length) c13,yN,.slice a42 t.qH.length c43] sizeOf31 fun w46 H=>⟨H.pick [3] [0,1,2,3],(xq qh ((meet ⟨_,b34,a12,c13,a42,c43,uE3,N,H.pick [1,0,2,3] [0,1,2,3]⟩)))⟩))⟩)))⟩
   refine xx H ti31 [yN,yN,yN] fun b47 w48 H=>⟨H.pick [2] [0,1,2,3],(ro 5 rfl ?_)⟩
   replace H:=H.boxRowB 1 [] 0
   refine o_appendFR H 1 rfl 1 rfl underlying28 ti4 rfl qj rfl rfl qp qf fun a49 c50 w51 us52 G53 H hG54=>?_
   obtain ⟨_,rfl⟩:=reps_bools (H.get 0 rfl).1
   replace H:=H.sub _ fun f hf=>List.mem_cons_of_mem _ hf
   rw [catB] at H
   refine ⟨H.pick [2] [0,1,2,3],(ro 10 rfl ?_)⟩
   have sz55:=H.base.size
   refine oc (Xc _ t.qH (H.get 3 rfl).1 qg) ?_
   rintro v60 w58 r60 x59
   replace H:=H.zC x59 r60
   obtain ⟨a61,c62,rfl,hc63,hm64⟩:=H.jq 0 rfl
   refine ⟨H.pick [3] [0,1,2,3],(ro 11 rfl (zO [.slice a49 (0+t.qG.length) c50,yN,.slice a61 t.qH.length c62] [(0,.slice a49 (0+t.qG.length) c50),(2,.slice a61 t.qH.length c62)] (⟨H.pick [3] [0,1,2,3],(ro 13 rfl (xG H 1 [.slice a49 (0+t.qG.length) c50,yN,.slice a61 t.qH.length c62] sizeOf31 fun w65 H=>⟨H.pick [3] [0,1,2,3],(xq qh ((meet ⟨_,b47,a49,c50,a61,c62,uE3,N,H.pick [1,0,2,3] [0,1,2,3]⟩)))⟩))⟩)))⟩
  refine xx H ti31 [yN,yN,yN] fun b66 w67 H=>⟨H.pick [1] [0,1,2,3],(ro 0 rfl (vU H underlying28 ti4 fun b68 w69 H=>⟨H.pick [2] [0,1,2,3],(ro 5 rfl ?_)⟩))⟩
  replace H:=H.boxRowB 0 [] 0
  refine o_appendFR H 0 rfl 1 rfl underlying28 ti4 rfl qj rfl rfl qp qf fun a70 c71 w72 us73 G74 H hG75=>?_
  obtain ⟨_,rfl⟩:=reps_bools (H.get 0 rfl).1
  replace H:=H.sub _ fun f hf=>List.mem_cons_of_mem _ hf
  rw [catB] at H
  refine ⟨H.pick [2] [0,1,2,3],(ro 10 rfl ?_)⟩
  have sz76:=H.base.size
  refine oc (Xc _ t.qH (H.get 3 rfl).1 qg) ?_
  rintro v81 w79 r81 x80
  replace H:=H.zC x80 r81
  obtain ⟨a82,c83,rfl,hc84,hm85⟩:=H.jq 0 rfl
  refine ⟨H.pick [3] [0,1,2,3],(ro 11 rfl (zO [.slice a70 (0+t.qG.length) c71,yN,.slice a82 t.qH.length c83] [(0,.slice a70 (0+t.qG.length) c71),(2,.slice a82 t.qH.length c83)] (⟨H.pick [3] [0,1,2,3],(ro 13 rfl (xG H 2 [.slice a70 (0+t.qG.length) c71,yN,.slice a82 t.qH.length c83] sizeOf31 fun w86 H=>⟨H.pick [3] [0,1,2,3],(xq qh ((meet ⟨_,b66,a70,c71,a82,c83,uE3,N,H.pick [2,0,1,3] [0,1,2,3]⟩)))⟩))⟩)))⟩
 clear H N
 rintro ρ w87 ⟨xM,b3,a4,c5,a6,c7,rfl,N,H⟩
 refine t_n (zcc (sp (yI 0) (zjn (qY ?_))))
 replace H:=H.nilRow 24 1
 replace H:=H.zW (α:=yLI)
 refine zq ((fun Z0 Z1 Z2 Z3 Z4 Z5 Z6=>fun m' ρ w88=>∃ (xM:Env) (c:Nat) (jR:yOA) (vF:Nat) (jQ:Nat) (out_Bags:yLL) (vC:List Value) (zo:yLN),ρ=upd (upd (upd (upd xM 0 (pp bt ot)) 2 (pp b1 0)) 3 (pp b3 0)) 4 (yI c)∧out_Bags=t.qN.take c∧((c:Int)≤t.qN.length)∧m' =(t.qN.length - (c:Int)).toNat∧Fresh w.heap.size [zo]∧St w w88 [rr jR vF jQ 24 1 vC,.box b3 [.slice a4 (0+t.qG.length) c5,.slice jR vF jQ,.slice a6 t.qH.length c7] 31,Z0,Z1,Z2] [xB true zo vC out_Bags,Z3,Z4,Z5,Z6]) _ _ _ _ _ _ _) ((t.qN.length - (0:Int)).toNat) ⟨_,0,none,0,0,([]:yLL),[],[],uE4,(by rfl),qf,rfl,N.emp,H⟩ ?_
 clear H N
 rintro m' ρ w89 ⟨xM,c,jR,vF,jQ,out_Bags,vC,zo,rfl,rfl,i0,rfl,N,H⟩
 have Vl:=H.xK (α:=yLI) 0 rfl 0 rfl qj
 have p4:=p3 c
 rw [List.length_take_of_le qf] at Vl
 refine zcc (sp (yI c) (sq 2 (oF rfl (oL rfl (H.x8 1 rfl 1 rfl) (oN rfl (sq 1 (zjn (cD rfl (fun h90=>?_) (fun h90=>?_)))))))))
 ·skip
  refine qW (t_n (xQ (qY ?_)))
  obtain ⟨b91,o92,rfl⟩:=H.addr 3 rfl qf
  refine c_cut (fun ρ w102=>∃ (xM:Env) (a94:yOA) (c95:Nat) (a96:yOA) (c97:Nat) (G98:yLN) (F99:yLN) (a100:yOA) (c101:Nat),ρ=upd (upd (upd (upd xM 0 (pp bt ot)) 2 (pp b1 0)) 3 (pp b3 0)) 4 (yI c)∧Fresh w.heap.size [(zo++G98)]∧St w w102 [rr a94 (vF+1) c95 24 1 (vC++[.slice a96 ((t.qN[c]!).length) c97]),.box b3 [.slice a4 (0+t.qG.length) c5,.slice a94 (vF+1) c95,.slice a6 t.qH.length c7] 31,rr a6 t.qH.length c7 2 1 (t.qH.map (Value.int .i64)),rr a4 (0+t.qG.length) c5 4 1 ((([]:List Bool)++t.qG).map (Value.bool)),.box b1 [yN,yN,yN] 31] [xB true (zo++G98) (vC++[.slice a96 ((t.qN[c]!).length) c97]) ((t.qN.take c)++[(t.qN[c]!)]),sF true G98 a96 c97 (t.qN[c]!),sF false F99 a100 c101 (t.qN[c]!),atF b91 (o92+(c:Int).toNat * 1) [.slice a100 ((t.qN[c]!).length) c101],atF bt ot [.slice xg t.qG.length xf,.slice (aa b91 o92) t.qN.length xA,.slice qU t.qH.length qR],sF false zu xg xf t.qG,sF false zU (aa b91 o92) xA t.qN,sF false x9 qU qR t.qH]) ?_ ?_
  ·skip
   refine yK rfl H [2,3,4] fun H=>?_
   have S:=H.jo [2,3,4] [0,1,2,3,4]
   refine tF 0 rfl rfl S ?_
   refine rtl 2 S ?_
   refine rtl 3 S ?_
   refine tF 4 rfl rfl S ?_
   refine tL 5 rfl rfl (fun _ h=>h.x8 1 rfl 1 rfl) S ?_
   refine rtp 6 (yI c) S ?_
   obtain ⟨ae104,ce104,Fe104,H⟩:=H.vX 3 rfl c c qf qf qf
   refine tI 7 rfl rfl rfl (H.pick [2,3,4] [2,3,4,5,6]) ?_
   refine zY [1,8] qh qm (jd rfl ?_ (jd rfl ?_ zZ))
   ·skip
    refine zl (.slice jR vF jQ) isAgg29 rfl (H.cell 1 rfl rfl) (⟨H.pick [2,3,4] [2,3,4,5,6],(ro 8 rfl (zl (.slice ae104 ((t.qN[c]!).length) ce104) isAgg24 rfl (H.x8 1 rfl 0 rfl) (⟨H.pick [2,3,4] [2,3,4,5,6],(ro 9 rfl ?_)⟩)))⟩)
    have sz105:=H.base.size
    have lt106:=H.ltN (L:=[zo]) [2]
    refine oc (Xc _ (t.qN[c]!) (H.get 0 rfl).1 qg) ?_
    rintro v110 w108 r110 x109
    replace H:=H.zC x109 r110
    obtain ⟨a111,c112,rfl,hc113,hm114⟩:=H.jq 0 rfl
    refine ⟨H.pick [3,4,5] [2,3,4,5,6],(ro 10 rfl (zf H underlying29 ti24 [.slice a111 ((t.qN[c]!).length) c112] fun b115 w116 H=>⟨H.pick [4,5,6] [2,3,4,5,6],(ro 11 rfl ?_)⟩))⟩
    obtain ⟨G120,N,hn121,H⟩:=H.zG 1 rfl N (H.vS [2])
    refine zk H 2 rfl 0 rfl underlying29 ti24 rfl qj rfl rfl rfl qw qp qf fun a117 c118 w119 H=>?_
    replace H:=H.jM 3 rfl 0 rfl
    replace N:Fresh w.heap.size [(zo++G120)]:=(N.pick [1,0]).join
    refine ⟨H.pick [4,5,6] [4,5,6,7,8],(tF 12 rfl rfl (H.pick [4,5,6] [4,5,6,7,8]) ?_)⟩
    refine ro 13 rfl (xO H 3 [.slice a4 (0+t.qG.length) c5,.slice a117 (vF+1) c118,.slice a6 t.qH.length c7] sizeOf29 fun w122 H=>⟨H.pick [4,5,6] [4,5,6,7,8],(xq qh ((meet ⟨_,a117,c118,a111,c112,G120,Fe104,ae104,ce104,uE4,N,H.pick [2,3,4,5,6] [0,1,2,3,5,6,7,8]⟩)))⟩)
   refine zl (.slice ae104 ((t.qN[c]!).length) ce104) isAgg24 rfl (H.x8 1 rfl 0 rfl) (⟨H.pick [2,3,4] [2,3,4,5,6],(zY [1,9] qh qm (jd rfl ?_ (jd rfl ?_ zZ)))⟩)
   ·skip
    refine zl (.slice jR vF jQ) isAgg29 rfl (H.cell 1 rfl rfl) (⟨H.pick [2,3,4] [2,3,4,5,6],(ro 9 rfl ?_)⟩)
    have sz123:=H.base.size
    have lt124:=H.ltN (L:=[zo]) [2]
    refine oc (Xc _ (t.qN[c]!) (H.get 0 rfl).1 qg) ?_
    rintro v128 w126 r128 x127
    replace H:=H.zC x127 r128
    obtain ⟨a129,c130,rfl,hc131,hm132⟩:=H.jq 0 rfl
    refine ⟨H.pick [3,4,5] [2,3,4,5,6],(ro 10 rfl (zf H underlying29 ti24 [.slice a129 ((t.qN[c]!).length) c130] fun b133 w134 H=>⟨H.pick [4,5,6] [2,3,4,5,6],(ro 11 rfl ?_)⟩))⟩
    obtain ⟨G138,N,hn139,H⟩:=H.zG 1 rfl N (H.vS [2])
    refine zk H 2 rfl 0 rfl underlying29 ti24 rfl qj rfl rfl rfl qw qp qf fun a135 c136 w137 H=>?_
    replace H:=H.jM 3 rfl 0 rfl
    replace N:Fresh w.heap.size [(zo++G138)]:=(N.pick [1,0]).join
    refine ⟨H.pick [4,5,6] [4,5,6,7,8],(tF 12 rfl rfl (H.pick [4,5,6] [4,5,6,7,8]) ?_)⟩
    refine ro 13 rfl (xO H 3 [.slice a4 (0+t.qG.length) c5,.slice a135 (vF+1) c136,.slice a6 t.qH.length c7] sizeOf29 fun w140 H=>⟨H.pick [4,5,6] [4,5,6,7,8],(xq qh ((meet ⟨_,a135,c136,a129,c130,G138,Fe104,ae104,ce104,uE4,N,H.pick [2,3,4,5,6] [0,1,2,3,5,6,7,8]⟩)))⟩)
   have sz141:=H.base.size
   have lt142:=H.ltN (L:=[zo]) [2]
   refine oc (Xc _ (t.qN[c]!) (H.get 0 rfl).1 qg) ?_
   rintro v146 w144 r146 x145
   replace H:=H.zC x145 r146
   obtain ⟨a147,c148,rfl,hc149,hm150⟩:=H.jq 0 rfl
   refine ⟨H.pick [3,4,5] [2,3,4,5,6],(zY [1,10] qh qm (jd rfl ?_ (jd rfl ?_ zZ)))⟩
   ·skip
    refine zl (.slice jR vF jQ) isAgg29 rfl (H.cell 2 rfl rfl) (⟨H.pick [3,4,5] [2,3,4,5,6],(ro 10 rfl (zf H underlying29 ti24 [.slice a147 ((t.qN[c]!).length) c148] fun b151 w152 H=>⟨H.pick [4,5,6] [2,3,4,5,6],(ro 11 rfl ?_)⟩))⟩)
    obtain ⟨G156,N,hn157,H⟩:=H.zG 1 rfl N (H.vS [2])
    refine zk H 2 rfl 0 rfl underlying29 ti24 rfl qj rfl rfl rfl qw qp qf fun a153 c154 w155 H=>?_
    replace H:=H.jM 3 rfl 0 rfl
    replace N:Fresh w.heap.size [(zo++G156)]:=(N.pick [1,0]).join
    refine ⟨H.pick [4,5,6] [4,5,6,7,8],(tF 12 rfl rfl (H.pick [4,5,6] [4,5,6,7,8]) ?_)⟩
    refine ro 13 rfl (xO H 3 [.slice a4 (0+t.qG.length) c5,.slice a153 (vF+1) c154,.slice a6 t.qH.length c7] sizeOf29 fun w158 H=>⟨H.pick [4,5,6] [4,5,6,7,8],(xq qh ((meet ⟨_,a153,c154,a147,c148,G156,Fe104,ae104,ce104,uE4,N,H.pick [2,3,4,5,6] [0,1,2,3,5,6,7,8]⟩)))⟩)
   refine zf H underlying29 ti24 [.slice a147 ((t.qN[c]!).length) c148] fun b159 w160 H=>⟨H.pick [4,5,6] [2,3,4,5,6],(ro 1 rfl (zl (.slice jR vF jQ) isAgg29 rfl (H.cell 3 rfl rfl) (⟨H.pick [4,5,6] [2,3,4,5,6],(ro 11 rfl ?_)⟩)))⟩
   obtain ⟨G164,N,hn165,H⟩:=H.zG 1 rfl N (H.vS [2])
   refine zk H 2 rfl 0 rfl underlying29 ti24 rfl qj rfl rfl rfl qw qp qf fun a161 c162 w163 H=>?_
   replace H:=H.jM 3 rfl 0 rfl
   replace N:Fresh w.heap.size [(zo++G164)]:=(N.pick [1,0]).join
   refine ⟨H.pick [4,5,6] [4,5,6,7,8],(tF 12 rfl rfl (H.pick [4,5,6] [4,5,6,7,8]) ?_)⟩
   refine ro 13 rfl (xO H 3 [.slice a4 (0+t.qG.length) c5,.slice a161 (vF+1) c162,.slice a6 t.qH.length c7] sizeOf29 fun w166 H=>⟨H.pick [4,5,6] [4,5,6,7,8],(xq qh ((meet ⟨_,a161,c162,a147,c148,G164,Fe104,ae104,ce104,uE4,N,H.pick [2,3,4,5,6] [0,1,2,3,5,6,7,8]⟩)))⟩)
  clear H N
  rintro ρ w167 ⟨xM,a94,c95,a96,c97,G98,F99,a100,c101,rfl,N,H⟩
  refine b_n (t_n (xU (sp (yI c) (sw (zA c 1 rfl rfl qf (sq 1 (xY (xe (m' :=(t.qN.length - ((c+1):Int)).toNat) qf ⟨_,c+1,_,_,_,_,_,_,uE4,?_,?_,rfl,N,H.pick [0,1,2,3,4] [0,4,5,6,7]⟩))))))))
  · exact take_snoc qf
  · omega
 refine zx4 (zcr (sw (xI [.slice a4 (0+t.qG.length) c5,.slice jR vF jQ,.slice a6 t.qH.length c7] isAgg31 sizeOf31 rfl (qC (H.cells 1 rfl) 0 3) (sw (xG H 4 [.slice a4 (0+t.qG.length) c5,.slice jR vF jQ,.slice a6 t.qH.length c7] sizeOf31 fun w168 H=>zjr (retC H 4 rfl rfl isAgg31 sizeOf31 rfl ⟨_,rfl,?_,H.base⟩))))))
 obtain rfl:c=t.qN.length:=by omega
 rw [List.take_length] at H
 exact ⟨a4,0+t.qG.length,c5,jR,vF,jQ,vC,zo,a6,t.qH.length,c7,rfl,N,H.pick [3,0,2] [0]⟩
end
section

theorem ft {b:Bool} (h:b=true) (h' :b=false):False:=by rw [h] at h';cases h'

theorem getset {α:Type} [Inhabited α] {l:List α} {c p:Nat} {v:α} (hc:c < l.length):(l.set c v)[p]! =if p=c then v else l[p]! :=by
  by_cases hp:p < l.length
  · rw [getElem!_pos _ _ (by simpa using hp),getElem!_pos l p hp,List.getElem_set]
    by_cases e:c=p
    · rw [if_pos e,if_pos e.symm]
    · rw [if_neg e,if_neg (fun h=>e h.symm)]
  · rw [if_neg qf,getElem!_neg (l.set c v) p (by simpa using hp),getElem!_neg l p hp]
theorem plus_get {l m:yLI} {t:Int} {k:Nat} (hk:k < l.length):(jH l m t)[k]! =l[k]! +t * m[k]! :=by
  rw [getElem!_pos (jH l m t) k (by rw [plusL_len];exact hk)]
  simp [jH,plusTo]
theorem ext_get {α:Type} [Inhabited α] {l m:List α} (hl:l.length=m.length) (h:∀ k,k < l.length→l[k]! =m[k]!):l=m:=by
  apply List.ext_getElem hl
  intro i h1 h2
  have:=h i h1
  rwa [getElem!_pos l i h1,getElem!_pos m i h2] at this
theorem set_self {α:Type} [Inhabited α] {l:List α} {c:Nat} {v:α} (hc:c < l.length) (h:v=l[c]!):l.set c v=l:=by
  refine ext_get qm fun k hk=>?_
  rw [getset hc]
  by_cases e:k=c
  · rw [if_pos e,e,h]
  · rw [if_neg e]
theorem plus_zero {l m:yLI} {t:Int} (ht:t=0):jH l m t=l:=by
  refine ext_get (plusL_len _ _ _) fun k hk=>?_
  rw [plusL_len] at hk
  rw [plus_get hk,ht];omega

def Shape (n K:Nat) (B:Int) (b:yLL):Prop:=b.length=n∧∀ p,p < n→(b[p]!).length=K∧∀ k,k < K→ -B≤(b[p]!)[k]! ∧(b[p]!)[k]! ≤B
structure Ent (n K:Nat) (f:Nat→Nat→Int) (B:Int) (b:yLL):Prop where
  sh:Shape n K B b
  eq:∀ p k,p < n→k < K→(b[p]!)[k]! =f p k
def at' (p c:Nat) (x:Int):Int:=if p=c then x else 0
theorem Shape.set {n K:Nat} {B D:Int} {b:yLL} (h:Shape n K B b) {c:Nat} {v:yLI} (hc:c < n) (hv:v.length=K) (hb:∀ k,k < K→ -D≤v[k]! ∧v[k]! ≤D) (hD:B≤D):Shape n K D (b.set c v):=by
  refine ⟨by simp [h.1],fun p hp=>?_⟩
  rw [getset (by rw [h.1];exact hc)]
  by_cases e:p=c
  · rw [if_pos e];exact ⟨hv,hb⟩
  · rw [if_neg e]
    refine ⟨(h.2 p hp).1,fun k hk=>?_⟩
    have:=(h.2 p hp).2 k hk
    omega
theorem Shape.plus {n K:Nat} {B D:Int} {b:yLL} (h:Shape n K B b) {c:Nat} {m:yLI} {t:Int} (hc:c < n) (ht:∀ k,k < K→ -D≤t * m[k]! ∧t * m[k]! ≤D) (hD:0≤D):
    Shape n K (B+D) (b.set c (jH (b[c]!) m t)):=by
  have h1:=h.2 c hc
  refine h.set hc (by rw [plusL_len];exact h1.1) (fun k hk=>?_) qf
  rw [plus_get (by rw [h1.1];exact hk)]
  have:=h1.2 k hk
  have:=ht k hk
  omega
theorem Shape.row {n K:Nat} {B:Int} {b:yLL} (h:Shape n K B b) (hB:B≤1000000000000000) (hK:K≤8) {c:Nat} (hc:c < n):(b[c]!).length=K∧Mid (b[c]!):=by
  have h1:=h.2 c hc
  refine ⟨h1.1,by have:=h1.1;omega,fun k hk=>?_⟩
  have:=h1.2 k (by have:=h1.1;omega)
  omega
theorem Ent.add {n K:Nat} {f:Nat→Nat→Int} {B:Int} {b:yLL} (h:Ent n K f B b) {c:Nat} {m:yLI} {t:Int} {D:Int} {b' :yLL} (e:b' =b.set c (jH (b[c]!) m t)) (hc:c < n) (ht:∀ k,k < K→ -D≤t * m[k]! ∧t * m[k]! ≤D) (hD:0≤D):
    Ent n K (fun p k=>f p k+at' p c (t * m[k]!)) (B+D) b' :=by
  subst e
  refine ⟨h.sh.plus hc ht hD,fun p k hp hk=>?_⟩
  rw [getset (by rw [h.sh.1];exact hc)]
  unfold at'
  by_cases e:p=c
  · subst e
    rw [if_pos rfl,if_pos rfl,plus_get (by rw [(h.sh.2 p hp).1];exact hk),h.eq p k hp hk]
  · rw [if_neg e,if_neg e,h.eq p k hp hk];omega
theorem Shape.mono {n K:Nat} {B D:Int} {b:yLL} (h:Shape n K B b) (hD:B≤D):Shape n K D b:=⟨h.1,fun p hp=>⟨(h.2 p hp).1,fun k hk=>by have:=(h.2 p hp).2 k hk;omega⟩⟩
theorem Ent.to {n K:Nat} {f g:Nat→Nat→Int} {B D:Int} {b:yLL} (h:Ent n K f B b) (e:∀ p k,f p k=g p k) (hD:B≤D):Ent n K g D b:=⟨h.sh.mono hD,fun p k hp hk=>(h.eq p k hp hk).trans (e p k)⟩
theorem Ent.same {n K:Nat} {f g:Nat→Nat→Int} {B D:Int} {b c:yLL} (h:Ent n K f B b) (h' :Ent n K g D c) (e:∀ p k,p < n→k < K→f p k=g p k):b=c:=by
  refine ext_get (by rw [h.sh.1,h'.sh.1]) fun p hp=>?_
  rw [h.sh.1] at hp
  refine ext_get (by rw [(h.sh.2 p hp).1,(h'.sh.2 p hp).1]) fun k hk=>?_
  rw [(h.sh.2 p hp).1] at hk
  rw [h.eq p k hp hk,h'.eq p k hp hk,e p k hp hk]
def tab2 (n K:Nat) (f:Nat→Nat→Int):yLL:=(List.range n).map fun p=>(List.range K).map (f p)
theorem tab2_len (n K:Nat) (f:Nat→Nat→Int):(tab2 n K f).length=n:=by simp [tab2]
theorem tab2_row {n K:Nat} {f:Nat→Nat→Int} {p:Nat} (hp:p < n):(tab2 n K f)[p]! =(List.range K).map (f p):=by
  rw [getElem!_pos (tab2 n K f) p (by rw [tab2_len];exact hp)];simp [tab2]
theorem Ent.tab {n K:Nat} {f:Nat→Nat→Int} {B:Int} {b:yLL} (h:Ent n K f B b):b=tab2 n K f:=by
  refine ext_get (by rw [h.sh.1,tab2_len]) fun p hp=>?_
  rw [h.sh.1] at hp
  rw [tab2_row hp]
  refine ext_get (by rw [(h.sh.2 p hp).1];simp) fun k hk=>?_
  rw [(h.sh.2 p hp).1] at hk
  rw [h.eq p k hp hk,getElem!_pos ((List.range K).map (f p)) k (by simpa using hk)];simp
theorem Ent.snoc {n K:Nat} {f:Nat→Nat→Int} {B:Int} {b:yLL} {a:yLI} (h:Ent n K f B b) (ha:a.length=K) (hb:∀ k,k < K→ -B≤a[k]! ∧a[k]! ≤B) (he:∀ k,k < K→a[k]! =f n k):Ent (n+1) K f B (b++[a]):=by
  have hl:(b++[a]).length=n+1:=by simp [h.sh.1]
  have h1:∀ p,p < n→(b++[a])[p]! =b[p]! :=fun p hp=>by
    rw [getElem!_pos (b++[a]) p qf,getElem!_pos b p (by rw [h.sh.1];exact hp),List.getElem_append_left]
  have h2:(b++[a])[n]! =a:=by
    rw [getElem!_pos (b++[a]) n qf,List.getElem_append_right (by rw [h.sh.1];exact Nat.le_refl _)];simp
  refine ⟨⟨hl,fun p hp=>?_⟩,fun p k hp hk=>?_⟩
  · by_cases e:p=n
    · subst e;rw [h2];exact ⟨ha,hb⟩
    · rw [h1 p qf];exact h.sh.2 p qf
  · by_cases e:p=n
    · subst e;rw [h2];exact he k hk
    · rw [h1 p qf];exact h.eq p k qf hk

def yL (s:qE):Nat:=s.xP.toNat
abbrev je (s:qE):Nat:=s.qA.length
def IntoUp (s:qE) (t:qF) (r:jw) (k:Nat):Prop:=∀ j,j < k→t.qG[(r.xh[j]!).qP.toNat]! =true∧xW s t (r.xh[j]!).qP=r.qP
theorem IntoUp.succ {s:qE} {t:qF} {r:jw} {k:Nat} (h:IntoUp s t r k) (h1:t.qG[(r.xh[k]!).qP.toNat]! =true) (h2:xW s t (r.xh[k]!).qP=r.qP):IntoUp s t r (k+1):=fun j hj=>by
  by_cases e:j=k
  · subst e;exact ⟨h1,h2⟩
  · exact h j qf
def EnOk (s:qE) (t:qF) (r:jw):Prop:=
  t.qG[r.qP.toNat]! =true∧within r.zB (t.qN[r.qP.toNat]!)=true∧within r.vJ (t.qN[r.qP.toNat]!)=true∧¬ (0 < QM r.vP∧within r.vP (t.qN[r.qP.toNat]!)=true)∧IntoUp s t r r.xh.length
open Classical in
noncomputable def bestOf (s:qE) (t:qF) (z:Int) (c:Nat):Nat→Int
  | 0=>z
  | k+1=>if EnOk s t (s.qB[k]!)∧(s.qB[k]!).qP.toNat=c then max (bestOf s t z c k) (s.qB[k]!).jI else bestOf s t z c k
noncomputable def bests (s:qE) (t:qF) (z:Int) (n k:Nat):yLI:=tabTo (fun c=>bestOf s t z c k) n
theorem Xe (s:qE) (t:qF) (z:Int) (n k:Nat):(bests s t z n k).length=n:=tabTo_len _ _
theorem tab_get {g:Nat→Int} {n c:Nat} (h:c < n):(tabTo g n)[c]! =g c:=by
  rw [getElem!_pos (tabTo g n) c (by rw [tabTo_len];exact h)];simp [tabTo]
theorem bests_zero (s:qE) (t:qF) (z:Int) (n:Nat):List.replicate n z=bests s t z n 0:=by
  refine ext_get (by simp [Xe]) fun k hk=>?_
  rw [List.length_replicate] at hk
  rw [bests,tab_get hk,getElem!_pos (List.replicate n z) k (by simpa using hk)];simp [bestOf]
theorem bests_get {s:qE} {t:qF} {z:Int} {n k c:Nat} (h:c < n):(bests s t z n k)[c]! =bestOf s t z c k:=tab_get h
theorem bests_set {s:qE} {t:qF} {z:Int} {n k:Nat} (h:EnOk s t (s.qB[k]!)) (hc:(s.qB[k]!).qP.toNat < n):
    (bests s t z n k).set (s.qB[k]!).qP.toNat (max ((bests s t z n k)[(s.qB[k]!).qP.toNat]!) (s.qB[k]!).jI)=bests s t z n (k+1):=by
  refine ext_get (by simp [Xe]) fun p hp=>?_
  rw [List.length_set,Xe] at hp
  rw [getset (by rw [Xe];exact hc),bests_get hc,bests_get hp,bests_get hp,bestOf]
  by_cases e:p=(s.qB[k]!).qP.toNat
  · rw [if_pos e,if_pos ⟨h,e.symm⟩,e]
  · rw [if_neg e,if_neg fun x=>e x.2.symm]
theorem bests_skip {s:qE} {t:qF} {z:Int} {n k:Nat} (h:¬ EnOk s t (s.qB[k]!)):bests s t z n k=bests s t z n (k+1):=by
  refine ext_get (by simp [Xe]) fun p hp=>?_
  rw [Xe] at hp
  rw [bests_get hp,bests_get hp,bestOf,if_neg fun x=>h x.1]
def Appl (s:qE) (t:qF) (i:Nat):Prop:=
  EnOk s t (s.qB[i]!)∧∀ j,j < s.qB.length→EnOk s t (s.qB[j]!)→(s.qB[j]!).qP.toNat=(s.qB[i]!).qP.toNat→(s.qB[j]!).jI≤(s.qB[i]!).jI
theorem best_ge {s:qE} {t:qF} {z:Int} {c:Nat}:∀ {k j:Nat},j < k→EnOk s t (s.qB[j]!)→(s.qB[j]!).qP.toNat=c→(s.qB[j]!).jI≤bestOf s t z c k
  | k+1,j,h,h1,h2=>by
    rw [bestOf]
    by_cases e:j=k
    · subst e;rw [if_pos ⟨h1,h2⟩];omega
    · have:=best_ge (z:=z) (show j < k by omega) h1 h2
      split <;> omega
theorem best_le {s:qE} {t:qF} {z:Int} {c:Nat} {x:Int} (hz:z≤x):∀ {k:Nat},(∀ j,j < k→EnOk s t (s.qB[j]!)→(s.qB[j]!).qP.toNat=c→(s.qB[j]!).jI≤x)→bestOf s t z c k≤x
  | 0,_=>hz
  | k+1,h=>by
    rw [bestOf]
    have h1:=best_le hz (k:=k) fun j hj=>h j qf
    split
    · next h2=>have:=h k qf h2.1 h2.2;omega
    · exact h1
theorem appl_iff {s:qE} {t:qF} {z:Int} {i:Nat} (hi:i < s.qB.length) (hz:z≤(s.qB[i]!).jI):
    Appl s t i↔EnOk s t (s.qB[i]!)∧(s.qB[i]!).jI=bestOf s t z (s.qB[i]!).qP.toNat s.qB.length:=by
  constructor
  · rintro ⟨h1,h2⟩
    refine ⟨h1,?_⟩
    have h3:=best_ge (z:=z) hi h1 rfl
    have h4:=best_le (c:=(s.qB[i]!).qP.toNat) hz (k:=s.qB.length) h2
    omega
  · rintro ⟨h1,h2⟩
    exact ⟨h1,fun j hj h3 h4=>by rw [h2];exact best_ge hj h3 h4⟩
noncomputable def applB (s:qE) (t:qF) (k m:Nat):List Bool:=(List.range m).map fun j=>if j < k then dec (Appl s t j) else dec (EnOk s t (s.qB[j]!))
theorem applB_len (s:qE) (t:qF) (k m:Nat):(applB s t k m).length=m:=by simp [applB]
theorem applB_get {s:qE} {t:qF} {k m j:Nat} (h:j < m):(applB s t k m)[j]! =if j < k then dec (Appl s t j) else dec (EnOk s t (s.qB[j]!)):=by
  rw [getElem!_pos (applB s t k m) j (by rw [applB_len];exact h)];simp [applB]
theorem applB_snoc (s:qE) (t:qF) (m:Nat):applB s t 0 m++[dec (EnOk s t (s.qB[m]!))]=applB s t 0 (m+1):=by simp [applB,List.range_succ]
theorem applB_set {s:qE} {t:qF} {k m:Nat} {x:Bool} (hk:k < m) (hx:x=dec (Appl s t k)):(applB s t k m).set k x=applB s t (k+1) m:=by
  refine ext_get (by simp [applB_len]) fun p hp=>?_
  rw [List.length_set,applB_len] at hp
  rw [getset (by rw [applB_len];exact hk),applB_get hp,applB_get hp]
  by_cases e:p=k
  · subst e;rw [if_pos rfl,if_pos qf,hx]
  · rw [if_neg e]
    by_cases e1:p < k
    · rw [if_pos e1,if_pos qf]
    · rw [if_neg e1,if_neg qf]
theorem applB_step0 {s:qE} {t:qF} {k m:Nat} (hk:k < m) (h:(applB s t k m)[k]! =false):false=dec (Appl s t k):=by
  rw [applB_get hk,if_neg qf] at h
  exact (xk fun x=>zT h x.1).symm
theorem applB_step1 {s:qE} {t:qF} {k m n i:Nat} {z:Int} (hk:k < m) (h:(applB s t k m)[k]! =true) (hm:m=s.qB.length) (hc:(s.qB[k]!).qP.toNat < n) (hz:z≤(s.qB[k]!).jI) (hi:i=s.qB.length):
    ((s.qB[k]!).jI == (bests s t z n i)[(s.qB[k]!).qP.toNat]!)=dec (Appl s t k):=by
  rw [applB_get hk,if_neg qf] at h
  refine dec_eq ?_
  rw [beq_iff_eq,bests_get hc,hi,appl_iff qf hz]
  exact ⟨fun e=>⟨yX h,e⟩,fun e=>e.2⟩
noncomputable def appl (s:qE) (t:qF):List Bool:=applB s t s.qB.length s.qB.length
theorem appl_len (s:qE) (t:qF):(appl s t).length=s.qB.length:=applB_len _ _ _ _
theorem appl_get {s:qE} {t:qF} {j:Nat} (h:j < s.qB.length):(appl s t)[j]! =dec (Appl s t j):=by rw [appl,applB_get h,if_pos h]
theorem Qu {s:qE} {t:qF} {j:Nat} (h:j < s.qB.length) (h1:(appl s t)[j]! =true):Appl s t j:=yX (appl_get (s:=s) (t:=t) h▸h1)
theorem yZ {s:qE} {t:qF} {j:Nat} (h:j < s.qB.length) (h1:(appl s t)[j]! =false):¬ Appl s t j:=zT (appl_get (s:=s) (t:=t) h▸h1)
def HaltTo (s:qE) (t:qF) (k:Nat):Prop:=∀ j,j < k→¬ Appl s t j
theorem HaltTo.succ {s:qE} {t:qF} {k:Nat} (h:HaltTo s t k) (h1:¬ Appl s t k):HaltTo s t (k+1):=fun j hj=>by
  by_cases e:j=k
  · subst e;exact h1
  · exact h j qf
abbrev Halted (s:qE) (t:qF):Prop:=HaltTo s t s.qB.length
noncomputable def applL (s:qE) (t:qF) (k:Nat):yLI:=((List.range k).filter fun j=>dec (Appl s t j)).map Int.ofNat
theorem applL_yes {s:qE} {t:qF} {k:Nat} (h:Appl s t k):applL s t k++[(k:Int)]=applL s t (k+1):=by simp [applL,List.range_succ,List.filter_append,jY h]
theorem applL_no {s:qE} {t:qF} {k:Nat} (h:¬ Appl s t k):applL s t k=applL s t (k+1):=by simp [applL,List.range_succ,List.filter_append,xk h]
noncomputable def appls (s:qE) (t:qF):yLI:=applL s t s.qB.length
theorem applL_le (s:qE) (t:qF) (k:Nat):(applL s t k).length≤k:=by
  have:=List.length_filter_le (fun j=>dec (Appl s t j)) (List.range k)
  simpa [applL] using this
theorem mem_applL {s:qE} {t:qF} {k:Nat} {x:Int}:x∈applL s t k↔0≤x∧x.toNat < k∧Appl s t x.toNat:=by
  simp only [applL,List.mem_map,List.mem_filter,List.mem_range]
  constructor
  · rintro ⟨j,⟨h1,h2⟩,rfl⟩
    exact ⟨Int.natCast_nonneg j,h1,yX h2⟩
  · rintro ⟨h0,h1,h2⟩
    exact ⟨x.toNat,⟨h1,jY h2⟩,by show ((x.toNat:Nat):Int)=x;omega⟩
theorem vK.rule {s:qE} (h:vK s) {i:Nat} (hi:i < s.qB.length):RuleOk s (s.qB[i]!):=(h.2.2 i hi).1
theorem RuleOk.cell {s:qE} {r:jw} (h:RuleOk s r):r.qP.toNat < je s:=by have:=h.1.1;have:=h.1.2;unfold je;omega
theorem vw.len {s:qE} {l:yLI} (h:vw s.xP l):l.length=yL s:=by have:=h.2;unfold yL;omega
theorem vw.get {n:Int} {l:yLI} (h:vw n l) {k:Nat} (hk:k < l.length):0≤l[k]! ∧l[k]! ≤1000:=h.1.1 k hk
theorem vw.mul {s:qE} {m:yLI} (h:vw s.xP m) {t:Int} (ht: -1000≤t∧t≤1000):∀ k,k < yL s→ -1000000≤t * m[k]! ∧t * m[k]! ≤1000000:=fun k hk=>by
  have h1:=h.1.1 k (by rw [h.len];exact hk)
  rcases Int.le_total 0 t with h0 | h0
  · have h2:=Int.mul_nonneg h0 h1.1
    have h3:=Int.mul_le_mul_of_nonneg_left h1.2 h0
    omega
  · have h2:=Int.mul_nonneg (show 0≤ -t by omega) h1.1
    have h3:=Int.mul_le_mul_of_nonneg_left h1.2 (show 0≤ -t by omega)
    have h4: -t * m[k]! = -(t * m[k]!):=Int.neg_mul ..
    omega
theorem vw.yx {s:qE} {m:yLI} (h:vw s.xP m) {t:Int} (ht: -1000≤t∧t≤1000):SmallT m t:=bagOk_smallT h qf
theorem kinds_le {s:qE} (h:vK s):yL s≤8:=by have:=h.1.1.2;unfold yL;omega
theorem xX.shape {s:qE} {t:qF} (h:xX s t):Shape (je s) (yL s) 1000 t.qN:=by
  refine ⟨h.2.1,fun p hp=>?_⟩
  have hb:=h.bagLen (k:=p) (by rw [h.2.1];exact hp)
  refine ⟨hb.len,fun k hk=>?_⟩
  have:=hb.get (k:=k) (by rw [hb.len];exact hk)
  omega
def CntOk (s:qE) (counts:yLI):Prop:=counts.length=s.qB.length∧∀ i,i < counts.length→0≤counts[i]! ∧counts[i]! ≤1000
theorem CntOk.bd {s:qE} {counts:yLI} (h:CntOk s counts) {i:Nat} (hi:i < s.qB.length):0≤counts[i]! ∧counts[i]! ≤1000:=h.2 i (by rw [h.1];exact hi)

def jG (s:qE) (t:qF) (counts:yLI):Nat→yLL
  | 0=>t.qN
  | k+1=>(jG s t counts k).set (s.qB[k]!).qP.toNat (jH ((jG s t counts k)[(s.qB[k]!).qP.toNat]!) (s.qB[k]!).zB (-(counts[k]!)))
def needF (s:qE) (counts:yLI) (i p k:Nat):Int:=at' p (s.qB[i]!).qP.toNat (-(counts[i]!) * ((s.qB[i]!).zB)[k]!)
def needS (s:qE) (counts:yLI):Nat→Nat→Nat→Int
  | 0,_,_=>0
  | i+1,p,k=>needS s counts i p k+needF s counts i p k
theorem restR_ent {s:qE} {t:qF} {counts:yLI} (hs:vK s) (ht:xX s t) (hc:CntOk s counts):∀ k,k≤s.qB.length→
    Ent (je s) (yL s) (fun p q=>(t.qN[p]!)[q]! +needS s counts k p q) (1000+1000000 * k) (jG s t counts k)
  | 0,_=>⟨by simpa [jG] using ht.shape,fun p k hp hk=>by simp [jG,needS]⟩
  | k+1,h=>by
    have hr:=hs.rule (i:=k) qf
    have hcb:=hc.bd (i:=k) qf
    refine ((restR_ent hs ht hc k qf).add (D:=1000000) rfl hr.cell (hr.2.2.2.2.1.mul qf) qf).to (fun p q=>?_) qf
    show _=_+(needS s counts k p q+needF s counts k p q)
    unfold needF;omega
theorem restR_row {s:qE} {t:qF} {counts:yLI} (hs:vK s) (ht:xX s t) (hc:CntOk s counts) {k c:Nat} (hk:k≤s.qB.length) (h:c < je s):
    ((jG s t counts k)[c]!).length=yL s∧Mid ((jG s t counts k)[c]!):=(restR_ent hs ht hc k hk).sh.row (by have:=hs.2.1;omega) (kinds_le hs) h
theorem restR_len {s:qE} {t:qF} {counts:yLI}:∀ k,(jG s t counts k).length=t.qN.length
  | 0=>rfl
  | k+1=>by rw [jG,List.length_set];exact restR_len k
theorem restR_skip {s:qE} {t:qF} {counts:yLI} (hs:vK s) (ht:xX s t) {k:Nat} (hk:k < s.qB.length) (h:counts[k]! =0):jG s t counts (k+1)=jG s t counts k:=by
  rw [jG,plus_zero qf]
  exact set_self (by rw [restR_len,ht.2.1];exact (hs.rule hk).cell) rfl
open Classical in
noncomputable def Xl (P:Nat→Prop):Nat→Nat
  | 0=>0
  | n+1=>if Xl P n < n then Xl P n else if P n then n else n+1
theorem stop_none {P:Nat→Prop}:∀ {n:Nat},(∀ j,j < n→¬ P j)→Xl P n=n
  | 0,_=>rfl
  | n+1,h=>by rw [Xl,stop_none (n:=n) (fun j hj=>h j qf),if_neg qf,if_neg (h n qf)]
theorem stop_first {P:Nat→Prop}:∀ {n k:Nat},(∀ j,j < k→¬ P j)→k < n→P k→Xl P n=k
  | n+1,k,h,hk,hp=>by
    rw [Xl]
    by_cases e:k=n
    · subst e;rw [stop_none h,if_neg qf,if_pos hp]
    · rw [stop_first (n:=n) h qf hp,if_pos qf]
def BadAt (s:qE) (t:qF) (counts:yLI) (i:Nat):Prop:=0 < counts[i]! ∧¬ Appl s t i
def GoodTo (s:qE) (t:qF) (counts:yLI) (k:Nat):Prop:=∀ i,i < k→¬ BadAt s t counts i
theorem GoodTo.succ {s:qE} {t:qF} {counts:yLI} {k:Nat} (h:GoodTo s t counts k) (h1:¬ BadAt s t counts k):GoodTo s t counts (k+1):=fun j hj=>by
  by_cases e:j=k
  · subst e;exact h1
  · exact h j qf
def NonNeg (b:yLL) (n:Nat):Prop:=∀ p,p < n→∀ k,k < (b[p]!).length→0≤(b[p]!)[k]!
theorem NonNeg.succ {b:yLL} {n:Nat} (h:NonNeg b n) (h1:∀ k,k < (b[n]!).length→0≤(b[n]!)[k]!):NonNeg b (n+1):=fun j hj=>by
  by_cases e:j=n
  · subst e;exact h1
  · exact h j qf
def IsCh (s:qE) (t:qF) (counts:yLI):Prop:=GoodTo s t counts counts.length∧NonNeg (jG s t counts counts.length) t.qN.length
def IsMost (s:qE) (t:qF) (counts:yLI):Prop:=IsCh s t counts∧∀ i,i < s.qB.length→Appl s t i→within (s.qB[i]!).zB ((jG s t counts counts.length)[(s.qB[i]!).qP.toNat]!)=false

def Qh (l m:yLI):Nat→Int
  | 0=>1000
  | k+1=>if 0 < l[k]! then min (Qh l m k) (m[k]! / l[k]!) else Qh l m k
def jA (l m:yLI):Int:=Qh l m l.length
theorem timesTo_pos {l m:yLI} {k:Nat} (h:0 < l[k]!):Qh l m (k+1)=min (Qh l m k) (m[k]! / l[k]!):=by rw [Qh,if_pos h]
theorem timesTo_skip {l m:yLI} {k:Nat} (h:¬ 0 < l[k]!):Qh l m (k+1)=Qh l m k:=by rw [Qh,if_neg h]
theorem timesTo_bd {l m:yLI} (hm:∀ k,k < l.length→0≤m[k]!):∀ k,k≤l.length→0≤Qh l m k∧Qh l m k≤1000
  | 0,_=>by simp [Qh]
  | k+1,h=>by
    have:=timesTo_bd hm k qf
    rw [Qh]
    split
    · next h1=>have:=Int.ediv_nonneg (hm k qf) (show 0≤l[k]! by omega);omega
    · exact this
theorem timesTo_le {l m:yLI}:∀ {k j:Nat},j < k→0 < l[j]! →Qh l m k≤m[j]! / l[j]!
  | k+1,j,h,h1=>by
    rw [Qh]
    by_cases e:j=k
    · subst e;rw [if_pos h1];omega
    · have:=timesTo_le (m:=m) (show j < k by omega) h1
      split <;> omega
theorem timesL_left {l m:yLI} (hl:∀ k,k < l.length→0≤l[k]!) (hm:∀ k,k < l.length→0≤m[k]!) {k:Nat} (hk:k < l.length):0≤m[k]! + -(jA l m) * l[k]! :=by
  have h0:=timesTo_bd hm l.length (Nat.le_refl _)
  rcases Int.lt_or_eq_of_le (hl k hk) with h | h
  · have h1:=timesTo_le (m:=m) hk h
    have h2:m[k]! / l[k]! * l[k]! ≤m[k]! :=Int.ediv_mul_le _ qf
    have h3:=Int.mul_le_mul_of_nonneg_right h1 (show 0≤l[k]! by omega)
    have h4: -(jA l m) * l[k]! = -(jA l m * l[k]!):=Int.neg_mul ..
    unfold jA at *
    omega
  · rw [← h];have:=hm k hk;omega
def QS (l m:yLI) (i:Nat) (best:Int):Prop:=(best=Qh l m i∧∃ j,j < i∧0 < l[j]!)∨(best= -1∧Qh l m i=1000∧∀ j,j < i→l[j]! ≤0)
theorem QS.zero (l m:yLI):QS l m 0 (-1):=.inr ⟨rfl,rfl,fun j hj=>by omega⟩
theorem QS.take {l m:yLI} {i:Nat} {best:Int} (h:QS l m i best) (hm:0≤m[i]! ∧m[i]! ≤1000) (hl:0 < l[i]!) (hb:best < 0∨m[i]! / l[i]! < best) (hn:0≤Qh l m i):QS l m (i+1) (m[i]! / l[i]!):=by
  refine .inl ⟨?_,i,by omega,hl⟩
  rw [timesTo_pos hl]
  have h1:m[i]! / l[i]! ≤m[i]! :=Int.ediv_le_self _ hm.1
  rcases h with ⟨h,_⟩ | ⟨h,h2,_⟩ <;> omega
theorem QS.keep {l m:yLI} {i:Nat} {best:Int} (h:QS l m i best) (hl:¬ 0 < l[i]!):QS l m (i+1) best:=by
  unfold QS
  rw [timesTo_skip hl]
  rcases h with ⟨h,j,h1,h2⟩ | ⟨h,h2,h3⟩
  · exact .inl ⟨h,j,by omega,h2⟩
  · refine .inr ⟨h,h2,fun j hj=>?_⟩
    by_cases e:j=i
    · subst e;omega
    · exact h3 j qf
theorem QS.keep2 {l m:yLI} {i:Nat} {best:Int} (h:QS l m i best) (hl:0 < l[i]!) (hb:¬ best < 0) (hn:¬ m[i]! / l[i]! < best):QS l m (i+1) best:=by
  refine .inl ⟨?_,i,by omega,hl⟩
  rw [timesTo_pos hl]
  rcases h with ⟨h,_⟩ | ⟨h,_⟩ <;> omega
theorem QS.done {l m:yLI} {i:Nat} {best:Int} (h:QS l m i best) (hp:∃ j,j < i∧0 < l[j]!):best=Qh l m i:=by
  rcases h with ⟨h,_⟩ | ⟨_,_,h3⟩
  · exact h
  · obtain ⟨j,h1,h2⟩:=hp
    have:=h3 j h1;omega
theorem sum_pos {l:yLI} (h:BagAny l) (h1:QM l≠0):∃ j,j < l.length∧0 < l[j]! :=by
  apply Classical.byContradiction
  intro hn
  have h0:∀ k,k≤l.length→sumTo l k=0:=by
    intro k
    induction k with
    | zero=>intro _;rfl
    | succ k ih=>
      intro hk
      have h2:=h.1 k qf
      have h3:¬ 0 < l[k]! :=fun h4=>hn ⟨k,by omega,h4⟩
      rw [sumTo,ih qf];omega
  exact h1 (h0 _ (Nat.le_refl _))
def Box (n K:Nat) (b:yLL):Prop:=b.length=n∧∀ p,p < n→(b[p]!).length=K∧∀ k,k < K→0≤(b[p]!)[k]! ∧(b[p]!)[k]! ≤1000
theorem xX.box {s:qE} {t:qF} (h:xX s t):Box (je s) (yL s) t.qN:=by
  refine ⟨h.2.1,fun p hp=>?_⟩
  have hb:=h.bagLen (k:=p) (by rw [h.2.1];exact hp)
  exact ⟨hb.len,fun k hk=>hb.get (by rw [hb.len];exact hk)⟩
theorem parentNow_root {s:qE} {t:qF} (hs:jL s):xW s t 0= -1:=by
  unfold xW
  rw [show s.qA[(0:Int).toNat]! = -1 from hs.2.2.1]
  exact climb_end fun h=>by omega
def outPl (s:qE) (t:qF) (r:jw):Nat:=if r.qP=0 then je s else (xW s t r.qP).toNat
theorem outPl_root {s:qE} {t:qF} {r:jw} (h:r.qP=0):outPl s t r=je s:=by rw [outPl,if_pos h]
theorem outPl_up {s:qE} {t:qF} {r:jw} (h:r.qP≠0):outPl s t r=(xW s t r.qP).toNat:=by rw [outPl,if_neg h]
def intoF (r:jw) (c:Int):Nat→Nat→Nat→Int
  | 0,_,_=>0
  | j+1,p,k=>intoF r c j p k+at' p (r.xh[j]!).qP.toNat (c * ((r.xh[j]!).QG)[k]!)
def putF (s:qE) (t:qF) (r:jw) (c:Int) (p k:Nat):Int:=at' p r.qP.toNat (c * r.vT[k]!)+at' p (outPl s t r) (c * r.yP[k]!)+intoF r c r.xh.length p k
def putS (s:qE) (t:qF) (counts:yLI):Nat→Nat→Nat→Int
  | 0,_,_=>0
  | i+1,p,k=>putS s t counts i p k+putF s t (s.qB[i]!) (counts[i]!) p k
def allS (s:qE) (t:qF) (counts:yLI):Nat→Nat→Nat→Int
  | 0,_,_=>0
  | i+1,p,k=>allS s t counts i p k+needF s counts i p k+putF s t (s.qB[i]!) (counts[i]!) p k
theorem allS_eq (s:qE) (t:qF) (counts:yLI) (p k:Nat):∀ i,allS s t counts i p k=needS s counts i p k+putS s t counts i p k
  | 0=>rfl
  | i+1=>by
    have:=allS_eq s t counts p k i
    simp only [allS,needS,putS]
    omega
theorem at_zero (p c:Nat) (x:Int):at' p c (0 * x)=0:=by unfold at';split <;> simp
theorem intoF_zero (r:jw) (p k:Nat):∀ j,intoF r 0 j p k=0
  | 0=>rfl
  | j+1=>by rw [intoF,intoF_zero r p k j,at_zero];rfl
theorem putF_zero (s:qE) (t:qF) (r:jw) {c:Int} (h:c=0) (p k:Nat):putF s t r c p k=0:=by
  subst h;rw [putF,at_zero,at_zero,intoF_zero];rfl
theorem putS_skip {s:qE} {t:qF} {counts:yLI} {i:Nat} (h:counts[i]! =0) (p k:Nat):putS s t counts (i+1) p k=putS s t counts i p k:=by
  rw [putS,putF_zero s t _ h];omega
def base0 (s:qE) (t:qF) (p k:Nat):Int:=if p < je s then (t.qN[p]!)[k]! else t.qH[k]!
def stepF (s:qE) (t:qF) (counts:yLI) (p k:Nat):Int:=base0 s t p k+allS s t counts s.qB.length p k
noncomputable def xN (s:qE) (t:qF) (counts:yLI):qF:=
  ⟨t.qG,(tab2 (je s+1) (yL s) (stepF s t counts)).take (je s),(tab2 (je s+1) (yL s) (stepF s t counts))[je s]!⟩
theorem xX.around {s:qE} {t:qF} (h:xX s t):t.qH.length=yL s∧∀ k,k < yL s→0≤t.qH[k]! ∧t.qH[k]! ≤1000:=by
  have hb:=h.2.2.2.1
  exact ⟨hb.len,fun k hk=>hb.get (by rw [hb.len];exact hk)⟩
theorem start_ent {s:qE} {t:qF} {counts:yLI} (ht:xX s t):Ent (je s+1) (yL s) (fun p k=>base0 s t p k+allS s t counts 0 p k) 1000 (t.qN++[t.qH]):=by
  have h1:Ent (je s) (yL s) (fun p k=>base0 s t p k+allS s t counts 0 p k) 1000 t.qN:=⟨ht.shape,fun p k hp hk=>by simp [base0,hp,allS]⟩
  refine h1.snoc ht.around.1 (fun k hk=>by have:=ht.around.2 k hk;omega) fun k hk=>?_
  simp [base0,allS]
theorem rest_ent {s:qE} {t:qF} {counts:yLI} (hs:vK s) (ht:xX s t) (hc:CntOk s counts):
    Ent (je s+1) (yL s) (fun p k=>base0 s t p k+needS s counts s.qB.length p k+putS s t counts 0 p k) (1000+1000000 * s.qB.length) (jG s t counts s.qB.length++[t.qH]):=by
  have h1:Ent (je s) (yL s) (fun p k=>base0 s t p k+needS s counts s.qB.length p k+putS s t counts 0 p k) (1000+1000000 * s.qB.length) (jG s t counts s.qB.length):=by
    have h0:=restR_ent hs ht hc _ (Nat.le_refl _)
    exact ⟨h0.sh,fun p k hp hk=>by rw [h0.eq p k hp hk];simp [base0,hp,putS]⟩
  refine h1.snoc ht.around.1 (fun k hk=>by have:=ht.around.2 k hk;omega) fun k hk=>?_
  have h2:∀ i,i≤s.qB.length→needS s counts i (je s) k=0:=by
    intro i
    induction i with
    | zero=>intro _;rfl
    | succ i ih=>
      intro hi
      have:=(hs.rule (i:=i) qf).cell
      rw [needS,ih qf,needF,at',if_neg qf];rfl
  rw [h2 _ (Nat.le_refl _)]
  simp [base0,putS]
theorem step_tab {s:qE} {t:qF} {counts:yLI} {B:Int} {b:yLL} (h:Ent (je s+1) (yL s) (fun p k=>base0 s t p k+allS s t counts s.qB.length p k) B b):
    b.take (je s)=(xN s t counts).qN∧b[je s]! =(xN s t counts).qH:=by
  have e:=h.tab
  constructor
  · show _=(tab2 _ _ _).take _
    rw [e];rfl
  · show _=(tab2 _ _ _)[_]!
    rw [e];rfl
theorem step_tab2 {s:qE} {t:qF} {counts:yLI} {B:Int} {b:yLL} {a:yLI} (hb:b.length=je s) (h:Ent (je s+1) (yL s) (fun p k=>base0 s t p k+needS s counts s.qB.length p k+putS s t counts s.qB.length p k) B (b++[a])):
    b=(xN s t counts).qN∧a=(xN s t counts).qH:=by
  have h1:=step_tab (h.to (g:=fun p k=>base0 s t p k+allS s t counts s.qB.length p k) (fun p k=>by rw [allS_eq];omega) (Int.le_refl _))
  rw [← hb,List.take_left] at h1
  refine ⟨h1.1,?_⟩
  rw [← h1.2,getElem!_pos (b++[a]) b.length qm,List.getElem_append_right (Nat.le_refl _)];simp
theorem cat_set {b:yLL} {a v:yLI} {c:Nat} (hc:c < b.length):(b++[a]).set c v=b.set c v++[a]:=List.set_append_left c v hc
theorem cat_setN {b:yLL} {a v:yLI} {n:Nat} (h:b.length=n):(b++[a]).set n v=b++[v]:=by
  rw [List.set_append_right _ _ qf,h];simp
theorem cat_get {b:yLL} {a:yLI} {c:Nat} (hc:c < b.length):(b++[a])[c]! =b[c]! :=by
  rw [getElem!_pos (b++[a]) c qy,getElem!_pos b c hc,List.getElem_append_left hc]
theorem cat_getN {b:yLL} {a:yLI} {n:Nat} (h:b.length=n):(b++[a])[n]! =a:=by
  rw [getElem!_pos (b++[a]) n qy,List.getElem_append_right qf];simp [h]
theorem Ent.addL {n K:Nat} {f:Nat→Nat→Int} {B D:Int} {b:yLL} {a:yLI} (h:Ent (n+1) K f B (b++[a])) {c:Nat} {m:yLI} {t:Int} {b' :yLL} (e:b' =b.set c (jH (b[c]!) m t)) (hb:b.length=n) (hc:c < n) (ht:∀ k,k < K→ -D≤t * m[k]! ∧t * m[k]! ≤D) (hD:0≤D):
    Ent (n+1) K (fun p k=>f p k+at' p c (t * m[k]!)) (B+D) (b' ++[a]):=
  h.add (by rw [e,← cat_set qf,cat_get qf]) qf ht hD
theorem Ent.addN {n K:Nat} {f:Nat→Nat→Int} {B D:Int} {b:yLL} {a:yLI} (h:Ent (n+1) K f B (b++[a])) {m:yLI} {t:Int} {a' :yLI} (e:a' =jH a m t) (hb:b.length=n) (ht:∀ k,k < K→ -D≤t * m[k]! ∧t * m[k]! ≤D) (hD:0≤D):
    Ent (n+1) K (fun p k=>f p k+at' p n (t * m[k]!)) (B+D) (b++[a']):=
  h.add (by rw [e,cat_setN hb,cat_getN hb]) qf ht hD
theorem Ent.rowL {n K:Nat} {f:Nat→Nat→Int} {B:Int} {b:yLL} {a:yLI} (h:Ent (n+1) K f B (b++[a])) (hb:b.length=n) (hB:B≤1000000000000000) (hK:K≤8) {c:Nat} (hc:c < n):(b[c]!).length=K∧Mid (b[c]!):=by
  have:=h.sh.row hB hK (c:=c) qf
  rwa [cat_get qf] at this
theorem Ent.rowN {n K:Nat} {f:Nat→Nat→Int} {B:Int} {b:yLL} {a:yLI} (h:Ent (n+1) K f B (b++[a])) (hb:b.length=n) (hB:B≤1000000000000000) (hK:K≤8):a.length=K∧Mid a:=by
  have:=h.sh.row hB hK (c:=n) qf
  rwa [cat_getN hb] at this

def QK (s:qE) (counts:yLI) (c:Int) (k:Nat):Prop:=∃ i,i < k∧0 < counts[i]! ∧(s.qB[i]!).jB=true∧(s.qB[i]!).qP=c
theorem melts_zero (s:qE) (counts:yLI) (c:Int):¬ QK s counts c 0:=fun ⟨i,h,_⟩=>by omega
theorem melts_succ {s:qE} {counts:yLI} {c:Int} {k:Nat}:QK s counts c (k+1)↔QK s counts c k∨(0 < counts[k]! ∧(s.qB[k]!).jB=true∧(s.qB[k]!).qP=c):=by
  constructor
  · rintro ⟨i,h,h1⟩
    by_cases e:i=k
    · subst e;exact .inr h1
    · exact .inl ⟨i,by omega,h1⟩
  · rintro (⟨i,h,h1⟩ | h)
    · exact ⟨i,by omega,h1⟩
    · exact ⟨k,by omega,h⟩
theorem melts_1 {s:qE} {counts:yLI} {c:Int} {k:Nat} (h:dec (QK s counts c k)=true):true=dec (QK s counts c (k+1)):=(jY (melts_succ.2 (.inl (yX h)))).symm
theorem melts_2 {s:qE} {counts:yLI} {c:Int} {k:Nat} (h:dec (QK s counts c k)=false) (h1:¬ counts[k]! > 0):false=dec (QK s counts c (k+1)):=
  (xk fun x=>(melts_succ.1 x).elim (zT h) fun y=>h1 y.1).symm
theorem melts_3 {s:qE} {counts:yLI} {c:Int} {k:Nat} (h:dec (QK s counts c k)=false) (h1:(s.qB[k]!).jB=false):false=dec (QK s counts c (k+1)):=
  (xk fun x=>(melts_succ.1 x).elim (zT h) fun y=>ft y.2.1 h1).symm
theorem melts_4 {s:qE} {counts:yLI} {c:Int} {k:Nat} (h:dec (QK s counts c k)=false) (h1:counts[k]! > 0) (h2:(s.qB[k]!).jB=true):((s.qB[k]!).qP == c)=dec (QK s counts c (k+1)):=by
  refine dec_eq ?_
  rw [beq_iff_eq,melts_succ]
  exact ⟨fun e=>.inr ⟨h1,h2,e⟩,fun x=>x.elim (fun y=>absurd y (zT h)) fun y=>y.2.2⟩
abbrev Melts (s:qE) (counts:yLI) (c:Int):Prop:=QK s counts c s.qB.length
noncomputable def Ql (s:qE) (counts:yLI) (n k:Nat):List Bool:=(List.range n).map fun c:Nat=>dec (QK s counts (c:Int) k)
theorem meltsL_len (s:qE) (counts:yLI) (n k:Nat):(Ql s counts n k).length=n:=by simp [Ql]
theorem meltsL_get {s:qE} {counts:yLI} {n k c:Nat} (h:c < n):(Ql s counts n k)[c]! =dec (QK s counts (c:Int) k):=by
  rw [getElem!_pos (Ql s counts n k) c (by rw [meltsL_len];exact h)];simp [Ql]
theorem meltsL_zero (s:qE) (counts:yLI) (n:Nat):List.replicate n false=Ql s counts n 0:=by
  refine ext_get (by simp [meltsL_len]) fun k hk=>?_
  rw [List.length_replicate] at hk
  rw [meltsL_get hk,xk (melts_zero _ _ _),getElem!_pos (List.replicate n false) k (by simpa using hk)];simp
theorem meltsL_set {s:qE} {counts:yLI} {n k:Nat} (h0:0≤(s.qB[k]!).qP) (h:(s.qB[k]!).qP.toNat < n) {x:Bool} (hx:x=true↔((Ql s counts n k)[(s.qB[k]!).qP.toNat]! =true∨(0 < counts[k]! ∧(s.qB[k]!).jB=true))):
    (Ql s counts n k).set (s.qB[k]!).qP.toNat x=Ql s counts n (k+1):=by
  refine ext_get (by simp [meltsL_len]) fun p hp=>?_
  rw [List.length_set,meltsL_len] at hp
  rw [getset (by rw [meltsL_len];exact h),meltsL_get hp,meltsL_get hp]
  rw [meltsL_get h] at hx
  by_cases e:p=(s.qB[k]!).qP.toNat
  · rw [if_pos e]
    refine dec_eq (hx.trans ?_)
    rw [melts_succ,e,show (((s.qB[k]!).qP.toNat:Nat):Int)=(s.qB[k]!).qP by omega]
    constructor
    · rintro (h1 | h1)
      · exact .inl (yX h1)
      · exact .inr ⟨h1.1,h1.2,rfl⟩
    · rintro (h1 | h1)
      · exact .inl (jY h1)
      · exact .inr ⟨h1.1,h1.2.1⟩
  · rw [if_neg e]
    refine dec_congr ?_
    rw [melts_succ]
    constructor
    · exact .inl
    · rintro (h1 | ⟨_,_,h1⟩)
      · exact h1
      · exfalso;omega
open Classical in
noncomputable def xH (s:qE) (counts:yLI) (u:qF):Nat→qF
  | 0=>u
  | j+1=>if Melts s counts ((je s:Int) - 1 - j) then melted s (xH s counts u j) ((je s:Int) - 1 - j) else xH s counts u j
theorem meltDown_yes {s:qE} {counts:yLI} {u:qF} {j:Nat} {c:Int} (h:Melts s counts c) (hc:c=(je s:Int) - 1 - j):xH s counts u (j+1)=melted s (xH s counts u j) c:=by subst hc;rw [xH,if_pos h]
theorem meltDown_no {s:qE} {counts:yLI} {u:qF} {j:Nat} {c:Int} (h:¬ Melts s counts c) (hc:c=(je s:Int) - 1 - j):xH s counts u (j+1)=xH s counts u j:=by subst hc;rw [xH,if_neg h]
theorem Qm {s:qE} {counts:yLI} {u:qF} {j i:Nat} {c:Int} (h:dec (QK s counts c i)=true) (hi:i=s.qB.length) (hc:c=(je s:Int) - 1 - j):xH s counts u (j+1)=melted s (xH s counts u j) c:=by subst hi;exact meltDown_yes (yX h) hc
theorem meltDown_no' {s:qE} {counts:yLI} {u:qF} {j i:Nat} {c:Int} (h:dec (QK s counts c i)=false) (hi:i=s.qB.length) (hc:c=(je s:Int) - 1 - j):xH s counts u (j+1)=xH s counts u j:=by subst hi;exact meltDown_no (zT h) hc
theorem y8 (s:qE) (counts:yLI) (u:qF):∀ j,(xH s counts u j).qH=u.qH
  | 0=>rfl
  | j+1=>by
    rw [xH]
    split
    · exact y8 s counts u j
    · exact y8 s counts u j
structure Live (s:qE) (B:Int) (u:qF):Prop where
  alive:u.qG.length=je s
  root:u.qG[0]! =true
  bags:Shape (je s) (yL s) B u.qN
  around:u.qH.length=yL s
theorem Live.melt {s:qE} {B:Int} {u:qF} (hs:vK s) (h:Live s B u) (hB:0≤B) {c:Int} (h0:0 < c) (h1:c≤(je s:Int) - 1):Live s (2 * B) (melted s u c):=by
  have hp:=Vq (t:=u) hs.1 h.root h0 h1
  have hpc:(xW s u c).toNat < je s:=by omega
  have hcc:c.toNat < je s:=by omega
  refine ⟨by simp [melted,h.alive],?_,?_,h.around⟩
  · show (u.qG.set c.toNat false)[0]! =true
    rw [getset (by rw [h.alive];exact hcc),if_neg qf];exact h.root
  · have hr:=(h.bags.2 _ hcc).2
    have hk:=(h.bags.2 _ hcc).1
    have h2:=h.bags.plus (m:=u.qN[c.toNat]!) (t:=1) (D:=B) hpc (fun k hk=>by have:=hr k hk;omega) hB
    refine (h2.set (D:=B+B) hcc (by simp [yL]) (fun k hk=>?_) qf).mono qf
    rw [getElem!_pos (List.replicate s.xP.toNat (0:Int)) k (by simpa [yL] using hk)]
    simp;omega
def bnd:Nat→Int
  | 0=>200000000
  | j+1=>2 * bnd j
theorem bnd_pos:∀ j,0≤bnd j
  | 0=>by simp [bnd]
  | j+1=>by have:=bnd_pos j;simp only [bnd];omega
theorem bnd_mono:∀ {i j:Nat},i≤j→bnd i≤bnd j
  | i, 0, h => by obtain rfl : i = 0 := by omega
                  exact Int.le_refl _
  | i,j+1,h=>by
    by_cases e:i=j+1
    · subst e;exact Int.le_refl _
    · have:=bnd_mono (show i≤j by omega)
      have:=bnd_pos j
      simp only [bnd];omega
theorem bnd_le {j:Nat} (h:j≤6):bnd j≤12800000000:=Int.le_trans (bnd_mono h) (by simp [bnd])
theorem Live.mono {s:qE} {B D:Int} {u:qF} (h:Live s B u) (hD:B≤D):Live s D u:=⟨h.alive,h.root,h.bags.mono hD,h.around⟩
theorem stepped_live {s:qE} {t:qF} {counts:yLI} {B:Int} {b:yLL} (ht:xX s t) (h:Ent (je s+1) (yL s) (fun p k=>base0 s t p k+allS s t counts s.qB.length p k) B b) (hB:B≤200000000):Live s (bnd 0) (xN s t counts):=by
  have h1:=step_tab h
  have hr:=h.sh.2 (je s) qf
  refine ⟨ht.1,ht.2.2.1,?_,by rw [← h1.2];exact hr.1⟩
  rw [← h1.1]
  refine ⟨by rw [List.length_take,h.sh.1];omega,fun p hp=>?_⟩
  have e:(b.take (je s))[p]! =b[p]! :=by
    rw [getElem!_pos (b.take (je s)) p (by rw [List.length_take,h.sh.1];omega),getElem!_pos b p (by rw [h.sh.1];omega)];simp
  rw [e]
  have:=h.sh.2 p qf
  exact ⟨this.1,fun k hk=>by have:=this.2 k hk;simp only [bnd];omega⟩
theorem meltDown_live {s:qE} {counts:yLI} {u:qF} (hs:vK s) (h:Live s (bnd 0) u):∀ j,j+1≤je s→Live s (bnd j) (xH s counts u j)
  | 0,_=>h
  | j+1,hj=>by
    have ih:=meltDown_live (counts:=counts) hs h j qf
    by_cases hm:Melts s counts ((je s:Int) - 1 - j)
    · rw [meltDown_yes hm rfl];exact ih.melt hs (bnd_pos j) qf qf
    · rw [meltDown_no hm rfl];exact ih.mono (bnd_mono qf)
theorem Live.rows {s:qE} {B:Int} {u:qF} (hs:vK s) (h:Live s B u) (hB:B≤12800000000) {p c:Nat} (hp:p < je s) (hc:c < je s):
    (u.qN[p]!).length≤(u.qN[c]!).length∧Mid (u.qN[p]!)∧SmallT (u.qN[c]!) 1:=by
  have h1:=h.bags.row qf (kinds_le hs) hp
  have h2:=h.bags.row qf (kinds_le hs) hc
  refine ⟨by omega,h1.2,fun k hk=>?_⟩
  have:=h2.2.2 k hk
  omega
noncomputable def stepRes (s:qE) (t:qF) (counts:yLI):qF×Int:=told s (xH s counts (xN s t counts) (je s - 1))
open Classical in
noncomputable def zF (s:qE) (t:qF) (counts:yLI):qF×Int:=if IsCh s t counts then stepRes s t counts else (default,4)
theorem stepBy_yes {s:qE} {t:qF} {counts:yLI} (h:IsCh s t counts):zF s t counts=stepRes s t counts:=by rw [zF,if_pos h]
theorem stepBy_no {s:qE} {t:qF} {counts:yLI} (h:¬ IsCh s t counts):zF s t counts=(default,4):=by rw [zF,if_neg h]
end
section
open Go.Proofs.Tryz
open Go.RowKit
set_option linter.unusedVariables false
set_option linter.unusedSimpArgs false
set_option maxRecDepth 100000
set_option maxHeartbeats 4000000
variable {cl cm bs os qI qQ bt ot xf xA qR ccounts : Nat}
theorem l00Max_ok (w:World) (a:Int) (b:Int):Calls Tryz.prog 110 #[yI a,yI b] w (Ret (fun v w' =>v=yI (max a b)) w):=by
 refine en func110 ntmps110 ?_
 have H:=St.start w
 have N:=Fresh.nil w.heap.size
 refine zcr (sp (yI 0) (zjcc (sp (yI a) (sp (yI b) (sq 1 (zjn (cD rfl (fun h1=>?_) (fun h1=>?_))))))))
 ·skip
  refine zcr (sp (yI a) (sp (yI a) (zjr (t_r (ret1 (yI a) rfl rfl ⟨_,rfl,(congrArg (Value.int .i64) ?_),H.base⟩)))))
  omega
 refine qW (t_n (zcr (sp (yI b) (sp (yI b) (zjr (ret1 (yI b) rfl rfl ⟨_,rfl,(congrArg (Value.int .i64) ?_),H.base⟩))))))
 omega

theorem l01Within_ok (w:World) (l:yLI) (m:yLI) {al:yOA} {Fl:yLN} {am:yOA} {Fm:yLN} (hl:qO.rep w Fl [.slice al l.length cl] l) (hm:qO.rep w Fm [.slice am m.length cm] m) (p0:l.length≤m.length):Calls Tryz.prog 104 #[.slice al l.length cl,.slice am m.length cm] w (Ret (fun v w' =>v=.bool (within l m)) w):=by
 refine en func104 ntmps104 ?_
 have H:=((St.start w).arg hm).arg hl
 have nhl:=qM hl
 have nhm:=qM hm
 clear hl hm
 have N:=Fresh.nil w.heap.size
 refine zcr (sp (.bool false) (zjcc (sp (yI 0) (zjn (qY ?_)))))
 refine zq ((fun Z0 Z1=>fun m' ρ w1=>∃ (xM:Env) (i:Nat),ρ=upd (upd (upd xM 0 (.slice al l.length cl)) 1 (.slice am m.length cm)) 5 (yI i)∧((i:Int)≤l.length)∧(withinTo l m i)∧m' =(l.length - (i:Int)).toNat∧Fresh w.heap.size []∧St w w1 [] [Z0,Z1]) _ _) ((l.length - (0:Int)).toNat) ⟨_,0,uE3,qf,(by exact withinTo_zero l m),rfl,N,H⟩ ?_
 clear H N
 rintro m' ρ w2 ⟨xM,i,rfl,i0,i1,rfl,N,H⟩
 refine zcc (sp (yI i) (sq 1 (oN rfl (sq 1 (zjn (cD rfl (fun h3=>?_) (fun h3=>?_)))))))
 ·skip
  refine qW (t_n (xQ (qY (xQ ?_))))
  refine jf rfl H fun H=>rtl 0 H ?_
  refine rtp 1 (yI i) H ?_
  obtain ⟨b5,o6,rfl⟩:=H.addr 0 rfl qf
  refine tI 2 rfl rfl rfl H ?_
  refine tL 3 rfl rfl (fun _ h=>h.zH 0 rfl i qf) H ?_
  refine rtl 4 H ?_
  refine rtp 5 (yI i) H ?_
  obtain ⟨b8,o9,rfl⟩:=H.addr 1 rfl qf
  refine tI 6 rfl rfl rfl H ?_
  refine tL 7 rfl rfl (fun _ h=>h.zH 1 rfl i qf) H ?_
  refine rtl 8 H ?_
  refine xq qh (t_n (cD rfl (fun h11=>?_) (fun h11=>?_)))
  ·skip
   refine zcr (sp (.bool false) (zjr (zr5 (ret1 (.bool false) rfl rfl ⟨_,rfl,?_,H.base⟩))))
   rw [within_no (k:=i) ‹_› qf]
  refine qW (b_n (t_n (xU (sp (yI i) (sw (zA i 1 rfl rfl qf (sq 1 (xY (xe (m' :=(l.length - ((i+1):Int)).toNat) qf ⟨_,i+1,uE3,?_,?_,rfl,N,H⟩)))))))))
  · omega
  · exact withinTo_succ ‹_› qf
 refine zx4 (zcr (sp (.bool true) (zjr (ret1 (.bool true) rfl rfl ⟨_,rfl,?_,H.base⟩))))
 rw [within_yes ‹_› qf]

theorem l01Times_ok (w:World) (l:yLI) (m:yLI) {al:yOA} {Fl:yLN} {am:yOA} {Fm:yLN} (hl:qO.rep w Fl [.slice al l.length cl] l) (hm:qO.rep w Fm [.slice am m.length cm] m) (p0:l.length≤m.length) (p2:∀ k,k < l.length→0≤m[k]! ∧m[k]! ≤1000) (p3:∃ j,j < l.length∧0 < l[j]!):Calls Tryz.prog 222 #[.slice al l.length cl,.slice am m.length cm] w (Ret (fun v w' =>v=yI (jA l m)) w):=by
 refine en func222 ntmps222 ?_
 have H:=((St.start w).arg hm).arg hl
 have nhl:=qM hl
 have nhm:=qM hm
 clear hl hm
 have N:=Fresh.nil w.heap.size
 refine zcr (sp (yI 0) (zjc (sq 1 (zjcc (sp (yI 0) (zjn (qY ?_)))))))
 refine zq ((fun Z0 Z1=>fun m' ρ w1=>∃ (xM:Env) (best:Int) (i:Nat),ρ=upd (upd (upd (upd xM 0 (.slice al l.length cl)) 1 (.slice am m.length cm)) 5 (yI best)) 6 (yI i)∧((i:Int)≤l.length)∧(QS l m i best)∧m' =(l.length - (i:Int)).toNat∧Fresh w.heap.size []∧St w w1 [] [Z0,Z1]) _ _) ((l.length - (0:Int)).toNat) ⟨_,(-1),0,uE4,qf,(by exact QS.zero l m),rfl,N,H⟩ ?_
 clear H N
 rintro m' ρ w2 ⟨xM,best,i,rfl,i0,i1,rfl,N,H⟩
 refine zcc (sp (yI i) (sq 1 (oN rfl (sq 1 (zjn (cD rfl (fun h3=>?_) (fun h3=>?_)))))))
 ·skip
  refine qW (t_n (xQ (qY (xQ ?_))))
  refine jf rfl H fun H=>rtl 0 H ?_
  refine rtp 1 (yI i) H ?_
  obtain ⟨b5,o6,rfl⟩:=H.addr 0 rfl qf
  refine tI 2 rfl rfl rfl H ?_
  refine tL 3 rfl rfl (fun _ h=>h.zH 0 rfl i qf) H ?_
  refine rtp 4 (.bool (decide ((l[i]! :Int) > 0))) H ?_
  refine rtp 5 (.bool (decide ((l[i]! :Int) > 0))) H ?_
  cases h8:(decide ((l[i]! :Int) > 0))
  ·skip
   replace h8:=of_decide_eq_false h8
   refine zI [6,7,8,9,10,11,12,13,14,15,16,17,18,19,20] 15 (H) (rtp 21 (.bool false) H ?_)
   refine xq qh (t_n (xE false rfl (fun h=>absurd h qj) (fun _=>qW (b_n (t_n (xU (sp (yI i) (sw (zA i 1 rfl rfl (by (have:=p2 i qf;omega)) (sq 1 (xY (xe (m' :=(l.length - ((i+1):Int)).toNat) qf ⟨_,_,i+1,uE4,?_,?_,rfl,N,H⟩))))))))))))
   · omega
   · first | exact i1.take (p2 i qf) qf qf (timesTo_bd (fun k hk=>(p2 k hk).1) i qf).1 | exact i1.keep qf | exact i1.keep2 qf qf qf
  replace h8:=of_decide_eq_true h8
  refine rgl 6 18 H ?_
  refine rgp 7 (.bool (decide ((best:Int) < 0))) 18 H ?_
  refine rgp 8 (.bool (decide ((best:Int) < 0))) 18 H ?_
  cases h9:(decide ((best:Int) < 0))
  ·skip
   replace h9:=of_decide_eq_false h9
   refine rgl 9 21 H ?_
   refine rgp 10 (yI i) 21 H ?_
   obtain ⟨b10,o11,rfl⟩:=H.addr 1 rfl qf
   refine gI 11 rfl rfl rfl H ?_
   refine gL 12 rfl rfl (fun _ h=>h.zH 1 rfl i qf) H ?_
   refine rgl 13 21 H ?_
   refine rgp 14 (yI i) 21 H ?_
   refine gI 15 rfl rfl rfl H ?_
   refine gL 16 rfl rfl (fun _ h=>h.zH 0 rfl i qf) H ?_
   refine rg 17 _ 21 (y_quo (m[i]!) (l[i]!) rfl rfl (by (have:=p2 i qf;omega)) (by (have:=p2 i qf;omega))) H ?_
   refine rgl 18 21 H ?_
   refine rgl 19 21 H ?_
   refine rgl 20 18 H ?_
   refine rtl 21 H ?_
   refine xq qh (t_n (cD rfl (fun h13=>?_) (fun h13=>?_)))
   ·skip
    refine jf rfl H fun H=>rtl 0 H ?_
    refine rtp 1 (yI i) H ?_
    refine tI 2 rfl rfl rfl H ?_
    refine tL 3 rfl rfl (fun _ h=>h.zH 1 rfl i qf) H ?_
    refine rtl 4 H ?_
    refine rtp 5 (yI i) H ?_
    refine tI 6 rfl rfl rfl H ?_
    refine tL 7 rfl rfl (fun _ h=>h.zH 0 rfl i qf) H ?_
    refine rt 8 _ (y_quo (m[i]!) (l[i]!) rfl rfl (by (have:=p2 i qf;omega)) (by (have:=p2 i qf;omega))) H ?_
    refine rtl 9 H ?_
    refine xq qh (b_n (t_n (xU (sp (yI i) (sw (zA i 1 rfl rfl (by (have:=p2 i qf;omega)) (sq 1 (xY (xe (m' :=(l.length - ((i+1):Int)).toNat) qf ⟨_,_,i+1,uE4,?_,?_,rfl,N,H⟩)))))))))
    · omega
    · first | exact i1.take (p2 i qf) qf qf (timesTo_bd (fun k hk=>(p2 k hk).1) i qf).1 | exact i1.keep qf | exact i1.keep2 qf qf qf
   refine qW (b_n (t_n (xU (sp (yI i) (sw (zA i 1 rfl rfl (by (have:=p2 i qf;omega)) (sq 1 (xY (xe (m' :=(l.length - ((i+1):Int)).toNat) qf ⟨_,_,i+1,uE4,?_,?_,rfl,N,H⟩)))))))))
   · omega
   · first | exact i1.take (p2 i qf) qf qf (timesTo_bd (fun k hk=>(p2 k hk).1) i qf).1 | exact i1.keep qf | exact i1.keep2 qf qf qf
  replace h9:=of_decide_eq_true h9
  refine zI [9,10,11,12,13,14,15,16,17,18,19] 11 (H) (rgp 20 (.bool true) 18 H ?_)
  refine rtp 21 (.bool true) H ?_
  refine xq qh (t_n (xE true rfl (fun _=>?_) (fun h=>absurd h qj)))
  refine jf rfl H fun H=>rtl 0 H ?_
  refine rtp 1 (yI i) H ?_
  obtain ⟨b16,o17,rfl⟩:=H.addr 1 rfl qf
  refine tI 2 rfl rfl rfl H ?_
  refine tL 3 rfl rfl (fun _ h=>h.zH 1 rfl i qf) H ?_
  refine rtl 4 H ?_
  refine rtp 5 (yI i) H ?_
  refine tI 6 rfl rfl rfl H ?_
  refine tL 7 rfl rfl (fun _ h=>h.zH 0 rfl i qf) H ?_
  refine rt 8 _ (y_quo (m[i]!) (l[i]!) rfl rfl (by (have:=p2 i qf;omega)) (by (have:=p2 i qf;omega))) H ?_
  refine rtl 9 H ?_
  refine xq qh (b_n (t_n (xU (sp (yI i) (sw (zA i 1 rfl rfl (by (have:=p2 i qf;omega)) (sq 1 (xY (xe (m' :=(l.length - ((i+1):Int)).toNat) qf ⟨_,_,i+1,uE4,?_,?_,rfl,N,H⟩)))))))))
  · omega
  · first | exact i1.take (p2 i qf) qf qf (timesTo_bd (fun k hk=>(p2 k hk).1) i qf).1 | exact i1.keep qf | exact i1.keep2 qf qf qf
 refine zx4 (zcr (sq 2 (zjr (ret1 (yI best) rfl rfl ⟨_,rfl,?_,H.base⟩))))
 obtain rfl:i=l.length:=by omega
 rw [i1.done p3];rfl

theorem l03Both_ok (w:World) (s:qE) (t:qF) {qJ:yOA} {xu:yLN} {qV:yOA} {zh:yLN} {xg:yOA} {zu:yLN} {xF:yOA} {zU:yLN} {qU:yOA} {x9:yLN} (hs:vG w bs os (yS s qJ qI qV qQ)) (qX:qO.rep w xu [.slice qJ s.qA.length qI] s.qA) (xn:qO.rep w zh [.slice qV s.qB.length qQ] s.qB) (ht:vG w bt ot (yT t xg xf xF xA qU qR)) (xR:qO.rep w zu [.slice xg t.qG.length xf] t.qG) (zn:qO.rep w zU [.slice xF t.qN.length xA] t.qN) (xy:qO.rep w x9 [.slice qU t.qH.length qR] t.qH):Calls Tryz.prog 60 #[pp bs os,pp bt ot] w (Ret (fun v w' =>v=.bool (dec (vK s∧xX s t))) w):=by
 refine en func60 ntmps60 ?_
 have H:=(((((((St.start w).arg xy).arg zn).arg xR).XO ht).arg xn).arg qX).XO hs
 have zN:=qM qX
 have vW:=qM xn
 have jO:=qM xR
 have yH:=qM zn
 have jg:=qM xy
 clear hs qX xn ht xR zn xy
 have N:=Fresh.nil w.heap.size
 refine zcr (sp (.bool false) (zjc (sq 1 (sw (oq (l02Ok_ok _ s (qC (H.get 0 rfl) 0 3) (H.get 1 rfl).1 (H.get 2 rfl).1) H fun w1 H=>sp (.bool (dec (vK s))) ?_)))))
 cases h3:(dec (vK s))
 ·skip
  replace h3:=zT h3
  refine xZ [8,9,10] (sp (.bool false) (sp (.bool false) (zjr (ret1 (.bool false) rfl rfl ⟨_,rfl,?_,H.base⟩))))
  rw [xk (fun h=>‹¬ vK s› h.1)]
 replace h3:=yX h3
 refine qL 7 rfl rfl (sq 1 (qL 7 rfl rfl (sq 1 (qL 7 rfl rfl (sw (oq (l02State_ok _ s t (qC (H.get 0 rfl) 0 3) (H.get 1 rfl).1 (H.get 2 rfl).1 (qC (H.get 3 rfl) 0 3) (H.get 4 rfl).1 (H.get 5 rfl).1 (H.get 6 rfl).1 (by first | assumption | exact (And.left (by assumption:vK _)))) H fun w4 H=>sq 2 (zjr (ret1 (.bool (dec (xX s t))) rfl rfl ⟨_,rfl,(congrArg Value.bool (dec_eq ?_)),H.base⟩))))))))
 first | exact ⟨fun h=>⟨‹_›,yX h⟩,fun h=>jY h.2⟩ | (simp_all;done)

theorem l03Enabled_ok (w:World) (s:qE) (t:qF) (r:jw) {qJ:yOA} {xu:yLN} {qV:yOA} {zh:yLN} {xg:yOA} {zu:yLN} {xF:yOA} {zU:yLN} {qU:yOA} {x9:yLN} {br or:Nat} {arNeed:yOA} {crNeed:Nat} {FrNeed:yLN} {arHave:yOA} {crHave:Nat} {FrHave:yLN} {arLack:yOA} {crLack:Nat} {FrLack:yLN} {arHere:yOA} {crHere:Nat} {FrHere:yLN} {arOut:yOA} {crOut:Nat} {FrOut:yLN} {X4:yOA} {X0:Nat} {FrInto:yLN} (hs:vG w bs os (yS s qJ qI qV qQ)) (qX:qO.rep w xu [.slice qJ s.qA.length qI] s.qA) (xn:qO.rep w zh [.slice qV s.qB.length qQ] s.qB) (ht:vG w bt ot (yT t xg xf xF xA qU qR)) (xR:qO.rep w zu [.slice xg t.qG.length xf] t.qG) (zn:qO.rep w zU [.slice xF t.qN.length xA] t.qN) (xy:qO.rep w x9 [.slice qU t.qH.length qR] t.qH) (hr:vG w br or [yI r.qP,yI r.jI,.slice arNeed r.zB.length crNeed,.slice arHave r.vJ.length crHave,.slice arLack r.vP.length crLack,.slice arHere r.vT.length crHere,.slice arOut r.yP.length crOut,.slice X4 r.xh.length X0,.bool r.jB]) (hrNeed:qO.rep w FrNeed [.slice arNeed r.zB.length crNeed] r.zB) (hrHave:qO.rep w FrHave [.slice arHave r.vJ.length crHave] r.vJ) (hrLack:qO.rep w FrLack [.slice arLack r.vP.length crLack] r.vP) (hrHere:qO.rep w FrHere [.slice arHere r.vT.length crHere] r.vT) (hrOut:qO.rep w FrOut [.slice arOut r.yP.length crOut] r.yP) (hrInto:qO.rep w FrInto [.slice X4 r.xh.length X0] r.xh) (p0:vK s) (p1:xX s t) (p2:RuleOk s r):Calls Tryz.prog 188 #[pp bs os,pp bt ot,pp br or] w (Ret (fun v w' =>v=.bool (dec (EnOk s t r))) w):=by
 refine en func188 ntmps188 ?_
 have H:=((((((((((((((St.start w).arg hrInto).arg hrOut).arg hrHere).arg hrLack).arg hrHave).arg hrNeed).XO hr).arg xy).arg zn).arg xR).XO ht).arg xn).arg qX).XO hs
 have zN:=qM qX
 have vW:=qM xn
 have jO:=qM xR
 have yH:=qM zn
 have jg:=qM xy
 have nhrNeed:=qM hrNeed
 have nhrHave:=qM hrHave
 have nhrLack:=qM hrLack
 have nhrHere:=qM hrHere
 have nhrOut:=qM hrOut
 have nhrInto:=qM hrInto
 clear hs qX xn ht xR zn xy hr hrNeed hrHave hrLack hrHere hrOut hrInto
 have N:=Fresh.nil w.heap.size
 have p3:=p2.1
 have p4:=p1.1
 have p5:=p1.2.1
 have p6:=(p1.bagLen (k:=r.qP.toNat) qf).len
 have p7:=p2.2.2.2.2.1.len
 have p8:=p2.2.2.2.2.2.1.len
 have p9:=p2.2.2.2.2.2.2.1.len
 have p10:=vg p2.2.2.2.2.2.2.1
 have p11:=p0.1
 have p12:=p2.2.2.2.2.2.2.2.2.2.2
 refine zcr (sp (.bool false) (zjn (xQ (xQ ?_))))
 refine jf rfl H fun H=>rtl 0 H ?_
 refine rtl 1 H ?_
 refine tF 2 rfl rfl H ?_
 refine tL 3 rfl rfl (fun _ h=>h.x8 3 rfl 0 rfl) H ?_
 refine rtl 4 H ?_
 refine rtl 5 H ?_
 refine tF 6 rfl rfl H ?_
 refine tL 7 rfl rfl (fun _ h=>h.x8 7 rfl 0 rfl) H ?_
 obtain ⟨b2,o3,rfl⟩:=H.addr 4 rfl qf
 refine tI 8 rfl rfl rfl H ?_
 refine tL 9 rfl rfl (fun _ h=>h.elemBool 4 rfl r.qP qf qf) H ?_
 refine rtl 10 H ?_
 refine xq qh (t_n (xE _ rfl (fun h5=>?_) (fun h5=>?_)))
 ·skip
  replace h5:=xJ h5
  refine zcr (sp (.bool false) (zjr (t_r (ret1 (.bool false) rfl rfl ⟨_,rfl,?_,H.base⟩))))
  rw [xk (fun h=>by obtain ⟨h1,h2,h3,h4,h5⟩:=h;first | exact ft h1 ‹_› | exact ft h2 ‹_› | exact ft h3 ‹_› | exact h4 ⟨‹_›,‹_›⟩ | (obtain ⟨q1,q2⟩:=h5 i qf;first | exact ft q1 ‹_› | exact absurd q2 ‹_›))]
 replace h5:=xw h5
 refine qW (t_n (xQ ?_))
 refine jf rfl H fun H=>rtl 0 H ?_
 refine rtl 1 H ?_
 refine tF 2 rfl rfl H ?_
 refine tL 3 rfl rfl (fun _ h=>h.x8 3 rfl 1 rfl) H ?_
 refine rtl 4 H ?_
 refine rtl 5 H ?_
 refine tF 6 rfl rfl H ?_
 refine tL 7 rfl rfl (fun _ h=>h.x8 7 rfl 0 rfl) H ?_
 obtain ⟨b7,o8,rfl⟩:=H.addr 5 rfl qf
 obtain ⟨ae10,ce10,Fe10,H⟩:=H.vX 5 rfl r.qP r.qP.toNat qf qf qf
 refine tI 8 rfl rfl rfl (H.pick [] [2,3,4,5,6,7,8,9,10,11,12,13,14,15]) ?_
 refine ro 9 rfl (zl (.slice ae10 ((t.qN[r.qP.toNat]!).length) ce10) isAgg24 rfl (H.x8 1 rfl 0 rfl) (⟨H.pick [] [2,3,4,5,6,7,8,9,10,11,12,13,14,15],(rtl 10 (H.pick [] [2,3,4,5,6,7,8,9,10,11,12,13,14,15]) ?_)⟩))
 refine xq qh (t_n (zcc (sq 2 (oF rfl (oL rfl (H.x8 9 rfl 2 rfl) (sq 1 (sw (oq (l01Within_ok _ r.zB (t.qN[r.qP.toNat]!) (H.get 10 rfl).1 (H.get 0 rfl).1 qg) H fun w12 H=>sp (.bool (!(within r.zB (t.qN[r.qP.toNat]!)))) (sp (.bool (!(within r.zB (t.qN[r.qP.toNat]!)))) ?_)))))))))
 cases h14:(!(within r.zB (t.qN[r.qP.toNat]!)))
 ·skip
  replace h14:=xw h14
  refine qL 38 rfl rfl (sq 1 (qL 38 rfl rfl (sq 1 (qL 38 rfl rfl (oF rfl (qL 38 rfl rfl (oL rfl (H.x8 9 rfl 3 rfl) (qL 38 rfl rfl (sq 1 (qL 38 rfl rfl (sw (oq (l01Within_ok _ r.vJ (t.qN[r.qP.toNat]!) (H.get 11 rfl).1 (H.get 0 rfl).1 qg) H fun w16 H=>qL 38 rfl rfl (sp (.bool (!(within r.vJ (t.qN[r.qP.toNat]!)))) (sp (.bool (!(within r.vJ (t.qN[r.qP.toNat]!)))) (sp (.bool (!(within r.vJ (t.qN[r.qP.toNat]!)))) ?_)))))))))))))))
  cases h18:(!(within r.vJ (t.qN[r.qP.toNat]!)))
  ·skip
   replace h18:=xw h18
   refine qL 47 rfl rfl (sq 1 (qL 47 rfl rfl (sq 1 (qL 47 rfl rfl (oF rfl (qL 47 rfl rfl (oL rfl (H.x8 9 rfl 4 rfl) (qL 47 rfl rfl (sw (oq (XG _ r.vP (H.get 12 rfl).1 (by first | assumption | exact vg ql | exact yB ql)) H fun w19 H=>qL 47 rfl rfl (sp (.bool (decide ((QM r.vP:Int) > 0))) (qL 47 rfl rfl (sp (.bool (decide ((QM r.vP:Int) > 0))) ?_)))))))))))))
   cases h21:(decide ((QM r.vP:Int) > 0))
   ·skip
    replace h21:=of_decide_eq_false h21
    refine xZ [55,56,57,58,59,60] (qL 47 rfl rfl (sp (.bool false) (sp (.bool false) (zjn (xE false rfl (fun h=>absurd h qj) (fun _=>qW (t_n (zcc (sp (yI 0) (zjn (qY ?_)))))))))))
    refine zq ((fun Z0 Z1 Z2 Z3 Z4 Z5 Z6 Z7 Z8 Z9 Z10 Z11 Z12 Z13 Z14 Z15=>fun m' ρ w22=>∃ (xM:Env) (i:Nat),ρ=upd (upd (upd (upd xM 0 (pp bs os)) 1 (pp bt ot)) 2 (pp br or)) 8 (yI i)∧((i:Int)≤r.xh.length)∧(IntoUp s t r i)∧m' =(r.xh.length - (i:Int)).toNat∧Fresh w.heap.size []∧St w w22 [] [Z0,Z1,Z2,Z3,Z4,Z5,Z6,Z7,Z8,Z9,Z10,Z11,Z12,Z13,Z14,Z15]) _ _ _ _ _ _ _ _ _ _ _ _ _ _ _ _) ((r.xh.length - (0:Int)).toNat) ⟨_,0,uE4,qf,qx,rfl,N,H⟩ ?_
    clear H N
    rintro m' ρ w23 ⟨xM,i,rfl,i0,i1,rfl,N,H⟩
    refine zcc (sp (yI i) (sq 2 (oF rfl (oL rfl (H.x8 9 rfl 7 rfl) (oN rfl (sq 1 (zjn (cD rfl (fun h24=>?_) (fun h24=>?_)))))))))
    ·skip
     have q:=(p12 i qf).1
     have q1:=q.1
     have q2:=q.2
     refine qW (t_n (xQ (qY (zcr (sq 2 (oF rfl (oL rfl (H.x8 9 rfl 7 rfl) (sp (yI i) ?_))))))))
     obtain ⟨b25,o26,rfl⟩:=H.addr 15 rfl qf
     obtain ⟨ae28Bag,ce28Bag,Fe28Bag,H⟩:=H.yM 15 rfl i i qf qf qf
     refine oI rfl rfl (oF rfl (oL rfl (H.x8 1 rfl 0 rfl) (sq 1 (zjn (xQ ?_)))))
     refine jf rfl H fun H=>rtl 0 H ?_
     refine rtl 1 H ?_
     refine tF 2 rfl rfl H ?_
     refine tL 3 rfl rfl (fun _ h=>h.x8 7 rfl 0 rfl) H ?_
     refine rtl 4 H ?_
     refine tI 5 rfl rfl rfl H ?_
     refine tL 6 rfl rfl (fun _ h=>h.elemBool 8 rfl ((r.xh[i]!).qP) qf qf) H ?_
     refine rtp 7 (.bool (!(t.qG[((r.xh[i]!).qP).toNat]!))) H ?_
     refine rtp 8 (.bool (!(t.qG[((r.xh[i]!).qP).toNat]!))) H ?_
     cases h30:(!(t.qG[((r.xh[i]!).qP).toNat]!))
     ·skip
      replace h30:=xw h30
      refine rgl 9 88 H ?_
      refine rgl 10 88 H ?_
      refine rgl 11 88 H ?_
      refine rgl 13 88 H ?_
      refine rgl 14 88 H ?_
      refine gF 15 rfl rfl H ?_
      refine gL 16 rfl rfl (fun _ h=>h.x8 11 rfl 0 rfl) H ?_
      refine zY [12] qh qm (XD rfl (e:=88) rfl rfl (oq (l02Parent_ok _ s t ((r.xh[i]!).qP) (qC (H.get 4 rfl) 0 3) (H.get 5 rfl).1 (H.get 6 rfl).1 (qC (H.get 7 rfl) 0 3) (H.get 8 rfl).1 (H.get 9 rfl).1 (H.get 10 rfl).1 ql ql ql) H fun w31 H=>⟨H,(rgl 17 88 H ?_)⟩) zZ)
      refine rtl 18 H ?_
      refine xq qh (t_n (xE _ rfl (fun h33=>?_) (fun h33=>?_)))
      ·skip
       replace h33:=bne_iff_ne.1 h33
       refine zcr (sp (.bool false) (zjr (zr5 (ret1 (.bool false) rfl rfl ⟨_,rfl,?_,H.base⟩))))
       rw [xk (fun h=>by obtain ⟨h1,h2,h3,h4,h5⟩:=h;first | exact ft h1 ‹_› | exact ft h2 ‹_› | exact ft h3 ‹_› | exact h4 ⟨‹_›,‹_›⟩ | (obtain ⟨q1,q2⟩:=h5 i qf;first | exact ft q1 ‹_› | exact absurd q2 ‹_›))]
      replace h33:=xm h33
      refine qW (b_n (t_n (xU (sp (yI i) (sw (zA i 1 rfl rfl qf (sq 1 (xY (xe (m' :=(r.xh.length - ((i+1):Int)).toNat) qf ⟨_,i+1,uE4,?_,?_,rfl,N,H.pick [] [2,3,4,5,6,7,8,9,10,11,12,13,14,15,16,17]⟩)))))))))
      · omega
      · exact i1.succ ‹_› ‹_›
     replace h30:=xJ h30
     refine zI [9,10,11,12,13,14,15,16,17] 9 (H) (rtp 18 (.bool true) H ?_)
     refine xq qh (t_n (xE true rfl (fun _=>zcr (sp (.bool false) (zjr (zr5 (ret1 (.bool false) rfl rfl ⟨_,rfl,?_,H.base⟩))))) (fun h=>absurd h qj)))
     rw [xk (fun h=>by obtain ⟨h1,h2,h3,h4,h5⟩:=h;first | exact ft h1 ‹_› | exact ft h2 ‹_› | exact ft h3 ‹_› | exact h4 ⟨‹_›,‹_›⟩ | (obtain ⟨q1,q2⟩:=h5 i qf;first | exact ft q1 ‹_› | exact absurd q2 ‹_›))]
    refine zx4 (zcr (sp (.bool true) (zjr (ret1 (.bool true) rfl rfl ⟨_,rfl,?_,H.base⟩))))
    rw [jY ⟨by assumption,by assumption,by assumption,fun ⟨u,v⟩=>by first | omega | exact ft v ‹_›,(show i=r.xh.length by omega)▸i1⟩]
   replace h21:=of_decide_eq_true h21
   refine qL 54 rfl rfl (sq 1 (qL 54 rfl rfl (sq 1 (qL 54 rfl rfl (oF rfl (qL 54 rfl rfl (oL rfl (H.x8 9 rfl 4 rfl) (qL 54 rfl rfl (sq 1 (qL 54 rfl rfl (sw (oq (l01Within_ok _ r.vP (t.qN[r.qP.toNat]!) (H.get 12 rfl).1 (H.get 0 rfl).1 qg) H fun w35 H=>qL 47 rfl rfl (sq 2 (zjn (xE _ rfl (fun h37=>?_) (fun h37=>?_))))))))))))))))
   ·skip
    refine zcr (sp (.bool false) (zjr (t_r (ret1 (.bool false) rfl rfl ⟨_,rfl,?_,H.base⟩))))
    rw [xk (fun h=>by obtain ⟨h1,h2,h3,h4,h5⟩:=h;first | exact ft h1 ‹_› | exact ft h2 ‹_› | exact ft h3 ‹_› | exact h4 ⟨‹_›,‹_›⟩ | (obtain ⟨q1,q2⟩:=h5 i qf;first | exact ft q1 ‹_› | exact absurd q2 ‹_›))]
   refine qW (t_n (zcc (sp (yI 0) (zjn (qY ?_)))))
   refine zq ((fun Z0 Z1 Z2 Z3 Z4 Z5 Z6 Z7 Z8 Z9 Z10 Z11 Z12 Z13 Z14 Z15=>fun m' ρ w38=>∃ (xM:Env) (i:Nat),ρ=upd (upd (upd (upd xM 0 (pp bs os)) 1 (pp bt ot)) 2 (pp br or)) 8 (yI i)∧((i:Int)≤r.xh.length)∧(IntoUp s t r i)∧m' =(r.xh.length - (i:Int)).toNat∧Fresh w.heap.size []∧St w w38 [] [Z0,Z1,Z2,Z3,Z4,Z5,Z6,Z7,Z8,Z9,Z10,Z11,Z12,Z13,Z14,Z15]) _ _ _ _ _ _ _ _ _ _ _ _ _ _ _ _) ((r.xh.length - (0:Int)).toNat) ⟨_,0,uE4,qf,qx,rfl,N,H⟩ ?_
   clear H N
   rintro m' ρ w39 ⟨xM,i,rfl,i0,i1,rfl,N,H⟩
   refine zcc (sp (yI i) (sq 2 (oF rfl (oL rfl (H.x8 9 rfl 7 rfl) (oN rfl (sq 1 (zjn (cD rfl (fun h40=>?_) (fun h40=>?_)))))))))
   ·skip
    have q:=(p12 i qf).1
    have q1:=q.1
    have q2:=q.2
    refine qW (t_n (xQ (qY (zcr (sq 2 (oF rfl (oL rfl (H.x8 9 rfl 7 rfl) (sp (yI i) ?_))))))))
    obtain ⟨b41,o42,rfl⟩:=H.addr 15 rfl qf
    obtain ⟨ae44Bag,ce44Bag,Fe44Bag,H⟩:=H.yM 15 rfl i i qf qf qf
    refine oI rfl rfl (oF rfl (oL rfl (H.x8 1 rfl 0 rfl) (sq 1 (zjn (xQ ?_)))))
    refine jf rfl H fun H=>rtl 0 H ?_
    refine rtl 1 H ?_
    refine tF 2 rfl rfl H ?_
    refine tL 3 rfl rfl (fun _ h=>h.x8 7 rfl 0 rfl) H ?_
    refine rtl 4 H ?_
    refine tI 5 rfl rfl rfl H ?_
    refine tL 6 rfl rfl (fun _ h=>h.elemBool 8 rfl ((r.xh[i]!).qP) qf qf) H ?_
    refine rtp 7 (.bool (!(t.qG[((r.xh[i]!).qP).toNat]!))) H ?_
    refine rtp 8 (.bool (!(t.qG[((r.xh[i]!).qP).toNat]!))) H ?_
    cases h46:(!(t.qG[((r.xh[i]!).qP).toNat]!))
    ·skip
     replace h46:=xw h46
     refine rgl 9 88 H ?_
     refine rgl 10 88 H ?_
     refine rgl 11 88 H ?_
     refine rgl 13 88 H ?_
     refine rgl 14 88 H ?_
     refine gF 15 rfl rfl H ?_
     refine gL 16 rfl rfl (fun _ h=>h.x8 11 rfl 0 rfl) H ?_
     refine zY [12] qh qm (XD rfl (e:=88) rfl rfl (oq (l02Parent_ok _ s t ((r.xh[i]!).qP) (qC (H.get 4 rfl) 0 3) (H.get 5 rfl).1 (H.get 6 rfl).1 (qC (H.get 7 rfl) 0 3) (H.get 8 rfl).1 (H.get 9 rfl).1 (H.get 10 rfl).1 ql ql ql) H fun w47 H=>⟨H,(rgl 17 88 H ?_)⟩) zZ)
     refine rtl 18 H ?_
     refine xq qh (t_n (xE _ rfl (fun h49=>?_) (fun h49=>?_)))
     ·skip
      replace h49:=bne_iff_ne.1 h49
      refine zcr (sp (.bool false) (zjr (zr5 (ret1 (.bool false) rfl rfl ⟨_,rfl,?_,H.base⟩))))
      rw [xk (fun h=>by obtain ⟨h1,h2,h3,h4,h5⟩:=h;first | exact ft h1 ‹_› | exact ft h2 ‹_› | exact ft h3 ‹_› | exact h4 ⟨‹_›,‹_›⟩ | (obtain ⟨q1,q2⟩:=h5 i qf;first | exact ft q1 ‹_› | exact absurd q2 ‹_›))]
     replace h49:=xm h49
     refine qW (b_n (t_n (xU (sp (yI i) (sw (zA i 1 rfl rfl qf (sq 1 (xY (xe (m' :=(r.xh.length - ((i+1):Int)).toNat) qf ⟨_,i+1,uE4,?_,?_,rfl,N,H.pick [] [2,3,4,5,6,7,8,9,10,11,12,13,14,15,16,17]⟩)))))))))
     · omega
     · exact i1.succ ‹_› ‹_›
    replace h46:=xJ h46
    refine zI [9,10,11,12,13,14,15,16,17] 9 (H) (rtp 18 (.bool true) H ?_)
    refine xq qh (t_n (xE true rfl (fun _=>zcr (sp (.bool false) (zjr (zr5 (ret1 (.bool false) rfl rfl ⟨_,rfl,?_,H.base⟩))))) (fun h=>absurd h qj)))
    rw [xk (fun h=>by obtain ⟨h1,h2,h3,h4,h5⟩:=h;first | exact ft h1 ‹_› | exact ft h2 ‹_› | exact ft h3 ‹_› | exact h4 ⟨‹_›,‹_›⟩ | (obtain ⟨q1,q2⟩:=h5 i qf;first | exact ft q1 ‹_› | exact absurd q2 ‹_›))]
   refine zx4 (zcr (sp (.bool true) (zjr (ret1 (.bool true) rfl rfl ⟨_,rfl,?_,H.base⟩))))
   rw [jY ⟨by assumption,by assumption,by assumption,fun ⟨u,v⟩=>by first | omega | exact ft v ‹_›,(show i=r.xh.length by omega)▸i1⟩]
  replace h18:=xJ h18
  refine xZ [48,49,50,51,52,53,54,55,56,57,58,59,60,61] (sp (.bool true) (zjn (xE true rfl (fun _=>zcr (sp (.bool false) (zjr (t_r (ret1 (.bool false) rfl rfl ⟨_,rfl,?_,H.base⟩))))) (fun h=>absurd h qj))))
  rw [xk (fun h=>by obtain ⟨h1,h2,h3,h4,h5⟩:=h;first | exact ft h1 ‹_› | exact ft h2 ‹_› | exact ft h3 ‹_› | exact h4 ⟨‹_›,‹_›⟩ | (obtain ⟨q1,q2⟩:=h5 i qf;first | exact ft q1 ‹_› | exact absurd q2 ‹_›))]
 replace h14:=xJ h14
 refine xZ [39,40,41,42,43,44,45] (sp (.bool true) (sp (.bool true) (xZ [48,49,50,51,52,53,54,55,56,57,58,59,60,61] (sp (.bool true) (zjn (xE true rfl (fun _=>zcr (sp (.bool false) (zjr (t_r (ret1 (.bool false) rfl rfl ⟨_,rfl,?_,H.base⟩))))) (fun h=>absurd h qj)))))))
 rw [xk (fun h=>by obtain ⟨h1,h2,h3,h4,h5⟩:=h;first | exact ft h1 ‹_› | exact ft h2 ‹_› | exact ft h3 ‹_› | exact h4 ⟨‹_›,‹_›⟩ | (obtain ⟨q1,q2⟩:=h5 i qf;first | exact ft q1 ‹_› | exact absurd q2 ‹_›))]

theorem l03Applicable_ok (w:World) (s:qE) (t:qF) {qJ:yOA} {xu:yLN} {qV:yOA} {zh:yLN} {xg:yOA} {zu:yLN} {xF:yOA} {zU:yLN} {qU:yOA} {x9:yLN} (hs:vG w bs os (yS s qJ qI qV qQ)) (qX:qO.rep w xu [.slice qJ s.qA.length qI] s.qA) (xn:qO.rep w zh [.slice qV s.qB.length qQ] s.qB) (ht:vG w bt ot (yT t xg xf xF xA qU qR)) (xR:qO.rep w zu [.slice xg t.qG.length xf] t.qG) (zn:qO.rep w zU [.slice xF t.qN.length xA] t.qN) (xy:qO.rep w x9 [.slice qU t.qH.length qR] t.qH) (p0:vK s) (p1:xX s t):Calls Tryz.prog 153 #[pp bs os,pp bt ot] w (Ret (fun v w' =>∃ (ra:yOA) (rn:Nat) (rc:Nat),v=.slice ra rn rc∧Fresh w.heap.size []∧St w w' [rr ra rn rc 4 1 ((appl s t).map (Value.bool))] []) w):=by
 refine en func153 ntmps153 ?_
 have H:=(((((((St.start w).arg xy).arg zn).arg xR).XO ht).arg xn).arg qX).XO hs
 have zN:=qM qX
 have vW:=qM xn
 have jO:=qM xR
 have yH:=qM zn
 have jg:=qM xy
 clear hs qX xn ht xR zn xy
 have N:=Fresh.nil w.heap.size
 have p2:=p0.2.1
 have p3:=p0.1.2.1
 refine zcr (sq 1 (zjc (sq 2 (oF rfl (oL rfl (H.x8 0 rfl 1 rfl) (oN rfl (sw (vM H underlying24 ti2 s.qA.length rfl rfl qf qf qf fun b1 w2 H=>sq 1 (zjc (sw (vU H underlying28 ti4 fun b3 w4 H=>sq 1 (zjcc (sp (yI 0) (zjn (qY ?_)))))))))))))))
 replace H:=H.boxRowB 0 [] 0
 refine zq ((fun Z0 Z1 Z2 Z3 Z4 Z5 Z6=>fun m' ρ w5=>∃ (xM:Env) (yf:yOA) (ja:Nat) (jT:Nat) (out:List Bool) (i:Nat) (best:yLI),ρ=upd (upd (upd (upd (upd xM 0 (pp bs os)) 1 (pp bt ot)) 5 (.slice (aa b1 0) s.qA.length s.qA.length)) 6 (.slice yf ja jT)) 7 (yI i)∧out=applB s t 0 i∧best=bests s t 0 s.qA.length i∧((i:Int)≤s.qB.length)∧m' =(s.qB.length - (i:Int)).toNat∧Fresh w.heap.size []∧St w w5 [rr yf ja jT 4 1 (out.map (Value.bool)),rr (aa b1 0) s.qA.length s.qA.length 2 1 (best.map (Value.int .i64))] [Z0,Z1,Z2,Z3,Z4,Z5,Z6]) _ _ _ _ _ _ _) ((s.qB.length - (0:Int)).toNat) ⟨_,(aa b3 0),0,0,([]:List Bool),0,(List.replicate s.qA.length (0:Int)),uE5,(by rfl),(by exact bests_zero s t 0 _),qf,rfl,N,H⟩ ?_
 clear H N
 rintro m' ρ w6 ⟨xM,yf,ja,jT,out,i,best,rfl,rfl,rfl,i0,rfl,N,H⟩
 have hn_out:=H.XC 0 rfl
 have hn_best:=H.jm 1 rfl
 have bl:=Xe s t 0 s.qA.length i
 have al:=applB_len s t 0 i
 refine zcc (sp (yI i) (sq 2 (oF rfl (oL rfl (H.x8 0 rfl 2 rfl) (oN rfl (sq 1 (zjn (cD rfl (fun h7=>?_) (fun h7=>?_)))))))))
 ·skip
  have q:=p0.rule (i:=i) qf
  have qc:=q.1
  have qk:=q.cell
  have qr:=q.2.1
  refine qW (t_n (xQ (qY (zcr (sq 2 (oF rfl (oL rfl (H.x8 0 rfl 2 rfl) (sp (yI i) ?_))))))))
  obtain ⟨b8,o9,rfl⟩:=H.addr 2 rfl qf
  obtain ⟨ae11Need,ce11Need,Fe11Need,ae11Have,ce11Have,Fe11Have,ae11Lack,ce11Lack,Fe11Lack,ae11Here,ce11Here,Fe11Here,ae11Out,ce11Out,Fe11Out,ae11Into,ce11Into,Fe11Into,H⟩:=H.yA 2 rfl i i qf qf qf
  refine oI rfl rfl (sq 1 (zjc (sq 3 (sw (oq (l03Enabled_ok _ s t (s.qB[i]!) (qC (H.get 7 rfl) 0 3) (H.get 8 rfl).1 (H.get 9 rfl).1 (qC (H.get 10 rfl) 0 3) (H.get 11 rfl).1 (H.get 12 rfl).1 (H.get 13 rfl).1 (qC (H.get 6 rfl) 0 9) (H.get 0 rfl).1 (H.get 1 rfl).1 (H.get 2 rfl).1 (H.get 3 rfl).1 (H.get 4 rfl).1 (H.get 5 rfl).1 qg qg qg) H fun w13 H=>?_)))))
  refine sq 1 (zjc (sq 2 (sw (zf H underlying28 ti4 [.bool (dec (EnOk s t (s.qB[i]!)))] fun b15 w16 H=>sw (zk H 1 rfl 0 rfl underlying28 ti4 rfl qj rfl rfl rfl qw qp qf fun a17 c18 w19 H=>?_)))))
  rw [snocB] at H
  refine sq 1 (zjc (sq 1 (zjn (cP rfl (fun h20=>?_) (fun h20=>?_)))))
  ·skip
   refine yK rfl H [0,1] fun H=>?_
   have S:=H.jo [0,1] [0,1,2,3,4,5,6,7,8,9,10,11,12,13]
   refine rtl 0 S ?_
   refine rtl 1 S ?_
   refine rtl 2 S ?_
   refine tF 3 rfl rfl S ?_
   refine tL 4 rfl rfl (fun _ h=>h.x8 6 rfl 0 rfl) S ?_
   refine rtl 5 S ?_
   refine rtl 6 S ?_
   refine rtl 7 S ?_
   refine tF 8 rfl rfl S ?_
   refine tL 9 rfl rfl (fun _ h=>h.x8 6 rfl 0 rfl) S ?_
   refine tI 10 rfl rfl rfl S ?_
   refine rtl 12 S ?_
   refine rtl 13 S ?_
   refine tF 14 rfl rfl S ?_
   refine tL 15 rfl rfl (fun _ h=>h.x8 6 rfl 1 rfl) S ?_
   refine ro 11 rfl (zl (yI ((bests s t 0 s.qA.length i)[((s.qB[i]!).qP).toNat]!)) isAgg2 rfl (H.rowInt 2 rfl (iv:=(s.qB[i]!).qP) (i:=(((s.qB[i]!).qP).toNat)) qf qf) (⟨H.pick [0,1] [0,1,2,3,4,5,6,7,8,9,10,11,12,13],(ro 16 rfl (oq (l00Max_ok w19.drew ((bests s t 0 s.qA.length i)[((s.qB[i]!).qP).toNat]!) ((s.qB[i]!).jI)) H fun w23 H=>⟨H.pick [0,1] [0,1,2,3,4,5,6,7,8,9,10,11,12,13],(tI 17 rfl rfl rfl (H.pick [0,1] [0,1,2,3,4,5,6,7,8,9,10,11,12,13]) ?_)⟩))⟩))
   refine ro 18 rfl (XE H 2 rfl (max ((bests s t 0 s.qA.length i)[((s.qB[i]!).qP).toNat]!) ((s.qB[i]!).jI)) sizeOf2 rfl rfl (i:=(((s.qB[i]!).qP).toNat)) qf qf fun w25 H=>⟨H.pick [0,1] [0,1,2,3,4,5,6,7,8,9,10,11,12,13],(xq qh (b_n (t_n (xU (sp (yI i) (sw (zA i 1 rfl rfl qf (sq 1 (xY (xe (m' :=(s.qB.length - ((i+1):Int)).toNat) qf ⟨_,_,_,_,_,i+1,_,uE5,?_,?_,?_,rfl,N,H.pick [1,2] [7,8,9,10,11,12,13]⟩))))))))))⟩)
   · exact applB_snoc s t i
   · first | exact bests_set ‹_› qf | exact bests_skip ‹_›
   · omega
  refine qW (b_n (t_n (xU (sp (yI i) (sw (zA i 1 rfl rfl qf (sq 1 (xY (xe (m' :=(s.qB.length - ((i+1):Int)).toNat) qf ⟨_,_,_,_,_,i+1,_,uE5,?_,?_,?_,rfl,N,H.pick [1,2] [7,8,9,10,11,12,13]⟩)))))))))
  · exact applB_snoc s t i
  · first | exact bests_set ‹_› qf | exact bests_skip ‹_›
  · omega
 refine zx4 (zcc (sp (yI 0) (zjn (qY ?_))))
 refine zq ((fun Z0 Z1 Z2 Z3=>fun m' ρ w26=>∃ (xM:Env) (i_1:Nat) (out_1:List Bool),ρ=upd (upd (upd (upd xM 0 (pp bs os)) 5 (.slice (aa b1 0) s.qA.length s.qA.length)) 6 (.slice yf ja jT)) 10 (yI i_1)∧out_1=applB s t i_1 s.qB.length∧((i_1:Int)≤s.qB.length)∧m' =(s.qB.length - (i_1:Int)).toNat∧Fresh w.heap.size []∧St w w26 [rr yf ja jT 4 1 (out_1.map (Value.bool)),Z0] [Z1,Z2,Z3]) _ _ _ _) ((s.qB.length - (0:Int)).toNat) ⟨_,0,(applB s t 0 i),uE4,(by rw [show i=s.qB.length by omega]),qf,rfl,N,H.pick [0,1] [0,1,2]⟩ ?_
 clear H N
 rintro m' ρ w27 ⟨xM,i_1,out_1,rfl,rfl,i0,rfl,N,H⟩
 have hn_out:=H.XC 0 rfl
 have bl:=Xe s t 0 s.qA.length i
 have al:=applB_len s t i_1 s.qB.length
 refine zcc (sq 3 (oF rfl (oL rfl (H.x8 0 rfl 2 rfl) (oN rfl (sq 1 (zjn (cD rfl (fun h28=>?_) (fun h28=>?_))))))))
 ·skip
  have q:=p0.rule (i:=i_1) qf
  have qc:=q.1
  have qk:=q.cell
  have qr:=q.2.1
  refine qW (t_n (xQ (qY ?_)))
  refine yK rfl H [1] fun H=>?_
  have S:=H.jo [1] [0,1,2]
  refine rtl 0 S ?_
  refine rtl 1 S ?_
  refine rtl 2 S ?_
  refine rtl 3 S ?_
  obtain ⟨b30,rfl⟩:=H.jW 0 rfl qf
  refine tI 4 rfl rfl rfl (H.pick [1] [0,1,2]) ?_
  refine ro 5 rfl (zl (.bool ((applB s t i_1 s.qB.length)[i_1]!)) isAgg4 rfl (H.rowBool 0 rfl (iv:=i_1) (i:=i_1) qf qf) (⟨H.pick [1] [0,1,2],(rtp 6 (.bool ((applB s t i_1 s.qB.length)[i_1]!)) (H.pick [1] [0,1,2]) ?_)⟩))
  cases h31:((applB s t i_1 s.qB.length)[i_1]!)
  ·skip
   refine zI [7,8,9,10,11,12,13,14,15,16,17,18,19,20,21,22,23,24,25,26] 20 (H.pick [1] [0,1,2]) ?_
   have S:=H.jo [1] [0,1,2]
   refine rtp 27 (.bool false) S ?_
   refine tI 28 rfl rfl rfl S ?_
   refine ro 29 rfl (Qs H 0 rfl false sizeOf4 rfl rfl (i:=i_1) qf qf fun w32 H=>⟨H.pick [1] [0,1,2],(xq qh (b_n (t_n (xU (sq 1 (sw (zA i_1 1 rfl rfl qf (sq 1 (xY (xe (m' :=(s.qB.length - ((i_1+1):Int)).toNat) qf ⟨_,i_1+1,_,uE4,?_,?_,rfl,N,H⟩))))))))))⟩)
   · first | exact applB_set qf (applB_step0 (m:=s.qB.length) qf ‹_›) | exact applB_set qf (applB_step1 (m:=s.qB.length) (n:=s.qA.length) (z:=0) (i:=i) qf ‹_› rfl qf qf qf)
   · omega
  have S:=H.jo [1] [0,1,2]
  refine rgl 7 75 S ?_
  refine rgl 8 75 S ?_
  refine gF 9 rfl rfl S ?_
  refine gL 10 rfl rfl (fun _ h=>h.x8 0 rfl 2 rfl) S ?_
  refine rgl 11 75 S ?_
  obtain ⟨b33,o34,rfl⟩:=H.addr 2 rfl qf
  obtain ⟨ae36Need,ce36Need,Fe36Need,ae36Have,ce36Have,Fe36Have,ae36Lack,ce36Lack,Fe36Lack,ae36Here,ce36Here,Fe36Here,ae36Out,ce36Out,Fe36Out,ae36Into,ce36Into,Fe36Into,H⟩:=H.yA 2 rfl i_1 i_1 qf qf qf
  have S:=H.jo [1] [7,8,9]
  refine gI 12 rfl rfl rfl S ?_
  refine gF 13 rfl rfl S ?_
  refine rgl 15 75 S ?_
  refine rgl 16 75 S ?_
  refine rgl 17 75 S ?_
  refine gF 18 rfl rfl S ?_
  refine gL 19 rfl rfl (fun _ h=>h.x8 0 rfl 2 rfl) S ?_
  refine rgl 20 75 S ?_
  refine gI 21 rfl rfl rfl S ?_
  refine gF 22 rfl rfl S ?_
  refine zY [14,23] qh qm (XD rfl (e:=75) rfl rfl ?_ (XD rfl (e:=75) rfl rfl ?_ zZ))
  ·skip
   refine zl (yI ((s.qB[i_1]!).jI)) isAgg2 rfl (H.x8 6 rfl 1 rfl) (⟨H.pick [1] [7,8,9],(zY [23] qh qm (XD rfl (e:=75) rfl rfl (zl (yI ((s.qB[i_1]!).qP)) isAgg2 rfl (H.x8 6 rfl 0 rfl) (⟨H.pick [1] [7,8,9],?_⟩)) zZ))⟩)
   have S:=H.jo [1] [7,8,9]
   refine gI 24 rfl rfl rfl S ?_
   refine gL 25 rfl rfl (fun _ h=>h.rowInt 0 rfl (iv:=(s.qB[i_1]!).qP) (i:=(((s.qB[i_1]!).qP).toNat)) qf qf) S ?_
   refine rgl 26 75 S ?_
   refine rtl 27 S ?_
   refine tI 28 rfl rfl rfl S ?_
   refine ro 29 rfl (Qs H 0 rfl (((s.qB[i_1]!).jI:Int) == ((bests s t 0 s.qA.length i)[((s.qB[i_1]!).qP).toNat]!)) sizeOf4 rfl rfl (i:=i_1) qf qf fun w37 H=>⟨H.pick [1] [7,8,9],(xq qh (b_n (t_n (xU (sq 1 (sw (zA i_1 1 rfl rfl qf (sq 1 (xY (xe (m' :=(s.qB.length - ((i_1+1):Int)).toNat) qf ⟨_,i_1+1,_,uE4,?_,?_,rfl,N,H.pick [0,1] [7,8,9]⟩))))))))))⟩)
   · first | exact applB_set qf (applB_step0 (m:=s.qB.length) qf ‹_›) | exact applB_set qf (applB_step1 (m:=s.qB.length) (n:=s.qA.length) (z:=0) (i:=i) qf ‹_› rfl qf qf qf)
   · omega
  refine zl (yI ((s.qB[i_1]!).qP)) isAgg2 rfl (H.x8 6 rfl 0 rfl) (⟨H.pick [1] [7,8,9],?_⟩)
  have S:=H.jo [1] [7,8,9]
  refine gI 24 rfl rfl rfl S ?_
  refine gL 25 rfl rfl (fun _ h=>h.rowInt 0 rfl (iv:=(s.qB[i_1]!).qP) (i:=(((s.qB[i_1]!).qP).toNat)) qf qf) S ?_
  refine zY [14] qh qm (XD rfl (e:=75) rfl rfl (zl (yI ((s.qB[i_1]!).jI)) isAgg2 rfl (H.x8 6 rfl 1 rfl) (⟨H.pick [1] [7,8,9],?_⟩)) zZ)
  have S:=H.jo [1] [7,8,9]
  refine rgl 26 75 S ?_
  refine rtl 27 S ?_
  refine tI 28 rfl rfl rfl S ?_
  refine ro 29 rfl (Qs H 0 rfl (((s.qB[i_1]!).jI:Int) == ((bests s t 0 s.qA.length i)[((s.qB[i_1]!).qP).toNat]!)) sizeOf4 rfl rfl (i:=i_1) qf qf fun w38 H=>⟨H.pick [1] [7,8,9],(xq qh (b_n (t_n (xU (sq 1 (sw (zA i_1 1 rfl rfl qf (sq 1 (xY (xe (m' :=(s.qB.length - ((i_1+1):Int)).toNat) qf ⟨_,i_1+1,_,uE4,?_,?_,rfl,N,H.pick [0,1] [7,8,9]⟩))))))))))⟩)
  · first | exact applB_set qf (applB_step0 (m:=s.qB.length) qf ‹_›) | exact applB_set qf (applB_step1 (m:=s.qB.length) (n:=s.qA.length) (z:=0) (i:=i) qf ‹_› rfl qf qf qf)
  · omega
 refine zx4 (zcr (sq 2 (zjr (ret1 (.slice yf ja jT) rfl rfl ⟨_,rfl,?_,H.base⟩))))
 obtain rfl:i_1=s.qB.length:=by omega
 exact ⟨yf,ja,jT,rfl,N,H.pick [0] []⟩

theorem l03Halted_ok (w:World) (s:qE) (t:qF) {qJ:yOA} {xu:yLN} {qV:yOA} {zh:yLN} {xg:yOA} {zu:yLN} {xF:yOA} {zU:yLN} {qU:yOA} {x9:yLN} (hs:vG w bs os (yS s qJ qI qV qQ)) (qX:qO.rep w xu [.slice qJ s.qA.length qI] s.qA) (xn:qO.rep w zh [.slice qV s.qB.length qQ] s.qB) (ht:vG w bt ot (yT t xg xf xF xA qU qR)) (xR:qO.rep w zu [.slice xg t.qG.length xf] t.qG) (zn:qO.rep w zU [.slice xF t.qN.length xA] t.qN) (xy:qO.rep w x9 [.slice qU t.qH.length qR] t.qH) (p0:vK s) (p1:xX s t):Calls Tryz.prog 105 #[pp bs os,pp bt ot] w (Ret (fun v w' =>v=.bool (dec (Halted s t))) w):=by
 refine en func105 ntmps105 ?_
 have H:=(((((((St.start w).arg xy).arg zn).arg xR).XO ht).arg xn).arg qX).XO hs
 have zN:=qM qX
 have vW:=qM xn
 have jO:=qM xR
 have yH:=qM zn
 have jg:=qM xy
 clear hs qX xn ht xR zn xy
 have N:=Fresh.nil w.heap.size
 have p2:=p0.2.1
 refine zcr (sp (.bool false) (zjc (sq 2 ?_)))
 have sz4:=H.base.size
 refine sw (oc (l03Applicable_ok _ s t (qC (H.get 0 rfl) 0 3) (H.get 1 rfl).1 (H.get 2 rfl).1 (qC (H.get 3 rfl) 0 3) (H.get 4 rfl).1 (H.get 5 rfl).1 (H.get 6 rfl).1 qg qg) ?_)
 rintro _ w2 ⟨ra1,rn1,rc1,rfl,M,K⟩ _
 replace H:=H.merge K M
 obtain rfl:=H.XC 0 rfl
 have al:=appl_len s t
 refine sq 1 (zjcc (sp (yI 0) (zjn (qY ?_))))
 refine zq ((fun Z0=>fun m' ρ w7=>∃ (xM:Env) (i:Nat),ρ=upd (upd xM 5 (.slice ra1 ((appl s t).length) rc1)) 6 (yI i)∧((i:Int)≤((appl s t).length))∧(HaltTo s t i)∧m' =(((appl s t).length) - (i:Int)).toNat∧Fresh w.heap.size []∧St w w7 [Z0] []) _) ((((appl s t).length) - (0:Int)).toNat) ⟨_,0,uE2,qf,qx,rfl,N,H.pick [0] []⟩ ?_
 clear H N
 rintro m' ρ w8 ⟨xM,i,rfl,i0,i1,rfl,N,H⟩
 refine zcc (sp (yI i) (sq 1 (oN rfl (sq 1 (zjn (cD rfl (fun h9=>?_) (fun h9=>?_)))))))
 ·skip
  refine qW (t_n (xQ (qY (zcr (sq 1 (sp (yI i) ?_))))))
  obtain ⟨b10,rfl⟩:=H.jW 0 rfl qf
  refine oI rfl rfl (oL rfl (H.rowBool 0 rfl (iv:=i) (i:=i) qf qf) (zjn (xE _ rfl (fun h11=>?_) (fun h11=>?_))))
  ·skip
   refine zcr (sp (.bool false) (zjr (zr5 (ret1 (.bool false) rfl rfl ⟨_,rfl,?_,H.base⟩))))
   rw [xk (fun h=>h i qf (Qu qf ‹_›))]
  refine qW (b_n (t_n (xU (sp (yI i) (sw (zA i 1 rfl rfl qf (sq 1 (xY (xe (m' :=(((appl s t).length) - ((i+1):Int)).toNat) qf ⟨_,i+1,uE2,?_,?_,rfl,N,H⟩)))))))))
  · omega
  · exact i1.succ (yZ qf ‹_›)
 refine zx4 (zcr (sp (.bool true) (zjr (ret1 (.bool true) rfl rfl ⟨_,rfl,?_,H.base⟩))))
 obtain rfl:i=s.qB.length:=by omega
 rw [jY i1]

theorem l03Rest_ok (w:World) (s:qE) (t:qF) (counts:yLI) {qJ:yOA} {xu:yLN} {qV:yOA} {zh:yLN} {xg:yOA} {zu:yLN} {xF:yOA} {zU:yLN} {qU:yOA} {x9:yLN} {acounts:yOA} {Fcounts:yLN} (hs:vG w bs os (yS s qJ qI qV qQ)) (qX:qO.rep w xu [.slice qJ s.qA.length qI] s.qA) (xn:qO.rep w zh [.slice qV s.qB.length qQ] s.qB) (ht:vG w bt ot (yT t xg xf xF xA qU qR)) (xR:qO.rep w zu [.slice xg t.qG.length xf] t.qG) (zn:qO.rep w zU [.slice xF t.qN.length xA] t.qN) (xy:qO.rep w x9 [.slice qU t.qH.length qR] t.qH) (hcounts:qO.rep w Fcounts [.slice acounts counts.length ccounts] counts) (p0:vK s) (p1:xX s t) (p2:CntOk s counts):Calls Tryz.prog 191 #[pp bs os,pp bt ot,.slice acounts counts.length ccounts] w (Ret (fun v w' =>∃ (ra0:yOA) (rn0:Nat) (rc0:Nat) (rx0:List Value) (rF0:yLN),v=.tuple #[.slice ra0 rn0 rc0,.bool (dec (IsCh s t counts))]∧Fresh w.heap.size [rF0]∧St w w' [rr ra0 rn0 rc0 24 1 rx0] [xB true rF0 rx0 (jG s t counts (Xl (BadAt s t counts) counts.length))]) w):=by
 refine en func191 ntmps191 ?_
 have H:=((((((((St.start w).arg hcounts).arg xy).arg zn).arg xR).XO ht).arg xn).arg qX).XO hs
 have zN:=qM qX
 have vW:=qM xn
 have jO:=qM xR
 have yH:=qM zn
 have jg:=qM xy
 have nhcounts:=qM hcounts
 clear hs qX xn ht xR zn xy hcounts
 have N:=Fresh.nil w.heap.size
 have p3:=p0.2.1
 have p6:=p2.1
 have p7:=p1.2.1
 have p8:=kinds_le p0
 have p9:=p0.1.2.1
 have p11:je s=s.qA.length:=rfl
 refine zcr (sq 1 (sp (.bool false) (zjc (sq 2 ?_))))
 have sz4:=H.base.size
 refine sw (oc (l03Applicable_ok _ s t (qC (H.get 0 rfl) 0 3) (H.get 1 rfl).1 (H.get 2 rfl).1 (qC (H.get 3 rfl) 0 3) (H.get 4 rfl).1 (H.get 5 rfl).1 (H.get 6 rfl).1 qg qg) ?_)
 rintro _ w2 ⟨ra1,rn1,rc1,rfl,M,K⟩ _
 replace H:=H.merge K M
 obtain rfl:=H.XC 0 rfl
 have al:=appl_len s t
 refine sq 1 (zjc (sw (vU H underlying29 ti24 fun b7 w8 H=>sq 1 (zjcc (sp (yI 0) (zjn (qY ?_)))))))
 replace H:=H.boxRow 0 rfl 1 0 rfl qj
 replace H:=H.zW (α:=yLI)
 refine zq ((fun Z0 Z1 Z2 Z3 Z4 Z5 Z6 Z7 Z8=>fun m' ρ w9=>∃ (xM:Env) (a_rest:yOA) (n_rest:Nat) (c_rest:Nat) (rest:yLL) (x_rest:List Value) (F_rest:yLN) (c:Nat),ρ=upd (upd (upd (upd (upd (upd xM 0 (pp bs os)) 1 (pp bt ot)) 2 (.slice acounts counts.length ccounts)) 8 (.slice ra1 ((appl s t).length) rc1)) 9 (.slice a_rest n_rest c_rest)) 10 (yI c)∧rest=t.qN.take c∧((c:Int)≤t.qN.length)∧m' =(t.qN.length - (c:Int)).toNat∧Fresh w.heap.size [F_rest]∧St w w9 [rr a_rest n_rest c_rest 24 1 x_rest,Z0] [xB true F_rest x_rest rest,Z1,Z2,Z3,Z4,Z5,Z6,Z7,Z8]) _ _ _ _ _ _ _ _ _) ((t.qN.length - (0:Int)).toNat) ⟨_,(aa b7 0),0,0,([]:yLL),[],[],0,uE6,(by rfl),qf,rfl,N.emp,H⟩ ?_
 clear H N
 rintro m' ρ w10 ⟨xM,a_rest,n_rest,c_rest,rest,x_rest,F_rest,c,rfl,rfl,i0,rfl,N,H⟩
 have hn_rest:=H.xK (α:=yLI) 0 rfl 0 rfl qj
 have p4:=(p1.bagLen (k:=c))
 rw [List.length_take_of_le qf] at hn_rest
 refine zcc (sp (yI c) (sq 2 (oF rfl (oL rfl (H.x8 4 rfl 1 rfl) (oN rfl (sq 1 (zjn (cD rfl (fun h11=>?_) (fun h11=>?_)))))))))
 ·skip
  refine qW (t_n (xQ (qY (xU (sq 3 (oF rfl (oL rfl (H.x8 4 rfl 1 rfl) (sp (yI c) ?_))))))))
  obtain ⟨b12,o13,rfl⟩:=H.addr 6 rfl qf
  obtain ⟨ae15,ce15,Fe15,H⟩:=H.vX 6 rfl c c qf qf qf
  refine oI rfl rfl (oL rfl (H.x8 1 rfl 0 rfl) ?_)
  have p5:=(p1.bagLen (k:=c) qf).len
  have sz16:=H.base.size
  have lt17:=H.ltN (L:=[F_rest]) [2]
  refine sw (oc (Xc _ (t.qN[c]!) (H.get 0 rfl).1 qg) ?_)
  rintro v21 w19 r21 x20
  replace H:=H.zC x20 r21
  obtain ⟨a22,c23,rfl,hc24,hm25⟩:=H.jq 0 rfl
  refine sw (zf H underlying29 ti24 [.slice a22 ((t.qN[c]!).length) c23] fun b26 w27 H=>?_)
  obtain ⟨G31,N,hn32,H⟩:=H.zG 1 rfl N (H.vS [2])
  refine sw (zk H 2 rfl 0 rfl underlying29 ti24 rfl qj rfl rfl rfl qw qp qf fun a28 c29 w30 H=>?_)
  replace H:=H.jM 3 rfl 0 rfl
  replace N:Fresh w.heap.size [(F_rest++G31)]:=(N.pick [1,0]).join
  refine sq 1 (xY (b_n (t_n (xU (sp (yI c) (sw (zA c 1 rfl rfl qf (sq 1 (xY (xe (m' :=(t.qN.length - ((c+1):Int)).toNat) qf ⟨_,_,_,_,_,_,_,c+1,uE6,?_,?_,rfl,N,H.pick [2,3] [0,5,6,7,8,9,10,11,12]⟩))))))))))
  · exact take_snoc qf
  · omega
 refine zx4 (zcc (sp (yI 0) (zjn (qY ?_))))
 refine zq ((fun Z0 Z1 Z2 Z3 Z4=>fun m' ρ w33=>∃ (xM:Env) (i:Nat) (rest_1:yLL) (x_rest_1:List Value) (F_rest_1:yLN),ρ=upd (upd (upd (upd (upd xM 0 (pp bs os)) 2 (.slice acounts counts.length ccounts)) 8 (.slice ra1 ((appl s t).length) rc1)) 9 (.slice a_rest n_rest c_rest)) 11 (yI i)∧rest_1=jG s t counts i∧((i:Int)≤counts.length)∧(GoodTo s t counts i)∧m' =(counts.length - (i:Int)).toNat∧Fresh w.heap.size [F_rest_1]∧St w w33 [rr a_rest n_rest c_rest 24 1 x_rest_1,Z0] [xB true F_rest_1 x_rest_1 rest_1,Z1,Z2,Z3,Z4]) _ _ _ _ _) ((counts.length - (0:Int)).toNat) ⟨_,0,(t.qN.take c),x_rest,F_rest,uE5,(by rw [List.take_of_length_le qf];rfl),qf,qx,rfl,N,H.pick [0,1] [0,1,2,3,8]⟩ ?_
 clear H N
 rintro m' ρ w34 ⟨xM,i,rest_1,x_rest_1,F_rest_1,rfl,rfl,i0,i1,rfl,N,H⟩
 have hn_rest:=H.xK (α:=yLI) 0 rfl 0 rfl qj
 have rl:=restR_len (s:=s) (t:=t) (counts:=counts) i
 refine zcc (sp (yI i) (sq 1 (oN rfl (sq 1 (zjn (cD rfl (fun h35=>?_) (fun h35=>?_)))))))
 ·skip
  have q:=p0.rule (i:=i) qf
  have qc:=q.1
  have qk:=q.cell
  have qr:=q.2.1
  have b1:=q.2.2.2.2.1
  have p10:=p2.bd (i:=i) qf
  refine qW (t_n (xQ (qY (zcc (sq 1 (sp (yI i) ?_))))))
  obtain ⟨b36,o37,rfl⟩:=H.addr 4 rfl qf
  refine oI rfl rfl (oL rfl (H.zH 4 rfl i qf) (sp (.bool (decide ((counts[i]! :Int) > 0))) (sp (.bool (decide ((counts[i]! :Int) > 0))) ?_)))
  cases h39:(decide ((counts[i]! :Int) > 0))
  ·skip
   replace h39:=of_decide_eq_false h39
   refine xZ [51,52,53,54,55] (sp (.bool false) (zjn (xE false rfl (fun h=>absurd h qj) (fun _=>qW (t_n (zcr (sq 2 (oF rfl (oL rfl (H.x8 1 rfl 2 rfl) (sp (yI i) ?_))))))))))
   obtain ⟨b40,o41,rfl⟩:=H.addr 3 rfl qf
   obtain ⟨ae43Need,ce43Need,Fe43Need,ae43Have,ce43Have,Fe43Have,ae43Lack,ce43Lack,Fe43Lack,ae43Here,ce43Here,Fe43Here,ae43Out,ce43Out,Fe43Out,ae43Into,ce43Into,Fe43Into,H⟩:=H.yA 3 rfl i i qf qf qf
   refine oI rfl rfl (oF rfl (oL rfl (H.x8 6 rfl 0 rfl) (sq 1 (zjn ?_))))
   refine yK rfl H [1] fun H=>?_
   have S:=H.jo [1] [0,1,2,3,4,5,6,7,8,9,10,11]
   refine rtl 0 S ?_
   refine rtl 1 S ?_
   refine rtl 2 S ?_
   refine rtl 3 S ?_
   obtain ⟨b45,rfl⟩:=H.jW 0 rfl qf
   have S:=H.jo [1] [0,1,2,3,4,5,6,7,8,9,10,11]
   refine tI 4 rfl rfl rfl S ?_
   refine rtl 6 S ?_
   refine rtl 7 S ?_
   refine tF 8 rfl rfl S ?_
   refine tL 9 rfl rfl (fun _ h=>h.x8 8 rfl 2 rfl) S ?_
   refine rtp 10 (yI i) S ?_
   refine tI 11 rfl rfl rfl S ?_
   refine tF 12 rfl rfl S ?_
   refine tL 13 rfl rfl (fun _ h=>h.x8 6 rfl 2 rfl) S ?_
   refine rtl 14 S ?_
   refine rtp 15 (yI i) S ?_
   refine tI 16 rfl rfl rfl S ?_
   refine tL 17 rfl rfl (fun _ h=>h.zH 11 rfl i qf) S ?_
   refine rt 18 _ (y_neg (counts[i]!) rfl qf) S ?_
   refine ro 5 rfl ?_
   obtain ⟨a46,c47,G48,s49,h50,H⟩:=H.jy 0 rfl 7 rfl (iv:=(s.qB[i]!).qP) (((s.qB[i]!).qP).toNat) qf qf
   refine zl (.slice a46 (((jG s t counts i)[((s.qB[i]!).qP).toNat]!).length) c47) isAgg24 rfl (h50) (⟨H.pick [1] [1,2,3,4,5,6,7,8,9,10,11,12],(ro 19 rfl ?_)⟩)
   obtain ⟨u1,u2⟩:=restR_row (c:=(s.qB[i]!).qP.toNat) p0 p1 p2 (show i≤_ by omega) qk
   have u3:=b1.len
   have u4:=b1.yx (t:= -(counts[i]!)) qf
   have sz51:=H.base.size
   have lt52:=H.ltN (L:=[F_rest_1]) [8]
   refine oc (Xi _ ((jG s t counts i)[((s.qB[i]!).qP).toNat]!) ((s.qB[i]!).zB) (-(counts[i]!)) (H.get 0 rfl).1 (H.get 1 rfl).1 qg qg qg) ?_
   rintro v56 w54 r56 x55
   replace H:=H.zC x55 r56
   obtain ⟨a57,c58,rfl,hc59,hm60⟩:=H.jq 0 rfl
   refine ⟨H.pick [2] [1,2,3,4,5,6,7,8,9,10,11,12],(tI 20 rfl rfl rfl (H.pick [2] [1,2,3,4,5,6,7,8,9,10,11,12]) ?_)⟩
   refine ro 21 rfl ?_
   obtain ⟨G62,N,hn63,H⟩:=H.zG 0 rfl N (H.vS [8])
   refine jE true H 1 rfl 9 rfl (.slice a57 ((jH ((jG s t counts i)[((s.qB[i]!).qP).toNat]!) ((s.qB[i]!).zB) (-(counts[i]!))).length) c58) 0 rfl rfl sizeOf24 rfl rfl (i:=(((s.qB[i]!).qP).toNat)) qf qf qm fun w61 xs64 F65 hs66 H=>?_
   replace N:Fresh w.heap.size [F65]:=(N.pick [1,0]).repl hs66
   refine ⟨H.pick [2] [3,4,5,6,7,8,9,10,11,12,13,14],(xq qh (b_n (t_n (xU (sp (yI i) (sw (zA i 1 rfl rfl qf (sq 1 (xY (xe (m' :=(counts.length - ((i+1):Int)).toNat) qf ⟨_,i+1,_,_,_,uE5,?_,?_,?_,rfl,N,H.pick [1,2] [0,11,12,13,14]⟩))))))))))⟩
   · rfl
   · omega
   · exact i1.succ (fun h=>by obtain ⟨u,v⟩:=h;first | omega | exact v (Qu qf ‹_›))
  replace h39:=of_decide_eq_true h39
  refine qL 50 rfl rfl (sq 1 (qL 50 rfl rfl (sp (yI i) (qL 50 rfl rfl ?_))))
  obtain ⟨b67,rfl⟩:=H.jW 1 rfl qf
  refine oI rfl rfl (qL 50 rfl rfl (oL rfl (H.rowBool 1 rfl (iv:=i) (i:=i) qf qf) (qL 50 rfl rfl (sq 2 (zjn (xE _ rfl (fun h68=>?_) (fun h68=>?_)))))))
  ·skip
   replace h68:=xJ h68
   refine zcr (sq 2 (sp (.bool false) (zjr (t_r (zr5 (ret2 (.slice a_rest n_rest c_rest) (.bool false) rfl rfl rfl ⟨_,rfl,?_,H.base⟩))))))
   rw [stop_first (k:=i) i1 qf ⟨by omega,yZ qf ‹_›⟩,xk (fun h=>h.1 i qf ⟨by omega,yZ qf ‹_›⟩)]
   exact ⟨a_rest,n_rest,c_rest,x_rest_1,F_rest_1,rfl,N,H.pick [0] [0]⟩
  replace h68:=xw h68
  refine qW (t_n (zcr (sq 2 (oF rfl (oL rfl (H.x8 1 rfl 2 rfl) (sp (yI i) ?_))))))
  obtain ⟨b69,o70,rfl⟩:=H.addr 3 rfl qf
  obtain ⟨ae72Need,ce72Need,Fe72Need,ae72Have,ce72Have,Fe72Have,ae72Lack,ce72Lack,Fe72Lack,ae72Here,ce72Here,Fe72Here,ae72Out,ce72Out,Fe72Out,ae72Into,ce72Into,Fe72Into,H⟩:=H.yA 3 rfl i i qf qf qf
  refine oI rfl rfl (oF rfl (oL rfl (H.x8 6 rfl 0 rfl) (sq 1 (zjn ?_))))
  refine yK rfl H [1] fun H=>?_
  have S:=H.jo [1] [0,1,2,3,4,5,6,7,8,9,10,11]
  refine rtl 0 S ?_
  refine rtl 1 S ?_
  refine rtl 2 S ?_
  refine rtl 3 S ?_
  obtain ⟨b74,rfl⟩:=H.jW 0 rfl qf
  have S:=H.jo [1] [0,1,2,3,4,5,6,7,8,9,10,11]
  refine tI 4 rfl rfl rfl S ?_
  refine rtl 6 S ?_
  refine rtl 7 S ?_
  refine tF 8 rfl rfl S ?_
  refine tL 9 rfl rfl (fun _ h=>h.x8 8 rfl 2 rfl) S ?_
  refine rtp 10 (yI i) S ?_
  refine tI 11 rfl rfl rfl S ?_
  refine tF 12 rfl rfl S ?_
  refine tL 13 rfl rfl (fun _ h=>h.x8 6 rfl 2 rfl) S ?_
  refine rtl 14 S ?_
  refine rtp 15 (yI i) S ?_
  refine tI 16 rfl rfl rfl S ?_
  refine tL 17 rfl rfl (fun _ h=>h.zH 11 rfl i qf) S ?_
  refine rt 18 _ (y_neg (counts[i]!) rfl qf) S ?_
  refine ro 5 rfl ?_
  obtain ⟨a75,c76,G77,s78,h79,H⟩:=H.jy 0 rfl 7 rfl (iv:=(s.qB[i]!).qP) (((s.qB[i]!).qP).toNat) qf qf
  refine zl (.slice a75 (((jG s t counts i)[((s.qB[i]!).qP).toNat]!).length) c76) isAgg24 rfl (h79) (⟨H.pick [1] [1,2,3,4,5,6,7,8,9,10,11,12],(ro 19 rfl ?_)⟩)
  obtain ⟨u1,u2⟩:=restR_row (c:=(s.qB[i]!).qP.toNat) p0 p1 p2 (show i≤_ by omega) qk
  have u3:=b1.len
  have u4:=b1.yx (t:= -(counts[i]!)) qf
  have sz80:=H.base.size
  have lt81:=H.ltN (L:=[F_rest_1]) [8]
  refine oc (Xi _ ((jG s t counts i)[((s.qB[i]!).qP).toNat]!) ((s.qB[i]!).zB) (-(counts[i]!)) (H.get 0 rfl).1 (H.get 1 rfl).1 qg qg qg) ?_
  rintro v85 w83 r85 x84
  replace H:=H.zC x84 r85
  obtain ⟨a86,c87,rfl,hc88,hm89⟩:=H.jq 0 rfl
  refine ⟨H.pick [2] [1,2,3,4,5,6,7,8,9,10,11,12],(tI 20 rfl rfl rfl (H.pick [2] [1,2,3,4,5,6,7,8,9,10,11,12]) ?_)⟩
  refine ro 21 rfl ?_
  obtain ⟨G91,N,hn92,H⟩:=H.zG 0 rfl N (H.vS [8])
  refine jE true H 1 rfl 9 rfl (.slice a86 ((jH ((jG s t counts i)[((s.qB[i]!).qP).toNat]!) ((s.qB[i]!).zB) (-(counts[i]!))).length) c87) 0 rfl rfl sizeOf24 rfl rfl (i:=(((s.qB[i]!).qP).toNat)) qf qf qm fun w90 xs93 F94 hs95 H=>?_
  replace N:Fresh w.heap.size [F94]:=(N.pick [1,0]).repl hs95
  refine ⟨H.pick [2] [3,4,5,6,7,8,9,10,11,12,13,14],(xq qh (b_n (t_n (xU (sp (yI i) (sw (zA i 1 rfl rfl qf (sq 1 (xY (xe (m' :=(counts.length - ((i+1):Int)).toNat) qf ⟨_,i+1,_,_,_,uE5,?_,?_,?_,rfl,N,H.pick [1,2] [0,11,12,13,14]⟩))))))))))⟩
  · rfl
  · omega
  · exact i1.succ (fun h=>by obtain ⟨u,v⟩:=h;first | omega | exact v (Qu qf ‹_›))
 refine zx4 (zcc (sp (yI 0) (zjn (qY ?_))))
 refine zq ((fun Z0 Z1 Z2=>fun m' ρ w96=>∃ (xM:Env) (c_1:Nat),ρ=upd (upd xM 9 (.slice a_rest n_rest c_rest)) 13 (yI c_1)∧((c_1:Int)≤n_rest)∧(NonNeg (jG s t counts i) c_1)∧m' =(n_rest - (c_1:Int)).toNat∧Fresh w.heap.size [F_rest_1]∧St w w96 [Z0,Z1] [Z2]) _ _ _) ((n_rest - (0:Int)).toNat) ⟨_,0,uE2,qf,qx,rfl,N,H.pick [0,1] [0]⟩ ?_
 clear H N
 rintro m' ρ w97 ⟨xM,c_1,rfl,i0,i2,rfl,N,H⟩
 refine zcc (sq 2 (oN rfl (sq 1 (zjn (cD rfl (fun h98=>?_) (fun h98=>?_))))))
 ·skip
  have r1:=(restR_row (c:=c_1) p0 p1 p2 (show i≤_ by omega) (show c_1 < je s by omega)).1
  refine qW (t_n (xQ (qY (zcr (sp (yI 0) (zjn (qY ?_)))))))
  refine zq ((fun Z0 Z1 Z2=>fun m' ρ w99=>∃ (xM:Env) (k:Nat),ρ=upd (upd (upd xM 9 (.slice a_rest n_rest c_rest)) 13 (yI c_1)) 14 (yI k)∧((k:Int)≤(((jG s t counts i)[c_1]!).length))∧(∀ j,j < k→0≤((jG s t counts i)[c_1]!)[j]!)∧m' =((((jG s t counts i)[c_1]!).length) - (k:Int)).toNat∧Fresh w.heap.size [F_rest_1]∧St w w99 [Z0,Z1] [Z2]) _ _ _) (((((jG s t counts i)[c_1]!).length) - (0:Int)).toNat) ⟨_,0,uE3,qf,qx,rfl,N,H⟩ ?_
  clear H N
  rintro m' ρ w100 ⟨xM,k,rfl,i0,i3,rfl,N,H⟩
  refine zcc (sp (yI k) (sq 2 ?_))
  obtain ⟨b101,rfl⟩:=H.jW 0 rfl qf
  refine oI rfl rfl ?_
  obtain ⟨a102,c103,G104,s105,h106,H⟩:=H.jy 0 rfl 0 rfl (iv:=c_1) c_1 qf qf
  refine oL rfl (h106) (oN rfl (sq 1 (zjn (cD rfl (fun h107=>?_) (fun h107=>?_)))))
  ·skip
   refine qW (t_n (xQ (qY (zcr (sq 2 (oI rfl rfl ?_))))))
   obtain ⟨a108,c109,G110,s111,h112,H⟩:=H.jy 0 rfl 1 rfl (iv:=c_1) c_1 qf qf
   refine oL rfl (h112) (sp (yI k) ?_)
   obtain ⟨b113,o114,rfl⟩:=H.addr 0 rfl qf
   refine oI rfl rfl (oL rfl (H.zH 0 rfl k qf) (sp (.bool (decide ((((jG s t counts i)[c_1]!)[k]! :Int) < 0))) (zjn (cD rfl (fun h116=>?_) (fun h116=>?_)))))
   ·skip
    refine zcr (sq 2 (sp (.bool false) (zjr (b_r (t_r (t_r (b_r (zr5 (ret2 (.slice (aa b101 0) n_rest c_rest) (.bool false) rfl rfl rfl ⟨_,rfl,?_,H.base⟩)))))))))
    obtain rfl:i=counts.length:=by omega
    rw [stop_none (n:=counts.length) i1,xk (fun h=>by have:=h.2 c_1 qf k qf;omega)]
    exact ⟨(aa b101 0),n_rest,c_rest,x_rest_1,F_rest_1,rfl,N,H.pick [0] [2]⟩
   refine qW (b_n (t_n (xU (sp (yI k) (sw (zA k 1 rfl rfl qf (sq 1 (xY (xe (m' :=((((jG s t counts i)[c_1]!).length) - ((k+1):Int)).toNat) qf ⟨_,k+1,uE3,?_,?_,rfl,N,H.pick [0,1] [2]⟩)))))))))
   · omega
   · exact fun j hj=>by (by_cases e:j=k;(subst e;omega);exact i3 j qf)
  refine c_exit (t_x (t_x (b_x (b_n (t_n (xU (sq 1 (sw (zA c_1 1 rfl rfl qf (sq 1 (xY (xe (m' :=(n_rest - ((c_1+1):Int)).toNat) qf ⟨_,c_1+1,uE2,?_,?_,rfl,N,H.pick [0,1] [1]⟩))))))))))))
  · omega
  · exact i2.succ (fun j hj=>i3 j qf)
 refine zx4 (zcr (sq 2 (sp (.bool true) (zjr (ret2 (.slice a_rest n_rest c_rest) (.bool true) rfl rfl rfl ⟨_,rfl,?_,H.base⟩)))))
 obtain rfl:i=counts.length:=by omega
 rw [stop_none (n:=counts.length) i1,jY ⟨i1,(show c_1=t.qN.length by omega)▸i2⟩]
 exact ⟨a_rest,n_rest,c_rest,x_rest_1,F_rest_1,rfl,N,H.pick [0] [0]⟩
theorem l03Step_ok (w:World) (s:qE) (t:qF) (counts:yLI) {qJ:yOA} {xu:yLN} {qV:yOA} {zh:yLN} {xg:yOA} {zu:yLN} {xF:yOA} {zU:yLN} {qU:yOA} {x9:yLN} {acounts:yOA} {Fcounts:yLN} (hs:vG w bs os (yS s qJ qI qV qQ)) (qX:qO.rep w xu [.slice qJ s.qA.length qI] s.qA) (xn:qO.rep w zh [.slice qV s.qB.length qQ] s.qB) (ht:vG w bt ot (yT t xg xf xF xA qU qR)) (xR:qO.rep w zu [.slice xg t.qG.length xf] t.qG) (zn:qO.rep w zU [.slice xF t.qN.length xA] t.qN) (xy:qO.rep w x9 [.slice qU t.qH.length qR] t.qH) (hcounts:qO.rep w Fcounts [.slice acounts counts.length ccounts] counts) (p0:vK s) (p1:xX s t) (p2:CntOk s counts):Calls Tryz.prog 157 #[pp bs os,pp bt ot,.slice acounts counts.length ccounts] w (Ret (fun v w' =>∃ (ra0Alive:yOA) (rn0Alive:Nat) (rc0Alive:Nat) (ra0Bags:yOA) (rn0Bags:Nat) (rc0Bags:Nat) (rx0Bags:List Value) (rF0Bags:yLN) (ra0Around:yOA) (rn0Around:Nat) (rc0Around:Nat),v=.tuple #[.agg #[.slice ra0Alive rn0Alive rc0Alive,.slice ra0Bags rn0Bags rc0Bags,.slice ra0Around rn0Around rc0Around],yI ((zF s t counts).2)]∧Fresh w.heap.size [rF0Bags]∧St w w' [rr ra0Alive rn0Alive rc0Alive 4 1 ((((zF s t counts).1).qG).map (Value.bool)),rr ra0Bags rn0Bags rc0Bags 24 1 rx0Bags,rr ra0Around rn0Around rc0Around 2 1 ((((zF s t counts).1).qH).map (Value.int .i64))] [xB true rF0Bags rx0Bags (((zF s t counts).1).qN)]) w):=by
 refine en func157 ntmps157 ?_
 have H:=((((((((St.start w).arg hcounts).arg xy).arg zn).arg xR).XO ht).arg xn).arg qX).XO hs
 have zN:=qM qX
 have vW:=qM xn
 have jO:=qM xR
 have yH:=qM zn
 have jg:=qM xy
 have nhcounts:=qM hcounts
 clear hs qX xn ht xR zn xy hcounts
 have N:=Fresh.nil w.heap.size
 have p3:=p0.2.1
 have p6:=p2.1
 have p7:=p1.2.1
 have p8:=kinds_le p0
 have p9:=p0.1.2.1
 have p11:je s=s.qA.length:=rfl
 have p12:=p1.1
 have p15:=p0.1
 have p16:=p0.1.1
 obtain ⟨q7,q8,q9,q10⟩:=p1.sizes p0.1
 have q13:=fun k hk=>Nat.le_trans (q10 k hk) (by decide:8≤1000000)
 have p14:=restR_len (s:=s) (t:=t) (counts:=counts)
 refine zcr (sw (xx H ti31 [yN,yN,yN] fun b1 w2 H=>sp (yI 0) (zjc (sq 3 ?_))))
 have sz6:=H.base.size
 refine sw (oc (l03Rest_ok _ s t counts (qC (H.get 0 rfl) 0 3) (H.get 1 rfl).1 (H.get 2 rfl).1 (qC (H.get 3 rfl) 0 3) (H.get 4 rfl).1 (H.get 5 rfl).1 (H.get 6 rfl).1 (H.get 7 rfl).1 qg qg qg) ?_)
 rintro _ w4 ⟨ra3a,rn3a,rc3a,rx3a,rF3a,rfl,M,K⟩ _
 replace N:=N.merge sz6 qm M
 replace H:=H.merge K M
 obtain rfl:=H.xK (α:=yLI) 0 rfl 0 rfl qj
 refine sq 5 (zjcc (sq 2 (zjn (cQ rfl (fun h9=>?_) (fun h9=>?_)))))
 ·skip
  refine zcr (sw (zO [yN,yN,yN] [] (sw (xG H 1 [yN,yN,yN] sizeOf31 fun w10 H=>sp (yI 4) (zjr (t_r ?_))))))
  replace H:=H.nilRowB 4
  replace H:=H.nilRow 24 1
  replace H:=H.zW (α:=yLI)
  replace H:=H.nilRowI 2
  refine retC2 H 4 rfl (yI 4) rfl isAgg31 sizeOf31 rfl rfl ⟨_,rfl,?_,H.base⟩
  rw [stepBy_no ‹_›]
  exact ⟨none,0,0,none,0,0,[],[],none,0,0,rfl,(N.emp.pick [0]),H.pick [2,1,0] [0]⟩
 have st:=stop_none (n:=counts.length) (P:=BadAt s t counts) (‹IsCh s t counts›).1
 have r1:=restR_len (s:=s) (t:=t) (counts:=counts) (Xl (BadAt s t counts) counts.length)
 refine qW (t_n (zcr (sq 1 ?_)))
 have sz14:=H.base.size
 have lt15:=H.ltN (L:=[rF3a]) [0]
 refine sw (oc (l02Own_ok _ t (qC (H.get 4 rfl) 0 3) (H.get 5 rfl).1 (H.get 6 rfl).1 (H.get 7 rfl).1 qg qg qg qg) ?_)
 rintro _ w12 ⟨Xp,rn11Alive,Xo,ra11Bags,rn11Bags,rc11Bags,rx11Bags,y5,ra11Around,rn11Around,rc11Around,rfl,M,K⟩ _
 replace N:=N.merge sz14 lt15 M
 replace H:=H.merge K M
 obtain rfl:=H.XC 0 rfl
 obtain rfl:=H.xK (α:=yLI) 1 rfl 0 rfl qj
 obtain rfl:=H.jm 2 rfl
 refine sw (xx H ti31 [yN,yN,yN] fun b19 w20 H=>sw (xG H 0 (yT t Xp Xo ra11Bags rc11Bags ra11Around rc11Around) sizeOf31 fun w21 H=>zjc (sq 1 (oF rfl (sw (xO H 0 [.slice Xp t.qG.length Xo,.slice ra3a ((jG s t counts (Xl (BadAt s t counts) counts.length)).length) rc3a,.slice ra11Around t.qH.length rc11Around] sizeOf29 fun w22 H=>zjcc (sp (yI 0) ?_)))))))
 refine zjn (qY ?_)
 refine zq ((fun Z0 Z1 Z2 Z3 Z4 Z5 Z6 Z7 Z8 Z9 Z10 Z11=>fun m' ρ w23=>∃ (xM:Env) (i:Nat) (Qq:yOA) (Qo:Nat) (Qp:Nat) (out_Around:yLI) (rest:yLL) (x_rest:List Value) (F_rest:yLN),ρ=upd (upd (upd (upd (upd (upd xM 0 (pp bs os)) 1 (pp bt ot)) 2 (.slice acounts counts.length ccounts)) 6 (pp b1 0)) 10 (pp b19 0)) 11 (yI i)∧((i:Int)≤counts.length)∧(Ent (s.qA.length+1) (yL s) (fun p q=>base0 s t p q+needS s counts s.qB.length p q+putS s t counts i p q) (20000000+6000000 * i) (rest++[out_Around]))∧(rest.length=s.qA.length)∧m' =(counts.length - (i:Int)).toNat∧Fresh w.heap.size [y5,F_rest]∧St w w23 [.box b19 [.slice Xp t.qG.length Xo,.slice ra3a ((jG s t counts (Xl (BadAt s t counts) counts.length)).length) rc3a,.slice Qq Qo Qp] 31,Z0,Z1,rr Qq Qo Qp 2 1 (out_Around.map (Value.int .i64)),rr ra3a ((jG s t counts (Xl (BadAt s t counts) counts.length)).length) rc3a 24 1 x_rest,Z2] [Z3,xB true F_rest x_rest rest,Z4,Z5,Z6,Z7,Z8,Z9,Z10,Z11]) _ _ _ _ _ _ _ _ _ _ _ _) ((counts.length - (0:Int)).toNat) ⟨_,0,ra11Around,t.qH.length,rc11Around,t.qH,jG s t counts (Xl (BadAt s t counts) counts.length),rx3a,rF3a,uE6,qf,(by rw [st,p6];exact (rest_ent p0 p1 p2).to (fun _ _=>rfl) qf),qf,rfl,N,H⟩ ?_
 clear H N
 rintro m' ρ w24 ⟨xM,i,Qq,Qo,Qp,out_Around,rest,x_rest,F_rest,rfl,i0,E_rest,z_rest,rfl,N,H⟩
 have hn_out_Around:=H.jm 3 rfl
 have hn_rest:=H.xK (α:=yLI) 4 rfl 1 rfl qj
 refine zcc (sp (yI i) (sq 1 (oN rfl (sq 1 (zjn (cD rfl (fun h25=>?_) (fun h25=>?_)))))))
 ·skip
  have q:=p0.rule (i:=i) qf
  have qc:=q.1
  have qk:=q.cell
  have qr:=q.2.1
  have bn1:=q.2.2.2.2.1
  have bn2:=q.2.2.2.2.2.2.2.1
  have bn3:=q.2.2.2.2.2.2.2.2.1
  have ln1:=bn1.len
  have ln2:=bn2.len
  have ln3:=bn3.len
  have p10:=p2.bd (i:=i) qf
  have qn:=q.2.2.2.1
  refine qW (t_n (xQ (qY (zcr (sq 2 (oF rfl (oL rfl (H.x8 2 rfl 2 rfl) (sp (yI i) ?_))))))))
  obtain ⟨b26,o27,rfl⟩:=H.addr 4 rfl qf
  obtain ⟨QQ,Qb,Ve,Qg,Qd,Vh,Qe,Qc,Vf,ae29Here,ce29Here,Fe29Here,Xw,Xu,Fe29Out,Qw,Qv,Vg,H⟩:=H.yA 4 rfl i i qf qf qf
  refine oI rfl rfl (sq 1 (zjcc (sq 1 (sp (yI i) ?_))))
  obtain ⟨b30,o31,rfl⟩:=H.addr 16 rfl qf
  refine oI rfl rfl (oL rfl (H.zH 16 rfl i qf) (sp (.bool ((counts[i]! :Int) == 0)) (zjn (cE rfl (fun h33=>?_) (fun h33=>?_)))))
  ·skip
   refine c_exit (t_x (b_x (t_n (xU (sp (yI i) (sw (zA i 1 rfl rfl qf (sq 1 (xY (xe (m' :=(counts.length - ((i+1):Int)).toNat) qf ⟨_,i+1,_,_,_,_,_,_,_,uE6,?_,?_,?_,rfl,N,H.pick [0,1,2,3,4,5] [7,8,9,10,11,12,13,14,15,16]⟩))))))))))
   · omega
   · first | exact E_rest.to (fun p q=>by simp only [putS_skip (s:=s) (t:=t) (counts:=counts) (i:=i) ‹_›]) qf | exact E_out_Bags.to (fun p q=>by rw [show k=((s.qB[i]!).xh).length by omega];simp only [putS,putF];omega) qf
   · omega
  refine qW (t_n (xQ ?_))
  refine yK rfl H [0,1,2,3,5] fun H=>?_
  have S:=H.jo [0,1,2,3,5] [0,1,2,3,4,5,6,7,8,9,10,11,12,13,14,15,16]
  refine tF 0 rfl rfl S ?_
  refine tL 1 rfl rfl (fun _ h=>h.cell 0 rfl rfl) S ?_
  refine rtl 2 S ?_
  refine rtl 3 S ?_
  refine tF 4 rfl rfl S ?_
  refine tL 5 rfl rfl (fun _ h=>h.x8 6 rfl 0 rfl) S ?_
  refine tF 6 rfl rfl S ?_
  refine tL 7 rfl rfl (fun _ h=>h.cell 0 rfl rfl) S ?_
  refine rtl 8 S ?_
  refine rtl 9 S ?_
  refine tF 10 rfl rfl S ?_
  refine tL 11 rfl rfl (fun _ h=>h.x8 6 rfl 0 rfl) S ?_
  obtain ⟨b35,rfl⟩:=H.jW 4 rfl qf
  have S:=H.jo [0,1,2,3,5] [0,1,2,3,4,5,6,7,8,9,10,11,12,13,14,15,16]
  refine tI 12 rfl rfl rfl S ?_
  refine rtl 14 S ?_
  refine rtl 15 S ?_
  refine tF 16 rfl rfl S ?_
  refine tL 17 rfl rfl (fun _ h=>h.x8 6 rfl 5 rfl) S ?_
  refine rtl 18 S ?_
  refine rtp 19 (yI i) S ?_
  refine tI 20 rfl rfl rfl S ?_
  refine tL 21 rfl rfl (fun _ h=>h.zH 16 rfl i qf) S ?_
  refine ro 13 rfl ?_
  obtain ⟨a36,c37,G38,s39,h40,H⟩:=H.jy 4 rfl 8 rfl (iv:=(s.qB[i]!).qP) (((s.qB[i]!).qP).toNat) qf qf
  refine zl (.slice a36 ((rest[((s.qB[i]!).qP).toNat]!).length) c37) isAgg24 rfl (h40) (⟨H.pick [0,1,2,3,5] [1,2,3,4,5,6,7,8,9,10,11,12,13,14,15,16,17],(ro 22 rfl ?_)⟩)
  obtain ⟨u1,u2⟩:=Ent.rowL E_rest (c:=((s.qB[i]!).qP).toNat) qf qf qf qf
  have u4:=(by first | exact bn2.yx qf | exact bn3.yx qf | exact bn4.yx qf:SmallT ((s.qB[i]!).vT) (counts[i]!))
  have sz41:=H.base.size
  have lt42:=H.ltN (L:=[y5,F_rest]) [8,9]
  refine oc (Xi _ (rest[((s.qB[i]!).qP).toNat]!) ((s.qB[i]!).vT) (counts[i]!) (H.get 0 rfl).1 (H.get 4 rfl).1 qg qg qg) ?_
  rintro v46 w44 r46 x45
  replace H:=H.zC x45 r46
  obtain ⟨a47,c48,rfl,hc49,hm50⟩:=H.jq 0 rfl
  refine ⟨H.pick [1,2,3,4,6] [1,2,3,4,5,6,7,8,9,10,11,12,13,14,15,16,17],(tI 23 rfl rfl rfl (H.pick [1,2,3,4,6] [1,2,3,4,5,6,7,8,9,10,11,12,13,14,15,16,17]) ?_)⟩
  refine ro 24 rfl ?_
  obtain ⟨G52,N,hn53,H⟩:=H.zG 0 rfl N (H.vS [8,9])
  refine jE true H 5 rfl 10 rfl (.slice a47 ((jH (rest[((s.qB[i]!).qP).toNat]!) ((s.qB[i]!).vT) (counts[i]!)).length) c48) 0 rfl rfl sizeOf24 rfl rfl (i:=(((s.qB[i]!).qP).toNat)) qf qf qm fun w51 xs54 F55 hs56 H=>?_
  replace N:Fresh w.heap.size [F55,y5]:=(N.pick [2,0,1]).repl hs56
  refine ⟨H.pick [1,2,3,4,6] [3,4,5,6,7,8,9,10,11,12,13,14,15,16,17,18,19],(xq qh (t_n (zcc (sq 2 (oF rfl (oL rfl (H.x8 9 rfl 0 rfl) (sp (.bool (((s.qB[i]!).qP:Int) == 0)) (zjn (cE rfl (fun h57=>?_) (fun h57=>?_))))))))))⟩
  ·skip
   obtain ⟨bg58,e_bg58⟩:∃ z,z=(rest.set (((s.qB[i]!).qP).toNat) (jH (rest[((s.qB[i]!).qP).toNat]!) ((s.qB[i]!).vT) (counts[i]!))):=⟨_,rfl⟩
   rw [← e_bg58] at H
   have E_bg58:=Ent.addL (D:=1000000) E_rest e_bg58 qf qf (by first | exact bn2.mul qf | exact bn3.mul qf | exact bn4.mul qf) qf
   have z_bg58:bg58.length=s.qA.length:=by rw [e_bg58,List.length_set];omega
   have E_cur:=E_bg58
   refine yK rfl H [0,2,3,4,5,6] fun H=>?_
   have S:=H.jo [0,2,3,4,5,6] [0,1,2,3,4,5,6,7,8,9,10,11,12,13,14,15,16,17,18,19]
   refine tF 0 rfl rfl S ?_
   refine rtl 2 S ?_
   refine rtl 3 S ?_
   refine tF 4 rfl rfl S ?_
   refine tL 5 rfl rfl (fun _ h=>h.x8 9 rfl 6 rfl) S ?_
   refine rtl 6 S ?_
   refine rtp 7 (yI i) S ?_
   refine tI 8 rfl rfl rfl S ?_
   refine tL 9 rfl rfl (fun _ h=>h.zH 19 rfl i qf) S ?_
   refine ro 1 rfl (zl (.slice Qq Qo Qp) isAgg24 rfl (H.cell 1 rfl rfl) (⟨H.pick [0,2,3,4,5,6] [0,1,2,3,4,5,6,7,8,9,10,11,12,13,14,15,16,17,18,19],(ro 10 rfl ?_)⟩))
   obtain ⟨G60,hn61,h62⟩:=H.Qi 4 rfl
   obtain ⟨u1,u2⟩:=Ent.rowN E_bg58 qf qf qf
   have u4:=(by first | exact bn2.yx qf | exact bn3.yx qf | exact bn4.yx qf:SmallT ((s.qB[i]!).yP) (counts[i]!))
   have sz63:=H.base.size
   have lt64:=H.ltN (L:=[F55,y5]) [0,10]
   refine oc (XY (by rw [← hn61]) (Xi _ out_Around ((s.qB[i]!).yP) (counts[i]!) (hn61▸h62) (H.get 7 rfl).1 qg qg qg)) ?_
   rintro v68 w66 r68 x67
   replace H:=H.zC x67 r68
   obtain ⟨a69,c70,rfl,hc71,hm72⟩:=H.jq 0 rfl
   refine ⟨H.pick [1,3,4,5,6,7] [0,1,2,3,4,5,6,7,8,9,10,11,12,13,14,15,16,17,18,19],(tF 11 rfl rfl (H.pick [1,3,4,5,6,7] [0,1,2,3,4,5,6,7,8,9,10,11,12,13,14,15,16,17,18,19]) ?_)⟩
   refine ro 12 rfl (xO H 2 [.slice Xp t.qG.length Xo,.slice (aa b35 0) ((jG s t counts (Xl (BadAt s t counts) counts.length)).length) rc3a,.slice a69 ((jH out_Around ((s.qB[i]!).yP) (counts[i]!)).length) c70] sizeOf24 fun w73 H=>⟨H.pick [1,3,4,5,6,7] [0,1,2,3,4,5,6,7,8,9,10,11,12,13,14,15,16,17,18,19],(xq qh (t_n (zcr (sp (yI 0) (zjn (qY ?_))))))⟩)
   replace E_bg58:=Ent.addN (D:=1000000) (a' :=jH out_Around ((s.qB[i]!).yP) (counts[i]!)) E_bg58 rfl qf (by first | exact bn2.mul qf | exact bn3.mul qf | exact bn4.mul qf) qf
   have E_cur:=E_bg58
   refine zq ((fun Z0 Z1 Z2 Z3 Z4 Z5 Z6 Z7 Z8 Z9 Z10 Z11 Z12 Z13 Z14 Z15 Z16 Z17 Z18 Z19 Z20 Z21=>fun m' ρ w74=>∃ (xM:Env) (k:Nat) (out_Bags:yLL) (vC:List Value) (zo:yLN),ρ=upd (upd (upd (upd (upd (upd (upd (upd xM 0 (pp bs os)) 1 (pp bt ot)) 2 (.slice (aa b30 o31) counts.length ccounts)) 6 (pp b1 0)) 10 (pp b19 0)) 11 (yI i)) 12 (pp b26 (o27+(i:Int).toNat * 9))) 14 (yI k)∧((k:Int)≤(((s.qB[i]!).xh).length))∧(Ent (s.qA.length+1) (yL s) (fun p q=>base0 s t p q+needS s counts s.qB.length p q+putS s t counts i p q+at' p (s.qB[i]!).qP.toNat (counts[i]! * ((s.qB[i]!).vT)[q]!)+at' p (outPl s t (s.qB[i]!)) (counts[i]! * ((s.qB[i]!).yP)[q]!)+intoF (s.qB[i]!) (counts[i]!) k p q) (22000000+6000000 * i+1000000 * k) (out_Bags++[jH out_Around ((s.qB[i]!).yP) (counts[i]!)]))∧(out_Bags.length=s.qA.length)∧m' =((((s.qB[i]!).xh).length) - (k:Int)).toNat∧Fresh w.heap.size [y5,zo]∧St w w74 [Z0,Z1,Z2,Z3,Z4,rr (aa b35 0) ((jG s t counts (Xl (BadAt s t counts) counts.length)).length) rc3a 24 1 vC,Z5] [xB true zo vC out_Bags,Z6,Z7,Z8,Z9,Z10,Z11,Z12,Z13,Z14,Z15,Z16,Z17,Z18,Z19,Z20,Z21]) _ _ _ _ _ _ _ _ _ _ _ _ _ _ _ _ _ _ _ _ _ _) (((((s.qB[i]!).xh).length) - (0:Int)).toNat) ⟨_,0,bg58,xs54,F55,uE8,qf,(by exact E_cur.to (fun p q=>by first | (simp only [intoF,outPl_root (s:=s) (t:=t) (r:=s.qB[i]!) ‹_›,je];omega) | (simp only [intoF,outPl_up (s:=s) (t:=t) (r:=s.qB[i]!) ‹_›];omega)) qf),qf,rfl,(N.pick [1,0]),H.pick [0,2,3,4,5,6,7] [0,3,4,5,6,7,8,9,10,12,13,14,15,16,17,18,19]⟩ ?_
   clear H N
   rintro m' ρ w75 ⟨xM,k,out_Bags,vC,zo,rfl,i0,E_out_Bags,z_out_Bags,rfl,N,H⟩
   have Vl:=H.xK (α:=yLI) 5 rfl 0 rfl qj
   refine zcc (sp (yI k) (sq 2 (oF rfl (oL rfl (H.x8 7 rfl 7 rfl) (oN rfl (sq 1 (zjn (cD rfl (fun h76=>?_) (fun h76=>?_)))))))))
   ·skip
    have qi:=q.2.2.2.2.2.2.2.2.2.2 k qf
    have qi1:=qi.1
    have bn4:=qi.2.2.1
    have ln4:=bn4.len
    refine qW (t_n (xQ (qY (zcr (sq 2 (oF rfl (oL rfl (H.x8 7 rfl 7 rfl) (sp (yI k) ?_))))))))
    obtain ⟨b77,o78,rfl⟩:=H.addr 6 rfl qf
    obtain ⟨ae80Bag,ce80Bag,Fe80Bag,H⟩:=H.yM 6 rfl k k qf qf qf
    refine oI rfl rfl (oF rfl (oL rfl (H.x8 1 rfl 0 rfl) (sq 1 (zjn ?_))))
    refine yK rfl H [0,1,2,3,4,6] fun H=>?_
    have S:=H.jo [0,1,2,3,4,6] [0,1,2,3,4,5,6,7,8,9,10,11,12,13,14,15,16,17,18]
    refine tF 0 rfl rfl S ?_
    refine tL 1 rfl rfl (fun _ h=>h.cell 1 rfl rfl) S ?_
    refine rtl 2 S ?_
    refine tF 3 rfl rfl S ?_
    refine tL 4 rfl rfl (fun _ h=>h.cell 1 rfl rfl) S ?_
    refine rtl 5 S ?_
    refine tI 6 rfl rfl rfl S ?_
    refine rtl 8 S ?_
    refine rtl 9 S ?_
    refine tF 10 rfl rfl S ?_
    refine tL 11 rfl rfl (fun _ h=>h.x8 9 rfl 7 rfl) S ?_
    refine rtp 12 (yI k) S ?_
    refine tI 13 rfl rfl rfl S ?_
    refine tF 14 rfl rfl S ?_
    refine tL 15 rfl rfl (fun _ h=>h.x8 1 rfl 1 rfl) S ?_
    refine rtl 16 S ?_
    refine rtp 17 (yI i) S ?_
    refine tI 18 rfl rfl rfl S ?_
    refine tL 19 rfl rfl (fun _ h=>h.zH 18 rfl i qf) S ?_
    refine ro 7 rfl ?_
    obtain ⟨a82,c83,G84,s85,h86,H⟩:=H.jy 5 rfl 2 rfl (iv:=(((s.qB[i]!).xh)[k]!).qP) (((((s.qB[i]!).xh)[k]!).qP).toNat) qf qf
    refine zl (.slice a82 ((out_Bags[((((s.qB[i]!).xh)[k]!).qP).toNat]!).length) c83) isAgg24 rfl (h86) (⟨H.pick [0,1,2,3,4,6] [1,2,3,4,5,6,7,8,9,10,11,12,13,14,15,16,17,18,19],(ro 20 rfl ?_)⟩)
    obtain ⟨u1,u2⟩:=Ent.rowL E_out_Bags (c:=((((s.qB[i]!).xh)[k]!).qP).toNat) qf qf qf qf
    have u4:=(by first | exact bn2.yx qf | exact bn3.yx qf | exact bn4.yx qf:SmallT ((((s.qB[i]!).xh)[k]!).QG) (counts[i]!))
    have sz87:=H.base.size
    have lt88:=H.ltN (L:=[y5,zo]) [11,3]
    refine oc (Xi _ (out_Bags[((((s.qB[i]!).xh)[k]!).qP).toNat]!) ((((s.qB[i]!).xh)[k]!).QG) (counts[i]!) (H.get 0 rfl).1 (H.get 1 rfl).1 qg qg qg) ?_
    rintro v92 w90 r92 x91
    replace H:=H.zC x91 r92
    obtain ⟨a93,c94,rfl,hc95,hm96⟩:=H.jq 0 rfl
    refine ⟨H.pick [1,2,3,4,5,7] [1,2,3,4,5,6,7,8,9,10,11,12,13,14,15,16,17,18,19],(tI 21 rfl rfl rfl (H.pick [1,2,3,4,5,7] [1,2,3,4,5,6,7,8,9,10,11,12,13,14,15,16,17,18,19]) ?_)⟩
    refine ro 22 rfl ?_
    obtain ⟨G98,N,hn99,H⟩:=H.zG 0 rfl N (H.vS [11,3])
    refine jE true H 6 rfl 4 rfl (.slice a93 ((jH (out_Bags[((((s.qB[i]!).xh)[k]!).qP).toNat]!) ((((s.qB[i]!).xh)[k]!).QG) (counts[i]!)).length) c94) 0 rfl rfl sizeOf24 rfl rfl (i:=(((((s.qB[i]!).xh)[k]!).qP).toNat)) qf qf qm fun w97 xs100 F101 hs102 H=>?_
    replace N:Fresh w.heap.size [F101,y5]:=(N.pick [2,0,1]).repl hs102
    refine ⟨H.pick [1,2,3,4,5,7] [3,4,5,6,7,8,9,10,11,12,13,14,15,16,17,18,19,20,21],(xq qh (b_n (t_n (xU (sp (yI k) (sw (zA k 1 rfl rfl qf (sq 1 (xY ?_)))))))))⟩
    obtain ⟨bg103,e_bg103⟩:∃ z,z=(out_Bags.set (((((s.qB[i]!).xh)[k]!).qP).toNat) (jH (out_Bags[((((s.qB[i]!).xh)[k]!).qP).toNat]!) ((((s.qB[i]!).xh)[k]!).QG) (counts[i]!))):=⟨_,rfl⟩
    rw [← e_bg103] at H
    have E_bg103:=Ent.addL (D:=1000000) E_out_Bags e_bg103 qf qf (by first | exact bn2.mul qf | exact bn3.mul qf | exact bn4.mul qf) qf
    have z_bg103:bg103.length=s.qA.length:=by rw [e_bg103,List.length_set];omega
    have E_cur:=E_bg103
    refine xe (m' :=((((s.qB[i]!).xh).length) - ((k+1):Int)).toNat) qf ⟨_,k+1,_,_,_,uE8,?_,?_,?_,rfl,(N.pick [1,0]),H.pick [1,2,3,4,5,6,7] [0,6,7,8,9,10,11,12,13,14,15,16,17,18,19,20,21]⟩
    · omega
    · exact E_cur.to (fun p q=>by simp only [intoF];omega) qf
    · omega
   refine c_exit (t_x (t_x (b_x (b_n (t_n (xU (sp (yI i) (sw (zA i 1 rfl rfl qf (sq 1 (xY (xe (m' :=(counts.length - ((i+1):Int)).toNat) qf ⟨_,i+1,_,_,_,_,_,_,_,uE6,?_,?_,?_,rfl,N,H.pick [1,2,3,0,5,6] [8,0,9,10,11,12,13,14,15,16]⟩))))))))))))
   · omega
   · first | exact E_rest.to (fun p q=>by simp only [putS_skip (s:=s) (t:=t) (counts:=counts) (i:=i) ‹_›]) qf | exact E_out_Bags.to (fun p q=>by rw [show k=((s.qB[i]!).xh).length by omega];simp only [putS,putF];omega) qf
   · omega
  obtain ⟨bg104,e_bg104⟩:∃ z,z=(rest.set (((s.qB[i]!).qP).toNat) (jH (rest[((s.qB[i]!).qP).toNat]!) ((s.qB[i]!).vT) (counts[i]!))):=⟨_,rfl⟩
  rw [← e_bg104] at H
  have E_bg104:=Ent.addL (D:=1000000) E_rest e_bg104 qf qf (by first | exact bn2.mul qf | exact bn3.mul qf | exact bn4.mul qf) qf
  have z_bg104:bg104.length=s.qA.length:=by rw [e_bg104,List.length_set];omega
  have E_cur:=E_bg104
  refine zcr (sq 4 (oF rfl (oL rfl (H.x8 9 rfl 0 rfl) (sw (oq (l02Parent_ok _ s t ((s.qB[i]!).qP) (qC (H.get 12 rfl) 0 3) (H.get 13 rfl).1 (H.get 14 rfl).1 (qC (H.get 15 rfl) 0 3) (H.get 16 rfl).1 (H.get 17 rfl).1 (H.get 18 rfl).1 ql ql ql) H fun w105 H=>?_)))))
  have pin:=Vq (s:=s) (t:=t) (c:=((s.qB[i]!).qP)) p0.1 p1.2.2.1 qf qf
  refine sq 1 (zjn ?_)
  refine yK rfl H [0,1,2,3,4,6] fun H=>?_
  have S:=H.jo [0,1,2,3,4,6] [0,1,2,3,4,5,6,7,8,9,10,11,12,13,14,15,16,17,18,19]
  refine tF 0 rfl rfl S ?_
  refine tL 1 rfl rfl (fun _ h=>h.cell 1 rfl rfl) S ?_
  refine rtl 2 S ?_
  refine tF 3 rfl rfl S ?_
  refine tL 4 rfl rfl (fun _ h=>h.cell 1 rfl rfl) S ?_
  refine rtl 5 S ?_
  refine tI 6 rfl rfl rfl S ?_
  refine rtl 8 S ?_
  refine rtl 9 S ?_
  refine tF 10 rfl rfl S ?_
  refine tL 11 rfl rfl (fun _ h=>h.x8 9 rfl 6 rfl) S ?_
  refine rtl 12 S ?_
  refine rtp 13 (yI i) S ?_
  refine tI 14 rfl rfl rfl S ?_
  refine tL 15 rfl rfl (fun _ h=>h.zH 19 rfl i qf) S ?_
  refine ro 7 rfl ?_
  obtain ⟨a108,c109,G110,s111,h112,H⟩:=H.jy 5 rfl 0 rfl (iv:=xW s t ((s.qB[i]!).qP)) ((xW s t ((s.qB[i]!).qP)).toNat) qf qf
  refine zl (.slice a108 ((bg104[(xW s t ((s.qB[i]!).qP)).toNat]!).length) c109) isAgg24 rfl (h112) (⟨H.pick [0,1,2,3,4,6] [1,2,3,4,5,6,7,8,9,10,11,12,13,14,15,16,17,18,19,20],(ro 16 rfl ?_)⟩)
  obtain ⟨u1,u2⟩:=Ent.rowL E_bg104 (c:=(xW s t ((s.qB[i]!).qP)).toNat) qf qf qf qf
  have u4:=(by first | exact bn2.yx qf | exact bn3.yx qf | exact bn4.yx qf:SmallT ((s.qB[i]!).yP) (counts[i]!))
  have sz113:=H.base.size
  have lt114:=H.ltN (L:=[F55,y5]) [1,11]
  refine oc (Xi _ (bg104[(xW s t ((s.qB[i]!).qP)).toNat]!) ((s.qB[i]!).yP) (counts[i]!) (H.get 0 rfl).1 (H.get 8 rfl).1 qg qg qg) ?_
  rintro v118 w116 r118 x117
  replace H:=H.zC x117 r118
  obtain ⟨a119,c120,rfl,hc121,hm122⟩:=H.jq 0 rfl
  refine ⟨H.pick [1,2,3,4,5,7] [1,2,3,4,5,6,7,8,9,10,11,12,13,14,15,16,17,18,19,20],(tI 17 rfl rfl rfl (H.pick [1,2,3,4,5,7] [1,2,3,4,5,6,7,8,9,10,11,12,13,14,15,16,17,18,19,20]) ?_)⟩
  refine ro 18 rfl ?_
  obtain ⟨G124,N,hn125,H⟩:=H.zG 0 rfl N (H.vS [1,11])
  refine jE true H 6 rfl 2 rfl (.slice a119 ((jH (bg104[(xW s t ((s.qB[i]!).qP)).toNat]!) ((s.qB[i]!).yP) (counts[i]!)).length) c120) 0 rfl rfl sizeOf24 rfl rfl (i:=((xW s t ((s.qB[i]!).qP)).toNat)) qf qf qm fun w123 xs126 F127 hs128 H=>?_
  replace N:Fresh w.heap.size [F127,y5]:=(N.pick [1,0,2]).repl hs128
  refine ⟨H.pick [1,2,3,4,5,7] [3,4,5,6,7,8,9,10,11,12,13,14,15,16,17,18,19,20,21,22],(xq qh (t_n (zcr (sp (yI 0) (zjn (qY ?_))))))⟩
  obtain ⟨bg129,e_bg129⟩:∃ z,z=(bg104.set ((xW s t ((s.qB[i]!).qP)).toNat) (jH (bg104[(xW s t ((s.qB[i]!).qP)).toNat]!) ((s.qB[i]!).yP) (counts[i]!))):=⟨_,rfl⟩
  rw [← e_bg129] at H
  have E_bg129:=Ent.addL (D:=1000000) E_bg104 e_bg129 qf qf (by first | exact bn2.mul qf | exact bn3.mul qf | exact bn4.mul qf) qf
  have z_bg129:bg129.length=s.qA.length:=by rw [e_bg129,List.length_set];omega
  have E_cur:=E_bg129
  refine zq ((fun Z0 Z1 Z2 Z3 Z4 Z5 Z6 Z7 Z8 Z9 Z10 Z11 Z12 Z13 Z14 Z15 Z16 Z17 Z18 Z19 Z20=>fun m' ρ w130=>∃ (xM:Env) (k:Nat) (out_Bags:yLL) (vC:List Value) (zo:yLN),ρ=upd (upd (upd (upd (upd (upd (upd (upd xM 0 (pp bs os)) 1 (pp bt ot)) 2 (.slice (aa b30 o31) counts.length ccounts)) 6 (pp b1 0)) 10 (pp b19 0)) 11 (yI i)) 12 (pp b26 (o27+(i:Int).toNat * 9))) 14 (yI k)∧((k:Int)≤(((s.qB[i]!).xh).length))∧(Ent (s.qA.length+1) (yL s) (fun p q=>base0 s t p q+needS s counts s.qB.length p q+putS s t counts i p q+at' p (s.qB[i]!).qP.toNat (counts[i]! * ((s.qB[i]!).vT)[q]!)+at' p (outPl s t (s.qB[i]!)) (counts[i]! * ((s.qB[i]!).yP)[q]!)+intoF (s.qB[i]!) (counts[i]!) k p q) (22000000+6000000 * i+1000000 * k) (out_Bags++[out_Around]))∧(out_Bags.length=s.qA.length)∧m' =((((s.qB[i]!).xh).length) - (k:Int)).toNat∧Fresh w.heap.size [y5,zo]∧St w w130 [Z0,Z1,Z2,Z3,rr (aa b35 0) ((jG s t counts (Xl (BadAt s t counts) counts.length)).length) rc3a 24 1 vC,Z4] [xB true zo vC out_Bags,Z5,Z6,Z7,Z8,Z9,Z10,Z11,Z12,Z13,Z14,Z15,Z16,Z17,Z18,Z19,Z20]) _ _ _ _ _ _ _ _ _ _ _ _ _ _ _ _ _ _ _ _ _) (((((s.qB[i]!).xh).length) - (0:Int)).toNat) ⟨_,0,bg129,xs126,F127,uE8,qf,(by exact E_cur.to (fun p q=>by first | (simp only [intoF,outPl_root (s:=s) (t:=t) (r:=s.qB[i]!) ‹_›,je];omega) | (simp only [intoF,outPl_up (s:=s) (t:=t) (r:=s.qB[i]!) ‹_›];omega)) qf),qf,rfl,(N.pick [1,0]),H.pick [2,3,4,5,6,7] [0,6,7,8,9,10,11,12,13,15,16,17,18,19,20,21,22]⟩ ?_
  clear H N
  rintro m' ρ w131 ⟨xM,k,out_Bags,vC,zo,rfl,i0,E_out_Bags,z_out_Bags,rfl,N,H⟩
  have Vl:=H.xK (α:=yLI) 4 rfl 0 rfl qj
  refine zcc (sp (yI k) (sq 2 (oF rfl (oL rfl (H.x8 7 rfl 7 rfl) (oN rfl (sq 1 (zjn (cD rfl (fun h132=>?_) (fun h132=>?_)))))))))
  ·skip
   have qi:=q.2.2.2.2.2.2.2.2.2.2 k qf
   have qi1:=qi.1
   have bn4:=qi.2.2.1
   have ln4:=bn4.len
   refine qW (t_n (xQ (qY (zcr (sq 2 (oF rfl (oL rfl (H.x8 7 rfl 7 rfl) (sp (yI k) ?_))))))))
   obtain ⟨b133,o134,rfl⟩:=H.addr 6 rfl qf
   obtain ⟨ae136Bag,ce136Bag,Fe136Bag,H⟩:=H.yM 6 rfl k k qf qf qf
   refine oI rfl rfl (oF rfl (oL rfl (H.x8 1 rfl 0 rfl) (sq 1 (zjn ?_))))
   refine yK rfl H [0,1,2,3,5] fun H=>?_
   have S:=H.jo [0,1,2,3,5] [0,1,2,3,4,5,6,7,8,9,10,11,12,13,14,15,16,17,18]
   refine tF 0 rfl rfl S ?_
   refine tL 1 rfl rfl (fun _ h=>h.cell 0 rfl rfl) S ?_
   refine rtl 2 S ?_
   refine tF 3 rfl rfl S ?_
   refine tL 4 rfl rfl (fun _ h=>h.cell 0 rfl rfl) S ?_
   refine rtl 5 S ?_
   refine tI 6 rfl rfl rfl S ?_
   refine rtl 8 S ?_
   refine rtl 9 S ?_
   refine tF 10 rfl rfl S ?_
   refine tL 11 rfl rfl (fun _ h=>h.x8 9 rfl 7 rfl) S ?_
   refine rtp 12 (yI k) S ?_
   refine tI 13 rfl rfl rfl S ?_
   refine tF 14 rfl rfl S ?_
   refine tL 15 rfl rfl (fun _ h=>h.x8 1 rfl 1 rfl) S ?_
   refine rtl 16 S ?_
   refine rtp 17 (yI i) S ?_
   refine tI 18 rfl rfl rfl S ?_
   refine tL 19 rfl rfl (fun _ h=>h.zH 18 rfl i qf) S ?_
   refine ro 7 rfl ?_
   obtain ⟨a138,c139,G140,s141,h142,H⟩:=H.jy 4 rfl 2 rfl (iv:=(((s.qB[i]!).xh)[k]!).qP) (((((s.qB[i]!).xh)[k]!).qP).toNat) qf qf
   refine zl (.slice a138 ((out_Bags[((((s.qB[i]!).xh)[k]!).qP).toNat]!).length) c139) isAgg24 rfl (h142) (⟨H.pick [0,1,2,3,5] [1,2,3,4,5,6,7,8,9,10,11,12,13,14,15,16,17,18,19],(ro 20 rfl ?_)⟩)
   obtain ⟨u1,u2⟩:=Ent.rowL E_out_Bags (c:=((((s.qB[i]!).xh)[k]!).qP).toNat) qf qf qf qf
   have u4:=(by first | exact bn2.yx qf | exact bn3.yx qf | exact bn4.yx qf:SmallT ((((s.qB[i]!).xh)[k]!).QG) (counts[i]!))
   have sz143:=H.base.size
   have lt144:=H.ltN (L:=[y5,zo]) [11,3]
   refine oc (Xi _ (out_Bags[((((s.qB[i]!).xh)[k]!).qP).toNat]!) ((((s.qB[i]!).xh)[k]!).QG) (counts[i]!) (H.get 0 rfl).1 (H.get 1 rfl).1 qg qg qg) ?_
   rintro v148 w146 r148 x147
   replace H:=H.zC x147 r148
   obtain ⟨a149,c150,rfl,hc151,hm152⟩:=H.jq 0 rfl
   refine ⟨H.pick [1,2,3,4,6] [1,2,3,4,5,6,7,8,9,10,11,12,13,14,15,16,17,18,19],(tI 21 rfl rfl rfl (H.pick [1,2,3,4,6] [1,2,3,4,5,6,7,8,9,10,11,12,13,14,15,16,17,18,19]) ?_)⟩
   refine ro 22 rfl ?_
   obtain ⟨G154,N,hn155,H⟩:=H.zG 0 rfl N (H.vS [11,3])
   refine jE true H 5 rfl 4 rfl (.slice a149 ((jH (out_Bags[((((s.qB[i]!).xh)[k]!).qP).toNat]!) ((((s.qB[i]!).xh)[k]!).QG) (counts[i]!)).length) c150) 0 rfl rfl sizeOf24 rfl rfl (i:=(((((s.qB[i]!).xh)[k]!).qP).toNat)) qf qf qm fun w153 xs156 F157 hs158 H=>?_
   replace N:Fresh w.heap.size [F157,y5]:=(N.pick [2,0,1]).repl hs158
   refine ⟨H.pick [1,2,3,4,6] [3,4,5,6,7,8,9,10,11,12,13,14,15,16,17,18,19,20,21],(xq qh (b_n (t_n (xU (sp (yI k) (sw (zA k 1 rfl rfl qf (sq 1 (xY ?_)))))))))⟩
   obtain ⟨bg159,e_bg159⟩:∃ z,z=(out_Bags.set (((((s.qB[i]!).xh)[k]!).qP).toNat) (jH (out_Bags[((((s.qB[i]!).xh)[k]!).qP).toNat]!) ((((s.qB[i]!).xh)[k]!).QG) (counts[i]!))):=⟨_,rfl⟩
   rw [← e_bg159] at H
   have E_bg159:=Ent.addL (D:=1000000) E_out_Bags e_bg159 qf qf (by first | exact bn2.mul qf | exact bn3.mul qf | exact bn4.mul qf) qf
   have z_bg159:bg159.length=s.qA.length:=by rw [e_bg159,List.length_set];omega
   have E_cur:=E_bg159
   refine xe (m' :=((((s.qB[i]!).xh).length) - ((k+1):Int)).toNat) qf ⟨_,k+1,_,_,_,uE8,?_,?_,?_,rfl,(N.pick [1,0]),H.pick [1,2,3,4,5,6] [0,6,7,8,9,10,11,12,13,14,15,16,17,18,19,20,21]⟩
   · omega
   · exact E_cur.to (fun p q=>by simp only [intoF];omega) qf
   · omega
  refine c_exit (t_x (t_x (b_x (b_n (t_n (xU (sp (yI i) (sw (zA i 1 rfl rfl qf (sq 1 (xY (xe (m' :=(counts.length - ((i+1):Int)).toNat) qf ⟨_,i+1,_,_,_,_,_,_,_,uE6,?_,?_,?_,rfl,N,H.pick [0,1,2,3,4,5] [8,0,9,10,11,12,13,14,15,16]⟩))))))))))))
  · omega
  · first | exact E_rest.to (fun p q=>by simp only [putS_skip (s:=s) (t:=t) (counts:=counts) (i:=i) ‹_›]) qf | exact E_out_Bags.to (fun p q=>by rw [show k=((s.qB[i]!).xh).length by omega];simp only [putS,putF];omega) qf
  · omega
 refine zx4 (zcc (sq 2 (oF rfl (oL rfl (H.x8 2 rfl 1 rfl) (oN rfl (sw (o_sub s.qA.length 1 rfl rfl qf (sq 1 (zjn (qY ?_))))))))))
 obtain rfl:i=s.qB.length:=by omega
 have hl:=stepped_live (counts:=counts) p1 (E_rest.to (g:=fun p k=>base0 s t p k+allS s t counts s.qB.length p k) (fun p k=>by rw [allS_eq];omega) (Int.le_refl _)) qf
 obtain ⟨s1,s2⟩:=step_tab2 qf E_rest
 subst s1 s2
 refine zq ((fun Z0 Z1 Z2 Z3 Z4 Z5 Z6 Z7 Z8=>fun m' ρ w160=>∃ (xM:Env) (c:Int) (out_Alive:List Bool) (out_Bags:yLL) (vC:List Value) (zo:yLN) (j:Nat),ρ=upd (upd (upd (upd (upd xM 0 (pp bs os)) 2 (.slice acounts counts.length ccounts)) 6 (pp b1 0)) 10 (pp b19 0)) 16 (yI c)∧out_Alive=(xH s counts (xN s t counts) j).qG∧out_Bags=(xH s counts (xN s t counts) j).qN∧(c=(s.qA.length:Int) - 1 - j)∧(j+1≤s.qA.length)∧m' =(c:Int).toNat∧Fresh w.heap.size [y5,zo]∧St w w160 [Z0,rr Xp t.qG.length Xo 4 1 (out_Alive.map (Value.bool)),Z1,Z2,rr ra3a ((jG s t counts (Xl (BadAt s t counts) counts.length)).length) rc3a 24 1 vC,Z3] [Z4,xB true zo vC out_Bags,Z5,Z6,Z7,Z8]) _ _ _ _ _ _ _ _ _) (((s.qA.length - 1):Int).toNat) ⟨_,s.qA.length - 1,t.qG,(xN s t counts).qN,x_rest,F_rest,0,uE5,(by rfl),(by rfl),qf,qf,rfl,N,H.pick [0,1,2,3,4,5] [0,1,2,3,4,9]⟩ ?_
 clear H N
 rintro m' ρ w161 ⟨xM,c,out_Alive,out_Bags,vC,zo,j,rfl,rfl,rfl,ic,jc,rfl,N,H⟩
 have hn_out_Alive:=H.XC 1 rfl
 have Vl:=H.xK (α:=yLI) 4 rfl 1 rfl qj
 have L:=meltDown_live (counts:=counts) p0 hl j qf
 have L1:=L.alive
 have L2:=L.root
 have L3:=L.bags.1
 rw [← y8 s counts (xN s t counts) j] at H
 refine zcc (sp (yI c) (sp (.bool (decide ((c:Int) > 0))) (zjn (cD rfl (fun h162=>?_) (fun h162=>?_)))))
 ·skip
  have cin:CellIn s c:=⟨by omega,by omega⟩
  refine qW (t_n (xQ (qY (zcr (sp (.bool false) (zjcc (sp (yI 0) (zjn (qY ?_)))))))))
  refine zq ((fun Z0 Z1 Z2 Z3 Z4 Z5 Z6 Z7 Z8 Z9 Z10 Z11=>fun m' ρ w163=>∃ (xM:Env) (melts:Bool) (i_1:Nat),ρ=upd (upd (upd (upd (upd (upd (upd xM 0 (pp bs os)) 2 (.slice acounts counts.length ccounts)) 6 (pp b1 0)) 10 (pp b19 0)) 16 (yI c)) 17 (.bool melts)) 18 (yI i_1)∧melts=dec (QK s counts c i_1)∧((i_1:Int)≤counts.length)∧m' =(counts.length - (i_1:Int)).toNat∧Fresh w.heap.size [y5,zo]∧St w w163 [Z0,Z1,Z2,Z3,Z4,Z5] [Z6,Z7,Z8,Z9,Z10,Z11]) _ _ _ _ _ _ _ _ _ _ _ _) ((counts.length - (0:Int)).toNat) ⟨_,false,0,uE7,(by exact (xk (melts_zero _ _ _)).symm),qf,rfl,N,H⟩ ?_
  clear H N
  rintro m' ρ w164 ⟨xM,melts,i_1,rfl,rfl,i0,rfl,N,H⟩
  refine zcc (sq 2 (oN rfl (sq 1 (zjn (cD rfl (fun h165=>?_) (fun h165=>?_))))))
  ·skip
   refine qW (t_n (xQ (qY (xU (sp (.bool (dec (QK s counts c i_1))) (sp (.bool (dec (QK s counts c i_1))) ?_))))))
   cases h166:((dec (QK s counts c i_1)))
   ·skip
    refine qL 172 rfl rfl (sq 1 (qL 172 rfl rfl (sq 1 (qL 172 rfl rfl ?_))))
    obtain ⟨b167,o168,rfl⟩:=H.addr 5 rfl qf
    refine oI rfl rfl (qL 172 rfl rfl (oL rfl (H.zH 5 rfl i_1 qf) (qL 172 rfl rfl (sp (.bool (decide ((counts[i_1]! :Int) > 0))) (qL 172 rfl rfl (sp (.bool (decide ((counts[i_1]! :Int) > 0))) ?_))))))
    cases h170:(decide ((counts[i_1]! :Int) > 0))
    ·skip
     replace h170:=of_decide_eq_false h170
     refine xZ [179,180,181,182,183,184,185,186] (qL 172 rfl rfl (sp (.bool false) (qL 172 rfl rfl (sp (.bool false) (xZ [189,190,191,192,193,194,195,196,197,198] (qL 172 rfl rfl (sp (.bool false) (sp (.bool false) (sp (.bool false) (xY (b_n (t_n (xU (sq 1 (sw (zA i_1 1 rfl rfl qf (sq 1 (xY (xe (m' :=(counts.length - ((i_1+1):Int)).toNat) qf ⟨_,_,i_1+1,uE7,?_,?_,rfl,N,H⟩)))))))))))))))))))
     · first | exact melts_1 ‹_› | exact melts_2 ‹_› qf | exact melts_3 ‹_› ‹_› | exact melts_4 ‹_› qf ‹_›
     · omega
    replace h170:=of_decide_eq_true h170
    refine qL 178 rfl rfl (sq 1 (qL 178 rfl rfl (sq 1 (qL 178 rfl rfl (oF rfl (qL 178 rfl rfl (oL rfl (H.x8 2 rfl 2 rfl) (qL 178 rfl rfl (sq 1 (qL 178 rfl rfl ?_))))))))))
    obtain ⟨b171,o172,rfl⟩:=H.addr 4 rfl qf
    obtain ⟨ae174Need,ce174Need,Fe174Need,ae174Have,ce174Have,Fe174Have,ae174Lack,ce174Lack,Fe174Lack,ae174Here,ce174Here,Fe174Here,ae174Out,ce174Out,Fe174Out,ae174Into,ce174Into,Fe174Into,H⟩:=H.yA 4 rfl i_1 i_1 qf qf qf
    refine oI rfl rfl (qL 178 rfl rfl (oF rfl (qL 178 rfl rfl (oL rfl (H.x8 6 rfl 8 rfl) (qL 172 rfl rfl (sp (.bool ((s.qB[i_1]!).jB)) (qL 172 rfl rfl (sp (.bool ((s.qB[i_1]!).jB)) ?_))))))))
    cases h175:((s.qB[i_1]!).jB)
    ·skip
     rw [h175] at H
     refine xZ [189,190,191,192,193,194,195,196,197,198] (qL 172 rfl rfl (sp (.bool false) (sp (.bool false) (sp (.bool false) (xY (b_n (t_n (xU (sq 1 (sw (zA i_1 1 rfl rfl qf (sq 1 (xY (xe (m' :=(counts.length - ((i_1+1):Int)).toNat) qf ⟨_,_,i_1+1,uE7,?_,?_,rfl,N,H.pick [0,1,2,3,4,5] [7,8,9,10,11,12]⟩))))))))))))))
     · first | exact melts_1 ‹_› | exact melts_2 ‹_› qf | exact melts_3 ‹_› ‹_› | exact melts_4 ‹_› qf ‹_›
     · omega
    rw [h175] at H
    refine qL 188 rfl rfl (sq 1 (qL 188 rfl rfl (sq 1 (qL 188 rfl rfl (oF rfl (qL 188 rfl rfl (oL rfl (H.x8 9 rfl 2 rfl) (qL 188 rfl rfl (sq 1 (qL 188 rfl rfl (oI rfl rfl (qL 188 rfl rfl (oF rfl (qL 188 rfl rfl (oL rfl (H.x8 6 rfl 0 rfl) (qL 188 rfl rfl (sp (yI c) (qL 188 rfl rfl (sq 1 (qL 172 rfl rfl (sq 3 (xY (b_n (t_n (xU (sq 1 ?_))))))))))))))))))))))))))
    refine sw (zA i_1 1 rfl rfl qf (sq 1 (xY (xe (m' :=(counts.length - ((i_1+1):Int)).toNat) qf ⟨_,_,i_1+1,uE7,?_,?_,rfl,N,H.pick [0,1,2,3,4,5] [7,8,9,10,11,12]⟩))))
    · first | exact melts_1 ‹_› | exact melts_2 ‹_› qf | exact melts_3 ‹_› ‹_› | exact melts_4 ‹_› qf ‹_›
    · omega
   refine xZ [173,174,175,176,177,178,179,180,181,182,183,184,185,186,187,188,189,190,191,192,193,194,195,196,197,198,199] (sp (.bool true) (sp (.bool true) (xY (b_n (t_n (xU (sq 1 (sw (zA i_1 1 rfl rfl qf (sq 1 (xY (xe (m' :=(counts.length - ((i_1+1):Int)).toNat) qf ⟨_,_,i_1+1,uE7,?_,?_,rfl,N,H⟩))))))))))))
   · first | exact melts_1 ‹_› | exact melts_2 ‹_› qf | exact melts_3 ‹_› ‹_› | exact melts_4 ‹_› qf ‹_›
   · omega
  refine zx4 (zcr (sp (.bool (dec (QK s counts c i_1))) (zjn (xE _ rfl (fun h176=>?_) (fun h176=>?_)))))
  ·skip
   refine xU (sq 1 (sp (yI c) (sw (zQ #[pp bs os,pp b19 0,yI c] rfl rfl call194 (en func194 ntmps194 ?_)))))
   refine zcr (sq 2 (sp (yI c) ?_))
   obtain ⟨G177,hn178,h179⟩:=H.Vp 1 rfl
   obtain ⟨G180,hn181,h182⟩:=H.yQ (α:=yLI) 4 rfl 1 rfl qj
   obtain ⟨G183,hn184,h185⟩:=H.Qi 3 rfl
   refine sw (oq (l02Parent_ok _ s (xH s counts (xN s t counts) j) c (qC (H.get 2 rfl) 0 3) (H.get 3 rfl).1 (H.get 4 rfl).1 (by have hz:=(qC (H.cells 0 rfl) 0 3);rw [hn178,hn181,hn184] at hz;exact hz) (hn178▸h179) (hn181▸h182) (hn184▸h185) ql ql ql) H fun w186 H=>?_)
   have pin:=Vq (s:=s) (t:=(xH s counts (xN s t counts) j)) (c:=c) p0.1 L2 qf qf
   refine sq 1 (zjn (xQ ?_))
   obtain ⟨b188,rfl⟩:=H.jW 4 rfl qf
   refine c_cut (fun ρ w191=>∃ (xM:Env) (xs189:List Value) (F190:yLN),ρ=upd (upd (upd xM 0 (pp bs os)) 1 (pp b19 0)) 2 (yI c)∧Fresh w.heap.size [F190,y5]∧St w w191 [.box b19 [.slice Xp t.qG.length Xo,.slice (aa b188 0) ((jG s t counts (Xl (BadAt s t counts) counts.length)).length) rc3a,.slice Qq Qo Qp] 31,rr Xp t.qG.length Xo 4 1 (((xH s counts (xN s t counts) j).qG).map (Value.bool)),rr ra11Bags t.qN.length rc11Bags 24 1 rx11Bags,rr Qq Qo Qp 2 1 (((xH s counts (xN s t counts) j).qH).map (Value.int .i64)),rr (aa b188 0) ((jG s t counts (Xl (BadAt s t counts) counts.length)).length) rc3a 24 1 xs189,.box b1 [yN,yN,yN] 31] [xB true F190 xs189 (((xH s counts (xN s t counts) j).qN).set ((xW s (xH s counts (xN s t counts) j) c).toNat) (jH (((xH s counts (xN s t counts) j).qN)[(xW s (xH s counts (xN s t counts) j) c).toNat]!) (((xH s counts (xN s t counts) j).qN)[c.toNat]!) 1)),xB true y5 rx11Bags t.qN,atF bs os (yS s qJ qI qV qQ),sF false xu qJ qI s.qA,sF false zh qV qQ s.qB,sF false Fcounts acounts ccounts counts]) ?_ ?_
   ·skip
    refine yK rfl H [0,1,2,3,5] fun H=>?_
    have S:=H.jo [0,1,2,3,5] [0,1,2,3,4,5]
    refine rtl 0 S ?_
    refine rtl 1 S ?_
    refine tF 2 rfl rfl S ?_
    refine tL 3 rfl rfl (fun _ h=>h.cell 0 rfl rfl) S ?_
    refine rtl 4 S ?_
    refine rtl 5 S ?_
    refine rtl 6 S ?_
    refine tF 7 rfl rfl S ?_
    refine tL 8 rfl rfl (fun _ h=>h.cell 0 rfl rfl) S ?_
    refine rtl 9 S ?_
    refine tI 10 rfl rfl rfl S ?_
    refine rtl 12 S ?_
    refine rtl 13 S ?_
    refine tF 14 rfl rfl S ?_
    refine tL 15 rfl rfl (fun _ h=>h.cell 0 rfl rfl) S ?_
    refine rtp 16 (yI c) S ?_
    refine tI 17 rfl rfl rfl S ?_
    refine zY [11,18] qh qm (jd rfl ?_ (jd rfl ?_ zZ))
    ·skip
     obtain ⟨a193,c194,G195,s196,h197,H⟩:=H.jy 4 rfl 1 rfl (iv:=xW s (xH s counts (xN s t counts) j) c) ((xW s (xH s counts (xN s t counts) j) c).toNat) qf qf
     refine zl (.slice a193 ((((xH s counts (xN s t counts) j).qN)[(xW s (xH s counts (xN s t counts) j) c).toNat]!).length) c194) isAgg24 rfl (h197) (⟨H.pick [0,1,2,3,5] [1,2,3,4,5,6],(ro 18 rfl ?_)⟩)
     obtain ⟨a198,c199,G200,s201,h202,H⟩:=H.jy 4 rfl 2 rfl (iv:=c) c.toNat qf qf
     refine zl (.slice a198 ((((xH s counts (xN s t counts) j).qN)[c.toNat]!).length) c199) isAgg24 rfl (h202) (⟨H.pick [0,1,2,3,5] [2,3,4,5,6,7],(ro 19 rfl ?_)⟩)
     obtain ⟨u1,u2,u4⟩:=L.rows p0 (bnd_le qf) (p:=(xW s (xH s counts (xN s t counts) j) c).toNat) (c:=c.toNat) qf qf
     have sz203:=H.base.size
     have lt204:=H.ltN (L:=[y5,zo]) [2,3]
     refine oc (Xi _ (((xH s counts (xN s t counts) j).qN)[(xW s (xH s counts (xN s t counts) j) c).toNat]!) (((xH s counts (xN s t counts) j).qN)[c.toNat]!) 1 (H.get 1 rfl).1 (H.get 0 rfl).1 qg qg qg) ?_
     rintro v208 w206 r208 x207
     replace H:=H.zC x207 r208
     obtain ⟨a209,c210,rfl,hc211,hm212⟩:=H.jq 0 rfl
     refine ⟨H.pick [1,2,3,4,6] [2,3,4,5,6,7],(tI 20 rfl rfl rfl (H.pick [1,2,3,4,6] [2,3,4,5,6,7]) ?_)⟩
     refine ro 21 rfl ?_
     obtain ⟨G214,N,hn215,H⟩:=H.zG 0 rfl N (H.vS [2,3])
     refine jE true H 5 rfl 4 rfl (.slice a209 ((jH (((xH s counts (xN s t counts) j).qN)[(xW s (xH s counts (xN s t counts) j) c).toNat]!) (((xH s counts (xN s t counts) j).qN)[c.toNat]!) 1).length) c210) 0 rfl rfl sizeOf24 rfl rfl (i:=((xW s (xH s counts (xN s t counts) j) c).toNat)) qf qf qm fun w213 xs216 F217 hs218 H=>?_
     replace N:Fresh w.heap.size [F217,y5]:=(N.pick [2,0,1]).repl hs218
     refine ⟨H.pick [1,2,3,4,6] [4,5,6,7,8,9],(xq qh ((meet ⟨_,xs216,F217,uE3,N,H.pick [1,2,3,4,5,6] [0,4,6,7,8,9]⟩)))⟩
    obtain ⟨a219,c220,G221,s222,h223,H⟩:=H.jy 4 rfl 1 rfl (iv:=c) c.toNat qf qf
    refine zl (.slice a219 ((((xH s counts (xN s t counts) j).qN)[c.toNat]!).length) c220) isAgg24 rfl (h223) (⟨H.pick [0,1,2,3,5] [1,2,3,4,5,6],(ro 11 rfl ?_)⟩)
    obtain ⟨a224,c225,G226,s227,h228,H⟩:=H.jy 4 rfl 2 rfl (iv:=xW s (xH s counts (xN s t counts) j) c) ((xW s (xH s counts (xN s t counts) j) c).toNat) qf qf
    refine zl (.slice a224 ((((xH s counts (xN s t counts) j).qN)[(xW s (xH s counts (xN s t counts) j) c).toNat]!).length) c225) isAgg24 rfl (h228) (⟨H.pick [0,1,2,3,5] [2,3,4,5,6,7],(ro 19 rfl ?_)⟩)
    obtain ⟨u1,u2,u4⟩:=L.rows p0 (bnd_le qf) (p:=(xW s (xH s counts (xN s t counts) j) c).toNat) (c:=c.toNat) qf qf
    have sz229:=H.base.size
    have lt230:=H.ltN (L:=[y5,zo]) [2,3]
    refine oc (Xi _ (((xH s counts (xN s t counts) j).qN)[(xW s (xH s counts (xN s t counts) j) c).toNat]!) (((xH s counts (xN s t counts) j).qN)[c.toNat]!) 1 (H.get 0 rfl).1 (H.get 1 rfl).1 qg qg qg) ?_
    rintro v234 w232 r234 x233
    replace H:=H.zC x233 r234
    obtain ⟨a235,c236,rfl,hc237,hm238⟩:=H.jq 0 rfl
    refine ⟨H.pick [1,2,3,4,6] [2,3,4,5,6,7],(tI 20 rfl rfl rfl (H.pick [1,2,3,4,6] [2,3,4,5,6,7]) ?_)⟩
    refine ro 21 rfl ?_
    obtain ⟨G240,N,hn241,H⟩:=H.zG 0 rfl N (H.vS [2,3])
    refine jE true H 5 rfl 4 rfl (.slice a235 ((jH (((xH s counts (xN s t counts) j).qN)[(xW s (xH s counts (xN s t counts) j) c).toNat]!) (((xH s counts (xN s t counts) j).qN)[c.toNat]!) 1).length) c236) 0 rfl rfl sizeOf24 rfl rfl (i:=((xW s (xH s counts (xN s t counts) j) c).toNat)) qf qf qm fun w239 xs242 F243 hs244 H=>?_
    replace N:Fresh w.heap.size [F243,y5]:=(N.pick [2,0,1]).repl hs244
    refine ⟨H.pick [1,2,3,4,6] [4,5,6,7,8,9],(xq qh ((meet ⟨_,xs242,F243,uE3,N,H.pick [1,2,3,4,5,6] [0,4,6,7,8,9]⟩)))⟩
   clear H N
   rintro ρ w245 ⟨xM,xs189,F190,rfl,N,H⟩
   refine t_n (xQ ?_)
   refine yK rfl H [0,1,2,3,5] fun H=>?_
   have S:=H.jo [0,1,2,3,5] [0,1,2,3,4,5]
   refine rtl 0 S ?_
   refine rtl 1 S ?_
   refine tF 2 rfl rfl S ?_
   refine tL 3 rfl rfl (fun _ h=>h.cell 0 rfl rfl) S ?_
   refine rtp 4 (yI c) S ?_
   refine rtl 5 S ?_
   refine rtl 6 S ?_
   refine tF 7 rfl rfl S ?_
   refine tL 8 rfl rfl (fun _ h=>h.x8 2 rfl 0 rfl) S ?_
   refine ro 9 rfl (vM H underlying24 ti2 s.xP.toNat rfl rfl qf qf qf fun b247 w248 H=>⟨H.pick [1,2,3,4,6] [0,1,2,3,4,5],(tI 10 rfl rfl rfl (H.pick [1,2,3,4,6] [0,1,2,3,4,5]) ?_)⟩)
   refine ro 11 rfl ?_
   obtain ⟨G250,N,hn251,H⟩:=H.zG 0 rfl N (H.vS [0,1])
   refine jE true H 5 rfl 1 rfl (.slice (aa b247 0) s.xP.toNat s.xP.toNat) 0 rfl rfl sizeOf24 rfl rfl (i:=c.toNat) qf qf qm fun w249 xs252 F253 hs254 H=>?_
   replace N:Fresh w.heap.size [F253,y5]:=(N.pick [1,0,2]).repl hs254
   refine ⟨H.pick [1,2,3,4,6] [2,3,4,5,6,7],(xq qh (t_n (xU (sq 2 (oF rfl (oL rfl (H.cell 1 rfl rfl) (sp (yI c) ?_)))))))⟩
   obtain ⟨b255,rfl⟩:=H.jW 2 rfl qf
   refine oI rfl rfl (sw (Qs H 2 rfl false sizeOf4 rfl rfl (i:=c.toNat) qf qf fun w256 H=>xY (ret0 rfl ⟨_,rfl,?_⟩)))
   replace H:=H.erases [0]
   dsimp only [vV,List.eraseIdx] at H
   refine xY (b_n (t_n (xU (sp (yI c) (sw (o_sub c 1 rfl rfl qf (sq 1 (xY ?_))))))))
   rw [y8] at H
   refine xe (m' :=((c - 1):Int).toNat) qf ⟨_,_,_,_,_,_,j+1,uE5,?_,?_,?_,?_,rfl,(N.pick [1,0]),H.pick [0,1,2,3,4,5] [3,0,4,5,6,7]⟩
   · first | (rw [Qm (c:=c) (i:=i_1) ‹_› qf ic];done) | (rw [Qm (c:=c) (i:=i_1) ‹_› qf ic];rfl) | rw [meltDown_no' (c:=c) (i:=i_1) ‹_› qf ic]
   · first | (rw [Qm (c:=c) (i:=i_1) ‹_› qf ic];done) | (rw [Qm (c:=c) (i:=i_1) ‹_› qf ic];rfl) | rw [meltDown_no' (c:=c) (i:=i_1) ‹_› qf ic]
   · omega
   · omega
  refine qW (b_n (t_n (xU (sp (yI c) (sw (o_sub c 1 rfl rfl qf (sq 1 (xY ?_))))))))
  rw [y8] at H
  refine xe (m' :=((c - 1):Int).toNat) qf ⟨_,_,_,_,_,_,j+1,uE5,?_,?_,?_,?_,rfl,N,H⟩
  · first | (rw [Qm (c:=c) (i:=i_1) ‹_› qf ic];done) | (rw [Qm (c:=c) (i:=i_1) ‹_› qf ic];rfl) | rw [meltDown_no' (c:=c) (i:=i_1) ‹_› qf ic]
  · first | (rw [Qm (c:=c) (i:=i_1) ‹_› qf ic];done) | (rw [Qm (c:=c) (i:=i_1) ‹_› qf ic];rfl) | rw [meltDown_no' (c:=c) (i:=i_1) ‹_› qf ic]
  · omega
  · omega
 refine zx4 (zcr (sq 1 (sw (zQ #[pp bs os,pp b19 0] rfl rfl call195 (en func195 ntmps195 ?_)))))
 refine zcr (sw (xx H ti31 [yN,yN,yN] fun b257 w258 H=>sp (yI 0) (zjcc (sq 2 ?_))))
 obtain ⟨G259,hn260,h261⟩:=H.Vp 2 rfl
 obtain ⟨G262,hn263,h264⟩:=H.yQ (α:=yLI) 5 rfl 1 rfl qj
 obtain ⟨G265,hn266,h267⟩:=H.Qi 4 rfl
 refine sw (oq (l02State_ok _ s (xH s counts (xN s t counts) j) (qC (H.get 2 rfl) 0 3) (H.get 3 rfl).1 (H.get 4 rfl).1 (by have hz:=(qC (H.cells 1 rfl) 0 3);rw [hn260,hn263,hn266] at hz;exact hz) (hn260▸h261) (hn263▸h264) (hn266▸h267) (by first | assumption | exact (And.left (by assumption:vK _)))) H fun w268 H=>sq 1 (zjn (cQ rfl (fun h270=>?_) (fun h270=>?_))))
 ·skip
  refine zcr (sw (zO [yN,yN,yN] [] (sw (xG H 0 [yN,yN,yN] sizeOf31 fun w271 H=>sp (yI 3) (zjr (t_r (retC2 H 0 rfl (yI 3) rfl isAgg31 sizeOf31 rfl rfl ⟨_,rfl,?_⟩)))))))
  replace H:=H.erases [0]
  dsimp only [vV,List.eraseIdx] at H
  refine sq 1 (sp (yI 3) (sw (xG H 5 [yN,yN,yN] sizeOf31 fun w272 H=>sp (yI 3) (zjr ?_))))
  replace H:=H.nilRowB 4
  replace H:=H.nilRow 24 1
  replace H:=H.zW (α:=yLI)
  replace H:=H.nilRowI 2
  refine retC2 H 8 rfl (yI 3) rfl isAgg31 sizeOf31 rfl rfl ⟨_,rfl,?_,H.base⟩
  rw [stepBy_yes ‹_›,stepRes,show je s - 1=j by omega,told_no ‹_›]
  exact ⟨none,0,0,none,0,0,[],[],none,0,0,rfl,(N.emp.pick [0]),H.pick [2,1,0] [0]⟩
 refine qW (t_n (zcr (sq 2 (sw (xI [.slice Xp t.qG.length Xo,.slice ra3a ((jG s t counts (Xl (BadAt s t counts) counts.length)).length) rc3a,.slice Qq Qo Qp] isAgg31 sizeOf31 rfl (qC (H.cells 1 rfl) 0 3) (sw (xG H 0 [.slice Xp t.qG.length Xo,.slice ra3a ((jG s t counts (Xl (BadAt s t counts) counts.length)).length) rc3a,.slice Qq Qo Qp] sizeOf31 fun w273 H=>sp (yI 0) (zjr ?_))))))))
 refine retC2 H 0 rfl (yI 0) rfl isAgg31 sizeOf31 rfl rfl ⟨_,rfl,?_⟩
 replace H:=H.erases [0]
 dsimp only [vV,List.eraseIdx] at H
 refine sq 1 (sp (yI 0) (sw (xG H 5 [.slice Xp t.qG.length Xo,.slice ra3a ((jG s t counts (Xl (BadAt s t counts) counts.length)).length) rc3a,.slice Qq Qo Qp] sizeOf31 fun w274 H=>sp (yI 0) (zjr (retC2 H 5 rfl (yI 0) rfl isAgg31 sizeOf31 rfl rfl ⟨_,rfl,?_,H.base⟩)))))
 rw [stepBy_yes ‹_›,stepRes,show je s - 1=j by omega,told_yes ‹_›]
 exact ⟨Xp,t.qG.length,Xo,ra3a,(jG s t counts (Xl (BadAt s t counts) counts.length)).length,rc3a,vC,zo,Qq,Qo,Qp,rfl,(N.pick [1]),H.pick [1,4,3] [1]⟩
end
section

def minus (k:Nat):yLI:=(List.range 6).map fun j=>if j < k then -1 else 0
theorem minus_len (k:Nat):(minus k).length=6:=by simp [minus]
theorem minus_get {k j:Nat} (h:j < 6):(minus k)[j]! =if j < k then -1 else 0:=by
  rw [getElem!_pos (minus k) j (by rw [minus_len];exact h)];simp [minus]
theorem minus_set {k:Nat} (h:k < 6):(minus k).set k (-1)=minus (k+1):=by
  refine ext_get (by simp [minus_len]) fun p hp=>?_
  rw [List.length_set,minus_len] at hp
  rw [getset (by rw [minus_len];exact h),minus_get hp,minus_get hp]
  by_cases e:p=k
  · rw [if_pos e,if_pos qf]
  · rw [if_neg e]
    by_cases h1:p < k
    · rw [if_pos h1,if_pos qf]
    · rw [if_neg h1,if_neg qf]
theorem minus_six {k:Nat} (h:k=6) (s:qE) (t:qF):minus k=bests s t (-1) 6 0:=by
  subst h
  rw [← bests_zero];rfl
theorem appl_yes {s:qE} {t:qF} {i k n:Nat} {z:Int} (hk:k=s.qB.length) (hi:i < s.qB.length) (hz:z≤(s.qB[i]!).jI) (hc:(s.qB[i]!).qP.toNat < n) (h1:(s.qB[i]!).jI=(bests s t z n k)[(s.qB[i]!).qP.toNat]!) (h2:EnOk s t (s.qB[i]!)):Appl s t i:=by
  rw [bests_get hc,hk] at h1
  exact (appl_iff hi hz).2 ⟨h2,h1⟩
theorem appl_no {s:qE} {t:qF} {i k n:Nat} {z:Int} (hk:k=s.qB.length) (hi:i < s.qB.length) (hz:z≤(s.qB[i]!).jI) (hc:(s.qB[i]!).qP.toNat < n) (h1:(s.qB[i]!).jI≠(bests s t z n k)[(s.qB[i]!).qP.toNat]!):¬ Appl s t i:=fun h=>by
  rw [bests_get hc,hk] at h1
  exact h1 ((appl_iff hi hz).1 h).2
theorem XP {s:qE} {t:qF}:(appls s t).length=0↔Halted s t:=by
  constructor
  · intro h j hj ha
    have:(j:Int)∈appls s t:=mem_applL.2 ⟨Int.natCast_nonneg j,by simpa using hj,by simpa using ha⟩
    rw [List.length_eq_zero_iff.1 h] at this;cases this
  · intro h
    rw [List.length_eq_zero_iff]
    apply List.eq_nil_iff_forall_not_mem.2
    intro x hx
    obtain ⟨h0,h1,h2⟩:=mem_applL.1 hx
    exact h _ h1 h2
theorem outPl_in {s:qE} {t:qF} {r:jw} (hs:jL s) (h:0≤xW s t r.qP):outPl s t r=(xW s t r.qP).toNat:=by
  refine outPl_up fun e=>?_
  rw [e,parentNow_root hs] at h;omega
theorem outPl_out {s:qE} {t:qF} {r:jw} (hs:jL s) (h0:t.qG[0]! =true) (hc:CellIn s r.qP) (h:¬ 0≤xW s t r.qP):outPl s t r=s.qA.length:=by
  refine outPl_root ?_
  rcases Int.lt_or_eq_of_le hc.1 with h1 | h1
  · exact absurd (Vq hs h0 h1 hc.2).1 h
  · exact h1.symm
theorem parentNow_lt {s:qE} {t:qF} (hs:jL s) (h0:t.qG[0]! =true) {c:Int} (hc:CellIn s c):xW s t c≤(s.qA.length:Int) - 1:=by
  rcases Int.lt_or_eq_of_le hc.1 with h1 | h1
  · have:=Vq hs h0 h1 hc.2;have:=hc.2;omega
  · rw [← h1,parentNow_root hs];have:=hs.2.1;omega
theorem stepBy_ok {s:qE} {t:qF} {counts:yLI} (h:(zF s t counts).2=0):xX s (zF s t counts).1:=by
  by_cases hc:IsCh s t counts
  · rw [stepBy_yes hc] at h ⊢
    unfold stepRes at h ⊢
    by_cases ho:xX s (xH s counts (xN s t counts) (je s - 1))
    · rw [told_yes ho];exact ho
    · rw [told_no ho] at h;cases h
  · rw [stepBy_no hc] at h;cases h
theorem meltsL_1 {s:qE} {counts:yLI} {n k:Nat} (h0:0≤(s.qB[k]!).qP) (h:(s.qB[k]!).qP.toNat < n) (h1:(Ql s counts n k)[(s.qB[k]!).qP.toNat]! =true):(Ql s counts n k).set (s.qB[k]!).qP.toNat true=Ql s counts n (k+1):=
  meltsL_set h0 h ⟨fun _=>.inl h1,fun _=>rfl⟩
theorem meltsL_2 {s:qE} {counts:yLI} {n k:Nat} (h0:0≤(s.qB[k]!).qP) (h:(s.qB[k]!).qP.toNat < n) (h1:(Ql s counts n k)[(s.qB[k]!).qP.toNat]! =false) (h2:¬ counts[k]! > 0):(Ql s counts n k).set (s.qB[k]!).qP.toNat false=Ql s counts n (k+1):=
  meltsL_set h0 h ⟨fun h=>(by cases h),fun h=>h.elim (fun h=>(ft h h1).elim) fun h=>(h2 h.1).elim⟩
theorem meltsL_3 {s:qE} {counts:yLI} {n k:Nat} (h0:0≤(s.qB[k]!).qP) (h:(s.qB[k]!).qP.toNat < n) (h1:(Ql s counts n k)[(s.qB[k]!).qP.toNat]! =false) (h2:counts[k]! > 0):(Ql s counts n k).set (s.qB[k]!).qP.toNat (s.qB[k]!).jB=Ql s counts n (k+1):=
  meltsL_set h0 h ⟨fun h=>.inr ⟨h2,h⟩,fun h=>h.elim (fun h=>(ft h h1).elim) fun h=>h.2⟩
theorem meltDown_yesL {s:qE} {counts:yLI} {u:qF} {j i n:Nat} {c:Int} (h:(Ql s counts n i)[c.toNat]! =true) (hn:c.toNat < n) (h0:0≤c) (hi:i=s.qB.length) (hc:c=(je s:Int) - 1 - j):xH s counts u (j+1)=melted s (xH s counts u j) c:=by
  rw [meltsL_get hn,show ((c.toNat:Nat):Int)=c by omega] at h
  exact Qm h hi hc
theorem meltDown_noL {s:qE} {counts:yLI} {u:qF} {j i n:Nat} {c:Int} (h:(Ql s counts n i)[c.toNat]! =false) (hn:c.toNat < n) (h0:0≤c) (hi:i=s.qB.length) (hc:c=(je s:Int) - 1 - j):xH s counts u (j+1)=xH s counts u j:=by
  rw [meltsL_get hn,show ((c.toNat:Nat):Int)=c by omega] at h
  exact meltDown_no' h hi hc
theorem copy_pre {n K:Nat} {f:Nat→Nat→Int} {B:Int} {b:yLL} {al:List Bool} (h:Ent (n+1) K f B b) (hK:K≤8) (hn:n≤6) (ha:al.length=n):
    (⟨al,b.take n,b[n]!⟩:qF).qG.length≤1000000∧(⟨al,b.take n,b[n]!⟩:qF).qH.length≤1000000∧(⟨al,b.take n,b[n]!⟩:qF).qN.length≤1000000∧
      ∀ j,j < (⟨al,b.take n,b[n]!⟩:qF).qN.length→((⟨al,b.take n,b[n]!⟩:qF).qN[j]!).length≤1000000:=by
  have hl:(b.take n).length=n:=by rw [List.length_take,h.sh.1];omega
  have hr:=h.sh.2 n qf
  refine ⟨?_,?_,?_,fun j hj=>?_⟩
  · show al.length≤1000000;omega
  · show (b[n]!).length≤1000000;omega
  · show (b.take n).length≤1000000;omega
  · have hj:j < (b.take n).length:=hj
    show ((b.take n)[j]!).length≤1000000
    rw [getElem!_pos (b.take n) j hj,List.getElem_take,← getElem!_pos b j (by rw [h.sh.1];omega)]
    have:=(h.sh.2 j qf).1;omega
end
end Go.Proofs.YtdhklgjmiamiaaaGreat
