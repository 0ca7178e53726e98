/- Walks and laws, printed by program and by hand: what each function comes to, for all arguments, part 3. -/
import Derived.Test.YtcpnclokildllaaGreatA2
namespace Go.Proofs.YtcpnclokildllaaGreat
set_option linter.unusedVariables false
set_option linter.unusedSimpArgs false
open Go.Proofs.YtcpnclokildllaaGreat.Tot (tot)
open Go.Proofs.YtcpnclokildllaaGreat.Mark (cnt mrk mkd mkd_mark cnt_mark)
section
open Go.Proofs.Tryz
open Go.RowKit
set_option linter.unusedVariables false
set_option linter.unusedSimpArgs false
set_option maxRecDepth 100000
set_option maxHeartbeats 4000000
variable {cl cm bs os qA qI bt ot qU xB qN yl yw yt yu QK jU ccounts : Nat}
theorem l00Max_ok (w:World) (a:Int) (b:Int):Calls Tryz.prog 175 #[yI a,yI b] w (Ret (fun v w' =>v=yI (max a b)) w):=by
 refine en func175 ntmps175 ?_
 have H:=St.start w
 have N:=Fresh.nil w.heap.size
 refine zcr (sp (yI 0) (zjcc (sps [yI a,yI b,.bool (decide ((a:Int) > b))] (zjn (cD rfl (fun h1=>?_) (fun h1=>?_))))))
 ·skip
  refine zcr (sps [yI a,yI a] (zjr (t_r (ret1 (yI a) rfl rfl ⟨_,rfl,(congrArg (Value.int .i64) ?_),H.base⟩))))
  omega
 refine xw (t_n (zcr (sps [yI b,yI b] (zjr (ret1 (yI b) rfl rfl ⟨_,rfl,(congrArg (Value.int .i64) ?_),H.base⟩)))))
 omega

theorem l01Within_ok (w:World) (l:yLI) (m:yLI) {al:yOA} {Fl:yLN} {am:yOA} {Fm:yLN} (hl:qW.rep w Fl [.slice al l.length cl] l) (hm:qW.rep w Fm [.slice am m.length cm] m) (p0:l.length≤m.length):Calls Tryz.prog 136 #[.slice al l.length cl,.slice am m.length cm] w (Ret (fun v w' =>v=.bool (within l m)) w):=by
 refine en func136 ntmps136 ?_
 have H:=((St.start w).arg hm).arg hl
 have nhl:=qQ hl
 have nhm:=qQ hm
 clear hl hm
 have N:=Fresh.nil w.heap.size
 refine zcr (sp (.bool false) (zjcc (sp (yI 0) (zjn (xq ?_)))))
 refine vJ (fun m' ρ w1=>∃ (zx:Env) (i:Nat),ρ=upd (upd (upd zx 0 (.slice al l.length cl)) 1 (.slice am m.length cm)) 5 (yI i)∧((i:Int)≤l.length)∧(withinTo l m i)∧m' =(l.length - (i:Int)).toNat∧Fresh w.heap.size []∧St w w1 [] [sF false Fl al cl l,sF false Fm am cm m]) ((l.length - (0:Int)).toNat) ⟨_,0,uE3,qf,(by exact withinTo_zero l m),rfl,N,H⟩ ?_
 clear H N
 rintro m' ρ w2 ⟨zx,i,rfl,i0,i1,rfl,N,H⟩
 refine zcc (sps [yI i,.slice al l.length cl] (oN rfl (sp (.bool (decide ((i:Int) < l.length))) (zjn (cD rfl (fun h3=>?_) (fun h3=>?_))))))
 ·skip
  refine xw (t_n (zn (xq (zn ?_))))
  refine y9 rfl H fun H=>rtp 0 (.slice al l.length cl) H ?_
  refine rtp 1 (yI i) H ?_
  obtain ⟨b5,o6,rfl⟩:=H.addr 0 rfl qf
  refine tI 2 rfl rfl rfl H ?_
  refine tL 3 rfl rfl (fun _ h=>h.QO 0 rfl i qf) H ?_
  refine rtp 4 (.slice am m.length cm) H ?_
  refine rtp 5 (yI i) H ?_
  obtain ⟨b8,o9,rfl⟩:=H.addr 1 rfl qf
  refine tI 6 rfl rfl rfl H ?_
  refine tL 7 rfl rfl (fun _ h=>h.QO 1 rfl i qf) H ?_
  refine rtp 8 (.bool (decide ((l[i]! :Int) > (m[i]!)))) H ?_
  refine xh qh (t_n (cD rfl (fun h11=>?_) (fun h11=>?_)))
  ·skip
   refine zcr (sp (.bool false) (zjr (zr5 (ret1 (.bool false) rfl rfl ⟨_,rfl,?_,H.base⟩))))
   rw [within_no (k:=i) ‹_› qf]
  refine xw (b_n (t_n (zl (sp (yI i) (sw (vg i 1 rfl rfl qf (sp (yI (i+1)) (zo (xn (m' :=(l.length - ((i+1):Int)).toNat) qf ⟨_,i+1,uE3,?_,?_,rfl,N,H⟩)))))))))
  · omega
  · exact withinTo_succ ‹_› qf
 refine zx4 (zcr (sp (.bool true) (zjr (ret1 (.bool true) rfl rfl ⟨_,rfl,?_,H.base⟩))))
 rw [within_yes ‹_› qf]

theorem l01Times_ok (w:World) (l:yLI) (m:yLI) {al:yOA} {Fl:yLN} {am:yOA} {Fm:yLN} (hl:qW.rep w Fl [.slice al l.length cl] l) (hm:qW.rep w Fm [.slice am m.length cm] m) (p0:l.length≤m.length) (p2:∀ k,k < l.length→0≤m[k]! ∧m[k]! ≤1000) (p3:∃ j,j < l.length∧0 < l[j]!):Calls Tryz.prog 116 #[.slice al l.length cl,.slice am m.length cm] w (Ret (fun v w' =>v=yI (Qd l m)) w):=by
 refine en func116 ntmps116 ?_
 have H:=((St.start w).arg hm).arg hl
 have nhl:=qQ hl
 have nhm:=qQ hm
 clear hl hm
 have N:=Fresh.nil w.heap.size
 refine zcr (sp (yI 0) (zjc (sp (yI (-1)) (zjcc (sp (yI 0) (zjn (xq ?_)))))))
 refine vJ (fun m' ρ w1=>∃ (zx:Env) (best:Int) (i:Nat),ρ=upd (upd (upd (upd zx 0 (.slice al l.length cl)) 1 (.slice am m.length cm)) 5 (yI best)) 6 (yI i)∧((i:Int)≤l.length)∧(QP l m i best)∧m' =(l.length - (i:Int)).toNat∧Fresh w.heap.size []∧St w w1 [] [sF false Fl al cl l,sF false Fm am cm m]) ((l.length - (0:Int)).toNat) ⟨_,(-1),0,uE4,qf,(by exact QP.zero l m),rfl,N,H⟩ ?_
 clear H N
 rintro m' ρ w2 ⟨zx,best,i,rfl,i0,i1,rfl,N,H⟩
 refine zcc (sps [yI i,.slice al l.length cl] (oN rfl (sp (.bool (decide ((i:Int) < l.length))) (zjn (cD rfl (fun h3=>?_) (fun h3=>?_))))))
 ·skip
  refine xw (t_n (zn (xq (zn ?_))))
  refine y9 rfl H fun H=>rtp 0 (.slice al l.length cl) H ?_
  refine rtp 1 (yI i) H ?_
  obtain ⟨b5,o6,rfl⟩:=H.addr 0 rfl qf
  refine tI 2 rfl rfl rfl H ?_
  refine tL 3 rfl rfl (fun _ h=>h.QO 0 rfl i qf) H ?_
  refine rtp 4 (.bool (decide ((l[i]! :Int) > 0))) H ?_
  refine rtp 5 (.bool (decide ((l[i]! :Int) > 0))) H ?_
  cases h8:(decide ((l[i]! :Int) > 0))
  ·skip
   replace h8:=of_decide_eq_false h8
   refine zH [6,7,8,9,10,11,12,13,14,15,16,17,18,19,20] 15 (H) (rtp 21 (.bool false) H ?_)
   refine xh qh (t_n (xO false rfl (fun h=>absurd h qj) (fun _=>xw (b_n (t_n (zl (sp (yI i) (sw (vg i 1 rfl rfl (by (have:=p2 i qf;omega)) (sp (yI (i+1)) (zo (xn (m' :=(l.length - ((i+1):Int)).toNat) qf ⟨_,best,i+1,uE4,?_,?_,rfl,N,H⟩))))))))))))
   · omega
   · first | exact i1.take (p2 i qf) qf qf (XG (fun k hk=>(p2 k hk).1) i qf).1 | exact i1.keep qf | exact i1.keep2 qf qf qf
  replace h8:=of_decide_eq_true h8
  refine rgp 6 (yI best) 18 H ?_
  refine rgp 7 (.bool (decide ((best:Int) < 0))) 18 H ?_
  refine rgp 8 (.bool (decide ((best:Int) < 0))) 18 H ?_
  cases h9:(decide ((best:Int) < 0))
  ·skip
   replace h9:=of_decide_eq_false h9
   refine rgp 9 (.slice am m.length cm) 21 H ?_
   refine rgp 10 (yI i) 21 H ?_
   obtain ⟨b10,o11,rfl⟩:=H.addr 1 rfl qf
   refine gI 11 rfl rfl rfl H ?_
   refine gL 12 rfl rfl (fun _ h=>h.jZ 1 rfl i qf qf) H ?_
   refine rgp 13 (.slice (aa b5 o6) l.length cl) 21 H ?_
   refine rgp 14 (yI i) 21 H ?_
   refine gI 15 rfl rfl rfl H ?_
   refine gL 16 rfl rfl (fun _ h=>h.jZ 0 rfl i qf qf) H ?_
   refine rg 17 (yI ((m[i]!) / (l[i]!))) 21 (y_quo (m[i]!) (l[i]!) rfl rfl (by (have:=p2 i qf;omega)) (by (have:=p2 i qf;omega))) H ?_
   refine rgp 18 (yI best) 21 H ?_
   refine rgp 19 (.bool (decide (((m[i]!) / (l[i]!):Int) < best))) 21 H ?_
   refine rgp 20 (.bool (decide (((m[i]!) / (l[i]!):Int) < best))) 18 H ?_
   refine rtp 21 (.bool (decide (((m[i]!) / (l[i]!):Int) < best))) H ?_
   refine xh qh (t_n (cD rfl (fun h13=>?_) (fun h13=>?_)))
   ·skip
    refine y9 rfl H fun H=>rtp 0 (.slice (aa b10 o11) m.length cm) H ?_
    refine rtp 1 (yI i) H ?_
    refine tI 2 rfl rfl rfl H ?_
    refine tL 3 rfl rfl (fun _ h=>h.QO 1 rfl i qf) H ?_
    refine rtp 4 (.slice (aa b5 o6) l.length cl) H ?_
    refine rtp 5 (yI i) H ?_
    refine tI 6 rfl rfl rfl H ?_
    refine tL 7 rfl rfl (fun _ h=>h.QO 0 rfl i qf) H ?_
    refine rt 8 (yI ((m[i]!) / (l[i]!))) (y_quo (m[i]!) (l[i]!) rfl rfl (by (have:=p2 i qf;omega)) (by (have:=p2 i qf;omega))) H ?_
    refine rtp 9 (yI ((m[i]!) / (l[i]!))) H ?_
    refine xh qh (b_n (t_n (zl (sp (yI i) (sw (vg i 1 rfl rfl (by (have:=p2 i qf;omega)) (sp (yI (i+1)) (zo (xn (m' :=(l.length - ((i+1):Int)).toNat) qf ⟨_,(m[i]!) / (l[i]!),i+1,uE4,?_,?_,rfl,N,H⟩)))))))))
    · omega
    · first | exact i1.take (p2 i qf) qf qf (XG (fun k hk=>(p2 k hk).1) i qf).1 | exact i1.keep qf | exact i1.keep2 qf qf qf
   refine xw (b_n (t_n (zl (sp (yI i) (sw (vg i 1 rfl rfl (by (have:=p2 i qf;omega)) (sp (yI (i+1)) (zo (xn (m' :=(l.length - ((i+1):Int)).toNat) qf ⟨_,best,i+1,uE4,?_,?_,rfl,N,H⟩)))))))))
   · omega
   · first | exact i1.take (p2 i qf) qf qf (XG (fun k hk=>(p2 k hk).1) i qf).1 | exact i1.keep qf | exact i1.keep2 qf qf qf
  replace h9:=of_decide_eq_true h9
  refine zH [9,10,11,12,13,14,15,16,17,18,19] 11 (H) (rgp 20 (.bool true) 18 H ?_)
  refine rtp 21 (.bool true) H ?_
  refine xh qh (t_n (xO true rfl (fun _=>?_) (fun h=>absurd h qj)))
  refine y9 rfl H fun H=>rtp 0 (.slice am m.length cm) H ?_
  refine rtp 1 (yI i) H ?_
  obtain ⟨b16,o17,rfl⟩:=H.addr 1 rfl qf
  refine tI 2 rfl rfl rfl H ?_
  refine tL 3 rfl rfl (fun _ h=>h.QO 1 rfl i qf) H ?_
  refine rtp 4 (.slice (aa b5 o6) l.length cl) H ?_
  refine rtp 5 (yI i) H ?_
  refine tI 6 rfl rfl rfl H ?_
  refine tL 7 rfl rfl (fun _ h=>h.QO 0 rfl i qf) H ?_
  refine rt 8 (yI ((m[i]!) / (l[i]!))) (y_quo (m[i]!) (l[i]!) rfl rfl (by (have:=p2 i qf;omega)) (by (have:=p2 i qf;omega))) H ?_
  refine rtp 9 (yI ((m[i]!) / (l[i]!))) H ?_
  refine xh qh (b_n (t_n (zl (sp (yI i) (sw (vg i 1 rfl rfl (by (have:=p2 i qf;omega)) (sp (yI (i+1)) (zo (xn (m' :=(l.length - ((i+1):Int)).toNat) qf ⟨_,(m[i]!) / (l[i]!),i+1,uE4,?_,?_,rfl,N,H⟩)))))))))
  · omega
  · first | exact i1.take (p2 i qf) qf qf (XG (fun k hk=>(p2 k hk).1) i qf).1 | exact i1.keep qf | exact i1.keep2 qf qf qf
 refine zx4 (zcr (sps [yI best,yI best] (zjr (ret1 (yI best) rfl rfl ⟨_,rfl,?_,H.base⟩))))
 obtain rfl:i=l.length:=by omega
 rw [i1.done p3];rfl

theorem l03Both_ok (w:World) (s:qy) (t:qF) {qB:yOA} {qX:yLN} {qJ:yOA} {xG:yLN} {qY:yOA} {x9:yLN} {xH:yOA} {zN:yLN} {qO:yOA} {xM:yLN} (hs:jd w bs os (yS s qB qA qJ qI)) (qP:qW.rep w qX [.slice qB s.qx.length qA] s.qx) (xx:qW.rep w xG [.slice qJ s.qw.length qI] s.qw) (ht:jd w bt ot (yT t qY qU xH xB qO qN)) (xY:qW.rep w x9 [.slice qY t.qC.length qU] t.qC) (zG:qW.rep w zN [.slice xH t.qK.length xB] t.qK) (xJ:qW.rep w xM [.slice qO t.qG.length qN] t.qG):Calls Tryz.prog 53 #[pp bs os,pp bt ot] w (Ret (fun v w' =>v=.bool (dec (jB s∧xW s t))) w):=by
 refine en func53 ntmps53 ?_
 have H:=(((((((St.start w).arg xJ).arg zG).arg xY).argAt ht).arg xx).arg qP).argAt hs
 have zS:=qQ qP
 have jv:=qQ xx
 have Qe:=qQ xY
 have QI:=qQ zG
 have yg:=qQ xJ
 clear hs qP xx ht xY zG xJ
 have N:=Fresh.nil w.heap.size
 refine zcr (sp (.bool false) (zjc (sp (pp bs os) (sw (oq (l02Ok_ok _ s (qH (H.get 0 rfl) 0 3) (H.get 1 rfl).1 (H.get 2 rfl).1) H fun w1 H=>sp (.bool (dec (jB s))) ?_)))))
 cases h3:(dec (jB s))
 ·skip
  replace h3:=zF h3
  refine xR [8,9,10] (sps [.bool false,.bool false] (zjr (ret1 (.bool false) rfl rfl ⟨_,rfl,?_,H.base⟩)))
  rw [xg (fun h=>‹¬ jB s› h.1)]
 replace h3:=y5 h3
 refine qL 7 rfl rfl (sp (pp bs os) (qL 7 rfl rfl (sp (pp bt ot) (qL 7 rfl rfl (sw (oq (l02State_ok _ s t (qH (H.get 0 rfl) 0 3) (H.get 1 rfl).1 (H.get 2 rfl).1 (qH (H.get 3 rfl) 0 3) (H.get 4 rfl).1 (H.get 5 rfl).1 (H.get 6 rfl).1 (by first | assumption | exact (And.left (by assumption:jB _)))) H fun w4 H=>sps [.bool (dec (xW s t)),.bool (dec (xW s t))] (zjr (ret1 (.bool (dec (xW s t))) rfl rfl ⟨_,rfl,(congrArg Value.bool (dec_eq ?_)),H.base⟩))))))))
 first | exact ⟨fun h=>⟨‹_›,y5 h⟩,fun h=>yP h.2⟩ | (simp_all;done)

theorem l03Enabled_ok (w:World) (s:qy) (t:qF) (r:jg) {qB:yOA} {qX:yLN} {qJ:yOA} {xG:yLN} {qY:yOA} {x9:yLN} {xH:yOA} {zN:yLN} {qO:yOA} {xM:yLN} {br or:Nat} {yx:yOA} {Xz:yLN} {yB:yOA} {XC:yLN} {yz:yOA} {XA:yLN} {yA:yOA} {XB:yLN} {QL:yOA} {FrOut:yLN} {jV:yOA} {FrInto:yLN} (hs:jd w bs os (yS s qB qA qJ qI)) (qP:qW.rep w qX [.slice qB s.qx.length qA] s.qx) (xx:qW.rep w xG [.slice qJ s.qw.length qI] s.qw) (ht:jd w bt ot (yT t qY qU xH xB qO qN)) (xY:qW.rep w x9 [.slice qY t.qC.length qU] t.qC) (zG:qW.rep w zN [.slice xH t.qK.length xB] t.qK) (xJ:qW.rep w xM [.slice qO t.qG.length qN] t.qG) (hr:jd w br or [yI r.qE,yI r.vw,.slice yx r.xC.length yl,.slice yB r.x8.length yw,.slice yz r.xZ.length yt,.slice yA r.zf.length yu,.slice QL r.jb.length QK,.slice jV r.qM.length jU,.bool r.zD]) (hrNeed:qW.rep w Xz [.slice yx r.xC.length yl] r.xC) (hrHave:qW.rep w XC [.slice yB r.x8.length yw] r.x8) (hrLack:qW.rep w XA [.slice yz r.xZ.length yt] r.xZ) (hrHere:qW.rep w XB [.slice yA r.zf.length yu] r.zf) (hrOut:qW.rep w FrOut [.slice QL r.jb.length QK] r.jb) (hrInto:qW.rep w FrInto [.slice jV r.qM.length jU] r.qM) (p0:jB s) (p1:xW s t) (p2:RuleOk s r):Calls Tryz.prog 174 #[pp bs os,pp bt ot,pp br or] w (Ret (fun v w' =>v=.bool (dec (EnOk s t r))) w):=by
 refine en func174 ntmps174 ?_
 have H:=((((((((((((((St.start w).arg hrInto).arg hrOut).arg hrHere).arg hrLack).arg hrHave).arg hrNeed).argAt hr).arg xJ).arg zG).arg xY).argAt ht).arg xx).arg qP).argAt hs
 have zS:=qQ qP
 have jv:=qQ xx
 have Qe:=qQ xY
 have QI:=qQ zG
 have yg:=qQ xJ
 have nhrNeed:=qQ hrNeed
 have nhrHave:=qQ hrHave
 have nhrLack:=qQ hrLack
 have nhrHere:=qQ hrHere
 have nhrOut:=qQ hrOut
 have nhrInto:=qQ hrInto
 clear hs qP xx ht xY zG xJ hr hrNeed hrHave hrLack hrHere hrOut hrInto
 have N:=Fresh.nil w.heap.size
 have p3:=p2.1
 have p4:=p1.1
 have p5:=p1.2.1
 have p6:=(p1.bagLen (k:=r.qE.toNat) qf).len
 have p7:=p2.2.2.2.2.1.len
 have p8:=p2.2.2.2.2.2.1.len
 have p9:=p2.2.2.2.2.2.2.1.len
 have p10:=jf p2.2.2.2.2.2.2.1
 have p11:=p0.1
 have p12:=p2.2.2.2.2.2.2.2.2.2.2
 refine zcr (sp (.bool false) (zjn (zn (zn ?_))))
 refine y9 rfl H fun H=>rtp 0 (pp bt ot) H ?_
 refine rtp 1 (pp bt ot) H ?_
 refine tF 2 rfl rfl H ?_
 refine tL 3 rfl rfl (fun _ h=>h.zg 3 rfl 0 rfl) H ?_
 refine rtp 4 (pp br or) H ?_
 refine rtp 5 (pp br or) H ?_
 refine tF 6 rfl rfl H ?_
 refine tL 7 rfl rfl (fun _ h=>h.zg 7 rfl 0 rfl) H ?_
 obtain ⟨b2,o3,rfl⟩:=H.addr 4 rfl qf
 refine tI 8 rfl rfl rfl H ?_
 refine tL 9 rfl rfl (fun _ h=>h.Xm 4 rfl r.qE qf qf) H ?_
 refine rtp 10 (.bool (!(t.qC[r.qE.toNat]!))) H ?_
 refine xh qh (t_n (xO (!(t.qC[r.qE.toNat]!)) rfl (fun h5=>?_) (fun h5=>?_)))
 ·skip
  replace h5:=xy h5
  refine zcr (sp (.bool false) (zjr (t_r (ret1 (.bool false) rfl rfl ⟨_,rfl,?_,H.base⟩))))
  rw [xg (fun h=>by obtain ⟨h1,h2,h3,h4,h5⟩:=h;first | exact ft h1 ‹_› | exact ft h2 ‹_› | exact ft h3 ‹_› | exact h4 ⟨‹_›,‹_›⟩ | (obtain ⟨q1,q2⟩:=h5 i qf;first | exact ft q1 ‹_› | exact absurd q2 ‹_›))]
 replace h5:=xm h5
 refine xw (t_n (zn ?_))
 refine y9 rfl H fun H=>rtp 0 (pp bt ot) H ?_
 refine rtp 1 (pp bt ot) H ?_
 refine tF 2 rfl rfl H ?_
 refine tL 3 rfl rfl (fun _ h=>h.zg 3 rfl 1 rfl) H ?_
 refine rtp 4 (pp br or) H ?_
 refine rtp 5 (pp br or) H ?_
 refine tF 6 rfl rfl H ?_
 refine tL 7 rfl rfl (fun _ h=>h.zg 7 rfl 0 rfl) H ?_
 obtain ⟨b7,o8,rfl⟩:=H.addr 5 rfl qf
 obtain ⟨ae10,ce10,Fe10,H⟩:=H.Xa 5 rfl r.qE r.qE.toNat qf qf qf
 refine tI 8 rfl rfl rfl (H.pick [] [2,3,4,5,6,7,8,9,10,11,12,13,14,15]) ?_
 refine ro 9 rfl (zk (.slice ae10 ((t.qK[r.qE.toNat]!).length) ce10) isAgg24 rfl (H.zg 1 rfl 0 rfl) (⟨H.pick [] [2,3,4,5,6,7,8,9,10,11,12,13,14,15],(rtp 10 (.slice ae10 ((t.qK[r.qE.toNat]!).length) ce10) (H.pick [] [2,3,4,5,6,7,8,9,10,11,12,13,14,15]) ?_)⟩))
 refine xh qh (t_n (zcc (sps [pp br or,pp br or] (oF rfl (oL rfl (H.zg 9 rfl 2 rfl) (sp (.slice ae10 ((t.qK[r.qE.toNat]!).length) ce10) (sw (oq (l01Within_ok _ r.xC (t.qK[r.qE.toNat]!) (H.get 10 rfl).1 (H.get 0 rfl).1 qg) H fun w12 H=>sps [.bool (!(within r.xC (t.qK[r.qE.toNat]!))),.bool (!(within r.xC (t.qK[r.qE.toNat]!)))] ?_))))))))
 cases h14:(!(within r.xC (t.qK[r.qE.toNat]!)))
 ·skip
  replace h14:=xm h14
  refine qL 38 rfl rfl (sp (pp br or) (qL 38 rfl rfl (sp (pp br or) (qL 38 rfl rfl (oF rfl (qL 38 rfl rfl (oL rfl (H.zg 9 rfl 3 rfl) (qL 38 rfl rfl (sp (.slice ae10 ((t.qK[r.qE.toNat]!).length) ce10) (qL 38 rfl rfl (sw (oq (l01Within_ok _ r.x8 (t.qK[r.qE.toNat]!) (H.get 11 rfl).1 (H.get 0 rfl).1 qg) H fun w16 H=>qL 38 rfl rfl (sps [.bool (!(within r.x8 (t.qK[r.qE.toNat]!))),.bool (!(within r.x8 (t.qK[r.qE.toNat]!))),.bool (!(within r.x8 (t.qK[r.qE.toNat]!)))] ?_)))))))))))))
  cases h18:(!(within r.x8 (t.qK[r.qE.toNat]!)))
  ·skip
   replace h18:=xm h18
   refine qL 47 rfl rfl (sp (pp br or) (qL 47 rfl rfl (sp (pp br or) (qL 47 rfl rfl (oF rfl (qL 47 rfl rfl (oL rfl (H.zg 9 rfl 4 rfl) (qL 47 rfl rfl (sw (oq (l01Size_ok _ r.xZ (H.get 12 rfl).1 (by first | assumption | exact jf ql | exact QF ql)) H fun w19 H=>qL 47 rfl rfl (sp (.bool (decide ((sumL r.xZ:Int) > 0))) (qL 47 rfl rfl (sp (.bool (decide ((sumL r.xZ:Int) > 0))) ?_)))))))))))))
   cases h21:(decide ((sumL r.xZ:Int) > 0))
   ·skip
    replace h21:=of_decide_eq_false h21
    refine xR [55,56,57,58,59,60] (qL 47 rfl rfl (sps [.bool false,.bool false] (zjn (xO false rfl (fun h=>absurd h qj) (fun _=>xw (t_n (zcc (sp (yI 0) (zjn (xq ?_))))))))))
    refine vJ (fun m' ρ w22=>∃ (zx:Env) (i:Nat),ρ=upd (upd (upd (upd zx 0 (pp bs os)) 1 (pp bt ot)) 2 (pp br or)) 8 (yI i)∧((i:Int)≤r.qM.length)∧(IntoUp s t r i)∧m' =(r.qM.length - (i:Int)).toNat∧Fresh w.heap.size []∧St w w22 [] [sF false Fe10 ae10 ce10 (t.qK[r.qE.toNat]!),atF b7 (o8+(r.qE:Int).toNat * 1) [.slice ae10 ((t.qK[r.qE.toNat]!).length) ce10],atF bs os (yS s qB qA qJ qI),sF false qX qB qA s.qx,sF false xG qJ qI s.qw,atF bt ot [.slice (aa b2 o3) t.qC.length qU,.slice (aa b7 o8) t.qK.length xB,.slice qO t.qG.length qN],sF false x9 (aa b2 o3) qU t.qC,sF false zN (aa b7 o8) xB t.qK,sF false xM qO qN t.qG,atF br or [yI r.qE,yI r.vw,.slice yx r.xC.length yl,.slice yB r.x8.length yw,.slice yz r.xZ.length yt,.slice yA r.zf.length yu,.slice QL r.jb.length QK,.slice jV r.qM.length jU,.bool r.zD],sF false Xz yx yl r.xC,sF false XC yB yw r.x8,sF false XA yz yt r.xZ,sF false XB yA yu r.zf,sF false FrOut QL QK r.jb,sF false FrInto jV jU r.qM]) ((r.qM.length - (0:Int)).toNat) ⟨_,0,uE4,qf,(by exact fun j hj=>by omega),rfl,N,H⟩ ?_
    clear H N
    rintro m' ρ w23 ⟨zx,i,rfl,i0,i1,rfl,N,H⟩
    refine zcc (sps [yI i,pp br or,pp br or] (oF rfl (oL rfl (H.zg 9 rfl 7 rfl) (oN rfl (sp (.bool (decide ((i:Int) < r.qM.length))) (zjn (cD rfl (fun h24=>?_) (fun h24=>?_))))))))
    ·skip
     have q:=(p12 i qf).1
     have q1:=q.1
     have q2:=q.2
     refine xw (t_n (zn (xq (zcr (sps [pp br or,pp br or] (oF rfl (oL rfl (H.zg 9 rfl 7 rfl) (sp (yI i) ?_))))))))
     obtain ⟨b25,o26,rfl⟩:=H.addr 15 rfl qf
     obtain ⟨ae28Bag,ce28Bag,Fe28Bag,H⟩:=H.yY 15 rfl i i qf qf qf
     refine oI rfl rfl (oF rfl (oL rfl (H.zg 1 rfl 0 rfl) (sp (yI ((r.qM[i]!).qE)) (zjn (zn ?_)))))
     refine y9 rfl H fun H=>rtp 0 (pp bt ot) H ?_
     refine rtp 1 (pp bt ot) H ?_
     refine tF 2 rfl rfl H ?_
     refine tL 3 rfl rfl (fun _ h=>h.zg 7 rfl 0 rfl) H ?_
     refine rtp 4 (yI ((r.qM[i]!).qE)) H ?_
     refine tI 5 rfl rfl rfl H ?_
     refine tL 6 rfl rfl (fun _ h=>h.Xm 8 rfl ((r.qM[i]!).qE) qf qf) H ?_
     refine rtp 7 (.bool (!(t.qC[((r.qM[i]!).qE).toNat]!))) H ?_
     refine rtp 8 (.bool (!(t.qC[((r.qM[i]!).qE).toNat]!))) H ?_
     cases h30:(!(t.qC[((r.qM[i]!).qE).toNat]!))
     ·skip
      replace h30:=xm h30
      refine rgp 9 (pp bs os) 88 H ?_
      refine rgp 10 (pp bt ot) 88 H ?_
      refine rgp 11 (yI ((r.qM[i]!).qE)) 88 H ?_
      refine rgp 13 (pp br or) 88 H ?_
      refine rgp 14 (pp br or) 88 H ?_
      refine gF 15 rfl rfl H ?_
      refine gL 16 rfl rfl (fun _ h=>h.zg 11 rfl 0 rfl) H ?_
      refine zI [12] qh qm (r_opG rfl (e:=88) rfl rfl (oq (l02Parent_ok _ s t ((r.qM[i]!).qE) (qH (H.get 4 rfl) 0 3) (H.get 5 rfl).1 (H.get 6 rfl).1 (qH (H.get 7 rfl) 0 3) (H.get 8 rfl).1 (H.get 9 rfl).1 (H.get 10 rfl).1 ql ql ql) H fun w31 H=>⟨H,(rgp 17 (.bool ((qR s t ((r.qM[i]!).qE):Int) != r.qE)) 88 H ?_)⟩) zJ)
      refine rtp 18 (.bool ((qR s t ((r.qM[i]!).qE):Int) != r.qE)) H ?_
      refine xh qh (t_n (xO ((qR s t ((r.qM[i]!).qE):Int) != r.qE) rfl (fun h33=>?_) (fun h33=>?_)))
      ·skip
       replace h33:=bne_iff_ne.1 h33
       refine zcr (sp (.bool false) (zjr (zr5 (ret1 (.bool false) rfl rfl ⟨_,rfl,?_,H.base⟩))))
       rw [xg (fun h=>by obtain ⟨h1,h2,h3,h4,h5⟩:=h;first | exact ft h1 ‹_› | exact ft h2 ‹_› | exact ft h3 ‹_› | exact h4 ⟨‹_›,‹_›⟩ | (obtain ⟨q1,q2⟩:=h5 i qf;first | exact ft q1 ‹_› | exact absurd q2 ‹_›))]
      replace h33:=vW h33
      refine xw (b_n (t_n (zl (sp (yI i) (sw (vg i 1 rfl rfl qf (sp (yI (i+1)) (zo (xn (m' :=(r.qM.length - ((i+1):Int)).toNat) qf ⟨_,i+1,uE4,?_,?_,rfl,N,H.pick [] [2,3,4,5,6,7,8,9,10,11,12,13,14,15,16,17]⟩)))))))))
      · omega
      · exact i1.succ ‹_› ‹_›
     replace h30:=xy h30
     refine zH [9,10,11,12,13,14,15,16,17] 9 (H) (rtp 18 (.bool true) H ?_)
     refine xh qh (t_n (xO true rfl (fun _=>zcr (sp (.bool false) (zjr (zr5 (ret1 (.bool false) rfl rfl ⟨_,rfl,?_,H.base⟩))))) (fun h=>absurd h qj)))
     rw [xg (fun h=>by obtain ⟨h1,h2,h3,h4,h5⟩:=h;first | exact ft h1 ‹_› | exact ft h2 ‹_› | exact ft h3 ‹_› | exact h4 ⟨‹_›,‹_›⟩ | (obtain ⟨q1,q2⟩:=h5 i qf;first | exact ft q1 ‹_› | exact absurd q2 ‹_›))]
    refine zx4 (zcr (sp (.bool true) (zjr (ret1 (.bool true) rfl rfl ⟨_,rfl,?_,H.base⟩))))
    rw [yP ⟨by assumption,by assumption,by assumption,fun ⟨u,v⟩=>by first | omega | exact ft v ‹_›,(show i=r.qM.length by omega)▸i1⟩]
   replace h21:=of_decide_eq_true h21
   refine qL 54 rfl rfl (sp (pp br or) (qL 54 rfl rfl (sp (pp br or) (qL 54 rfl rfl (oF rfl (qL 54 rfl rfl (oL rfl (H.zg 9 rfl 4 rfl) (qL 54 rfl rfl (sp (.slice ae10 ((t.qK[r.qE.toNat]!).length) ce10) (qL 54 rfl rfl (sw (oq (l01Within_ok _ r.xZ (t.qK[r.qE.toNat]!) (H.get 12 rfl).1 (H.get 0 rfl).1 qg) H fun w35 H=>qL 47 rfl rfl (sps [.bool (within r.xZ (t.qK[r.qE.toNat]!)),.bool (within r.xZ (t.qK[r.qE.toNat]!))] (zjn (xO (within r.xZ (t.qK[r.qE.toNat]!)) rfl (fun h37=>?_) (fun h37=>?_))))))))))))))))
   ·skip
    refine zcr (sp (.bool false) (zjr (t_r (ret1 (.bool false) rfl rfl ⟨_,rfl,?_,H.base⟩))))
    rw [xg (fun h=>by obtain ⟨h1,h2,h3,h4,h5⟩:=h;first | exact ft h1 ‹_› | exact ft h2 ‹_› | exact ft h3 ‹_› | exact h4 ⟨‹_›,‹_›⟩ | (obtain ⟨q1,q2⟩:=h5 i qf;first | exact ft q1 ‹_› | exact absurd q2 ‹_›))]
   refine xw (t_n (zcc (sp (yI 0) (zjn (xq ?_)))))
   refine vJ (fun m' ρ w38=>∃ (zx:Env) (i:Nat),ρ=upd (upd (upd (upd zx 0 (pp bs os)) 1 (pp bt ot)) 2 (pp br or)) 8 (yI i)∧((i:Int)≤r.qM.length)∧(IntoUp s t r i)∧m' =(r.qM.length - (i:Int)).toNat∧Fresh w.heap.size []∧St w w38 [] [sF false Fe10 ae10 ce10 (t.qK[r.qE.toNat]!),atF b7 (o8+(r.qE:Int).toNat * 1) [.slice ae10 ((t.qK[r.qE.toNat]!).length) ce10],atF bs os (yS s qB qA qJ qI),sF false qX qB qA s.qx,sF false xG qJ qI s.qw,atF bt ot [.slice (aa b2 o3) t.qC.length qU,.slice (aa b7 o8) t.qK.length xB,.slice qO t.qG.length qN],sF false x9 (aa b2 o3) qU t.qC,sF false zN (aa b7 o8) xB t.qK,sF false xM qO qN t.qG,atF br or [yI r.qE,yI r.vw,.slice yx r.xC.length yl,.slice yB r.x8.length yw,.slice yz r.xZ.length yt,.slice yA r.zf.length yu,.slice QL r.jb.length QK,.slice jV r.qM.length jU,.bool r.zD],sF false Xz yx yl r.xC,sF false XC yB yw r.x8,sF false XA yz yt r.xZ,sF false XB yA yu r.zf,sF false FrOut QL QK r.jb,sF false FrInto jV jU r.qM]) ((r.qM.length - (0:Int)).toNat) ⟨_,0,uE4,qf,(by exact fun j hj=>by omega),rfl,N,H⟩ ?_
   clear H N
   rintro m' ρ w39 ⟨zx,i,rfl,i0,i1,rfl,N,H⟩
   refine zcc (sps [yI i,pp br or,pp br or] (oF rfl (oL rfl (H.zg 9 rfl 7 rfl) (oN rfl (sp (.bool (decide ((i:Int) < r.qM.length))) (zjn (cD rfl (fun h40=>?_) (fun h40=>?_))))))))
   ·skip
    have q:=(p12 i qf).1
    have q1:=q.1
    have q2:=q.2
    refine xw (t_n (zn (xq (zcr (sps [pp br or,pp br or] (oF rfl (oL rfl (H.zg 9 rfl 7 rfl) (sp (yI i) ?_))))))))
    obtain ⟨b41,o42,rfl⟩:=H.addr 15 rfl qf
    obtain ⟨ae44Bag,ce44Bag,Fe44Bag,H⟩:=H.yY 15 rfl i i qf qf qf
    refine oI rfl rfl (oF rfl (oL rfl (H.zg 1 rfl 0 rfl) (sp (yI ((r.qM[i]!).qE)) (zjn (zn ?_)))))
    refine y9 rfl H fun H=>rtp 0 (pp bt ot) H ?_
    refine rtp 1 (pp bt ot) H ?_
    refine tF 2 rfl rfl H ?_
    refine tL 3 rfl rfl (fun _ h=>h.zg 7 rfl 0 rfl) H ?_
    refine rtp 4 (yI ((r.qM[i]!).qE)) H ?_
    refine tI 5 rfl rfl rfl H ?_
    refine tL 6 rfl rfl (fun _ h=>h.Xm 8 rfl ((r.qM[i]!).qE) qf qf) H ?_
    refine rtp 7 (.bool (!(t.qC[((r.qM[i]!).qE).toNat]!))) H ?_
    refine rtp 8 (.bool (!(t.qC[((r.qM[i]!).qE).toNat]!))) H ?_
    cases h46:(!(t.qC[((r.qM[i]!).qE).toNat]!))
    ·skip
     replace h46:=xm h46
     refine rgp 9 (pp bs os) 88 H ?_
     refine rgp 10 (pp bt ot) 88 H ?_
     refine rgp 11 (yI ((r.qM[i]!).qE)) 88 H ?_
     refine rgp 13 (pp br or) 88 H ?_
     refine rgp 14 (pp br or) 88 H ?_
     refine gF 15 rfl rfl H ?_
     refine gL 16 rfl rfl (fun _ h=>h.zg 11 rfl 0 rfl) H ?_
     refine zI [12] qh qm (r_opG rfl (e:=88) rfl rfl (oq (l02Parent_ok _ s t ((r.qM[i]!).qE) (qH (H.get 4 rfl) 0 3) (H.get 5 rfl).1 (H.get 6 rfl).1 (qH (H.get 7 rfl) 0 3) (H.get 8 rfl).1 (H.get 9 rfl).1 (H.get 10 rfl).1 ql ql ql) H fun w47 H=>⟨H,(rgp 17 (.bool ((qR s t ((r.qM[i]!).qE):Int) != r.qE)) 88 H ?_)⟩) zJ)
     refine rtp 18 (.bool ((qR s t ((r.qM[i]!).qE):Int) != r.qE)) H ?_
     refine xh qh (t_n (xO ((qR s t ((r.qM[i]!).qE):Int) != r.qE) rfl (fun h49=>?_) (fun h49=>?_)))
     ·skip
      replace h49:=bne_iff_ne.1 h49
      refine zcr (sp (.bool false) (zjr (zr5 (ret1 (.bool false) rfl rfl ⟨_,rfl,?_,H.base⟩))))
      rw [xg (fun h=>by obtain ⟨h1,h2,h3,h4,h5⟩:=h;first | exact ft h1 ‹_› | exact ft h2 ‹_› | exact ft h3 ‹_› | exact h4 ⟨‹_›,‹_›⟩ | (obtain ⟨q1,q2⟩:=h5 i qf;first | exact ft q1 ‹_› | exact absurd q2 ‹_›))]
     replace h49:=vW h49
     refine xw (b_n (t_n (zl (sp (yI i) (sw (vg i 1 rfl rfl qf (sp (yI (i+1)) (zo (xn (m' :=(r.qM.length - ((i+1):Int)).toNat) qf ⟨_,i+1,uE4,?_,?_,rfl,N,H.pick [] [2,3,4,5,6,7,8,9,10,11,12,13,14,15,16,17]⟩)))))))))
     · omega
     · exact i1.succ ‹_› ‹_›
    replace h46:=xy h46
    refine zH [9,10,11,12,13,14,15,16,17] 9 (H) (rtp 18 (.bool true) H ?_)
    refine xh qh (t_n (xO true rfl (fun _=>zcr (sp (.bool false) (zjr (zr5 (ret1 (.bool false) rfl rfl ⟨_,rfl,?_,H.base⟩))))) (fun h=>absurd h qj)))
    rw [xg (fun h=>by obtain ⟨h1,h2,h3,h4,h5⟩:=h;first | exact ft h1 ‹_› | exact ft h2 ‹_› | exact ft h3 ‹_› | exact h4 ⟨‹_›,‹_›⟩ | (obtain ⟨q1,q2⟩:=h5 i qf;first | exact ft q1 ‹_› | exact absurd q2 ‹_›))]
   refine zx4 (zcr (sp (.bool true) (zjr (ret1 (.bool true) rfl rfl ⟨_,rfl,?_,H.base⟩))))
   rw [yP ⟨by assumption,by assumption,by assumption,fun ⟨u,v⟩=>by first | omega | exact ft v ‹_›,(show i=r.qM.length by omega)▸i1⟩]
  replace h18:=xy h18
  refine xR [48,49,50,51,52,53,54,55,56,57,58,59,60,61] (sp (.bool true) (zjn (xO true rfl (fun _=>zcr (sp (.bool false) (zjr (t_r (ret1 (.bool false) rfl rfl ⟨_,rfl,?_,H.base⟩))))) (fun h=>absurd h qj))))
  rw [xg (fun h=>by obtain ⟨h1,h2,h3,h4,h5⟩:=h;first | exact ft h1 ‹_› | exact ft h2 ‹_› | exact ft h3 ‹_› | exact h4 ⟨‹_›,‹_›⟩ | (obtain ⟨q1,q2⟩:=h5 i qf;first | exact ft q1 ‹_› | exact absurd q2 ‹_›))]
 replace h14:=xy h14
 refine xR [39,40,41,42,43,44,45] (sps [.bool true,.bool true] (xR [48,49,50,51,52,53,54,55,56,57,58,59,60,61] (sp (.bool true) (zjn (xO true rfl (fun _=>zcr (sp (.bool false) (zjr (t_r (ret1 (.bool false) rfl rfl ⟨_,rfl,?_,H.base⟩))))) (fun h=>absurd h qj))))))
 rw [xg (fun h=>by obtain ⟨h1,h2,h3,h4,h5⟩:=h;first | exact ft h1 ‹_› | exact ft h2 ‹_› | exact ft h3 ‹_› | exact h4 ⟨‹_›,‹_›⟩ | (obtain ⟨q1,q2⟩:=h5 i qf;first | exact ft q1 ‹_› | exact absurd q2 ‹_›))]

theorem l03Applicable_ok (w:World) (s:qy) (t:qF) {qB:yOA} {qX:yLN} {qJ:yOA} {xG:yLN} {qY:yOA} {x9:yLN} {xH:yOA} {zN:yLN} {qO:yOA} {xM:yLN} (hs:jd w bs os (yS s qB qA qJ qI)) (qP:qW.rep w qX [.slice qB s.qx.length qA] s.qx) (xx:qW.rep w xG [.slice qJ s.qw.length qI] s.qw) (ht:jd w bt ot (yT t qY qU xH xB qO qN)) (xY:qW.rep w x9 [.slice qY t.qC.length qU] t.qC) (zG:qW.rep w zN [.slice xH t.qK.length xB] t.qK) (xJ:qW.rep w xM [.slice qO t.qG.length qN] t.qG) (p0:jB s) (p1:xW s t):Calls Tryz.prog 110 #[pp bs os,pp bt ot] w (Ret (fun v w' =>∃ (ra:yOA) (rn:Nat) (rc:Nat),v=.slice ra rn rc∧Fresh w.heap.size []∧St w w' [rr ra rn rc 4 1 ((appl s t).map (Value.bool))] []) w):=by
 refine en func110 ntmps110 ?_
 have H:=(((((((St.start w).arg xJ).arg zG).arg xY).argAt ht).arg xx).arg qP).argAt hs
 have zS:=qQ qP
 have jv:=qQ xx
 have Qe:=qQ xY
 have QI:=qQ zG
 have yg:=qQ xJ
 clear hs qP xx ht xY zG xJ
 have N:=Fresh.nil w.heap.size
 have p2:=p0.2.1
 have p3:=p0.1.2.1
 refine zcr (sp yN (zjc (sps [pp bs os,pp bs os] (oF rfl (oL rfl (H.zg 0 rfl 1 rfl) (oN rfl (sw (zh H underlying24 ti2 s.qx.length rfl rfl qf qf qf fun b1 w2 H=>sp (.slice (aa b1 0) s.qx.length s.qx.length) (zjc (sw (QN H underlying28 ti4 fun b3 w4 H=>sp (.slice (aa b3 0) 0 0) (zjcc (sp (yI 0) (zjn (xq ?_)))))))))))))))
 replace H:=H.boxRowB 0 [] 0
 refine vJ (fun m' ρ w5=>∃ (zx:Env) (QG:yOA) (yJ:Nat) (QE:Nat) (out:List Bool) (i:Nat) (best:yLI),ρ=upd (upd (upd (upd (upd zx 0 (pp bs os)) 1 (pp bt ot)) 5 (.slice (aa b1 0) s.qx.length s.qx.length)) 6 (.slice QG yJ QE)) 7 (yI i)∧out=applB s t 0 i∧best=bests s t 0 s.qx.length i∧((i:Int)≤s.qw.length)∧m' =(s.qw.length - (i:Int)).toNat∧Fresh w.heap.size []∧St w w5 [rr QG yJ QE 4 1 (out.map (Value.bool)),rr (aa b1 0) s.qx.length s.qx.length 2 1 (best.map (Value.int .i64))] [atF bs os (yS s qB qA qJ qI),sF false qX qB qA s.qx,sF false xG qJ qI s.qw,atF bt ot (yT t qY qU xH xB qO qN),sF false x9 qY qU t.qC,sF false zN xH xB t.qK,sF false xM qO qN t.qG]) ((s.qw.length - (0:Int)).toNat) ⟨_,(aa b3 0),0,0,([]:List Bool),0,(List.replicate s.qx.length (0:Int)),uE5,(by rfl),(by exact bests_zero s t 0 _),qf,rfl,N,H⟩ ?_
 clear H N
 rintro m' ρ w6 ⟨zx,QG,yJ,QE,out,i,best,rfl,rfl,rfl,i0,rfl,N,H⟩
 have hn_out:=H.QY 0 rfl
 have hn_best:=H.zO 1 rfl
 have bl:=QZ s t 0 s.qx.length i
 have al:=applB_len s t 0 i
 refine zcc (sps [yI i,pp bs os,pp bs os] (oF rfl (oL rfl (H.zg 0 rfl 2 rfl) (oN rfl (sp (.bool (decide ((i:Int) < s.qw.length))) (zjn (cD rfl (fun h7=>?_) (fun h7=>?_))))))))
 ·skip
  have q:=p0.rule (i:=i) qf
  have qc:=q.1
  have qk:=q.cell
  have qr:=q.2.1
  refine xw (t_n (zn (xq (zcr (sps [pp bs os,pp bs os] (oF rfl (oL rfl (H.zg 0 rfl 2 rfl) (sp (yI i) ?_))))))))
  obtain ⟨b8,o9,rfl⟩:=H.addr 2 rfl qf
  obtain ⟨ae11Need,ce11Need,Fe11Need,ae11Have,ce11Have,Fe11Have,ae11Lack,ce11Lack,Fe11Lack,ae11Here,ce11Here,Fe11Here,ae11Out,ce11Out,Fe11Out,ae11Into,ce11Into,Fe11Into,H⟩:=H.Qm 2 rfl i i qf qf qf
  refine oI rfl rfl (sp (pp b8 (o9+(i:Int).toNat * 9)) (zjc (sps [pp bs os,pp bt ot,pp b8 (o9+(i:Int).toNat * 9)] (sw (oq (l03Enabled_ok _ s t (s.qw[i]!) (qH (H.get 7 rfl) 0 3) (H.get 8 rfl).1 (H.get 9 rfl).1 (qH (H.get 10 rfl) 0 3) (H.get 11 rfl).1 (H.get 12 rfl).1 (H.get 13 rfl).1 (qH (H.get 6 rfl) 0 9) (H.get 0 rfl).1 (H.get 1 rfl).1 (H.get 2 rfl).1 (H.get 3 rfl).1 (H.get 4 rfl).1 (H.get 5 rfl).1 qg qg qg) H fun w13 H=>?_)))))
  refine sp (.bool (dec (EnOk s t (s.qw[i]!)))) (zjc (sps [.slice QG yJ QE,.bool (dec (EnOk s t (s.qw[i]!)))] (sw (vz H underlying28 ti4 [.bool (dec (EnOk s t (s.qw[i]!)))] fun b15 w16 H=>sw (vM H 1 rfl 0 rfl underlying28 ti4 rfl qj rfl rfl rfl (by simp [Value.oneCell',Value.cells]) qp qf fun a17 c18 w19 H=>?_)))))
  rw [snocB] at H
  refine sp (.slice a17 (yJ+1) c18) (zjc (sp (.bool (dec (EnOk s t (s.qw[i]!)))) (zjn (cP rfl (fun h20=>?_) (fun h20=>?_)))))
  ·skip
   refine yU rfl H [0,1] fun H=>?_
   have S:=H.jA [0,1] [0,1,2,3,4,5,6,7,8,9,10,11,12,13]
   refine rtp 0 (.slice (aa b1 0) s.qx.length s.qx.length) S ?_
   refine rtp 1 (pp b8 (o9+(i:Int).toNat * 9)) S ?_
   refine rtp 2 (pp b8 (o9+(i:Int).toNat * 9)) S ?_
   refine tF 3 rfl rfl S ?_
   refine tL 4 rfl rfl (fun _ h=>h.zg 6 rfl 0 rfl) S ?_
   refine rtp 5 (.slice (aa b1 0) s.qx.length s.qx.length) S ?_
   refine rtp 6 (pp b8 (o9+(i:Int).toNat * 9)) S ?_
   refine rtp 7 (pp b8 (o9+(i:Int).toNat * 9)) S ?_
   refine tF 8 rfl rfl S ?_
   refine tL 9 rfl rfl (fun _ h=>h.zg 6 rfl 0 rfl) S ?_
   refine tI 10 rfl rfl rfl S ?_
   refine rtp 12 (pp b8 (o9+(i:Int).toNat * 9)) S ?_
   refine rtp 13 (pp b8 (o9+(i:Int).toNat * 9)) S ?_
   refine tF 14 rfl rfl S ?_
   refine tL 15 rfl rfl (fun _ h=>h.zg 6 rfl 1 rfl) S ?_
   refine ro 11 rfl (zk (yI ((bests s t 0 s.qx.length i)[((s.qw[i]!).qE).toNat]!)) isAgg2 rfl (H.rowInt 2 rfl (iv:=(s.qw[i]!).qE) (i:=(((s.qw[i]!).qE).toNat)) qf qf) (⟨H.pick [0,1] [0,1,2,3,4,5,6,7,8,9,10,11,12,13],(ro 16 rfl (oq (l00Max_ok w19.drew ((bests s t 0 s.qx.length i)[((s.qw[i]!).qE).toNat]!) ((s.qw[i]!).vw)) H fun w23 H=>⟨H.pick [0,1] [0,1,2,3,4,5,6,7,8,9,10,11,12,13],(tI 17 rfl rfl rfl (H.pick [0,1] [0,1,2,3,4,5,6,7,8,9,10,11,12,13]) ?_)⟩))⟩))
   refine ro 18 rfl (o_storeInt H 2 rfl (max ((bests s t 0 s.qx.length i)[((s.qw[i]!).qE).toNat]!) ((s.qw[i]!).vw)) sizeOf2 rfl rfl (i:=(((s.qw[i]!).qE).toNat)) qf qf fun w25 H=>⟨H.pick [0,1] [0,1,2,3,4,5,6,7,8,9,10,11,12,13],(xh qh (b_n (t_n (zl (sp (yI i) (sw (vg i 1 rfl rfl qf (sp (yI (i+1)) (zo ?_)))))))))⟩)
   refine xn (m' :=(s.qw.length - ((i+1):Int)).toNat) qf ⟨_,a17,yJ+1,c18,((applB s t 0 i)++[dec (EnOk s t (s.qw[i]!))]),i+1,((bests s t 0 s.qx.length i).set (((s.qw[i]!).qE).toNat) (max ((bests s t 0 s.qx.length i)[((s.qw[i]!).qE).toNat]!) ((s.qw[i]!).vw))),uE5,?_,?_,?_,rfl,N,H.pick [1,2] [7,8,9,10,11,12,13]⟩
   · exact applB_snoc s t i
   · first | exact bests_set ‹_› qf | exact bests_skip ‹_›
   · omega
  refine xw (b_n (t_n (zl (sp (yI i) (sw (vg i 1 rfl rfl qf (sp (yI (i+1)) (zo (xn (m' :=(s.qw.length - ((i+1):Int)).toNat) qf ⟨_,a17,yJ+1,c18,((applB s t 0 i)++[dec (EnOk s t (s.qw[i]!))]),i+1,(bests s t 0 s.qx.length i),uE5,?_,?_,?_,rfl,N,H.pick [1,2] [7,8,9,10,11,12,13]⟩)))))))))
  · exact applB_snoc s t i
  · first | exact bests_set ‹_› qf | exact bests_skip ‹_›
  · omega
 refine zx4 (zcc (sp (yI 0) (zjn (xq ?_))))
 refine vJ (fun m' ρ w26=>∃ (zx:Env) (i_1:Nat) (out_1:List Bool),ρ=upd (upd (upd (upd zx 0 (pp bs os)) 5 (.slice (aa b1 0) s.qx.length s.qx.length)) 6 (.slice QG yJ QE)) 10 (yI i_1)∧out_1=applB s t i_1 s.qw.length∧((i_1:Int)≤s.qw.length)∧m' =(s.qw.length - (i_1:Int)).toNat∧Fresh w.heap.size []∧St w w26 [rr QG yJ QE 4 1 (out_1.map (Value.bool)),rr (aa b1 0) s.qx.length s.qx.length 2 1 ((bests s t 0 s.qx.length i).map (Value.int .i64))] [atF bs os (yS s qB qA qJ qI),sF false qX qB qA s.qx,sF false xG qJ qI s.qw]) ((s.qw.length - (0:Int)).toNat) ⟨_,0,(applB s t 0 i),uE4,(by rw [show i=s.qw.length by omega]),qf,rfl,N,H.pick [0,1] [0,1,2]⟩ ?_
 clear H N
 rintro m' ρ w27 ⟨zx,i_1,out_1,rfl,rfl,i0,rfl,N,H⟩
 have hn_out:=H.QY 0 rfl
 have bl:=QZ s t 0 s.qx.length i
 have al:=applB_len s t i_1 s.qw.length
 refine zcc (sps [yI i_1,pp bs os,pp bs os] (oF rfl (oL rfl (H.zg 0 rfl 2 rfl) (oN rfl (sp (.bool (decide ((i_1:Int) < s.qw.length))) (zjn (cD rfl (fun h28=>?_) (fun h28=>?_))))))))
 ·skip
  have q:=p0.rule (i:=i_1) qf
  have qc:=q.1
  have qk:=q.cell
  have qr:=q.2.1
  refine xw (t_n (zn (xq ?_)))
  refine yU rfl H [1] fun H=>?_
  have S:=H.jA [1] [0,1,2]
  refine rtp 0 (.slice QG yJ QE) S ?_
  refine rtp 1 (yI i_1) S ?_
  refine rtp 2 (.slice QG yJ QE) S ?_
  refine rtp 3 (yI i_1) S ?_
  obtain ⟨b30,rfl⟩:=H.QQ 0 rfl qf
  refine tI 4 rfl rfl rfl (H.pick [1] [0,1,2]) ?_
  refine ro 5 rfl (zk (.bool ((applB s t i_1 s.qw.length)[i_1]!)) isAgg4 rfl (H.rowBool 0 rfl (iv:=i_1) (i:=i_1) qf qf) (⟨H.pick [1] [0,1,2],(rtp 6 (.bool ((applB s t i_1 s.qw.length)[i_1]!)) (H.pick [1] [0,1,2]) ?_)⟩))
  cases h31:((applB s t i_1 s.qw.length)[i_1]!)
  ·skip
   refine zH [7,8,9,10,11,12,13,14,15,16,17,18,19,20,21,22,23,24,25,26] 20 (H.pick [1] [0,1,2]) ?_
   have S:=H.jA [1] [0,1,2]
   refine rtp 27 (.bool false) S ?_
   refine tI 28 rfl rfl rfl S ?_
   refine ro 29 rfl (Qv H 0 rfl false sizeOf4 rfl rfl (i:=i_1) qf qf fun w32 H=>⟨H.pick [1] [0,1,2],(xh qh (b_n (t_n (zl (sp (yI i_1) (sw (vg i_1 1 rfl rfl qf (sp (yI (i_1+1)) (zo (xn (m' :=(s.qw.length - ((i_1+1):Int)).toNat) qf ⟨_,i_1+1,((applB s t i_1 s.qw.length).set i_1 false),uE4,?_,?_,rfl,N,H⟩))))))))))⟩)
   · first | exact applB_set qf (applB_step0 (m:=s.qw.length) qf ‹_›) | exact applB_set qf (applB_step1 (m:=s.qw.length) (n:=s.qx.length) (z:=0) (i:=i) qf ‹_› rfl qf qf qf)
   · omega
  have S:=H.jA [1] [0,1,2]
  refine rgp 7 (pp bs os) 75 S ?_
  refine rgp 8 (pp bs os) 75 S ?_
  refine gF 9 rfl rfl S ?_
  refine gL 10 rfl rfl (fun _ h=>h.zg 0 rfl 2 rfl) S ?_
  refine rgp 11 (yI i_1) 75 S ?_
  obtain ⟨b33,o34,rfl⟩:=H.addr 2 rfl qf
  obtain ⟨ae36Need,ce36Need,Fe36Need,ae36Have,ce36Have,Fe36Have,ae36Lack,ce36Lack,Fe36Lack,ae36Here,ce36Here,Fe36Here,ae36Out,ce36Out,Fe36Out,ae36Into,ce36Into,Fe36Into,H⟩:=H.Qm 2 rfl i_1 i_1 qf qf qf
  have S:=H.jA [1] [7,8,9]
  refine gI 12 rfl rfl rfl S ?_
  refine gF 13 rfl rfl S ?_
  refine rgp 15 (.slice (aa b1 0) s.qx.length s.qx.length) 75 S ?_
  refine rgp 16 (pp bs os) 75 S ?_
  refine rgp 17 (pp bs os) 75 S ?_
  refine gF 18 rfl rfl S ?_
  refine gL 19 rfl rfl (fun _ h=>h.zg 0 rfl 2 rfl) S ?_
  refine rgp 20 (yI i_1) 75 S ?_
  refine gI 21 rfl rfl rfl S ?_
  refine gF 22 rfl rfl S ?_
  refine zI [14,23] qh qm (r_opG rfl (e:=75) rfl rfl ?_ (r_opG rfl (e:=75) rfl rfl ?_ zJ))
  ·skip
   refine zk (yI ((s.qw[i_1]!).vw)) isAgg2 rfl (H.zg 6 rfl 1 rfl) (⟨H.pick [1] [7,8,9],(zI [23] qh qm (r_opG rfl (e:=75) rfl rfl (zk (yI ((s.qw[i_1]!).qE)) isAgg2 rfl (H.zg 6 rfl 0 rfl) (⟨H.pick [1] [7,8,9],?_⟩)) zJ))⟩)
   have S:=H.jA [1] [7,8,9]
   refine gI 24 rfl rfl rfl S ?_
   refine gL 25 rfl rfl (fun _ h=>h.rowInt 0 rfl (iv:=(s.qw[i_1]!).qE) (i:=(((s.qw[i_1]!).qE).toNat)) qf qf) S ?_
   refine rgp 26 (.bool (((s.qw[i_1]!).vw:Int) == ((bests s t 0 s.qx.length i)[((s.qw[i_1]!).qE).toNat]!))) 75 S ?_
   refine rtp 27 (.bool (((s.qw[i_1]!).vw:Int) == ((bests s t 0 s.qx.length i)[((s.qw[i_1]!).qE).toNat]!))) S ?_
   refine tI 28 rfl rfl rfl S ?_
   refine ro 29 rfl (Qv H 0 rfl (((s.qw[i_1]!).vw:Int) == ((bests s t 0 s.qx.length i)[((s.qw[i_1]!).qE).toNat]!)) sizeOf4 rfl rfl (i:=i_1) qf qf fun w37 H=>⟨H.pick [1] [7,8,9],(xh qh (b_n (t_n (zl (sp (yI i_1) (sw (vg i_1 1 rfl rfl qf (sp (yI (i_1+1)) (zo (xn (m' :=(s.qw.length - ((i_1+1):Int)).toNat) qf ⟨_,i_1+1,((applB s t i_1 s.qw.length).set i_1 (((s.qw[i_1]!).vw:Int) == ((bests s t 0 s.qx.length i)[((s.qw[i_1]!).qE).toNat]!))),uE4,?_,?_,rfl,N,H.pick [0,1] [7,8,9]⟩))))))))))⟩)
   · first | exact applB_set qf (applB_step0 (m:=s.qw.length) qf ‹_›) | exact applB_set qf (applB_step1 (m:=s.qw.length) (n:=s.qx.length) (z:=0) (i:=i) qf ‹_› rfl qf qf qf)
   · omega
  refine zk (yI ((s.qw[i_1]!).qE)) isAgg2 rfl (H.zg 6 rfl 0 rfl) (⟨H.pick [1] [7,8,9],?_⟩)
  have S:=H.jA [1] [7,8,9]
  refine gI 24 rfl rfl rfl S ?_
  refine gL 25 rfl rfl (fun _ h=>h.rowInt 0 rfl (iv:=(s.qw[i_1]!).qE) (i:=(((s.qw[i_1]!).qE).toNat)) qf qf) S ?_
  refine zI [14] qh qm (r_opG rfl (e:=75) rfl rfl (zk (yI ((s.qw[i_1]!).vw)) isAgg2 rfl (H.zg 6 rfl 1 rfl) (⟨H.pick [1] [7,8,9],?_⟩)) zJ)
  have S:=H.jA [1] [7,8,9]
  refine rgp 26 (.bool (((s.qw[i_1]!).vw:Int) == ((bests s t 0 s.qx.length i)[((s.qw[i_1]!).qE).toNat]!))) 75 S ?_
  refine rtp 27 (.bool (((s.qw[i_1]!).vw:Int) == ((bests s t 0 s.qx.length i)[((s.qw[i_1]!).qE).toNat]!))) S ?_
  refine tI 28 rfl rfl rfl S ?_
  refine ro 29 rfl (Qv H 0 rfl (((s.qw[i_1]!).vw:Int) == ((bests s t 0 s.qx.length i)[((s.qw[i_1]!).qE).toNat]!)) sizeOf4 rfl rfl (i:=i_1) qf qf fun w38 H=>⟨H.pick [1] [7,8,9],(xh qh (b_n (t_n (zl (sp (yI i_1) (sw (vg i_1 1 rfl rfl qf (sp (yI (i_1+1)) (zo (xn (m' :=(s.qw.length - ((i_1+1):Int)).toNat) qf ⟨_,i_1+1,((applB s t i_1 s.qw.length).set i_1 (((s.qw[i_1]!).vw:Int) == ((bests s t 0 s.qx.length i)[((s.qw[i_1]!).qE).toNat]!))),uE4,?_,?_,rfl,N,H.pick [0,1] [7,8,9]⟩))))))))))⟩)
  · first | exact applB_set qf (applB_step0 (m:=s.qw.length) qf ‹_›) | exact applB_set qf (applB_step1 (m:=s.qw.length) (n:=s.qx.length) (z:=0) (i:=i) qf ‹_› rfl qf qf qf)
  · omega
 refine zx4 (zcr (sps [.slice QG yJ QE,.slice QG yJ QE] (zjr (ret1 (.slice QG yJ QE) rfl rfl ⟨_,rfl,?_,H.base⟩))))
 obtain rfl:i_1=s.qw.length:=by omega
 exact ⟨QG,yJ,QE,rfl,N,H.pick [0] []⟩

theorem l03Halted_ok (w:World) (s:qy) (t:qF) {qB:yOA} {qX:yLN} {qJ:yOA} {xG:yLN} {qY:yOA} {x9:yLN} {xH:yOA} {zN:yLN} {qO:yOA} {xM:yLN} (hs:jd w bs os (yS s qB qA qJ qI)) (qP:qW.rep w qX [.slice qB s.qx.length qA] s.qx) (xx:qW.rep w xG [.slice qJ s.qw.length qI] s.qw) (ht:jd w bt ot (yT t qY qU xH xB qO qN)) (xY:qW.rep w x9 [.slice qY t.qC.length qU] t.qC) (zG:qW.rep w zN [.slice xH t.qK.length xB] t.qK) (xJ:qW.rep w xM [.slice qO t.qG.length qN] t.qG) (p0:jB s) (p1:xW s t):Calls Tryz.prog 56 #[pp bs os,pp bt ot] w (Ret (fun v w' =>v=.bool (dec (Halted s t))) w):=by
 refine en func56 ntmps56 ?_
 have H:=(((((((St.start w).arg xJ).arg zG).arg xY).argAt ht).arg xx).arg qP).argAt hs
 have zS:=qQ qP
 have jv:=qQ xx
 have Qe:=qQ xY
 have QI:=qQ zG
 have yg:=qQ xJ
 clear hs qP xx ht xY zG xJ
 have N:=Fresh.nil w.heap.size
 have p2:=p0.2.1
 refine zcr (sp (.bool false) (zjc (sps [pp bs os,pp bt ot] ?_)))
 have sz4:=H.base.size
 refine sw (oc (l03Applicable_ok _ s t (qH (H.get 0 rfl) 0 3) (H.get 1 rfl).1 (H.get 2 rfl).1 (qH (H.get 3 rfl) 0 3) (H.get 4 rfl).1 (H.get 5 rfl).1 (H.get 6 rfl).1 qg qg) ?_)
 rintro _ w2 ⟨ra1,rn1,rc1,rfl,M,K⟩ _
 replace H:=H.merge K M
 obtain rfl:=H.QY 0 rfl
 have al:=appl_len s t
 refine sp (.slice ra1 ((appl s t).length) rc1) (zjcc (sp (yI 0) (zjn (xq ?_))))
 refine vJ (fun m' ρ w7=>∃ (zx:Env) (i:Nat),ρ=upd (upd zx 5 (.slice ra1 ((appl s t).length) rc1)) 6 (yI i)∧((i:Int)≤((appl s t).length))∧(HaltTo s t i)∧m' =(((appl s t).length) - (i:Int)).toNat∧Fresh w.heap.size []∧St w w7 [rr ra1 ((appl s t).length) rc1 4 1 ((appl s t).map (Value.bool))] []) ((((appl s t).length) - (0:Int)).toNat) ⟨_,0,uE2,qf,(by exact fun j hj=>by omega),rfl,N,H.pick [0] []⟩ ?_
 clear H N
 rintro m' ρ w8 ⟨zx,i,rfl,i0,i1,rfl,N,H⟩
 refine zcc (sps [yI i,.slice ra1 ((appl s t).length) rc1] (oN rfl (sp (.bool (decide ((i:Int) < ((appl s t).length)))) (zjn (cD rfl (fun h9=>?_) (fun h9=>?_))))))
 ·skip
  refine xw (t_n (zn (xq (zcr (sps [.slice ra1 ((appl s t).length) rc1,yI i] ?_)))))
  obtain ⟨b10,rfl⟩:=H.QQ 0 rfl qf
  refine oI rfl rfl (oL rfl (H.rowBool 0 rfl (iv:=i) (i:=i) qf qf) (zjn (xO ((appl s t)[i]!) rfl (fun h11=>?_) (fun h11=>?_))))
  ·skip
   refine zcr (sp (.bool false) (zjr (zr5 (ret1 (.bool false) rfl rfl ⟨_,rfl,?_,H.base⟩))))
   rw [xg (fun h=>h i qf (appl_true qf ‹_›))]
  refine xw (b_n (t_n (zl (sp (yI i) (sw (vg i 1 rfl rfl qf (sp (yI (i+1)) (zo (xn (m' :=(((appl s t).length) - ((i+1):Int)).toNat) qf ⟨_,i+1,uE2,?_,?_,rfl,N,H⟩)))))))))
  · omega
  · exact i1.succ (appl_false qf ‹_›)
 refine zx4 (zcr (sp (.bool true) (zjr (ret1 (.bool true) rfl rfl ⟨_,rfl,?_,H.base⟩))))
 obtain rfl:i=s.qw.length:=by omega
 rw [yP i1]

theorem l03Rest_ok (w:World) (s:qy) (t:qF) (counts:yLI) {qB:yOA} {qX:yLN} {qJ:yOA} {xG:yLN} {qY:yOA} {x9:yLN} {xH:yOA} {zN:yLN} {qO:yOA} {xM:yLN} {acounts:yOA} {Fcounts:yLN} (hs:jd w bs os (yS s qB qA qJ qI)) (qP:qW.rep w qX [.slice qB s.qx.length qA] s.qx) (xx:qW.rep w xG [.slice qJ s.qw.length qI] s.qw) (ht:jd w bt ot (yT t qY qU xH xB qO qN)) (xY:qW.rep w x9 [.slice qY t.qC.length qU] t.qC) (zG:qW.rep w zN [.slice xH t.qK.length xB] t.qK) (xJ:qW.rep w xM [.slice qO t.qG.length qN] t.qG) (hcounts:qW.rep w Fcounts [.slice acounts counts.length ccounts] counts) (p0:jB s) (p1:xW s t) (p2:CntOk s counts):Calls Tryz.prog 111 #[pp bs os,pp bt ot,.slice acounts counts.length ccounts] w (Ret (fun v w' =>∃ (ra0:yOA) (rn0:Nat) (rc0:Nat) (rx0:List Value) (rF0:yLN),v=.tuple #[.slice ra0 rn0 rc0,.bool (dec (IsCh s t counts))]∧Fresh w.heap.size [rF0]∧St w w' [rr ra0 rn0 rc0 24 1 rx0] [xe true rF0 rx0 (jW s t counts (Qq (BadAt s t counts) counts.length))]) w):=by
 refine en func111 ntmps111 ?_
 have H:=((((((((St.start w).arg hcounts).arg xJ).arg zG).arg xY).argAt ht).arg xx).arg qP).argAt hs
 have zS:=qQ qP
 have jv:=qQ xx
 have Qe:=qQ xY
 have QI:=qQ zG
 have yg:=qQ xJ
 have nhcounts:=qQ hcounts
 clear hs qP xx ht xY zG xJ hcounts
 have N:=Fresh.nil w.heap.size
 have p3:=p0.2.1
 have p6:=p2.1
 have p7:=p1.2.1
 have p8:=kinds_le p0
 have p9:=p0.1.2.1
 have p11:vK s=s.qx.length:=rfl
 refine zcr (sps [yN,.bool false] (zjc (sps [pp bs os,pp bt ot] ?_)))
 have sz4:=H.base.size
 refine sw (oc (l03Applicable_ok _ s t (qH (H.get 0 rfl) 0 3) (H.get 1 rfl).1 (H.get 2 rfl).1 (qH (H.get 3 rfl) 0 3) (H.get 4 rfl).1 (H.get 5 rfl).1 (H.get 6 rfl).1 qg qg) ?_)
 rintro _ w2 ⟨ra1,rn1,rc1,rfl,M,K⟩ _
 replace H:=H.merge K M
 obtain rfl:=H.QY 0 rfl
 have al:=appl_len s t
 refine sp (.slice ra1 ((appl s t).length) rc1) (zjc (sw (QN H underlying29 ti24 fun b7 w8 H=>sp (.slice (aa b7 0) 0 0) (zjcc (sp (yI 0) (zjn (xq ?_)))))))
 replace H:=H.boxRow 0 rfl 1 0 rfl qj
 replace H:=H.Qz (α:=yLI)
 refine vJ (fun m' ρ w9=>∃ (zx:Env) (Qr:yOA) (jO:Nat) (yR:Nat) (rest:yLL) (Xv:List Value) (Q3:yLN) (c:Nat),ρ=upd (upd (upd (upd (upd (upd zx 0 (pp bs os)) 1 (pp bt ot)) 2 (.slice acounts counts.length ccounts)) 8 (.slice ra1 ((appl s t).length) rc1)) 9 (.slice Qr jO yR)) 10 (yI c)∧rest=t.qK.take c∧((c:Int)≤t.qK.length)∧m' =(t.qK.length - (c:Int)).toNat∧Fresh w.heap.size [Q3]∧St w w9 [rr Qr jO yR 24 1 Xv,rr ra1 ((appl s t).length) rc1 4 1 ((appl s t).map (Value.bool))] [xe true Q3 Xv rest,atF bs os (yS s qB qA qJ qI),sF false qX qB qA s.qx,sF false xG qJ qI s.qw,atF bt ot (yT t qY qU xH xB qO qN),sF false x9 qY qU t.qC,sF false zN xH xB t.qK,sF false xM qO qN t.qG,sF false Fcounts acounts ccounts counts]) ((t.qK.length - (0:Int)).toNat) ⟨_,(aa b7 0),0,0,([]:yLL),[],[],0,uE6,(by rfl),qf,rfl,N.emp,H⟩ ?_
 clear H N
 rintro m' ρ w10 ⟨zx,Qr,jO,yR,rest,Xv,Q3,c,rfl,rfl,i0,rfl,N,H⟩
 have hn_rest:=H.zi (α:=yLI) 0 rfl 0 rfl qj
 have p4:=(p1.bagLen (k:=c))
 rw [List.length_take_of_le qf] at hn_rest
 refine zcc (sps [yI c,pp bt ot,pp bt ot] (oF rfl (oL rfl (H.zg 4 rfl 1 rfl) (oN rfl (sp (.bool (decide ((c:Int) < t.qK.length))) (zjn (cD rfl (fun h11=>?_) (fun h11=>?_))))))))
 ·skip
  refine xw (t_n (zn (xq (zl (sps [.slice Qr jO yR,pp bt ot,pp bt ot] (oF rfl (oL rfl (H.zg 4 rfl 1 rfl) (sp (yI c) ?_))))))))
  obtain ⟨b12,o13,rfl⟩:=H.addr 6 rfl qf
  obtain ⟨ae15,ce15,Fe15,H⟩:=H.Xa 6 rfl c c qf qf qf
  refine oI rfl rfl (oL rfl (H.zg 1 rfl 0 rfl) ?_)
  have p5:=(p1.bagLen (k:=c) qf).len
  have sz16:=H.base.size
  have lt17:=H.ltN (L:=[Q3]) [2]
  refine sw (oc (l00Own_ok _ (t.qK[c]!) (H.get 0 rfl).1 qg) ?_)
  rintro v21 w19 r21 x20
  replace H:=H.zt x20 r21
  obtain ⟨a22,c23,rfl,hc24,hm25⟩:=H.jS 0 rfl
  refine sw (vz H underlying29 ti24 [.slice a22 ((t.qK[c]!).length) c23] fun b26 w27 H=>?_)
  obtain ⟨G31,N,hn32,H⟩:=H.zV 1 rfl N (H.yK [2])
  refine sw (vM H 2 rfl 0 rfl underlying29 ti24 rfl qj rfl rfl rfl (by simp [Value.oneCell',Value.cells]) qp qf fun a28 c29 w30 H=>?_)
  replace H:=H.Q9 3 rfl 0 rfl
  replace N:Fresh w.heap.size [(Q3++G31)]:=(N.pick [1,0]).join
  refine sp (.slice a28 (jO+1) c29) (zo (b_n (t_n (zl (sp (yI c) (sw (vg c 1 rfl rfl qf (sp (yI (c+1)) (zo (xn (m' :=(t.qK.length - ((c+1):Int)).toNat) qf ⟨_,a28,jO+1,c29,((t.qK.take c)++[(t.qK[c]!)]),Xv++[.slice a22 ((t.qK[c]!).length) c23],(Q3++G31),c+1,uE6,?_,?_,rfl,N,H.pick [2,3] [0,5,6,7,8,9,10,11,12]⟩))))))))))
  · exact take_snoc qf
  · omega
 refine zx4 (zcc (sp (yI 0) (zjn (xq ?_))))
 refine vJ (fun m' ρ w33=>∃ (zx:Env) (i:Nat) (rest_1:yLL) (QT:List Value) (Qy:yLN),ρ=upd (upd (upd (upd (upd zx 0 (pp bs os)) 2 (.slice acounts counts.length ccounts)) 8 (.slice ra1 ((appl s t).length) rc1)) 9 (.slice Qr jO yR)) 11 (yI i)∧rest_1=jW s t counts i∧((i:Int)≤counts.length)∧(GoodTo s t counts i)∧m' =(counts.length - (i:Int)).toNat∧Fresh w.heap.size [Qy]∧St w w33 [rr Qr jO yR 24 1 QT,rr ra1 ((appl s t).length) rc1 4 1 ((appl s t).map (Value.bool))] [xe true Qy QT rest_1,atF bs os (yS s qB qA qJ qI),sF false qX qB qA s.qx,sF false xG qJ qI s.qw,sF false Fcounts acounts ccounts counts]) ((counts.length - (0:Int)).toNat) ⟨_,0,(t.qK.take c),Xv,Q3,uE5,(by rw [List.take_of_length_le qf];rfl),qf,(by exact fun j hj=>by omega),rfl,N,H.pick [0,1] [0,1,2,3,8]⟩ ?_
 clear H N
 rintro m' ρ w34 ⟨zx,i,rest_1,QT,Qy,rfl,rfl,i0,i1,rfl,N,H⟩
 have hn_rest:=H.zi (α:=yLI) 0 rfl 0 rfl qj
 have rl:=restR_len (s:=s) (t:=t) (counts:=counts) i
 refine zcc (sps [yI i,.slice acounts counts.length ccounts] (oN rfl (sp (.bool (decide ((i:Int) < counts.length))) (zjn (cD rfl (fun h35=>?_) (fun h35=>?_))))))
 ·skip
  have q:=p0.rule (i:=i) qf
  have qc:=q.1
  have qk:=q.cell
  have qr:=q.2.1
  have b1:=q.2.2.2.2.1
  have p10:=p2.bd (i:=i) qf
  refine xw (t_n (zn (xq (zcc (sps [.slice acounts counts.length ccounts,yI i] ?_)))))
  obtain ⟨b36,o37,rfl⟩:=H.addr 4 rfl qf
  refine oI rfl rfl (oL rfl (H.jZ 4 rfl i qf qf) (sps [.bool (decide ((counts[i]! :Int) > 0)),.bool (decide ((counts[i]! :Int) > 0))] ?_))
  cases h39:(decide ((counts[i]! :Int) > 0))
  ·skip
   replace h39:=of_decide_eq_false h39
   refine xR [51,52,53,54,55] (sp (.bool false) (zjn (xO false rfl (fun h=>absurd h qj) (fun _=>xw (t_n (zcr (sps [pp bs os,pp bs os] (oF rfl (oL rfl (H.zg 1 rfl 2 rfl) (sp (yI i) ?_))))))))))
   obtain ⟨b40,o41,rfl⟩:=H.addr 3 rfl qf
   obtain ⟨ae43Need,ce43Need,Fe43Need,ae43Have,ce43Have,Fe43Have,ae43Lack,ce43Lack,Fe43Lack,ae43Here,ce43Here,Fe43Here,ae43Out,ce43Out,Fe43Out,ae43Into,ce43Into,Fe43Into,H⟩:=H.Qm 3 rfl i i qf qf qf
   refine oI rfl rfl (oF rfl (oL rfl (H.zg 6 rfl 0 rfl) (sp (yI ((s.qw[i]!).qE)) (zjn ?_))))
   refine yU rfl H [1] fun H=>?_
   have S:=H.jA [1] [0,1,2,3,4,5,6,7,8,9,10,11]
   refine rtp 0 (.slice Qr jO yR) S ?_
   refine rtp 1 (yI ((s.qw[i]!).qE)) S ?_
   refine rtp 2 (.slice Qr jO yR) S ?_
   refine rtp 3 (yI ((s.qw[i]!).qE)) S ?_
   obtain ⟨b45,rfl⟩:=H.QQ 0 rfl qf
   have S:=H.jA [1] [0,1,2,3,4,5,6,7,8,9,10,11]
   refine tI 4 rfl rfl rfl S ?_
   refine rtp 6 (pp bs os) S ?_
   refine rtp 7 (pp bs os) S ?_
   refine tF 8 rfl rfl S ?_
   refine tL 9 rfl rfl (fun _ h=>h.zg 8 rfl 2 rfl) S ?_
   refine rtp 10 (yI i) S ?_
   refine tI 11 rfl rfl rfl S ?_
   refine tF 12 rfl rfl S ?_
   refine tL 13 rfl rfl (fun _ h=>h.zg 6 rfl 2 rfl) S ?_
   refine rtp 14 (.slice (aa b36 o37) counts.length ccounts) S ?_
   refine rtp 15 (yI i) S ?_
   refine tI 16 rfl rfl rfl S ?_
   refine tL 17 rfl rfl (fun _ h=>h.QO 11 rfl i qf) S ?_
   refine rt 18 (yI (-(counts[i]!))) (y_neg (counts[i]!) rfl qf) S ?_
   refine ro 5 rfl ?_
   obtain ⟨a46,c47,G48,s49,h50,H⟩:=H.jI 0 rfl 7 rfl (iv:=(s.qw[i]!).qE) (((s.qw[i]!).qE).toNat) qf qf
   refine zk (.slice a46 (((jW s t counts i)[((s.qw[i]!).qE).toNat]!).length) c47) isAgg24 rfl (h50) (⟨H.pick [1] [1,2,3,4,5,6,7,8,9,10,11,12],(ro 19 rfl ?_)⟩)
   obtain ⟨u1,u2⟩:=restR_row (c:=(s.qw[i]!).qE.toNat) p0 p1 p2 (show i≤_ by omega) qk
   have u3:=b1.len
   have u4:=b1.yf (t:= -(counts[i]!)) qf
   have sz51:=H.base.size
   have lt52:=H.ltN (L:=[Qy]) [8]
   refine oc (Q5 _ ((jW s t counts i)[((s.qw[i]!).qE).toNat]!) ((s.qw[i]!).xC) (-(counts[i]!)) (H.get 0 rfl).1 (H.get 1 rfl).1 qg qg qg) ?_
   rintro v56 w54 r56 x55
   replace H:=H.zt x55 r56
   obtain ⟨a57,c58,rfl,hc59,hm60⟩:=H.jS 0 rfl
   refine ⟨H.pick [2] [1,2,3,4,5,6,7,8,9,10,11,12],(tI 20 rfl rfl rfl (H.pick [2] [1,2,3,4,5,6,7,8,9,10,11,12]) ?_)⟩
   refine ro 21 rfl ?_
   obtain ⟨G62,N,hn63,H⟩:=H.zV 0 rfl N (H.yK [8])
   refine jw true H 1 rfl 9 rfl (.slice a57 ((jR ((jW s t counts i)[((s.qw[i]!).qE).toNat]!) ((s.qw[i]!).xC) (-(counts[i]!))).length) c58) 0 rfl rfl sizeOf24 rfl rfl (i:=(((s.qw[i]!).qE).toNat)) qf qf qm fun w61 xs64 F65 hs66 H=>?_
   replace N:Fresh w.heap.size [F65]:=(N.pick [1,0]).repl hs66
   refine ⟨H.pick [2] [3,4,5,6,7,8,9,10,11,12,13,14],(xh qh (b_n (t_n (zl (sp (yI i) (sw (vg i 1 rfl rfl qf (sp (yI (i+1)) (zo (xn (m' :=(counts.length - ((i+1):Int)).toNat) qf ⟨_,i+1,((jW s t counts i).set (((s.qw[i]!).qE).toNat) (jR ((jW s t counts i)[((s.qw[i]!).qE).toNat]!) ((s.qw[i]!).xC) (-(counts[i]!)))),xs64,F65,uE5,?_,?_,?_,rfl,N,H.pick [1,2] [0,11,12,13,14]⟩))))))))))⟩
   · rfl
   · omega
   · exact i1.succ (fun h=>by obtain ⟨u,v⟩:=h;first | omega | exact v (appl_true qf ‹_›))
  replace h39:=of_decide_eq_true h39
  refine qL 50 rfl rfl (sp (.slice ra1 ((appl s t).length) rc1) (qL 50 rfl rfl (sp (yI i) (qL 50 rfl rfl ?_))))
  obtain ⟨b67,rfl⟩:=H.QQ 1 rfl qf
  refine oI rfl rfl (qL 50 rfl rfl (oL rfl (H.rowBool 1 rfl (iv:=i) (i:=i) qf qf) (qL 50 rfl rfl (sps [.bool (!((appl s t)[i]!)),.bool (!((appl s t)[i]!))] (zjn (xO (!((appl s t)[i]!)) rfl (fun h68=>?_) (fun h68=>?_)))))))
  ·skip
   replace h68:=xy h68
   refine zcr (sps [.slice Qr jO yR,.slice Qr jO yR,.bool false] (zjr (t_r (zr5 (ret2 (.slice Qr jO yR) (.bool false) rfl rfl rfl ⟨_,rfl,?_,H.base⟩)))))
   rw [stop_first (k:=i) i1 qf ⟨by omega,appl_false qf ‹_›⟩,xg (fun h=>h.1 i qf ⟨by omega,appl_false qf ‹_›⟩)]
   exact ⟨Qr,jO,yR,QT,Qy,rfl,N,H.pick [0] [0]⟩
  replace h68:=xm h68
  refine xw (t_n (zcr (sps [pp bs os,pp bs os] (oF rfl (oL rfl (H.zg 1 rfl 2 rfl) (sp (yI i) ?_))))))
  obtain ⟨b69,o70,rfl⟩:=H.addr 3 rfl qf
  obtain ⟨ae72Need,ce72Need,Fe72Need,ae72Have,ce72Have,Fe72Have,ae72Lack,ce72Lack,Fe72Lack,ae72Here,ce72Here,Fe72Here,ae72Out,ce72Out,Fe72Out,ae72Into,ce72Into,Fe72Into,H⟩:=H.Qm 3 rfl i i qf qf qf
  refine oI rfl rfl (oF rfl (oL rfl (H.zg 6 rfl 0 rfl) (sp (yI ((s.qw[i]!).qE)) (zjn ?_))))
  refine yU rfl H [1] fun H=>?_
  have S:=H.jA [1] [0,1,2,3,4,5,6,7,8,9,10,11]
  refine rtp 0 (.slice Qr jO yR) S ?_
  refine rtp 1 (yI ((s.qw[i]!).qE)) S ?_
  refine rtp 2 (.slice Qr jO yR) S ?_
  refine rtp 3 (yI ((s.qw[i]!).qE)) S ?_
  obtain ⟨b74,rfl⟩:=H.QQ 0 rfl qf
  have S:=H.jA [1] [0,1,2,3,4,5,6,7,8,9,10,11]
  refine tI 4 rfl rfl rfl S ?_
  refine rtp 6 (pp bs os) S ?_
  refine rtp 7 (pp bs os) S ?_
  refine tF 8 rfl rfl S ?_
  refine tL 9 rfl rfl (fun _ h=>h.zg 8 rfl 2 rfl) S ?_
  refine rtp 10 (yI i) S ?_
  refine tI 11 rfl rfl rfl S ?_
  refine tF 12 rfl rfl S ?_
  refine tL 13 rfl rfl (fun _ h=>h.zg 6 rfl 2 rfl) S ?_
  refine rtp 14 (.slice (aa b36 o37) counts.length ccounts) S ?_
  refine rtp 15 (yI i) S ?_
  refine tI 16 rfl rfl rfl S ?_
  refine tL 17 rfl rfl (fun _ h=>h.QO 11 rfl i qf) S ?_
  refine rt 18 (yI (-(counts[i]!))) (y_neg (counts[i]!) rfl qf) S ?_
  refine ro 5 rfl ?_
  obtain ⟨a75,c76,G77,s78,h79,H⟩:=H.jI 0 rfl 7 rfl (iv:=(s.qw[i]!).qE) (((s.qw[i]!).qE).toNat) qf qf
  refine zk (.slice a75 (((jW s t counts i)[((s.qw[i]!).qE).toNat]!).length) c76) isAgg24 rfl (h79) (⟨H.pick [1] [1,2,3,4,5,6,7,8,9,10,11,12],(ro 19 rfl ?_)⟩)
  obtain ⟨u1,u2⟩:=restR_row (c:=(s.qw[i]!).qE.toNat) p0 p1 p2 (show i≤_ by omega) qk
  have u3:=b1.len
  have u4:=b1.yf (t:= -(counts[i]!)) qf
  have sz80:=H.base.size
  have lt81:=H.ltN (L:=[Qy]) [8]
  refine oc (Q5 _ ((jW s t counts i)[((s.qw[i]!).qE).toNat]!) ((s.qw[i]!).xC) (-(counts[i]!)) (H.get 0 rfl).1 (H.get 1 rfl).1 qg qg qg) ?_
  rintro v85 w83 r85 x84
  replace H:=H.zt x84 r85
  obtain ⟨a86,c87,rfl,hc88,hm89⟩:=H.jS 0 rfl
  refine ⟨H.pick [2] [1,2,3,4,5,6,7,8,9,10,11,12],(tI 20 rfl rfl rfl (H.pick [2] [1,2,3,4,5,6,7,8,9,10,11,12]) ?_)⟩
  refine ro 21 rfl ?_
  obtain ⟨G91,N,hn92,H⟩:=H.zV 0 rfl N (H.yK [8])
  refine jw true H 1 rfl 9 rfl (.slice a86 ((jR ((jW s t counts i)[((s.qw[i]!).qE).toNat]!) ((s.qw[i]!).xC) (-(counts[i]!))).length) c87) 0 rfl rfl sizeOf24 rfl rfl (i:=(((s.qw[i]!).qE).toNat)) qf qf qm fun w90 xs93 F94 hs95 H=>?_
  replace N:Fresh w.heap.size [F94]:=(N.pick [1,0]).repl hs95
  refine ⟨H.pick [2] [3,4,5,6,7,8,9,10,11,12,13,14],(xh qh (b_n (t_n (zl (sp (yI i) (sw (vg i 1 rfl rfl qf (sp (yI (i+1)) (zo (xn (m' :=(counts.length - ((i+1):Int)).toNat) qf ⟨_,i+1,((jW s t counts i).set (((s.qw[i]!).qE).toNat) (jR ((jW s t counts i)[((s.qw[i]!).qE).toNat]!) ((s.qw[i]!).xC) (-(counts[i]!)))),xs93,F94,uE5,?_,?_,?_,rfl,N,H.pick [1,2] [0,11,12,13,14]⟩))))))))))⟩
  · rfl
  · omega
  · exact i1.succ (fun h=>by obtain ⟨u,v⟩:=h;first | omega | exact v (appl_true qf ‹_›))
 refine zx4 (zcc (sp (yI 0) (zjn (xq ?_))))
 refine vJ (fun m' ρ w96=>∃ (zx:Env) (c_1:Nat),ρ=upd (upd zx 9 (.slice Qr jO yR)) 13 (yI c_1)∧((c_1:Int)≤jO)∧(NonNeg (jW s t counts i) c_1)∧m' =(jO - (c_1:Int)).toNat∧Fresh w.heap.size [Qy]∧St w w96 [rr Qr jO yR 24 1 QT,rr ra1 ((appl s t).length) rc1 4 1 ((appl s t).map (Value.bool))] [xe true Qy QT (jW s t counts i)]) ((jO - (0:Int)).toNat) ⟨_,0,uE2,qf,(by exact fun j hj=>by omega),rfl,N,H.pick [0,1] [0]⟩ ?_
 clear H N
 rintro m' ρ w97 ⟨zx,c_1,rfl,i0,i2,rfl,N,H⟩
 refine zcc (sps [yI c_1,.slice Qr jO yR] (oN rfl (sp (.bool (decide ((c_1:Int) < jO))) (zjn (cD rfl (fun h98=>?_) (fun h98=>?_))))))
 ·skip
  have r1:=(restR_row (c:=c_1) p0 p1 p2 (show i≤_ by omega) (show c_1 < vK s by omega)).1
  refine xw (t_n (zn (xq (zcr (sp (yI 0) (zjn (xq ?_)))))))
  refine vJ (fun m' ρ w99=>∃ (zx:Env) (k:Nat),ρ=upd (upd (upd zx 9 (.slice Qr jO yR)) 13 (yI c_1)) 14 (yI k)∧((k:Int)≤(((jW s t counts i)[c_1]!).length))∧(∀ j,j < k→0≤((jW s t counts i)[c_1]!)[j]!)∧m' =((((jW s t counts i)[c_1]!).length) - (k:Int)).toNat∧Fresh w.heap.size [Qy]∧St w w99 [rr Qr jO yR 24 1 QT,rr ra1 ((appl s t).length) rc1 4 1 ((appl s t).map (Value.bool))] [xe true Qy QT (jW s t counts i)]) (((((jW s t counts i)[c_1]!).length) - (0:Int)).toNat) ⟨_,0,uE3,qf,(by exact fun j hj=>by omega),rfl,N,H⟩ ?_
  clear H N
  rintro m' ρ w100 ⟨zx,k,rfl,i0,i3,rfl,N,H⟩
  refine zcc (sps [yI k,.slice Qr jO yR,yI c_1] ?_)
  obtain ⟨b101,rfl⟩:=H.QQ 0 rfl qf
  refine oI rfl rfl ?_
  obtain ⟨a102,c103,G104,s105,h106,H⟩:=H.jI 0 rfl 0 rfl (iv:=c_1) c_1 qf qf
  refine oL rfl (h106) (oN rfl (sp (.bool (decide ((k:Int) < (((jW s t counts i)[c_1]!).length)))) (zjn (cD rfl (fun h107=>?_) (fun h107=>?_)))))
  ·skip
   refine xw (t_n (zn (xq (zcr (sps [.slice (aa b101 0) jO yR,yI c_1] (oI rfl rfl ?_))))))
   obtain ⟨a108,c109,G110,s111,h112,H⟩:=H.jI 0 rfl 1 rfl (iv:=c_1) c_1 qf qf
   refine oL rfl (h112) (sp (yI k) ?_)
   obtain ⟨b113,o114,rfl⟩:=H.addr 0 rfl qf
   refine oI rfl rfl (oL rfl (H.jZ 0 rfl k qf qf) (sp (.bool (decide ((((jW s t counts i)[c_1]!)[k]! :Int) < 0))) (zjn (cD rfl (fun h116=>?_) (fun h116=>?_)))))
   ·skip
    refine zcr (sps [.slice (aa b101 0) jO yR,.slice (aa b101 0) jO yR,.bool false] (zjr (b_r (t_r (t_r (b_r (zr5 (ret2 (.slice (aa b101 0) jO yR) (.bool false) rfl rfl rfl ⟨_,rfl,?_,H.base⟩))))))))
    obtain rfl:i=counts.length:=by omega
    rw [stop_none (n:=counts.length) i1,xg (fun h=>by have:=h.2 c_1 qf k qf;omega)]
    exact ⟨(aa b101 0),jO,yR,QT,Qy,rfl,N,H.pick [0] [2]⟩
   refine xw (b_n (t_n (zl (sp (yI k) (sw (vg k 1 rfl rfl qf (sp (yI (k+1)) (zo (xn (m' :=((((jW s t counts i)[c_1]!).length) - ((k+1):Int)).toNat) qf ⟨_,k+1,uE3,?_,?_,rfl,N,H.pick [0,1] [2]⟩)))))))))
   · omega
   · exact fun j hj=>by (by_cases e:j=k;(subst e;omega);exact i3 j qf)
  refine c_exit (t_x (t_x (b_x (b_n (t_n (zl (sp (yI c_1) (sw (vg c_1 1 rfl rfl qf (sp (yI (c_1+1)) (zo (xn (m' :=(jO - ((c_1+1):Int)).toNat) qf ⟨_,c_1+1,uE2,?_,?_,rfl,N,H.pick [0,1] [1]⟩))))))))))))
  · omega
  · exact i2.succ (fun j hj=>i3 j qf)
 refine zx4 (zcr (sps [.slice Qr jO yR,.slice Qr jO yR,.bool true] (zjr (ret2 (.slice Qr jO yR) (.bool true) rfl rfl rfl ⟨_,rfl,?_,H.base⟩))))
 obtain rfl:i=counts.length:=by omega
 rw [stop_none (n:=counts.length) i1,yP ⟨i1,(show c_1=t.qK.length by omega)▸i2⟩]
 exact ⟨Qr,jO,yR,QT,Qy,rfl,N,H.pick [0] [0]⟩
theorem l03First_ok (w:World) (s:qy) (t:qF) {qB:yOA} {qX:yLN} {qJ:yOA} {xG:yLN} {qY:yOA} {x9:yLN} {xH:yOA} {zN:yLN} {qO:yOA} {xM:yLN} (hs:jd w bs os (yS s qB qA qJ qI)) (qP:qW.rep w qX [.slice qB s.qx.length qA] s.qx) (xx:qW.rep w xG [.slice qJ s.qw.length qI] s.qw) (ht:jd w bt ot (yT t qY qU xH xB qO qN)) (xY:qW.rep w x9 [.slice qY t.qC.length qU] t.qC) (zG:qW.rep w zN [.slice xH t.qK.length xB] t.qK) (xJ:qW.rep w xM [.slice qO t.qG.length qN] t.qG) (p0:jB s) (p1:xW s t):Calls Tryz.prog 58 #[pp bs os,pp bt ot] w (Ret (fun v w' =>∃ (ra:yOA) (rn:Nat) (rc:Nat),v=.slice ra rn rc∧Fresh w.heap.size []∧St w w' [rr ra rn rc 2 1 ((xX s t).map (Value.int .i64))] []) w):=by
 refine en func58 ntmps58 ?_
 have H:=(((((((St.start w).arg xJ).arg zG).arg xY).argAt ht).arg xx).arg qP).argAt hs
 have zS:=qQ qP
 have jv:=qQ xx
 have Qe:=qQ xY
 have QI:=qQ zG
 have yg:=qQ xJ
 clear hs qP xx ht xY zG xJ
 have N:=Fresh.nil w.heap.size
 have p3:=p0.2.1
 have p7:=p1.2.1
 have p8:=kinds_le p0
 have p9:=p0.1.2.1
 have p11:vK s=s.qx.length:=rfl
 refine zcr (sp yN (zjc (sps [pp bs os,pp bt ot] ?_)))
 have sz4:=H.base.size
 refine sw (oc (l03Applicable_ok _ s t (qH (H.get 0 rfl) 0 3) (H.get 1 rfl).1 (H.get 2 rfl).1 (qH (H.get 3 rfl) 0 3) (H.get 4 rfl).1 (H.get 5 rfl).1 (H.get 6 rfl).1 qg qg) ?_)
 rintro _ w2 ⟨ra1,rn1,rc1,rfl,M,K⟩ _
 replace H:=H.merge K M
 obtain rfl:=H.QY 0 rfl
 have al:=appl_len s t
 refine sp (.slice ra1 ((appl s t).length) rc1) (zjc (sw (QN H underlying29 ti24 fun b7 w8 H=>sp (.slice (aa b7 0) 0 0) (zjcc (sp (yI 0) (zjn (xq ?_)))))))
 replace H:=H.boxRow 0 rfl 1 0 rfl qj
 replace H:=H.Qz (α:=yLI)
 refine vJ (fun m' ρ w9=>∃ (zx:Env) (Qr:yOA) (jO:Nat) (yR:Nat) (rest:yLL) (Xv:List Value) (Q3:yLN) (c:Nat),ρ=upd (upd (upd (upd (upd zx 0 (pp bs os)) 1 (pp bt ot)) 5 (.slice ra1 ((appl s t).length) rc1)) 6 (.slice Qr jO yR)) 7 (yI c)∧rest=t.qK.take c∧((c:Int)≤t.qK.length)∧m' =(t.qK.length - (c:Int)).toNat∧Fresh w.heap.size [Q3]∧St w w9 [rr Qr jO yR 24 1 Xv,rr ra1 ((appl s t).length) rc1 4 1 ((appl s t).map (Value.bool))] [xe true Q3 Xv rest,atF bs os (yS s qB qA qJ qI),sF false qX qB qA s.qx,sF false xG qJ qI s.qw,atF bt ot (yT t qY qU xH xB qO qN),sF false x9 qY qU t.qC,sF false zN xH xB t.qK,sF false xM qO qN t.qG]) ((t.qK.length - (0:Int)).toNat) ⟨_,(aa b7 0),0,0,([]:yLL),[],[],0,uE5,(by rfl),qf,rfl,N.emp,H⟩ ?_
 clear H N
 rintro m' ρ w10 ⟨zx,Qr,jO,yR,rest,Xv,Q3,c,rfl,rfl,i0,rfl,N,H⟩
 have hn_rest:=H.zi (α:=yLI) 0 rfl 0 rfl qj
 have p4:=(p1.bagLen (k:=c))
 rw [List.length_take_of_le qf] at hn_rest
 refine zcc (sps [yI c,pp bt ot,pp bt ot] (oF rfl (oL rfl (H.zg 4 rfl 1 rfl) (oN rfl (sp (.bool (decide ((c:Int) < t.qK.length))) (zjn (cD rfl (fun h11=>?_) (fun h11=>?_))))))))
 ·skip
  refine xw (t_n (zn (xq (zl (sps [.slice Qr jO yR,pp bt ot,pp bt ot] (oF rfl (oL rfl (H.zg 4 rfl 1 rfl) (sp (yI c) ?_))))))))
  obtain ⟨b12,o13,rfl⟩:=H.addr 6 rfl qf
  obtain ⟨ae15,ce15,Fe15,H⟩:=H.Xa 6 rfl c c qf qf qf
  refine oI rfl rfl (oL rfl (H.zg 1 rfl 0 rfl) ?_)
  have p5:=(p1.bagLen (k:=c) qf).len
  have sz16:=H.base.size
  have lt17:=H.ltN (L:=[Q3]) [2]
  refine sw (oc (l00Own_ok _ (t.qK[c]!) (H.get 0 rfl).1 qg) ?_)
  rintro v21 w19 r21 x20
  replace H:=H.zt x20 r21
  obtain ⟨a22,c23,rfl,hc24,hm25⟩:=H.jS 0 rfl
  refine sw (vz H underlying29 ti24 [.slice a22 ((t.qK[c]!).length) c23] fun b26 w27 H=>?_)
  obtain ⟨G31,N,hn32,H⟩:=H.zV 1 rfl N (H.yK [2])
  refine sw (vM H 2 rfl 0 rfl underlying29 ti24 rfl qj rfl rfl rfl (by simp [Value.oneCell',Value.cells]) qp qf fun a28 c29 w30 H=>?_)
  replace H:=H.Q9 3 rfl 0 rfl
  replace N:Fresh w.heap.size [(Q3++G31)]:=(N.pick [1,0]).join
  refine sp (.slice a28 (jO+1) c29) (zo (b_n (t_n (zl (sp (yI c) (sw (vg c 1 rfl rfl (by (first | omega | (have u8:=firstC_bd p0 p1 (k:=i) qf;rw [Q7 ‹_›] at u8;omega))) (sp (yI (c+1)) (zo (xn (m' :=(t.qK.length - ((c+1):Int)).toNat) qf ⟨_,a28,jO+1,c29,((t.qK.take c)++[(t.qK[c]!)]),Xv++[.slice a22 ((t.qK[c]!).length) c23],(Q3++G31),c+1,uE5,?_,?_,rfl,N,H.pick [2,3] [0,5,6,7,8,9,10,11]⟩))))))))))
  · exact take_snoc qf
  · omega
 refine zx4 (zcr (sw (QN H underlying24 ti2 fun b33 w34 H=>sp (.slice (aa b33 0) 0 0) (zjcc (sp (yI 0) (zjn (xq ?_)))))))
 replace H:=H.boxRowI 0 [] 0
 refine vJ (fun m' ρ w35=>∃ (zx:Env) (QG:yOA) (yJ:Nat) (QE:Nat) (out:yLI) (i:Nat) (rest_1:yLL) (QT:List Value) (Qy:yLN),ρ=upd (upd (upd (upd (upd zx 0 (pp bs os)) 5 (.slice ra1 ((appl s t).length) rc1)) 6 (.slice Qr jO yR)) 8 (.slice QG yJ QE)) 9 (yI i)∧out=firstTo s t i i∧rest_1=zW s t i∧((i:Int)≤((appl s t).length))∧m' =(((appl s t).length) - (i:Int)).toNat∧Fresh w.heap.size [Qy]∧St w w35 [rr QG yJ QE 2 1 (out.map (Value.int .i64)),rr Qr jO yR 24 1 QT,rr ra1 ((appl s t).length) rc1 4 1 ((appl s t).map (Value.bool))] [xe true Qy QT rest_1,atF bs os (yS s qB qA qJ qI),sF false qX qB qA s.qx,sF false xG qJ qI s.qw]) ((((appl s t).length) - (0:Int)).toNat) ⟨_,(aa b33 0),0,0,([]:yLI),0,(t.qK.take c),Xv,Q3,uE5,(by rfl),(by rw [List.take_of_length_le qf];rfl),qf,rfl,N,H.pick [0,1,2] [0,1,2,3]⟩ ?_
 clear H N
 rintro m' ρ w36 ⟨zx,QG,yJ,QE,out,i,rest_1,QT,Qy,rfl,rfl,rfl,i0,rfl,N,H⟩
 have hn_out:=H.zO 0 rfl
 have hn_rest:=H.zi (α:=yLI) 1 rfl 0 rfl qj
 have fl:=jy s t i i
 have rl:=(firstR_box p0 p1 i qf).1
 refine zcc (sps [yI i,.slice ra1 ((appl s t).length) rc1] (oN rfl (sp (.bool (decide ((i:Int) < ((appl s t).length)))) (zjn (cD rfl (fun h37=>?_) (fun h37=>?_))))))
 ·skip
  have q:=p0.rule (i:=i) qf
  have qc:=q.1
  have qk:=q.cell
  have qr:=q.2.1
  have b1:=q.2.2.2.2.1
  refine xw (t_n (zn (xq (zcr (sp (yI 0) (zjcc (sps [.slice ra1 ((appl s t).length) rc1,yI i] ?_)))))))
  obtain ⟨b38,rfl⟩:=H.QQ 2 rfl qf
  refine oI rfl rfl (oL rfl (H.rowBool 2 rfl (iv:=i) (i:=i) qf qf) (zjn (xO ((appl s t)[i]!) rfl (fun h39=>?_) (fun h39=>?_))))
  ·skip
   replace h39:=appl_true qf h39
   refine zcr (sps [pp bs os,pp bs os] (oF rfl (oL rfl (H.zg 1 rfl 2 rfl) (sp (yI i) ?_))))
   obtain ⟨b40,o41,rfl⟩:=H.addr 3 rfl qf
   obtain ⟨ae43Need,ce43Need,Fe43Need,ae43Have,ce43Have,Fe43Have,ae43Lack,ce43Lack,Fe43Lack,ae43Here,ce43Here,Fe43Here,ae43Out,ce43Out,Fe43Out,ae43Into,ce43Into,Fe43Into,H⟩:=H.Qm 3 rfl i i qf qf qf
   refine oI rfl rfl (oF rfl (oL rfl (H.zg 6 rfl 0 rfl) (sp (yI ((s.qw[i]!).qE)) (zjn (zn ?_)))))
   refine y9 rfl H fun H=>rtp 0 (pp bs os) H ?_
   refine rtp 1 (pp bs os) H ?_
   refine tF 2 rfl rfl H ?_
   refine tL 3 rfl rfl (fun _ h=>h.zg 8 rfl 2 rfl) H ?_
   refine rtp 4 (yI i) H ?_
   refine tI 5 rfl rfl rfl H ?_
   refine tF 6 rfl rfl H ?_
   refine tL 7 rfl rfl (fun _ h=>h.zg 6 rfl 2 rfl) H ?_
   refine rtp 8 (.slice Qr jO yR) H ?_
   refine rtp 9 (yI ((s.qw[i]!).qE)) H ?_
   obtain ⟨b45,rfl⟩:=H.QQ 1 rfl qf
   refine tI 10 rfl rfl rfl H ?_
   refine ro 11 rfl ?_
   obtain ⟨a46,c47,G48,s49,h50,H⟩:=H.jI 1 rfl 7 rfl (iv:=(s.qw[i]!).qE) (((s.qw[i]!).qE).toNat) qf qf
   refine zk (.slice a46 (((zW s t i)[((s.qw[i]!).qE).toNat]!).length) c47) isAgg24 rfl (h50) (⟨H.pick [0,1,2] [1,2,3,4,5,6,7,8,9,10,11],(ro 12 rfl ?_)⟩)
   obtain ⟨u1,u2,u5⟩:=firstR_row (c:=(s.qw[i]!).qE.toNat) p0 p1 (show i≤_ by omega) qk
   have u3:=b1.len
   have u6:∀ k,k < ((s.qw[i]!).xC).length→0≤((zW s t i)[(s.qw[i]!).qE.toNat]!)[k]! ∧((zW s t i)[(s.qw[i]!).qE.toNat]!)[k]! ≤1000:=fun k hk=>u5 k qf
   have u7:=sum_pos b1.1 q.2.2.2.2.2.2.2.2.2.1
   refine oq (l01Times_ok _ ((s.qw[i]!).xC) ((zW s t i)[((s.qw[i]!).qE).toNat]!) (H.get 1 rfl).1 (H.get 0 rfl).1 qg qg qg) H fun w52 H=>⟨H.pick [0,1,2] [1,2,3,4,5,6,7,8,9,10,11],(rtp 13 (yI (Qd ((s.qw[i]!).xC) ((zW s t i)[((s.qw[i]!).qE).toNat]!))) (H.pick [0,1,2] [1,2,3,4,5,6,7,8,9,10,11]) ?_)⟩
   refine xh qh (t_n ?_)
   refine yU rfl H [0,2] fun H=>?_
   have S:=H.jA [0,2] [0,1,2,3,4,5,6,7,8,9,10,11]
   refine rtp 0 (.slice (aa b45 0) jO yR) S ?_
   refine rtp 1 (yI ((s.qw[i]!).qE)) S ?_
   refine rtp 2 (.slice (aa b45 0) jO yR) S ?_
   refine rtp 3 (yI ((s.qw[i]!).qE)) S ?_
   refine tI 4 rfl rfl rfl S ?_
   refine rtp 6 (pp bs os) S ?_
   refine rtp 7 (pp bs os) S ?_
   refine tF 8 rfl rfl S ?_
   refine tL 9 rfl rfl (fun _ h=>h.zg 9 rfl 2 rfl) S ?_
   refine rtp 10 (yI i) S ?_
   refine tI 11 rfl rfl rfl S ?_
   refine tF 12 rfl rfl S ?_
   refine tL 13 rfl rfl (fun _ h=>h.zg 7 rfl 2 rfl) S ?_
   refine rtp 14 (yI (Qd ((s.qw[i]!).xC) ((zW s t i)[((s.qw[i]!).qE).toNat]!))) S ?_
   refine rt 15 (yI (-(Qd ((s.qw[i]!).xC) ((zW s t i)[((s.qw[i]!).qE).toNat]!)))) (y_neg (Qd ((s.qw[i]!).xC) ((zW s t i)[((s.qw[i]!).qE).toNat]!)) rfl (by (first | omega | (have u8:=firstC_bd p0 p1 (k:=i) qf;rw [Q7 ‹_›] at u8;omega)))) S ?_
   refine ro 5 rfl ?_
   obtain ⟨a55,c56,G57,s58,h59,H⟩:=H.jI 1 rfl 8 rfl (iv:=(s.qw[i]!).qE) (((s.qw[i]!).qE).toNat) qf qf
   refine zk (.slice a55 (((zW s t i)[((s.qw[i]!).qE).toNat]!).length) c56) isAgg24 rfl (h59) (⟨H.pick [0,2] [1,2,3,4,5,6,7,8,9,10,11,12],(ro 16 rfl ?_)⟩)
   obtain ⟨u1,u2,u5⟩:=firstR_row (c:=(s.qw[i]!).qE.toNat) p0 p1 (show i≤_ by omega) qk
   have u3:=b1.len
   have u8:=firstC_bd p0 p1 (k:=i) qf
   rw [Q7 ‹_›] at u8
   have u4:=b1.yf (t:= -(Qd (s.qw[i]!).xC ((zW s t i)[(s.qw[i]!).qE.toNat]!))) qf
   have sz60:=H.base.size
   have lt61:=H.ltN (L:=[Qy]) [9]
   refine oc (Q5 _ ((zW s t i)[((s.qw[i]!).qE).toNat]!) ((s.qw[i]!).xC) (-(Qd ((s.qw[i]!).xC) ((zW s t i)[((s.qw[i]!).qE).toNat]!))) (H.get 0 rfl).1 (H.get 2 rfl).1 qg qg qg) ?_
   rintro v65 w63 r65 x64
   replace H:=H.zt x64 r65
   obtain ⟨a66,c67,rfl,hc68,hm69⟩:=H.jS 0 rfl
   refine ⟨H.pick [1,3] [1,2,3,4,5,6,7,8,9,10,11,12],(tI 17 rfl rfl rfl (H.pick [1,3] [1,2,3,4,5,6,7,8,9,10,11,12]) ?_)⟩
   refine ro 18 rfl ?_
   obtain ⟨G71,N,hn72,H⟩:=H.zV 0 rfl N (H.yK [9])
   refine jw true H 2 rfl 10 rfl (.slice a66 ((jR ((zW s t i)[((s.qw[i]!).qE).toNat]!) ((s.qw[i]!).xC) (-(Qd ((s.qw[i]!).xC) ((zW s t i)[((s.qw[i]!).qE).toNat]!)))).length) c67) 0 rfl rfl sizeOf24 rfl rfl (i:=(((s.qw[i]!).qE).toNat)) qf qf qm fun w70 xs73 F74 hs75 H=>?_
   replace N:Fresh w.heap.size [F74]:=(N.pick [1,0]).repl hs75
   refine ⟨H.pick [1,3] [3,4,5,6,7,8,9,10,11,12,13,14],(xh qh (t_n (zl (sps [.slice QG yJ QE,yI (Qd ((s.qw[i]!).xC) ((zW s t i)[((s.qw[i]!).qE).toNat]!))] (sw (vz H underlying24 ti2 [yI (Qd ((s.qw[i]!).xC) ((zW s t i)[((s.qw[i]!).qE).toNat]!))] fun b76 w77 H=>sw (vM H 2 rfl 0 rfl underlying24 ti2 rfl qj rfl rfl rfl (by simp [Value.oneCell',Value.cells]) qp qf fun a78 c79 w80 H=>?_)))))))⟩
   rw [snocI] at H
   refine sp (.slice a78 (yJ+1) c79) (zo (b_n (t_n (zl (sp (yI i) (sw (vg i 1 rfl rfl (by (first | omega | (have u8:=firstC_bd p0 p1 (k:=i) qf;rw [Q7 ‹_›] at u8;omega))) (sp (yI (i+1)) (zo ?_)))))))))
   refine xn (m' :=(((appl s t).length) - ((i+1):Int)).toNat) qf ⟨_,a78,yJ+1,c79,((firstTo s t i i)++[Qd ((s.qw[i]!).xC) ((zW s t i)[((s.qw[i]!).qE).toNat]!)]),i+1,((zW s t i).set (((s.qw[i]!).qE).toNat) (jR ((zW s t i)[((s.qw[i]!).qE).toNat]!) ((s.qw[i]!).xC) (-(Qd ((s.qw[i]!).xC) ((zW s t i)[((s.qw[i]!).qE).toNat]!))))),xs73,F74,uE5,?_,?_,?_,rfl,N,H.pick [2,3,4] [0,12,13,14]⟩
   · exact firstTo_snoc' (by first | exact (Q7 ‹_›).symm | exact (firstC_no ‹_›).symm)
   · first | exact (firstR_yes ‹_›).symm | exact (firstR_no ‹_›).symm
   · omega
  replace h39:=appl_false qf h39
  refine xw (t_n (zl (sps [.slice QG yJ QE,yI 0] (sw (vz H underlying24 ti2 [yI 0] fun b81 w82 H=>sw (vM H 1 rfl 0 rfl underlying24 ti2 rfl qj rfl rfl rfl (by simp [Value.oneCell',Value.cells]) qp qf fun a83 c84 w85 H=>?_))))))
  rw [snocI] at H
  refine sp (.slice a83 (yJ+1) c84) (zo (b_n (t_n (zl (sp (yI i) (sw (vg i 1 rfl rfl (by (first | omega | (have u8:=firstC_bd p0 p1 (k:=i) qf;rw [Q7 ‹_›] at u8;omega))) (sp (yI (i+1)) (zo (xn (m' :=(((appl s t).length) - ((i+1):Int)).toNat) qf ⟨_,a83,yJ+1,c84,((firstTo s t i i)++[0]),i+1,(zW s t i),QT,Qy,uE5,?_,?_,?_,rfl,N,H.pick [1,2,3] [0,1,2,3]⟩))))))))))
  · exact firstTo_snoc' (by first | exact (Q7 ‹_›).symm | exact (firstC_no ‹_›).symm)
  · first | exact (firstR_yes ‹_›).symm | exact (firstR_no ‹_›).symm
  · omega
 refine zx4 (zcr (sps [.slice QG yJ QE,.slice QG yJ QE] (zjr (ret1 (.slice QG yJ QE) rfl rfl ⟨_,rfl,?_,H.base⟩))))
 obtain rfl:i=s.qw.length:=by omega
 exact ⟨QG,yJ,QE,rfl,(N.pick []),H.pick [0] []⟩
theorem l03Step_ok (w:World) (s:qy) (t:qF) (counts:yLI) {qB:yOA} {qX:yLN} {qJ:yOA} {xG:yLN} {qY:yOA} {x9:yLN} {xH:yOA} {zN:yLN} {qO:yOA} {xM:yLN} {acounts:yOA} {Fcounts:yLN} (hs:jd w bs os (yS s qB qA qJ qI)) (qP:qW.rep w qX [.slice qB s.qx.length qA] s.qx) (xx:qW.rep w xG [.slice qJ s.qw.length qI] s.qw) (ht:jd w bt ot (yT t qY qU xH xB qO qN)) (xY:qW.rep w x9 [.slice qY t.qC.length qU] t.qC) (zG:qW.rep w zN [.slice xH t.qK.length xB] t.qK) (xJ:qW.rep w xM [.slice qO t.qG.length qN] t.qG) (hcounts:qW.rep w Fcounts [.slice acounts counts.length ccounts] counts) (p0:jB s) (p1:xW s t) (p2:CntOk s counts):Calls Tryz.prog 57 #[pp bs os,pp bt ot,.slice acounts counts.length ccounts] w (Ret (fun v w' =>∃ (ra0Alive:yOA) (rn0Alive:Nat) (rc0Alive:Nat) (ra0Bags:yOA) (rn0Bags:Nat) (rc0Bags:Nat) (rx0Bags:List Value) (rF0Bags:yLN) (Xe:yOA) (Xc:Nat) (Xd:Nat),v=.tuple #[.agg #[.slice ra0Alive rn0Alive rc0Alive,.slice ra0Bags rn0Bags rc0Bags,.slice Xe Xc Xd],yI ((xU s t counts).2)]∧Fresh w.heap.size [rF0Bags]∧St w w' [rr ra0Alive rn0Alive rc0Alive 4 1 ((((xU s t counts).1).qC).map (Value.bool)),rr ra0Bags rn0Bags rc0Bags 24 1 rx0Bags,rr Xe Xc Xd 2 1 ((((xU s t counts).1).qG).map (Value.int .i64))] [xe true rF0Bags rx0Bags (((xU s t counts).1).qK)]) w):=by
 refine en func57 ntmps57 ?_
 have H:=((((((((St.start w).arg hcounts).arg xJ).arg zG).arg xY).argAt ht).arg xx).arg qP).argAt hs
 have zS:=qQ qP
 have jv:=qQ xx
 have Qe:=qQ xY
 have QI:=qQ zG
 have yg:=qQ xJ
 have nhcounts:=qQ hcounts
 clear hs qP xx ht xY zG xJ hcounts
 have N:=Fresh.nil w.heap.size
 have p3:=p0.2.1
 have p6:=p2.1
 have p7:=p1.2.1
 have p8:=kinds_le p0
 have p9:=p0.1.2.1
 have p11:vK s=s.qx.length:=rfl
 have p12:=p1.1
 have p15:=p0.1
 have p16:=p0.1.1
 obtain ⟨q7,q8,q9,q10⟩:=p1.sizes p0.1
 have q13:=fun k hk=>Nat.le_trans (q10 k hk) (by decide:8≤1000000)
 have p14:=restR_len (s:=s) (t:=t) (counts:=counts)
 refine zcr (sw (xu H ti31 [yN,yN,yN] fun b1 w2 H=>sp (yI 0) (zjc (sps [pp bs os,pp bt ot,.slice acounts counts.length ccounts] ?_))))
 have sz6:=H.base.size
 refine sw (oc (l03Rest_ok _ s t counts (qH (H.get 0 rfl) 0 3) (H.get 1 rfl).1 (H.get 2 rfl).1 (qH (H.get 3 rfl) 0 3) (H.get 4 rfl).1 (H.get 5 rfl).1 (H.get 6 rfl).1 (H.get 7 rfl).1 qg qg qg) ?_)
 rintro _ w4 ⟨ra3a,rn3a,rc3a,rx3a,rF3a,rfl,M,K⟩ _
 replace N:=N.merge sz6 qm M
 replace H:=H.merge K M
 obtain rfl:=H.zi (α:=yLI) 0 rfl 0 rfl qj
 refine sps [.tuple #[.slice ra3a ((jW s t counts (Qq (BadAt s t counts) counts.length)).length) rc3a,.bool (dec (IsCh s t counts))],.slice ra3a ((jW s t counts (Qq (BadAt s t counts) counts.length)).length) rc3a,.bool (dec (IsCh s t counts)),.slice ra3a ((jW s t counts (Qq (BadAt s t counts) counts.length)).length) rc3a,.bool (dec (IsCh s t counts))] (zjcc (sps [.bool (dec (IsCh s t counts)),.bool (!(dec (IsCh s t counts)))] (zjn (cQ rfl (fun h9=>?_) (fun h9=>?_)))))
 ·skip
  refine zcr (sw (xK [yN,yN,yN] [] (sw (qV H 1 [yN,yN,yN] sizeOf31 fun w10 H=>sp (yI 4) (zjr (t_r ?_))))))
  replace H:=H.nilRowB 4
  replace H:=H.nilRow 24 1
  replace H:=H.Qz (α:=yLI)
  replace H:=H.nilRowI 2
  refine retC2 H 4 rfl (yI 4) rfl isAgg31 sizeOf31 rfl rfl ⟨_,rfl,?_,H.base⟩
  rw [stepBy_no ‹_›]
  exact ⟨none,0,0,none,0,0,[],[],none,0,0,rfl,(N.emp.pick [0]),H.pick [2,1,0] [0]⟩
 have st:=stop_none (n:=counts.length) (P:=BadAt s t counts) (‹IsCh s t counts›).1
 have r1:=restR_len (s:=s) (t:=t) (counts:=counts) (Qq (BadAt s t counts) counts.length)
 refine xw (t_n (zcr (sp (pp bt ot) ?_)))
 have sz14:=H.base.size
 have lt15:=H.ltN (L:=[rF3a]) [0]
 refine sw (oc (l02Own_ok _ t (qH (H.get 4 rfl) 0 3) (H.get 5 rfl).1 (H.get 6 rfl).1 (H.get 7 rfl).1 qg qg qg qg) ?_)
 rintro _ w12 ⟨yD,rn11Alive,yC,ra11Bags,rn11Bags,rc11Bags,XD,yc,ra11Around,rn11Around,rc11Around,rfl,M,K⟩ _
 replace N:=N.merge sz14 lt15 M
 replace H:=H.merge K M
 obtain rfl:=H.QY 0 rfl
 obtain rfl:=H.zi (α:=yLI) 1 rfl 0 rfl qj
 obtain rfl:=H.zO 2 rfl
 refine sw (xu H ti31 [yN,yN,yN] fun b19 w20 H=>sw (qV H 0 (yT t yD yC ra11Bags rc11Bags ra11Around rc11Around) sizeOf31 fun w21 H=>zjc (sp (.slice ra3a ((jW s t counts (Qq (BadAt s t counts) counts.length)).length) rc3a) (oF rfl (sw (zU H 0 [.slice yD t.qC.length yC,.slice ra3a ((jW s t counts (Qq (BadAt s t counts) counts.length)).length) rc3a,.slice ra11Around t.qG.length rc11Around] sizeOf29 fun w22 H=>zjcc (sp (yI 0) ?_)))))))
 refine zjn (xq ?_)
 refine vJ (fun m' ρ w23=>∃ (zx:Env) (i:Nat) (ja:yOA) (vY:Nat) (vZ:Nat) (out_Around:yLI) (rest:yLL) (Xv:List Value) (Q3:yLN),ρ=upd (upd (upd (upd (upd (upd zx 0 (pp bs os)) 1 (pp bt ot)) 2 (.slice acounts counts.length ccounts)) 6 (pp b1 0)) 10 (pp b19 0)) 11 (yI i)∧((i:Int)≤counts.length)∧(Ent (s.qx.length+1) (yX s) (fun p q=>base0 s t p q+needS s counts s.qw.length p q+putS s t counts i p q) (20000000+6000000 * i) (rest++[out_Around]))∧(rest.length=s.qx.length)∧m' =(counts.length - (i:Int)).toNat∧Fresh w.heap.size [yc,Q3]∧St w w23 [.box b19 [.slice yD t.qC.length yC,.slice ra3a ((jW s t counts (Qq (BadAt s t counts) counts.length)).length) rc3a,.slice ja vY vZ] 31,rr yD t.qC.length yC 4 1 (t.qC.map (Value.bool)),rr ra11Bags t.qK.length rc11Bags 24 1 XD,rr ja vY vZ 2 1 (out_Around.map (Value.int .i64)),rr ra3a ((jW s t counts (Qq (BadAt s t counts) counts.length)).length) rc3a 24 1 Xv,.box b1 [yN,yN,yN] 31] [xe true yc XD t.qK,xe true Q3 Xv rest,atF bs os (yS s qB qA qJ qI),sF false qX qB qA s.qx,sF false xG qJ qI s.qw,atF bt ot (yT t qY qU xH xB qO qN),sF false x9 qY qU t.qC,sF false zN xH xB t.qK,sF false xM qO qN t.qG,sF false Fcounts acounts ccounts counts]) ((counts.length - (0:Int)).toNat) ⟨_,0,ra11Around,t.qG.length,rc11Around,t.qG,jW s t counts (Qq (BadAt s t counts) counts.length),rx3a,rF3a,uE6,qf,(by rw [st,p6];exact (rest_ent p0 p1 p2).to (fun _ _=>rfl) qf),qf,rfl,N,H⟩ ?_
 clear H N
 rintro m' ρ w24 ⟨zx,i,ja,vY,vZ,out_Around,rest,Xv,Q3,rfl,i0,E_rest,z_rest,rfl,N,H⟩
 have hn_out_Around:=H.zO 3 rfl
 have hn_rest:=H.zi (α:=yLI) 4 rfl 1 rfl qj
 refine zcc (sps [yI i,.slice acounts counts.length ccounts] (oN rfl (sp (.bool (decide ((i:Int) < counts.length))) (zjn (cD rfl (fun h25=>?_) (fun h25=>?_))))))
 ·skip
  have q:=p0.rule (i:=i) qf
  have qc:=q.1
  have qk:=q.cell
  have qr:=q.2.1
  have bn1:=q.2.2.2.2.1
  have bn2:=q.2.2.2.2.2.2.2.1
  have bn3:=q.2.2.2.2.2.2.2.2.1
  have ln1:=bn1.len
  have ln2:=bn2.len
  have ln3:=bn3.len
  have p10:=p2.bd (i:=i) qf
  have qn:=q.2.2.2.1
  refine xw (t_n (zn (xq (zcr (sps [pp bs os,pp bs os] (oF rfl (oL rfl (H.zg 2 rfl 2 rfl) (sp (yI i) ?_))))))))
  obtain ⟨b26,o27,rfl⟩:=H.addr 4 rfl qf
  obtain ⟨yH,jC,Qh,jG,jE,Qk,jF,jD,Qi,ae29Here,ce29Here,Fe29Here,Qa,y8,QM,jM,jL,Qj,H⟩:=H.Qm 4 rfl i i qf qf qf
  refine oI rfl rfl (sp (pp b26 (o27+(i:Int).toNat * 9)) (zjcc (sps [.slice acounts counts.length ccounts,yI i] ?_)))
  obtain ⟨b30,o31,rfl⟩:=H.addr 16 rfl qf
  refine oI rfl rfl (oL rfl (H.jZ 16 rfl i qf qf) (sp (.bool ((counts[i]! :Int) == 0)) (zjn (cE rfl (fun h33=>?_) (fun h33=>?_)))))
  ·skip
   refine c_exit (t_x (b_x (t_n (zl (sp (yI i) (sw (vg i 1 rfl rfl qf (sp (yI (i+1)) (zo (xn (m' :=(counts.length - ((i+1):Int)).toNat) qf ⟨_,i+1,ja,vY,vZ,out_Around,rest,Xv,Q3,uE6,?_,?_,?_,rfl,N,H.pick [0,1,2,3,4,5] [7,8,9,10,11,12,13,14,15,16]⟩))))))))))
   · omega
   · first | exact E_rest.to (fun p q=>by simp only [putS_skip (s:=s) (t:=t) (counts:=counts) (i:=i) ‹_›]) qf | exact E_out_Bags.to (fun p q=>by rw [show k=((s.qw[i]!).qM).length by omega];simp only [putS,putF];omega) qf
   · omega
  refine xw (t_n (zn ?_))
  refine yU rfl H [0,1,2,3,5] fun H=>?_
  have S:=H.jA [0,1,2,3,5] [0,1,2,3,4,5,6,7,8,9,10,11,12,13,14,15,16]
  refine tF 0 rfl rfl S ?_
  refine tL 1 rfl rfl (fun _ h=>h.cell 0 rfl rfl) S ?_
  refine rtp 2 (pp b26 (o27+(i:Int).toNat * 9)) S ?_
  refine rtp 3 (pp b26 (o27+(i:Int).toNat * 9)) S ?_
  refine tF 4 rfl rfl S ?_
  refine tL 5 rfl rfl (fun _ h=>h.zg 6 rfl 0 rfl) S ?_
  refine tF 6 rfl rfl S ?_
  refine tL 7 rfl rfl (fun _ h=>h.cell 0 rfl rfl) S ?_
  refine rtp 8 (pp b26 (o27+(i:Int).toNat * 9)) S ?_
  refine rtp 9 (pp b26 (o27+(i:Int).toNat * 9)) S ?_
  refine tF 10 rfl rfl S ?_
  refine tL 11 rfl rfl (fun _ h=>h.zg 6 rfl 0 rfl) S ?_
  obtain ⟨b35,rfl⟩:=H.QQ 4 rfl qf
  have S:=H.jA [0,1,2,3,5] [0,1,2,3,4,5,6,7,8,9,10,11,12,13,14,15,16]
  refine tI 12 rfl rfl rfl S ?_
  refine rtp 14 (pp b26 (o27+(i:Int).toNat * 9)) S ?_
  refine rtp 15 (pp b26 (o27+(i:Int).toNat * 9)) S ?_
  refine tF 16 rfl rfl S ?_
  refine tL 17 rfl rfl (fun _ h=>h.zg 6 rfl 5 rfl) S ?_
  refine rtp 18 (.slice (aa b30 o31) counts.length ccounts) S ?_
  refine rtp 19 (yI i) S ?_
  refine tI 20 rfl rfl rfl S ?_
  refine tL 21 rfl rfl (fun _ h=>h.QO 16 rfl i qf) S ?_
  refine ro 13 rfl ?_
  obtain ⟨a36,c37,G38,s39,h40,H⟩:=H.jI 4 rfl 8 rfl (iv:=(s.qw[i]!).qE) (((s.qw[i]!).qE).toNat) qf qf
  refine zk (.slice a36 ((rest[((s.qw[i]!).qE).toNat]!).length) c37) isAgg24 rfl (h40) (⟨H.pick [0,1,2,3,5] [1,2,3,4,5,6,7,8,9,10,11,12,13,14,15,16,17],(ro 22 rfl ?_)⟩)
  obtain ⟨u1,u2⟩:=Ent.rowL E_rest (c:=((s.qw[i]!).qE).toNat) qf qf qf qf
  have u4:=(by first | exact bn2.yf qf | exact bn3.yf qf | exact bn4.yf qf:SmallT ((s.qw[i]!).zf) (counts[i]!))
  have sz41:=H.base.size
  have lt42:=H.ltN (L:=[yc,Q3]) [8,9]
  refine oc (Q5 _ (rest[((s.qw[i]!).qE).toNat]!) ((s.qw[i]!).zf) (counts[i]!) (H.get 0 rfl).1 (H.get 4 rfl).1 qg qg qg) ?_
  rintro v46 w44 r46 x45
  replace H:=H.zt x45 r46
  obtain ⟨a47,c48,rfl,hc49,hm50⟩:=H.jS 0 rfl
  refine ⟨H.pick [1,2,3,4,6] [1,2,3,4,5,6,7,8,9,10,11,12,13,14,15,16,17],(tI 23 rfl rfl rfl (H.pick [1,2,3,4,6] [1,2,3,4,5,6,7,8,9,10,11,12,13,14,15,16,17]) ?_)⟩
  refine ro 24 rfl ?_
  obtain ⟨G52,N,hn53,H⟩:=H.zV 0 rfl N (H.yK [8,9])
  refine jw true H 5 rfl 10 rfl (.slice a47 ((jR (rest[((s.qw[i]!).qE).toNat]!) ((s.qw[i]!).zf) (counts[i]!)).length) c48) 0 rfl rfl sizeOf24 rfl rfl (i:=(((s.qw[i]!).qE).toNat)) qf qf qm fun w51 xs54 F55 hs56 H=>?_
  replace N:Fresh w.heap.size [F55,yc]:=(N.pick [2,0,1]).repl hs56
  refine ⟨H.pick [1,2,3,4,6] [3,4,5,6,7,8,9,10,11,12,13,14,15,16,17,18,19],(xh qh (t_n (zcc (sps [pp b26 (o27+(i:Int).toNat * 9),pp b26 (o27+(i:Int).toNat * 9)] (oF rfl (oL rfl (H.zg 9 rfl 0 rfl) (sp (.bool (((s.qw[i]!).qE:Int) == 0)) (zjn (cE rfl (fun h57=>?_) (fun h57=>?_))))))))))⟩
  ·skip
   obtain ⟨bg58,e_bg58⟩:∃ z,z=(rest.set (((s.qw[i]!).qE).toNat) (jR (rest[((s.qw[i]!).qE).toNat]!) ((s.qw[i]!).zf) (counts[i]!))):=⟨_,rfl⟩
   rw [← e_bg58] at H
   have E_bg58:=Ent.addL (D:=1000000) E_rest e_bg58 qf qf (by first | exact bn2.mul qf | exact bn3.mul qf | exact bn4.mul qf) qf
   have z_bg58:bg58.length=s.qx.length:=by rw [e_bg58,List.length_set];omega
   have E_cur:=E_bg58
   refine yU rfl H [0,2,3,4,5,6] fun H=>?_
   have S:=H.jA [0,2,3,4,5,6] [0,1,2,3,4,5,6,7,8,9,10,11,12,13,14,15,16,17,18,19]
   refine tF 0 rfl rfl S ?_
   refine rtp 2 (pp b26 (o27+(i:Int).toNat * 9)) S ?_
   refine rtp 3 (pp b26 (o27+(i:Int).toNat * 9)) S ?_
   refine tF 4 rfl rfl S ?_
   refine tL 5 rfl rfl (fun _ h=>h.zg 9 rfl 6 rfl) S ?_
   refine rtp 6 (.slice (aa b30 o31) counts.length ccounts) S ?_
   refine rtp 7 (yI i) S ?_
   refine tI 8 rfl rfl rfl S ?_
   refine tL 9 rfl rfl (fun _ h=>h.QO 19 rfl i qf) S ?_
   refine ro 1 rfl (zk (.slice ja vY vZ) isAgg24 rfl (H.cell 1 rfl rfl) (⟨H.pick [0,2,3,4,5,6] [0,1,2,3,4,5,6,7,8,9,10,11,12,13,14,15,16,17,18,19],(ro 10 rfl ?_)⟩))
   obtain ⟨G60,hn61,h62⟩:=H.yZ 4 rfl
   obtain ⟨u1,u2⟩:=Ent.rowN E_bg58 qf qf qf
   have u4:=(by first | exact bn2.yf qf | exact bn3.yf qf | exact bn4.yf qf:SmallT ((s.qw[i]!).jb) (counts[i]!))
   have sz63:=H.base.size
   have lt64:=H.ltN (L:=[F55,yc]) [0,10]
   refine oc (args_eq (by rw [← hn61]) (Q5 _ out_Around ((s.qw[i]!).jb) (counts[i]!) (hn61▸h62) (H.get 7 rfl).1 qg qg qg)) ?_
   rintro v68 w66 r68 x67
   replace H:=H.zt x67 r68
   obtain ⟨a69,c70,rfl,hc71,hm72⟩:=H.jS 0 rfl
   refine ⟨H.pick [1,3,4,5,6,7] [0,1,2,3,4,5,6,7,8,9,10,11,12,13,14,15,16,17,18,19],(tF 11 rfl rfl (H.pick [1,3,4,5,6,7] [0,1,2,3,4,5,6,7,8,9,10,11,12,13,14,15,16,17,18,19]) ?_)⟩
   refine ro 12 rfl (zU H 2 [.slice yD t.qC.length yC,.slice (aa b35 0) ((jW s t counts (Qq (BadAt s t counts) counts.length)).length) rc3a,.slice a69 ((jR out_Around ((s.qw[i]!).jb) (counts[i]!)).length) c70] sizeOf24 fun w73 H=>⟨H.pick [1,3,4,5,6,7] [0,1,2,3,4,5,6,7,8,9,10,11,12,13,14,15,16,17,18,19],(xh qh (t_n (zcr (sp (yI 0) (zjn (xq ?_))))))⟩)
   replace E_bg58:=Ent.addN (D:=1000000) (a' :=jR out_Around ((s.qw[i]!).jb) (counts[i]!)) E_bg58 rfl qf (by first | exact bn2.mul qf | exact bn3.mul qf | exact bn4.mul qf) qf
   have E_cur:=E_bg58
   refine vJ (fun m' ρ w74=>∃ (zx:Env) (k:Nat) (out_Bags:yLL) (zq:List Value) (xN:yLN),ρ=upd (upd (upd (upd (upd (upd (upd (upd zx 0 (pp bs os)) 1 (pp bt ot)) 2 (.slice (aa b30 o31) counts.length ccounts)) 6 (pp b1 0)) 10 (pp b19 0)) 11 (yI i)) 12 (pp b26 (o27+(i:Int).toNat * 9))) 14 (yI k)∧((k:Int)≤(((s.qw[i]!).qM).length))∧(Ent (s.qx.length+1) (yX s) (fun p q=>base0 s t p q+needS s counts s.qw.length p q+putS s t counts i p q+at' p (s.qw[i]!).qE.toNat (counts[i]! * ((s.qw[i]!).zf)[q]!)+at' p (outPl s t (s.qw[i]!)) (counts[i]! * ((s.qw[i]!).jb)[q]!)+intoF (s.qw[i]!) (counts[i]!) k p q) (22000000+6000000 * i+1000000 * k) (out_Bags++[jR out_Around ((s.qw[i]!).jb) (counts[i]!)]))∧(out_Bags.length=s.qx.length)∧m' =((((s.qw[i]!).qM).length) - (k:Int)).toNat∧Fresh w.heap.size [yc,xN]∧St w w74 [rr a69 ((jR out_Around ((s.qw[i]!).jb) (counts[i]!)).length) c70 2 1 ((jR out_Around ((s.qw[i]!).jb) (counts[i]!)).map (Value.int .i64)),.box b19 [.slice yD t.qC.length yC,.slice (aa b35 0) ((jW s t counts (Qq (BadAt s t counts) counts.length)).length) rc3a,.slice a69 ((jR out_Around ((s.qw[i]!).jb) (counts[i]!)).length) c70] 31,rr yD t.qC.length yC 4 1 (t.qC.map (Value.bool)),rr ra11Bags t.qK.length rc11Bags 24 1 XD,rr ja vY vZ 2 1 (out_Around.map (Value.int .i64)),rr (aa b35 0) ((jW s t counts (Qq (BadAt s t counts) counts.length)).length) rc3a 24 1 zq,.box b1 [yN,yN,yN] 31] [xe true xN zq out_Bags,sF false Qh yH jC ((s.qw[i]!).xC),sF false Qk jG jE ((s.qw[i]!).x8),sF false Qi jF jD ((s.qw[i]!).xZ),sF false Fe29Here ae29Here ce29Here ((s.qw[i]!).zf),sF false QM Qa y8 ((s.qw[i]!).jb),sF false Qj jM jL ((s.qw[i]!).qM),atF b26 (o27+(i:Int).toNat * 9) [yI ((s.qw[i]!).qE),yI ((s.qw[i]!).vw),.slice yH (((s.qw[i]!).xC).length) jC,.slice jG (((s.qw[i]!).x8).length) jE,.slice jF (((s.qw[i]!).xZ).length) jD,.slice ae29Here (((s.qw[i]!).zf).length) ce29Here,.slice Qa (((s.qw[i]!).jb).length) y8,.slice jM (((s.qw[i]!).qM).length) jL,.bool ((s.qw[i]!).zD)],xe true yc XD t.qK,atF bs os [yI s.xk,.slice qB s.qx.length qA,.slice (aa b26 o27) s.qw.length qI],sF false qX qB qA s.qx,sF false xG (aa b26 o27) qI s.qw,atF bt ot (yT t qY qU xH xB qO qN),sF false x9 qY qU t.qC,sF false zN xH xB t.qK,sF false xM qO qN t.qG,sF false Fcounts (aa b30 o31) ccounts counts]) (((((s.qw[i]!).qM).length) - (0:Int)).toNat) ⟨_,0,bg58,xs54,F55,uE8,qf,(by exact E_cur.to (fun p q=>by first | (simp only [intoF,outPl_root (s:=s) (t:=t) (r:=s.qw[i]!) ‹_›,vK];omega) | (simp only [intoF,outPl_up (s:=s) (t:=t) (r:=s.qw[i]!) ‹_›];omega)) qf),qf,rfl,(N.pick [1,0]),H.pick [0,2,3,4,5,6,7] [0,3,4,5,6,7,8,9,10,12,13,14,15,16,17,18,19]⟩ ?_
   clear H N
   rintro m' ρ w75 ⟨zx,k,out_Bags,zq,xN,rfl,i0,E_out_Bags,z_out_Bags,rfl,N,H⟩
   have XE:=H.zi (α:=yLI) 5 rfl 0 rfl qj
   refine zcc (sps [yI k,pp b26 (o27+(i:Int).toNat * 9),pp b26 (o27+(i:Int).toNat * 9)] (oF rfl (oL rfl (H.zg 7 rfl 7 rfl) (oN rfl (sp (.bool (decide ((k:Int) < (((s.qw[i]!).qM).length)))) (zjn (cD rfl (fun h76=>?_) (fun h76=>?_))))))))
   ·skip
    have qi:=q.2.2.2.2.2.2.2.2.2.2 k qf
    have qi1:=qi.1
    have bn4:=qi.2.2.1
    have ln4:=bn4.len
    refine xw (t_n (zn (xq (zcr (sps [pp b26 (o27+(i:Int).toNat * 9),pp b26 (o27+(i:Int).toNat * 9)] (oF rfl (oL rfl (H.zg 7 rfl 7 rfl) (sp (yI k) ?_))))))))
    obtain ⟨b77,o78,rfl⟩:=H.addr 6 rfl qf
    obtain ⟨ae80Bag,ce80Bag,Fe80Bag,H⟩:=H.yY 6 rfl k k qf qf qf
    refine oI rfl rfl (oF rfl (oL rfl (H.zg 1 rfl 0 rfl) (sp (yI ((((s.qw[i]!).qM)[k]!).qE)) (zjn ?_))))
    refine yU rfl H [0,1,2,3,4,6] fun H=>?_
    have S:=H.jA [0,1,2,3,4,6] [0,1,2,3,4,5,6,7,8,9,10,11,12,13,14,15,16,17,18]
    refine tF 0 rfl rfl S ?_
    refine tL 1 rfl rfl (fun _ h=>h.cell 1 rfl rfl) S ?_
    refine rtp 2 (yI ((((s.qw[i]!).qM)[k]!).qE)) S ?_
    refine tF 3 rfl rfl S ?_
    refine tL 4 rfl rfl (fun _ h=>h.cell 1 rfl rfl) S ?_
    refine rtp 5 (yI ((((s.qw[i]!).qM)[k]!).qE)) S ?_
    refine tI 6 rfl rfl rfl S ?_
    refine rtp 8 (pp b26 (o27+(i:Int).toNat * 9)) S ?_
    refine rtp 9 (pp b26 (o27+(i:Int).toNat * 9)) S ?_
    refine tF 10 rfl rfl S ?_
    refine tL 11 rfl rfl (fun _ h=>h.zg 9 rfl 7 rfl) S ?_
    refine rtp 12 (yI k) S ?_
    refine tI 13 rfl rfl rfl S ?_
    refine tF 14 rfl rfl S ?_
    refine tL 15 rfl rfl (fun _ h=>h.zg 1 rfl 1 rfl) S ?_
    refine rtp 16 (.slice (aa b30 o31) counts.length ccounts) S ?_
    refine rtp 17 (yI i) S ?_
    refine tI 18 rfl rfl rfl S ?_
    refine tL 19 rfl rfl (fun _ h=>h.QO 18 rfl i qf) S ?_
    refine ro 7 rfl ?_
    obtain ⟨a82,c83,G84,s85,h86,H⟩:=H.jI 5 rfl 2 rfl (iv:=(((s.qw[i]!).qM)[k]!).qE) (((((s.qw[i]!).qM)[k]!).qE).toNat) qf qf
    refine zk (.slice a82 ((out_Bags[((((s.qw[i]!).qM)[k]!).qE).toNat]!).length) c83) isAgg24 rfl (h86) (⟨H.pick [0,1,2,3,4,6] [1,2,3,4,5,6,7,8,9,10,11,12,13,14,15,16,17,18,19],(ro 20 rfl ?_)⟩)
    obtain ⟨u1,u2⟩:=Ent.rowL E_out_Bags (c:=((((s.qw[i]!).qM)[k]!).qE).toNat) qf qf qf qf
    have u4:=(by first | exact bn2.yf qf | exact bn3.yf qf | exact bn4.yf qf:SmallT ((((s.qw[i]!).qM)[k]!).QC) (counts[i]!))
    have sz87:=H.base.size
    have lt88:=H.ltN (L:=[yc,xN]) [11,3]
    refine oc (Q5 _ (out_Bags[((((s.qw[i]!).qM)[k]!).qE).toNat]!) ((((s.qw[i]!).qM)[k]!).QC) (counts[i]!) (H.get 0 rfl).1 (H.get 1 rfl).1 qg qg qg) ?_
    rintro v92 w90 r92 x91
    replace H:=H.zt x91 r92
    obtain ⟨a93,c94,rfl,hc95,hm96⟩:=H.jS 0 rfl
    refine ⟨H.pick [1,2,3,4,5,7] [1,2,3,4,5,6,7,8,9,10,11,12,13,14,15,16,17,18,19],(tI 21 rfl rfl rfl (H.pick [1,2,3,4,5,7] [1,2,3,4,5,6,7,8,9,10,11,12,13,14,15,16,17,18,19]) ?_)⟩
    refine ro 22 rfl ?_
    obtain ⟨G98,N,hn99,H⟩:=H.zV 0 rfl N (H.yK [11,3])
    refine jw true H 6 rfl 4 rfl (.slice a93 ((jR (out_Bags[((((s.qw[i]!).qM)[k]!).qE).toNat]!) ((((s.qw[i]!).qM)[k]!).QC) (counts[i]!)).length) c94) 0 rfl rfl sizeOf24 rfl rfl (i:=(((((s.qw[i]!).qM)[k]!).qE).toNat)) qf qf qm fun w97 xs100 F101 hs102 H=>?_
    replace N:Fresh w.heap.size [F101,yc]:=(N.pick [2,0,1]).repl hs102
    refine ⟨H.pick [1,2,3,4,5,7] [3,4,5,6,7,8,9,10,11,12,13,14,15,16,17,18,19,20,21],(xh qh (b_n (t_n (zl (sp (yI k) (sw (vg k 1 rfl rfl qf (sp (yI (k+1)) (zo ?_)))))))))⟩
    obtain ⟨bg103,e_bg103⟩:∃ z,z=(out_Bags.set (((((s.qw[i]!).qM)[k]!).qE).toNat) (jR (out_Bags[((((s.qw[i]!).qM)[k]!).qE).toNat]!) ((((s.qw[i]!).qM)[k]!).QC) (counts[i]!))):=⟨_,rfl⟩
    rw [← e_bg103] at H
    have E_bg103:=Ent.addL (D:=1000000) E_out_Bags e_bg103 qf qf (by first | exact bn2.mul qf | exact bn3.mul qf | exact bn4.mul qf) qf
    have z_bg103:bg103.length=s.qx.length:=by rw [e_bg103,List.length_set];omega
    have E_cur:=E_bg103
    refine xn (m' :=((((s.qw[i]!).qM).length) - ((k+1):Int)).toNat) qf ⟨_,k+1,bg103,xs100,F101,uE8,?_,?_,?_,rfl,(N.pick [1,0]),H.pick [1,2,3,4,5,6,7] [0,6,7,8,9,10,11,12,13,14,15,16,17,18,19,20,21]⟩
    · omega
    · exact E_cur.to (fun p q=>by simp only [intoF];omega) qf
    · omega
   refine c_exit (t_x (t_x (b_x (b_n (t_n (zl (sp (yI i) (sw (vg i 1 rfl rfl qf (sp (yI (i+1)) (zo (xn (m' :=(counts.length - ((i+1):Int)).toNat) qf ⟨_,i+1,a69,(jR out_Around ((s.qw[i]!).jb) (counts[i]!)).length,c70,jR out_Around ((s.qw[i]!).jb) (counts[i]!),out_Bags,zq,xN,uE6,?_,?_,?_,rfl,N,H.pick [1,2,3,0,5,6] [8,0,9,10,11,12,13,14,15,16]⟩))))))))))))
   · omega
   · first | exact E_rest.to (fun p q=>by simp only [putS_skip (s:=s) (t:=t) (counts:=counts) (i:=i) ‹_›]) qf | exact E_out_Bags.to (fun p q=>by rw [show k=((s.qw[i]!).qM).length by omega];simp only [putS,putF];omega) qf
   · omega
  obtain ⟨bg104,e_bg104⟩:∃ z,z=(rest.set (((s.qw[i]!).qE).toNat) (jR (rest[((s.qw[i]!).qE).toNat]!) ((s.qw[i]!).zf) (counts[i]!))):=⟨_,rfl⟩
  rw [← e_bg104] at H
  have E_bg104:=Ent.addL (D:=1000000) E_rest e_bg104 qf qf (by first | exact bn2.mul qf | exact bn3.mul qf | exact bn4.mul qf) qf
  have z_bg104:bg104.length=s.qx.length:=by rw [e_bg104,List.length_set];omega
  have E_cur:=E_bg104
  refine zcr (sps [pp bs os,pp bt ot,pp b26 (o27+(i:Int).toNat * 9),pp b26 (o27+(i:Int).toNat * 9)] (oF rfl (oL rfl (H.zg 9 rfl 0 rfl) (sw (oq (l02Parent_ok _ s t ((s.qw[i]!).qE) (qH (H.get 12 rfl) 0 3) (H.get 13 rfl).1 (H.get 14 rfl).1 (qH (H.get 15 rfl) 0 3) (H.get 16 rfl).1 (H.get 17 rfl).1 (H.get 18 rfl).1 ql ql ql) H fun w105 H=>?_)))))
  have pin:=Xf (s:=s) (t:=t) (c:=((s.qw[i]!).qE)) p0.1 p1.2.2.1 qf qf
  refine sp (yI (qR s t ((s.qw[i]!).qE))) (zjn ?_)
  refine yU rfl H [0,1,2,3,4,6] fun H=>?_
  have S:=H.jA [0,1,2,3,4,6] [0,1,2,3,4,5,6,7,8,9,10,11,12,13,14,15,16,17,18,19]
  refine tF 0 rfl rfl S ?_
  refine tL 1 rfl rfl (fun _ h=>h.cell 1 rfl rfl) S ?_
  refine rtp 2 (yI (qR s t ((s.qw[i]!).qE))) S ?_
  refine tF 3 rfl rfl S ?_
  refine tL 4 rfl rfl (fun _ h=>h.cell 1 rfl rfl) S ?_
  refine rtp 5 (yI (qR s t ((s.qw[i]!).qE))) S ?_
  refine tI 6 rfl rfl rfl S ?_
  refine rtp 8 (pp b26 (o27+(i:Int).toNat * 9)) S ?_
  refine rtp 9 (pp b26 (o27+(i:Int).toNat * 9)) S ?_
  refine tF 10 rfl rfl S ?_
  refine tL 11 rfl rfl (fun _ h=>h.zg 9 rfl 6 rfl) S ?_
  refine rtp 12 (.slice (aa b30 o31) counts.length ccounts) S ?_
  refine rtp 13 (yI i) S ?_
  refine tI 14 rfl rfl rfl S ?_
  refine tL 15 rfl rfl (fun _ h=>h.QO 19 rfl i qf) S ?_
  refine ro 7 rfl ?_
  obtain ⟨a108,c109,G110,s111,h112,H⟩:=H.jI 5 rfl 0 rfl (iv:=qR s t ((s.qw[i]!).qE)) ((qR s t ((s.qw[i]!).qE)).toNat) qf qf
  refine zk (.slice a108 ((bg104[(qR s t ((s.qw[i]!).qE)).toNat]!).length) c109) isAgg24 rfl (h112) (⟨H.pick [0,1,2,3,4,6] [1,2,3,4,5,6,7,8,9,10,11,12,13,14,15,16,17,18,19,20],(ro 16 rfl ?_)⟩)
  obtain ⟨u1,u2⟩:=Ent.rowL E_bg104 (c:=(qR s t ((s.qw[i]!).qE)).toNat) qf qf qf qf
  have u4:=(by first | exact bn2.yf qf | exact bn3.yf qf | exact bn4.yf qf:SmallT ((s.qw[i]!).jb) (counts[i]!))
  have sz113:=H.base.size
  have lt114:=H.ltN (L:=[F55,yc]) [1,11]
  refine oc (Q5 _ (bg104[(qR s t ((s.qw[i]!).qE)).toNat]!) ((s.qw[i]!).jb) (counts[i]!) (H.get 0 rfl).1 (H.get 8 rfl).1 qg qg qg) ?_
  rintro v118 w116 r118 x117
  replace H:=H.zt x117 r118
  obtain ⟨a119,c120,rfl,hc121,hm122⟩:=H.jS 0 rfl
  refine ⟨H.pick [1,2,3,4,5,7] [1,2,3,4,5,6,7,8,9,10,11,12,13,14,15,16,17,18,19,20],(tI 17 rfl rfl rfl (H.pick [1,2,3,4,5,7] [1,2,3,4,5,6,7,8,9,10,11,12,13,14,15,16,17,18,19,20]) ?_)⟩
  refine ro 18 rfl ?_
  obtain ⟨G124,N,hn125,H⟩:=H.zV 0 rfl N (H.yK [1,11])
  refine jw true H 6 rfl 2 rfl (.slice a119 ((jR (bg104[(qR s t ((s.qw[i]!).qE)).toNat]!) ((s.qw[i]!).jb) (counts[i]!)).length) c120) 0 rfl rfl sizeOf24 rfl rfl (i:=((qR s t ((s.qw[i]!).qE)).toNat)) qf qf qm fun w123 xs126 F127 hs128 H=>?_
  replace N:Fresh w.heap.size [F127,yc]:=(N.pick [1,0,2]).repl hs128
  refine ⟨H.pick [1,2,3,4,5,7] [3,4,5,6,7,8,9,10,11,12,13,14,15,16,17,18,19,20,21,22],(xh qh (t_n (zcr (sp (yI 0) (zjn (xq ?_))))))⟩
  obtain ⟨bg129,e_bg129⟩:∃ z,z=(bg104.set ((qR s t ((s.qw[i]!).qE)).toNat) (jR (bg104[(qR s t ((s.qw[i]!).qE)).toNat]!) ((s.qw[i]!).jb) (counts[i]!))):=⟨_,rfl⟩
  rw [← e_bg129] at H
  have E_bg129:=Ent.addL (D:=1000000) E_bg104 e_bg129 qf qf (by first | exact bn2.mul qf | exact bn3.mul qf | exact bn4.mul qf) qf
  have z_bg129:bg129.length=s.qx.length:=by rw [e_bg129,List.length_set];omega
  have E_cur:=E_bg129
  refine vJ (fun m' ρ w130=>∃ (zx:Env) (k:Nat) (out_Bags:yLL) (zq:List Value) (xN:yLN),ρ=upd (upd (upd (upd (upd (upd (upd (upd zx 0 (pp bs os)) 1 (pp bt ot)) 2 (.slice (aa b30 o31) counts.length ccounts)) 6 (pp b1 0)) 10 (pp b19 0)) 11 (yI i)) 12 (pp b26 (o27+(i:Int).toNat * 9))) 14 (yI k)∧((k:Int)≤(((s.qw[i]!).qM).length))∧(Ent (s.qx.length+1) (yX s) (fun p q=>base0 s t p q+needS s counts s.qw.length p q+putS s t counts i p q+at' p (s.qw[i]!).qE.toNat (counts[i]! * ((s.qw[i]!).zf)[q]!)+at' p (outPl s t (s.qw[i]!)) (counts[i]! * ((s.qw[i]!).jb)[q]!)+intoF (s.qw[i]!) (counts[i]!) k p q) (22000000+6000000 * i+1000000 * k) (out_Bags++[out_Around]))∧(out_Bags.length=s.qx.length)∧m' =((((s.qw[i]!).qM).length) - (k:Int)).toNat∧Fresh w.heap.size [yc,xN]∧St w w130 [.box b19 [.slice yD t.qC.length yC,.slice (aa b35 0) ((jW s t counts (Qq (BadAt s t counts) counts.length)).length) rc3a,.slice ja vY vZ] 31,rr yD t.qC.length yC 4 1 (t.qC.map (Value.bool)),rr ra11Bags t.qK.length rc11Bags 24 1 XD,rr ja vY vZ 2 1 (out_Around.map (Value.int .i64)),rr (aa b35 0) ((jW s t counts (Qq (BadAt s t counts) counts.length)).length) rc3a 24 1 zq,.box b1 [yN,yN,yN] 31] [xe true xN zq out_Bags,sF false Qh yH jC ((s.qw[i]!).xC),sF false Qk jG jE ((s.qw[i]!).x8),sF false Qi jF jD ((s.qw[i]!).xZ),sF false Fe29Here ae29Here ce29Here ((s.qw[i]!).zf),sF false QM Qa y8 ((s.qw[i]!).jb),sF false Qj jM jL ((s.qw[i]!).qM),atF b26 (o27+(i:Int).toNat * 9) [yI ((s.qw[i]!).qE),yI ((s.qw[i]!).vw),.slice yH (((s.qw[i]!).xC).length) jC,.slice jG (((s.qw[i]!).x8).length) jE,.slice jF (((s.qw[i]!).xZ).length) jD,.slice ae29Here (((s.qw[i]!).zf).length) ce29Here,.slice Qa (((s.qw[i]!).jb).length) y8,.slice jM (((s.qw[i]!).qM).length) jL,.bool ((s.qw[i]!).zD)],xe true yc XD t.qK,atF bs os [yI s.xk,.slice qB s.qx.length qA,.slice (aa b26 o27) s.qw.length qI],sF false qX qB qA s.qx,sF false xG (aa b26 o27) qI s.qw,atF bt ot (yT t qY qU xH xB qO qN),sF false x9 qY qU t.qC,sF false zN xH xB t.qK,sF false xM qO qN t.qG,sF false Fcounts (aa b30 o31) ccounts counts]) (((((s.qw[i]!).qM).length) - (0:Int)).toNat) ⟨_,0,bg129,xs126,F127,uE8,qf,(by exact E_cur.to (fun p q=>by first | (simp only [intoF,outPl_root (s:=s) (t:=t) (r:=s.qw[i]!) ‹_›,vK];omega) | (simp only [intoF,outPl_up (s:=s) (t:=t) (r:=s.qw[i]!) ‹_›];omega)) qf),qf,rfl,(N.pick [1,0]),H.pick [2,3,4,5,6,7] [0,6,7,8,9,10,11,12,13,15,16,17,18,19,20,21,22]⟩ ?_
  clear H N
  rintro m' ρ w131 ⟨zx,k,out_Bags,zq,xN,rfl,i0,E_out_Bags,z_out_Bags,rfl,N,H⟩
  have XE:=H.zi (α:=yLI) 4 rfl 0 rfl qj
  refine zcc (sps [yI k,pp b26 (o27+(i:Int).toNat * 9),pp b26 (o27+(i:Int).toNat * 9)] (oF rfl (oL rfl (H.zg 7 rfl 7 rfl) (oN rfl (sp (.bool (decide ((k:Int) < (((s.qw[i]!).qM).length)))) (zjn (cD rfl (fun h132=>?_) (fun h132=>?_))))))))
  ·skip
   have qi:=q.2.2.2.2.2.2.2.2.2.2 k qf
   have qi1:=qi.1
   have bn4:=qi.2.2.1
   have ln4:=bn4.len
   refine xw (t_n (zn (xq (zcr (sps [pp b26 (o27+(i:Int).toNat * 9),pp b26 (o27+(i:Int).toNat * 9)] (oF rfl (oL rfl (H.zg 7 rfl 7 rfl) (sp (yI k) ?_))))))))
   obtain ⟨b133,o134,rfl⟩:=H.addr 6 rfl qf
   obtain ⟨ae136Bag,ce136Bag,Fe136Bag,H⟩:=H.yY 6 rfl k k qf qf qf
   refine oI rfl rfl (oF rfl (oL rfl (H.zg 1 rfl 0 rfl) (sp (yI ((((s.qw[i]!).qM)[k]!).qE)) (zjn ?_))))
   refine yU rfl H [0,1,2,3,5] fun H=>?_
   have S:=H.jA [0,1,2,3,5] [0,1,2,3,4,5,6,7,8,9,10,11,12,13,14,15,16,17,18]
   refine tF 0 rfl rfl S ?_
   refine tL 1 rfl rfl (fun _ h=>h.cell 0 rfl rfl) S ?_
   refine rtp 2 (yI ((((s.qw[i]!).qM)[k]!).qE)) S ?_
   refine tF 3 rfl rfl S ?_
   refine tL 4 rfl rfl (fun _ h=>h.cell 0 rfl rfl) S ?_
   refine rtp 5 (yI ((((s.qw[i]!).qM)[k]!).qE)) S ?_
   refine tI 6 rfl rfl rfl S ?_
   refine rtp 8 (pp b26 (o27+(i:Int).toNat * 9)) S ?_
   refine rtp 9 (pp b26 (o27+(i:Int).toNat * 9)) S ?_
   refine tF 10 rfl rfl S ?_
   refine tL 11 rfl rfl (fun _ h=>h.zg 9 rfl 7 rfl) S ?_
   refine rtp 12 (yI k) S ?_
   refine tI 13 rfl rfl rfl S ?_
   refine tF 14 rfl rfl S ?_
   refine tL 15 rfl rfl (fun _ h=>h.zg 1 rfl 1 rfl) S ?_
   refine rtp 16 (.slice (aa b30 o31) counts.length ccounts) S ?_
   refine rtp 17 (yI i) S ?_
   refine tI 18 rfl rfl rfl S ?_
   refine tL 19 rfl rfl (fun _ h=>h.QO 18 rfl i qf) S ?_
   refine ro 7 rfl ?_
   obtain ⟨a138,c139,G140,s141,h142,H⟩:=H.jI 4 rfl 2 rfl (iv:=(((s.qw[i]!).qM)[k]!).qE) (((((s.qw[i]!).qM)[k]!).qE).toNat) qf qf
   refine zk (.slice a138 ((out_Bags[((((s.qw[i]!).qM)[k]!).qE).toNat]!).length) c139) isAgg24 rfl (h142) (⟨H.pick [0,1,2,3,5] [1,2,3,4,5,6,7,8,9,10,11,12,13,14,15,16,17,18,19],(ro 20 rfl ?_)⟩)
   obtain ⟨u1,u2⟩:=Ent.rowL E_out_Bags (c:=((((s.qw[i]!).qM)[k]!).qE).toNat) qf qf qf qf
   have u4:=(by first | exact bn2.yf qf | exact bn3.yf qf | exact bn4.yf qf:SmallT ((((s.qw[i]!).qM)[k]!).QC) (counts[i]!))
   have sz143:=H.base.size
   have lt144:=H.ltN (L:=[yc,xN]) [11,3]
   refine oc (Q5 _ (out_Bags[((((s.qw[i]!).qM)[k]!).qE).toNat]!) ((((s.qw[i]!).qM)[k]!).QC) (counts[i]!) (H.get 0 rfl).1 (H.get 1 rfl).1 qg qg qg) ?_
   rintro v148 w146 r148 x147
   replace H:=H.zt x147 r148
   obtain ⟨a149,c150,rfl,hc151,hm152⟩:=H.jS 0 rfl
   refine ⟨H.pick [1,2,3,4,6] [1,2,3,4,5,6,7,8,9,10,11,12,13,14,15,16,17,18,19],(tI 21 rfl rfl rfl (H.pick [1,2,3,4,6] [1,2,3,4,5,6,7,8,9,10,11,12,13,14,15,16,17,18,19]) ?_)⟩
   refine ro 22 rfl ?_
   obtain ⟨G154,N,hn155,H⟩:=H.zV 0 rfl N (H.yK [11,3])
   refine jw true H 5 rfl 4 rfl (.slice a149 ((jR (out_Bags[((((s.qw[i]!).qM)[k]!).qE).toNat]!) ((((s.qw[i]!).qM)[k]!).QC) (counts[i]!)).length) c150) 0 rfl rfl sizeOf24 rfl rfl (i:=(((((s.qw[i]!).qM)[k]!).qE).toNat)) qf qf qm fun w153 xs156 F157 hs158 H=>?_
   replace N:Fresh w.heap.size [F157,yc]:=(N.pick [2,0,1]).repl hs158
   refine ⟨H.pick [1,2,3,4,6] [3,4,5,6,7,8,9,10,11,12,13,14,15,16,17,18,19,20,21],(xh qh (b_n (t_n (zl (sp (yI k) (sw (vg k 1 rfl rfl qf (sp (yI (k+1)) (zo ?_)))))))))⟩
   obtain ⟨bg159,e_bg159⟩:∃ z,z=(out_Bags.set (((((s.qw[i]!).qM)[k]!).qE).toNat) (jR (out_Bags[((((s.qw[i]!).qM)[k]!).qE).toNat]!) ((((s.qw[i]!).qM)[k]!).QC) (counts[i]!))):=⟨_,rfl⟩
   rw [← e_bg159] at H
   have E_bg159:=Ent.addL (D:=1000000) E_out_Bags e_bg159 qf qf (by first | exact bn2.mul qf | exact bn3.mul qf | exact bn4.mul qf) qf
   have z_bg159:bg159.length=s.qx.length:=by rw [e_bg159,List.length_set];omega
   have E_cur:=E_bg159
   refine xn (m' :=((((s.qw[i]!).qM).length) - ((k+1):Int)).toNat) qf ⟨_,k+1,bg159,xs156,F157,uE8,?_,?_,?_,rfl,(N.pick [1,0]),H.pick [1,2,3,4,5,6] [0,6,7,8,9,10,11,12,13,14,15,16,17,18,19,20,21]⟩
   · omega
   · exact E_cur.to (fun p q=>by simp only [intoF];omega) qf
   · omega
  refine c_exit (t_x (t_x (b_x (b_n (t_n (zl (sp (yI i) (sw (vg i 1 rfl rfl qf (sp (yI (i+1)) (zo (xn (m' :=(counts.length - ((i+1):Int)).toNat) qf ⟨_,i+1,ja,vY,vZ,out_Around,out_Bags,zq,xN,uE6,?_,?_,?_,rfl,N,H.pick [0,1,2,3,4,5] [8,0,9,10,11,12,13,14,15,16]⟩))))))))))))
  · omega
  · first | exact E_rest.to (fun p q=>by simp only [putS_skip (s:=s) (t:=t) (counts:=counts) (i:=i) ‹_›]) qf | exact E_out_Bags.to (fun p q=>by rw [show k=((s.qw[i]!).qM).length by omega];simp only [putS,putF];omega) qf
  · omega
 refine zx4 (zcc (sps [pp bs os,pp bs os] (oF rfl (oL rfl (H.zg 2 rfl 1 rfl) (oN rfl (sw (o_sub s.qx.length 1 rfl rfl qf (sp (yI (s.qx.length - 1)) (zjn (xq ?_))))))))))
 obtain rfl:i=s.qw.length:=by omega
 have hl:=stepped_live (counts:=counts) p1 (E_rest.to (g:=fun p k=>base0 s t p k+allS s t counts s.qw.length p k) (fun p k=>by rw [allS_eq];omega) (Int.le_refl _)) qf
 obtain ⟨s1,s2⟩:=step_tab2 qf E_rest
 subst s1 s2
 refine vJ (fun m' ρ w160=>∃ (zx:Env) (c:Int) (out_Alive:List Bool) (out_Bags:yLL) (zq:List Value) (xN:yLN) (j:Nat),ρ=upd (upd (upd (upd (upd zx 0 (pp bs os)) 2 (.slice acounts counts.length ccounts)) 6 (pp b1 0)) 10 (pp b19 0)) 16 (yI c)∧out_Alive=(qZ s counts (xf s t counts) j).qC∧out_Bags=(qZ s counts (xf s t counts) j).qK∧(c=(s.qx.length:Int) - 1 - j)∧(j+1≤s.qx.length)∧m' =(c:Int).toNat∧Fresh w.heap.size [yc,xN]∧St w w160 [.box b19 [.slice yD t.qC.length yC,.slice ra3a ((jW s t counts (Qq (BadAt s t counts) counts.length)).length) rc3a,.slice ja vY vZ] 31,rr yD t.qC.length yC 4 1 (out_Alive.map (Value.bool)),rr ra11Bags t.qK.length rc11Bags 24 1 XD,rr ja vY vZ 2 1 (((xf s t counts).qG).map (Value.int .i64)),rr ra3a ((jW s t counts (Qq (BadAt s t counts) counts.length)).length) rc3a 24 1 zq,.box b1 [yN,yN,yN] 31] [xe true yc XD t.qK,xe true xN zq out_Bags,atF bs os (yS s qB qA qJ qI),sF false qX qB qA s.qx,sF false xG qJ qI s.qw,sF false Fcounts acounts ccounts counts]) (((s.qx.length - 1):Int).toNat) ⟨_,s.qx.length - 1,t.qC,(xf s t counts).qK,Xv,Q3,0,uE5,(by rfl),(by rfl),qf,qf,rfl,N,H.pick [0,1,2,3,4,5] [0,1,2,3,4,9]⟩ ?_
 clear H N
 rintro m' ρ w161 ⟨zx,c,out_Alive,out_Bags,zq,xN,j,rfl,rfl,rfl,ic,jc,rfl,N,H⟩
 have hn_out_Alive:=H.QY 1 rfl
 have XE:=H.zi (α:=yLI) 4 rfl 1 rfl qj
 have L:=meltDown_live (counts:=counts) p0 hl j qf
 have L1:=L.alive
 have L2:=L.root
 have L3:=L.bags.1
 rw [← Ql s counts (xf s t counts) j] at H
 refine zcc (sps [yI c,.bool (decide ((c:Int) > 0))] (zjn (cD rfl (fun h162=>?_) (fun h162=>?_))))
 ·skip
  have cin:Q4 s c:=⟨by omega,by omega⟩
  refine xw (t_n (zn (xq (zcr (sp (.bool false) (zjcc (sp (yI 0) (zjn (xq ?_)))))))))
  refine vJ (fun m' ρ w163=>∃ (zx:Env) (melts:Bool) (i_1:Nat),ρ=upd (upd (upd (upd (upd (upd (upd zx 0 (pp bs os)) 2 (.slice acounts counts.length ccounts)) 6 (pp b1 0)) 10 (pp b19 0)) 16 (yI c)) 17 (.bool melts)) 18 (yI i_1)∧melts=dec (QB s counts c i_1)∧((i_1:Int)≤counts.length)∧m' =(counts.length - (i_1:Int)).toNat∧Fresh w.heap.size [yc,xN]∧St w w163 [.box b19 [.slice yD t.qC.length yC,.slice ra3a ((jW s t counts (Qq (BadAt s t counts) counts.length)).length) rc3a,.slice ja vY vZ] 31,rr yD t.qC.length yC 4 1 (((qZ s counts (xf s t counts) j).qC).map (Value.bool)),rr ra11Bags t.qK.length rc11Bags 24 1 XD,rr ja vY vZ 2 1 (((qZ s counts (xf s t counts) j).qG).map (Value.int .i64)),rr ra3a ((jW s t counts (Qq (BadAt s t counts) counts.length)).length) rc3a 24 1 zq,.box b1 [yN,yN,yN] 31] [xe true yc XD t.qK,xe true xN zq ((qZ s counts (xf s t counts) j).qK),atF bs os (yS s qB qA qJ qI),sF false qX qB qA s.qx,sF false xG qJ qI s.qw,sF false Fcounts acounts ccounts counts]) ((counts.length - (0:Int)).toNat) ⟨_,false,0,uE7,(by exact (xg (melts_zero _ _ _)).symm),qf,rfl,N,H⟩ ?_
  clear H N
  rintro m' ρ w164 ⟨zx,melts,i_1,rfl,rfl,i0,rfl,N,H⟩
  refine zcc (sps [yI i_1,.slice acounts counts.length ccounts] (oN rfl (sp (.bool (decide ((i_1:Int) < counts.length))) (zjn (cD rfl (fun h165=>?_) (fun h165=>?_))))))
  ·skip
   refine xw (t_n (zn (xq (zl (sps [.bool (dec (QB s counts c i_1)),.bool (dec (QB s counts c i_1))] ?_)))))
   cases h166:((dec (QB s counts c i_1)))
   ·skip
    refine qL 172 rfl rfl (sp (.slice acounts counts.length ccounts) (qL 172 rfl rfl (sp (yI i_1) (qL 172 rfl rfl ?_))))
    obtain ⟨b167,o168,rfl⟩:=H.addr 5 rfl qf
    refine oI rfl rfl (qL 172 rfl rfl (oL rfl (H.jZ 5 rfl i_1 qf qf) (qL 172 rfl rfl (sp (.bool (decide ((counts[i_1]! :Int) > 0))) (qL 172 rfl rfl (sp (.bool (decide ((counts[i_1]! :Int) > 0))) ?_))))))
    cases h170:(decide ((counts[i_1]! :Int) > 0))
    ·skip
     replace h170:=of_decide_eq_false h170
     refine xR [179,180,181,182,183,184,185,186] (qL 172 rfl rfl (sp (.bool false) (qL 172 rfl rfl (sp (.bool false) (xR [189,190,191,192,193,194,195,196,197,198] (qL 172 rfl rfl (sps [.bool false,.bool false,.bool false] (zo (b_n (t_n (zl (sp (yI i_1) (sw (vg i_1 1 rfl rfl qf (sp (yI (i_1+1)) (zo (xn (m' :=(counts.length - ((i_1+1):Int)).toNat) qf ⟨_,false,i_1+1,uE7,?_,?_,rfl,N,H⟩)))))))))))))))))
     · first | exact melts_1 ‹_› | exact melts_2 ‹_› qf | exact melts_3 ‹_› ‹_› | exact melts_4 ‹_› qf ‹_›
     · omega
    replace h170:=of_decide_eq_true h170
    refine qL 178 rfl rfl (sp (pp bs os) (qL 178 rfl rfl (sp (pp bs os) (qL 178 rfl rfl (oF rfl (qL 178 rfl rfl (oL rfl (H.zg 2 rfl 2 rfl) (qL 178 rfl rfl (sp (yI i_1) (qL 178 rfl rfl ?_))))))))))
    obtain ⟨b171,o172,rfl⟩:=H.addr 4 rfl qf
    obtain ⟨ae174Need,ce174Need,Fe174Need,ae174Have,ce174Have,Fe174Have,ae174Lack,ce174Lack,Fe174Lack,ae174Here,ce174Here,Fe174Here,ae174Out,ce174Out,Fe174Out,ae174Into,ce174Into,Fe174Into,H⟩:=H.Qm 4 rfl i_1 i_1 qf qf qf
    refine oI rfl rfl (qL 178 rfl rfl (oF rfl (qL 178 rfl rfl (oL rfl (H.zg 6 rfl 8 rfl) (qL 172 rfl rfl (sp (.bool ((s.qw[i_1]!).zD)) (qL 172 rfl rfl (sp (.bool ((s.qw[i_1]!).zD)) ?_))))))))
    cases h175:((s.qw[i_1]!).zD)
    ·skip
     rw [h175] at H
     refine xR [189,190,191,192,193,194,195,196,197,198] (qL 172 rfl rfl (sps [.bool false,.bool false,.bool false] (zo (b_n (t_n (zl (sp (yI i_1) (sw (vg i_1 1 rfl rfl qf (sp (yI (i_1+1)) (zo (xn (m' :=(counts.length - ((i_1+1):Int)).toNat) qf ⟨_,false,i_1+1,uE7,?_,?_,rfl,N,H.pick [0,1,2,3,4,5] [7,8,9,10,11,12]⟩))))))))))))
     · first | exact melts_1 ‹_› | exact melts_2 ‹_› qf | exact melts_3 ‹_› ‹_› | exact melts_4 ‹_› qf ‹_›
     · omega
    rw [h175] at H
    refine qL 188 rfl rfl (sp (pp bs os) (qL 188 rfl rfl (sp (pp bs os) (qL 188 rfl rfl (oF rfl (qL 188 rfl rfl (oL rfl (H.zg 9 rfl 2 rfl) (qL 188 rfl rfl (sp (yI i_1) (qL 188 rfl rfl (oI rfl rfl (qL 188 rfl rfl (oF rfl (qL 188 rfl rfl (oL rfl (H.zg 6 rfl 0 rfl) (qL 188 rfl rfl (sp (yI c) (qL 188 rfl rfl (sp (.bool (((s.qw[i_1]!).qE:Int) == c)) (qL 172 rfl rfl (sps [.bool (((s.qw[i_1]!).qE:Int) == c),.bool (((s.qw[i_1]!).qE:Int) == c),.bool (((s.qw[i_1]!).qE:Int) == c)] (zo (b_n (t_n (zl (sp (yI i_1) ?_))))))))))))))))))))))))))
    refine sw (vg i_1 1 rfl rfl qf (sp (yI (i_1+1)) (zo (xn (m' :=(counts.length - ((i_1+1):Int)).toNat) qf ⟨_,((s.qw[i_1]!).qE:Int) == c,i_1+1,uE7,?_,?_,rfl,N,H.pick [0,1,2,3,4,5] [7,8,9,10,11,12]⟩))))
    · first | exact melts_1 ‹_› | exact melts_2 ‹_› qf | exact melts_3 ‹_› ‹_› | exact melts_4 ‹_› qf ‹_›
    · omega
   refine xR [173,174,175,176,177,178,179,180,181,182,183,184,185,186,187,188,189,190,191,192,193,194,195,196,197,198,199] (sps [.bool true,.bool true] (zo (b_n (t_n (zl (sp (yI i_1) (sw (vg i_1 1 rfl rfl qf (sp (yI (i_1+1)) (zo (xn (m' :=(counts.length - ((i_1+1):Int)).toNat) qf ⟨_,true,i_1+1,uE7,?_,?_,rfl,N,H⟩)))))))))))
   · first | exact melts_1 ‹_› | exact melts_2 ‹_› qf | exact melts_3 ‹_› ‹_› | exact melts_4 ‹_› qf ‹_›
   · omega
  refine zx4 (zcr (sp (.bool (dec (QB s counts c i_1))) (zjn (xO ((dec (QB s counts c i_1))) rfl (fun h176=>?_) (fun h176=>?_)))))
  ·skip
   refine zl (sps [pp bs os,yI c] (sw (Qb #[pp bs os,pp b19 0,yI c] rfl rfl call114 (en func114 ntmps114 ?_))))
   refine zcr (sps [pp bs os,pp b19 0,yI c] ?_)
   obtain ⟨G177,hn178,h179⟩:=H.Xw 1 rfl
   obtain ⟨G180,hn181,h182⟩:=H.Qu (α:=yLI) 4 rfl 1 rfl qj
   obtain ⟨G183,hn184,h185⟩:=H.yZ 3 rfl
   refine sw (oq (l02Parent_ok _ s (qZ s counts (xf s t counts) j) c (qH (H.get 2 rfl) 0 3) (H.get 3 rfl).1 (H.get 4 rfl).1 (by have hz:=(qH (H.cells 0 rfl) 0 3);rw [hn178,hn181,hn184] at hz;exact hz) (hn178▸h179) (hn181▸h182) (hn184▸h185) ql ql ql) H fun w186 H=>?_)
   have pin:=Xf (s:=s) (t:=(qZ s counts (xf s t counts) j)) (c:=c) p0.1 L2 qf qf
   refine sp (yI (qR s (qZ s counts (xf s t counts) j) c)) (zjn (zn ?_))
   obtain ⟨b188,rfl⟩:=H.QQ 4 rfl qf
   refine c_cut (fun ρ w191=>∃ (zx:Env) (xs189:List Value) (F190:yLN),ρ=upd (upd (upd zx 0 (pp bs os)) 1 (pp b19 0)) 2 (yI c)∧Fresh w.heap.size [F190,yc]∧St w w191 [.box b19 [.slice yD t.qC.length yC,.slice (aa b188 0) ((jW s t counts (Qq (BadAt s t counts) counts.length)).length) rc3a,.slice ja vY vZ] 31,rr yD t.qC.length yC 4 1 (((qZ s counts (xf s t counts) j).qC).map (Value.bool)),rr ra11Bags t.qK.length rc11Bags 24 1 XD,rr ja vY vZ 2 1 (((qZ s counts (xf s t counts) j).qG).map (Value.int .i64)),rr (aa b188 0) ((jW s t counts (Qq (BadAt s t counts) counts.length)).length) rc3a 24 1 xs189,.box b1 [yN,yN,yN] 31] [xe true F190 xs189 (((qZ s counts (xf s t counts) j).qK).set ((qR s (qZ s counts (xf s t counts) j) c).toNat) (jR (((qZ s counts (xf s t counts) j).qK)[(qR s (qZ s counts (xf s t counts) j) c).toNat]!) (((qZ s counts (xf s t counts) j).qK)[c.toNat]!) 1)),xe true yc XD t.qK,atF bs os (yS s qB qA qJ qI),sF false qX qB qA s.qx,sF false xG qJ qI s.qw,sF false Fcounts acounts ccounts counts]) ?_ ?_
   ·skip
    refine yU rfl H [0,1,2,3,5] fun H=>?_
    have S:=H.jA [0,1,2,3,5] [0,1,2,3,4,5]
    refine rtp 0 (pp b19 0) S ?_
    refine rtp 1 (pp b19 0) S ?_
    refine tF 2 rfl rfl S ?_
    refine tL 3 rfl rfl (fun _ h=>h.cell 0 rfl rfl) S ?_
    refine rtp 4 (yI (qR s (qZ s counts (xf s t counts) j) c)) S ?_
    refine rtp 5 (pp b19 0) S ?_
    refine rtp 6 (pp b19 0) S ?_
    refine tF 7 rfl rfl S ?_
    refine tL 8 rfl rfl (fun _ h=>h.cell 0 rfl rfl) S ?_
    refine rtp 9 (yI (qR s (qZ s counts (xf s t counts) j) c)) S ?_
    refine tI 10 rfl rfl rfl S ?_
    refine rtp 12 (pp b19 0) S ?_
    refine rtp 13 (pp b19 0) S ?_
    refine tF 14 rfl rfl S ?_
    refine tL 15 rfl rfl (fun _ h=>h.cell 0 rfl rfl) S ?_
    refine rtp 16 (yI c) S ?_
    refine tI 17 rfl rfl rfl S ?_
    refine zI [11,18] qh qm (vk rfl ?_ (vk rfl ?_ zJ))
    ·skip
     obtain ⟨a193,c194,G195,s196,h197,H⟩:=H.jI 4 rfl 1 rfl (iv:=qR s (qZ s counts (xf s t counts) j) c) ((qR s (qZ s counts (xf s t counts) j) c).toNat) qf qf
     refine zk (.slice a193 ((((qZ s counts (xf s t counts) j).qK)[(qR s (qZ s counts (xf s t counts) j) c).toNat]!).length) c194) isAgg24 rfl (h197) (⟨H.pick [0,1,2,3,5] [1,2,3,4,5,6],(ro 18 rfl ?_)⟩)
     obtain ⟨a198,c199,G200,s201,h202,H⟩:=H.jI 4 rfl 2 rfl (iv:=c) c.toNat qf qf
     refine zk (.slice a198 ((((qZ s counts (xf s t counts) j).qK)[c.toNat]!).length) c199) isAgg24 rfl (h202) (⟨H.pick [0,1,2,3,5] [2,3,4,5,6,7],(ro 19 rfl ?_)⟩)
     obtain ⟨u1,u2,u4⟩:=L.rows p0 (bnd_le qf) (p:=(qR s (qZ s counts (xf s t counts) j) c).toNat) (c:=c.toNat) qf qf
     have sz203:=H.base.size
     have lt204:=H.ltN (L:=[yc,xN]) [2,3]
     refine oc (Q5 _ (((qZ s counts (xf s t counts) j).qK)[(qR s (qZ s counts (xf s t counts) j) c).toNat]!) (((qZ s counts (xf s t counts) j).qK)[c.toNat]!) 1 (H.get 1 rfl).1 (H.get 0 rfl).1 qg qg qg) ?_
     rintro v208 w206 r208 x207
     replace H:=H.zt x207 r208
     obtain ⟨a209,c210,rfl,hc211,hm212⟩:=H.jS 0 rfl
     refine ⟨H.pick [1,2,3,4,6] [2,3,4,5,6,7],(tI 20 rfl rfl rfl (H.pick [1,2,3,4,6] [2,3,4,5,6,7]) ?_)⟩
     refine ro 21 rfl ?_
     obtain ⟨G214,N,hn215,H⟩:=H.zV 0 rfl N (H.yK [2,3])
     refine jw true H 5 rfl 4 rfl (.slice a209 ((jR (((qZ s counts (xf s t counts) j).qK)[(qR s (qZ s counts (xf s t counts) j) c).toNat]!) (((qZ s counts (xf s t counts) j).qK)[c.toNat]!) 1).length) c210) 0 rfl rfl sizeOf24 rfl rfl (i:=((qR s (qZ s counts (xf s t counts) j) c).toNat)) qf qf qm fun w213 xs216 F217 hs218 H=>?_
     replace N:Fresh w.heap.size [F217,yc]:=(N.pick [2,0,1]).repl hs218
     refine ⟨H.pick [1,2,3,4,6] [4,5,6,7,8,9],(xh qh ((meet ⟨_,xs216,F217,uE3,N,H.pick [1,2,3,4,5,6] [0,4,6,7,8,9]⟩)))⟩
    obtain ⟨a219,c220,G221,s222,h223,H⟩:=H.jI 4 rfl 1 rfl (iv:=c) c.toNat qf qf
    refine zk (.slice a219 ((((qZ s counts (xf s t counts) j).qK)[c.toNat]!).length) c220) isAgg24 rfl (h223) (⟨H.pick [0,1,2,3,5] [1,2,3,4,5,6],(ro 11 rfl ?_)⟩)
    obtain ⟨a224,c225,G226,s227,h228,H⟩:=H.jI 4 rfl 2 rfl (iv:=qR s (qZ s counts (xf s t counts) j) c) ((qR s (qZ s counts (xf s t counts) j) c).toNat) qf qf
    refine zk (.slice a224 ((((qZ s counts (xf s t counts) j).qK)[(qR s (qZ s counts (xf s t counts) j) c).toNat]!).length) c225) isAgg24 rfl (h228) (⟨H.pick [0,1,2,3,5] [2,3,4,5,6,7],(ro 19 rfl ?_)⟩)
    obtain ⟨u1,u2,u4⟩:=L.rows p0 (bnd_le qf) (p:=(qR s (qZ s counts (xf s t counts) j) c).toNat) (c:=c.toNat) qf qf
    have sz229:=H.base.size
    have lt230:=H.ltN (L:=[yc,xN]) [2,3]
    refine oc (Q5 _ (((qZ s counts (xf s t counts) j).qK)[(qR s (qZ s counts (xf s t counts) j) c).toNat]!) (((qZ s counts (xf s t counts) j).qK)[c.toNat]!) 1 (H.get 0 rfl).1 (H.get 1 rfl).1 qg qg qg) ?_
    rintro v234 w232 r234 x233
    replace H:=H.zt x233 r234
    obtain ⟨a235,c236,rfl,hc237,hm238⟩:=H.jS 0 rfl
    refine ⟨H.pick [1,2,3,4,6] [2,3,4,5,6,7],(tI 20 rfl rfl rfl (H.pick [1,2,3,4,6] [2,3,4,5,6,7]) ?_)⟩
    refine ro 21 rfl ?_
    obtain ⟨G240,N,hn241,H⟩:=H.zV 0 rfl N (H.yK [2,3])
    refine jw true H 5 rfl 4 rfl (.slice a235 ((jR (((qZ s counts (xf s t counts) j).qK)[(qR s (qZ s counts (xf s t counts) j) c).toNat]!) (((qZ s counts (xf s t counts) j).qK)[c.toNat]!) 1).length) c236) 0 rfl rfl sizeOf24 rfl rfl (i:=((qR s (qZ s counts (xf s t counts) j) c).toNat)) qf qf qm fun w239 xs242 F243 hs244 H=>?_
    replace N:Fresh w.heap.size [F243,yc]:=(N.pick [2,0,1]).repl hs244
    refine ⟨H.pick [1,2,3,4,6] [4,5,6,7,8,9],(xh qh ((meet ⟨_,xs242,F243,uE3,N,H.pick [1,2,3,4,5,6] [0,4,6,7,8,9]⟩)))⟩
   clear H N
   rintro ρ w245 ⟨zx,xs189,F190,rfl,N,H⟩
   refine t_n (zn ?_)
   refine yU rfl H [0,1,2,3,5] fun H=>?_
   have S:=H.jA [0,1,2,3,5] [0,1,2,3,4,5]
   refine rtp 0 (pp b19 0) S ?_
   refine rtp 1 (pp b19 0) S ?_
   refine tF 2 rfl rfl S ?_
   refine tL 3 rfl rfl (fun _ h=>h.cell 0 rfl rfl) S ?_
   refine rtp 4 (yI c) S ?_
   refine rtp 5 (pp bs os) S ?_
   refine rtp 6 (pp bs os) S ?_
   refine tF 7 rfl rfl S ?_
   refine tL 8 rfl rfl (fun _ h=>h.zg 2 rfl 0 rfl) S ?_
   refine ro 9 rfl (zh H underlying24 ti2 s.xk.toNat rfl rfl qf qf qf fun b247 w248 H=>⟨H.pick [1,2,3,4,6] [0,1,2,3,4,5],(tI 10 rfl rfl rfl (H.pick [1,2,3,4,6] [0,1,2,3,4,5]) ?_)⟩)
   refine ro 11 rfl ?_
   obtain ⟨G250,N,hn251,H⟩:=H.zV 0 rfl N (H.yK [0,1])
   refine jw true H 5 rfl 1 rfl (.slice (aa b247 0) s.xk.toNat s.xk.toNat) 0 rfl rfl sizeOf24 rfl rfl (i:=c.toNat) qf qf qm fun w249 xs252 F253 hs254 H=>?_
   replace N:Fresh w.heap.size [F253,yc]:=(N.pick [1,0,2]).repl hs254
   refine ⟨H.pick [1,2,3,4,6] [2,3,4,5,6,7],(xh qh (t_n (zl (sps [pp b19 0,pp b19 0] (oF rfl (oL rfl (H.cell 1 rfl rfl) (sp (yI c) ?_)))))))⟩
   obtain ⟨b255,rfl⟩:=H.QQ 2 rfl qf
   refine oI rfl rfl (sw (Qv H 2 rfl false sizeOf4 rfl rfl (i:=c.toNat) qf qf fun w256 H=>zo (ret0 rfl ⟨_,rfl,?_⟩)))
   replace H:=H.erases [0]
   dsimp only [Qg,List.eraseIdx] at H
   refine zo (b_n (t_n (zl (sp (yI c) (sw (o_sub c 1 rfl rfl qf (sp (yI (c - 1)) (zo ?_))))))))
   rw [Ql] at H
   refine xn (m' :=((c - 1):Int).toNat) qf ⟨_,c - 1,(((qZ s counts (xf s t counts) j).qC).set c.toNat false),((((qZ s counts (xf s t counts) j).qK).set ((qR s (qZ s counts (xf s t counts) j) c).toNat) (jR (((qZ s counts (xf s t counts) j).qK)[(qR s (qZ s counts (xf s t counts) j) c).toNat]!) (((qZ s counts (xf s t counts) j).qK)[c.toNat]!) 1)).set c.toNat (List.replicate s.xk.toNat (0:Int))),xs252,F253,j+1,uE5,?_,?_,?_,?_,rfl,(N.pick [1,0]),H.pick [0,1,2,3,4,5] [3,0,4,5,6,7]⟩
   · first | (rw [Qo (c:=c) (i:=i_1) ‹_› qf ic];done) | (rw [Qo (c:=c) (i:=i_1) ‹_› qf ic];rfl) | rw [meltDown_no' (c:=c) (i:=i_1) ‹_› qf ic]
   · first | (rw [Qo (c:=c) (i:=i_1) ‹_› qf ic];done) | (rw [Qo (c:=c) (i:=i_1) ‹_› qf ic];rfl) | rw [meltDown_no' (c:=c) (i:=i_1) ‹_› qf ic]
   · omega
   · omega
  refine xw (b_n (t_n (zl (sp (yI c) (sw (o_sub c 1 rfl rfl qf (sp (yI (c - 1)) (zo ?_))))))))
  rw [Ql] at H
  refine xn (m' :=((c - 1):Int).toNat) qf ⟨_,c - 1,((qZ s counts (xf s t counts) j).qC),((qZ s counts (xf s t counts) j).qK),zq,xN,j+1,uE5,?_,?_,?_,?_,rfl,N,H⟩
  · first | (rw [Qo (c:=c) (i:=i_1) ‹_› qf ic];done) | (rw [Qo (c:=c) (i:=i_1) ‹_› qf ic];rfl) | rw [meltDown_no' (c:=c) (i:=i_1) ‹_› qf ic]
  · first | (rw [Qo (c:=c) (i:=i_1) ‹_› qf ic];done) | (rw [Qo (c:=c) (i:=i_1) ‹_› qf ic];rfl) | rw [meltDown_no' (c:=c) (i:=i_1) ‹_› qf ic]
  · omega
  · omega
 refine zx4 (zcr (sp (pp bs os) (sw (Qb #[pp bs os,pp b19 0] rfl rfl call115 (en func115 ntmps115 ?_)))))
 refine zcr (sw (xu H ti31 [yN,yN,yN] fun b257 w258 H=>sp (yI 0) (zjcc (sps [pp bs os,pp b19 0] ?_))))
 obtain ⟨G259,hn260,h261⟩:=H.Xw 2 rfl
 obtain ⟨G262,hn263,h264⟩:=H.Qu (α:=yLI) 5 rfl 1 rfl qj
 obtain ⟨G265,hn266,h267⟩:=H.yZ 4 rfl
 refine sw (oq (l02State_ok _ s (qZ s counts (xf s t counts) j) (qH (H.get 2 rfl) 0 3) (H.get 3 rfl).1 (H.get 4 rfl).1 (by have hz:=(qH (H.cells 1 rfl) 0 3);rw [hn260,hn263,hn266] at hz;exact hz) (hn260▸h261) (hn263▸h264) (hn266▸h267) (by first | assumption | exact (And.left (by assumption:jB _)))) H fun w268 H=>sp (.bool (!(dec (xW s (qZ s counts (xf s t counts) j))))) (zjn (cQ rfl (fun h270=>?_) (fun h270=>?_))))
 ·skip
  refine zcr (sw (xK [yN,yN,yN] [] (sw (qV H 0 [yN,yN,yN] sizeOf31 fun w271 H=>sp (yI 3) (zjr (t_r (retC2 H 0 rfl (yI 3) rfl isAgg31 sizeOf31 rfl rfl ⟨_,rfl,?_⟩)))))))
  replace H:=H.erases [0]
  dsimp only [Qg,List.eraseIdx] at H
  refine sps [.agg #[yN,yN,yN],yI 3] (sw (qV H 5 [yN,yN,yN] sizeOf31 fun w272 H=>sp (yI 3) (zjr ?_)))
  replace H:=H.nilRowB 4
  replace H:=H.nilRow 24 1
  replace H:=H.Qz (α:=yLI)
  replace H:=H.nilRowI 2
  refine retC2 H 8 rfl (yI 3) rfl isAgg31 sizeOf31 rfl rfl ⟨_,rfl,?_,H.base⟩
  rw [stepBy_yes ‹_›,stepRes,show vK s - 1=j by omega,told_no ‹_›]
  exact ⟨none,0,0,none,0,0,[],[],none,0,0,rfl,(N.emp.pick [0]),H.pick [2,1,0] [0]⟩
 refine xw (t_n (zcr (sps [pp b19 0,pp b19 0] (sw (zu [.slice yD t.qC.length yC,.slice ra3a ((jW s t counts (Qq (BadAt s t counts) counts.length)).length) rc3a,.slice ja vY vZ] isAgg31 sizeOf31 rfl (qH (H.cells 1 rfl) 0 3) (sw (qV H 0 [.slice yD t.qC.length yC,.slice ra3a ((jW s t counts (Qq (BadAt s t counts) counts.length)).length) rc3a,.slice ja vY vZ] sizeOf31 fun w273 H=>sp (yI 0) (zjr ?_))))))))
 refine retC2 H 0 rfl (yI 0) rfl isAgg31 sizeOf31 rfl rfl ⟨_,rfl,?_⟩
 replace H:=H.erases [0]
 dsimp only [Qg,List.eraseIdx] at H
 refine sps [.agg #[.slice yD t.qC.length yC,.slice ra3a ((jW s t counts (Qq (BadAt s t counts) counts.length)).length) rc3a,.slice ja vY vZ],yI 0] (sw (qV H 5 [.slice yD t.qC.length yC,.slice ra3a ((jW s t counts (Qq (BadAt s t counts) counts.length)).length) rc3a,.slice ja vY vZ] sizeOf31 fun w274 H=>sp (yI 0) (zjr (retC2 H 5 rfl (yI 0) rfl isAgg31 sizeOf31 rfl rfl ⟨_,rfl,?_,H.base⟩))))
 rw [stepBy_yes ‹_›,stepRes,show vK s - 1=j by omega,told_yes ‹_›]
 exact ⟨yD,t.qC.length,yC,ra3a,(jW s t counts (Qq (BadAt s t counts) counts.length)).length,rc3a,zq,xN,ja,vY,vZ,rfl,(N.pick [1]),H.pick [1,4,3] [1]⟩
theorem specRun_ok (w:World) (s:qy) (t:qF) (steps:Int) {qB:yOA} {qX:yLN} {qJ:yOA} {xG:yLN} {qY:yOA} {x9:yLN} {xH:yOA} {zN:yLN} {qO:yOA} {xM:yLN} (qP:qW.rep w qX [.slice qB s.qx.length qA] s.qx) (xx:qW.rep w xG [.slice qJ s.qw.length qI] s.qw) (xY:qW.rep w x9 [.slice qY t.qC.length qU] t.qC) (zG:qW.rep w zN [.slice xH t.qK.length xB] t.qK) (xJ:qW.rep w xM [.slice qO t.qG.length qN] t.qG):Calls Tryz.prog 12 #[.agg #[yI s.xk,.slice qB s.qx.length qA,.slice qJ s.qw.length qI],.agg #[.slice qY t.qC.length qU,.slice xH t.qK.length xB,.slice qO t.qG.length qN],yI steps] w (Ret (fun v w' =>∃ (ra0Alive:yOA) (rn0Alive:Nat) (rc0Alive:Nat) (ra0Bags:yOA) (rn0Bags:Nat) (rc0Bags:Nat) (rx0Bags:List Value) (rF0Bags:yLN) (Xe:yOA) (Xc:Nat) (Xd:Nat),v=.tuple #[.agg #[.slice ra0Alive rn0Alive rc0Alive,.slice ra0Bags rn0Bags rc0Bags,.slice Xe Xc Xd],yI ((xA s t steps).2.1),yI ((xA s t steps).2.2)]∧Fresh w.heap.size [rF0Bags]∧St w w' [rr ra0Alive rn0Alive rc0Alive 4 1 ((((xA s t steps).1).qC).map (Value.bool)),rr ra0Bags rn0Bags rc0Bags 24 1 rx0Bags,rr Xe Xc Xd 2 1 ((((xA s t steps).1).qG).map (Value.int .i64))] [xe true rF0Bags rx0Bags (((xA s t steps).1).qK)]) w):=by
 refine en func12 ntmps12 ?_
 have H:=(((((St.start w).arg xJ).arg zG).arg xY).arg xx).arg qP
 have zS:=qQ qP
 have jv:=qQ xx
 have Qe:=qQ xY
 have QI:=qQ zG
 have yg:=qQ xJ
 clear qP xx xY zG xJ
 have N:=Fresh.nil w.heap.size
 refine zcr (sw (jT H (yS s qB qA qJ qI) fun b1 w2 H=>sw (jT H (yT t qY qU xH xB qO qN) fun b3 w4 H=>sw (xu H ti31 [yN,yN,yN] fun b5 w6 H=>sps [yI 0,yI 0] (zjcc (sw (oq (l03Both_ok _ s t (qH (H.cells 2 rfl) 0 3) (H.get 0 rfl).1 (H.get 1 rfl).1 (qH (H.cells 1 rfl) 0 3) (H.get 2 rfl).1 (H.get 3 rfl).1 (H.get 4 rfl).1) H fun w8 H=>?_)))))))
 refine sp (.bool (!(dec (jB s∧xW s t)))) (zjn (cQ rfl (fun h10=>?_) (fun h10=>?_)))
 ·skip
  refine zcr (sw (xK [yN,yN,yN] [] (sw (qV H 0 [yN,yN,yN] sizeOf31 fun w11 H=>sps [yI 0,yI 1] (zjr (t_r ?_))))))
  replace H:=H.nilRowB 4
  replace H:=H.nilRow 24 1
  replace H:=H.Qz (α:=yLI)
  replace H:=H.nilRowI 2
  refine retC3 H 3 rfl (yI 0) (yI 1) rfl isAgg31 sizeOf31 rfl rfl rfl ⟨_,rfl,?_,H.base⟩
  rw [run_1 ‹_›]
  exact ⟨none,0,0,none,0,0,[],[],none,0,0,rfl,N.emp,H.pick [2,1,0] [0]⟩
 have k0:=(‹jB s∧xW s t›:jB s∧xW s t)
 have k1:=k0.1
 have k2:=k0.2
 obtain ⟨q7,q8,q9,q10⟩:=k2.sizes k1.1
 have q13:=fun k hk=>Nat.le_trans (q10 k hk) (by decide:8≤1000000)
 refine xw (t_n (zcc (sp (yI steps) (sw (oq (l00In_ok w8 steps 0 200) H fun w12 H=>sp (.bool (!(inR steps 0 200))) (zjn (xO (!(inR steps 0 200)) rfl (fun h14=>?_) (fun h14=>?_))))))))
 ·skip
  replace h14:=xy h14
  replace h14:=QS h14
  refine zcr (sw (xK [yN,yN,yN] [] (sw (qV H 0 [yN,yN,yN] sizeOf31 fun w15 H=>sps [yI 0,yI 2] (zjr (t_r ?_))))))
  replace H:=H.nilRowB 4
  replace H:=H.nilRow 24 1
  replace H:=H.Qz (α:=yLI)
  replace H:=H.nilRowI 2
  refine retC3 H 3 rfl (yI 0) (yI 2) rfl isAgg31 sizeOf31 rfl rfl rfl ⟨_,rfl,?_,H.base⟩
  rw [run_2 ‹_› ‹_›]
  exact ⟨none,0,0,none,0,0,[],[],none,0,0,rfl,N.emp,H.pick [2,1,0] [0]⟩
 replace h14:=xm h14
 replace h14:=Qp.1 h14
 refine xw (t_n (zcr ?_))
 have sz19:=H.base.size
 refine sw (oc (l02Own_ok _ t (qH (H.cells 1 rfl) 0 3) (H.get 2 rfl).1 (H.get 3 rfl).1 (H.get 4 rfl).1 qg qg qg qg) ?_)
 rintro _ w17 ⟨ra16Alive,rn16Alive,rc16Alive,ra16Bags,rn16Bags,rc16Bags,rx16Bags,rF16Bags,ra16Around,rn16Around,rc16Around,rfl,M,K⟩ _
 replace N:=N.merge sz19 qm M
 replace H:=H.merge K M
 obtain rfl:=H.QY 0 rfl
 obtain rfl:=H.zi (α:=yLI) 1 rfl 0 rfl qj
 obtain rfl:=H.zO 2 rfl
 refine sw (xu H ti31 [yN,yN,yN] fun b24 w25 H=>sw (qV H 0 (yT t ra16Alive rc16Alive ra16Bags rc16Bags ra16Around rc16Around) sizeOf31 fun w26 H=>zjc (sp (yI 0) (zjn (zn (xq ?_))))))
 refine vJ (fun m' ρ w27=>∃ (zx:Env) (made:Nat) (ve:yOA) (zY:Nat) (zZ:Nat) (now_Alive:List Bool) (vV:yOA) (vT:Nat) (vU:Nat) (now_Bags:yLL) (Qs:List Value) (yG:yLN) (zM:yOA) (zK:Nat) (zL:Nat) (now_Around:yLI) (u:qF),ρ=upd (upd (upd (upd (upd zx 2 (yI steps)) 3 (pp b1 0)) 6 (pp b5 0)) 9 (pp b24 0)) 10 (yI made)∧now_Alive=u.qC∧now_Bags=u.qK∧now_Around=u.qG∧(xW s u)∧(0≤(made:Int)∧(made:Int)≤steps)∧(xA s t steps=runGo s (steps - made).toNat made u)∧m' =(steps - made).toNat∧Fresh w.heap.size [yG]∧St w w27 [.box b24 [.slice ve zY zZ,.slice vV vT vU,.slice zM zK zL] 31,rr ve zY zZ 4 1 (now_Alive.map (Value.bool)),rr vV vT vU 24 1 Qs,rr zM zK zL 2 1 (now_Around.map (Value.int .i64)),.box b5 [yN,yN,yN] 31,.box b3 (yT t qY qU xH xB qO qN) 31,.box b1 (yS s qB qA qJ qI) 27] [xe true yG Qs now_Bags,sF false qX qB qA s.qx,sF false xG qJ qI s.qw,sF false x9 qY qU t.qC,sF false zN xH xB t.qK,sF false xM qO qN t.qG]) ((steps - 0).toNat) ⟨_,0,ra16Alive,t.qC.length,rc16Alive,t.qC,ra16Bags,t.qK.length,rc16Bags,t.qK,rx16Bags,rF16Bags,ra16Around,t.qG.length,rc16Around,t.qG,t,uE5,(by rfl),(by rfl),(by rfl),(by exact k2),qf,(by rw [run_0 ‹jB s∧xW s t› qf,show (steps - (0:Nat)).toNat=steps.toNat by omega];rfl),rfl,N,H⟩ ?_
 clear H N
 rintro m' ρ w28 ⟨zx,made,ve,zY,zZ,now_Alive,vV,vT,vU,now_Bags,Qs,yG,zM,zK,zL,now_Around,u,rfl,rfl,rfl,rfl,ku,km,kr,rfl,N,H⟩
 have hn_now_Alive:=H.QY 1 rfl
 have hn_now_Bags:=H.zi (α:=yLI) 2 rfl 0 rfl qj
 have hn_now_Around:=H.zO 3 rfl
 refine zcc (sps [yI made,yI steps,.bool (decide ((made:Int) < steps)),.bool (decide ((made:Int) < steps))] ?_)
 cases h29:(decide ((made:Int) < steps))
 ·skip
  replace h29:=of_decide_eq_false h29
  refine xR [25,26] (sp (.bool false) (zjn (xO false rfl (fun h=>absurd h qj) (fun _=>zx4 (zcr (sw (zu [.slice ve zY zZ,.slice vV vT vU,.slice zM zK zL] isAgg31 sizeOf31 rfl (qH (H.cells 0 rfl) 0 3) (sp (yI made) (sw (qV H 4 [.slice ve zY zZ,.slice vV vT vU,.slice zM zK zL] sizeOf31 fun w30 H=>sps [yI made,yI 0] (zjr ?_)))))))))))
  refine retC3 H 4 rfl (yI made) (yI 0) rfl isAgg31 sizeOf31 rfl rfl rfl ⟨_,rfl,?_,H.base⟩
  first | rw [kr,runGo_end qf] | rw [kr,runGo_halt ‹Halted s u›]
  exact ⟨ve,zY,zZ,vV,vT,vU,Qs,yG,zM,zK,zL,rfl,N,H.pick [1,2,3] [0]⟩
 replace h29:=of_decide_eq_true h29
 refine qL 24 rfl rfl ?_
 obtain ⟨G31,hn32,h33⟩:=H.Xw 1 rfl
 obtain ⟨G34,hn35,h36⟩:=H.Qu (α:=yLI) 2 rfl 0 rfl qj
 obtain ⟨G37,hn38,h39⟩:=H.yZ 3 rfl
 refine sw (oq (l03Halted_ok _ s u (qH (H.cells 6 rfl) 0 3) (H.get 1 rfl).1 (H.get 2 rfl).1 (by have hz:=(qH (H.cells 0 rfl) 0 3);rw [hn32,hn35,hn38] at hz;exact hz) (hn32▸h33) (hn35▸h36) (hn38▸h39) qg qg) H fun w41 H=>qL 24 rfl rfl (sps [.bool (!(dec (Halted s u))),.bool (!(dec (Halted s u)))] (zjn (cQ rfl (fun h43=>?_) (fun h43=>?_)))))
 ·skip
  refine xw (t_n (xq (zcr ?_)))
  obtain ⟨G44,hn45,h46⟩:=H.Xw 1 rfl
  obtain ⟨G47,hn48,h49⟩:=H.Qu (α:=yLI) 2 rfl 0 rfl qj
  obtain ⟨G50,hn51,h52⟩:=H.yZ 3 rfl
  have sz56:=H.base.size
  refine sw (oc (l03First_ok _ s u (qH (H.cells 6 rfl) 0 3) (H.get 1 rfl).1 (H.get 2 rfl).1 (by have hz:=(qH (H.cells 0 rfl) 0 3);rw [hn45,hn48,hn51] at hz;exact hz) (hn45▸h46) (hn48▸h49) (hn51▸h52) qg qg) ?_)
  rintro _ w54 ⟨ra53,rn53,rc53,rfl,M,K⟩ _
  replace H:=H.merge K M
  obtain rfl:=H.zO 0 rfl
  obtain ⟨G59,hn60,h61⟩:=H.Xw 2 rfl
  obtain ⟨G62,hn63,h64⟩:=H.Qu (α:=yLI) 3 rfl 0 rfl qj
  obtain ⟨G65,hn66,h67⟩:=H.yZ 4 rfl
  obtain ⟨G68,hn69,h70⟩:=H.yZ 0 rfl
  have k3:=first_cnt k1 ku
  have sz74:=H.base.size
  have lt75:=H.ltN (L:=[yG]) [0]
  refine sw (oc (l03Step_ok _ s u (xX s u) (qH (H.cells 7 rfl) 0 3) (H.get 1 rfl).1 (H.get 2 rfl).1 (by have hz:=(qH (H.cells 1 rfl) 0 3);rw [hn60,hn63,hn66] at hz;exact hz) (hn60▸h61) (hn63▸h64) (hn66▸h67) h70 qg qg qg) ?_)
  rintro _ w72 ⟨ra71aAlive,rn71aAlive,rc71aAlive,ra71aBags,rn71aBags,rc71aBags,rx71aBags,rF71aBags,ra71aAround,rn71aAround,rc71aAround,rfl,M,K⟩ _
  replace N:=N.merge sz74 lt75 M
  replace H:=H.merge K M
  obtain rfl:=H.QY 0 rfl
  obtain rfl:=H.zi (α:=yLI) 1 rfl 0 rfl qj
  obtain rfl:=H.zO 2 rfl
  refine sps [.tuple #[.agg #[.slice ra71aAlive ((((xU s u (xX s u)).1).qC).length) rc71aAlive,.slice ra71aBags ((((xU s u (xX s u)).1).qK).length) rc71aBags,.slice ra71aAround ((((xU s u (xX s u)).1).qG).length) rc71aAround],yI ((xU s u (xX s u)).2)],.agg #[.slice ra71aAlive ((((xU s u (xX s u)).1).qC).length) rc71aAlive,.slice ra71aBags ((((xU s u (xX s u)).1).qK).length) rc71aBags,.slice ra71aAround ((((xU s u (xX s u)).1).qG).length) rc71aAround],yI ((xU s u (xX s u)).2)] (sw (xu H ti31 [yN,yN,yN] fun b79 w80 H=>?_))
  refine sw (qV H 0 [.slice ra71aAlive ((((xU s u (xX s u)).1).qC).length) rc71aAlive,.slice ra71aBags ((((xU s u (xX s u)).1).qK).length) rc71aBags,.slice ra71aAround ((((xU s u (xX s u)).1).qG).length) rc71aAround] sizeOf31 fun w81 H=>sp (yI ((xU s u (xX s u)).2)) (zjcc (sps [yI ((xU s u (xX s u)).2),.bool (((xU s u (xX s u)).2:Int) != 0)] (zjn (xO (((xU s u (xX s u)).2:Int) != 0) rfl (fun h82=>?_) (fun h82=>?_))))))
  ·skip
   replace h82:=bne_iff_ne.1 h82
   refine zcr (sw (xK [yN,yN,yN] [] (sp (yI ((xU s u (xX s u)).2)) (sw (qV H 9 [yN,yN,yN] sizeOf31 fun w83 H=>sps [yI 0,yI ((xU s u (xX s u)).2)] (zjr (t_r (b_r (t_r (b_r (t_r ?_)))))))))))
   replace H:=H.nilRowB 4
   replace H:=H.nilRow 24 1
   replace H:=H.Qz (α:=yLI)
   replace H:=H.nilRowI 2
   refine retC3 H 12 rfl (yI 0) (yI ((xU s u (xX s u)).2)) rfl isAgg31 sizeOf31 rfl rfl rfl ⟨_,rfl,?_,H.base⟩
   rw [kr,runGo_bad qf ‹¬ Halted s u› ‹_›]
   exact ⟨none,0,0,none,0,0,[],[],none,0,0,rfl,(N.emp.pick [0]),H.pick [2,1,0] [0]⟩
  replace h82:=vW h82
  refine xw (t_n (zcr (sw (zu [.slice ra71aAlive ((((xU s u (xX s u)).1).qC).length) rc71aAlive,.slice ra71aBags ((((xU s u (xX s u)).1).qK).length) rc71aBags,.slice ra71aAround ((((xU s u (xX s u)).1).qG).length) rc71aAround] isAgg31 sizeOf31 rfl (qH (H.cells 0 rfl) 0 3) (sw (qV H 5 [.slice ra71aAlive ((((xU s u (xX s u)).1).qC).length) rc71aAlive,.slice ra71aBags ((((xU s u (xX s u)).1).qK).length) rc71aBags,.slice ra71aAround ((((xU s u (xX s u)).1).qG).length) rc71aAround] sizeOf31 fun w84 H=>zjn (zl (sp (yI made) ?_))))))))
  refine sw (vg made 1 rfl rfl qf (sp (yI (made+1)) (zo (b_n (xn (m' :=(steps - (made+1)).toNat) qf ⟨_,made+1,ra71aAlive,(((xU s u (xX s u)).1).qC).length,rc71aAlive,((xU s u (xX s u)).1).qC,ra71aBags,(((xU s u (xX s u)).1).qK).length,rc71aBags,((xU s u (xX s u)).1).qK,rx71aBags,rF71aBags,ra71aAround,(((xU s u (xX s u)).1).qG).length,rc71aAround,((xU s u (xX s u)).1).qG,(xU s u (xX s u)).1,uE5,?_,?_,?_,?_,?_,?_,rfl,(N.pick [0]),H.pick [5,1,2,3,9,10,11] [0,2,3,4,5,6]⟩)))))
  · rfl
  · rfl
  · rfl
  · exact stepBy_ok ‹_›
  · omega
  · exact kr.trans (runGo_go qf ‹¬ Halted s u› ‹_›)
 refine zx4 (zcr (sw (zu [.slice ve zY zZ,.slice vV vT vU,.slice zM zK zL] isAgg31 sizeOf31 rfl (qH (H.cells 0 rfl) 0 3) (sp (yI made) (sw (qV H 4 [.slice ve zY zZ,.slice vV vT vU,.slice zM zK zL] sizeOf31 fun w85 H=>sps [yI made,yI 0] (zjr (retC3 H 4 rfl (yI made) (yI 0) rfl isAgg31 sizeOf31 rfl rfl rfl ⟨_,rfl,?_,H.base⟩))))))))
 first | rw [kr,runGo_end qf] | rw [kr,runGo_halt ‹Halted s u›]
 exact ⟨ve,zY,zZ,vV,vT,vU,Qs,yG,zM,zK,zL,rfl,N,H.pick [1,2,3] [0]⟩
theorem isEnabled_ok (w:World) (s:qy) (t:qF) (r:jg) {qB:yOA} {qX:yLN} {qJ:yOA} {xG:yLN} {qY:yOA} {x9:yLN} {xH:yOA} {zN:yLN} {qO:yOA} {xM:yLN} {yx:yOA} {Xz:yLN} {yB:yOA} {XC:yLN} {yz:yOA} {XA:yLN} {yA:yOA} {XB:yLN} {QL:yOA} {FrOut:yLN} {jV:yOA} {FrInto:yLN} (qP:qW.rep w qX [.slice qB s.qx.length qA] s.qx) (xx:qW.rep w xG [.slice qJ s.qw.length qI] s.qw) (xY:qW.rep w x9 [.slice qY t.qC.length qU] t.qC) (zG:qW.rep w zN [.slice xH t.qK.length xB] t.qK) (xJ:qW.rep w xM [.slice qO t.qG.length qN] t.qG) (hrNeed:qW.rep w Xz [.slice yx r.xC.length yl] r.xC) (hrHave:qW.rep w XC [.slice yB r.x8.length yw] r.x8) (hrLack:qW.rep w XA [.slice yz r.xZ.length yt] r.xZ) (hrHere:qW.rep w XB [.slice yA r.zf.length yu] r.zf) (hrOut:qW.rep w FrOut [.slice QL r.jb.length QK] r.jb) (hrInto:qW.rep w FrInto [.slice jV r.qM.length jU] r.qM) (p0:jB s) (p1:xW s t) (p2:RuleOk s r):Calls Tryz.prog 84 #[.agg #[yI s.xk,.slice qB s.qx.length qA,.slice qJ s.qw.length qI],.agg #[.slice qY t.qC.length qU,.slice xH t.qK.length xB,.slice qO t.qG.length qN],.agg #[yI r.qE,yI r.vw,.slice yx r.xC.length yl,.slice yB r.x8.length yw,.slice yz r.xZ.length yt,.slice yA r.zf.length yu,.slice QL r.jb.length QK,.slice jV r.qM.length jU,.bool r.zD]] w (Ret (fun v w' =>v=.bool (dec (EnOk s t r))) w):=by
 refine en func84 ntmps84 ?_
 have H:=(((((((((((St.start w).arg hrInto).arg hrOut).arg hrHere).arg hrLack).arg hrHave).arg hrNeed).arg xJ).arg zG).arg xY).arg xx).arg qP
 have zS:=qQ qP
 have jv:=qQ xx
 have Qe:=qQ xY
 have QI:=qQ zG
 have yg:=qQ xJ
 have nhrNeed:=qQ hrNeed
 have nhrHave:=qQ hrHave
 have nhrLack:=qQ hrLack
 have nhrHere:=qQ hrHere
 have nhrOut:=qQ hrOut
 have nhrInto:=qQ hrInto
 clear qP xx xY zG xJ hrNeed hrHave hrLack hrHere hrOut hrInto
 have N:=Fresh.nil w.heap.size
 have p3:=p2.1
 have p4:=p1.1
 have p5:=p1.2.1
 have p6:=(p1.bagLen (k:=r.qE.toNat) qf).len
 have p7:=p2.2.2.2.2.1.len
 have p8:=p2.2.2.2.2.2.1.len
 have p9:=p2.2.2.2.2.2.2.1.len
 have p10:=jf p2.2.2.2.2.2.2.1
 have p11:=p0.1
 have p12:=p2.2.2.2.2.2.2.2.2.2.2
 have p13:=kinds_le p0
 refine zcr (sw (jT H (yS s qB qA qJ qI) fun b1 w2 H=>sw (jT H (yT t qY qU xH xB qO qN) fun b3 w4 H=>sw (jT H [yI r.qE,yI r.vw,.slice yx r.xC.length yl,.slice yB r.x8.length yw,.slice yz r.xZ.length yt,.slice yA r.zf.length yu,.slice QL r.jb.length QK,.slice jV r.qM.length jU,.bool r.zD] fun b5 w6 H=>sp (.bool false) (zjcc (oF rfl ?_))))))
 refine oL rfl (H.cell 1 rfl rfl) (oF rfl (oL rfl (H.cell 0 rfl rfl) ?_))
 obtain ⟨b7,o8,rfl⟩:=H.addr 2 rfl qf
 refine oI rfl rfl (oL rfl (H.Xm 2 rfl r.qE qf qf) (sp (.bool (!(t.qC[r.qE.toNat]!))) (zjn (xO (!(t.qC[r.qE.toNat]!)) rfl (fun h10=>?_) (fun h10=>?_)))))
 ·skip
  replace h10:=xy h10
  refine zcr (sp (.bool false) (zjr (t_r (ret1 (.bool false) rfl rfl ⟨_,rfl,?_,H.base⟩))))
  rw [xg (fun h=>by obtain ⟨h1,h2,h3,h4,h5⟩:=h;first | exact ft h1 ‹_› | exact ft h2 ‹_› | exact ft h3 ‹_› | exact h4 ⟨‹_›,‹_›⟩ | (obtain ⟨q1,q2⟩:=h5 i qf;first | exact ft q1 ‹_› | exact absurd q2 ‹_›))]
 replace h10:=xm h10
 refine xw (t_n (zcr (oF rfl (oL rfl (H.cell 1 rfl rfl) (oF rfl (oL rfl (H.cell 0 rfl rfl) ?_))))))
 obtain ⟨b11,o12,rfl⟩:=H.addr 3 rfl qf
 obtain ⟨ae14,ce14,Fe14,H⟩:=H.Xa 3 rfl r.qE r.qE.toNat qf qf qf
 refine oI rfl rfl (oL rfl (H.zg 1 rfl 0 rfl) (sp (.slice ae14 ((t.qK[r.qE.toNat]!).length) ce14) (zjcc (oF rfl (oL rfl (H.cell 0 rfl rfl) (sp (.slice ae14 ((t.qK[r.qE.toNat]!).length) ce14) (sw (oq (isWithin_ok _ r.xC (t.qK[r.qE.toNat]!) (H.get 7 rfl).1 (H.get 0 rfl).1 qg qg) H fun w15 H=>sps [.bool (!(within r.xC (t.qK[r.qE.toNat]!))),.bool (!(within r.xC (t.qK[r.qE.toNat]!)))] ?_))))))))
 cases h17:(!(within r.xC (t.qK[r.qE.toNat]!)))
 ·skip
  replace h17:=xm h17
  refine qL 26 rfl rfl (oF rfl (qL 26 rfl rfl (oL rfl (H.cell 0 rfl rfl) (qL 26 rfl rfl (sp (.slice ae14 ((t.qK[r.qE.toNat]!).length) ce14) (qL 26 rfl rfl (sw (oq (isWithin_ok _ r.x8 (t.qK[r.qE.toNat]!) (H.get 8 rfl).1 (H.get 0 rfl).1 qg qg) H fun w18 H=>qL 26 rfl rfl (sps [.bool (!(within r.x8 (t.qK[r.qE.toNat]!))),.bool (!(within r.x8 (t.qK[r.qE.toNat]!))),.bool (!(within r.x8 (t.qK[r.qE.toNat]!)))] ?_)))))))))
  cases h20:(!(within r.x8 (t.qK[r.qE.toNat]!)))
  ·skip
   replace h20:=xm h20
   refine qL 33 rfl rfl (oF rfl (qL 33 rfl rfl (oL rfl (H.cell 0 rfl rfl) (qL 33 rfl rfl (sw (oq (bagSize_ok _ r.xZ (H.get 9 rfl).1 (by first | assumption | exact jf ql | exact QF ql)) H fun w21 H=>qL 33 rfl rfl (sp (.bool (decide ((sumL r.xZ:Int) > 0))) (qL 33 rfl rfl (sp (.bool (decide ((sumL r.xZ:Int) > 0))) ?_)))))))))
   cases h23:(decide ((sumL r.xZ:Int) > 0))
   ·skip
    replace h23:=of_decide_eq_false h23
    refine xR [39,40,41,42] (qL 33 rfl rfl (sps [.bool false,.bool false] (zjn (xO false rfl (fun h=>absurd h qj) (fun _=>xw (t_n (zcr (oF rfl (oL rfl (H.cell 0 rfl rfl) (sp (.func (.func 154) #[] #[pp b3 0,pp b1 0,pp b5 0]) (sw (Qb #[.slice jV r.qM.length jU,.func (.func 154) #[] #[pp b3 0,pp b1 0,pp b5 0]] rfl rfl call153 (en func153 ntmps153 ?_)))))))))))))
    refine zcr (sp (.bool false) (zjc (sps [.slice jV r.qM.length jU,.func (.func 154) #[] #[pp b3 0,pp b1 0,pp b5 0]] (sw (Qb #[.slice jV r.qM.length jU,.func (.func 154) #[] #[pp b3 0,pp b1 0,pp b5 0]] rfl rfl call192 (en func192 ntmps192 ?_))))))
    refine zcr (sp (yI 0) (zjcc (sp (.slice jV r.qM.length jU) (oN rfl (sp (yI 0) (zjn (xq ?_)))))))
    refine vJ (fun m' ρ w24=>∃ (zx:Env) (i:Nat),ρ=upd (upd (upd (upd zx 0 (.slice jV r.qM.length jU)) 1 (.func (.func 154) #[] #[pp b3 0,pp b1 0,pp b5 0])) 7 (yI r.qM.length)) 8 (yI i)∧((i:Int)≤r.qM.length)∧(IntoUp s t r i)∧m' =(r.qM.length - (i:Int)).toNat∧Fresh w.heap.size []∧St w w24 [.box b5 [yI r.qE,yI r.vw,.slice yx r.xC.length yl,.slice yB r.x8.length yw,.slice yz r.xZ.length yt,.slice yA r.zf.length yu,.slice QL r.jb.length QK,.slice jV r.qM.length jU,.bool r.zD] 56,.box b3 [.slice (aa b7 o8) t.qC.length qU,.slice (aa b11 o12) t.qK.length xB,.slice qO t.qG.length qN] 31,.box b1 (yS s qB qA qJ qI) 27] [sF false Fe14 ae14 ce14 (t.qK[r.qE.toNat]!),atF b11 (o12+(r.qE:Int).toNat * 1) [.slice ae14 ((t.qK[r.qE.toNat]!).length) ce14],sF false qX qB qA s.qx,sF false xG qJ qI s.qw,sF false x9 (aa b7 o8) qU t.qC,sF false zN (aa b11 o12) xB t.qK,sF false xM qO qN t.qG,sF false Xz yx yl r.xC,sF false XC yB yw r.x8,sF false XA yz yt r.xZ,sF false XB yA yu r.zf,sF false FrOut QL QK r.jb,sF false FrInto jV jU r.qM]) ((r.qM.length - (0:Int)).toNat) ⟨_,0,uE4,qf,(by exact fun j hj=>by omega),rfl,N,H⟩ ?_
    clear H N
    rintro m' ρ w25 ⟨zx,i,rfl,i0,i1,rfl,N,H⟩
    refine zcr (sp (.bool (decide ((i:Int) < r.qM.length))) (zjn (zn (cD rfl (fun h26=>?_) (fun h26=>?_)))))
    ·skip
     have q:=(p12 i qf).1
     have q1:=q.1
     have q2:=q.2
     refine xw (t_n (zn (xq (zcr (sps [yI i,yI i] (zjc (sps [.func (.func 154) #[] #[pp b3 0,pp b1 0,pp b5 0],.slice jV r.qM.length jU,yI i] ?_)))))))
     obtain ⟨b27,o28,rfl⟩:=H.addr 12 rfl qf
     obtain ⟨ae30Bag,ce30Bag,Fe30Bag,H⟩:=H.yY 12 rfl i i qf qf qf
     refine oI rfl rfl (sw (zu [yI ((r.qM[i]!).qE),.slice ae30Bag (((r.qM[i]!).QC).length) ce30Bag] isAgg142 sizeOf142 rfl (qH (H.get 1 rfl) 0 2) (sw (Qb #[.agg #[yI ((r.qM[i]!).qE),.slice ae30Bag (((r.qM[i]!).QC).length) ce30Bag],pp b3 0,pp b1 0,pp b5 0] rfl rfl call154 (en func154 ntmps154 ?_)))))
     refine zcr (sw (jT H [yI ((r.qM[i]!).qE),.slice ae30Bag (((r.qM[i]!).QC).length) ce30Bag] fun b31 w32 H=>sp (.bool false) (zjn (zn ?_))))
     refine y9 rfl H fun H=>tF 0 rfl rfl H ?_
     refine tL 1 rfl rfl (fun _ h=>h.cell 2 rfl rfl) H ?_
     refine tF 2 rfl rfl H ?_
     refine tL 3 rfl rfl (fun _ h=>h.cell 0 rfl rfl) H ?_
     refine tI 4 rfl rfl rfl H ?_
     refine tL 5 rfl rfl (fun _ h=>h.Xm 6 rfl ((r.qM[i]!).qE) qf qf) H ?_
     refine rtp 6 (.bool (!(t.qC[((r.qM[i]!).qE).toNat]!))) H ?_
     refine rtp 7 (.bool (!(t.qC[((r.qM[i]!).qE).toNat]!))) H ?_
     cases h34:(!(t.qC[((r.qM[i]!).qE).toNat]!))
     ·skip
      replace h34:=xm h34
      refine rg 8 (.agg #[yI s.xk,.slice qB s.qx.length qA,.slice qJ s.qw.length qI]) 13 (Qn (cs:=(yS s qB qA qJ qI)) isAgg27 sizeOf27 rfl (fun _ h=>qH (h.cells 3 rfl) 0 3)) H ?_
      refine rg 9 (.agg #[.slice (aa b7 o8) t.qC.length qU,.slice (aa b11 o12) t.qK.length xB,.slice qO t.qG.length qN]) 13 (Qn (cs:=[.slice (aa b7 o8) t.qC.length qU,.slice (aa b11 o12) t.qK.length xB,.slice qO t.qG.length qN]) isAgg31 sizeOf31 rfl (fun _ h=>qH (h.cells 2 rfl) 0 3)) H ?_
      refine gF 10 rfl rfl H ?_
      refine gL 11 rfl rfl (fun _ h=>h.cell 0 rfl rfl) H ?_
      refine gF 13 rfl rfl H ?_
      refine gL 14 rfl rfl (fun _ h=>h.cell 1 rfl rfl) H ?_
      refine zI [12] qh qm (r_opG rfl (e:=13) rfl rfl (oq (parentNow_ok _ s t ((r.qM[i]!).qE) (H.get 4 rfl).1 (H.get 5 rfl).1 (H.get 6 rfl).1 (H.get 7 rfl).1 (H.get 8 rfl).1 qg qg qg) H fun w36 H=>⟨H,(rgp 15 (.bool ((qR s t ((r.qM[i]!).qE):Int) != r.qE)) 13 H ?_)⟩) zJ)
      refine rtp 16 (.bool ((qR s t ((r.qM[i]!).qE):Int) != r.qE)) H ?_
      refine rtp 17 (.bool ((qR s t ((r.qM[i]!).qE):Int) != r.qE)) H ?_
      refine xh qh (t_n (c_ret (ret1 (.bool ((qR s t ((r.qM[i]!).qE):Int) != r.qE)) rfl rfl ⟨_,rfl,?_⟩)))
      replace H:=H.erases [0]
      dsimp only [Qg,List.eraseIdx] at H
      refine zjn (xO ((qR s t ((r.qM[i]!).qE):Int) != r.qE) rfl (fun h38=>?_) (fun h38=>?_))
      ·skip
       replace h38:=bne_iff_ne.1 h38
       refine zcr (sps [yI i,yI i] (zjr (zr5 (ret1 (yI i) rfl rfl ⟨_,rfl,(sw (o_pure (.bool true) (by show some (Value.bool (decide ((i:Int)≥0)))=some (Value.bool true);rw [decide_eq_true qf]) (sp (.bool true) (zjr (ret1 (.bool true) rfl rfl ⟨_,rfl,(sps [.bool false,.bool false] (zjr (ret1 (.bool false) rfl rfl ⟨_,rfl,?_,H.base⟩)))⟩)))))⟩))))
       rw [xg (fun h=>by obtain ⟨h1,h2,h3,h4,h5⟩:=h;first | exact ft h1 ‹_› | exact ft h2 ‹_› | exact ft h3 ‹_› | exact h4 ⟨‹_›,‹_›⟩ | (obtain ⟨q1,q2⟩:=h5 i qf;first | exact ft q1 ‹_› | exact absurd q2 ‹_›))]
      replace h38:=vW h38
      refine xw (b_n (t_n (zl (sw (vg i 1 rfl rfl qf (sp (yI (i+1)) (zo (xn (m' :=(r.qM.length - ((i+1):Int)).toNat) qf ⟨_,i+1,uE4,?_,?_,rfl,N,H.pick [0,1,2] [2,3,4,5,6,7,8,9,10,11,12,13,14]⟩))))))))
      · omega
      · exact i1.succ ‹_› ‹_›
     replace h34:=xy h34
     refine zH [8,9,10,11,12,13,14,15] 8 (H) (rtp 16 (.bool true) H ?_)
     refine rtp 17 (.bool true) H ?_
     refine xh qh (t_n (c_ret (ret1 (.bool true) rfl rfl ⟨_,rfl,?_⟩)))
     replace H:=H.erases [0]
     dsimp only [Qg,List.eraseIdx] at H
     refine zjn (xO true rfl (fun _=>zcr (sps [yI i,yI i] (zjr (zr5 (ret1 (yI i) rfl rfl ⟨_,rfl,(sw (o_pure (.bool true) (by show some (Value.bool (decide ((i:Int)≥0)))=some (Value.bool true);rw [decide_eq_true qf]) (sp (.bool true) (zjr (ret1 (.bool true) rfl rfl ⟨_,rfl,(sps [.bool false,.bool false] (zjr (ret1 (.bool false) rfl rfl ⟨_,rfl,?_,H.base⟩)))⟩)))))⟩))))) (fun h=>absurd h qj))
     rw [xg (fun h=>by obtain ⟨h1,h2,h3,h4,h5⟩:=h;first | exact ft h1 ‹_› | exact ft h2 ‹_› | exact ft h3 ‹_› | exact h4 ⟨‹_›,‹_›⟩ | (obtain ⟨q1,q2⟩:=h5 i qf;first | exact ft q1 ‹_› | exact absurd q2 ‹_›))]
    refine zx4 (zcr (sp (yI (-1)) (zjr (ret1 (yI (-1)) rfl rfl ⟨_,rfl,(sps [.bool false,.bool false] (zjr (ret1 (.bool false) rfl rfl ⟨_,rfl,(sps [.bool true,.bool true] (zjr (ret1 (.bool true) rfl rfl ⟨_,rfl,?_,H.base⟩)))⟩)))⟩))))
    rw [yP ⟨by assumption,by assumption,by assumption,fun ⟨u,v⟩=>by first | omega | exact ft v ‹_›,(show i=r.qM.length by omega)▸i1⟩]
   replace h23:=of_decide_eq_true h23
   refine qL 38 rfl rfl (oF rfl (qL 38 rfl rfl (oL rfl (H.cell 0 rfl rfl) (qL 38 rfl rfl (sp (.slice ae14 ((t.qK[r.qE.toNat]!).length) ce14) (qL 38 rfl rfl (sw (oq (isWithin_ok _ r.xZ (t.qK[r.qE.toNat]!) (H.get 9 rfl).1 (H.get 0 rfl).1 qg qg) H fun w39 H=>qL 33 rfl rfl (sps [.bool (within r.xZ (t.qK[r.qE.toNat]!)),.bool (within r.xZ (t.qK[r.qE.toNat]!))] (zjn (xO (within r.xZ (t.qK[r.qE.toNat]!)) rfl (fun h41=>?_) (fun h41=>?_))))))))))))
   ·skip
    refine zcr (sp (.bool false) (zjr (t_r (ret1 (.bool false) rfl rfl ⟨_,rfl,?_,H.base⟩))))
    rw [xg (fun h=>by obtain ⟨h1,h2,h3,h4,h5⟩:=h;first | exact ft h1 ‹_› | exact ft h2 ‹_› | exact ft h3 ‹_› | exact h4 ⟨‹_›,‹_›⟩ | (obtain ⟨q1,q2⟩:=h5 i qf;first | exact ft q1 ‹_› | exact absurd q2 ‹_›))]
   refine xw (t_n (zcr (oF rfl (oL rfl (H.cell 0 rfl rfl) (sp (.func (.func 154) #[] #[pp b3 0,pp b1 0,pp b5 0]) (sw (Qb #[.slice jV r.qM.length jU,.func (.func 154) #[] #[pp b3 0,pp b1 0,pp b5 0]] rfl rfl call153 (en func153 ntmps153 ?_))))))))
   refine zcr (sp (.bool false) (zjc (sps [.slice jV r.qM.length jU,.func (.func 154) #[] #[pp b3 0,pp b1 0,pp b5 0]] (sw (Qb #[.slice jV r.qM.length jU,.func (.func 154) #[] #[pp b3 0,pp b1 0,pp b5 0]] rfl rfl call192 (en func192 ntmps192 ?_))))))
   refine zcr (sp (yI 0) (zjcc (sp (.slice jV r.qM.length jU) (oN rfl (sp (yI 0) (zjn (xq ?_)))))))
   refine vJ (fun m' ρ w42=>∃ (zx:Env) (i:Nat),ρ=upd (upd (upd (upd zx 0 (.slice jV r.qM.length jU)) 1 (.func (.func 154) #[] #[pp b3 0,pp b1 0,pp b5 0])) 7 (yI r.qM.length)) 8 (yI i)∧((i:Int)≤r.qM.length)∧(IntoUp s t r i)∧m' =(r.qM.length - (i:Int)).toNat∧Fresh w.heap.size []∧St w w42 [.box b5 [yI r.qE,yI r.vw,.slice yx r.xC.length yl,.slice yB r.x8.length yw,.slice yz r.xZ.length yt,.slice yA r.zf.length yu,.slice QL r.jb.length QK,.slice jV r.qM.length jU,.bool r.zD] 56,.box b3 [.slice (aa b7 o8) t.qC.length qU,.slice (aa b11 o12) t.qK.length xB,.slice qO t.qG.length qN] 31,.box b1 (yS s qB qA qJ qI) 27] [sF false Fe14 ae14 ce14 (t.qK[r.qE.toNat]!),atF b11 (o12+(r.qE:Int).toNat * 1) [.slice ae14 ((t.qK[r.qE.toNat]!).length) ce14],sF false qX qB qA s.qx,sF false xG qJ qI s.qw,sF false x9 (aa b7 o8) qU t.qC,sF false zN (aa b11 o12) xB t.qK,sF false xM qO qN t.qG,sF false Xz yx yl r.xC,sF false XC yB yw r.x8,sF false XA yz yt r.xZ,sF false XB yA yu r.zf,sF false FrOut QL QK r.jb,sF false FrInto jV jU r.qM]) ((r.qM.length - (0:Int)).toNat) ⟨_,0,uE4,qf,(by exact fun j hj=>by omega),rfl,N,H⟩ ?_
   clear H N
   rintro m' ρ w43 ⟨zx,i,rfl,i0,i1,rfl,N,H⟩
   refine zcr (sp (.bool (decide ((i:Int) < r.qM.length))) (zjn (zn (cD rfl (fun h44=>?_) (fun h44=>?_)))))
   ·skip
    have q:=(p12 i qf).1
    have q1:=q.1
    have q2:=q.2
    refine xw (t_n (zn (xq (zcr (sps [yI i,yI i] (zjc (sps [.func (.func 154) #[] #[pp b3 0,pp b1 0,pp b5 0],.slice jV r.qM.length jU,yI i] ?_)))))))
    obtain ⟨b45,o46,rfl⟩:=H.addr 12 rfl qf
    obtain ⟨ae48Bag,ce48Bag,Fe48Bag,H⟩:=H.yY 12 rfl i i qf qf qf
    refine oI rfl rfl (sw (zu [yI ((r.qM[i]!).qE),.slice ae48Bag (((r.qM[i]!).QC).length) ce48Bag] isAgg142 sizeOf142 rfl (qH (H.get 1 rfl) 0 2) (sw (Qb #[.agg #[yI ((r.qM[i]!).qE),.slice ae48Bag (((r.qM[i]!).QC).length) ce48Bag],pp b3 0,pp b1 0,pp b5 0] rfl rfl call154 (en func154 ntmps154 ?_)))))
    refine zcr (sw (jT H [yI ((r.qM[i]!).qE),.slice ae48Bag (((r.qM[i]!).QC).length) ce48Bag] fun b49 w50 H=>sp (.bool false) (zjn (zn ?_))))
    refine y9 rfl H fun H=>tF 0 rfl rfl H ?_
    refine tL 1 rfl rfl (fun _ h=>h.cell 2 rfl rfl) H ?_
    refine tF 2 rfl rfl H ?_
    refine tL 3 rfl rfl (fun _ h=>h.cell 0 rfl rfl) H ?_
    refine tI 4 rfl rfl rfl H ?_
    refine tL 5 rfl rfl (fun _ h=>h.Xm 6 rfl ((r.qM[i]!).qE) qf qf) H ?_
    refine rtp 6 (.bool (!(t.qC[((r.qM[i]!).qE).toNat]!))) H ?_
    refine rtp 7 (.bool (!(t.qC[((r.qM[i]!).qE).toNat]!))) H ?_
    cases h52:(!(t.qC[((r.qM[i]!).qE).toNat]!))
    ·skip
     replace h52:=xm h52
     refine rg 8 (.agg #[yI s.xk,.slice qB s.qx.length qA,.slice qJ s.qw.length qI]) 13 (Qn (cs:=(yS s qB qA qJ qI)) isAgg27 sizeOf27 rfl (fun _ h=>qH (h.cells 3 rfl) 0 3)) H ?_
     refine rg 9 (.agg #[.slice (aa b7 o8) t.qC.length qU,.slice (aa b11 o12) t.qK.length xB,.slice qO t.qG.length qN]) 13 (Qn (cs:=[.slice (aa b7 o8) t.qC.length qU,.slice (aa b11 o12) t.qK.length xB,.slice qO t.qG.length qN]) isAgg31 sizeOf31 rfl (fun _ h=>qH (h.cells 2 rfl) 0 3)) H ?_
     refine gF 10 rfl rfl H ?_
     refine gL 11 rfl rfl (fun _ h=>h.cell 0 rfl rfl) H ?_
     refine gF 13 rfl rfl H ?_
     refine gL 14 rfl rfl (fun _ h=>h.cell 1 rfl rfl) H ?_
     refine zI [12] qh qm (r_opG rfl (e:=13) rfl rfl (oq (parentNow_ok _ s t ((r.qM[i]!).qE) (H.get 4 rfl).1 (H.get 5 rfl).1 (H.get 6 rfl).1 (H.get 7 rfl).1 (H.get 8 rfl).1 qg qg qg) H fun w54 H=>⟨H,(rgp 15 (.bool ((qR s t ((r.qM[i]!).qE):Int) != r.qE)) 13 H ?_)⟩) zJ)
     refine rtp 16 (.bool ((qR s t ((r.qM[i]!).qE):Int) != r.qE)) H ?_
     refine rtp 17 (.bool ((qR s t ((r.qM[i]!).qE):Int) != r.qE)) H ?_
     refine xh qh (t_n (c_ret (ret1 (.bool ((qR s t ((r.qM[i]!).qE):Int) != r.qE)) rfl rfl ⟨_,rfl,?_⟩)))
     replace H:=H.erases [0]
     dsimp only [Qg,List.eraseIdx] at H
     refine zjn (xO ((qR s t ((r.qM[i]!).qE):Int) != r.qE) rfl (fun h56=>?_) (fun h56=>?_))
     ·skip
      replace h56:=bne_iff_ne.1 h56
      refine zcr (sps [yI i,yI i] (zjr (zr5 (ret1 (yI i) rfl rfl ⟨_,rfl,(sw (o_pure (.bool true) (by show some (Value.bool (decide ((i:Int)≥0)))=some (Value.bool true);rw [decide_eq_true qf]) (sp (.bool true) (zjr (ret1 (.bool true) rfl rfl ⟨_,rfl,(sps [.bool false,.bool false] (zjr (ret1 (.bool false) rfl rfl ⟨_,rfl,?_,H.base⟩)))⟩)))))⟩))))
      rw [xg (fun h=>by obtain ⟨h1,h2,h3,h4,h5⟩:=h;first | exact ft h1 ‹_› | exact ft h2 ‹_› | exact ft h3 ‹_› | exact h4 ⟨‹_›,‹_›⟩ | (obtain ⟨q1,q2⟩:=h5 i qf;first | exact ft q1 ‹_› | exact absurd q2 ‹_›))]
     replace h56:=vW h56
     refine xw (b_n (t_n (zl (sw (vg i 1 rfl rfl qf (sp (yI (i+1)) (zo (xn (m' :=(r.qM.length - ((i+1):Int)).toNat) qf ⟨_,i+1,uE4,?_,?_,rfl,N,H.pick [0,1,2] [2,3,4,5,6,7,8,9,10,11,12,13,14]⟩))))))))
     · omega
     · exact i1.succ ‹_› ‹_›
    replace h52:=xy h52
    refine zH [8,9,10,11,12,13,14,15] 8 (H) (rtp 16 (.bool true) H ?_)
    refine rtp 17 (.bool true) H ?_
    refine xh qh (t_n (c_ret (ret1 (.bool true) rfl rfl ⟨_,rfl,?_⟩)))
    replace H:=H.erases [0]
    dsimp only [Qg,List.eraseIdx] at H
    refine zjn (xO true rfl (fun _=>zcr (sps [yI i,yI i] (zjr (zr5 (ret1 (yI i) rfl rfl ⟨_,rfl,(sw (o_pure (.bool true) (by show some (Value.bool (decide ((i:Int)≥0)))=some (Value.bool true);rw [decide_eq_true qf]) (sp (.bool true) (zjr (ret1 (.bool true) rfl rfl ⟨_,rfl,(sps [.bool false,.bool false] (zjr (ret1 (.bool false) rfl rfl ⟨_,rfl,?_,H.base⟩)))⟩)))))⟩))))) (fun h=>absurd h qj))
    rw [xg (fun h=>by obtain ⟨h1,h2,h3,h4,h5⟩:=h;first | exact ft h1 ‹_› | exact ft h2 ‹_› | exact ft h3 ‹_› | exact h4 ⟨‹_›,‹_›⟩ | (obtain ⟨q1,q2⟩:=h5 i qf;first | exact ft q1 ‹_› | exact absurd q2 ‹_›))]
   refine zx4 (zcr (sp (yI (-1)) (zjr (ret1 (yI (-1)) rfl rfl ⟨_,rfl,(sps [.bool false,.bool false] (zjr (ret1 (.bool false) rfl rfl ⟨_,rfl,(sps [.bool true,.bool true] (zjr (ret1 (.bool true) rfl rfl ⟨_,rfl,?_,H.base⟩)))⟩)))⟩))))
   rw [yP ⟨by assumption,by assumption,by assumption,fun ⟨u,v⟩=>by first | omega | exact ft v ‹_›,(show i=r.qM.length by omega)▸i1⟩]
  replace h20:=xy h20
  refine xR [34,35,36,37,38,39,40,41,42,43] (sp (.bool true) (zjn (xO true rfl (fun _=>zcr (sp (.bool false) (zjr (t_r (ret1 (.bool false) rfl rfl ⟨_,rfl,?_,H.base⟩))))) (fun h=>absurd h qj))))
  rw [xg (fun h=>by obtain ⟨h1,h2,h3,h4,h5⟩:=h;first | exact ft h1 ‹_› | exact ft h2 ‹_› | exact ft h3 ‹_› | exact h4 ⟨‹_›,‹_›⟩ | (obtain ⟨q1,q2⟩:=h5 i qf;first | exact ft q1 ‹_› | exact absurd q2 ‹_›))]
 replace h17:=xy h17
 refine xR [27,28,29,30,31] (sps [.bool true,.bool true] (xR [34,35,36,37,38,39,40,41,42,43] (sp (.bool true) (zjn (xO true rfl (fun _=>zcr (sp (.bool false) (zjr (t_r (ret1 (.bool false) rfl rfl ⟨_,rfl,?_,H.base⟩))))) (fun h=>absurd h qj))))))
 rw [xg (fun h=>by obtain ⟨h1,h2,h3,h4,h5⟩:=h;first | exact ft h1 ‹_› | exact ft h2 ‹_› | exact ft h3 ‹_› | exact h4 ⟨‹_›,‹_›⟩ | (obtain ⟨q1,q2⟩:=h5 i qf;first | exact ft q1 ‹_› | exact absurd q2 ‹_›))]

theorem cloneSS_ok (w:World) (l:yLL) {al:yOA} {Fl:yLN} (hl:qW.rep w Fl [.slice al l.length cl] l) (p0:l.length≤1000000):Calls Tryz.prog 104 #[.slice al l.length cl] w (Ret (fun v w' =>∃ (ra:yOA) (rn:Nat) (rc:Nat) (rx:List Value) (rF:yLN),v=.slice ra rn rc∧(∀ b∈rF,b∈Fl)∧St w w' [rr ra rn rc 24 1 rx] [xe false rF rx l]) w):=by
 refine en func104 ntmps104 ?_
 have H:=(St.start w).arg hl
 have nhl:=qQ hl
 clear hl
 have N:=Fresh.nil w.heap.size
 refine zcr (sp yN (zjcc (sp (.slice al l.length cl) (sw (o_eqnil underlying29 al l.length cl rfl (zjn (xO (al.isNone) rfl (fun h1=>?_) (fun h1=>?_))))))))
 ·skip
  refine zcr (sp yN (zjr (t_r ?_)))
  replace H:=H.nilRow 24 1
  replace H:=H.Qz (α:=yLI)
  refine ret1 yN rfl rfl ⟨_,rfl,?_,H.base⟩
  obtain rfl:=H.nilOf 1 rfl ‹_›
  replace H:=H.unfree 0 rfl
  exact ⟨none,0,0,[],[],rfl,(by intro b hb;first | (simp at hb;done) | exact id b (by simpa using hb)),H.pick [0] [0]⟩
 refine xw (t_n (zcr (sw (QN H underlying29 ti24 fun b2 w3 H=>sp (.slice al l.length cl) ?_))))
 replace H:=H.boxRow 0 rfl 1 0 rfl qj
 replace H:=H.Qz (α:=yLI)
 refine sw (o_appendFR H 0 rfl 1 rfl underlying29 ti24 rfl qj rfl rfl qp qf fun a4 c5 w6 us7 G8 H hG9=>?_)
 replace H:=H.repsCat false 1 rfl 0 rfl qm
 refine sp (.slice a4 (0+l.length) c5) (zjr (ret1 (.slice a4 (0+l.length) c5) rfl rfl ⟨_,rfl,(⟨a4,0+l.length,c5,[]++us7,([]++G8),rfl,(by intro b hb;first | (simp at hb;done) | exact hG9 b (by simpa using hb)),H.pick [0] [0]⟩),H.base⟩))

theorem timesIn_ok (w:World) (l:yLI) (m:yLI) {al:yOA} {Fl:yLN} {am:yOA} {Fm:yLN} (hl:qW.rep w Fl [.slice al l.length cl] l) (hm:qW.rep w Fm [.slice am m.length cm] m) (p0:l.length≤m.length) (p2:∀ q,q < l.length→0≤m[q]! ∧m[q]! ≤1000):Calls Tryz.prog 109 #[.slice al l.length cl,.slice am m.length cm] w (Ret (fun v w' =>v=yI (Qd l m)) w):=by
 refine en func109 ntmps109 ?_
 have H:=((St.start w).arg hm).arg hl
 have nhl:=qQ hl
 have nhm:=qQ hm
 clear hl hm
 have N:=Fresh.nil w.heap.size
 refine zcr (sp (yI 0) (zjc (sp (yI 1000) (zjcc (sp (.slice al l.length cl) (oN rfl (sp (yI 0) (zjn (xq ?_)))))))))
 refine vJ (fun m' ρ w1=>∃ (zx:Env) (most:Int) (k:Nat),ρ=upd (upd (upd (upd (upd zx 1 (.slice am m.length cm)) 5 (yI most)) 8 (.slice al l.length cl)) 9 (yI l.length)) 10 (yI k)∧most=y7 l m k∧((k:Int)≤l.length)∧m' =(l.length - (k:Int)).toNat∧Fresh w.heap.size []∧St w w1 [] [sF false Fl al cl l,sF false Fm am cm m]) ((l.length - (0:Int)).toNat) ⟨_,1000,0,uE5,(by rfl),qf,rfl,N,H⟩ ?_
 clear H N
 rintro m' ρ w2 ⟨zx,most,k,rfl,rfl,i0,rfl,N,H⟩
 refine zcr (sp (.bool (decide ((k:Int) < l.length))) (zjn (zn (cD rfl (fun h3=>?_) (fun h3=>?_)))))
 ·skip
  refine xw (t_n (zn (xq (zcr (sp (yI k) ?_)))))
  obtain ⟨b4,o5,rfl⟩:=H.addr 0 rfl qf
  refine oI rfl rfl (oL rfl (H.jZ 0 rfl k qf qf) (sps [yI k,yI (l[k]!)] (zjc (sps [yI (l[k]!),.bool (decide ((l[k]! :Int) > 0))] (zjn (cD rfl (fun h7=>?_) (fun h7=>?_)))))))
  ·skip
   refine zl (sps [yI (y7 l m k),.slice am m.length cm,yI k] ?_)
   obtain ⟨b8,o9,rfl⟩:=H.addr 1 rfl qf
   refine oI rfl rfl (oL rfl (H.jZ 1 rfl k qf qf) (sp (yI (l[k]!)) (sw (o_quo (m[k]!) (l[k]!) rfl rfl (by (have:=p2 k qf;omega)) (by (have:=p2 k qf;omega)) (sw (o_min (y7 l m k) ((m[k]!) / (l[k]!)) rfl rfl (sp (yI (min (y7 l m k) ((m[k]!) / (l[k]!)))) (zo (b_n (t_n (zl (sw (vg k 1 rfl rfl (by (have:=p2 k qf;omega)) (sp (yI (k+1)) (zo (xn (m' :=(l.length - ((k+1):Int)).toNat) qf ⟨_,min (y7 l m k) ((m[k]!) / (l[k]!)),k+1,uE5,?_,?_,rfl,N,H⟩))))))))))))))))
   · first | exact (timesTo_pos qf).symm | exact (timesTo_skip qf).symm
   · omega
  refine xw (b_n (t_n (zl (sw (vg k 1 rfl rfl (by (have:=p2 k qf;omega)) (sp (yI (k+1)) (zo (xn (m' :=(l.length - ((k+1):Int)).toNat) qf ⟨_,(y7 l m k),k+1,uE5,?_,?_,rfl,N,H⟩))))))))
  · first | exact (timesTo_pos qf).symm | exact (timesTo_skip qf).symm
  · omega
 refine zx4 (zcr (sps [yI (y7 l m k),yI (y7 l m k)] (zjr (ret1 (yI (y7 l m k)) rfl rfl ⟨_,rfl,?_,H.base⟩))))
 obtain rfl:k=l.length:=by omega
 rfl

theorem applicable_ok (w:World) (s:qy) (t:qF) {qB:yOA} {qX:yLN} {qJ:yOA} {xG:yLN} {qY:yOA} {x9:yLN} {xH:yOA} {zN:yLN} {qO:yOA} {xM:yLN} (qP:qW.rep w qX [.slice qB s.qx.length qA] s.qx) (xx:qW.rep w xG [.slice qJ s.qw.length qI] s.qw) (xY:qW.rep w x9 [.slice qY t.qC.length qU] t.qC) (zG:qW.rep w zN [.slice xH t.qK.length xB] t.qK) (xJ:qW.rep w xM [.slice qO t.qG.length qN] t.qG) (p0:jB s) (p1:xW s t):Calls Tryz.prog 50 #[.agg #[yI s.xk,.slice qB s.qx.length qA,.slice qJ s.qw.length qI],.agg #[.slice qY t.qC.length qU,.slice xH t.qK.length xB,.slice qO t.qG.length qN]] w (Ret (fun v w' =>∃ (ra:yOA) (rn:Nat) (rc:Nat),v=.slice ra rn rc∧Fresh w.heap.size []∧St w w' [rr ra rn rc 2 1 ((appls s t).map (Value.int .i64))] []) w):=by
 refine en func50 ntmps50 ?_
 have H:=(((((St.start w).arg xJ).arg zG).arg xY).arg xx).arg qP
 have zS:=qQ qP
 have jv:=qQ xx
 have Qe:=qQ xY
 have QI:=qQ zG
 have yg:=qQ xJ
 clear qP xx xY zG xJ
 have N:=Fresh.nil w.heap.size
 have p2:=p0.2.1
 have p3:=p0.1.2.1
 refine zcr (sw (jT H (yS s qB qA qJ qI) fun b1 w2 H=>sw (jT H (yT t qY qU xH xB qO qN) fun b3 w4 H=>sp yN (zjc (sw (xK [yI 0,yI 0,yI 0,yI 0,yI 0,yI 0] [] (sw (xu H ti131 [yI 0,yI 0,yI 0,yI 0,yI 0,yI 0] fun b5 w6 H=>?_))))))))
 refine sw (qV H 0 [yI 0,yI 0,yI 0,yI 0,yI 0,yI 0] sizeOf131 fun w7 H=>zjcc (sp (yI 0) (zjn (xq ?_))))
 refine vJ (fun m' ρ w8=>∃ (zx:Env) (c:Nat) (top:yLI),ρ=upd (upd (upd (upd zx 2 (pp b1 0)) 3 (pp b3 0)) 5 (pp b5 0)) 13 (yI c)∧top=minus c∧((c:Int)≤6)∧m' =(6 - (c:Int)).toNat∧Fresh w.heap.size []∧St w w8 [.box b5 (top.map (Value.int .i64)) 131,.box b3 (yT t qY qU xH xB qO qN) 31,.box b1 (yS s qB qA qJ qI) 27] [sF false qX qB qA s.qx,sF false xG qJ qI s.qw,sF false x9 qY qU t.qC,sF false zN xH xB t.qK,sF false xM qO qN t.qG]) ((6 - (0:Int)).toNat) ⟨_,0,[0,0,0,0,0,0],uE4,(by rfl),qf,rfl,N,H⟩ ?_
 clear H N
 rintro m' ρ w9 ⟨zx,c,top,rfl,rfl,i0,rfl,N,H⟩
 refine zcr (sp (.bool (decide ((c:Int) < 6))) (zjn (zn (cD rfl (fun h10=>?_) (fun h10=>?_)))))
 ·skip
  refine xw (t_n (zn (xq (zcr (sps [yI c,yI c] (zjn (zl (sp (yI c) (sw (o_idxArr c underlying131 ti2 rfl rfl qf qf (sw (o_storeArr H 0 rfl (-1) sizeOf2 rfl rfl (i:=c) qf (by simp only [List.length_set,List.length_cons,List.length_nil,minus_len,QZ];omega) fun w11 H=>zo (b_n (t_n (zl (sw (vg c 1 rfl rfl qf (sp (yI (c+1)) (zo (xn (m' :=(6 - ((c+1):Int)).toNat) qf ⟨_,c+1,((minus c).set c (-1)),uE4,?_,?_,rfl,N,H⟩))))))))))))))))))))
  · exact minus_set qf
  · omega
 refine zx4 (zcc (oF rfl (oL rfl (H.cell 2 rfl rfl) (oN rfl (sp (yI 0) (zjn (xq ?_)))))))
 refine vJ (fun m' ρ w12=>∃ (zx:Env) (k:Nat) (top_1:yLI),ρ=upd (upd (upd (upd (upd (upd zx 2 (pp b1 0)) 3 (pp b3 0)) 5 (pp b5 0)) 20 (.slice qJ s.qw.length qI)) 21 (yI s.qw.length)) 22 (yI k)∧top_1=bests s t (-1) 6 k∧((k:Int)≤s.qw.length)∧m' =(s.qw.length - (k:Int)).toNat∧Fresh w.heap.size []∧St w w12 [.box b5 (top_1.map (Value.int .i64)) 131,.box b3 (yT t qY qU xH xB qO qN) 31,.box b1 (yS s qB qA qJ qI) 27] [sF false qX qB qA s.qx,sF false xG qJ qI s.qw,sF false x9 qY qU t.qC,sF false zN xH xB t.qK,sF false xM qO qN t.qG]) ((s.qw.length - (0:Int)).toNat) ⟨_,0,(minus c),uE6,(by exact minus_six qf s t),qf,rfl,N,H⟩ ?_
 clear H N
 rintro m' ρ w13 ⟨zx,k,top_1,rfl,rfl,i0,rfl,N,H⟩
 refine zcr (sp (.bool (decide ((k:Int) < s.qw.length))) (zjn (zn (cD rfl (fun h14=>?_) (fun h14=>?_)))))
 ·skip
  have q:=p0.rule (i:=k) qf
  have qc:=q.1
  have qk:=q.cell
  have qr:=q.2.1
  have q6:(s.qw[k]!).qE.toNat < 6:=by omega
  refine xw (t_n (zn (xq (zcr ?_))))
  obtain ⟨b15,o16,rfl⟩:=H.addr 1 rfl qf
  obtain ⟨ae18Need,ce18Need,Fe18Need,ae18Have,ce18Have,Fe18Have,ae18Lack,ce18Lack,Fe18Lack,ae18Here,ce18Here,Fe18Here,ae18Out,ce18Out,Fe18Out,ae18Into,ce18Into,Fe18Into,H⟩:=H.Qm 1 rfl k k qf qf qf
  refine oI rfl rfl (sw (zu [yI ((s.qw[k]!).qE),yI ((s.qw[k]!).vw),.slice ae18Need (((s.qw[k]!).xC).length) ce18Need,.slice ae18Have (((s.qw[k]!).x8).length) ce18Have,.slice ae18Lack (((s.qw[k]!).xZ).length) ce18Lack,.slice ae18Here (((s.qw[k]!).zf).length) ce18Here,.slice ae18Out (((s.qw[k]!).jb).length) ce18Out,.slice ae18Into (((s.qw[k]!).qM).length) ce18Into,.bool ((s.qw[k]!).zD)] isAgg56 sizeOf56 rfl (qH (H.get 6 rfl) 0 9) ?_))
  refine sw (xu H ti56 [yI 0,yI 0,yN,yN,yN,yN,yN,yN,.bool false] fun b19 w20 H=>sw (qV H 0 [yI ((s.qw[k]!).qE),yI ((s.qw[k]!).vw),.slice ae18Need (((s.qw[k]!).xC).length) ce18Need,.slice ae18Have (((s.qw[k]!).x8).length) ce18Have,.slice ae18Lack (((s.qw[k]!).xZ).length) ce18Lack,.slice ae18Here (((s.qw[k]!).zf).length) ce18Here,.slice ae18Out (((s.qw[k]!).jb).length) ce18Out,.slice ae18Into (((s.qw[k]!).qM).length) ce18Into,.bool ((s.qw[k]!).zD)] sizeOf56 fun w21 H=>?_))
  refine zjc (sw (zu [yI s.xk,.slice qB s.qx.length qA,.slice (aa b15 o16) s.qw.length qI] isAgg27 sizeOf27 rfl (qH (H.cells 3 rfl) 0 3) (sw (zu (yT t qY qU xH xB qO qN) isAgg31 sizeOf31 rfl (qH (H.cells 2 rfl) 0 3) ?_))))
  refine sw (zu [yI ((s.qw[k]!).qE),yI ((s.qw[k]!).vw),.slice ae18Need (((s.qw[k]!).xC).length) ce18Need,.slice ae18Have (((s.qw[k]!).x8).length) ce18Have,.slice ae18Lack (((s.qw[k]!).xZ).length) ce18Lack,.slice ae18Here (((s.qw[k]!).zf).length) ce18Here,.slice ae18Out (((s.qw[k]!).jb).length) ce18Out,.slice ae18Into (((s.qw[k]!).qM).length) ce18Into,.bool ((s.qw[k]!).zD)] isAgg56 sizeOf56 rfl (qH (H.cells 0 rfl) 0 9) ?_)
  refine sw (oq (isEnabled_ok _ s t (s.qw[k]!) (H.get 7 rfl).1 (H.get 8 rfl).1 (H.get 9 rfl).1 (H.get 10 rfl).1 (H.get 11 rfl).1 (H.get 0 rfl).1 (H.get 1 rfl).1 (H.get 2 rfl).1 (H.get 3 rfl).1 (H.get 4 rfl).1 (H.get 5 rfl).1 qg qg qg) H fun w23 H=>zjn (cP rfl (fun h25=>?_) (fun h25=>?_)))
  ·skip
   refine yU rfl H [0,2,3] fun H=>?_
   have S:=H.jA [0,2,3] [0,1,2,3,4,5,6,7,8,9,10,11]
   refine tF 0 rfl rfl S ?_
   refine tL 1 rfl rfl (fun _ h=>h.cell 0 rfl rfl) S ?_
   refine tF 2 rfl rfl S ?_
   refine tL 3 rfl rfl (fun _ h=>h.cell 0 rfl rfl) S ?_
   refine rt 4 (pp b5 (0+((s.qw[k]!).qE:Int).toNat * 1)) (y_idxArr b5 (0) 6 ((s.qw[k]!).qE) underlying131 ti2 rfl rfl qf qf) S ?_
   refine tF 6 rfl rfl S ?_
   refine tL 7 rfl rfl (fun _ h=>h.cell 0 rfl rfl) S ?_
   refine ro 5 rfl (zk (yI ((bests s t (-1) 6 k)[((s.qw[k]!).qE).toNat]!)) isAgg2 rfl (H.cell 1 rfl (ints_at (iv:=(s.qw[k]!).qE) (i:=(((s.qw[k]!).qE).toNat)) qf (by simp only [List.length_set,List.length_cons,List.length_nil,minus_len,QZ];omega))) (⟨H.pick [0,2,3] [0,1,2,3,4,5,6,7,8,9,10,11],?_⟩))
   have S:=H.jA [0,2,3] [0,1,2,3,4,5,6,7,8,9,10,11]
   refine rt 8 (yI (max ((bests s t (-1) 6 k)[((s.qw[k]!).qE).toNat]!) ((s.qw[k]!).vw))) (y_max ((bests s t (-1) 6 k)[((s.qw[k]!).qE).toNat]!) ((s.qw[k]!).vw) rfl rfl) S ?_
   refine rt 9 (pp b5 (0+((s.qw[k]!).qE:Int).toNat * 1)) (y_idxArr b5 (0) 6 ((s.qw[k]!).qE) underlying131 ti2 rfl rfl qf qf) S ?_
   refine ro 10 rfl (o_storeArr H 1 rfl (max ((bests s t (-1) 6 k)[((s.qw[k]!).qE).toNat]!) ((s.qw[k]!).vw)) sizeOf2 rfl rfl (i:=(((s.qw[k]!).qE).toNat)) qf (by simp only [List.length_set,List.length_cons,List.length_nil,minus_len,QZ];omega) fun w27 H=>⟨H.pick [0,2,3] [0,1,2,3,4,5,6,7,8,9,10,11],(xh qh (b_n (t_n (zl (sw (vg k 1 rfl rfl qf (sp (yI (k+1)) (zo ?_))))))))⟩)
   refine xn (m' :=(s.qw.length - ((k+1):Int)).toNat) qf ⟨_,k+1,((bests s t (-1) 6 k).set (((s.qw[k]!).qE).toNat) (max ((bests s t (-1) 6 k)[((s.qw[k]!).qE).toNat]!) ((s.qw[k]!).vw))),uE6,?_,?_,rfl,N,H.pick [1,2,3] [7,8,9,10,11]⟩
   · first | exact bests_set ‹_› qf | exact bests_skip ‹_›
   · omega
  refine xw (b_n (t_n (zl (sw (vg k 1 rfl rfl qf (sp (yI (k+1)) (zo (xn (m' :=(s.qw.length - ((k+1):Int)).toNat) qf ⟨_,k+1,(bests s t (-1) 6 k),uE6,?_,?_,rfl,N,H.pick [1,2,3] [7,8,9,10,11]⟩))))))))
  · first | exact bests_set ‹_› qf | exact bests_skip ‹_›
  · omega
 refine zx4 (zcr (sw (QN H underlying24 ti2 fun b28 w29 H=>sp (.slice (aa b28 0) 0 0) (zjcc (oF rfl (oL rfl (H.cell 3 rfl rfl) (oN rfl (sp (yI 0) (zjn (xq ?_))))))))))
 replace H:=H.boxRowI 0 [] 0
 refine vJ (fun m' ρ w30=>∃ (zx:Env) (QG:yOA) (yJ:Nat) (QE:Nat) (out:yLI) (i:Nat),ρ=upd (upd (upd (upd (upd (upd (upd zx 2 (pp b1 0)) 3 (pp b3 0)) 5 (pp b5 0)) 9 (.slice QG yJ QE)) 43 (.slice qJ s.qw.length qI)) 44 (yI s.qw.length)) 45 (yI i)∧out=applL s t i∧((i:Int)≤s.qw.length)∧m' =(s.qw.length - (i:Int)).toNat∧Fresh w.heap.size []∧St w w30 [rr QG yJ QE 2 1 (out.map (Value.int .i64)),.box b5 ((bests s t (-1) 6 k).map (Value.int .i64)) 131,.box b3 (yT t qY qU xH xB qO qN) 31,.box b1 (yS s qB qA qJ qI) 27] [sF false qX qB qA s.qx,sF false xG qJ qI s.qw,sF false x9 qY qU t.qC,sF false zN xH xB t.qK,sF false xM qO qN t.qG]) ((s.qw.length - (0:Int)).toNat) ⟨_,(aa b28 0),0,0,([]:yLI),0,uE7,(by rfl),qf,rfl,N,H⟩ ?_
 clear H N
 rintro m' ρ w31 ⟨zx,QG,yJ,QE,out,i,rfl,rfl,i0,rfl,N,H⟩
 have hn_out:=H.zO 0 rfl
 have ll:=applL_le s t i
 refine zcr (sp (.bool (decide ((i:Int) < s.qw.length))) (zjn (zn (cD rfl (fun h32=>?_) (fun h32=>?_)))))
 ·skip
  have q:=p0.rule (i:=i) qf
  have qc:=q.1
  have qk:=q.cell
  have qr:=q.2.1
  have q6:(s.qw[i]!).qE.toNat < 6:=by omega
  refine xw (t_n (zn (xq (zcr (sp (yI i) ?_)))))
  obtain ⟨b33,o34,rfl⟩:=H.addr 1 rfl qf
  obtain ⟨ae36Need,ce36Need,Fe36Need,ae36Have,ce36Have,Fe36Have,ae36Lack,ce36Lack,Fe36Lack,ae36Here,ce36Here,Fe36Here,ae36Out,ce36Out,Fe36Out,ae36Into,ce36Into,Fe36Into,H⟩:=H.Qm 1 rfl i i qf qf qf
  refine oI rfl rfl (sw (zu [yI ((s.qw[i]!).qE),yI ((s.qw[i]!).vw),.slice ae36Need (((s.qw[i]!).xC).length) ce36Need,.slice ae36Have (((s.qw[i]!).x8).length) ce36Have,.slice ae36Lack (((s.qw[i]!).xZ).length) ce36Lack,.slice ae36Here (((s.qw[i]!).zf).length) ce36Here,.slice ae36Out (((s.qw[i]!).jb).length) ce36Out,.slice ae36Into (((s.qw[i]!).qM).length) ce36Into,.bool ((s.qw[i]!).zD)] isAgg56 sizeOf56 rfl (qH (H.get 6 rfl) 0 9) ?_))
  refine sw (xu H ti56 [yI 0,yI 0,yN,yN,yN,yN,yN,yN,.bool false] fun b37 w38 H=>sp (yI i) ?_)
  refine sw (qV H 0 [yI ((s.qw[i]!).qE),yI ((s.qw[i]!).vw),.slice ae36Need (((s.qw[i]!).xC).length) ce36Need,.slice ae36Have (((s.qw[i]!).x8).length) ce36Have,.slice ae36Lack (((s.qw[i]!).xZ).length) ce36Lack,.slice ae36Here (((s.qw[i]!).zf).length) ce36Here,.slice ae36Out (((s.qw[i]!).jb).length) ce36Out,.slice ae36Into (((s.qw[i]!).qM).length) ce36Into,.bool ((s.qw[i]!).zD)] sizeOf56 fun w39 H=>zjn (zn ?_))
  refine y9 rfl H fun H=>tF 0 rfl rfl H ?_
  refine tL 1 rfl rfl (fun _ h=>h.cell 0 rfl rfl) H ?_
  refine tF 2 rfl rfl H ?_
  refine tL 3 rfl rfl (fun _ h=>h.cell 0 rfl rfl) H ?_
  refine rt 4 (pp b5 (0+((s.qw[i]!).qE:Int).toNat * 1)) (y_idxArr b5 (0) 6 ((s.qw[i]!).qE) underlying131 ti2 rfl rfl qf qf) H ?_
  refine tL 5 rfl rfl (fun _ h=>h.cell 2 rfl (ints_at (iv:=(s.qw[i]!).qE) (i:=(((s.qw[i]!).qE).toNat)) qf (by simp only [List.length_set,List.length_cons,List.length_nil,minus_len,QZ];omega))) H ?_
  refine rtp 6 (.bool (((s.qw[i]!).vw:Int) == ((bests s t (-1) 6 k)[((s.qw[i]!).qE).toNat]!))) H ?_
  refine rtp 7 (.bool (((s.qw[i]!).vw:Int) == ((bests s t (-1) 6 k)[((s.qw[i]!).qE).toNat]!))) H ?_
  cases h41:(((s.qw[i]!).vw:Int) == ((bests s t (-1) 6 k)[((s.qw[i]!).qE).toNat]!))
  ·skip
   replace h41:=ne_of_beq_false h41
   refine zH [8,9,10,11] 4 (H) (rtp 12 (.bool false) H ?_)
   refine xh qh (t_n (xO false rfl (fun h=>absurd h qj) (fun _=>xw (b_n (t_n (zl (sw (vg i 1 rfl rfl qf (sp (yI (i+1)) (zo (xn (m' :=(s.qw.length - ((i+1):Int)).toNat) qf ⟨_,QG,yJ,QE,(applL s t i),i+1,uE7,?_,?_,rfl,N,H.pick [1,2,3,4] [7,8,9,10,11]⟩)))))))))))
   · first | exact applL_yes (appl_yes (n:=6) (z:= -1) (k:=k) qf qf qf q6 ‹_› ‹_›) | exact applL_no (appl_no (n:=6) (z:= -1) (k:=k) qf qf qf q6 ‹_›) | exact applL_no (fun h=>‹¬ EnOk _ _ _› h.1)
   · omega
  replace h41:=eq_of_beq h41
  refine rg 8 (.agg #[yI s.xk,.slice qB s.qx.length qA,.slice (aa b33 o34) s.qw.length qI]) 57 (Qn (cs:=[yI s.xk,.slice qB s.qx.length qA,.slice (aa b33 o34) s.qw.length qI]) isAgg27 sizeOf27 rfl (fun _ h=>qH (h.cells 4 rfl) 0 3)) H ?_
  refine rg 9 (.agg #[.slice qY t.qC.length qU,.slice xH t.qK.length xB,.slice qO t.qG.length qN]) 57 (Qn (cs:=(yT t qY qU xH xB qO qN)) isAgg31 sizeOf31 rfl (fun _ h=>qH (h.cells 3 rfl) 0 3)) H ?_
  refine rg 10 (.agg #[yI ((s.qw[i]!).qE),yI ((s.qw[i]!).vw),.slice ae36Need (((s.qw[i]!).xC).length) ce36Need,.slice ae36Have (((s.qw[i]!).x8).length) ce36Have,.slice ae36Lack (((s.qw[i]!).xZ).length) ce36Lack,.slice ae36Here (((s.qw[i]!).zf).length) ce36Here,.slice ae36Out (((s.qw[i]!).jb).length) ce36Out,.slice ae36Into (((s.qw[i]!).qM).length) ce36Into,.bool ((s.qw[i]!).zD)]) 57 (Qn (cs:=[yI ((s.qw[i]!).qE),yI ((s.qw[i]!).vw),.slice ae36Need (((s.qw[i]!).xC).length) ce36Need,.slice ae36Have (((s.qw[i]!).x8).length) ce36Have,.slice ae36Lack (((s.qw[i]!).xZ).length) ce36Lack,.slice ae36Here (((s.qw[i]!).zf).length) ce36Here,.slice ae36Out (((s.qw[i]!).jb).length) ce36Out,.slice ae36Into (((s.qw[i]!).qM).length) ce36Into,.bool ((s.qw[i]!).zD)]) isAgg56 sizeOf56 rfl (fun _ h=>qH (h.cells 0 rfl) 0 9)) H ?_
  refine zI [11] qh qm (r_opG rfl (e:=57) rfl rfl (oq (isEnabled_ok _ s t (s.qw[i]!) (H.get 7 rfl).1 (H.get 8 rfl).1 (H.get 9 rfl).1 (H.get 10 rfl).1 (H.get 11 rfl).1 (H.get 0 rfl).1 (H.get 1 rfl).1 (H.get 2 rfl).1 (H.get 3 rfl).1 (H.get 4 rfl).1 (H.get 5 rfl).1 qg qg qg) H fun w43 H=>⟨H,(rtp 12 (.bool (dec (EnOk s t (s.qw[i]!)))) H ?_)⟩) zJ)
  refine xh qh (t_n (cP rfl (fun h45=>?_) (fun h45=>?_)))
  ·skip
   refine zl (sps [.slice QG yJ QE,yI i] (sw (vz H underlying24 ti2 [yI i] fun b46 w47 H=>sw (vM H 2 rfl 0 rfl underlying24 ti2 rfl qj rfl rfl rfl (by simp [Value.oneCell',Value.cells]) qp qf fun a48 c49 w50 H=>?_))))
   rw [snocI] at H
   refine sp (.slice a48 (yJ+1) c49) (zo (b_n (t_n (zl (sw (vg i 1 rfl rfl qf (sp (yI (i+1)) (zo (xn (m' :=(s.qw.length - ((i+1):Int)).toNat) qf ⟨_,a48,yJ+1,c49,((applL s t i)++[(i:Int)]),i+1,uE7,?_,?_,rfl,N,H.pick [2,3,4,5] [7,8,9,10,11]⟩)))))))))
   · first | exact applL_yes (appl_yes (n:=6) (z:= -1) (k:=k) qf qf qf q6 ‹_› ‹_›) | exact applL_no (appl_no (n:=6) (z:= -1) (k:=k) qf qf qf q6 ‹_›) | exact applL_no (fun h=>‹¬ EnOk _ _ _› h.1)
   · omega
  refine xw (b_n (t_n (zl (sw (vg i 1 rfl rfl qf (sp (yI (i+1)) (zo (xn (m' :=(s.qw.length - ((i+1):Int)).toNat) qf ⟨_,QG,yJ,QE,(applL s t i),i+1,uE7,?_,?_,rfl,N,H.pick [1,2,3,4] [7,8,9,10,11]⟩))))))))
  · first | exact applL_yes (appl_yes (n:=6) (z:= -1) (k:=k) qf qf qf q6 ‹_› ‹_›) | exact applL_no (appl_no (n:=6) (z:= -1) (k:=k) qf qf qf q6 ‹_›) | exact applL_no (fun h=>‹¬ EnOk _ _ _› h.1)
  · omega
 refine zx4 (zcr (sps [.slice QG yJ QE,.slice QG yJ QE] (zjr (ret1 (.slice QG yJ QE) rfl rfl ⟨_,rfl,?_,H.base⟩))))
 obtain rfl:i=s.qw.length:=by omega
 exact ⟨QG,yJ,QE,rfl,N,H.pick [0] []⟩
theorem firstChoice_ok (w:World) (s:qy) (t:qF) {qB:yOA} {qX:yLN} {qJ:yOA} {xG:yLN} {qY:yOA} {x9:yLN} {xH:yOA} {zN:yLN} {qO:yOA} {xM:yLN} (qP:qW.rep w qX [.slice qB s.qx.length qA] s.qx) (xx:qW.rep w xG [.slice qJ s.qw.length qI] s.qw) (xY:qW.rep w x9 [.slice qY t.qC.length qU] t.qC) (zG:qW.rep w zN [.slice xH t.qK.length xB] t.qK) (xJ:qW.rep w xM [.slice qO t.qG.length qN] t.qG) (p0:jB s) (p1:xW s t):Calls Tryz.prog 52 #[.agg #[yI s.xk,.slice qB s.qx.length qA,.slice qJ s.qw.length qI],.agg #[.slice qY t.qC.length qU,.slice xH t.qK.length xB,.slice qO t.qG.length qN]] w (Ret (fun v w' =>∃ (ra:yOA) (rn:Nat) (rc:Nat),v=.slice ra rn rc∧Fresh w.heap.size []∧St w w' [rr ra rn rc 2 1 ((xX s t).map (Value.int .i64))] []) w):=by
 refine en func52 ntmps52 ?_
 have H:=(((((St.start w).arg xJ).arg zG).arg xY).arg xx).arg qP
 have zS:=qQ qP
 have jv:=qQ xx
 have Qe:=qQ xY
 have QI:=qQ zG
 have yg:=qQ xJ
 clear qP xx xY zG xJ
 have N:=Fresh.nil w.heap.size
 have p3:=p0.2.1
 have p7:=p1.2.1
 have p8:=kinds_le p0
 have p9:=p0.1.2.1
 have p11:vK s=s.qx.length:=rfl
 refine zcr (sw (jT H (yS s qB qA qJ qI) fun b1 w2 H=>sw (jT H (yT t qY qU xH xB qO qN) fun b3 w4 H=>sp yN (zjn (zn ?_)))))
 refine c_cut (fun ρ w10=>∃ (zx:Env) (b5:Nat) (ra6:yOA) (rc7:Nat) (rx8:List Value) (rF9:yLN),ρ=upd (upd (upd (upd zx 2 (pp b1 0)) 3 (pp b3 0)) 5 (.slice (aa b5 0) s.qw.length s.qw.length)) 6 (.slice ra6 t.qK.length rc7)∧Fresh w.heap.size []∧St w w10 [rr ra6 t.qK.length rc7 24 1 rx8,rr (aa b5 0) s.qw.length s.qw.length 2 1 ((List.replicate s.qw.length (0:Int)).map (Value.int .i64)),.box b3 (yT t qY qU xH xB qO qN) 31,.box b1 (yS s qB qA qJ qI) 27] [xe false rF9 rx8 t.qK,sF false qX qB qA s.qx,sF false xG qJ qI s.qw,sF false x9 qY qU t.qC,sF false zN xH xB t.qK,sF false xM qO qN t.qG]) ?_ ?_
 ·skip
  refine y9 rfl H fun H=>tF 0 rfl rfl H ?_
  refine tL 1 rfl rfl (fun _ h=>h.cell 1 rfl rfl) H ?_
  refine tN 2 rfl rfl H ?_
  refine tF 4 rfl rfl H ?_
  refine tL 5 rfl rfl (fun _ h=>h.cell 0 rfl rfl) H ?_
  refine zI [3,6] qh qm (vk rfl ?_ (vk rfl ?_ zJ))
  ·skip
   refine zh H underlying24 ti2 s.qw.length rfl rfl qf qf qf fun b12 w13 H=>⟨H.pick [1,2] [0,1,2,3,4],(ro 6 rfl ?_)⟩
   have sz17:=H.base.size
   refine oc (cloneSS_ok _ t.qK (H.get 3 rfl).1 qg) ?_
   rintro _ w15 ⟨ra14,rn14,rc14,rx14,rF14,rfl,hG19,K⟩ _
   replace H:=H.mergeIn K 3 rfl hG19
   obtain rfl:=H.zi (α:=yLI) 0 rfl 0 rfl qj
   refine ⟨H.pick [2,3] [1,2,3,4,5],?_⟩
   have S:=H.jA [2,3] [1,2,3,4,5]
   refine rtp 7 (.slice (aa b12 0) s.qw.length s.qw.length) S ?_
   refine rtp 8 (.slice ra14 t.qK.length rc14) S ?_
   refine xh qh ((meet ⟨_,b12,ra14,rc14,rx14,rF14,uE4,N,H⟩))
  have sz23:=H.base.size
  refine oc (cloneSS_ok _ t.qK (H.get 3 rfl).1 qg) ?_
  rintro _ w21 ⟨ra20,rn20,rc20,rx20,rF20,rfl,hG25,K⟩ _
  replace H:=H.mergeIn K 3 rfl hG25
  obtain rfl:=H.zi (α:=yLI) 0 rfl 0 rfl qj
  refine ⟨H.pick [1,2] [1,2,3,4,5],(ro 3 rfl (zh H underlying24 ti2 s.qw.length rfl rfl qf qf qf fun b26 w27 H=>⟨H.pick [2,3] [1,2,3,4,5],?_⟩))⟩
  have S:=H.jA [2,3] [1,2,3,4,5]
  refine rtp 7 (.slice (aa b26 0) s.qw.length s.qw.length) S ?_
  refine rtp 8 (.slice ra20 t.qK.length rc20) S ?_
  refine xh qh ((meet ⟨_,b26,ra20,rc20,rx20,rF20,uE4,N,H.pick [1,0,2,3] [0,1,2,3,4,5]⟩))
 clear H N
 rintro ρ w28 ⟨zx,b5,ra6,rc7,rx8,rF9,rfl,N,H⟩
 refine t_n (zcc (sw (zu (yS s qB qA qJ qI) isAgg27 sizeOf27 rfl (qH (H.cells 3 rfl) 0 3) (sw (zu (yT t qY qU xH xB qO qN) isAgg31 sizeOf31 rfl (qH (H.cells 2 rfl) 0 3) ?_)))))
 have sz32:=H.base.size
 refine sw (oc (applicable_ok _ s t (H.get 1 rfl).1 (H.get 2 rfl).1 (H.get 3 rfl).1 (H.get 4 rfl).1 (H.get 5 rfl).1 qg qg) ?_)
 rintro _ w30 ⟨ra29,rn29,rc29,rfl,M,K⟩ _
 replace H:=H.merge K M
 obtain rfl:=H.zO 0 rfl
 have al:(appls s t).length≤s.qw.length:=applL_le s t s.qw.length
 refine oN rfl (sp (yI 0) (zjn (xq ?_)))
 refine vJ (fun m' ρ w35=>∃ (zx:Env) (k:Nat) (rest:yLL) (Xv:List Value) (Q3:yLN) (out:yLI) (m:Nat),ρ=upd (upd (upd (upd (upd (upd zx 2 (pp b1 0)) 5 (.slice (aa b5 0) s.qw.length s.qw.length)) 6 (.slice ra6 t.qK.length rc7)) 19 (.slice ra29 ((appls s t).length) rc29)) 20 (yI ((appls s t).length))) 21 (yI k)∧rest=zW s t m∧out=firstTo s t m s.qw.length∧((k:Int)≤((appls s t).length))∧((applL s t m).length=k)∧(m≤s.qw.length)∧m' =(((appls s t).length) - (k:Int)).toNat∧Fresh w.heap.size []∧St w w35 [rr ra29 ((appls s t).length) rc29 2 1 ((appls s t).map (Value.int .i64)),rr ra6 t.qK.length rc7 24 1 Xv,rr (aa b5 0) s.qw.length s.qw.length 2 1 (out.map (Value.int .i64)),.box b3 (yT t qY qU xH xB qO qN) 31,.box b1 (yS s qB qA qJ qI) 27] [xe false Q3 Xv rest,sF false qX qB qA s.qx,sF false xG qJ qI s.qw,sF false x9 qY qU t.qC,sF false zN xH xB t.qK,sF false xM qO qN t.qG]) ((((appls s t).length) - (0:Int)).toNat) ⟨_,0,t.qK,rx8,rF9,(List.replicate s.qw.length (0:Int)),0,uE6,(by rfl),(by exact firstTo_zero s t _),qf,(by rfl),qf,rfl,N,H⟩ ?_
 clear H N
 rintro m' ρ w36 ⟨zx,k,rest,Xv,Q3,out,m,rfl,rfl,rfl,i0,hm,hn,rfl,N,H⟩
 have hn_rest:=H.zi (α:=yLI) 1 rfl 0 rfl qj
 have hn_out:=H.zO 2 rfl
 refine zcr (sp (.bool (decide ((k:Int) < ((appls s t).length)))) (zjn (zn (cD rfl (fun h37=>?_) (fun h37=>?_)))))
 ·skip
  obtain ⟨a0,a1,a2,a3,a4,a5⟩:=appls_at' hm hn qf
  have q:=p0.rule (i:=((appls s t)[k]!).toNat) qf
  have qc:=q.1
  have qk:=q.cell
  have qr:=q.2.1
  have bn1:=q.2.2.2.2.1
  have rl:=(firstR_box p0 p1 m qf).1
  have fl:=jy s t m s.qw.length
  have ex:((firstTo s t m s.qw.length).set ((appls s t)[k]!).toNat (Qd (s.qw[((appls s t)[k]!).toNat]!).xC ((zW s t m)[(s.qw[((appls s t)[k]!).toNat]!).qE.toNat]!)))[((appls s t)[k]!).toNat]! =(Qd (s.qw[((appls s t)[k]!).toNat]!).xC ((zW s t m)[(s.qw[((appls s t)[k]!).toNat]!).qE.toNat]!)):=by rw [getset (by rw [jy];omega),if_pos rfl]
  have xb:=firstC_bd p0 p1 (k:=((appls s t)[k]!).toNat) a2
  rw [← firstC_step a1 a3 a4] at xb
  refine xw (t_n (zn (xq (zcr ?_))))
  obtain ⟨b38,rfl⟩:=H.QQ 0 rfl qf
  refine oI rfl rfl (oL rfl (H.rowInt 0 rfl (iv:=k) (i:=k) qf qf) (sp (yI ((appls s t)[k]!)) (zjc (oF rfl (oL rfl (H.cell 4 rfl rfl) (sp (yI ((appls s t)[k]!)) ?_))))))
  obtain ⟨b39,o40,rfl⟩:=H.addr 2 rfl qf
  obtain ⟨ae42Need,ce42Need,Fe42Need,ae42Have,ce42Have,Fe42Have,ae42Lack,ce42Lack,Fe42Lack,ae42Here,ce42Here,Fe42Here,ae42Out,ce42Out,Fe42Out,ae42Into,ce42Into,Fe42Into,H⟩:=H.Qm 2 rfl ((appls s t)[k]!) (((appls s t)[k]!).toNat) qf qf qf
  refine oI rfl rfl ?_
  refine sw (zu [yI ((s.qw[((appls s t)[k]!).toNat]!).qE),yI ((s.qw[((appls s t)[k]!).toNat]!).vw),.slice ae42Need (((s.qw[((appls s t)[k]!).toNat]!).xC).length) ce42Need,.slice ae42Have (((s.qw[((appls s t)[k]!).toNat]!).x8).length) ce42Have,.slice ae42Lack (((s.qw[((appls s t)[k]!).toNat]!).xZ).length) ce42Lack,.slice ae42Here (((s.qw[((appls s t)[k]!).toNat]!).zf).length) ce42Here,.slice ae42Out (((s.qw[((appls s t)[k]!).toNat]!).jb).length) ce42Out,.slice ae42Into (((s.qw[((appls s t)[k]!).toNat]!).qM).length) ce42Into,.bool ((s.qw[((appls s t)[k]!).toNat]!).zD)] isAgg56 sizeOf56 rfl (qH (H.get 6 rfl) 0 9) ?_)
  refine sw (xu H ti56 [yI 0,yI 0,yN,yN,yN,yN,yN,yN,.bool false] fun b43 w44 H=>?_)
  refine sw (qV H 0 [yI ((s.qw[((appls s t)[k]!).toNat]!).qE),yI ((s.qw[((appls s t)[k]!).toNat]!).vw),.slice ae42Need (((s.qw[((appls s t)[k]!).toNat]!).xC).length) ce42Need,.slice ae42Have (((s.qw[((appls s t)[k]!).toNat]!).x8).length) ce42Have,.slice ae42Lack (((s.qw[((appls s t)[k]!).toNat]!).xZ).length) ce42Lack,.slice ae42Here (((s.qw[((appls s t)[k]!).toNat]!).zf).length) ce42Here,.slice ae42Out (((s.qw[((appls s t)[k]!).toNat]!).jb).length) ce42Out,.slice ae42Into (((s.qw[((appls s t)[k]!).toNat]!).qM).length) ce42Into,.bool ((s.qw[((appls s t)[k]!).toNat]!).zD)] sizeOf56 fun w45 H=>?_)
  refine zjn (zn ?_)
  refine yU rfl H [0,1,2,4,5] fun H=>?_
  have S:=H.jA [0,1,2,4,5] [0,1,2,3,4,5,6,7,8,9,10,11,12]
  refine rtp 0 (.slice (aa b5 0) s.qw.length s.qw.length) S ?_
  refine rtp 1 (yI ((appls s t)[k]!)) S ?_
  refine tF 2 rfl rfl S ?_
  refine tL 3 rfl rfl (fun _ h=>h.cell 0 rfl rfl) S ?_
  refine rtp 4 (.slice ra6 t.qK.length rc7) S ?_
  refine tF 5 rfl rfl S ?_
  refine tL 6 rfl rfl (fun _ h=>h.cell 0 rfl rfl) S ?_
  obtain ⟨b47,rfl⟩:=H.QQ 2 rfl qf
  refine tI 7 rfl rfl rfl (H.pick [0,1,2,4,5] [0,1,2,3,4,5,6,7,8,9,10,11,12]) ?_
  refine ro 8 rfl ?_
  obtain ⟨a48,c49,G50,s51,h52,H⟩:=H.jI 2 rfl 7 rfl (iv:=(s.qw[((appls s t)[k]!).toNat]!).qE) (((s.qw[((appls s t)[k]!).toNat]!).qE).toNat) qf qf
  refine zk (.slice a48 (((zW s t m)[((s.qw[((appls s t)[k]!).toNat]!).qE).toNat]!).length) c49) isAgg24 rfl (h52) (⟨H.pick [0,1,2,4,5] [1,2,3,4,5,6,7,8,9,10,11,12,13],(ro 9 rfl ?_)⟩)
  obtain ⟨u1,u2,u5⟩:=firstR_row (c:=(s.qw[((appls s t)[k]!).toNat]!).qE.toNat) p0 p1 (show m≤_ by omega) qk
  have u3:=bn1.len
  have u6:∀ q,q < ((s.qw[((appls s t)[k]!).toNat]!).xC).length→0≤((zW s t m)[(s.qw[((appls s t)[k]!).toNat]!).qE.toNat]!)[q]! ∧((zW s t m)[(s.qw[((appls s t)[k]!).toNat]!).qE.toNat]!)[q]! ≤1000:=fun q hq=>u5 q qf
  refine oq (timesIn_ok _ ((s.qw[((appls s t)[k]!).toNat]!).xC) ((zW s t m)[((s.qw[((appls s t)[k]!).toNat]!).qE).toNat]!) (H.get 1 rfl).1 (H.get 0 rfl).1 qg qg) H fun w54 H=>⟨H.pick [0,1,2,4,5] [1,2,3,4,5,6,7,8,9,10,11,12,13],(tI 10 rfl rfl rfl (H.pick [0,1,2,4,5] [1,2,3,4,5,6,7,8,9,10,11,12,13]) ?_)⟩
  refine ro 11 rfl (o_storeInt H 3 rfl (Qd ((s.qw[((appls s t)[k]!).toNat]!).xC) ((zW s t m)[((s.qw[((appls s t)[k]!).toNat]!).qE).toNat]!)) sizeOf2 rfl rfl (i:=(((appls s t)[k]!).toNat)) qf qf fun w56 H=>⟨H.pick [0,1,2,4,5] [1,2,3,4,5,6,7,8,9,10,11,12,13],(xh qh (t_n ?_))⟩)
  refine yU rfl H [0,1,3,4,5] fun H=>?_
  have S:=H.jA [0,1,3,4,5] [0,1,2,3,4,5,6,7,8,9,10,11,12,13]
  refine rtp 0 (.slice (aa b47 0) t.qK.length rc7) S ?_
  refine tF 1 rfl rfl S ?_
  refine tL 2 rfl rfl (fun _ h=>h.cell 0 rfl rfl) S ?_
  refine rtp 3 (.slice (aa b47 0) t.qK.length rc7) S ?_
  refine tF 4 rfl rfl S ?_
  refine tL 5 rfl rfl (fun _ h=>h.cell 0 rfl rfl) S ?_
  refine tI 6 rfl rfl rfl S ?_
  refine tF 8 rfl rfl S ?_
  refine tL 9 rfl rfl (fun _ h=>h.cell 0 rfl rfl) S ?_
  refine rtp 10 (.slice (aa b5 0) s.qw.length s.qw.length) S ?_
  refine rtp 11 (yI ((appls s t)[k]!)) S ?_
  refine tI 12 rfl rfl rfl S ?_
  refine tL 13 rfl rfl (fun _ h=>h.rowInt 2 rfl (iv:=(appls s t)[k]!) (i:=(((appls s t)[k]!).toNat)) qf qf) S ?_
  refine rt 14 (yI (-(((firstTo s t m s.qw.length).set (((appls s t)[k]!).toNat) (Qd ((s.qw[((appls s t)[k]!).toNat]!).xC) ((zW s t m)[((s.qw[((appls s t)[k]!).toNat]!).qE).toNat]!)))[((appls s t)[k]!).toNat]!))) (y_neg (((firstTo s t m s.qw.length).set (((appls s t)[k]!).toNat) (Qd ((s.qw[((appls s t)[k]!).toNat]!).xC) ((zW s t m)[((s.qw[((appls s t)[k]!).toNat]!).qE).toNat]!)))[((appls s t)[k]!).toNat]!) rfl qf) S ?_
  refine ro 7 rfl ?_
  obtain ⟨a58,c59,G60,s61,h62,H⟩:=H.jI 2 rfl 8 rfl (iv:=(s.qw[((appls s t)[k]!).toNat]!).qE) (((s.qw[((appls s t)[k]!).toNat]!).qE).toNat) qf qf
  refine zk (.slice a58 (((zW s t m)[((s.qw[((appls s t)[k]!).toNat]!).qE).toNat]!).length) c59) isAgg24 rfl (h62) (⟨H.pick [0,1,3,4,5] [1,2,3,4,5,6,7,8,9,10,11,12,13,14],(ro 15 rfl ?_)⟩)
  obtain ⟨u1,u2,u5⟩:=firstR_row (c:=(s.qw[((appls s t)[k]!).toNat]!).qE.toNat) p0 p1 (show m≤_ by omega) qk
  have u3:=bn1.len
  have u4:=bn1.yf (t:= -(((firstTo s t m s.qw.length).set ((appls s t)[k]!).toNat (Qd (s.qw[((appls s t)[k]!).toNat]!).xC ((zW s t m)[(s.qw[((appls s t)[k]!).toNat]!).qE.toNat]!)))[((appls s t)[k]!).toNat]!)) qf
  have sz63:=H.base.size
  refine oc (plus_ok _ ((zW s t m)[((s.qw[((appls s t)[k]!).toNat]!).qE).toNat]!) ((s.qw[((appls s t)[k]!).toNat]!).xC) (-(((firstTo s t m s.qw.length).set (((appls s t)[k]!).toNat) (Qd ((s.qw[((appls s t)[k]!).toNat]!).xC) ((zW s t m)[((s.qw[((appls s t)[k]!).toNat]!).qE).toNat]!)))[((appls s t)[k]!).toNat]!)) (H.get 0 rfl).1 (H.get 2 rfl).1 qg qg qg) ?_
  rintro v68 w66 r68 x67
  replace H:=H.zt x67 r68
  obtain ⟨a69,c70,rfl,hc71,hm72⟩:=H.jS 0 rfl
  refine ⟨H.pick [1,2,4,5,6] [1,2,3,4,5,6,7,8,9,10,11,12,13,14],(tI 16 rfl rfl rfl (H.pick [1,2,4,5,6] [1,2,3,4,5,6,7,8,9,10,11,12,13,14]) ?_)⟩
  refine ro 17 rfl ?_
  obtain ⟨G74,N,hn75,H⟩:=H.zV 0 rfl N (H.yK [])
  refine jw false H 3 rfl 10 rfl (.slice a69 ((jR ((zW s t m)[((s.qw[((appls s t)[k]!).toNat]!).qE).toNat]!) ((s.qw[((appls s t)[k]!).toNat]!).xC) (-(((firstTo s t m s.qw.length).set (((appls s t)[k]!).toNat) (Qd ((s.qw[((appls s t)[k]!).toNat]!).xC) ((zW s t m)[((s.qw[((appls s t)[k]!).toNat]!).qE).toNat]!)))[((appls s t)[k]!).toNat]!))).length) c70) 0 rfl rfl sizeOf24 rfl rfl (i:=(((s.qw[((appls s t)[k]!).toNat]!).qE).toNat)) qf qf qm fun w73 xs76 F77 hs78 H=>⟨H.pick [1,2,4,5,6] [3,4,5,6,7,8,9,10,11,12,13,14,15,16],(xh qh (b_n (t_n (zl ?_))))⟩
  refine sw (vg k 1 rfl rfl qf (sp (yI (k+1)) (zo ?_)))
  refine xn (m' :=(((appls s t).length) - ((k+1):Int)).toNat) qf ⟨_,k+1,((zW s t m).set (((s.qw[((appls s t)[k]!).toNat]!).qE).toNat) (jR ((zW s t m)[((s.qw[((appls s t)[k]!).toNat]!).qE).toNat]!) ((s.qw[((appls s t)[k]!).toNat]!).xC) (-(((firstTo s t m s.qw.length).set (((appls s t)[k]!).toNat) (Qd ((s.qw[((appls s t)[k]!).toNat]!).xC) ((zW s t m)[((s.qw[((appls s t)[k]!).toNat]!).qE).toNat]!)))[((appls s t)[k]!).toNat]!)))),xs76,F77,((firstTo s t m s.qw.length).set (((appls s t)[k]!).toNat) (Qd ((s.qw[((appls s t)[k]!).toNat]!).xC) ((zW s t m)[((s.qw[((appls s t)[k]!).toNat]!).qE).toNat]!))),((appls s t)[k]!).toNat+1,uE6,?_,?_,?_,?_,?_,rfl,(N.pick []),H.pick [2,3,4,5,6] [0,12,13,14,15,16]⟩
  · exact firstR_step a1 a2 a3 a4 ex
  · exact firstTo_set a1 a2 a4 (firstC_step a1 a3 a4)
  · omega
  · exact a5
  · exact a2
 refine zx4 (zcr (sps [.slice (aa b5 0) s.qw.length s.qw.length,.slice (aa b5 0) s.qw.length s.qw.length] (zjr (ret1 (.slice (aa b5 0) s.qw.length s.qw.length) rfl rfl ⟨_,rfl,?_,H.base⟩))))
 rw [firstTo_end hn (appls_end hm hn qf)] at H
 exact ⟨(aa b5 0),s.qw.length,s.qw.length,rfl,N,H.pick [2] []⟩
end
end Go.Proofs.YtcpnclokildllaaGreat
