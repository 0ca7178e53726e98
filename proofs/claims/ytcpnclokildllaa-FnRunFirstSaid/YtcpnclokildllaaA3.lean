/- Walks and laws, printed by program and by hand: what each function comes to, for all arguments, part 3. -/
import Derived.Test.YtcpnclokildllaaA2
namespace Go.Proofs.Ytcpnclokildllaa
set_option linter.unusedVariables false
set_option linter.unusedSimpArgs false
open Go.Proofs.Ytcpnclokildllaa.Tot (tot)
open Go.Proofs.Ytcpnclokildllaa.Mark (cnt mrk mkd mkd_mark cnt_mark)
section
open Go.Proofs.Try
open Go.RowKit
set_option linter.unusedVariables false
set_option linter.unusedSimpArgs false
set_option maxRecDepth 100000
set_option maxHeartbeats 4000000
variable {cl cm bs os qA qJ bt ot qR xA qN yc yh yf yg QG jP ccounts : Nat}
theorem l00Max_ok (w:World) (a:Int) (b:Int):Calls Try.prog 117 #[yI a,yI b] w (Ret (fun v w' =>v=yI (max a b)) w):=by
 refine en func117 ntmps117 ?_
 have H:=St.start w
 have N:=Fresh.nil w.heap.size
 refine zcr (sp (yI 0) (zjcc (sps [yI a,yI b,.bool (decide ((a:Int) > b))] (zjn (cD rfl (fun h1=>?_) (fun h1=>?_))))))
 ·skip
  refine zcr (sps [yI a,yI a] (zjr (t_r (ret1 (yI a) rfl rfl ⟨_,rfl,(congrArg (Value.int .i64) ?_),H.base⟩))))
  omega
 refine xx (t_n (zcr (sps [yI b,yI b] (zjr (ret1 (yI b) rfl rfl ⟨_,rfl,(congrArg (Value.int .i64) ?_),H.base⟩)))))
 omega

theorem l01Within_ok (w:World) (l:yLI) (m:yLI) {al:yOA} {Fl:yLN} {am:yOA} {Fm:yLN} (hl:qU.rep w Fl [.slice al l.length cl] l) (hm:qU.rep w Fm [.slice am m.length cm] m) (p0:l.length≤m.length):Calls Try.prog 122 #[.slice al l.length cl,.slice am m.length cm] w (Ret (fun v w' =>v=.bool (within l m)) w):=by
 refine en func122 ntmps122 ?_
 have H:=((St.start w).arg hm).arg hl
 have nhl:=qP hl
 have nhm:=qP hm
 clear hl hm
 have N:=Fresh.nil w.heap.size
 refine zcr (sp (.bool false) (zjcc (sp (yI 0) (zjn (xw ?_)))))
 refine vJ (fun m' ρ w1=>∃ (zB:Env) (i:Nat),ρ=upd (upd (upd zB 0 (.slice al l.length cl)) 1 (.slice am m.length cm)) 5 (yI i)∧((i:Int)≤l.length)∧(withinTo l m i)∧m' =(l.length - (i:Int)).toNat∧Fresh w.heap.size []∧St w w1 [] [sF false Fl al cl l,sF false Fm am cm m]) ((l.length - (0:Int)).toNat) ⟨_,0,uE3,qf,(by exact withinTo_zero l m),rfl,N,H⟩ ?_
 clear H N
 rintro m' ρ w2 ⟨zB,i,rfl,i0,i1,rfl,N,H⟩
 refine zcc (sps [yI i,.slice al l.length cl] (oN rfl (sp (.bool (decide ((i:Int) < l.length))) (zjn (cD rfl (fun h3=>?_) (fun h3=>?_))))))
 ·skip
  refine xx (t_n (zn (xw (zn ?_))))
  refine yF rfl H fun H=>rtp 0 (.slice al l.length cl) H ?_
  refine rtp 1 (yI i) H ?_
  obtain ⟨b5,o6,rfl⟩:=H.addr 0 rfl qf
  refine tI 2 rfl rfl rfl H ?_
  refine tL 3 rfl rfl (fun _ h=>h.Qs 0 rfl i qf) H ?_
  refine rtp 4 (.slice am m.length cm) H ?_
  refine rtp 5 (yI i) H ?_
  obtain ⟨b8,o9,rfl⟩:=H.addr 1 rfl qf
  refine tI 6 rfl rfl rfl H ?_
  refine tL 7 rfl rfl (fun _ h=>h.Qs 1 rfl i qf) H ?_
  refine rtp 8 (.bool (decide ((l[i]! :Int) > (m[i]!)))) H ?_
  refine qZ qh (t_n (cD rfl (fun h11=>?_) (fun h11=>?_)))
  ·skip
   refine zcr (sp (.bool false) (zjr (zr5 (ret1 (.bool false) rfl rfl ⟨_,rfl,?_,H.base⟩))))
   rw [within_no (k:=i) ‹_› qf]
  refine xx (b_n (t_n (zk (sp (yI i) (sw (zX i 1 rfl rfl qf (sp (yI (i+1)) (zt (xu (m' :=(l.length - ((i+1):Int)).toNat) qf ⟨_,i+1,uE3,?_,?_,rfl,N,H⟩)))))))))
  · omega
  · exact withinTo_succ ‹_› qf
 refine zx4 (zcr (sp (.bool true) (zjr (ret1 (.bool true) rfl rfl ⟨_,rfl,?_,H.base⟩))))
 rw [within_yes ‹_› qf]

theorem l01Times_ok (w:World) (l:yLI) (m:yLI) {al:yOA} {Fl:yLN} {am:yOA} {Fm:yLN} (hl:qU.rep w Fl [.slice al l.length cl] l) (hm:qU.rep w Fm [.slice am m.length cm] m) (p0:l.length≤m.length) (p2:∀ k,k < l.length→0≤m[k]! ∧m[k]! ≤1000) (p3:∃ j,j < l.length∧0 < l[j]!):Calls Try.prog 100 #[.slice al l.length cl,.slice am m.length cm] w (Ret (fun v w' =>v=yI (y8 l m)) w):=by
 refine en func100 ntmps100 ?_
 have H:=((St.start w).arg hm).arg hl
 have nhl:=qP hl
 have nhm:=qP hm
 clear hl hm
 have N:=Fresh.nil w.heap.size
 refine zcr (sp (yI 0) (zjc (sp (yI (-1)) (zjcc (sp (yI 0) (zjn (xw ?_)))))))
 refine vJ (fun m' ρ w1=>∃ (zB:Env) (best:Int) (i:Nat),ρ=upd (upd (upd (upd zB 0 (.slice al l.length cl)) 1 (.slice am m.length cm)) 5 (yI best)) 6 (yI i)∧((i:Int)≤l.length)∧(QM l m i best)∧m' =(l.length - (i:Int)).toNat∧Fresh w.heap.size []∧St w w1 [] [sF false Fl al cl l,sF false Fm am cm m]) ((l.length - (0:Int)).toNat) ⟨_,(-1),0,uE4,qf,(by exact QM.zero l m),rfl,N,H⟩ ?_
 clear H N
 rintro m' ρ w2 ⟨zB,best,i,rfl,i0,i1,rfl,N,H⟩
 refine zcc (sps [yI i,.slice al l.length cl] (oN rfl (sp (.bool (decide ((i:Int) < l.length))) (zjn (cD rfl (fun h3=>?_) (fun h3=>?_))))))
 ·skip
  refine xx (t_n (zn (xw (zn ?_))))
  refine yF rfl H fun H=>rtp 0 (.slice al l.length cl) H ?_
  refine rtp 1 (yI i) H ?_
  obtain ⟨b5,o6,rfl⟩:=H.addr 0 rfl qf
  refine tI 2 rfl rfl rfl H ?_
  refine tL 3 rfl rfl (fun _ h=>h.Qs 0 rfl i qf) H ?_
  refine rtp 4 (.bool (decide ((l[i]! :Int) > 0))) H ?_
  refine rtp 5 (.bool (decide ((l[i]! :Int) > 0))) H ?_
  cases h8:(decide ((l[i]! :Int) > 0))
  ·skip
   replace h8:=of_decide_eq_false h8
   refine zC [6,7,8,9,10,11,12,13,14,15,16,17,18,19,20] 15 (H) (rtp 21 (.bool false) H ?_)
   refine qZ qh (t_n (xW false rfl (fun h=>absurd h qj) (fun _=>xx (b_n (t_n (zk (sp (yI i) (sw (zX i 1 rfl rfl (by (have:=p2 i qf;omega)) (sp (yI (i+1)) (zt (xu (m' :=(l.length - ((i+1):Int)).toNat) qf ⟨_,best,i+1,uE4,?_,?_,rfl,N,H⟩))))))))))))
   · omega
   · first | exact i1.take (p2 i qf) qf qf (XF (fun k hk=>(p2 k hk).1) i qf).1 | exact i1.keep qf | exact i1.keep2 qf qf qf
  replace h8:=of_decide_eq_true h8
  refine rgp 6 (yI best) 18 H ?_
  refine rgp 7 (.bool (decide ((best:Int) < 0))) 18 H ?_
  refine rgp 8 (.bool (decide ((best:Int) < 0))) 18 H ?_
  cases h9:(decide ((best:Int) < 0))
  ·skip
   replace h9:=of_decide_eq_false h9
   refine rgp 9 (.slice am m.length cm) 21 H ?_
   refine rgp 10 (yI i) 21 H ?_
   obtain ⟨b10,o11,rfl⟩:=H.addr 1 rfl qf
   refine gI 11 rfl rfl rfl H ?_
   refine gL 12 rfl rfl (fun _ h=>h.yE 1 rfl i qf qf) H ?_
   refine rgp 13 (.slice (aa b5 o6) l.length cl) 21 H ?_
   refine rgp 14 (yI i) 21 H ?_
   refine gI 15 rfl rfl rfl H ?_
   refine gL 16 rfl rfl (fun _ h=>h.yE 0 rfl i qf qf) H ?_
   refine rg 17 (yI ((m[i]!) / (l[i]!))) 21 (y_quo (m[i]!) (l[i]!) rfl rfl (by (have:=p2 i qf;omega)) (by (have:=p2 i qf;omega))) H ?_
   refine rgp 18 (yI best) 21 H ?_
   refine rgp 19 (.bool (decide (((m[i]!) / (l[i]!):Int) < best))) 21 H ?_
   refine rgp 20 (.bool (decide (((m[i]!) / (l[i]!):Int) < best))) 18 H ?_
   refine rtp 21 (.bool (decide (((m[i]!) / (l[i]!):Int) < best))) H ?_
   refine qZ qh (t_n (cD rfl (fun h13=>?_) (fun h13=>?_)))
   ·skip
    refine yF rfl H fun H=>rtp 0 (.slice (aa b10 o11) m.length cm) H ?_
    refine rtp 1 (yI i) H ?_
    refine tI 2 rfl rfl rfl H ?_
    refine tL 3 rfl rfl (fun _ h=>h.Qs 1 rfl i qf) H ?_
    refine rtp 4 (.slice (aa b5 o6) l.length cl) H ?_
    refine rtp 5 (yI i) H ?_
    refine tI 6 rfl rfl rfl H ?_
    refine tL 7 rfl rfl (fun _ h=>h.Qs 0 rfl i qf) H ?_
    refine rt 8 (yI ((m[i]!) / (l[i]!))) (y_quo (m[i]!) (l[i]!) rfl rfl (by (have:=p2 i qf;omega)) (by (have:=p2 i qf;omega))) H ?_
    refine rtp 9 (yI ((m[i]!) / (l[i]!))) H ?_
    refine qZ qh (b_n (t_n (zk (sp (yI i) (sw (zX i 1 rfl rfl (by (have:=p2 i qf;omega)) (sp (yI (i+1)) (zt (xu (m' :=(l.length - ((i+1):Int)).toNat) qf ⟨_,(m[i]!) / (l[i]!),i+1,uE4,?_,?_,rfl,N,H⟩)))))))))
    · omega
    · first | exact i1.take (p2 i qf) qf qf (XF (fun k hk=>(p2 k hk).1) i qf).1 | exact i1.keep qf | exact i1.keep2 qf qf qf
   refine xx (b_n (t_n (zk (sp (yI i) (sw (zX i 1 rfl rfl (by (have:=p2 i qf;omega)) (sp (yI (i+1)) (zt (xu (m' :=(l.length - ((i+1):Int)).toNat) qf ⟨_,best,i+1,uE4,?_,?_,rfl,N,H⟩)))))))))
   · omega
   · first | exact i1.take (p2 i qf) qf qf (XF (fun k hk=>(p2 k hk).1) i qf).1 | exact i1.keep qf | exact i1.keep2 qf qf qf
  replace h9:=of_decide_eq_true h9
  refine zC [9,10,11,12,13,14,15,16,17,18,19] 11 (H) (rgp 20 (.bool true) 18 H ?_)
  refine rtp 21 (.bool true) H ?_
  refine qZ qh (t_n (xW true rfl (fun _=>?_) (fun h=>absurd h qj)))
  refine yF rfl H fun H=>rtp 0 (.slice am m.length cm) H ?_
  refine rtp 1 (yI i) H ?_
  obtain ⟨b16,o17,rfl⟩:=H.addr 1 rfl qf
  refine tI 2 rfl rfl rfl H ?_
  refine tL 3 rfl rfl (fun _ h=>h.Qs 1 rfl i qf) H ?_
  refine rtp 4 (.slice (aa b5 o6) l.length cl) H ?_
  refine rtp 5 (yI i) H ?_
  refine tI 6 rfl rfl rfl H ?_
  refine tL 7 rfl rfl (fun _ h=>h.Qs 0 rfl i qf) H ?_
  refine rt 8 (yI ((m[i]!) / (l[i]!))) (y_quo (m[i]!) (l[i]!) rfl rfl (by (have:=p2 i qf;omega)) (by (have:=p2 i qf;omega))) H ?_
  refine rtp 9 (yI ((m[i]!) / (l[i]!))) H ?_
  refine qZ qh (b_n (t_n (zk (sp (yI i) (sw (zX i 1 rfl rfl (by (have:=p2 i qf;omega)) (sp (yI (i+1)) (zt (xu (m' :=(l.length - ((i+1):Int)).toNat) qf ⟨_,(m[i]!) / (l[i]!),i+1,uE4,?_,?_,rfl,N,H⟩)))))))))
  · omega
  · first | exact i1.take (p2 i qf) qf qf (XF (fun k hk=>(p2 k hk).1) i qf).1 | exact i1.keep qf | exact i1.keep2 qf qf qf
 refine zx4 (zcr (sps [yI best,yI best] (zjr (ret1 (yI best) rfl rfl ⟨_,rfl,?_,H.base⟩))))
 obtain rfl:i=l.length:=by omega
 rw [i1.done p3];rfl

theorem l03Both_ok (w:World) (s:qy) (t:qG) {qB:yOA} {xe:yLN} {qL:yOA} {xI:yLN} {qX:yOA} {zg:yLN} {xG:yOA} {zO:yLN} {qO:yOA} {xN:yLN} (hs:vV w bs os (yS s qB qA qL qJ)) (qV:qU.rep w xe [.slice qB s.qx.length qA] s.qx) (xF:qU.rep w xI [.slice qL s.qw.length qJ] s.qw) (ht:vV w bt ot (yT t qX qR xG xA qO qN)) (zf:qU.rep w zg [.slice qX t.qC.length qR] t.qC) (zK:qU.rep w zO [.slice xG t.qI.length xA] t.qI) (xO:qU.rep w xN [.slice qO t.qF.length qN] t.qF):Calls Try.prog 53 #[pp bs os,pp bt ot] w (Ret (fun v w' =>v=.bool (dec (yH s∧zl s t))) w):=by
 refine en func53 ntmps53 ?_
 have H:=(((((((St.start w).arg xO).arg zK).arg zf).argAt ht).arg xF).arg qV).argAt hs
 have vG:=qP qV
 have jM:=qP xF
 have Qh:=qP zf
 have QR:=qP zK
 have yO:=qP xO
 clear hs qV xF ht zf zK xO
 have N:=Fresh.nil w.heap.size
 refine zcr (sp (.bool false) (zjc (sp (pp bs os) (sw (oq (l02Ok_ok _ s (qH (H.get 0 rfl) 0 3) (H.get 1 rfl).1 (H.get 2 rfl).1) H fun w1 H=>sp (.bool (dec (yH s))) ?_)))))
 cases h3:(dec (yH s))
 ·skip
  replace h3:=zJ h3
  refine xK [8,9,10] (sps [.bool false,.bool false] (zjr (ret1 (.bool false) rfl rfl ⟨_,rfl,?_,H.base⟩)))
  rw [xh (fun h=>‹¬ yH s› h.1)]
 replace h3:=Qd h3
 refine qK 7 rfl rfl (sp (pp bs os) (qK 7 rfl rfl (sp (pp bt ot) (qK 7 rfl rfl (sw (oq (l02State_ok _ s t (qH (H.get 0 rfl) 0 3) (H.get 1 rfl).1 (H.get 2 rfl).1 (qH (H.get 3 rfl) 0 3) (H.get 4 rfl).1 (H.get 5 rfl).1 (H.get 6 rfl).1 (by first | assumption | exact (And.left (by assumption:yH _)))) H fun w4 H=>sps [.bool (dec (zl s t)),.bool (dec (zl s t))] (zjr (ret1 (.bool (dec (zl s t))) rfl rfl ⟨_,rfl,(congrArg Value.bool (dec_eq ?_)),H.base⟩))))))))
 first | exact ⟨fun h=>⟨‹_›,Qd h⟩,fun h=>yC h.2⟩ | (simp_all;done)

theorem l03Enabled_ok (w:World) (s:qy) (t:qG) (r:jq) {qB:yOA} {xe:yLN} {qL:yOA} {xI:yLN} {qX:yOA} {zg:yLN} {xG:yOA} {zO:yLN} {qO:yOA} {xN:yLN} {br or:Nat} {yj:yOA} {Xu:yLN} {yu:yOA} {Xx:yLN} {yl:yOA} {Xv:yLN} {yt:yOA} {Xw:yLN} {QH:yOA} {FrOut:yLN} {jQ:yOA} {FrInto:yLN} (hs:vV w bs os (yS s qB qA qL qJ)) (qV:qU.rep w xe [.slice qB s.qx.length qA] s.qx) (xF:qU.rep w xI [.slice qL s.qw.length qJ] s.qw) (ht:vV w bt ot (yT t qX qR xG xA qO qN)) (zf:qU.rep w zg [.slice qX t.qC.length qR] t.qC) (zK:qU.rep w zO [.slice xG t.qI.length xA] t.qI) (xO:qU.rep w xN [.slice qO t.qF.length qN] t.qF) (hr:vV w br or [yI r.qE,yI r.vC,.slice yj r.xy.length yc,.slice yu r.xZ.length yh,.slice yl r.xY.length yf,.slice yt r.x9.length yg,.slice QH r.ja.length QG,.slice jQ r.qM.length jP,.bool r.zW]) (hrNeed:qU.rep w Xu [.slice yj r.xy.length yc] r.xy) (hrHave:qU.rep w Xx [.slice yu r.xZ.length yh] r.xZ) (hrLack:qU.rep w Xv [.slice yl r.xY.length yf] r.xY) (hrHere:qU.rep w Xw [.slice yt r.x9.length yg] r.x9) (hrOut:qU.rep w FrOut [.slice QH r.ja.length QG] r.ja) (hrInto:qU.rep w FrInto [.slice jQ r.qM.length jP] r.qM) (p0:yH s) (p1:zl s t) (p2:RuleOk s r):Calls Try.prog 116 #[pp bs os,pp bt ot,pp br or] w (Ret (fun v w' =>v=.bool (dec (EnOk s t r))) w):=by
 refine en func116 ntmps116 ?_
 have H:=((((((((((((((St.start w).arg hrInto).arg hrOut).arg hrHere).arg hrLack).arg hrHave).arg hrNeed).argAt hr).arg xO).arg zK).arg zf).argAt ht).arg xF).arg qV).argAt hs
 have vG:=qP qV
 have jM:=qP xF
 have Qh:=qP zf
 have QR:=qP zK
 have yO:=qP xO
 have nhrNeed:=qP hrNeed
 have nhrHave:=qP hrHave
 have nhrLack:=qP hrLack
 have nhrHere:=qP hrHere
 have nhrOut:=qP hrOut
 have nhrInto:=qP hrInto
 clear hs qV xF ht zf zK xO hr hrNeed hrHave hrLack hrHere hrOut hrInto
 have N:=Fresh.nil w.heap.size
 have p3:=p2.1
 have p4:=p1.1
 have p5:=p1.2.1
 have p6:=(p1.bagLen (k:=r.qE.toNat) qf).len
 have p7:=p2.2.2.2.2.1.len
 have p8:=p2.2.2.2.2.2.1.len
 have p9:=p2.2.2.2.2.2.2.1.len
 have p10:=je p2.2.2.2.2.2.2.1
 have p11:=p0.1
 have p12:=p2.2.2.2.2.2.2.2.2.2.2
 refine zcr (sp (.bool false) (zjn (zn (zn ?_))))
 refine yF rfl H fun H=>rtp 0 (pp bt ot) H ?_
 refine rtp 1 (pp bt ot) H ?_
 refine tF 2 rfl rfl H ?_
 refine tL 3 rfl rfl (fun _ h=>h.xX 3 rfl 0 rfl) H ?_
 refine rtp 4 (pp br or) H ?_
 refine rtp 5 (pp br or) H ?_
 refine tF 6 rfl rfl H ?_
 refine tL 7 rfl rfl (fun _ h=>h.xX 7 rfl 0 rfl) H ?_
 obtain ⟨b2,o3,rfl⟩:=H.addr 4 rfl qf
 refine tI 8 rfl rfl rfl H ?_
 refine tL 9 rfl rfl (fun _ h=>h.Xg 4 rfl r.qE qf qf) H ?_
 refine rtp 10 (.bool (!(t.qC[r.qE.toNat]!))) H ?_
 refine qZ qh (t_n (xW (!(t.qC[r.qE.toNat]!)) rfl (fun h5=>?_) (fun h5=>?_)))
 ·skip
  replace h5:=xB h5
  refine zcr (sp (.bool false) (zjr (t_r (ret1 (.bool false) rfl rfl ⟨_,rfl,?_,H.base⟩))))
  rw [xh (fun h=>by obtain ⟨h1,h2,h3,h4,h5⟩:=h;first | exact ft h1 ‹_› | exact ft h2 ‹_› | exact ft h3 ‹_› | exact h4 ⟨‹_›,‹_›⟩ | (obtain ⟨q1,q2⟩:=h5 i qf;first | exact ft q1 ‹_› | exact absurd q2 ‹_›))]
 replace h5:=xm h5
 refine xx (t_n (zn ?_))
 refine yF rfl H fun H=>rtp 0 (pp bt ot) H ?_
 refine rtp 1 (pp bt ot) H ?_
 refine tF 2 rfl rfl H ?_
 refine tL 3 rfl rfl (fun _ h=>h.xX 3 rfl 1 rfl) H ?_
 refine rtp 4 (pp br or) H ?_
 refine rtp 5 (pp br or) H ?_
 refine tF 6 rfl rfl H ?_
 refine tL 7 rfl rfl (fun _ h=>h.xX 7 rfl 0 rfl) H ?_
 obtain ⟨b7,o8,rfl⟩:=H.addr 5 rfl qf
 obtain ⟨ae10,ce10,Fe10,H⟩:=H.QL 5 rfl r.qE r.qE.toNat qf qf qf
 refine tI 8 rfl rfl rfl (H.pick [] [2,3,4,5,6,7,8,9,10,11,12,13,14,15]) ?_
 refine ro 9 rfl (zh (.slice ae10 ((t.qI[r.qE.toNat]!).length) ce10) isAgg24 rfl (H.xX 1 rfl 0 rfl) (⟨H.pick [] [2,3,4,5,6,7,8,9,10,11,12,13,14,15],(rtp 10 (.slice ae10 ((t.qI[r.qE.toNat]!).length) ce10) (H.pick [] [2,3,4,5,6,7,8,9,10,11,12,13,14,15]) ?_)⟩))
 refine qZ qh (t_n (zcc (sps [pp br or,pp br or] (oF rfl (oL rfl (H.xX 9 rfl 2 rfl) (sp (.slice ae10 ((t.qI[r.qE.toNat]!).length) ce10) (sw (oq (l01Within_ok _ r.xy (t.qI[r.qE.toNat]!) (H.get 10 rfl).1 (H.get 0 rfl).1 qg) H fun w12 H=>sps [.bool (!(within r.xy (t.qI[r.qE.toNat]!))),.bool (!(within r.xy (t.qI[r.qE.toNat]!)))] ?_))))))))
 cases h14:(!(within r.xy (t.qI[r.qE.toNat]!)))
 ·skip
  replace h14:=xm h14
  refine qK 38 rfl rfl (sp (pp br or) (qK 38 rfl rfl (sp (pp br or) (qK 38 rfl rfl (oF rfl (qK 38 rfl rfl (oL rfl (H.xX 9 rfl 3 rfl) (qK 38 rfl rfl (sp (.slice ae10 ((t.qI[r.qE.toNat]!).length) ce10) (qK 38 rfl rfl (sw (oq (l01Within_ok _ r.xZ (t.qI[r.qE.toNat]!) (H.get 11 rfl).1 (H.get 0 rfl).1 qg) H fun w16 H=>qK 38 rfl rfl (sps [.bool (!(within r.xZ (t.qI[r.qE.toNat]!))),.bool (!(within r.xZ (t.qI[r.qE.toNat]!))),.bool (!(within r.xZ (t.qI[r.qE.toNat]!)))] ?_)))))))))))))
  cases h18:(!(within r.xZ (t.qI[r.qE.toNat]!)))
  ·skip
   replace h18:=xm h18
   refine qK 47 rfl rfl (sp (pp br or) (qK 47 rfl rfl (sp (pp br or) (qK 47 rfl rfl (oF rfl (qK 47 rfl rfl (oL rfl (H.xX 9 rfl 4 rfl) (qK 47 rfl rfl (sw (oq (l01Size_ok _ r.xY (H.get 12 rfl).1 (by first | assumption | exact je ql | exact QB ql)) H fun w19 H=>qK 47 rfl rfl (sp (.bool (decide ((sumL r.xY:Int) > 0))) (qK 47 rfl rfl (sp (.bool (decide ((sumL r.xY:Int) > 0))) ?_)))))))))))))
   cases h21:(decide ((sumL r.xY:Int) > 0))
   ·skip
    replace h21:=of_decide_eq_false h21
    refine xK [55,56,57,58,59,60] (qK 47 rfl rfl (sps [.bool false,.bool false] (zjn (xW false rfl (fun h=>absurd h qj) (fun _=>xx (t_n (zcc (sp (yI 0) (zjn (xw ?_))))))))))
    refine vJ (fun m' ρ w22=>∃ (zB:Env) (i:Nat),ρ=upd (upd (upd (upd zB 0 (pp bs os)) 1 (pp bt ot)) 2 (pp br or)) 8 (yI i)∧((i:Int)≤r.qM.length)∧(IntoUp s t r i)∧m' =(r.qM.length - (i:Int)).toNat∧Fresh w.heap.size []∧St w w22 [] [sF false Fe10 ae10 ce10 (t.qI[r.qE.toNat]!),atF b7 (o8+(r.qE:Int).toNat * 1) [.slice ae10 ((t.qI[r.qE.toNat]!).length) ce10],atF bs os (yS s qB qA qL qJ),sF false xe qB qA s.qx,sF false xI qL qJ s.qw,atF bt ot [.slice (aa b2 o3) t.qC.length qR,.slice (aa b7 o8) t.qI.length xA,.slice qO t.qF.length qN],sF false zg (aa b2 o3) qR t.qC,sF false zO (aa b7 o8) xA t.qI,sF false xN qO qN t.qF,atF br or [yI r.qE,yI r.vC,.slice yj r.xy.length yc,.slice yu r.xZ.length yh,.slice yl r.xY.length yf,.slice yt r.x9.length yg,.slice QH r.ja.length QG,.slice jQ r.qM.length jP,.bool r.zW],sF false Xu yj yc r.xy,sF false Xx yu yh r.xZ,sF false Xv yl yf r.xY,sF false Xw yt yg r.x9,sF false FrOut QH QG r.ja,sF false FrInto jQ jP r.qM]) ((r.qM.length - (0:Int)).toNat) ⟨_,0,uE4,qf,(by exact fun j hj=>by omega),rfl,N,H⟩ ?_
    clear H N
    rintro m' ρ w23 ⟨zB,i,rfl,i0,i1,rfl,N,H⟩
    refine zcc (sps [yI i,pp br or,pp br or] (oF rfl (oL rfl (H.xX 9 rfl 7 rfl) (oN rfl (sp (.bool (decide ((i:Int) < r.qM.length))) (zjn (cD rfl (fun h24=>?_) (fun h24=>?_))))))))
    ·skip
     have q:=(p12 i qf).1
     have q1:=q.1
     have q2:=q.2
     refine xx (t_n (zn (xw (zcr (sps [pp br or,pp br or] (oF rfl (oL rfl (H.xX 9 rfl 7 rfl) (sp (yI i) ?_))))))))
     obtain ⟨b25,o26,rfl⟩:=H.addr 15 rfl qf
     obtain ⟨ae28Bag,ce28Bag,Fe28Bag,H⟩:=H.yX 15 rfl i i qf qf qf
     refine oI rfl rfl (oF rfl (oL rfl (H.xX 1 rfl 0 rfl) (sp (yI ((r.qM[i]!).qE)) (zjn (zn ?_)))))
     refine yF rfl H fun H=>rtp 0 (pp bt ot) H ?_
     refine rtp 1 (pp bt ot) H ?_
     refine tF 2 rfl rfl H ?_
     refine tL 3 rfl rfl (fun _ h=>h.xX 7 rfl 0 rfl) H ?_
     refine rtp 4 (yI ((r.qM[i]!).qE)) H ?_
     refine tI 5 rfl rfl rfl H ?_
     refine tL 6 rfl rfl (fun _ h=>h.Xg 8 rfl ((r.qM[i]!).qE) qf qf) H ?_
     refine rtp 7 (.bool (!(t.qC[((r.qM[i]!).qE).toNat]!))) H ?_
     refine rtp 8 (.bool (!(t.qC[((r.qM[i]!).qE).toNat]!))) H ?_
     cases h30:(!(t.qC[((r.qM[i]!).qE).toNat]!))
     ·skip
      replace h30:=xm h30
      refine rgp 9 (pp bs os) 88 H ?_
      refine rgp 10 (pp bt ot) 88 H ?_
      refine rgp 11 (yI ((r.qM[i]!).qE)) 88 H ?_
      refine rgp 13 (pp br or) 88 H ?_
      refine rgp 14 (pp br or) 88 H ?_
      refine gF 15 rfl rfl H ?_
      refine gL 16 rfl rfl (fun _ h=>h.xX 11 rfl 0 rfl) H ?_
      refine zH [12] qh qm (r_opG rfl (e:=88) rfl rfl (oq (l02Parent_ok _ s t ((r.qM[i]!).qE) (qH (H.get 4 rfl) 0 3) (H.get 5 rfl).1 (H.get 6 rfl).1 (qH (H.get 7 rfl) 0 3) (H.get 8 rfl).1 (H.get 9 rfl).1 (H.get 10 rfl).1 ql ql ql) H fun w31 H=>⟨H,(rgp 17 (.bool ((xg s t ((r.qM[i]!).qE):Int) != r.qE)) 88 H ?_)⟩) zI)
      refine rtp 18 (.bool ((xg s t ((r.qM[i]!).qE):Int) != r.qE)) H ?_
      refine qZ qh (t_n (xW ((xg s t ((r.qM[i]!).qE):Int) != r.qE) rfl (fun h33=>?_) (fun h33=>?_)))
      ·skip
       replace h33:=bne_iff_ne.1 h33
       refine zcr (sp (.bool false) (zjr (zr5 (ret1 (.bool false) rfl rfl ⟨_,rfl,?_,H.base⟩))))
       rw [xh (fun h=>by obtain ⟨h1,h2,h3,h4,h5⟩:=h;first | exact ft h1 ‹_› | exact ft h2 ‹_› | exact ft h3 ‹_› | exact h4 ⟨‹_›,‹_›⟩ | (obtain ⟨q1,q2⟩:=h5 i qf;first | exact ft q1 ‹_› | exact absurd q2 ‹_›))]
      replace h33:=zL h33
      refine xx (b_n (t_n (zk (sp (yI i) (sw (zX i 1 rfl rfl qf (sp (yI (i+1)) (zt (xu (m' :=(r.qM.length - ((i+1):Int)).toNat) qf ⟨_,i+1,uE4,?_,?_,rfl,N,H.pick [] [2,3,4,5,6,7,8,9,10,11,12,13,14,15,16,17]⟩)))))))))
      · omega
      · exact i1.succ ‹_› ‹_›
     replace h30:=xB h30
     refine zC [9,10,11,12,13,14,15,16,17] 9 (H) (rtp 18 (.bool true) H ?_)
     refine qZ qh (t_n (xW true rfl (fun _=>zcr (sp (.bool false) (zjr (zr5 (ret1 (.bool false) rfl rfl ⟨_,rfl,?_,H.base⟩))))) (fun h=>absurd h qj)))
     rw [xh (fun h=>by obtain ⟨h1,h2,h3,h4,h5⟩:=h;first | exact ft h1 ‹_› | exact ft h2 ‹_› | exact ft h3 ‹_› | exact h4 ⟨‹_›,‹_›⟩ | (obtain ⟨q1,q2⟩:=h5 i qf;first | exact ft q1 ‹_› | exact absurd q2 ‹_›))]
    refine zx4 (zcr (sp (.bool true) (zjr (ret1 (.bool true) rfl rfl ⟨_,rfl,?_,H.base⟩))))
    rw [yC ⟨by assumption,by assumption,by assumption,fun ⟨u,v⟩=>by first | omega | exact ft v ‹_›,(show i=r.qM.length by omega)▸i1⟩]
   replace h21:=of_decide_eq_true h21
   refine qK 54 rfl rfl (sp (pp br or) (qK 54 rfl rfl (sp (pp br or) (qK 54 rfl rfl (oF rfl (qK 54 rfl rfl (oL rfl (H.xX 9 rfl 4 rfl) (qK 54 rfl rfl (sp (.slice ae10 ((t.qI[r.qE.toNat]!).length) ce10) (qK 54 rfl rfl (sw (oq (l01Within_ok _ r.xY (t.qI[r.qE.toNat]!) (H.get 12 rfl).1 (H.get 0 rfl).1 qg) H fun w35 H=>qK 47 rfl rfl (sps [.bool (within r.xY (t.qI[r.qE.toNat]!)),.bool (within r.xY (t.qI[r.qE.toNat]!))] (zjn (xW (within r.xY (t.qI[r.qE.toNat]!)) rfl (fun h37=>?_) (fun h37=>?_))))))))))))))))
   ·skip
    refine zcr (sp (.bool false) (zjr (t_r (ret1 (.bool false) rfl rfl ⟨_,rfl,?_,H.base⟩))))
    rw [xh (fun h=>by obtain ⟨h1,h2,h3,h4,h5⟩:=h;first | exact ft h1 ‹_› | exact ft h2 ‹_› | exact ft h3 ‹_› | exact h4 ⟨‹_›,‹_›⟩ | (obtain ⟨q1,q2⟩:=h5 i qf;first | exact ft q1 ‹_› | exact absurd q2 ‹_›))]
   refine xx (t_n (zcc (sp (yI 0) (zjn (xw ?_)))))
   refine vJ (fun m' ρ w38=>∃ (zB:Env) (i:Nat),ρ=upd (upd (upd (upd zB 0 (pp bs os)) 1 (pp bt ot)) 2 (pp br or)) 8 (yI i)∧((i:Int)≤r.qM.length)∧(IntoUp s t r i)∧m' =(r.qM.length - (i:Int)).toNat∧Fresh w.heap.size []∧St w w38 [] [sF false Fe10 ae10 ce10 (t.qI[r.qE.toNat]!),atF b7 (o8+(r.qE:Int).toNat * 1) [.slice ae10 ((t.qI[r.qE.toNat]!).length) ce10],atF bs os (yS s qB qA qL qJ),sF false xe qB qA s.qx,sF false xI qL qJ s.qw,atF bt ot [.slice (aa b2 o3) t.qC.length qR,.slice (aa b7 o8) t.qI.length xA,.slice qO t.qF.length qN],sF false zg (aa b2 o3) qR t.qC,sF false zO (aa b7 o8) xA t.qI,sF false xN qO qN t.qF,atF br or [yI r.qE,yI r.vC,.slice yj r.xy.length yc,.slice yu r.xZ.length yh,.slice yl r.xY.length yf,.slice yt r.x9.length yg,.slice QH r.ja.length QG,.slice jQ r.qM.length jP,.bool r.zW],sF false Xu yj yc r.xy,sF false Xx yu yh r.xZ,sF false Xv yl yf r.xY,sF false Xw yt yg r.x9,sF false FrOut QH QG r.ja,sF false FrInto jQ jP r.qM]) ((r.qM.length - (0:Int)).toNat) ⟨_,0,uE4,qf,(by exact fun j hj=>by omega),rfl,N,H⟩ ?_
   clear H N
   rintro m' ρ w39 ⟨zB,i,rfl,i0,i1,rfl,N,H⟩
   refine zcc (sps [yI i,pp br or,pp br or] (oF rfl (oL rfl (H.xX 9 rfl 7 rfl) (oN rfl (sp (.bool (decide ((i:Int) < r.qM.length))) (zjn (cD rfl (fun h40=>?_) (fun h40=>?_))))))))
   ·skip
    have q:=(p12 i qf).1
    have q1:=q.1
    have q2:=q.2
    refine xx (t_n (zn (xw (zcr (sps [pp br or,pp br or] (oF rfl (oL rfl (H.xX 9 rfl 7 rfl) (sp (yI i) ?_))))))))
    obtain ⟨b41,o42,rfl⟩:=H.addr 15 rfl qf
    obtain ⟨ae44Bag,ce44Bag,Fe44Bag,H⟩:=H.yX 15 rfl i i qf qf qf
    refine oI rfl rfl (oF rfl (oL rfl (H.xX 1 rfl 0 rfl) (sp (yI ((r.qM[i]!).qE)) (zjn (zn ?_)))))
    refine yF rfl H fun H=>rtp 0 (pp bt ot) H ?_
    refine rtp 1 (pp bt ot) H ?_
    refine tF 2 rfl rfl H ?_
    refine tL 3 rfl rfl (fun _ h=>h.xX 7 rfl 0 rfl) H ?_
    refine rtp 4 (yI ((r.qM[i]!).qE)) H ?_
    refine tI 5 rfl rfl rfl H ?_
    refine tL 6 rfl rfl (fun _ h=>h.Xg 8 rfl ((r.qM[i]!).qE) qf qf) H ?_
    refine rtp 7 (.bool (!(t.qC[((r.qM[i]!).qE).toNat]!))) H ?_
    refine rtp 8 (.bool (!(t.qC[((r.qM[i]!).qE).toNat]!))) H ?_
    cases h46:(!(t.qC[((r.qM[i]!).qE).toNat]!))
    ·skip
     replace h46:=xm h46
     refine rgp 9 (pp bs os) 88 H ?_
     refine rgp 10 (pp bt ot) 88 H ?_
     refine rgp 11 (yI ((r.qM[i]!).qE)) 88 H ?_
     refine rgp 13 (pp br or) 88 H ?_
     refine rgp 14 (pp br or) 88 H ?_
     refine gF 15 rfl rfl H ?_
     refine gL 16 rfl rfl (fun _ h=>h.xX 11 rfl 0 rfl) H ?_
     refine zH [12] qh qm (r_opG rfl (e:=88) rfl rfl (oq (l02Parent_ok _ s t ((r.qM[i]!).qE) (qH (H.get 4 rfl) 0 3) (H.get 5 rfl).1 (H.get 6 rfl).1 (qH (H.get 7 rfl) 0 3) (H.get 8 rfl).1 (H.get 9 rfl).1 (H.get 10 rfl).1 ql ql ql) H fun w47 H=>⟨H,(rgp 17 (.bool ((xg s t ((r.qM[i]!).qE):Int) != r.qE)) 88 H ?_)⟩) zI)
     refine rtp 18 (.bool ((xg s t ((r.qM[i]!).qE):Int) != r.qE)) H ?_
     refine qZ qh (t_n (xW ((xg s t ((r.qM[i]!).qE):Int) != r.qE) rfl (fun h49=>?_) (fun h49=>?_)))
     ·skip
      replace h49:=bne_iff_ne.1 h49
      refine zcr (sp (.bool false) (zjr (zr5 (ret1 (.bool false) rfl rfl ⟨_,rfl,?_,H.base⟩))))
      rw [xh (fun h=>by obtain ⟨h1,h2,h3,h4,h5⟩:=h;first | exact ft h1 ‹_› | exact ft h2 ‹_› | exact ft h3 ‹_› | exact h4 ⟨‹_›,‹_›⟩ | (obtain ⟨q1,q2⟩:=h5 i qf;first | exact ft q1 ‹_› | exact absurd q2 ‹_›))]
     replace h49:=zL h49
     refine xx (b_n (t_n (zk (sp (yI i) (sw (zX i 1 rfl rfl qf (sp (yI (i+1)) (zt (xu (m' :=(r.qM.length - ((i+1):Int)).toNat) qf ⟨_,i+1,uE4,?_,?_,rfl,N,H.pick [] [2,3,4,5,6,7,8,9,10,11,12,13,14,15,16,17]⟩)))))))))
     · omega
     · exact i1.succ ‹_› ‹_›
    replace h46:=xB h46
    refine zC [9,10,11,12,13,14,15,16,17] 9 (H) (rtp 18 (.bool true) H ?_)
    refine qZ qh (t_n (xW true rfl (fun _=>zcr (sp (.bool false) (zjr (zr5 (ret1 (.bool false) rfl rfl ⟨_,rfl,?_,H.base⟩))))) (fun h=>absurd h qj)))
    rw [xh (fun h=>by obtain ⟨h1,h2,h3,h4,h5⟩:=h;first | exact ft h1 ‹_› | exact ft h2 ‹_› | exact ft h3 ‹_› | exact h4 ⟨‹_›,‹_›⟩ | (obtain ⟨q1,q2⟩:=h5 i qf;first | exact ft q1 ‹_› | exact absurd q2 ‹_›))]
   refine zx4 (zcr (sp (.bool true) (zjr (ret1 (.bool true) rfl rfl ⟨_,rfl,?_,H.base⟩))))
   rw [yC ⟨by assumption,by assumption,by assumption,fun ⟨u,v⟩=>by first | omega | exact ft v ‹_›,(show i=r.qM.length by omega)▸i1⟩]
  replace h18:=xB h18
  refine xK [48,49,50,51,52,53,54,55,56,57,58,59,60,61] (sp (.bool true) (zjn (xW true rfl (fun _=>zcr (sp (.bool false) (zjr (t_r (ret1 (.bool false) rfl rfl ⟨_,rfl,?_,H.base⟩))))) (fun h=>absurd h qj))))
  rw [xh (fun h=>by obtain ⟨h1,h2,h3,h4,h5⟩:=h;first | exact ft h1 ‹_› | exact ft h2 ‹_› | exact ft h3 ‹_› | exact h4 ⟨‹_›,‹_›⟩ | (obtain ⟨q1,q2⟩:=h5 i qf;first | exact ft q1 ‹_› | exact absurd q2 ‹_›))]
 replace h14:=xB h14
 refine xK [39,40,41,42,43,44,45] (sps [.bool true,.bool true] (xK [48,49,50,51,52,53,54,55,56,57,58,59,60,61] (sp (.bool true) (zjn (xW true rfl (fun _=>zcr (sp (.bool false) (zjr (t_r (ret1 (.bool false) rfl rfl ⟨_,rfl,?_,H.base⟩))))) (fun h=>absurd h qj))))))
 rw [xh (fun h=>by obtain ⟨h1,h2,h3,h4,h5⟩:=h;first | exact ft h1 ‹_› | exact ft h2 ‹_› | exact ft h3 ‹_› | exact h4 ⟨‹_›,‹_›⟩ | (obtain ⟨q1,q2⟩:=h5 i qf;first | exact ft q1 ‹_› | exact absurd q2 ‹_›))]

theorem l03Applicable_ok (w:World) (s:qy) (t:qG) {qB:yOA} {xe:yLN} {qL:yOA} {xI:yLN} {qX:yOA} {zg:yLN} {xG:yOA} {zO:yLN} {qO:yOA} {xN:yLN} (hs:vV w bs os (yS s qB qA qL qJ)) (qV:qU.rep w xe [.slice qB s.qx.length qA] s.qx) (xF:qU.rep w xI [.slice qL s.qw.length qJ] s.qw) (ht:vV w bt ot (yT t qX qR xG xA qO qN)) (zf:qU.rep w zg [.slice qX t.qC.length qR] t.qC) (zK:qU.rep w zO [.slice xG t.qI.length xA] t.qI) (xO:qU.rep w xN [.slice qO t.qF.length qN] t.qF) (p0:yH s) (p1:zl s t):Calls Try.prog 94 #[pp bs os,pp bt ot] w (Ret (fun v w' =>∃ (ra:yOA) (rn:Nat) (rc:Nat),v=.slice ra rn rc∧Fresh w.heap.size []∧St w w' [rr ra rn rc 4 1 ((appl s t).map (Value.bool))] []) w):=by
 refine en func94 ntmps94 ?_
 have H:=(((((((St.start w).arg xO).arg zK).arg zf).argAt ht).arg xF).arg qV).argAt hs
 have vG:=qP qV
 have jM:=qP xF
 have Qh:=qP zf
 have QR:=qP zK
 have yO:=qP xO
 clear hs qV xF ht zf zK xO
 have N:=Fresh.nil w.heap.size
 have p2:=p0.2.1
 have p3:=p0.1.2.1
 refine zcr (sp yN (zjc (sps [pp bs os,pp bs os] (oF rfl (oL rfl (H.xX 0 rfl 1 rfl) (oN rfl (sw (x8 H underlying24 ti2 s.qx.length rfl rfl qf qf qf fun b1 w2 H=>sp (.slice (aa b1 0) s.qx.length s.qx.length) (zjc (sw (QQ H underlying28 ti4 fun b3 w4 H=>sp (.slice (aa b3 0) 0 0) (zjcc (sp (yI 0) (zjn (xw ?_)))))))))))))))
 replace H:=H.boxRowB 0 [] 0
 refine vJ (fun m' ρ w5=>∃ (zB:Env) (Xp:yOA) (QK:Nat) (Xo:Nat) (out:List Bool) (i:Nat) (best:yLI),ρ=upd (upd (upd (upd (upd zB 0 (pp bs os)) 1 (pp bt ot)) 5 (.slice (aa b1 0) s.qx.length s.qx.length)) 6 (.slice Xp QK Xo)) 7 (yI i)∧out=applB s t 0 i∧best=bests s t 0 s.qx.length i∧((i:Int)≤s.qw.length)∧m' =(s.qw.length - (i:Int)).toNat∧Fresh w.heap.size []∧St w w5 [rr Xp QK Xo 4 1 (out.map (Value.bool)),rr (aa b1 0) s.qx.length s.qx.length 2 1 (best.map (Value.int .i64))] [atF bs os (yS s qB qA qL qJ),sF false xe qB qA s.qx,sF false xI qL qJ s.qw,atF bt ot (yT t qX qR xG xA qO qN),sF false zg qX qR t.qC,sF false zO xG xA t.qI,sF false xN qO qN t.qF]) ((s.qw.length - (0:Int)).toNat) ⟨_,(aa b3 0),0,0,([]:List Bool),0,(List.replicate s.qx.length (0:Int)),uE5,(by rfl),(by exact bests_zero s t 0 _),qf,rfl,N,H⟩ ?_
 clear H N
 rintro m' ρ w6 ⟨zB,Xp,QK,Xo,out,i,best,rfl,rfl,rfl,i0,rfl,N,H⟩
 have hn_out:=H.Q7 0 rfl
 have hn_best:=H.zS 1 rfl
 have bl:=QW s t 0 s.qx.length i
 have al:=applB_len s t 0 i
 refine zcc (sps [yI i,pp bs os,pp bs os] (oF rfl (oL rfl (H.xX 0 rfl 2 rfl) (oN rfl (sp (.bool (decide ((i:Int) < s.qw.length))) (zjn (cD rfl (fun h7=>?_) (fun h7=>?_))))))))
 ·skip
  have q:=p0.rule (i:=i) qf
  have qc:=q.1
  have qk:=q.cell
  have qr:=q.2.1
  refine xx (t_n (zn (xw (zcr (sps [pp bs os,pp bs os] (oF rfl (oL rfl (H.xX 0 rfl 2 rfl) (sp (yI i) ?_))))))))
  obtain ⟨b8,o9,rfl⟩:=H.addr 2 rfl qf
  obtain ⟨ae11Need,ce11Need,Fe11Need,ae11Have,ce11Have,Fe11Have,ae11Lack,ce11Lack,Fe11Lack,ae11Here,ce11Here,Fe11Here,ae11Out,ce11Out,Fe11Out,ae11Into,ce11Into,Fe11Into,H⟩:=H.Qo 2 rfl i i qf qf qf
  refine oI rfl rfl (sp (pp b8 (o9+(i:Int).toNat * 9)) (zjc (sps [pp bs os,pp bt ot,pp b8 (o9+(i:Int).toNat * 9)] (sw (oq (l03Enabled_ok _ s t (s.qw[i]!) (qH (H.get 7 rfl) 0 3) (H.get 8 rfl).1 (H.get 9 rfl).1 (qH (H.get 10 rfl) 0 3) (H.get 11 rfl).1 (H.get 12 rfl).1 (H.get 13 rfl).1 (qH (H.get 6 rfl) 0 9) (H.get 0 rfl).1 (H.get 1 rfl).1 (H.get 2 rfl).1 (H.get 3 rfl).1 (H.get 4 rfl).1 (H.get 5 rfl).1 qg qg qg) H fun w13 H=>?_)))))
  refine sp (.bool (dec (EnOk s t (s.qw[i]!)))) (zjc (sps [.slice Xp QK Xo,.bool (dec (EnOk s t (s.qw[i]!)))] (sw (vF H underlying28 ti4 [.bool (dec (EnOk s t (s.qw[i]!)))] fun b15 w16 H=>sw (vP H 1 rfl 0 rfl underlying28 ti4 rfl qj rfl rfl rfl (by simp [Value.oneCell',Value.cells]) qp qf fun a17 c18 w19 H=>?_)))))
  rw [snocB] at H
  refine sp (.slice a17 (QK+1) c18) (zjc (sp (.bool (dec (EnOk s t (s.qw[i]!)))) (zjn (cP rfl (fun h20=>?_) (fun h20=>?_)))))
  ·skip
   refine yR rfl H [0,1] fun H=>?_
   have S:=H.jR [0,1] [0,1,2,3,4,5,6,7,8,9,10,11,12,13]
   refine rtp 0 (.slice (aa b1 0) s.qx.length s.qx.length) S ?_
   refine rtp 1 (pp b8 (o9+(i:Int).toNat * 9)) S ?_
   refine rtp 2 (pp b8 (o9+(i:Int).toNat * 9)) S ?_
   refine tF 3 rfl rfl S ?_
   refine tL 4 rfl rfl (fun _ h=>h.xX 6 rfl 0 rfl) S ?_
   refine rtp 5 (.slice (aa b1 0) s.qx.length s.qx.length) S ?_
   refine rtp 6 (pp b8 (o9+(i:Int).toNat * 9)) S ?_
   refine rtp 7 (pp b8 (o9+(i:Int).toNat * 9)) S ?_
   refine tF 8 rfl rfl S ?_
   refine tL 9 rfl rfl (fun _ h=>h.xX 6 rfl 0 rfl) S ?_
   refine tI 10 rfl rfl rfl S ?_
   refine rtp 12 (pp b8 (o9+(i:Int).toNat * 9)) S ?_
   refine rtp 13 (pp b8 (o9+(i:Int).toNat * 9)) S ?_
   refine tF 14 rfl rfl S ?_
   refine tL 15 rfl rfl (fun _ h=>h.xX 6 rfl 1 rfl) S ?_
   refine ro 11 rfl (zh (yI ((bests s t 0 s.qx.length i)[((s.qw[i]!).qE).toNat]!)) isAgg2 rfl (H.rowInt 2 rfl (iv:=(s.qw[i]!).qE) (i:=(((s.qw[i]!).qE).toNat)) qf qf) (⟨H.pick [0,1] [0,1,2,3,4,5,6,7,8,9,10,11,12,13],(ro 16 rfl (oq (l00Max_ok w19.drew ((bests s t 0 s.qx.length i)[((s.qw[i]!).qE).toNat]!) ((s.qw[i]!).vC)) H fun w23 H=>⟨H.pick [0,1] [0,1,2,3,4,5,6,7,8,9,10,11,12,13],(tI 17 rfl rfl rfl (H.pick [0,1] [0,1,2,3,4,5,6,7,8,9,10,11,12,13]) ?_)⟩))⟩))
   refine ro 18 rfl (o_storeInt H 2 rfl (max ((bests s t 0 s.qx.length i)[((s.qw[i]!).qE).toNat]!) ((s.qw[i]!).vC)) sizeOf2 rfl rfl (i:=(((s.qw[i]!).qE).toNat)) qf qf fun w25 H=>⟨H.pick [0,1] [0,1,2,3,4,5,6,7,8,9,10,11,12,13],(qZ qh (b_n (t_n (zk (sp (yI i) (sw (zX i 1 rfl rfl qf (sp (yI (i+1)) (zt ?_)))))))))⟩)
   refine xu (m' :=(s.qw.length - ((i+1):Int)).toNat) qf ⟨_,a17,QK+1,c18,((applB s t 0 i)++[dec (EnOk s t (s.qw[i]!))]),i+1,((bests s t 0 s.qx.length i).set (((s.qw[i]!).qE).toNat) (max ((bests s t 0 s.qx.length i)[((s.qw[i]!).qE).toNat]!) ((s.qw[i]!).vC))),uE5,?_,?_,?_,rfl,N,H.pick [1,2] [7,8,9,10,11,12,13]⟩
   · exact applB_snoc s t i
   · first | exact bests_set ‹_› qf | exact bests_skip ‹_›
   · omega
  refine xx (b_n (t_n (zk (sp (yI i) (sw (zX i 1 rfl rfl qf (sp (yI (i+1)) (zt (xu (m' :=(s.qw.length - ((i+1):Int)).toNat) qf ⟨_,a17,QK+1,c18,((applB s t 0 i)++[dec (EnOk s t (s.qw[i]!))]),i+1,(bests s t 0 s.qx.length i),uE5,?_,?_,?_,rfl,N,H.pick [1,2] [7,8,9,10,11,12,13]⟩)))))))))
  · exact applB_snoc s t i
  · first | exact bests_set ‹_› qf | exact bests_skip ‹_›
  · omega
 refine zx4 (zcc (sp (yI 0) (zjn (xw ?_))))
 refine vJ (fun m' ρ w26=>∃ (zB:Env) (i_1:Nat) (out_1:List Bool),ρ=upd (upd (upd (upd zB 0 (pp bs os)) 5 (.slice (aa b1 0) s.qx.length s.qx.length)) 6 (.slice Xp QK Xo)) 10 (yI i_1)∧out_1=applB s t i_1 s.qw.length∧((i_1:Int)≤s.qw.length)∧m' =(s.qw.length - (i_1:Int)).toNat∧Fresh w.heap.size []∧St w w26 [rr Xp QK Xo 4 1 (out_1.map (Value.bool)),rr (aa b1 0) s.qx.length s.qx.length 2 1 ((bests s t 0 s.qx.length i).map (Value.int .i64))] [atF bs os (yS s qB qA qL qJ),sF false xe qB qA s.qx,sF false xI qL qJ s.qw]) ((s.qw.length - (0:Int)).toNat) ⟨_,0,(applB s t 0 i),uE4,(by rw [show i=s.qw.length by omega]),qf,rfl,N,H.pick [0,1] [0,1,2]⟩ ?_
 clear H N
 rintro m' ρ w27 ⟨zB,i_1,out_1,rfl,rfl,i0,rfl,N,H⟩
 have hn_out:=H.Q7 0 rfl
 have bl:=QW s t 0 s.qx.length i
 have al:=applB_len s t i_1 s.qw.length
 refine zcc (sps [yI i_1,pp bs os,pp bs os] (oF rfl (oL rfl (H.xX 0 rfl 2 rfl) (oN rfl (sp (.bool (decide ((i_1:Int) < s.qw.length))) (zjn (cD rfl (fun h28=>?_) (fun h28=>?_))))))))
 ·skip
  have q:=p0.rule (i:=i_1) qf
  have qc:=q.1
  have qk:=q.cell
  have qr:=q.2.1
  refine xx (t_n (zn (xw ?_)))
  refine yR rfl H [1] fun H=>?_
  have S:=H.jR [1] [0,1,2]
  refine rtp 0 (.slice Xp QK Xo) S ?_
  refine rtp 1 (yI i_1) S ?_
  refine rtp 2 (.slice Xp QK Xo) S ?_
  refine rtp 3 (yI i_1) S ?_
  obtain ⟨b30,rfl⟩:=H.QP 0 rfl qf
  refine tI 4 rfl rfl rfl (H.pick [1] [0,1,2]) ?_
  refine ro 5 rfl (zh (.bool ((applB s t i_1 s.qw.length)[i_1]!)) isAgg4 rfl (H.rowBool 0 rfl (iv:=i_1) (i:=i_1) qf qf) (⟨H.pick [1] [0,1,2],(rtp 6 (.bool ((applB s t i_1 s.qw.length)[i_1]!)) (H.pick [1] [0,1,2]) ?_)⟩))
  cases h31:((applB s t i_1 s.qw.length)[i_1]!)
  ·skip
   refine zC [7,8,9,10,11,12,13,14,15,16,17,18,19,20,21,22,23,24,25,26] 20 (H.pick [1] [0,1,2]) ?_
   have S:=H.jR [1] [0,1,2]
   refine rtp 27 (.bool false) S ?_
   refine tI 28 rfl rfl rfl S ?_
   refine ro 29 rfl (Qp H 0 rfl false sizeOf4 rfl rfl (i:=i_1) qf qf fun w32 H=>⟨H.pick [1] [0,1,2],(qZ qh (b_n (t_n (zk (sp (yI i_1) (sw (zX i_1 1 rfl rfl qf (sp (yI (i_1+1)) (zt (xu (m' :=(s.qw.length - ((i_1+1):Int)).toNat) qf ⟨_,i_1+1,((applB s t i_1 s.qw.length).set i_1 false),uE4,?_,?_,rfl,N,H⟩))))))))))⟩)
   · first | exact applB_set qf (applB_step0 (m:=s.qw.length) qf ‹_›) | exact applB_set qf (applB_step1 (m:=s.qw.length) (n:=s.qx.length) (z:=0) (i:=i) qf ‹_› rfl qf qf qf)
   · omega
  have S:=H.jR [1] [0,1,2]
  refine rgp 7 (pp bs os) 75 S ?_
  refine rgp 8 (pp bs os) 75 S ?_
  refine gF 9 rfl rfl S ?_
  refine gL 10 rfl rfl (fun _ h=>h.xX 0 rfl 2 rfl) S ?_
  refine rgp 11 (yI i_1) 75 S ?_
  obtain ⟨b33,o34,rfl⟩:=H.addr 2 rfl qf
  obtain ⟨ae36Need,ce36Need,Fe36Need,ae36Have,ce36Have,Fe36Have,ae36Lack,ce36Lack,Fe36Lack,ae36Here,ce36Here,Fe36Here,ae36Out,ce36Out,Fe36Out,ae36Into,ce36Into,Fe36Into,H⟩:=H.Qo 2 rfl i_1 i_1 qf qf qf
  have S:=H.jR [1] [7,8,9]
  refine gI 12 rfl rfl rfl S ?_
  refine gF 13 rfl rfl S ?_
  refine rgp 15 (.slice (aa b1 0) s.qx.length s.qx.length) 75 S ?_
  refine rgp 16 (pp bs os) 75 S ?_
  refine rgp 17 (pp bs os) 75 S ?_
  refine gF 18 rfl rfl S ?_
  refine gL 19 rfl rfl (fun _ h=>h.xX 0 rfl 2 rfl) S ?_
  refine rgp 20 (yI i_1) 75 S ?_
  refine gI 21 rfl rfl rfl S ?_
  refine gF 22 rfl rfl S ?_
  refine zH [14,23] qh qm (r_opG rfl (e:=75) rfl rfl ?_ (r_opG rfl (e:=75) rfl rfl ?_ zI))
  ·skip
   refine zh (yI ((s.qw[i_1]!).vC)) isAgg2 rfl (H.xX 6 rfl 1 rfl) (⟨H.pick [1] [7,8,9],(zH [23] qh qm (r_opG rfl (e:=75) rfl rfl (zh (yI ((s.qw[i_1]!).qE)) isAgg2 rfl (H.xX 6 rfl 0 rfl) (⟨H.pick [1] [7,8,9],?_⟩)) zI))⟩)
   have S:=H.jR [1] [7,8,9]
   refine gI 24 rfl rfl rfl S ?_
   refine gL 25 rfl rfl (fun _ h=>h.rowInt 0 rfl (iv:=(s.qw[i_1]!).qE) (i:=(((s.qw[i_1]!).qE).toNat)) qf qf) S ?_
   refine rgp 26 (.bool (((s.qw[i_1]!).vC:Int) == ((bests s t 0 s.qx.length i)[((s.qw[i_1]!).qE).toNat]!))) 75 S ?_
   refine rtp 27 (.bool (((s.qw[i_1]!).vC:Int) == ((bests s t 0 s.qx.length i)[((s.qw[i_1]!).qE).toNat]!))) S ?_
   refine tI 28 rfl rfl rfl S ?_
   refine ro 29 rfl (Qp H 0 rfl (((s.qw[i_1]!).vC:Int) == ((bests s t 0 s.qx.length i)[((s.qw[i_1]!).qE).toNat]!)) sizeOf4 rfl rfl (i:=i_1) qf qf fun w37 H=>⟨H.pick [1] [7,8,9],(qZ qh (b_n (t_n (zk (sp (yI i_1) (sw (zX i_1 1 rfl rfl qf (sp (yI (i_1+1)) (zt (xu (m' :=(s.qw.length - ((i_1+1):Int)).toNat) qf ⟨_,i_1+1,((applB s t i_1 s.qw.length).set i_1 (((s.qw[i_1]!).vC:Int) == ((bests s t 0 s.qx.length i)[((s.qw[i_1]!).qE).toNat]!))),uE4,?_,?_,rfl,N,H.pick [0,1] [7,8,9]⟩))))))))))⟩)
   · first | exact applB_set qf (applB_step0 (m:=s.qw.length) qf ‹_›) | exact applB_set qf (applB_step1 (m:=s.qw.length) (n:=s.qx.length) (z:=0) (i:=i) qf ‹_› rfl qf qf qf)
   · omega
  refine zh (yI ((s.qw[i_1]!).qE)) isAgg2 rfl (H.xX 6 rfl 0 rfl) (⟨H.pick [1] [7,8,9],?_⟩)
  have S:=H.jR [1] [7,8,9]
  refine gI 24 rfl rfl rfl S ?_
  refine gL 25 rfl rfl (fun _ h=>h.rowInt 0 rfl (iv:=(s.qw[i_1]!).qE) (i:=(((s.qw[i_1]!).qE).toNat)) qf qf) S ?_
  refine zH [14] qh qm (r_opG rfl (e:=75) rfl rfl (zh (yI ((s.qw[i_1]!).vC)) isAgg2 rfl (H.xX 6 rfl 1 rfl) (⟨H.pick [1] [7,8,9],?_⟩)) zI)
  have S:=H.jR [1] [7,8,9]
  refine rgp 26 (.bool (((s.qw[i_1]!).vC:Int) == ((bests s t 0 s.qx.length i)[((s.qw[i_1]!).qE).toNat]!))) 75 S ?_
  refine rtp 27 (.bool (((s.qw[i_1]!).vC:Int) == ((bests s t 0 s.qx.length i)[((s.qw[i_1]!).qE).toNat]!))) S ?_
  refine tI 28 rfl rfl rfl S ?_
  refine ro 29 rfl (Qp H 0 rfl (((s.qw[i_1]!).vC:Int) == ((bests s t 0 s.qx.length i)[((s.qw[i_1]!).qE).toNat]!)) sizeOf4 rfl rfl (i:=i_1) qf qf fun w38 H=>⟨H.pick [1] [7,8,9],(qZ qh (b_n (t_n (zk (sp (yI i_1) (sw (zX i_1 1 rfl rfl qf (sp (yI (i_1+1)) (zt (xu (m' :=(s.qw.length - ((i_1+1):Int)).toNat) qf ⟨_,i_1+1,((applB s t i_1 s.qw.length).set i_1 (((s.qw[i_1]!).vC:Int) == ((bests s t 0 s.qx.length i)[((s.qw[i_1]!).qE).toNat]!))),uE4,?_,?_,rfl,N,H.pick [0,1] [7,8,9]⟩))))))))))⟩)
  · first | exact applB_set qf (applB_step0 (m:=s.qw.length) qf ‹_›) | exact applB_set qf (applB_step1 (m:=s.qw.length) (n:=s.qx.length) (z:=0) (i:=i) qf ‹_› rfl qf qf qf)
  · omega
 refine zx4 (zcr (sps [.slice Xp QK Xo,.slice Xp QK Xo] (zjr (ret1 (.slice Xp QK Xo) rfl rfl ⟨_,rfl,?_,H.base⟩))))
 obtain rfl:i_1=s.qw.length:=by omega
 exact ⟨Xp,QK,Xo,rfl,N,H.pick [0] []⟩

theorem l03Halted_ok (w:World) (s:qy) (t:qG) {qB:yOA} {xe:yLN} {qL:yOA} {xI:yLN} {qX:yOA} {zg:yLN} {xG:yOA} {zO:yLN} {qO:yOA} {xN:yLN} (hs:vV w bs os (yS s qB qA qL qJ)) (qV:qU.rep w xe [.slice qB s.qx.length qA] s.qx) (xF:qU.rep w xI [.slice qL s.qw.length qJ] s.qw) (ht:vV w bt ot (yT t qX qR xG xA qO qN)) (zf:qU.rep w zg [.slice qX t.qC.length qR] t.qC) (zK:qU.rep w zO [.slice xG t.qI.length xA] t.qI) (xO:qU.rep w xN [.slice qO t.qF.length qN] t.qF) (p0:yH s) (p1:zl s t):Calls Try.prog 56 #[pp bs os,pp bt ot] w (Ret (fun v w' =>v=.bool (dec (Halted s t))) w):=by
 refine en func56 ntmps56 ?_
 have H:=(((((((St.start w).arg xO).arg zK).arg zf).argAt ht).arg xF).arg qV).argAt hs
 have vG:=qP qV
 have jM:=qP xF
 have Qh:=qP zf
 have QR:=qP zK
 have yO:=qP xO
 clear hs qV xF ht zf zK xO
 have N:=Fresh.nil w.heap.size
 have p2:=p0.2.1
 refine zcr (sp (.bool false) (zjc (sps [pp bs os,pp bt ot] ?_)))
 have sz4:=H.base.size
 refine sw (oc (l03Applicable_ok _ s t (qH (H.get 0 rfl) 0 3) (H.get 1 rfl).1 (H.get 2 rfl).1 (qH (H.get 3 rfl) 0 3) (H.get 4 rfl).1 (H.get 5 rfl).1 (H.get 6 rfl).1 qg qg) ?_)
 rintro _ w2 ⟨ra1,rn1,rc1,rfl,M,K⟩ _
 replace H:=H.merge K M
 obtain rfl:=H.Q7 0 rfl
 have al:=appl_len s t
 refine sp (.slice ra1 ((appl s t).length) rc1) (zjcc (sp (yI 0) (zjn (xw ?_))))
 refine vJ (fun m' ρ w7=>∃ (zB:Env) (i:Nat),ρ=upd (upd zB 5 (.slice ra1 ((appl s t).length) rc1)) 6 (yI i)∧((i:Int)≤((appl s t).length))∧(HaltTo s t i)∧m' =(((appl s t).length) - (i:Int)).toNat∧Fresh w.heap.size []∧St w w7 [rr ra1 ((appl s t).length) rc1 4 1 ((appl s t).map (Value.bool))] []) ((((appl s t).length) - (0:Int)).toNat) ⟨_,0,uE2,qf,(by exact fun j hj=>by omega),rfl,N,H.pick [0] []⟩ ?_
 clear H N
 rintro m' ρ w8 ⟨zB,i,rfl,i0,i1,rfl,N,H⟩
 refine zcc (sps [yI i,.slice ra1 ((appl s t).length) rc1] (oN rfl (sp (.bool (decide ((i:Int) < ((appl s t).length)))) (zjn (cD rfl (fun h9=>?_) (fun h9=>?_))))))
 ·skip
  refine xx (t_n (zn (xw (zcr (sps [.slice ra1 ((appl s t).length) rc1,yI i] ?_)))))
  obtain ⟨b10,rfl⟩:=H.QP 0 rfl qf
  refine oI rfl rfl (oL rfl (H.rowBool 0 rfl (iv:=i) (i:=i) qf qf) (zjn (xW ((appl s t)[i]!) rfl (fun h11=>?_) (fun h11=>?_))))
  ·skip
   refine zcr (sp (.bool false) (zjr (zr5 (ret1 (.bool false) rfl rfl ⟨_,rfl,?_,H.base⟩))))
   rw [xh (fun h=>h i qf (appl_true qf ‹_›))]
  refine xx (b_n (t_n (zk (sp (yI i) (sw (zX i 1 rfl rfl qf (sp (yI (i+1)) (zt (xu (m' :=(((appl s t).length) - ((i+1):Int)).toNat) qf ⟨_,i+1,uE2,?_,?_,rfl,N,H⟩)))))))))
  · omega
  · exact i1.succ (appl_false qf ‹_›)
 refine zx4 (zcr (sp (.bool true) (zjr (ret1 (.bool true) rfl rfl ⟨_,rfl,?_,H.base⟩))))
 obtain rfl:i=s.qw.length:=by omega
 rw [yC i1]

theorem l03Rest_ok (w:World) (s:qy) (t:qG) (counts:yLI) {qB:yOA} {xe:yLN} {qL:yOA} {xI:yLN} {qX:yOA} {zg:yLN} {xG:yOA} {zO:yLN} {qO:yOA} {xN:yLN} {acounts:yOA} {Fcounts:yLN} (hs:vV w bs os (yS s qB qA qL qJ)) (qV:qU.rep w xe [.slice qB s.qx.length qA] s.qx) (xF:qU.rep w xI [.slice qL s.qw.length qJ] s.qw) (ht:vV w bt ot (yT t qX qR xG xA qO qN)) (zf:qU.rep w zg [.slice qX t.qC.length qR] t.qC) (zK:qU.rep w zO [.slice xG t.qI.length xA] t.qI) (xO:qU.rep w xN [.slice qO t.qF.length qN] t.qF) (hcounts:qU.rep w Fcounts [.slice acounts counts.length ccounts] counts) (p0:yH s) (p1:zl s t) (p2:CntOk s counts):Calls Try.prog 95 #[pp bs os,pp bt ot,.slice acounts counts.length ccounts] w (Ret (fun v w' =>∃ (ra0:yOA) (rn0:Nat) (rc0:Nat) (rx0:List Value) (rF0:yLN),v=.tuple #[.slice ra0 rn0 rc0,.bool (dec (IsCh s t counts))]∧Fresh w.heap.size [rF0]∧St w w' [rr ra0 rn0 rc0 24 1 rx0] [xf true rF0 rx0 (jS s t counts (Qk (BadAt s t counts) counts.length))]) w):=by
 refine en func95 ntmps95 ?_
 have H:=((((((((St.start w).arg hcounts).arg xO).arg zK).arg zf).argAt ht).arg xF).arg qV).argAt hs
 have vG:=qP qV
 have jM:=qP xF
 have Qh:=qP zf
 have QR:=qP zK
 have yO:=qP xO
 have nhcounts:=qP hcounts
 clear hs qV xF ht zf zK xO hcounts
 have N:=Fresh.nil w.heap.size
 have p3:=p0.2.1
 have p6:=p2.1
 have p7:=p1.2.1
 have p8:=kinds_le p0
 have p9:=p0.1.2.1
 have p11:jb s=s.qx.length:=rfl
 refine zcr (sps [yN,.bool false] (zjc (sps [pp bs os,pp bt ot] ?_)))
 have sz4:=H.base.size
 refine sw (oc (l03Applicable_ok _ s t (qH (H.get 0 rfl) 0 3) (H.get 1 rfl).1 (H.get 2 rfl).1 (qH (H.get 3 rfl) 0 3) (H.get 4 rfl).1 (H.get 5 rfl).1 (H.get 6 rfl).1 qg qg) ?_)
 rintro _ w2 ⟨ra1,rn1,rc1,rfl,M,K⟩ _
 replace H:=H.merge K M
 obtain rfl:=H.Q7 0 rfl
 have al:=appl_len s t
 refine sp (.slice ra1 ((appl s t).length) rc1) (zjc (sw (QQ H underlying29 ti24 fun b7 w8 H=>sp (.slice (aa b7 0) 0 0) (zjcc (sp (yI 0) (zjn (xw ?_)))))))
 replace H:=H.boxRow 0 rfl 1 0 rfl qj
 replace H:=H.Qv (α:=yLI)
 refine vJ (fun m' ρ w9=>∃ (zB:Env) (Qm:yOA) (jJ:Nat) (yQ:Nat) (rest:yLL) (Xq:List Value) (QX:yLN) (c:Nat),ρ=upd (upd (upd (upd (upd (upd zB 0 (pp bs os)) 1 (pp bt ot)) 2 (.slice acounts counts.length ccounts)) 8 (.slice ra1 ((appl s t).length) rc1)) 9 (.slice Qm jJ yQ)) 10 (yI c)∧rest=t.qI.take c∧((c:Int)≤t.qI.length)∧m' =(t.qI.length - (c:Int)).toNat∧Fresh w.heap.size [QX]∧St w w9 [rr Qm jJ yQ 24 1 Xq,rr ra1 ((appl s t).length) rc1 4 1 ((appl s t).map (Value.bool))] [xf true QX Xq rest,atF bs os (yS s qB qA qL qJ),sF false xe qB qA s.qx,sF false xI qL qJ s.qw,atF bt ot (yT t qX qR xG xA qO qN),sF false zg qX qR t.qC,sF false zO xG xA t.qI,sF false xN qO qN t.qF,sF false Fcounts acounts ccounts counts]) ((t.qI.length - (0:Int)).toNat) ⟨_,(aa b7 0),0,0,([]:yLL),[],[],0,uE6,(by rfl),qf,rfl,N.emp,H⟩ ?_
 clear H N
 rintro m' ρ w10 ⟨zB,Qm,jJ,yQ,rest,Xq,QX,c,rfl,rfl,i0,rfl,N,H⟩
 have hn_rest:=H.zi (α:=yLI) 0 rfl 0 rfl qj
 have p4:=(p1.bagLen (k:=c))
 rw [List.length_take_of_le qf] at hn_rest
 refine zcc (sps [yI c,pp bt ot,pp bt ot] (oF rfl (oL rfl (H.xX 4 rfl 1 rfl) (oN rfl (sp (.bool (decide ((c:Int) < t.qI.length))) (zjn (cD rfl (fun h11=>?_) (fun h11=>?_))))))))
 ·skip
  refine xx (t_n (zn (xw (zk (sps [.slice Qm jJ yQ,pp bt ot,pp bt ot] (oF rfl (oL rfl (H.xX 4 rfl 1 rfl) (sp (yI c) ?_))))))))
  obtain ⟨b12,o13,rfl⟩:=H.addr 6 rfl qf
  obtain ⟨ae15,ce15,Fe15,H⟩:=H.QL 6 rfl c c qf qf qf
  refine oI rfl rfl (oL rfl (H.xX 1 rfl 0 rfl) ?_)
  have p5:=(p1.bagLen (k:=c) qf).len
  have sz16:=H.base.size
  have lt17:=H.ltN (L:=[QX]) [2]
  refine sw (oc (l00Own_ok _ (t.qI[c]!) (H.get 0 rfl).1 qg) ?_)
  rintro v21 w19 r21 x20
  replace H:=H.zq x20 r21
  obtain ⟨a22,c23,rfl,hc24,hm25⟩:=H.jO 0 rfl
  refine sw (vF H underlying29 ti24 [.slice a22 ((t.qI[c]!).length) c23] fun b26 w27 H=>?_)
  obtain ⟨G31,N,hn32,H⟩:=H.zT 1 rfl N (H.yG [2])
  refine sw (vP H 2 rfl 0 rfl underlying29 ti24 rfl qj rfl rfl rfl (by simp [Value.oneCell',Value.cells]) qp qf fun a28 c29 w30 H=>?_)
  replace H:=H.Q5 3 rfl 0 rfl
  replace N:Fresh w.heap.size [(QX++G31)]:=(N.pick [1,0]).join
  refine sp (.slice a28 (jJ+1) c29) (zt (b_n (t_n (zk (sp (yI c) (sw (zX c 1 rfl rfl qf (sp (yI (c+1)) (zt (xu (m' :=(t.qI.length - ((c+1):Int)).toNat) qf ⟨_,a28,jJ+1,c29,((t.qI.take c)++[(t.qI[c]!)]),Xq++[.slice a22 ((t.qI[c]!).length) c23],(QX++G31),c+1,uE6,?_,?_,rfl,N,H.pick [2,3] [0,5,6,7,8,9,10,11,12]⟩))))))))))
  · exact take_snoc qf
  · omega
 refine zx4 (zcc (sp (yI 0) (zjn (xw ?_))))
 refine vJ (fun m' ρ w33=>∃ (zB:Env) (i:Nat) (rest_1:yLL) (QO:List Value) (Qu:yLN),ρ=upd (upd (upd (upd (upd zB 0 (pp bs os)) 2 (.slice acounts counts.length ccounts)) 8 (.slice ra1 ((appl s t).length) rc1)) 9 (.slice Qm jJ yQ)) 11 (yI i)∧rest_1=jS s t counts i∧((i:Int)≤counts.length)∧(GoodTo s t counts i)∧m' =(counts.length - (i:Int)).toNat∧Fresh w.heap.size [Qu]∧St w w33 [rr Qm jJ yQ 24 1 QO,rr ra1 ((appl s t).length) rc1 4 1 ((appl s t).map (Value.bool))] [xf true Qu QO rest_1,atF bs os (yS s qB qA qL qJ),sF false xe qB qA s.qx,sF false xI qL qJ s.qw,sF false Fcounts acounts ccounts counts]) ((counts.length - (0:Int)).toNat) ⟨_,0,(t.qI.take c),Xq,QX,uE5,(by rw [List.take_of_length_le qf];rfl),qf,(by exact fun j hj=>by omega),rfl,N,H.pick [0,1] [0,1,2,3,8]⟩ ?_
 clear H N
 rintro m' ρ w34 ⟨zB,i,rest_1,QO,Qu,rfl,rfl,i0,i1,rfl,N,H⟩
 have hn_rest:=H.zi (α:=yLI) 0 rfl 0 rfl qj
 have rl:=restR_len (s:=s) (t:=t) (counts:=counts) i
 refine zcc (sps [yI i,.slice acounts counts.length ccounts] (oN rfl (sp (.bool (decide ((i:Int) < counts.length))) (zjn (cD rfl (fun h35=>?_) (fun h35=>?_))))))
 ·skip
  have q:=p0.rule (i:=i) qf
  have qc:=q.1
  have qk:=q.cell
  have qr:=q.2.1
  have b1:=q.2.2.2.2.1
  have p10:=p2.bd (i:=i) qf
  refine xx (t_n (zn (xw (zcc (sps [.slice acounts counts.length ccounts,yI i] ?_)))))
  obtain ⟨b36,o37,rfl⟩:=H.addr 4 rfl qf
  refine oI rfl rfl (oL rfl (H.yE 4 rfl i qf qf) (sps [.bool (decide ((counts[i]! :Int) > 0)),.bool (decide ((counts[i]! :Int) > 0))] ?_))
  cases h39:(decide ((counts[i]! :Int) > 0))
  ·skip
   replace h39:=of_decide_eq_false h39
   refine xK [51,52,53,54,55] (sp (.bool false) (zjn (xW false rfl (fun h=>absurd h qj) (fun _=>xx (t_n (zcr (sps [pp bs os,pp bs os] (oF rfl (oL rfl (H.xX 1 rfl 2 rfl) (sp (yI i) ?_))))))))))
   obtain ⟨b40,o41,rfl⟩:=H.addr 3 rfl qf
   obtain ⟨ae43Need,ce43Need,Fe43Need,ae43Have,ce43Have,Fe43Have,ae43Lack,ce43Lack,Fe43Lack,ae43Here,ce43Here,Fe43Here,ae43Out,ce43Out,Fe43Out,ae43Into,ce43Into,Fe43Into,H⟩:=H.Qo 3 rfl i i qf qf qf
   refine oI rfl rfl (oF rfl (oL rfl (H.xX 6 rfl 0 rfl) (sp (yI ((s.qw[i]!).qE)) (zjn ?_))))
   refine yR rfl H [1] fun H=>?_
   have S:=H.jR [1] [0,1,2,3,4,5,6,7,8,9,10,11]
   refine rtp 0 (.slice Qm jJ yQ) S ?_
   refine rtp 1 (yI ((s.qw[i]!).qE)) S ?_
   refine rtp 2 (.slice Qm jJ yQ) S ?_
   refine rtp 3 (yI ((s.qw[i]!).qE)) S ?_
   obtain ⟨b45,rfl⟩:=H.QP 0 rfl qf
   have S:=H.jR [1] [0,1,2,3,4,5,6,7,8,9,10,11]
   refine tI 4 rfl rfl rfl S ?_
   refine rtp 6 (pp bs os) S ?_
   refine rtp 7 (pp bs os) S ?_
   refine tF 8 rfl rfl S ?_
   refine tL 9 rfl rfl (fun _ h=>h.xX 8 rfl 2 rfl) S ?_
   refine rtp 10 (yI i) S ?_
   refine tI 11 rfl rfl rfl S ?_
   refine tF 12 rfl rfl S ?_
   refine tL 13 rfl rfl (fun _ h=>h.xX 6 rfl 2 rfl) S ?_
   refine rtp 14 (.slice (aa b36 o37) counts.length ccounts) S ?_
   refine rtp 15 (yI i) S ?_
   refine tI 16 rfl rfl rfl S ?_
   refine tL 17 rfl rfl (fun _ h=>h.Qs 11 rfl i qf) S ?_
   refine rt 18 (yI (-(counts[i]!))) (y_neg (counts[i]!) rfl qf) S ?_
   refine ro 5 rfl ?_
   obtain ⟨a46,c47,G48,s49,h50,H⟩:=H.jD 0 rfl 7 rfl (iv:=(s.qw[i]!).qE) (((s.qw[i]!).qE).toNat) qf qf
   refine zh (.slice a46 (((jS s t counts i)[((s.qw[i]!).qE).toNat]!).length) c47) isAgg24 rfl (h50) (⟨H.pick [1] [1,2,3,4,5,6,7,8,9,10,11,12],(ro 19 rfl ?_)⟩)
   obtain ⟨u1,u2⟩:=restR_row (c:=(s.qw[i]!).qE.toNat) p0 p1 p2 (show i≤_ by omega) qk
   have u3:=b1.len
   have u4:=b1.jX (t:= -(counts[i]!)) qf
   have sz51:=H.base.size
   have lt52:=H.ltN (L:=[Qu]) [8]
   refine oc (QY _ ((jS s t counts i)[((s.qw[i]!).qE).toNat]!) ((s.qw[i]!).xy) (-(counts[i]!)) (H.get 0 rfl).1 (H.get 1 rfl).1 qg qg qg) ?_
   rintro v56 w54 r56 x55
   replace H:=H.zq x55 r56
   obtain ⟨a57,c58,rfl,hc59,hm60⟩:=H.jO 0 rfl
   refine ⟨H.pick [2] [1,2,3,4,5,6,7,8,9,10,11,12],(tI 20 rfl rfl rfl (H.pick [2] [1,2,3,4,5,6,7,8,9,10,11,12]) ?_)⟩
   refine ro 21 rfl ?_
   obtain ⟨G62,N,hn63,H⟩:=H.zT 0 rfl N (H.yG [8])
   refine jm true H 1 rfl 9 rfl (.slice a57 ((jW ((jS s t counts i)[((s.qw[i]!).qE).toNat]!) ((s.qw[i]!).xy) (-(counts[i]!))).length) c58) 0 rfl rfl sizeOf24 rfl rfl (i:=(((s.qw[i]!).qE).toNat)) qf qf qm fun w61 xs64 F65 hs66 H=>?_
   replace N:Fresh w.heap.size [F65]:=(N.pick [1,0]).repl hs66
   refine ⟨H.pick [2] [3,4,5,6,7,8,9,10,11,12,13,14],(qZ qh (b_n (t_n (zk (sp (yI i) (sw (zX i 1 rfl rfl qf (sp (yI (i+1)) (zt (xu (m' :=(counts.length - ((i+1):Int)).toNat) qf ⟨_,i+1,((jS s t counts i).set (((s.qw[i]!).qE).toNat) (jW ((jS s t counts i)[((s.qw[i]!).qE).toNat]!) ((s.qw[i]!).xy) (-(counts[i]!)))),xs64,F65,uE5,?_,?_,?_,rfl,N,H.pick [1,2] [0,11,12,13,14]⟩))))))))))⟩
   · rfl
   · omega
   · exact i1.succ (fun h=>by obtain ⟨u,v⟩:=h;first | omega | exact v (appl_true qf ‹_›))
  replace h39:=of_decide_eq_true h39
  refine qK 50 rfl rfl (sp (.slice ra1 ((appl s t).length) rc1) (qK 50 rfl rfl (sp (yI i) (qK 50 rfl rfl ?_))))
  obtain ⟨b67,rfl⟩:=H.QP 1 rfl qf
  refine oI rfl rfl (qK 50 rfl rfl (oL rfl (H.rowBool 1 rfl (iv:=i) (i:=i) qf qf) (qK 50 rfl rfl (sps [.bool (!((appl s t)[i]!)),.bool (!((appl s t)[i]!))] (zjn (xW (!((appl s t)[i]!)) rfl (fun h68=>?_) (fun h68=>?_)))))))
  ·skip
   replace h68:=xB h68
   refine zcr (sps [.slice Qm jJ yQ,.slice Qm jJ yQ,.bool false] (zjr (t_r (zr5 (ret2 (.slice Qm jJ yQ) (.bool false) rfl rfl rfl ⟨_,rfl,?_,H.base⟩)))))
   rw [stop_first (k:=i) i1 qf ⟨by omega,appl_false qf ‹_›⟩,xh (fun h=>h.1 i qf ⟨by omega,appl_false qf ‹_›⟩)]
   exact ⟨Qm,jJ,yQ,QO,Qu,rfl,N,H.pick [0] [0]⟩
  replace h68:=xm h68
  refine xx (t_n (zcr (sps [pp bs os,pp bs os] (oF rfl (oL rfl (H.xX 1 rfl 2 rfl) (sp (yI i) ?_))))))
  obtain ⟨b69,o70,rfl⟩:=H.addr 3 rfl qf
  obtain ⟨ae72Need,ce72Need,Fe72Need,ae72Have,ce72Have,Fe72Have,ae72Lack,ce72Lack,Fe72Lack,ae72Here,ce72Here,Fe72Here,ae72Out,ce72Out,Fe72Out,ae72Into,ce72Into,Fe72Into,H⟩:=H.Qo 3 rfl i i qf qf qf
  refine oI rfl rfl (oF rfl (oL rfl (H.xX 6 rfl 0 rfl) (sp (yI ((s.qw[i]!).qE)) (zjn ?_))))
  refine yR rfl H [1] fun H=>?_
  have S:=H.jR [1] [0,1,2,3,4,5,6,7,8,9,10,11]
  refine rtp 0 (.slice Qm jJ yQ) S ?_
  refine rtp 1 (yI ((s.qw[i]!).qE)) S ?_
  refine rtp 2 (.slice Qm jJ yQ) S ?_
  refine rtp 3 (yI ((s.qw[i]!).qE)) S ?_
  obtain ⟨b74,rfl⟩:=H.QP 0 rfl qf
  have S:=H.jR [1] [0,1,2,3,4,5,6,7,8,9,10,11]
  refine tI 4 rfl rfl rfl S ?_
  refine rtp 6 (pp bs os) S ?_
  refine rtp 7 (pp bs os) S ?_
  refine tF 8 rfl rfl S ?_
  refine tL 9 rfl rfl (fun _ h=>h.xX 8 rfl 2 rfl) S ?_
  refine rtp 10 (yI i) S ?_
  refine tI 11 rfl rfl rfl S ?_
  refine tF 12 rfl rfl S ?_
  refine tL 13 rfl rfl (fun _ h=>h.xX 6 rfl 2 rfl) S ?_
  refine rtp 14 (.slice (aa b36 o37) counts.length ccounts) S ?_
  refine rtp 15 (yI i) S ?_
  refine tI 16 rfl rfl rfl S ?_
  refine tL 17 rfl rfl (fun _ h=>h.Qs 11 rfl i qf) S ?_
  refine rt 18 (yI (-(counts[i]!))) (y_neg (counts[i]!) rfl qf) S ?_
  refine ro 5 rfl ?_
  obtain ⟨a75,c76,G77,s78,h79,H⟩:=H.jD 0 rfl 7 rfl (iv:=(s.qw[i]!).qE) (((s.qw[i]!).qE).toNat) qf qf
  refine zh (.slice a75 (((jS s t counts i)[((s.qw[i]!).qE).toNat]!).length) c76) isAgg24 rfl (h79) (⟨H.pick [1] [1,2,3,4,5,6,7,8,9,10,11,12],(ro 19 rfl ?_)⟩)
  obtain ⟨u1,u2⟩:=restR_row (c:=(s.qw[i]!).qE.toNat) p0 p1 p2 (show i≤_ by omega) qk
  have u3:=b1.len
  have u4:=b1.jX (t:= -(counts[i]!)) qf
  have sz80:=H.base.size
  have lt81:=H.ltN (L:=[Qu]) [8]
  refine oc (QY _ ((jS s t counts i)[((s.qw[i]!).qE).toNat]!) ((s.qw[i]!).xy) (-(counts[i]!)) (H.get 0 rfl).1 (H.get 1 rfl).1 qg qg qg) ?_
  rintro v85 w83 r85 x84
  replace H:=H.zq x84 r85
  obtain ⟨a86,c87,rfl,hc88,hm89⟩:=H.jO 0 rfl
  refine ⟨H.pick [2] [1,2,3,4,5,6,7,8,9,10,11,12],(tI 20 rfl rfl rfl (H.pick [2] [1,2,3,4,5,6,7,8,9,10,11,12]) ?_)⟩
  refine ro 21 rfl ?_
  obtain ⟨G91,N,hn92,H⟩:=H.zT 0 rfl N (H.yG [8])
  refine jm true H 1 rfl 9 rfl (.slice a86 ((jW ((jS s t counts i)[((s.qw[i]!).qE).toNat]!) ((s.qw[i]!).xy) (-(counts[i]!))).length) c87) 0 rfl rfl sizeOf24 rfl rfl (i:=(((s.qw[i]!).qE).toNat)) qf qf qm fun w90 xs93 F94 hs95 H=>?_
  replace N:Fresh w.heap.size [F94]:=(N.pick [1,0]).repl hs95
  refine ⟨H.pick [2] [3,4,5,6,7,8,9,10,11,12,13,14],(qZ qh (b_n (t_n (zk (sp (yI i) (sw (zX i 1 rfl rfl qf (sp (yI (i+1)) (zt (xu (m' :=(counts.length - ((i+1):Int)).toNat) qf ⟨_,i+1,((jS s t counts i).set (((s.qw[i]!).qE).toNat) (jW ((jS s t counts i)[((s.qw[i]!).qE).toNat]!) ((s.qw[i]!).xy) (-(counts[i]!)))),xs93,F94,uE5,?_,?_,?_,rfl,N,H.pick [1,2] [0,11,12,13,14]⟩))))))))))⟩
  · rfl
  · omega
  · exact i1.succ (fun h=>by obtain ⟨u,v⟩:=h;first | omega | exact v (appl_true qf ‹_›))
 refine zx4 (zcc (sp (yI 0) (zjn (xw ?_))))
 refine vJ (fun m' ρ w96=>∃ (zB:Env) (c_1:Nat),ρ=upd (upd zB 9 (.slice Qm jJ yQ)) 13 (yI c_1)∧((c_1:Int)≤jJ)∧(NonNeg (jS s t counts i) c_1)∧m' =(jJ - (c_1:Int)).toNat∧Fresh w.heap.size [Qu]∧St w w96 [rr Qm jJ yQ 24 1 QO,rr ra1 ((appl s t).length) rc1 4 1 ((appl s t).map (Value.bool))] [xf true Qu QO (jS s t counts i)]) ((jJ - (0:Int)).toNat) ⟨_,0,uE2,qf,(by exact fun j hj=>by omega),rfl,N,H.pick [0,1] [0]⟩ ?_
 clear H N
 rintro m' ρ w97 ⟨zB,c_1,rfl,i0,i2,rfl,N,H⟩
 refine zcc (sps [yI c_1,.slice Qm jJ yQ] (oN rfl (sp (.bool (decide ((c_1:Int) < jJ))) (zjn (cD rfl (fun h98=>?_) (fun h98=>?_))))))
 ·skip
  have r1:=(restR_row (c:=c_1) p0 p1 p2 (show i≤_ by omega) (show c_1 < jb s by omega)).1
  refine xx (t_n (zn (xw (zcr (sp (yI 0) (zjn (xw ?_)))))))
  refine vJ (fun m' ρ w99=>∃ (zB:Env) (k:Nat),ρ=upd (upd (upd zB 9 (.slice Qm jJ yQ)) 13 (yI c_1)) 14 (yI k)∧((k:Int)≤(((jS s t counts i)[c_1]!).length))∧(∀ j,j < k→0≤((jS s t counts i)[c_1]!)[j]!)∧m' =((((jS s t counts i)[c_1]!).length) - (k:Int)).toNat∧Fresh w.heap.size [Qu]∧St w w99 [rr Qm jJ yQ 24 1 QO,rr ra1 ((appl s t).length) rc1 4 1 ((appl s t).map (Value.bool))] [xf true Qu QO (jS s t counts i)]) (((((jS s t counts i)[c_1]!).length) - (0:Int)).toNat) ⟨_,0,uE3,qf,(by exact fun j hj=>by omega),rfl,N,H⟩ ?_
  clear H N
  rintro m' ρ w100 ⟨zB,k,rfl,i0,i3,rfl,N,H⟩
  refine zcc (sps [yI k,.slice Qm jJ yQ,yI c_1] ?_)
  obtain ⟨b101,rfl⟩:=H.QP 0 rfl qf
  refine oI rfl rfl ?_
  obtain ⟨a102,c103,G104,s105,h106,H⟩:=H.jD 0 rfl 0 rfl (iv:=c_1) c_1 qf qf
  refine oL rfl (h106) (oN rfl (sp (.bool (decide ((k:Int) < (((jS s t counts i)[c_1]!).length)))) (zjn (cD rfl (fun h107=>?_) (fun h107=>?_)))))
  ·skip
   refine xx (t_n (zn (xw (zcr (sps [.slice (aa b101 0) jJ yQ,yI c_1] (oI rfl rfl ?_))))))
   obtain ⟨a108,c109,G110,s111,h112,H⟩:=H.jD 0 rfl 1 rfl (iv:=c_1) c_1 qf qf
   refine oL rfl (h112) (sp (yI k) ?_)
   obtain ⟨b113,o114,rfl⟩:=H.addr 0 rfl qf
   refine oI rfl rfl (oL rfl (H.yE 0 rfl k qf qf) (sp (.bool (decide ((((jS s t counts i)[c_1]!)[k]! :Int) < 0))) (zjn (cD rfl (fun h116=>?_) (fun h116=>?_)))))
   ·skip
    refine zcr (sps [.slice (aa b101 0) jJ yQ,.slice (aa b101 0) jJ yQ,.bool false] (zjr (b_r (t_r (t_r (b_r (zr5 (ret2 (.slice (aa b101 0) jJ yQ) (.bool false) rfl rfl rfl ⟨_,rfl,?_,H.base⟩))))))))
    obtain rfl:i=counts.length:=by omega
    rw [stop_none (n:=counts.length) i1,xh (fun h=>by have:=h.2 c_1 qf k qf;omega)]
    exact ⟨(aa b101 0),jJ,yQ,QO,Qu,rfl,N,H.pick [0] [2]⟩
   refine xx (b_n (t_n (zk (sp (yI k) (sw (zX k 1 rfl rfl qf (sp (yI (k+1)) (zt (xu (m' :=((((jS s t counts i)[c_1]!).length) - ((k+1):Int)).toNat) qf ⟨_,k+1,uE3,?_,?_,rfl,N,H.pick [0,1] [2]⟩)))))))))
   · omega
   · exact fun j hj=>by (by_cases e:j=k;(subst e;omega);exact i3 j qf)
  refine c_exit (t_x (t_x (b_x (b_n (t_n (zk (sp (yI c_1) (sw (zX c_1 1 rfl rfl qf (sp (yI (c_1+1)) (zt (xu (m' :=(jJ - ((c_1+1):Int)).toNat) qf ⟨_,c_1+1,uE2,?_,?_,rfl,N,H.pick [0,1] [1]⟩))))))))))))
  · omega
  · exact i2.succ (fun j hj=>i3 j qf)
 refine zx4 (zcr (sps [.slice Qm jJ yQ,.slice Qm jJ yQ,.bool true] (zjr (ret2 (.slice Qm jJ yQ) (.bool true) rfl rfl rfl ⟨_,rfl,?_,H.base⟩))))
 obtain rfl:i=counts.length:=by omega
 rw [stop_none (n:=counts.length) i1,yC ⟨i1,(show c_1=t.qI.length by omega)▸i2⟩]
 exact ⟨Qm,jJ,yQ,QO,Qu,rfl,N,H.pick [0] [0]⟩
theorem l03First_ok (w:World) (s:qy) (t:qG) {qB:yOA} {xe:yLN} {qL:yOA} {xI:yLN} {qX:yOA} {zg:yLN} {xG:yOA} {zO:yLN} {qO:yOA} {xN:yLN} (hs:vV w bs os (yS s qB qA qL qJ)) (qV:qU.rep w xe [.slice qB s.qx.length qA] s.qx) (xF:qU.rep w xI [.slice qL s.qw.length qJ] s.qw) (ht:vV w bt ot (yT t qX qR xG xA qO qN)) (zf:qU.rep w zg [.slice qX t.qC.length qR] t.qC) (zK:qU.rep w zO [.slice xG t.qI.length xA] t.qI) (xO:qU.rep w xN [.slice qO t.qF.length qN] t.qF) (p0:yH s) (p1:zl s t):Calls Try.prog 58 #[pp bs os,pp bt ot] w (Ret (fun v w' =>∃ (ra:yOA) (rn:Nat) (rc:Nat),v=.slice ra rn rc∧Fresh w.heap.size []∧St w w' [rr ra rn rc 2 1 ((xR s t).map (Value.int .i64))] []) w):=by
 refine en func58 ntmps58 ?_
 have H:=(((((((St.start w).arg xO).arg zK).arg zf).argAt ht).arg xF).arg qV).argAt hs
 have vG:=qP qV
 have jM:=qP xF
 have Qh:=qP zf
 have QR:=qP zK
 have yO:=qP xO
 clear hs qV xF ht zf zK xO
 have N:=Fresh.nil w.heap.size
 have p3:=p0.2.1
 have p7:=p1.2.1
 have p8:=kinds_le p0
 have p9:=p0.1.2.1
 have p11:jb s=s.qx.length:=rfl
 refine zcr (sp yN (zjc (sps [pp bs os,pp bt ot] ?_)))
 have sz4:=H.base.size
 refine sw (oc (l03Applicable_ok _ s t (qH (H.get 0 rfl) 0 3) (H.get 1 rfl).1 (H.get 2 rfl).1 (qH (H.get 3 rfl) 0 3) (H.get 4 rfl).1 (H.get 5 rfl).1 (H.get 6 rfl).1 qg qg) ?_)
 rintro _ w2 ⟨ra1,rn1,rc1,rfl,M,K⟩ _
 replace H:=H.merge K M
 obtain rfl:=H.Q7 0 rfl
 have al:=appl_len s t
 refine sp (.slice ra1 ((appl s t).length) rc1) (zjc (sw (QQ H underlying29 ti24 fun b7 w8 H=>sp (.slice (aa b7 0) 0 0) (zjcc (sp (yI 0) (zjn (xw ?_)))))))
 replace H:=H.boxRow 0 rfl 1 0 rfl qj
 replace H:=H.Qv (α:=yLI)
 refine vJ (fun m' ρ w9=>∃ (zB:Env) (Qm:yOA) (jJ:Nat) (yQ:Nat) (rest:yLL) (Xq:List Value) (QX:yLN) (c:Nat),ρ=upd (upd (upd (upd (upd zB 0 (pp bs os)) 1 (pp bt ot)) 5 (.slice ra1 ((appl s t).length) rc1)) 6 (.slice Qm jJ yQ)) 7 (yI c)∧rest=t.qI.take c∧((c:Int)≤t.qI.length)∧m' =(t.qI.length - (c:Int)).toNat∧Fresh w.heap.size [QX]∧St w w9 [rr Qm jJ yQ 24 1 Xq,rr ra1 ((appl s t).length) rc1 4 1 ((appl s t).map (Value.bool))] [xf true QX Xq rest,atF bs os (yS s qB qA qL qJ),sF false xe qB qA s.qx,sF false xI qL qJ s.qw,atF bt ot (yT t qX qR xG xA qO qN),sF false zg qX qR t.qC,sF false zO xG xA t.qI,sF false xN qO qN t.qF]) ((t.qI.length - (0:Int)).toNat) ⟨_,(aa b7 0),0,0,([]:yLL),[],[],0,uE5,(by rfl),qf,rfl,N.emp,H⟩ ?_
 clear H N
 rintro m' ρ w10 ⟨zB,Qm,jJ,yQ,rest,Xq,QX,c,rfl,rfl,i0,rfl,N,H⟩
 have hn_rest:=H.zi (α:=yLI) 0 rfl 0 rfl qj
 have p4:=(p1.bagLen (k:=c))
 rw [List.length_take_of_le qf] at hn_rest
 refine zcc (sps [yI c,pp bt ot,pp bt ot] (oF rfl (oL rfl (H.xX 4 rfl 1 rfl) (oN rfl (sp (.bool (decide ((c:Int) < t.qI.length))) (zjn (cD rfl (fun h11=>?_) (fun h11=>?_))))))))
 ·skip
  refine xx (t_n (zn (xw (zk (sps [.slice Qm jJ yQ,pp bt ot,pp bt ot] (oF rfl (oL rfl (H.xX 4 rfl 1 rfl) (sp (yI c) ?_))))))))
  obtain ⟨b12,o13,rfl⟩:=H.addr 6 rfl qf
  obtain ⟨ae15,ce15,Fe15,H⟩:=H.QL 6 rfl c c qf qf qf
  refine oI rfl rfl (oL rfl (H.xX 1 rfl 0 rfl) ?_)
  have p5:=(p1.bagLen (k:=c) qf).len
  have sz16:=H.base.size
  have lt17:=H.ltN (L:=[QX]) [2]
  refine sw (oc (l00Own_ok _ (t.qI[c]!) (H.get 0 rfl).1 qg) ?_)
  rintro v21 w19 r21 x20
  replace H:=H.zq x20 r21
  obtain ⟨a22,c23,rfl,hc24,hm25⟩:=H.jO 0 rfl
  refine sw (vF H underlying29 ti24 [.slice a22 ((t.qI[c]!).length) c23] fun b26 w27 H=>?_)
  obtain ⟨G31,N,hn32,H⟩:=H.zT 1 rfl N (H.yG [2])
  refine sw (vP H 2 rfl 0 rfl underlying29 ti24 rfl qj rfl rfl rfl (by simp [Value.oneCell',Value.cells]) qp qf fun a28 c29 w30 H=>?_)
  replace H:=H.Q5 3 rfl 0 rfl
  replace N:Fresh w.heap.size [(QX++G31)]:=(N.pick [1,0]).join
  refine sp (.slice a28 (jJ+1) c29) (zt (b_n (t_n (zk (sp (yI c) (sw (zX c 1 rfl rfl (by (first | omega | (have u8:=firstC_bd p0 p1 (k:=i) qf;rw [QZ ‹_›] at u8;omega))) (sp (yI (c+1)) (zt (xu (m' :=(t.qI.length - ((c+1):Int)).toNat) qf ⟨_,a28,jJ+1,c29,((t.qI.take c)++[(t.qI[c]!)]),Xq++[.slice a22 ((t.qI[c]!).length) c23],(QX++G31),c+1,uE5,?_,?_,rfl,N,H.pick [2,3] [0,5,6,7,8,9,10,11]⟩))))))))))
  · exact take_snoc qf
  · omega
 refine zx4 (zcr (sw (QQ H underlying24 ti2 fun b33 w34 H=>sp (.slice (aa b33 0) 0 0) (zjcc (sp (yI 0) (zjn (xw ?_)))))))
 replace H:=H.boxRowI 0 [] 0
 refine vJ (fun m' ρ w35=>∃ (zB:Env) (Xp:yOA) (QK:Nat) (Xo:Nat) (out:yLI) (i:Nat) (rest_1:yLL) (QO:List Value) (Qu:yLN),ρ=upd (upd (upd (upd (upd zB 0 (pp bs os)) 5 (.slice ra1 ((appl s t).length) rc1)) 6 (.slice Qm jJ yQ)) 8 (.slice Xp QK Xo)) 9 (yI i)∧out=firstTo s t i i∧rest_1=zU s t i∧((i:Int)≤((appl s t).length))∧m' =(((appl s t).length) - (i:Int)).toNat∧Fresh w.heap.size [Qu]∧St w w35 [rr Xp QK Xo 2 1 (out.map (Value.int .i64)),rr Qm jJ yQ 24 1 QO,rr ra1 ((appl s t).length) rc1 4 1 ((appl s t).map (Value.bool))] [xf true Qu QO rest_1,atF bs os (yS s qB qA qL qJ),sF false xe qB qA s.qx,sF false xI qL qJ s.qw]) ((((appl s t).length) - (0:Int)).toNat) ⟨_,(aa b33 0),0,0,([]:yLI),0,(t.qI.take c),Xq,QX,uE5,(by rfl),(by rw [List.take_of_length_le qf];rfl),qf,rfl,N,H.pick [0,1,2] [0,1,2,3]⟩ ?_
 clear H N
 rintro m' ρ w36 ⟨zB,Xp,QK,Xo,out,i,rest_1,QO,Qu,rfl,rfl,rfl,i0,rfl,N,H⟩
 have hn_out:=H.zS 0 rfl
 have hn_rest:=H.zi (α:=yLI) 1 rfl 0 rfl qj
 have fl:=jo s t i i
 have rl:=(firstR_box p0 p1 i qf).1
 refine zcc (sps [yI i,.slice ra1 ((appl s t).length) rc1] (oN rfl (sp (.bool (decide ((i:Int) < ((appl s t).length)))) (zjn (cD rfl (fun h37=>?_) (fun h37=>?_))))))
 ·skip
  have q:=p0.rule (i:=i) qf
  have qc:=q.1
  have qk:=q.cell
  have qr:=q.2.1
  have b1:=q.2.2.2.2.1
  refine xx (t_n (zn (xw (zcr (sp (yI 0) (zjcc (sps [.slice ra1 ((appl s t).length) rc1,yI i] ?_)))))))
  obtain ⟨b38,rfl⟩:=H.QP 2 rfl qf
  refine oI rfl rfl (oL rfl (H.rowBool 2 rfl (iv:=i) (i:=i) qf qf) (zjn (xW ((appl s t)[i]!) rfl (fun h39=>?_) (fun h39=>?_))))
  ·skip
   replace h39:=appl_true qf h39
   refine zcr (sps [pp bs os,pp bs os] (oF rfl (oL rfl (H.xX 1 rfl 2 rfl) (sp (yI i) ?_))))
   obtain ⟨b40,o41,rfl⟩:=H.addr 3 rfl qf
   obtain ⟨ae43Need,ce43Need,Fe43Need,ae43Have,ce43Have,Fe43Have,ae43Lack,ce43Lack,Fe43Lack,ae43Here,ce43Here,Fe43Here,ae43Out,ce43Out,Fe43Out,ae43Into,ce43Into,Fe43Into,H⟩:=H.Qo 3 rfl i i qf qf qf
   refine oI rfl rfl (oF rfl (oL rfl (H.xX 6 rfl 0 rfl) (sp (yI ((s.qw[i]!).qE)) (zjn (zn ?_)))))
   refine yF rfl H fun H=>rtp 0 (pp bs os) H ?_
   refine rtp 1 (pp bs os) H ?_
   refine tF 2 rfl rfl H ?_
   refine tL 3 rfl rfl (fun _ h=>h.xX 8 rfl 2 rfl) H ?_
   refine rtp 4 (yI i) H ?_
   refine tI 5 rfl rfl rfl H ?_
   refine tF 6 rfl rfl H ?_
   refine tL 7 rfl rfl (fun _ h=>h.xX 6 rfl 2 rfl) H ?_
   refine rtp 8 (.slice Qm jJ yQ) H ?_
   refine rtp 9 (yI ((s.qw[i]!).qE)) H ?_
   obtain ⟨b45,rfl⟩:=H.QP 1 rfl qf
   refine tI 10 rfl rfl rfl H ?_
   refine ro 11 rfl ?_
   obtain ⟨a46,c47,G48,s49,h50,H⟩:=H.jD 1 rfl 7 rfl (iv:=(s.qw[i]!).qE) (((s.qw[i]!).qE).toNat) qf qf
   refine zh (.slice a46 (((zU s t i)[((s.qw[i]!).qE).toNat]!).length) c47) isAgg24 rfl (h50) (⟨H.pick [0,1,2] [1,2,3,4,5,6,7,8,9,10,11],(ro 12 rfl ?_)⟩)
   obtain ⟨u1,u2,u5⟩:=firstR_row (c:=(s.qw[i]!).qE.toNat) p0 p1 (show i≤_ by omega) qk
   have u3:=b1.len
   have u6:∀ k,k < ((s.qw[i]!).xy).length→0≤((zU s t i)[(s.qw[i]!).qE.toNat]!)[k]! ∧((zU s t i)[(s.qw[i]!).qE.toNat]!)[k]! ≤1000:=fun k hk=>u5 k qf
   have u7:=sum_pos b1.1 q.2.2.2.2.2.2.2.2.2.1
   refine oq (l01Times_ok _ ((s.qw[i]!).xy) ((zU s t i)[((s.qw[i]!).qE).toNat]!) (H.get 1 rfl).1 (H.get 0 rfl).1 qg qg qg) H fun w52 H=>⟨H.pick [0,1,2] [1,2,3,4,5,6,7,8,9,10,11],(rtp 13 (yI (y8 ((s.qw[i]!).xy) ((zU s t i)[((s.qw[i]!).qE).toNat]!))) (H.pick [0,1,2] [1,2,3,4,5,6,7,8,9,10,11]) ?_)⟩
   refine qZ qh (t_n ?_)
   refine yR rfl H [0,2] fun H=>?_
   have S:=H.jR [0,2] [0,1,2,3,4,5,6,7,8,9,10,11]
   refine rtp 0 (.slice (aa b45 0) jJ yQ) S ?_
   refine rtp 1 (yI ((s.qw[i]!).qE)) S ?_
   refine rtp 2 (.slice (aa b45 0) jJ yQ) S ?_
   refine rtp 3 (yI ((s.qw[i]!).qE)) S ?_
   refine tI 4 rfl rfl rfl S ?_
   refine rtp 6 (pp bs os) S ?_
   refine rtp 7 (pp bs os) S ?_
   refine tF 8 rfl rfl S ?_
   refine tL 9 rfl rfl (fun _ h=>h.xX 9 rfl 2 rfl) S ?_
   refine rtp 10 (yI i) S ?_
   refine tI 11 rfl rfl rfl S ?_
   refine tF 12 rfl rfl S ?_
   refine tL 13 rfl rfl (fun _ h=>h.xX 7 rfl 2 rfl) S ?_
   refine rtp 14 (yI (y8 ((s.qw[i]!).xy) ((zU s t i)[((s.qw[i]!).qE).toNat]!))) S ?_
   refine rt 15 (yI (-(y8 ((s.qw[i]!).xy) ((zU s t i)[((s.qw[i]!).qE).toNat]!)))) (y_neg (y8 ((s.qw[i]!).xy) ((zU s t i)[((s.qw[i]!).qE).toNat]!)) rfl (by (first | omega | (have u8:=firstC_bd p0 p1 (k:=i) qf;rw [QZ ‹_›] at u8;omega)))) S ?_
   refine ro 5 rfl ?_
   obtain ⟨a55,c56,G57,s58,h59,H⟩:=H.jD 1 rfl 8 rfl (iv:=(s.qw[i]!).qE) (((s.qw[i]!).qE).toNat) qf qf
   refine zh (.slice a55 (((zU s t i)[((s.qw[i]!).qE).toNat]!).length) c56) isAgg24 rfl (h59) (⟨H.pick [0,2] [1,2,3,4,5,6,7,8,9,10,11,12],(ro 16 rfl ?_)⟩)
   obtain ⟨u1,u2,u5⟩:=firstR_row (c:=(s.qw[i]!).qE.toNat) p0 p1 (show i≤_ by omega) qk
   have u3:=b1.len
   have u8:=firstC_bd p0 p1 (k:=i) qf
   rw [QZ ‹_›] at u8
   have u4:=b1.jX (t:= -(y8 (s.qw[i]!).xy ((zU s t i)[(s.qw[i]!).qE.toNat]!))) qf
   have sz60:=H.base.size
   have lt61:=H.ltN (L:=[Qu]) [9]
   refine oc (QY _ ((zU s t i)[((s.qw[i]!).qE).toNat]!) ((s.qw[i]!).xy) (-(y8 ((s.qw[i]!).xy) ((zU s t i)[((s.qw[i]!).qE).toNat]!))) (H.get 0 rfl).1 (H.get 2 rfl).1 qg qg qg) ?_
   rintro v65 w63 r65 x64
   replace H:=H.zq x64 r65
   obtain ⟨a66,c67,rfl,hc68,hm69⟩:=H.jO 0 rfl
   refine ⟨H.pick [1,3] [1,2,3,4,5,6,7,8,9,10,11,12],(tI 17 rfl rfl rfl (H.pick [1,3] [1,2,3,4,5,6,7,8,9,10,11,12]) ?_)⟩
   refine ro 18 rfl ?_
   obtain ⟨G71,N,hn72,H⟩:=H.zT 0 rfl N (H.yG [9])
   refine jm true H 2 rfl 10 rfl (.slice a66 ((jW ((zU s t i)[((s.qw[i]!).qE).toNat]!) ((s.qw[i]!).xy) (-(y8 ((s.qw[i]!).xy) ((zU s t i)[((s.qw[i]!).qE).toNat]!)))).length) c67) 0 rfl rfl sizeOf24 rfl rfl (i:=(((s.qw[i]!).qE).toNat)) qf qf qm fun w70 xs73 F74 hs75 H=>?_
   replace N:Fresh w.heap.size [F74]:=(N.pick [1,0]).repl hs75
   refine ⟨H.pick [1,3] [3,4,5,6,7,8,9,10,11,12,13,14],(qZ qh (t_n (zk (sps [.slice Xp QK Xo,yI (y8 ((s.qw[i]!).xy) ((zU s t i)[((s.qw[i]!).qE).toNat]!))] (sw (vF H underlying24 ti2 [yI (y8 ((s.qw[i]!).xy) ((zU s t i)[((s.qw[i]!).qE).toNat]!))] fun b76 w77 H=>sw (vP H 2 rfl 0 rfl underlying24 ti2 rfl qj rfl rfl rfl (by simp [Value.oneCell',Value.cells]) qp qf fun a78 c79 w80 H=>?_)))))))⟩
   rw [snocI] at H
   refine sp (.slice a78 (QK+1) c79) (zt (b_n (t_n (zk (sp (yI i) (sw (zX i 1 rfl rfl (by (first | omega | (have u8:=firstC_bd p0 p1 (k:=i) qf;rw [QZ ‹_›] at u8;omega))) (sp (yI (i+1)) (zt ?_)))))))))
   refine xu (m' :=(((appl s t).length) - ((i+1):Int)).toNat) qf ⟨_,a78,QK+1,c79,((firstTo s t i i)++[y8 ((s.qw[i]!).xy) ((zU s t i)[((s.qw[i]!).qE).toNat]!)]),i+1,((zU s t i).set (((s.qw[i]!).qE).toNat) (jW ((zU s t i)[((s.qw[i]!).qE).toNat]!) ((s.qw[i]!).xy) (-(y8 ((s.qw[i]!).xy) ((zU s t i)[((s.qw[i]!).qE).toNat]!))))),xs73,F74,uE5,?_,?_,?_,rfl,N,H.pick [2,3,4] [0,12,13,14]⟩
   · exact firstTo_snoc' (by first | exact (QZ ‹_›).symm | exact (firstC_no ‹_›).symm)
   · first | exact (firstR_yes ‹_›).symm | exact (firstR_no ‹_›).symm
   · omega
  replace h39:=appl_false qf h39
  refine xx (t_n (zk (sps [.slice Xp QK Xo,yI 0] (sw (vF H underlying24 ti2 [yI 0] fun b81 w82 H=>sw (vP H 1 rfl 0 rfl underlying24 ti2 rfl qj rfl rfl rfl (by simp [Value.oneCell',Value.cells]) qp qf fun a83 c84 w85 H=>?_))))))
  rw [snocI] at H
  refine sp (.slice a83 (QK+1) c84) (zt (b_n (t_n (zk (sp (yI i) (sw (zX i 1 rfl rfl (by (first | omega | (have u8:=firstC_bd p0 p1 (k:=i) qf;rw [QZ ‹_›] at u8;omega))) (sp (yI (i+1)) (zt (xu (m' :=(((appl s t).length) - ((i+1):Int)).toNat) qf ⟨_,a83,QK+1,c84,((firstTo s t i i)++[0]),i+1,(zU s t i),QO,Qu,uE5,?_,?_,?_,rfl,N,H.pick [1,2,3] [0,1,2,3]⟩))))))))))
  · exact firstTo_snoc' (by first | exact (QZ ‹_›).symm | exact (firstC_no ‹_›).symm)
  · first | exact (firstR_yes ‹_›).symm | exact (firstR_no ‹_›).symm
  · omega
 refine zx4 (zcr (sps [.slice Xp QK Xo,.slice Xp QK Xo] (zjr (ret1 (.slice Xp QK Xo) rfl rfl ⟨_,rfl,?_,H.base⟩))))
 obtain rfl:i=s.qw.length:=by omega
 exact ⟨Xp,QK,Xo,rfl,(N.pick []),H.pick [0] []⟩
theorem l03Step_ok (w:World) (s:qy) (t:qG) (counts:yLI) {qB:yOA} {xe:yLN} {qL:yOA} {xI:yLN} {qX:yOA} {zg:yLN} {xG:yOA} {zO:yLN} {qO:yOA} {xN:yLN} {acounts:yOA} {Fcounts:yLN} (hs:vV w bs os (yS s qB qA qL qJ)) (qV:qU.rep w xe [.slice qB s.qx.length qA] s.qx) (xF:qU.rep w xI [.slice qL s.qw.length qJ] s.qw) (ht:vV w bt ot (yT t qX qR xG xA qO qN)) (zf:qU.rep w zg [.slice qX t.qC.length qR] t.qC) (zK:qU.rep w zO [.slice xG t.qI.length xA] t.qI) (xO:qU.rep w xN [.slice qO t.qF.length qN] t.qF) (hcounts:qU.rep w Fcounts [.slice acounts counts.length ccounts] counts) (p0:yH s) (p1:zl s t) (p2:CntOk s counts):Calls Try.prog 57 #[pp bs os,pp bt ot,.slice acounts counts.length ccounts] w (Ret (fun v w' =>∃ (ra0Alive:yOA) (rn0Alive:Nat) (rc0Alive:Nat) (ra0Bags:yOA) (rn0Bags:Nat) (rc0Bags:Nat) (rx0Bags:List Value) (rF0Bags:yLN) (Xb:yOA) (Q9:Nat) (Xa:Nat),v=.tuple #[.agg #[.slice ra0Alive rn0Alive rc0Alive,.slice ra0Bags rn0Bags rc0Bags,.slice Xb Q9 Xa],yI ((xQ s t counts).2)]∧Fresh w.heap.size [rF0Bags]∧St w w' [rr ra0Alive rn0Alive rc0Alive 4 1 ((((xQ s t counts).1).qC).map (Value.bool)),rr ra0Bags rn0Bags rc0Bags 24 1 rx0Bags,rr Xb Q9 Xa 2 1 ((((xQ s t counts).1).qF).map (Value.int .i64))] [xf true rF0Bags rx0Bags (((xQ s t counts).1).qI)]) w):=by
 refine en func57 ntmps57 ?_
 have H:=((((((((St.start w).arg hcounts).arg xO).arg zK).arg zf).argAt ht).arg xF).arg qV).argAt hs
 have vG:=qP qV
 have jM:=qP xF
 have Qh:=qP zf
 have QR:=qP zK
 have yO:=qP xO
 have nhcounts:=qP hcounts
 clear hs qV xF ht zf zK xO hcounts
 have N:=Fresh.nil w.heap.size
 have p3:=p0.2.1
 have p6:=p2.1
 have p7:=p1.2.1
 have p8:=kinds_le p0
 have p9:=p0.1.2.1
 have p11:jb s=s.qx.length:=rfl
 have p12:=p1.1
 have p15:=p0.1
 have p16:=p0.1.1
 obtain ⟨q7,q8,q9,q10⟩:=p1.sizes p0.1
 have q13:=fun k hk=>Nat.le_trans (q10 k hk) (by decide:8≤1000000)
 have p14:=restR_len (s:=s) (t:=t) (counts:=counts)
 refine zcr (sw (xq H ti31 [yN,yN,yN] fun b1 w2 H=>sp (yI 0) (zjc (sps [pp bs os,pp bt ot,.slice acounts counts.length ccounts] ?_))))
 have sz6:=H.base.size
 refine sw (oc (l03Rest_ok _ s t counts (qH (H.get 0 rfl) 0 3) (H.get 1 rfl).1 (H.get 2 rfl).1 (qH (H.get 3 rfl) 0 3) (H.get 4 rfl).1 (H.get 5 rfl).1 (H.get 6 rfl).1 (H.get 7 rfl).1 qg qg qg) ?_)
 rintro _ w4 ⟨ra3a,rn3a,rc3a,rx3a,rF3a,rfl,M,K⟩ _
 replace N:=N.merge sz6 qm M
 replace H:=H.merge K M
 obtain rfl:=H.zi (α:=yLI) 0 rfl 0 rfl qj
 refine sps [.tuple #[.slice ra3a ((jS s t counts (Qk (BadAt s t counts) counts.length)).length) rc3a,.bool (dec (IsCh s t counts))],.slice ra3a ((jS s t counts (Qk (BadAt s t counts) counts.length)).length) rc3a,.bool (dec (IsCh s t counts)),.slice ra3a ((jS s t counts (Qk (BadAt s t counts) counts.length)).length) rc3a,.bool (dec (IsCh s t counts))] (zjcc (sps [.bool (dec (IsCh s t counts)),.bool (!(dec (IsCh s t counts)))] (zjn (cQ rfl (fun h9=>?_) (fun h9=>?_)))))
 ·skip
  refine zcr (sw (xJ [yN,yN,yN] [] (sw (qQ H 1 [yN,yN,yN] sizeOf31 fun w10 H=>sp (yI 4) (zjr (t_r ?_))))))
  replace H:=H.nilRowB 4
  replace H:=H.nilRow 24 1
  replace H:=H.Qv (α:=yLI)
  replace H:=H.nilRowI 2
  refine retC2 H 4 rfl (yI 4) rfl isAgg31 sizeOf31 rfl rfl ⟨_,rfl,?_,H.base⟩
  rw [stepBy_no ‹_›]
  exact ⟨none,0,0,none,0,0,[],[],none,0,0,rfl,(N.emp.pick [0]),H.pick [2,1,0] [0]⟩
 have st:=stop_none (n:=counts.length) (P:=BadAt s t counts) (‹IsCh s t counts›).1
 have r1:=restR_len (s:=s) (t:=t) (counts:=counts) (Qk (BadAt s t counts) counts.length)
 refine xx (t_n (zcr (sp (pp bt ot) ?_)))
 have sz14:=H.base.size
 have lt15:=H.ltN (L:=[rF3a]) [0]
 refine sw (oc (l02Own_ok _ t (qH (H.get 4 rfl) 0 3) (H.get 5 rfl).1 (H.get 6 rfl).1 (H.get 7 rfl).1 qg qg qg qg) ?_)
 rintro _ w12 ⟨yx,rn11Alive,yw,ra11Bags,rn11Bags,rc11Bags,Xy,jV,ra11Around,rn11Around,rc11Around,rfl,M,K⟩ _
 replace N:=N.merge sz14 lt15 M
 replace H:=H.merge K M
 obtain rfl:=H.Q7 0 rfl
 obtain rfl:=H.zi (α:=yLI) 1 rfl 0 rfl qj
 obtain rfl:=H.zS 2 rfl
 refine sw (xq H ti31 [yN,yN,yN] fun b19 w20 H=>sw (qQ H 0 (yT t yx yw ra11Bags rc11Bags ra11Around rc11Around) sizeOf31 fun w21 H=>zjc (sp (.slice ra3a ((jS s t counts (Qk (BadAt s t counts) counts.length)).length) rc3a) (oF rfl (sw (zQ H 0 [.slice yx t.qC.length yw,.slice ra3a ((jS s t counts (Qk (BadAt s t counts) counts.length)).length) rc3a,.slice ra11Around t.qF.length rc11Around] sizeOf29 fun w22 H=>zjcc (sp (yI 0) ?_)))))))
 refine zjn (xw ?_)
 refine vJ (fun m' ρ w23=>∃ (zB:Env) (i:Nat) (vZ:yOA) (vX:Nat) (vY:Nat) (out_Around:yLI) (rest:yLL) (Xq:List Value) (QX:yLN),ρ=upd (upd (upd (upd (upd (upd zB 0 (pp bs os)) 1 (pp bt ot)) 2 (.slice acounts counts.length ccounts)) 6 (pp b1 0)) 10 (pp b19 0)) 11 (yI i)∧((i:Int)≤counts.length)∧(Ent (s.qx.length+1) (yV s) (fun p q=>base0 s t p q+needS s counts s.qw.length p q+putS s t counts i p q) (20000000+6000000 * i) (rest++[out_Around]))∧(rest.length=s.qx.length)∧m' =(counts.length - (i:Int)).toNat∧Fresh w.heap.size [jV,QX]∧St w w23 [.box b19 [.slice yx t.qC.length yw,.slice ra3a ((jS s t counts (Qk (BadAt s t counts) counts.length)).length) rc3a,.slice vZ vX vY] 31,rr yx t.qC.length yw 4 1 (t.qC.map (Value.bool)),rr ra11Bags t.qI.length rc11Bags 24 1 Xy,rr vZ vX vY 2 1 (out_Around.map (Value.int .i64)),rr ra3a ((jS s t counts (Qk (BadAt s t counts) counts.length)).length) rc3a 24 1 Xq,.box b1 [yN,yN,yN] 31] [xf true jV Xy t.qI,xf true QX Xq rest,atF bs os (yS s qB qA qL qJ),sF false xe qB qA s.qx,sF false xI qL qJ s.qw,atF bt ot (yT t qX qR xG xA qO qN),sF false zg qX qR t.qC,sF false zO xG xA t.qI,sF false xN qO qN t.qF,sF false Fcounts acounts ccounts counts]) ((counts.length - (0:Int)).toNat) ⟨_,0,ra11Around,t.qF.length,rc11Around,t.qF,jS s t counts (Qk (BadAt s t counts) counts.length),rx3a,rF3a,uE6,qf,(by rw [st,p6];exact (rest_ent p0 p1 p2).to (fun _ _=>rfl) qf),qf,rfl,N,H⟩ ?_
 clear H N
 rintro m' ρ w24 ⟨zB,i,vZ,vX,vY,out_Around,rest,Xq,QX,rfl,i0,E_rest,z_rest,rfl,N,H⟩
 have hn_out_Around:=H.zS 3 rfl
 have hn_rest:=H.zi (α:=yLI) 4 rfl 1 rfl qj
 refine zcc (sps [yI i,.slice acounts counts.length ccounts] (oN rfl (sp (.bool (decide ((i:Int) < counts.length))) (zjn (cD rfl (fun h25=>?_) (fun h25=>?_))))))
 ·skip
  have q:=p0.rule (i:=i) qf
  have qc:=q.1
  have qk:=q.cell
  have qr:=q.2.1
  have bn1:=q.2.2.2.2.1
  have bn2:=q.2.2.2.2.2.2.2.1
  have bn3:=q.2.2.2.2.2.2.2.2.1
  have ln1:=bn1.len
  have ln2:=bn2.len
  have ln3:=bn3.len
  have p10:=p2.bd (i:=i) qf
  have qn:=q.2.2.2.1
  refine xx (t_n (zn (xw (zcr (sps [pp bs os,pp bs os] (oF rfl (oL rfl (H.xX 2 rfl 2 rfl) (sp (yI i) ?_))))))))
  obtain ⟨b26,o27,rfl⟩:=H.addr 4 rfl qf
  obtain ⟨yD,jv,y9,jB,jy,Qc,jA,jw,Qa,ae29Here,ce29Here,Fe29Here,y5,yZ,QI,jI,jH,Qb,H⟩:=H.Qo 4 rfl i i qf qf qf
  refine oI rfl rfl (sp (pp b26 (o27+(i:Int).toNat * 9)) (zjcc (sps [.slice acounts counts.length ccounts,yI i] ?_)))
  obtain ⟨b30,o31,rfl⟩:=H.addr 16 rfl qf
  refine oI rfl rfl (oL rfl (H.yE 16 rfl i qf qf) (sp (.bool ((counts[i]! :Int) == 0)) (zjn (cE rfl (fun h33=>?_) (fun h33=>?_)))))
  ·skip
   refine c_exit (t_x (b_x (t_n (zk (sp (yI i) (sw (zX i 1 rfl rfl qf (sp (yI (i+1)) (zt (xu (m' :=(counts.length - ((i+1):Int)).toNat) qf ⟨_,i+1,vZ,vX,vY,out_Around,rest,Xq,QX,uE6,?_,?_,?_,rfl,N,H.pick [0,1,2,3,4,5] [7,8,9,10,11,12,13,14,15,16]⟩))))))))))
   · omega
   · first | exact E_rest.to (fun p q=>by simp only [putS_skip (s:=s) (t:=t) (counts:=counts) (i:=i) ‹_›]) qf | exact E_out_Bags.to (fun p q=>by rw [show k=((s.qw[i]!).qM).length by omega];simp only [putS,putF];omega) qf
   · omega
  refine xx (t_n (zn ?_))
  refine yR rfl H [0,1,2,3,5] fun H=>?_
  have S:=H.jR [0,1,2,3,5] [0,1,2,3,4,5,6,7,8,9,10,11,12,13,14,15,16]
  refine tF 0 rfl rfl S ?_
  refine tL 1 rfl rfl (fun _ h=>h.cell 0 rfl rfl) S ?_
  refine rtp 2 (pp b26 (o27+(i:Int).toNat * 9)) S ?_
  refine rtp 3 (pp b26 (o27+(i:Int).toNat * 9)) S ?_
  refine tF 4 rfl rfl S ?_
  refine tL 5 rfl rfl (fun _ h=>h.xX 6 rfl 0 rfl) S ?_
  refine tF 6 rfl rfl S ?_
  refine tL 7 rfl rfl (fun _ h=>h.cell 0 rfl rfl) S ?_
  refine rtp 8 (pp b26 (o27+(i:Int).toNat * 9)) S ?_
  refine rtp 9 (pp b26 (o27+(i:Int).toNat * 9)) S ?_
  refine tF 10 rfl rfl S ?_
  refine tL 11 rfl rfl (fun _ h=>h.xX 6 rfl 0 rfl) S ?_
  obtain ⟨b35,rfl⟩:=H.QP 4 rfl qf
  have S:=H.jR [0,1,2,3,5] [0,1,2,3,4,5,6,7,8,9,10,11,12,13,14,15,16]
  refine tI 12 rfl rfl rfl S ?_
  refine rtp 14 (pp b26 (o27+(i:Int).toNat * 9)) S ?_
  refine rtp 15 (pp b26 (o27+(i:Int).toNat * 9)) S ?_
  refine tF 16 rfl rfl S ?_
  refine tL 17 rfl rfl (fun _ h=>h.xX 6 rfl 5 rfl) S ?_
  refine rtp 18 (.slice (aa b30 o31) counts.length ccounts) S ?_
  refine rtp 19 (yI i) S ?_
  refine tI 20 rfl rfl rfl S ?_
  refine tL 21 rfl rfl (fun _ h=>h.Qs 16 rfl i qf) S ?_
  refine ro 13 rfl ?_
  obtain ⟨a36,c37,G38,s39,h40,H⟩:=H.jD 4 rfl 8 rfl (iv:=(s.qw[i]!).qE) (((s.qw[i]!).qE).toNat) qf qf
  refine zh (.slice a36 ((rest[((s.qw[i]!).qE).toNat]!).length) c37) isAgg24 rfl (h40) (⟨H.pick [0,1,2,3,5] [1,2,3,4,5,6,7,8,9,10,11,12,13,14,15,16,17],(ro 22 rfl ?_)⟩)
  obtain ⟨u1,u2⟩:=Ent.rowL E_rest (c:=((s.qw[i]!).qE).toNat) qf qf qf qf
  have u4:=(by first | exact bn2.jX qf | exact bn3.jX qf | exact bn4.jX qf:SmallT ((s.qw[i]!).x9) (counts[i]!))
  have sz41:=H.base.size
  have lt42:=H.ltN (L:=[jV,QX]) [8,9]
  refine oc (QY _ (rest[((s.qw[i]!).qE).toNat]!) ((s.qw[i]!).x9) (counts[i]!) (H.get 0 rfl).1 (H.get 4 rfl).1 qg qg qg) ?_
  rintro v46 w44 r46 x45
  replace H:=H.zq x45 r46
  obtain ⟨a47,c48,rfl,hc49,hm50⟩:=H.jO 0 rfl
  refine ⟨H.pick [1,2,3,4,6] [1,2,3,4,5,6,7,8,9,10,11,12,13,14,15,16,17],(tI 23 rfl rfl rfl (H.pick [1,2,3,4,6] [1,2,3,4,5,6,7,8,9,10,11,12,13,14,15,16,17]) ?_)⟩
  refine ro 24 rfl ?_
  obtain ⟨G52,N,hn53,H⟩:=H.zT 0 rfl N (H.yG [8,9])
  refine jm true H 5 rfl 10 rfl (.slice a47 ((jW (rest[((s.qw[i]!).qE).toNat]!) ((s.qw[i]!).x9) (counts[i]!)).length) c48) 0 rfl rfl sizeOf24 rfl rfl (i:=(((s.qw[i]!).qE).toNat)) qf qf qm fun w51 xs54 F55 hs56 H=>?_
  replace N:Fresh w.heap.size [F55,jV]:=(N.pick [2,0,1]).repl hs56
  refine ⟨H.pick [1,2,3,4,6] [3,4,5,6,7,8,9,10,11,12,13,14,15,16,17,18,19],(qZ qh (t_n (zcc (sps [pp b26 (o27+(i:Int).toNat * 9),pp b26 (o27+(i:Int).toNat * 9)] (oF rfl (oL rfl (H.xX 9 rfl 0 rfl) (sp (.bool (((s.qw[i]!).qE:Int) == 0)) (zjn (cE rfl (fun h57=>?_) (fun h57=>?_))))))))))⟩
  ·skip
   obtain ⟨bg58,e_bg58⟩:∃ z,z=(rest.set (((s.qw[i]!).qE).toNat) (jW (rest[((s.qw[i]!).qE).toNat]!) ((s.qw[i]!).x9) (counts[i]!))):=⟨_,rfl⟩
   rw [← e_bg58] at H
   have E_bg58:=Ent.addL (D:=1000000) E_rest e_bg58 qf qf (by first | exact bn2.mul qf | exact bn3.mul qf | exact bn4.mul qf) qf
   have z_bg58:bg58.length=s.qx.length:=by rw [e_bg58,List.length_set];omega
   have E_cur:=E_bg58
   refine yR rfl H [0,2,3,4,5,6] fun H=>?_
   have S:=H.jR [0,2,3,4,5,6] [0,1,2,3,4,5,6,7,8,9,10,11,12,13,14,15,16,17,18,19]
   refine tF 0 rfl rfl S ?_
   refine rtp 2 (pp b26 (o27+(i:Int).toNat * 9)) S ?_
   refine rtp 3 (pp b26 (o27+(i:Int).toNat * 9)) S ?_
   refine tF 4 rfl rfl S ?_
   refine tL 5 rfl rfl (fun _ h=>h.xX 9 rfl 6 rfl) S ?_
   refine rtp 6 (.slice (aa b30 o31) counts.length ccounts) S ?_
   refine rtp 7 (yI i) S ?_
   refine tI 8 rfl rfl rfl S ?_
   refine tL 9 rfl rfl (fun _ h=>h.Qs 19 rfl i qf) S ?_
   refine ro 1 rfl (zh (.slice vZ vX vY) isAgg24 rfl (H.cell 1 rfl rfl) (⟨H.pick [0,2,3,4,5,6] [0,1,2,3,4,5,6,7,8,9,10,11,12,13,14,15,16,17,18,19],(ro 10 rfl ?_)⟩))
   obtain ⟨G60,hn61,h62⟩:=H.Ql 4 rfl
   obtain ⟨u1,u2⟩:=Ent.rowN E_bg58 qf qf qf
   have u4:=(by first | exact bn2.jX qf | exact bn3.jX qf | exact bn4.jX qf:SmallT ((s.qw[i]!).ja) (counts[i]!))
   have sz63:=H.base.size
   have lt64:=H.ltN (L:=[F55,jV]) [0,10]
   refine oc (args_eq (by rw [← hn61]) (QY _ out_Around ((s.qw[i]!).ja) (counts[i]!) (hn61▸h62) (H.get 7 rfl).1 qg qg qg)) ?_
   rintro v68 w66 r68 x67
   replace H:=H.zq x67 r68
   obtain ⟨a69,c70,rfl,hc71,hm72⟩:=H.jO 0 rfl
   refine ⟨H.pick [1,3,4,5,6,7] [0,1,2,3,4,5,6,7,8,9,10,11,12,13,14,15,16,17,18,19],(tF 11 rfl rfl (H.pick [1,3,4,5,6,7] [0,1,2,3,4,5,6,7,8,9,10,11,12,13,14,15,16,17,18,19]) ?_)⟩
   refine ro 12 rfl (zQ H 2 [.slice yx t.qC.length yw,.slice (aa b35 0) ((jS s t counts (Qk (BadAt s t counts) counts.length)).length) rc3a,.slice a69 ((jW out_Around ((s.qw[i]!).ja) (counts[i]!)).length) c70] sizeOf24 fun w73 H=>⟨H.pick [1,3,4,5,6,7] [0,1,2,3,4,5,6,7,8,9,10,11,12,13,14,15,16,17,18,19],(qZ qh (t_n (zcr (sp (yI 0) (zjn (xw ?_))))))⟩)
   replace E_bg58:=Ent.addN (D:=1000000) (a' :=jW out_Around ((s.qw[i]!).ja) (counts[i]!)) E_bg58 rfl qf (by first | exact bn2.mul qf | exact bn3.mul qf | exact bn4.mul qf) qf
   have E_cur:=E_bg58
   refine vJ (fun m' ρ w74=>∃ (zB:Env) (k:Nat) (out_Bags:yLL) (zo:List Value) (xM:yLN),ρ=upd (upd (upd (upd (upd (upd (upd (upd zB 0 (pp bs os)) 1 (pp bt ot)) 2 (.slice (aa b30 o31) counts.length ccounts)) 6 (pp b1 0)) 10 (pp b19 0)) 11 (yI i)) 12 (pp b26 (o27+(i:Int).toNat * 9))) 14 (yI k)∧((k:Int)≤(((s.qw[i]!).qM).length))∧(Ent (s.qx.length+1) (yV s) (fun p q=>base0 s t p q+needS s counts s.qw.length p q+putS s t counts i p q+at' p (s.qw[i]!).qE.toNat (counts[i]! * ((s.qw[i]!).x9)[q]!)+at' p (outPl s t (s.qw[i]!)) (counts[i]! * ((s.qw[i]!).ja)[q]!)+intoF (s.qw[i]!) (counts[i]!) k p q) (22000000+6000000 * i+1000000 * k) (out_Bags++[jW out_Around ((s.qw[i]!).ja) (counts[i]!)]))∧(out_Bags.length=s.qx.length)∧m' =((((s.qw[i]!).qM).length) - (k:Int)).toNat∧Fresh w.heap.size [jV,xM]∧St w w74 [rr a69 ((jW out_Around ((s.qw[i]!).ja) (counts[i]!)).length) c70 2 1 ((jW out_Around ((s.qw[i]!).ja) (counts[i]!)).map (Value.int .i64)),.box b19 [.slice yx t.qC.length yw,.slice (aa b35 0) ((jS s t counts (Qk (BadAt s t counts) counts.length)).length) rc3a,.slice a69 ((jW out_Around ((s.qw[i]!).ja) (counts[i]!)).length) c70] 31,rr yx t.qC.length yw 4 1 (t.qC.map (Value.bool)),rr ra11Bags t.qI.length rc11Bags 24 1 Xy,rr vZ vX vY 2 1 (out_Around.map (Value.int .i64)),rr (aa b35 0) ((jS s t counts (Qk (BadAt s t counts) counts.length)).length) rc3a 24 1 zo,.box b1 [yN,yN,yN] 31] [xf true xM zo out_Bags,sF false y9 yD jv ((s.qw[i]!).xy),sF false Qc jB jy ((s.qw[i]!).xZ),sF false Qa jA jw ((s.qw[i]!).xY),sF false Fe29Here ae29Here ce29Here ((s.qw[i]!).x9),sF false QI y5 yZ ((s.qw[i]!).ja),sF false Qb jI jH ((s.qw[i]!).qM),atF b26 (o27+(i:Int).toNat * 9) [yI ((s.qw[i]!).qE),yI ((s.qw[i]!).vC),.slice yD (((s.qw[i]!).xy).length) jv,.slice jB (((s.qw[i]!).xZ).length) jy,.slice jA (((s.qw[i]!).xY).length) jw,.slice ae29Here (((s.qw[i]!).x9).length) ce29Here,.slice y5 (((s.qw[i]!).ja).length) yZ,.slice jI (((s.qw[i]!).qM).length) jH,.bool ((s.qw[i]!).zW)],xf true jV Xy t.qI,atF bs os [yI s.xn,.slice qB s.qx.length qA,.slice (aa b26 o27) s.qw.length qJ],sF false xe qB qA s.qx,sF false xI (aa b26 o27) qJ s.qw,atF bt ot (yT t qX qR xG xA qO qN),sF false zg qX qR t.qC,sF false zO xG xA t.qI,sF false xN qO qN t.qF,sF false Fcounts (aa b30 o31) ccounts counts]) (((((s.qw[i]!).qM).length) - (0:Int)).toNat) ⟨_,0,bg58,xs54,F55,uE8,qf,(by exact E_cur.to (fun p q=>by first | (simp only [intoF,outPl_root (s:=s) (t:=t) (r:=s.qw[i]!) ‹_›,jb];omega) | (simp only [intoF,outPl_up (s:=s) (t:=t) (r:=s.qw[i]!) ‹_›];omega)) qf),qf,rfl,(N.pick [1,0]),H.pick [0,2,3,4,5,6,7] [0,3,4,5,6,7,8,9,10,12,13,14,15,16,17,18,19]⟩ ?_
   clear H N
   rintro m' ρ w75 ⟨zB,k,out_Bags,zo,xM,rfl,i0,E_out_Bags,z_out_Bags,rfl,N,H⟩
   have XD:=H.zi (α:=yLI) 5 rfl 0 rfl qj
   refine zcc (sps [yI k,pp b26 (o27+(i:Int).toNat * 9),pp b26 (o27+(i:Int).toNat * 9)] (oF rfl (oL rfl (H.xX 7 rfl 7 rfl) (oN rfl (sp (.bool (decide ((k:Int) < (((s.qw[i]!).qM).length)))) (zjn (cD rfl (fun h76=>?_) (fun h76=>?_))))))))
   ·skip
    have qi:=q.2.2.2.2.2.2.2.2.2.2 k qf
    have qi1:=qi.1
    have bn4:=qi.2.2.1
    have ln4:=bn4.len
    refine xx (t_n (zn (xw (zcr (sps [pp b26 (o27+(i:Int).toNat * 9),pp b26 (o27+(i:Int).toNat * 9)] (oF rfl (oL rfl (H.xX 7 rfl 7 rfl) (sp (yI k) ?_))))))))
    obtain ⟨b77,o78,rfl⟩:=H.addr 6 rfl qf
    obtain ⟨ae80Bag,ce80Bag,Fe80Bag,H⟩:=H.yX 6 rfl k k qf qf qf
    refine oI rfl rfl (oF rfl (oL rfl (H.xX 1 rfl 0 rfl) (sp (yI ((((s.qw[i]!).qM)[k]!).qE)) (zjn ?_))))
    refine yR rfl H [0,1,2,3,4,6] fun H=>?_
    have S:=H.jR [0,1,2,3,4,6] [0,1,2,3,4,5,6,7,8,9,10,11,12,13,14,15,16,17,18]
    refine tF 0 rfl rfl S ?_
    refine tL 1 rfl rfl (fun _ h=>h.cell 1 rfl rfl) S ?_
    refine rtp 2 (yI ((((s.qw[i]!).qM)[k]!).qE)) S ?_
    refine tF 3 rfl rfl S ?_
    refine tL 4 rfl rfl (fun _ h=>h.cell 1 rfl rfl) S ?_
    refine rtp 5 (yI ((((s.qw[i]!).qM)[k]!).qE)) S ?_
    refine tI 6 rfl rfl rfl S ?_
    refine rtp 8 (pp b26 (o27+(i:Int).toNat * 9)) S ?_
    refine rtp 9 (pp b26 (o27+(i:Int).toNat * 9)) S ?_
    refine tF 10 rfl rfl S ?_
    refine tL 11 rfl rfl (fun _ h=>h.xX 9 rfl 7 rfl) S ?_
    refine rtp 12 (yI k) S ?_
    refine tI 13 rfl rfl rfl S ?_
    refine tF 14 rfl rfl S ?_
    refine tL 15 rfl rfl (fun _ h=>h.xX 1 rfl 1 rfl) S ?_
    refine rtp 16 (.slice (aa b30 o31) counts.length ccounts) S ?_
    refine rtp 17 (yI i) S ?_
    refine tI 18 rfl rfl rfl S ?_
    refine tL 19 rfl rfl (fun _ h=>h.Qs 18 rfl i qf) S ?_
    refine ro 7 rfl ?_
    obtain ⟨a82,c83,G84,s85,h86,H⟩:=H.jD 5 rfl 2 rfl (iv:=(((s.qw[i]!).qM)[k]!).qE) (((((s.qw[i]!).qM)[k]!).qE).toNat) qf qf
    refine zh (.slice a82 ((out_Bags[((((s.qw[i]!).qM)[k]!).qE).toNat]!).length) c83) isAgg24 rfl (h86) (⟨H.pick [0,1,2,3,4,6] [1,2,3,4,5,6,7,8,9,10,11,12,13,14,15,16,17,18,19],(ro 20 rfl ?_)⟩)
    obtain ⟨u1,u2⟩:=Ent.rowL E_out_Bags (c:=((((s.qw[i]!).qM)[k]!).qE).toNat) qf qf qf qf
    have u4:=(by first | exact bn2.jX qf | exact bn3.jX qf | exact bn4.jX qf:SmallT ((((s.qw[i]!).qM)[k]!).Qz) (counts[i]!))
    have sz87:=H.base.size
    have lt88:=H.ltN (L:=[jV,xM]) [11,3]
    refine oc (QY _ (out_Bags[((((s.qw[i]!).qM)[k]!).qE).toNat]!) ((((s.qw[i]!).qM)[k]!).Qz) (counts[i]!) (H.get 0 rfl).1 (H.get 1 rfl).1 qg qg qg) ?_
    rintro v92 w90 r92 x91
    replace H:=H.zq x91 r92
    obtain ⟨a93,c94,rfl,hc95,hm96⟩:=H.jO 0 rfl
    refine ⟨H.pick [1,2,3,4,5,7] [1,2,3,4,5,6,7,8,9,10,11,12,13,14,15,16,17,18,19],(tI 21 rfl rfl rfl (H.pick [1,2,3,4,5,7] [1,2,3,4,5,6,7,8,9,10,11,12,13,14,15,16,17,18,19]) ?_)⟩
    refine ro 22 rfl ?_
    obtain ⟨G98,N,hn99,H⟩:=H.zT 0 rfl N (H.yG [11,3])
    refine jm true H 6 rfl 4 rfl (.slice a93 ((jW (out_Bags[((((s.qw[i]!).qM)[k]!).qE).toNat]!) ((((s.qw[i]!).qM)[k]!).Qz) (counts[i]!)).length) c94) 0 rfl rfl sizeOf24 rfl rfl (i:=(((((s.qw[i]!).qM)[k]!).qE).toNat)) qf qf qm fun w97 xs100 F101 hs102 H=>?_
    replace N:Fresh w.heap.size [F101,jV]:=(N.pick [2,0,1]).repl hs102
    refine ⟨H.pick [1,2,3,4,5,7] [3,4,5,6,7,8,9,10,11,12,13,14,15,16,17,18,19,20,21],(qZ qh (b_n (t_n (zk (sp (yI k) (sw (zX k 1 rfl rfl qf (sp (yI (k+1)) (zt ?_)))))))))⟩
    obtain ⟨bg103,e_bg103⟩:∃ z,z=(out_Bags.set (((((s.qw[i]!).qM)[k]!).qE).toNat) (jW (out_Bags[((((s.qw[i]!).qM)[k]!).qE).toNat]!) ((((s.qw[i]!).qM)[k]!).Qz) (counts[i]!))):=⟨_,rfl⟩
    rw [← e_bg103] at H
    have E_bg103:=Ent.addL (D:=1000000) E_out_Bags e_bg103 qf qf (by first | exact bn2.mul qf | exact bn3.mul qf | exact bn4.mul qf) qf
    have z_bg103:bg103.length=s.qx.length:=by rw [e_bg103,List.length_set];omega
    have E_cur:=E_bg103
    refine xu (m' :=((((s.qw[i]!).qM).length) - ((k+1):Int)).toNat) qf ⟨_,k+1,bg103,xs100,F101,uE8,?_,?_,?_,rfl,(N.pick [1,0]),H.pick [1,2,3,4,5,6,7] [0,6,7,8,9,10,11,12,13,14,15,16,17,18,19,20,21]⟩
    · omega
    · exact E_cur.to (fun p q=>by simp only [intoF];omega) qf
    · omega
   refine c_exit (t_x (t_x (b_x (b_n (t_n (zk (sp (yI i) (sw (zX i 1 rfl rfl qf (sp (yI (i+1)) (zt (xu (m' :=(counts.length - ((i+1):Int)).toNat) qf ⟨_,i+1,a69,(jW out_Around ((s.qw[i]!).ja) (counts[i]!)).length,c70,jW out_Around ((s.qw[i]!).ja) (counts[i]!),out_Bags,zo,xM,uE6,?_,?_,?_,rfl,N,H.pick [1,2,3,0,5,6] [8,0,9,10,11,12,13,14,15,16]⟩))))))))))))
   · omega
   · first | exact E_rest.to (fun p q=>by simp only [putS_skip (s:=s) (t:=t) (counts:=counts) (i:=i) ‹_›]) qf | exact E_out_Bags.to (fun p q=>by rw [show k=((s.qw[i]!).qM).length by omega];simp only [putS,putF];omega) qf
   · omega
  obtain ⟨bg104,e_bg104⟩:∃ z,z=(rest.set (((s.qw[i]!).qE).toNat) (jW (rest[((s.qw[i]!).qE).toNat]!) ((s.qw[i]!).x9) (counts[i]!))):=⟨_,rfl⟩
  rw [← e_bg104] at H
  have E_bg104:=Ent.addL (D:=1000000) E_rest e_bg104 qf qf (by first | exact bn2.mul qf | exact bn3.mul qf | exact bn4.mul qf) qf
  have z_bg104:bg104.length=s.qx.length:=by rw [e_bg104,List.length_set];omega
  have E_cur:=E_bg104
  refine zcr (sps [pp bs os,pp bt ot,pp b26 (o27+(i:Int).toNat * 9),pp b26 (o27+(i:Int).toNat * 9)] (oF rfl (oL rfl (H.xX 9 rfl 0 rfl) (sw (oq (l02Parent_ok _ s t ((s.qw[i]!).qE) (qH (H.get 12 rfl) 0 3) (H.get 13 rfl).1 (H.get 14 rfl).1 (qH (H.get 15 rfl) 0 3) (H.get 16 rfl).1 (H.get 17 rfl).1 (H.get 18 rfl).1 ql ql ql) H fun w105 H=>?_)))))
  have pin:=XH (s:=s) (t:=t) (c:=((s.qw[i]!).qE)) p0.1 p1.2.2.1 qf qf
  refine sp (yI (xg s t ((s.qw[i]!).qE))) (zjn ?_)
  refine yR rfl H [0,1,2,3,4,6] fun H=>?_
  have S:=H.jR [0,1,2,3,4,6] [0,1,2,3,4,5,6,7,8,9,10,11,12,13,14,15,16,17,18,19]
  refine tF 0 rfl rfl S ?_
  refine tL 1 rfl rfl (fun _ h=>h.cell 1 rfl rfl) S ?_
  refine rtp 2 (yI (xg s t ((s.qw[i]!).qE))) S ?_
  refine tF 3 rfl rfl S ?_
  refine tL 4 rfl rfl (fun _ h=>h.cell 1 rfl rfl) S ?_
  refine rtp 5 (yI (xg s t ((s.qw[i]!).qE))) S ?_
  refine tI 6 rfl rfl rfl S ?_
  refine rtp 8 (pp b26 (o27+(i:Int).toNat * 9)) S ?_
  refine rtp 9 (pp b26 (o27+(i:Int).toNat * 9)) S ?_
  refine tF 10 rfl rfl S ?_
  refine tL 11 rfl rfl (fun _ h=>h.xX 9 rfl 6 rfl) S ?_
  refine rtp 12 (.slice (aa b30 o31) counts.length ccounts) S ?_
  refine rtp 13 (yI i) S ?_
  refine tI 14 rfl rfl rfl S ?_
  refine tL 15 rfl rfl (fun _ h=>h.Qs 19 rfl i qf) S ?_
  refine ro 7 rfl ?_
  obtain ⟨a108,c109,G110,s111,h112,H⟩:=H.jD 5 rfl 0 rfl (iv:=xg s t ((s.qw[i]!).qE)) ((xg s t ((s.qw[i]!).qE)).toNat) qf qf
  refine zh (.slice a108 ((bg104[(xg s t ((s.qw[i]!).qE)).toNat]!).length) c109) isAgg24 rfl (h112) (⟨H.pick [0,1,2,3,4,6] [1,2,3,4,5,6,7,8,9,10,11,12,13,14,15,16,17,18,19,20],(ro 16 rfl ?_)⟩)
  obtain ⟨u1,u2⟩:=Ent.rowL E_bg104 (c:=(xg s t ((s.qw[i]!).qE)).toNat) qf qf qf qf
  have u4:=(by first | exact bn2.jX qf | exact bn3.jX qf | exact bn4.jX qf:SmallT ((s.qw[i]!).ja) (counts[i]!))
  have sz113:=H.base.size
  have lt114:=H.ltN (L:=[F55,jV]) [1,11]
  refine oc (QY _ (bg104[(xg s t ((s.qw[i]!).qE)).toNat]!) ((s.qw[i]!).ja) (counts[i]!) (H.get 0 rfl).1 (H.get 8 rfl).1 qg qg qg) ?_
  rintro v118 w116 r118 x117
  replace H:=H.zq x117 r118
  obtain ⟨a119,c120,rfl,hc121,hm122⟩:=H.jO 0 rfl
  refine ⟨H.pick [1,2,3,4,5,7] [1,2,3,4,5,6,7,8,9,10,11,12,13,14,15,16,17,18,19,20],(tI 17 rfl rfl rfl (H.pick [1,2,3,4,5,7] [1,2,3,4,5,6,7,8,9,10,11,12,13,14,15,16,17,18,19,20]) ?_)⟩
  refine ro 18 rfl ?_
  obtain ⟨G124,N,hn125,H⟩:=H.zT 0 rfl N (H.yG [1,11])
  refine jm true H 6 rfl 2 rfl (.slice a119 ((jW (bg104[(xg s t ((s.qw[i]!).qE)).toNat]!) ((s.qw[i]!).ja) (counts[i]!)).length) c120) 0 rfl rfl sizeOf24 rfl rfl (i:=((xg s t ((s.qw[i]!).qE)).toNat)) qf qf qm fun w123 xs126 F127 hs128 H=>?_
  replace N:Fresh w.heap.size [F127,jV]:=(N.pick [1,0,2]).repl hs128
  refine ⟨H.pick [1,2,3,4,5,7] [3,4,5,6,7,8,9,10,11,12,13,14,15,16,17,18,19,20,21,22],(qZ qh (t_n (zcr (sp (yI 0) (zjn (xw ?_))))))⟩
  obtain ⟨bg129,e_bg129⟩:∃ z,z=(bg104.set ((xg s t ((s.qw[i]!).qE)).toNat) (jW (bg104[(xg s t ((s.qw[i]!).qE)).toNat]!) ((s.qw[i]!).ja) (counts[i]!))):=⟨_,rfl⟩
  rw [← e_bg129] at H
  have E_bg129:=Ent.addL (D:=1000000) E_bg104 e_bg129 qf qf (by first | exact bn2.mul qf | exact bn3.mul qf | exact bn4.mul qf) qf
  have z_bg129:bg129.length=s.qx.length:=by rw [e_bg129,List.length_set];omega
  have E_cur:=E_bg129
  refine vJ (fun m' ρ w130=>∃ (zB:Env) (k:Nat) (out_Bags:yLL) (zo:List Value) (xM:yLN),ρ=upd (upd (upd (upd (upd (upd (upd (upd zB 0 (pp bs os)) 1 (pp bt ot)) 2 (.slice (aa b30 o31) counts.length ccounts)) 6 (pp b1 0)) 10 (pp b19 0)) 11 (yI i)) 12 (pp b26 (o27+(i:Int).toNat * 9))) 14 (yI k)∧((k:Int)≤(((s.qw[i]!).qM).length))∧(Ent (s.qx.length+1) (yV s) (fun p q=>base0 s t p q+needS s counts s.qw.length p q+putS s t counts i p q+at' p (s.qw[i]!).qE.toNat (counts[i]! * ((s.qw[i]!).x9)[q]!)+at' p (outPl s t (s.qw[i]!)) (counts[i]! * ((s.qw[i]!).ja)[q]!)+intoF (s.qw[i]!) (counts[i]!) k p q) (22000000+6000000 * i+1000000 * k) (out_Bags++[out_Around]))∧(out_Bags.length=s.qx.length)∧m' =((((s.qw[i]!).qM).length) - (k:Int)).toNat∧Fresh w.heap.size [jV,xM]∧St w w130 [.box b19 [.slice yx t.qC.length yw,.slice (aa b35 0) ((jS s t counts (Qk (BadAt s t counts) counts.length)).length) rc3a,.slice vZ vX vY] 31,rr yx t.qC.length yw 4 1 (t.qC.map (Value.bool)),rr ra11Bags t.qI.length rc11Bags 24 1 Xy,rr vZ vX vY 2 1 (out_Around.map (Value.int .i64)),rr (aa b35 0) ((jS s t counts (Qk (BadAt s t counts) counts.length)).length) rc3a 24 1 zo,.box b1 [yN,yN,yN] 31] [xf true xM zo out_Bags,sF false y9 yD jv ((s.qw[i]!).xy),sF false Qc jB jy ((s.qw[i]!).xZ),sF false Qa jA jw ((s.qw[i]!).xY),sF false Fe29Here ae29Here ce29Here ((s.qw[i]!).x9),sF false QI y5 yZ ((s.qw[i]!).ja),sF false Qb jI jH ((s.qw[i]!).qM),atF b26 (o27+(i:Int).toNat * 9) [yI ((s.qw[i]!).qE),yI ((s.qw[i]!).vC),.slice yD (((s.qw[i]!).xy).length) jv,.slice jB (((s.qw[i]!).xZ).length) jy,.slice jA (((s.qw[i]!).xY).length) jw,.slice ae29Here (((s.qw[i]!).x9).length) ce29Here,.slice y5 (((s.qw[i]!).ja).length) yZ,.slice jI (((s.qw[i]!).qM).length) jH,.bool ((s.qw[i]!).zW)],xf true jV Xy t.qI,atF bs os [yI s.xn,.slice qB s.qx.length qA,.slice (aa b26 o27) s.qw.length qJ],sF false xe qB qA s.qx,sF false xI (aa b26 o27) qJ s.qw,atF bt ot (yT t qX qR xG xA qO qN),sF false zg qX qR t.qC,sF false zO xG xA t.qI,sF false xN qO qN t.qF,sF false Fcounts (aa b30 o31) ccounts counts]) (((((s.qw[i]!).qM).length) - (0:Int)).toNat) ⟨_,0,bg129,xs126,F127,uE8,qf,(by exact E_cur.to (fun p q=>by first | (simp only [intoF,outPl_root (s:=s) (t:=t) (r:=s.qw[i]!) ‹_›,jb];omega) | (simp only [intoF,outPl_up (s:=s) (t:=t) (r:=s.qw[i]!) ‹_›];omega)) qf),qf,rfl,(N.pick [1,0]),H.pick [2,3,4,5,6,7] [0,6,7,8,9,10,11,12,13,15,16,17,18,19,20,21,22]⟩ ?_
  clear H N
  rintro m' ρ w131 ⟨zB,k,out_Bags,zo,xM,rfl,i0,E_out_Bags,z_out_Bags,rfl,N,H⟩
  have XD:=H.zi (α:=yLI) 4 rfl 0 rfl qj
  refine zcc (sps [yI k,pp b26 (o27+(i:Int).toNat * 9),pp b26 (o27+(i:Int).toNat * 9)] (oF rfl (oL rfl (H.xX 7 rfl 7 rfl) (oN rfl (sp (.bool (decide ((k:Int) < (((s.qw[i]!).qM).length)))) (zjn (cD rfl (fun h132=>?_) (fun h132=>?_))))))))
  ·skip
   have qi:=q.2.2.2.2.2.2.2.2.2.2 k qf
   have qi1:=qi.1
   have bn4:=qi.2.2.1
   have ln4:=bn4.len
   refine xx (t_n (zn (xw (zcr (sps [pp b26 (o27+(i:Int).toNat * 9),pp b26 (o27+(i:Int).toNat * 9)] (oF rfl (oL rfl (H.xX 7 rfl 7 rfl) (sp (yI k) ?_))))))))
   obtain ⟨b133,o134,rfl⟩:=H.addr 6 rfl qf
   obtain ⟨ae136Bag,ce136Bag,Fe136Bag,H⟩:=H.yX 6 rfl k k qf qf qf
   refine oI rfl rfl (oF rfl (oL rfl (H.xX 1 rfl 0 rfl) (sp (yI ((((s.qw[i]!).qM)[k]!).qE)) (zjn ?_))))
   refine yR rfl H [0,1,2,3,5] fun H=>?_
   have S:=H.jR [0,1,2,3,5] [0,1,2,3,4,5,6,7,8,9,10,11,12,13,14,15,16,17,18]
   refine tF 0 rfl rfl S ?_
   refine tL 1 rfl rfl (fun _ h=>h.cell 0 rfl rfl) S ?_
   refine rtp 2 (yI ((((s.qw[i]!).qM)[k]!).qE)) S ?_
   refine tF 3 rfl rfl S ?_
   refine tL 4 rfl rfl (fun _ h=>h.cell 0 rfl rfl) S ?_
   refine rtp 5 (yI ((((s.qw[i]!).qM)[k]!).qE)) S ?_
   refine tI 6 rfl rfl rfl S ?_
   refine rtp 8 (pp b26 (o27+(i:Int).toNat * 9)) S ?_
   refine rtp 9 (pp b26 (o27+(i:Int).toNat * 9)) S ?_
   refine tF 10 rfl rfl S ?_
   refine tL 11 rfl rfl (fun _ h=>h.xX 9 rfl 7 rfl) S ?_
   refine rtp 12 (yI k) S ?_
   refine tI 13 rfl rfl rfl S ?_
   refine tF 14 rfl rfl S ?_
   refine tL 15 rfl rfl (fun _ h=>h.xX 1 rfl 1 rfl) S ?_
   refine rtp 16 (.slice (aa b30 o31) counts.length ccounts) S ?_
   refine rtp 17 (yI i) S ?_
   refine tI 18 rfl rfl rfl S ?_
   refine tL 19 rfl rfl (fun _ h=>h.Qs 18 rfl i qf) S ?_
   refine ro 7 rfl ?_
   obtain ⟨a138,c139,G140,s141,h142,H⟩:=H.jD 4 rfl 2 rfl (iv:=(((s.qw[i]!).qM)[k]!).qE) (((((s.qw[i]!).qM)[k]!).qE).toNat) qf qf
   refine zh (.slice a138 ((out_Bags[((((s.qw[i]!).qM)[k]!).qE).toNat]!).length) c139) isAgg24 rfl (h142) (⟨H.pick [0,1,2,3,5] [1,2,3,4,5,6,7,8,9,10,11,12,13,14,15,16,17,18,19],(ro 20 rfl ?_)⟩)
   obtain ⟨u1,u2⟩:=Ent.rowL E_out_Bags (c:=((((s.qw[i]!).qM)[k]!).qE).toNat) qf qf qf qf
   have u4:=(by first | exact bn2.jX qf | exact bn3.jX qf | exact bn4.jX qf:SmallT ((((s.qw[i]!).qM)[k]!).Qz) (counts[i]!))
   have sz143:=H.base.size
   have lt144:=H.ltN (L:=[jV,xM]) [11,3]
   refine oc (QY _ (out_Bags[((((s.qw[i]!).qM)[k]!).qE).toNat]!) ((((s.qw[i]!).qM)[k]!).Qz) (counts[i]!) (H.get 0 rfl).1 (H.get 1 rfl).1 qg qg qg) ?_
   rintro v148 w146 r148 x147
   replace H:=H.zq x147 r148
   obtain ⟨a149,c150,rfl,hc151,hm152⟩:=H.jO 0 rfl
   refine ⟨H.pick [1,2,3,4,6] [1,2,3,4,5,6,7,8,9,10,11,12,13,14,15,16,17,18,19],(tI 21 rfl rfl rfl (H.pick [1,2,3,4,6] [1,2,3,4,5,6,7,8,9,10,11,12,13,14,15,16,17,18,19]) ?_)⟩
   refine ro 22 rfl ?_
   obtain ⟨G154,N,hn155,H⟩:=H.zT 0 rfl N (H.yG [11,3])
   refine jm true H 5 rfl 4 rfl (.slice a149 ((jW (out_Bags[((((s.qw[i]!).qM)[k]!).qE).toNat]!) ((((s.qw[i]!).qM)[k]!).Qz) (counts[i]!)).length) c150) 0 rfl rfl sizeOf24 rfl rfl (i:=(((((s.qw[i]!).qM)[k]!).qE).toNat)) qf qf qm fun w153 xs156 F157 hs158 H=>?_
   replace N:Fresh w.heap.size [F157,jV]:=(N.pick [2,0,1]).repl hs158
   refine ⟨H.pick [1,2,3,4,6] [3,4,5,6,7,8,9,10,11,12,13,14,15,16,17,18,19,20,21],(qZ qh (b_n (t_n (zk (sp (yI k) (sw (zX k 1 rfl rfl qf (sp (yI (k+1)) (zt ?_)))))))))⟩
   obtain ⟨bg159,e_bg159⟩:∃ z,z=(out_Bags.set (((((s.qw[i]!).qM)[k]!).qE).toNat) (jW (out_Bags[((((s.qw[i]!).qM)[k]!).qE).toNat]!) ((((s.qw[i]!).qM)[k]!).Qz) (counts[i]!))):=⟨_,rfl⟩
   rw [← e_bg159] at H
   have E_bg159:=Ent.addL (D:=1000000) E_out_Bags e_bg159 qf qf (by first | exact bn2.mul qf | exact bn3.mul qf | exact bn4.mul qf) qf
   have z_bg159:bg159.length=s.qx.length:=by rw [e_bg159,List.length_set];omega
   have E_cur:=E_bg159
   refine xu (m' :=((((s.qw[i]!).qM).length) - ((k+1):Int)).toNat) qf ⟨_,k+1,bg159,xs156,F157,uE8,?_,?_,?_,rfl,(N.pick [1,0]),H.pick [1,2,3,4,5,6] [0,6,7,8,9,10,11,12,13,14,15,16,17,18,19,20,21]⟩
   · omega
   · exact E_cur.to (fun p q=>by simp only [intoF];omega) qf
   · omega
  refine c_exit (t_x (t_x (b_x (b_n (t_n (zk (sp (yI i) (sw (zX i 1 rfl rfl qf (sp (yI (i+1)) (zt (xu (m' :=(counts.length - ((i+1):Int)).toNat) qf ⟨_,i+1,vZ,vX,vY,out_Around,out_Bags,zo,xM,uE6,?_,?_,?_,rfl,N,H.pick [0,1,2,3,4,5] [8,0,9,10,11,12,13,14,15,16]⟩))))))))))))
  · omega
  · first | exact E_rest.to (fun p q=>by simp only [putS_skip (s:=s) (t:=t) (counts:=counts) (i:=i) ‹_›]) qf | exact E_out_Bags.to (fun p q=>by rw [show k=((s.qw[i]!).qM).length by omega];simp only [putS,putF];omega) qf
  · omega
 refine zx4 (zcc (sps [pp bs os,pp bs os] (oF rfl (oL rfl (H.xX 2 rfl 1 rfl) (oN rfl (sw (o_sub s.qx.length 1 rfl rfl qf (sp (yI (s.qx.length - 1)) (zjn (xw ?_))))))))))
 obtain rfl:i=s.qw.length:=by omega
 have hl:=stepped_live (counts:=counts) p1 (E_rest.to (g:=fun p k=>base0 s t p k+allS s t counts s.qw.length p k) (fun p k=>by rw [allS_eq];omega) (Int.le_refl _)) qf
 obtain ⟨s1,s2⟩:=step_tab2 qf E_rest
 subst s1 s2
 refine vJ (fun m' ρ w160=>∃ (zB:Env) (c:Int) (out_Alive:List Bool) (out_Bags:yLL) (zo:List Value) (xM:yLN) (j:Nat),ρ=upd (upd (upd (upd (upd zB 0 (pp bs os)) 2 (.slice acounts counts.length ccounts)) 6 (pp b1 0)) 10 (pp b19 0)) 16 (yI c)∧out_Alive=(qW s counts (qY s t counts) j).qC∧out_Bags=(qW s counts (qY s t counts) j).qI∧(c=(s.qx.length:Int) - 1 - j)∧(j+1≤s.qx.length)∧m' =(c:Int).toNat∧Fresh w.heap.size [jV,xM]∧St w w160 [.box b19 [.slice yx t.qC.length yw,.slice ra3a ((jS s t counts (Qk (BadAt s t counts) counts.length)).length) rc3a,.slice vZ vX vY] 31,rr yx t.qC.length yw 4 1 (out_Alive.map (Value.bool)),rr ra11Bags t.qI.length rc11Bags 24 1 Xy,rr vZ vX vY 2 1 (((qY s t counts).qF).map (Value.int .i64)),rr ra3a ((jS s t counts (Qk (BadAt s t counts) counts.length)).length) rc3a 24 1 zo,.box b1 [yN,yN,yN] 31] [xf true jV Xy t.qI,xf true xM zo out_Bags,atF bs os (yS s qB qA qL qJ),sF false xe qB qA s.qx,sF false xI qL qJ s.qw,sF false Fcounts acounts ccounts counts]) (((s.qx.length - 1):Int).toNat) ⟨_,s.qx.length - 1,t.qC,(qY s t counts).qI,Xq,QX,0,uE5,(by rfl),(by rfl),qf,qf,rfl,N,H.pick [0,1,2,3,4,5] [0,1,2,3,4,9]⟩ ?_
 clear H N
 rintro m' ρ w161 ⟨zB,c,out_Alive,out_Bags,zo,xM,j,rfl,rfl,rfl,ic,jc,rfl,N,H⟩
 have hn_out_Alive:=H.Q7 1 rfl
 have XD:=H.zi (α:=yLI) 4 rfl 1 rfl qj
 have L:=meltDown_live (counts:=counts) p0 hl j qf
 have L1:=L.alive
 have L2:=L.root
 have L3:=L.bags.1
 rw [← Qe s counts (qY s t counts) j] at H
 refine zcc (sps [yI c,.bool (decide ((c:Int) > 0))] (zjn (cD rfl (fun h162=>?_) (fun h162=>?_))))
 ·skip
  have cin:CellIn s c:=⟨by omega,by omega⟩
  refine xx (t_n (zn (xw (zcr (sp (.bool false) (zjcc (sp (yI 0) (zjn (xw ?_)))))))))
  refine vJ (fun m' ρ w163=>∃ (zB:Env) (melts:Bool) (i_1:Nat),ρ=upd (upd (upd (upd (upd (upd (upd zB 0 (pp bs os)) 2 (.slice acounts counts.length ccounts)) 6 (pp b1 0)) 10 (pp b19 0)) 16 (yI c)) 17 (.bool melts)) 18 (yI i_1)∧melts=dec (Qx s counts c i_1)∧((i_1:Int)≤counts.length)∧m' =(counts.length - (i_1:Int)).toNat∧Fresh w.heap.size [jV,xM]∧St w w163 [.box b19 [.slice yx t.qC.length yw,.slice ra3a ((jS s t counts (Qk (BadAt s t counts) counts.length)).length) rc3a,.slice vZ vX vY] 31,rr yx t.qC.length yw 4 1 (((qW s counts (qY s t counts) j).qC).map (Value.bool)),rr ra11Bags t.qI.length rc11Bags 24 1 Xy,rr vZ vX vY 2 1 (((qW s counts (qY s t counts) j).qF).map (Value.int .i64)),rr ra3a ((jS s t counts (Qk (BadAt s t counts) counts.length)).length) rc3a 24 1 zo,.box b1 [yN,yN,yN] 31] [xf true jV Xy t.qI,xf true xM zo ((qW s counts (qY s t counts) j).qI),atF bs os (yS s qB qA qL qJ),sF false xe qB qA s.qx,sF false xI qL qJ s.qw,sF false Fcounts acounts ccounts counts]) ((counts.length - (0:Int)).toNat) ⟨_,false,0,uE7,(by exact (xh (melts_zero _ _ _)).symm),qf,rfl,N,H⟩ ?_
  clear H N
  rintro m' ρ w164 ⟨zB,melts,i_1,rfl,rfl,i0,rfl,N,H⟩
  refine zcc (sps [yI i_1,.slice acounts counts.length ccounts] (oN rfl (sp (.bool (decide ((i_1:Int) < counts.length))) (zjn (cD rfl (fun h165=>?_) (fun h165=>?_))))))
  ·skip
   refine xx (t_n (zn (xw (zk (sps [.bool (dec (Qx s counts c i_1)),.bool (dec (Qx s counts c i_1))] ?_)))))
   cases h166:((dec (Qx s counts c i_1)))
   ·skip
    refine qK 172 rfl rfl (sp (.slice acounts counts.length ccounts) (qK 172 rfl rfl (sp (yI i_1) (qK 172 rfl rfl ?_))))
    obtain ⟨b167,o168,rfl⟩:=H.addr 5 rfl qf
    refine oI rfl rfl (qK 172 rfl rfl (oL rfl (H.yE 5 rfl i_1 qf qf) (qK 172 rfl rfl (sp (.bool (decide ((counts[i_1]! :Int) > 0))) (qK 172 rfl rfl (sp (.bool (decide ((counts[i_1]! :Int) > 0))) ?_))))))
    cases h170:(decide ((counts[i_1]! :Int) > 0))
    ·skip
     replace h170:=of_decide_eq_false h170
     refine xK [179,180,181,182,183,184,185,186] (qK 172 rfl rfl (sp (.bool false) (qK 172 rfl rfl (sp (.bool false) (xK [189,190,191,192,193,194,195,196,197,198] (qK 172 rfl rfl (sps [.bool false,.bool false,.bool false] (zt (b_n (t_n (zk (sp (yI i_1) (sw (zX i_1 1 rfl rfl qf (sp (yI (i_1+1)) (zt (xu (m' :=(counts.length - ((i_1+1):Int)).toNat) qf ⟨_,false,i_1+1,uE7,?_,?_,rfl,N,H⟩)))))))))))))))))
     · first | exact melts_1 ‹_› | exact melts_2 ‹_› qf | exact melts_3 ‹_› ‹_› | exact melts_4 ‹_› qf ‹_›
     · omega
    replace h170:=of_decide_eq_true h170
    refine qK 178 rfl rfl (sp (pp bs os) (qK 178 rfl rfl (sp (pp bs os) (qK 178 rfl rfl (oF rfl (qK 178 rfl rfl (oL rfl (H.xX 2 rfl 2 rfl) (qK 178 rfl rfl (sp (yI i_1) (qK 178 rfl rfl ?_))))))))))
    obtain ⟨b171,o172,rfl⟩:=H.addr 4 rfl qf
    obtain ⟨ae174Need,ce174Need,Fe174Need,ae174Have,ce174Have,Fe174Have,ae174Lack,ce174Lack,Fe174Lack,ae174Here,ce174Here,Fe174Here,ae174Out,ce174Out,Fe174Out,ae174Into,ce174Into,Fe174Into,H⟩:=H.Qo 4 rfl i_1 i_1 qf qf qf
    refine oI rfl rfl (qK 178 rfl rfl (oF rfl (qK 178 rfl rfl (oL rfl (H.xX 6 rfl 8 rfl) (qK 172 rfl rfl (sp (.bool ((s.qw[i_1]!).zW)) (qK 172 rfl rfl (sp (.bool ((s.qw[i_1]!).zW)) ?_))))))))
    cases h175:((s.qw[i_1]!).zW)
    ·skip
     rw [h175] at H
     refine xK [189,190,191,192,193,194,195,196,197,198] (qK 172 rfl rfl (sps [.bool false,.bool false,.bool false] (zt (b_n (t_n (zk (sp (yI i_1) (sw (zX i_1 1 rfl rfl qf (sp (yI (i_1+1)) (zt (xu (m' :=(counts.length - ((i_1+1):Int)).toNat) qf ⟨_,false,i_1+1,uE7,?_,?_,rfl,N,H.pick [0,1,2,3,4,5] [7,8,9,10,11,12]⟩))))))))))))
     · first | exact melts_1 ‹_› | exact melts_2 ‹_› qf | exact melts_3 ‹_› ‹_› | exact melts_4 ‹_› qf ‹_›
     · omega
    rw [h175] at H
    refine qK 188 rfl rfl (sp (pp bs os) (qK 188 rfl rfl (sp (pp bs os) (qK 188 rfl rfl (oF rfl (qK 188 rfl rfl (oL rfl (H.xX 9 rfl 2 rfl) (qK 188 rfl rfl (sp (yI i_1) (qK 188 rfl rfl (oI rfl rfl (qK 188 rfl rfl (oF rfl (qK 188 rfl rfl (oL rfl (H.xX 6 rfl 0 rfl) (qK 188 rfl rfl (sp (yI c) (qK 188 rfl rfl (sp (.bool (((s.qw[i_1]!).qE:Int) == c)) (qK 172 rfl rfl (sps [.bool (((s.qw[i_1]!).qE:Int) == c),.bool (((s.qw[i_1]!).qE:Int) == c),.bool (((s.qw[i_1]!).qE:Int) == c)] (zt (b_n (t_n (zk (sp (yI i_1) ?_))))))))))))))))))))))))))
    refine sw (zX i_1 1 rfl rfl qf (sp (yI (i_1+1)) (zt (xu (m' :=(counts.length - ((i_1+1):Int)).toNat) qf ⟨_,((s.qw[i_1]!).qE:Int) == c,i_1+1,uE7,?_,?_,rfl,N,H.pick [0,1,2,3,4,5] [7,8,9,10,11,12]⟩))))
    · first | exact melts_1 ‹_› | exact melts_2 ‹_› qf | exact melts_3 ‹_› ‹_› | exact melts_4 ‹_› qf ‹_›
    · omega
   refine xK [173,174,175,176,177,178,179,180,181,182,183,184,185,186,187,188,189,190,191,192,193,194,195,196,197,198,199] (sps [.bool true,.bool true] (zt (b_n (t_n (zk (sp (yI i_1) (sw (zX i_1 1 rfl rfl qf (sp (yI (i_1+1)) (zt (xu (m' :=(counts.length - ((i_1+1):Int)).toNat) qf ⟨_,true,i_1+1,uE7,?_,?_,rfl,N,H⟩)))))))))))
   · first | exact melts_1 ‹_› | exact melts_2 ‹_› qf | exact melts_3 ‹_› ‹_› | exact melts_4 ‹_› qf ‹_›
   · omega
  refine zx4 (zcr (sp (.bool (dec (Qx s counts c i_1))) (zjn (xW ((dec (Qx s counts c i_1))) rfl (fun h176=>?_) (fun h176=>?_)))))
  ·skip
   refine zk (sps [pp bs os,yI c] (sw (Qg #[pp bs os,pp b19 0,yI c] rfl rfl call98 (en func98 ntmps98 ?_))))
   refine zcr (sps [pp bs os,pp b19 0,yI c] ?_)
   obtain ⟨G177,hn178,h179⟩:=H.XG 1 rfl
   obtain ⟨G180,hn181,h182⟩:=H.QN (α:=yLI) 4 rfl 1 rfl qj
   obtain ⟨G183,hn184,h185⟩:=H.Ql 3 rfl
   refine sw (oq (l02Parent_ok _ s (qW s counts (qY s t counts) j) c (qH (H.get 2 rfl) 0 3) (H.get 3 rfl).1 (H.get 4 rfl).1 (by have hz:=(qH (H.cells 0 rfl) 0 3);rw [hn178,hn181,hn184] at hz;exact hz) (hn178▸h179) (hn181▸h182) (hn184▸h185) ql ql ql) H fun w186 H=>?_)
   have pin:=XH (s:=s) (t:=(qW s counts (qY s t counts) j)) (c:=c) p0.1 L2 qf qf
   refine sp (yI (xg s (qW s counts (qY s t counts) j) c)) (zjn (zn ?_))
   obtain ⟨b188,rfl⟩:=H.QP 4 rfl qf
   refine c_cut (fun ρ w191=>∃ (zB:Env) (xs189:List Value) (F190:yLN),ρ=upd (upd (upd zB 0 (pp bs os)) 1 (pp b19 0)) 2 (yI c)∧Fresh w.heap.size [F190,jV]∧St w w191 [.box b19 [.slice yx t.qC.length yw,.slice (aa b188 0) ((jS s t counts (Qk (BadAt s t counts) counts.length)).length) rc3a,.slice vZ vX vY] 31,rr yx t.qC.length yw 4 1 (((qW s counts (qY s t counts) j).qC).map (Value.bool)),rr ra11Bags t.qI.length rc11Bags 24 1 Xy,rr vZ vX vY 2 1 (((qW s counts (qY s t counts) j).qF).map (Value.int .i64)),rr (aa b188 0) ((jS s t counts (Qk (BadAt s t counts) counts.length)).length) rc3a 24 1 xs189,.box b1 [yN,yN,yN] 31] [xf true F190 xs189 (((qW s counts (qY s t counts) j).qI).set ((xg s (qW s counts (qY s t counts) j) c).toNat) (jW (((qW s counts (qY s t counts) j).qI)[(xg s (qW s counts (qY s t counts) j) c).toNat]!) (((qW s counts (qY s t counts) j).qI)[c.toNat]!) 1)),xf true jV Xy t.qI,atF bs os (yS s qB qA qL qJ),sF false xe qB qA s.qx,sF false xI qL qJ s.qw,sF false Fcounts acounts ccounts counts]) ?_ ?_
   ·skip
    refine yR rfl H [0,1,2,3,5] fun H=>?_
    have S:=H.jR [0,1,2,3,5] [0,1,2,3,4,5]
    refine rtp 0 (pp b19 0) S ?_
    refine rtp 1 (pp b19 0) S ?_
    refine tF 2 rfl rfl S ?_
    refine tL 3 rfl rfl (fun _ h=>h.cell 0 rfl rfl) S ?_
    refine rtp 4 (yI (xg s (qW s counts (qY s t counts) j) c)) S ?_
    refine rtp 5 (pp b19 0) S ?_
    refine rtp 6 (pp b19 0) S ?_
    refine tF 7 rfl rfl S ?_
    refine tL 8 rfl rfl (fun _ h=>h.cell 0 rfl rfl) S ?_
    refine rtp 9 (yI (xg s (qW s counts (qY s t counts) j) c)) S ?_
    refine tI 10 rfl rfl rfl S ?_
    refine rtp 12 (pp b19 0) S ?_
    refine rtp 13 (pp b19 0) S ?_
    refine tF 14 rfl rfl S ?_
    refine tL 15 rfl rfl (fun _ h=>h.cell 0 rfl rfl) S ?_
    refine rtp 16 (yI c) S ?_
    refine tI 17 rfl rfl rfl S ?_
    refine zH [11,18] qh qm (vz rfl ?_ (vz rfl ?_ zI))
    ·skip
     obtain ⟨a193,c194,G195,s196,h197,H⟩:=H.jD 4 rfl 1 rfl (iv:=xg s (qW s counts (qY s t counts) j) c) ((xg s (qW s counts (qY s t counts) j) c).toNat) qf qf
     refine zh (.slice a193 ((((qW s counts (qY s t counts) j).qI)[(xg s (qW s counts (qY s t counts) j) c).toNat]!).length) c194) isAgg24 rfl (h197) (⟨H.pick [0,1,2,3,5] [1,2,3,4,5,6],(ro 18 rfl ?_)⟩)
     obtain ⟨a198,c199,G200,s201,h202,H⟩:=H.jD 4 rfl 2 rfl (iv:=c) c.toNat qf qf
     refine zh (.slice a198 ((((qW s counts (qY s t counts) j).qI)[c.toNat]!).length) c199) isAgg24 rfl (h202) (⟨H.pick [0,1,2,3,5] [2,3,4,5,6,7],(ro 19 rfl ?_)⟩)
     obtain ⟨u1,u2,u4⟩:=L.rows p0 (bnd_le qf) (p:=(xg s (qW s counts (qY s t counts) j) c).toNat) (c:=c.toNat) qf qf
     have sz203:=H.base.size
     have lt204:=H.ltN (L:=[jV,xM]) [2,3]
     refine oc (QY _ (((qW s counts (qY s t counts) j).qI)[(xg s (qW s counts (qY s t counts) j) c).toNat]!) (((qW s counts (qY s t counts) j).qI)[c.toNat]!) 1 (H.get 1 rfl).1 (H.get 0 rfl).1 qg qg qg) ?_
     rintro v208 w206 r208 x207
     replace H:=H.zq x207 r208
     obtain ⟨a209,c210,rfl,hc211,hm212⟩:=H.jO 0 rfl
     refine ⟨H.pick [1,2,3,4,6] [2,3,4,5,6,7],(tI 20 rfl rfl rfl (H.pick [1,2,3,4,6] [2,3,4,5,6,7]) ?_)⟩
     refine ro 21 rfl ?_
     obtain ⟨G214,N,hn215,H⟩:=H.zT 0 rfl N (H.yG [2,3])
     refine jm true H 5 rfl 4 rfl (.slice a209 ((jW (((qW s counts (qY s t counts) j).qI)[(xg s (qW s counts (qY s t counts) j) c).toNat]!) (((qW s counts (qY s t counts) j).qI)[c.toNat]!) 1).length) c210) 0 rfl rfl sizeOf24 rfl rfl (i:=((xg s (qW s counts (qY s t counts) j) c).toNat)) qf qf qm fun w213 xs216 F217 hs218 H=>?_
     replace N:Fresh w.heap.size [F217,jV]:=(N.pick [2,0,1]).repl hs218
     refine ⟨H.pick [1,2,3,4,6] [4,5,6,7,8,9],(qZ qh ((meet ⟨_,xs216,F217,uE3,N,H.pick [1,2,3,4,5,6] [0,4,6,7,8,9]⟩)))⟩
    obtain ⟨a219,c220,G221,s222,h223,H⟩:=H.jD 4 rfl 1 rfl (iv:=c) c.toNat qf qf
    refine zh (.slice a219 ((((qW s counts (qY s t counts) j).qI)[c.toNat]!).length) c220) isAgg24 rfl (h223) (⟨H.pick [0,1,2,3,5] [1,2,3,4,5,6],(ro 11 rfl ?_)⟩)
    obtain ⟨a224,c225,G226,s227,h228,H⟩:=H.jD 4 rfl 2 rfl (iv:=xg s (qW s counts (qY s t counts) j) c) ((xg s (qW s counts (qY s t counts) j) c).toNat) qf qf
    refine zh (.slice a224 ((((qW s counts (qY s t counts) j).qI)[(xg s (qW s counts (qY s t counts) j) c).toNat]!).length) c225) isAgg24 rfl (h228) (⟨H.pick [0,1,2,3,5] [2,3,4,5,6,7],(ro 19 rfl ?_)⟩)
    obtain ⟨u1,u2,u4⟩:=L.rows p0 (bnd_le qf) (p:=(xg s (qW s counts (qY s t counts) j) c).toNat) (c:=c.toNat) qf qf
    have sz229:=H.base.size
    have lt230:=H.ltN (L:=[jV,xM]) [2,3]
    refine oc (QY _ (((qW s counts (qY s t counts) j).qI)[(xg s (qW s counts (qY s t counts) j) c).toNat]!) (((qW s counts (qY s t counts) j).qI)[c.toNat]!) 1 (H.get 0 rfl).1 (H.get 1 rfl).1 qg qg qg) ?_
    rintro v234 w232 r234 x233
    replace H:=H.zq x233 r234
    obtain ⟨a235,c236,rfl,hc237,hm238⟩:=H.jO 0 rfl
    refine ⟨H.pick [1,2,3,4,6] [2,3,4,5,6,7],(tI 20 rfl rfl rfl (H.pick [1,2,3,4,6] [2,3,4,5,6,7]) ?_)⟩
    refine ro 21 rfl ?_
    obtain ⟨G240,N,hn241,H⟩:=H.zT 0 rfl N (H.yG [2,3])
    refine jm true H 5 rfl 4 rfl (.slice a235 ((jW (((qW s counts (qY s t counts) j).qI)[(xg s (qW s counts (qY s t counts) j) c).toNat]!) (((qW s counts (qY s t counts) j).qI)[c.toNat]!) 1).length) c236) 0 rfl rfl sizeOf24 rfl rfl (i:=((xg s (qW s counts (qY s t counts) j) c).toNat)) qf qf qm fun w239 xs242 F243 hs244 H=>?_
    replace N:Fresh w.heap.size [F243,jV]:=(N.pick [2,0,1]).repl hs244
    refine ⟨H.pick [1,2,3,4,6] [4,5,6,7,8,9],(qZ qh ((meet ⟨_,xs242,F243,uE3,N,H.pick [1,2,3,4,5,6] [0,4,6,7,8,9]⟩)))⟩
   clear H N
   rintro ρ w245 ⟨zB,xs189,F190,rfl,N,H⟩
   refine t_n (zn ?_)
   refine yR rfl H [0,1,2,3,5] fun H=>?_
   have S:=H.jR [0,1,2,3,5] [0,1,2,3,4,5]
   refine rtp 0 (pp b19 0) S ?_
   refine rtp 1 (pp b19 0) S ?_
   refine tF 2 rfl rfl S ?_
   refine tL 3 rfl rfl (fun _ h=>h.cell 0 rfl rfl) S ?_
   refine rtp 4 (yI c) S ?_
   refine rtp 5 (pp bs os) S ?_
   refine rtp 6 (pp bs os) S ?_
   refine tF 7 rfl rfl S ?_
   refine tL 8 rfl rfl (fun _ h=>h.xX 2 rfl 0 rfl) S ?_
   refine ro 9 rfl (x8 H underlying24 ti2 s.xn.toNat rfl rfl qf qf qf fun b247 w248 H=>⟨H.pick [1,2,3,4,6] [0,1,2,3,4,5],(tI 10 rfl rfl rfl (H.pick [1,2,3,4,6] [0,1,2,3,4,5]) ?_)⟩)
   refine ro 11 rfl ?_
   obtain ⟨G250,N,hn251,H⟩:=H.zT 0 rfl N (H.yG [0,1])
   refine jm true H 5 rfl 1 rfl (.slice (aa b247 0) s.xn.toNat s.xn.toNat) 0 rfl rfl sizeOf24 rfl rfl (i:=c.toNat) qf qf qm fun w249 xs252 F253 hs254 H=>?_
   replace N:Fresh w.heap.size [F253,jV]:=(N.pick [1,0,2]).repl hs254
   refine ⟨H.pick [1,2,3,4,6] [2,3,4,5,6,7],(qZ qh (t_n (zk (sps [pp b19 0,pp b19 0] (oF rfl (oL rfl (H.cell 1 rfl rfl) (sp (yI c) ?_)))))))⟩
   obtain ⟨b255,rfl⟩:=H.QP 2 rfl qf
   refine oI rfl rfl (sw (Qp H 2 rfl false sizeOf4 rfl rfl (i:=c.toNat) qf qf fun w256 H=>zt (ret0 rfl ⟨_,rfl,?_⟩)))
   replace H:=H.erases [0]
   dsimp only [Qj,List.eraseIdx] at H
   refine zt (b_n (t_n (zk (sp (yI c) (sw (o_sub c 1 rfl rfl qf (sp (yI (c - 1)) (zt ?_))))))))
   rw [Qe] at H
   refine xu (m' :=((c - 1):Int).toNat) qf ⟨_,c - 1,(((qW s counts (qY s t counts) j).qC).set c.toNat false),((((qW s counts (qY s t counts) j).qI).set ((xg s (qW s counts (qY s t counts) j) c).toNat) (jW (((qW s counts (qY s t counts) j).qI)[(xg s (qW s counts (qY s t counts) j) c).toNat]!) (((qW s counts (qY s t counts) j).qI)[c.toNat]!) 1)).set c.toNat (List.replicate s.xn.toNat (0:Int))),xs252,F253,j+1,uE5,?_,?_,?_,?_,rfl,(N.pick [1,0]),H.pick [0,1,2,3,4,5] [3,0,4,5,6,7]⟩
   · first | (rw [Qi (c:=c) (i:=i_1) ‹_› qf ic];done) | (rw [Qi (c:=c) (i:=i_1) ‹_› qf ic];rfl) | rw [meltDown_no' (c:=c) (i:=i_1) ‹_› qf ic]
   · first | (rw [Qi (c:=c) (i:=i_1) ‹_› qf ic];done) | (rw [Qi (c:=c) (i:=i_1) ‹_› qf ic];rfl) | rw [meltDown_no' (c:=c) (i:=i_1) ‹_› qf ic]
   · omega
   · omega
  refine xx (b_n (t_n (zk (sp (yI c) (sw (o_sub c 1 rfl rfl qf (sp (yI (c - 1)) (zt ?_))))))))
  rw [Qe] at H
  refine xu (m' :=((c - 1):Int).toNat) qf ⟨_,c - 1,((qW s counts (qY s t counts) j).qC),((qW s counts (qY s t counts) j).qI),zo,xM,j+1,uE5,?_,?_,?_,?_,rfl,N,H⟩
  · first | (rw [Qi (c:=c) (i:=i_1) ‹_› qf ic];done) | (rw [Qi (c:=c) (i:=i_1) ‹_› qf ic];rfl) | rw [meltDown_no' (c:=c) (i:=i_1) ‹_› qf ic]
  · first | (rw [Qi (c:=c) (i:=i_1) ‹_› qf ic];done) | (rw [Qi (c:=c) (i:=i_1) ‹_› qf ic];rfl) | rw [meltDown_no' (c:=c) (i:=i_1) ‹_› qf ic]
  · omega
  · omega
 refine zx4 (zcr (sp (pp bs os) (sw (Qg #[pp bs os,pp b19 0] rfl rfl call99 (en func99 ntmps99 ?_)))))
 refine zcr (sw (xq H ti31 [yN,yN,yN] fun b257 w258 H=>sp (yI 0) (zjcc (sps [pp bs os,pp b19 0] ?_))))
 obtain ⟨G259,hn260,h261⟩:=H.XG 2 rfl
 obtain ⟨G262,hn263,h264⟩:=H.QN (α:=yLI) 5 rfl 1 rfl qj
 obtain ⟨G265,hn266,h267⟩:=H.Ql 4 rfl
 refine sw (oq (l02State_ok _ s (qW s counts (qY s t counts) j) (qH (H.get 2 rfl) 0 3) (H.get 3 rfl).1 (H.get 4 rfl).1 (by have hz:=(qH (H.cells 1 rfl) 0 3);rw [hn260,hn263,hn266] at hz;exact hz) (hn260▸h261) (hn263▸h264) (hn266▸h267) (by first | assumption | exact (And.left (by assumption:yH _)))) H fun w268 H=>sp (.bool (!(dec (zl s (qW s counts (qY s t counts) j))))) (zjn (cQ rfl (fun h270=>?_) (fun h270=>?_))))
 ·skip
  refine zcr (sw (xJ [yN,yN,yN] [] (sw (qQ H 0 [yN,yN,yN] sizeOf31 fun w271 H=>sp (yI 3) (zjr (t_r (retC2 H 0 rfl (yI 3) rfl isAgg31 sizeOf31 rfl rfl ⟨_,rfl,?_⟩)))))))
  replace H:=H.erases [0]
  dsimp only [Qj,List.eraseIdx] at H
  refine sps [.agg #[yN,yN,yN],yI 3] (sw (qQ H 5 [yN,yN,yN] sizeOf31 fun w272 H=>sp (yI 3) (zjr ?_)))
  replace H:=H.nilRowB 4
  replace H:=H.nilRow 24 1
  replace H:=H.Qv (α:=yLI)
  replace H:=H.nilRowI 2
  refine retC2 H 8 rfl (yI 3) rfl isAgg31 sizeOf31 rfl rfl ⟨_,rfl,?_,H.base⟩
  rw [stepBy_yes ‹_›,stepRes,show jb s - 1=j by omega,told_no ‹_›]
  exact ⟨none,0,0,none,0,0,[],[],none,0,0,rfl,(N.emp.pick [0]),H.pick [2,1,0] [0]⟩
 refine xx (t_n (zcr (sps [pp b19 0,pp b19 0] (sw (zu [.slice yx t.qC.length yw,.slice ra3a ((jS s t counts (Qk (BadAt s t counts) counts.length)).length) rc3a,.slice vZ vX vY] isAgg31 sizeOf31 rfl (qH (H.cells 1 rfl) 0 3) (sw (qQ H 0 [.slice yx t.qC.length yw,.slice ra3a ((jS s t counts (Qk (BadAt s t counts) counts.length)).length) rc3a,.slice vZ vX vY] sizeOf31 fun w273 H=>sp (yI 0) (zjr ?_))))))))
 refine retC2 H 0 rfl (yI 0) rfl isAgg31 sizeOf31 rfl rfl ⟨_,rfl,?_⟩
 replace H:=H.erases [0]
 dsimp only [Qj,List.eraseIdx] at H
 refine sps [.agg #[.slice yx t.qC.length yw,.slice ra3a ((jS s t counts (Qk (BadAt s t counts) counts.length)).length) rc3a,.slice vZ vX vY],yI 0] (sw (qQ H 5 [.slice yx t.qC.length yw,.slice ra3a ((jS s t counts (Qk (BadAt s t counts) counts.length)).length) rc3a,.slice vZ vX vY] sizeOf31 fun w274 H=>sp (yI 0) (zjr (retC2 H 5 rfl (yI 0) rfl isAgg31 sizeOf31 rfl rfl ⟨_,rfl,?_,H.base⟩))))
 rw [stepBy_yes ‹_›,stepRes,show jb s - 1=j by omega,told_yes ‹_›]
 exact ⟨yx,t.qC.length,yw,ra3a,(jS s t counts (Qk (BadAt s t counts) counts.length)).length,rc3a,zo,xM,vZ,vX,vY,rfl,(N.pick [1]),H.pick [1,4,3] [1]⟩
theorem specRun_ok (w:World) (s:qy) (t:qG) (steps:Int) {qB:yOA} {xe:yLN} {qL:yOA} {xI:yLN} {qX:yOA} {zg:yLN} {xG:yOA} {zO:yLN} {qO:yOA} {xN:yLN} (qV:qU.rep w xe [.slice qB s.qx.length qA] s.qx) (xF:qU.rep w xI [.slice qL s.qw.length qJ] s.qw) (zf:qU.rep w zg [.slice qX t.qC.length qR] t.qC) (zK:qU.rep w zO [.slice xG t.qI.length xA] t.qI) (xO:qU.rep w xN [.slice qO t.qF.length qN] t.qF):Calls Try.prog 22 #[.agg #[yI s.xn,.slice qB s.qx.length qA,.slice qL s.qw.length qJ],.agg #[.slice qX t.qC.length qR,.slice xG t.qI.length xA,.slice qO t.qF.length qN],yI steps] w (Ret (fun v w' =>∃ (ra0Alive:yOA) (rn0Alive:Nat) (rc0Alive:Nat) (ra0Bags:yOA) (rn0Bags:Nat) (rc0Bags:Nat) (rx0Bags:List Value) (rF0Bags:yLN) (Xb:yOA) (Q9:Nat) (Xa:Nat),v=.tuple #[.agg #[.slice ra0Alive rn0Alive rc0Alive,.slice ra0Bags rn0Bags rc0Bags,.slice Xb Q9 Xa],yI ((xk s t steps).2.1),yI ((xk s t steps).2.2)]∧Fresh w.heap.size [rF0Bags]∧St w w' [rr ra0Alive rn0Alive rc0Alive 4 1 ((((xk s t steps).1).qC).map (Value.bool)),rr ra0Bags rn0Bags rc0Bags 24 1 rx0Bags,rr Xb Q9 Xa 2 1 ((((xk s t steps).1).qF).map (Value.int .i64))] [xf true rF0Bags rx0Bags (((xk s t steps).1).qI)]) w):=by
 refine en func22 ntmps22 ?_
 have H:=(((((St.start w).arg xO).arg zK).arg zf).arg xF).arg qV
 have vG:=qP qV
 have jM:=qP xF
 have Qh:=qP zf
 have QR:=qP zK
 have yO:=qP xO
 clear qV xF zf zK xO
 have N:=Fresh.nil w.heap.size
 refine zcr (sw (yK H (yS s qB qA qL qJ) fun b1 w2 H=>sw (yK H (yT t qX qR xG xA qO qN) fun b3 w4 H=>sw (xq H ti31 [yN,yN,yN] fun b5 w6 H=>sps [yI 0,yI 0] (zjcc (sw (oq (l03Both_ok _ s t (qH (H.cells 2 rfl) 0 3) (H.get 0 rfl).1 (H.get 1 rfl).1 (qH (H.cells 1 rfl) 0 3) (H.get 2 rfl).1 (H.get 3 rfl).1 (H.get 4 rfl).1) H fun w8 H=>?_)))))))
 refine sp (.bool (!(dec (yH s∧zl s t)))) (zjn (cQ rfl (fun h10=>?_) (fun h10=>?_)))
 ·skip
  refine zcr (sw (xJ [yN,yN,yN] [] (sw (qQ H 0 [yN,yN,yN] sizeOf31 fun w11 H=>sps [yI 0,yI 1] (zjr (t_r ?_))))))
  replace H:=H.nilRowB 4
  replace H:=H.nilRow 24 1
  replace H:=H.Qv (α:=yLI)
  replace H:=H.nilRowI 2
  refine retC3 H 3 rfl (yI 0) (yI 1) rfl isAgg31 sizeOf31 rfl rfl rfl ⟨_,rfl,?_,H.base⟩
  rw [run_1 ‹_›]
  exact ⟨none,0,0,none,0,0,[],[],none,0,0,rfl,N.emp,H.pick [2,1,0] [0]⟩
 have k0:=(‹yH s∧zl s t›:yH s∧zl s t)
 have k1:=k0.1
 have k2:=k0.2
 obtain ⟨q7,q8,q9,q10⟩:=k2.sizes k1.1
 have q13:=fun k hk=>Nat.le_trans (q10 k hk) (by decide:8≤1000000)
 refine xx (t_n (zcc (sp (yI steps) (sw (oq (l00In_ok w8 steps 0 200) H fun w12 H=>sp (.bool (!(inR steps 0 200))) (zjn (xW (!(inR steps 0 200)) rfl (fun h14=>?_) (fun h14=>?_))))))))
 ·skip
  replace h14:=xB h14
  replace h14:=Q4 h14
  refine zcr (sw (xJ [yN,yN,yN] [] (sw (qQ H 0 [yN,yN,yN] sizeOf31 fun w15 H=>sps [yI 0,yI 2] (zjr (t_r ?_))))))
  replace H:=H.nilRowB 4
  replace H:=H.nilRow 24 1
  replace H:=H.Qv (α:=yLI)
  replace H:=H.nilRowI 2
  refine retC3 H 3 rfl (yI 0) (yI 2) rfl isAgg31 sizeOf31 rfl rfl rfl ⟨_,rfl,?_,H.base⟩
  rw [run_2 ‹_› ‹_›]
  exact ⟨none,0,0,none,0,0,[],[],none,0,0,rfl,N.emp,H.pick [2,1,0] [0]⟩
 replace h14:=xm h14
 replace h14:=QE.1 h14
 refine xx (t_n (zcr ?_))
 have sz19:=H.base.size
 refine sw (oc (l02Own_ok _ t (qH (H.cells 1 rfl) 0 3) (H.get 2 rfl).1 (H.get 3 rfl).1 (H.get 4 rfl).1 qg qg qg qg) ?_)
 rintro _ w17 ⟨ra16Alive,rn16Alive,rc16Alive,ra16Bags,rn16Bags,rc16Bags,rx16Bags,rF16Bags,ra16Around,rn16Around,rc16Around,rfl,M,K⟩ _
 replace N:=N.merge sz19 qm M
 replace H:=H.merge K M
 obtain rfl:=H.Q7 0 rfl
 obtain rfl:=H.zi (α:=yLI) 1 rfl 0 rfl qj
 obtain rfl:=H.zS 2 rfl
 refine sw (xq H ti31 [yN,yN,yN] fun b24 w25 H=>sw (qQ H 0 (yT t ra16Alive rc16Alive ra16Bags rc16Bags ra16Around rc16Around) sizeOf31 fun w26 H=>zjc (sp (yI 0) (zjn (zn (xw ?_))))))
 refine vJ (fun m' ρ w27=>∃ (zB:Env) (made:Nat) (ve:yOA) (zY:Nat) (zZ:Nat) (now_Alive:List Bool) (vU:yOA) (vS:Nat) (vT:Nat) (now_Bags:yLL) (Qn:List Value) (yB:yLN) (zG:yOA) (zD:Nat) (zF:Nat) (now_Around:yLI) (u:qG),ρ=upd (upd (upd (upd (upd zB 2 (yI steps)) 3 (pp b1 0)) 6 (pp b5 0)) 9 (pp b24 0)) 10 (yI made)∧now_Alive=u.qC∧now_Bags=u.qI∧now_Around=u.qF∧(zl s u)∧(0≤(made:Int)∧(made:Int)≤steps)∧(xk s t steps=QJ s (steps - made).toNat made u)∧m' =(steps - made).toNat∧Fresh w.heap.size [yB]∧St w w27 [.box b24 [.slice ve zY zZ,.slice vU vS vT,.slice zG zD zF] 31,rr ve zY zZ 4 1 (now_Alive.map (Value.bool)),rr vU vS vT 24 1 Qn,rr zG zD zF 2 1 (now_Around.map (Value.int .i64)),.box b5 [yN,yN,yN] 31,.box b3 (yT t qX qR xG xA qO qN) 31,.box b1 (yS s qB qA qL qJ) 27] [xf true yB Qn now_Bags,sF false xe qB qA s.qx,sF false xI qL qJ s.qw,sF false zg qX qR t.qC,sF false zO xG xA t.qI,sF false xN qO qN t.qF]) ((steps - 0).toNat) ⟨_,0,ra16Alive,t.qC.length,rc16Alive,t.qC,ra16Bags,t.qI.length,rc16Bags,t.qI,rx16Bags,rF16Bags,ra16Around,t.qF.length,rc16Around,t.qF,t,uE5,(by rfl),(by rfl),(by rfl),(by exact k2),qf,(by rw [run_0 ‹yH s∧zl s t› qf,show (steps - (0:Nat)).toNat=steps.toNat by omega];rfl),rfl,N,H⟩ ?_
 clear H N
 rintro m' ρ w28 ⟨zB,made,ve,zY,zZ,now_Alive,vU,vS,vT,now_Bags,Qn,yB,zG,zD,zF,now_Around,u,rfl,rfl,rfl,rfl,ku,km,kr,rfl,N,H⟩
 have hn_now_Alive:=H.Q7 1 rfl
 have hn_now_Bags:=H.zi (α:=yLI) 2 rfl 0 rfl qj
 have hn_now_Around:=H.zS 3 rfl
 refine zcc (sps [yI made,yI steps,.bool (decide ((made:Int) < steps)),.bool (decide ((made:Int) < steps))] ?_)
 cases h29:(decide ((made:Int) < steps))
 ·skip
  replace h29:=of_decide_eq_false h29
  refine xK [25,26] (sp (.bool false) (zjn (xW false rfl (fun h=>absurd h qj) (fun _=>zx4 (zcr (sw (zu [.slice ve zY zZ,.slice vU vS vT,.slice zG zD zF] isAgg31 sizeOf31 rfl (qH (H.cells 0 rfl) 0 3) (sp (yI made) (sw (qQ H 4 [.slice ve zY zZ,.slice vU vS vT,.slice zG zD zF] sizeOf31 fun w30 H=>sps [yI made,yI 0] (zjr ?_)))))))))))
  refine retC3 H 4 rfl (yI made) (yI 0) rfl isAgg31 sizeOf31 rfl rfl rfl ⟨_,rfl,?_,H.base⟩
  first | rw [kr,runGo_end qf] | rw [kr,Qy ‹Halted s u›]
  exact ⟨ve,zY,zZ,vU,vS,vT,Qn,yB,zG,zD,zF,rfl,N,H.pick [1,2,3] [0]⟩
 replace h29:=of_decide_eq_true h29
 refine qK 24 rfl rfl ?_
 obtain ⟨G31,hn32,h33⟩:=H.XG 1 rfl
 obtain ⟨G34,hn35,h36⟩:=H.QN (α:=yLI) 2 rfl 0 rfl qj
 obtain ⟨G37,hn38,h39⟩:=H.Ql 3 rfl
 refine sw (oq (l03Halted_ok _ s u (qH (H.cells 6 rfl) 0 3) (H.get 1 rfl).1 (H.get 2 rfl).1 (by have hz:=(qH (H.cells 0 rfl) 0 3);rw [hn32,hn35,hn38] at hz;exact hz) (hn32▸h33) (hn35▸h36) (hn38▸h39) qg qg) H fun w41 H=>qK 24 rfl rfl (sps [.bool (!(dec (Halted s u))),.bool (!(dec (Halted s u)))] (zjn (cQ rfl (fun h43=>?_) (fun h43=>?_)))))
 ·skip
  refine xx (t_n (xw (zcr ?_)))
  obtain ⟨G44,hn45,h46⟩:=H.XG 1 rfl
  obtain ⟨G47,hn48,h49⟩:=H.QN (α:=yLI) 2 rfl 0 rfl qj
  obtain ⟨G50,hn51,h52⟩:=H.Ql 3 rfl
  have sz56:=H.base.size
  refine sw (oc (l03First_ok _ s u (qH (H.cells 6 rfl) 0 3) (H.get 1 rfl).1 (H.get 2 rfl).1 (by have hz:=(qH (H.cells 0 rfl) 0 3);rw [hn45,hn48,hn51] at hz;exact hz) (hn45▸h46) (hn48▸h49) (hn51▸h52) qg qg) ?_)
  rintro _ w54 ⟨ra53,rn53,rc53,rfl,M,K⟩ _
  replace H:=H.merge K M
  obtain rfl:=H.zS 0 rfl
  obtain ⟨G59,hn60,h61⟩:=H.XG 2 rfl
  obtain ⟨G62,hn63,h64⟩:=H.QN (α:=yLI) 3 rfl 0 rfl qj
  obtain ⟨G65,hn66,h67⟩:=H.Ql 4 rfl
  obtain ⟨G68,hn69,h70⟩:=H.Ql 0 rfl
  have k3:=first_cnt k1 ku
  have sz74:=H.base.size
  have lt75:=H.ltN (L:=[yB]) [0]
  refine sw (oc (l03Step_ok _ s u (xR s u) (qH (H.cells 7 rfl) 0 3) (H.get 1 rfl).1 (H.get 2 rfl).1 (by have hz:=(qH (H.cells 1 rfl) 0 3);rw [hn60,hn63,hn66] at hz;exact hz) (hn60▸h61) (hn63▸h64) (hn66▸h67) h70 qg qg qg) ?_)
  rintro _ w72 ⟨ra71aAlive,rn71aAlive,rc71aAlive,ra71aBags,rn71aBags,rc71aBags,rx71aBags,rF71aBags,ra71aAround,rn71aAround,rc71aAround,rfl,M,K⟩ _
  replace N:=N.merge sz74 lt75 M
  replace H:=H.merge K M
  obtain rfl:=H.Q7 0 rfl
  obtain rfl:=H.zi (α:=yLI) 1 rfl 0 rfl qj
  obtain rfl:=H.zS 2 rfl
  refine sps [.tuple #[.agg #[.slice ra71aAlive ((((xQ s u (xR s u)).1).qC).length) rc71aAlive,.slice ra71aBags ((((xQ s u (xR s u)).1).qI).length) rc71aBags,.slice ra71aAround ((((xQ s u (xR s u)).1).qF).length) rc71aAround],yI ((xQ s u (xR s u)).2)],.agg #[.slice ra71aAlive ((((xQ s u (xR s u)).1).qC).length) rc71aAlive,.slice ra71aBags ((((xQ s u (xR s u)).1).qI).length) rc71aBags,.slice ra71aAround ((((xQ s u (xR s u)).1).qF).length) rc71aAround],yI ((xQ s u (xR s u)).2)] (sw (xq H ti31 [yN,yN,yN] fun b79 w80 H=>?_))
  refine sw (qQ H 0 [.slice ra71aAlive ((((xQ s u (xR s u)).1).qC).length) rc71aAlive,.slice ra71aBags ((((xQ s u (xR s u)).1).qI).length) rc71aBags,.slice ra71aAround ((((xQ s u (xR s u)).1).qF).length) rc71aAround] sizeOf31 fun w81 H=>sp (yI ((xQ s u (xR s u)).2)) (zjcc (sps [yI ((xQ s u (xR s u)).2),.bool (((xQ s u (xR s u)).2:Int) != 0)] (zjn (xW (((xQ s u (xR s u)).2:Int) != 0) rfl (fun h82=>?_) (fun h82=>?_))))))
  ·skip
   replace h82:=bne_iff_ne.1 h82
   refine zcr (sw (xJ [yN,yN,yN] [] (sp (yI ((xQ s u (xR s u)).2)) (sw (qQ H 9 [yN,yN,yN] sizeOf31 fun w83 H=>sps [yI 0,yI ((xQ s u (xR s u)).2)] (zjr (t_r (b_r (t_r (b_r (t_r ?_)))))))))))
   replace H:=H.nilRowB 4
   replace H:=H.nilRow 24 1
   replace H:=H.Qv (α:=yLI)
   replace H:=H.nilRowI 2
   refine retC3 H 12 rfl (yI 0) (yI ((xQ s u (xR s u)).2)) rfl isAgg31 sizeOf31 rfl rfl rfl ⟨_,rfl,?_,H.base⟩
   rw [kr,runGo_bad qf ‹¬ Halted s u› ‹_›]
   exact ⟨none,0,0,none,0,0,[],[],none,0,0,rfl,(N.emp.pick [0]),H.pick [2,1,0] [0]⟩
  replace h82:=zL h82
  refine xx (t_n (zcr (sw (zu [.slice ra71aAlive ((((xQ s u (xR s u)).1).qC).length) rc71aAlive,.slice ra71aBags ((((xQ s u (xR s u)).1).qI).length) rc71aBags,.slice ra71aAround ((((xQ s u (xR s u)).1).qF).length) rc71aAround] isAgg31 sizeOf31 rfl (qH (H.cells 0 rfl) 0 3) (sw (qQ H 5 [.slice ra71aAlive ((((xQ s u (xR s u)).1).qC).length) rc71aAlive,.slice ra71aBags ((((xQ s u (xR s u)).1).qI).length) rc71aBags,.slice ra71aAround ((((xQ s u (xR s u)).1).qF).length) rc71aAround] sizeOf31 fun w84 H=>zjn (zk (sp (yI made) ?_))))))))
  refine sw (zX made 1 rfl rfl qf (sp (yI (made+1)) (zt (b_n (xu (m' :=(steps - (made+1)).toNat) qf ⟨_,made+1,ra71aAlive,(((xQ s u (xR s u)).1).qC).length,rc71aAlive,((xQ s u (xR s u)).1).qC,ra71aBags,(((xQ s u (xR s u)).1).qI).length,rc71aBags,((xQ s u (xR s u)).1).qI,rx71aBags,rF71aBags,ra71aAround,(((xQ s u (xR s u)).1).qF).length,rc71aAround,((xQ s u (xR s u)).1).qF,(xQ s u (xR s u)).1,uE5,?_,?_,?_,?_,?_,?_,rfl,(N.pick [0]),H.pick [5,1,2,3,9,10,11] [0,2,3,4,5,6]⟩)))))
  · rfl
  · rfl
  · rfl
  · exact stepBy_ok ‹_›
  · omega
  · exact kr.trans (runGo_go qf ‹¬ Halted s u› ‹_›)
 refine zx4 (zcr (sw (zu [.slice ve zY zZ,.slice vU vS vT,.slice zG zD zF] isAgg31 sizeOf31 rfl (qH (H.cells 0 rfl) 0 3) (sp (yI made) (sw (qQ H 4 [.slice ve zY zZ,.slice vU vS vT,.slice zG zD zF] sizeOf31 fun w85 H=>sps [yI made,yI 0] (zjr (retC3 H 4 rfl (yI made) (yI 0) rfl isAgg31 sizeOf31 rfl rfl rfl ⟨_,rfl,?_,H.base⟩))))))))
 first | rw [kr,runGo_end qf] | rw [kr,Qy ‹Halted s u›]
 exact ⟨ve,zY,zZ,vU,vS,vT,Qn,yB,zG,zD,zF,rfl,N,H.pick [1,2,3] [0]⟩
theorem isEnabled_ok (w:World) (s:qy) (t:qG) (r:jq) {qB:yOA} {xe:yLN} {qL:yOA} {xI:yLN} {qX:yOA} {zg:yLN} {xG:yOA} {zO:yLN} {qO:yOA} {xN:yLN} {yj:yOA} {Xu:yLN} {yu:yOA} {Xx:yLN} {yl:yOA} {Xv:yLN} {yt:yOA} {Xw:yLN} {QH:yOA} {FrOut:yLN} {jQ:yOA} {FrInto:yLN} (qV:qU.rep w xe [.slice qB s.qx.length qA] s.qx) (xF:qU.rep w xI [.slice qL s.qw.length qJ] s.qw) (zf:qU.rep w zg [.slice qX t.qC.length qR] t.qC) (zK:qU.rep w zO [.slice xG t.qI.length xA] t.qI) (xO:qU.rep w xN [.slice qO t.qF.length qN] t.qF) (hrNeed:qU.rep w Xu [.slice yj r.xy.length yc] r.xy) (hrHave:qU.rep w Xx [.slice yu r.xZ.length yh] r.xZ) (hrLack:qU.rep w Xv [.slice yl r.xY.length yf] r.xY) (hrHere:qU.rep w Xw [.slice yt r.x9.length yg] r.x9) (hrOut:qU.rep w FrOut [.slice QH r.ja.length QG] r.ja) (hrInto:qU.rep w FrInto [.slice jQ r.qM.length jP] r.qM) (p0:yH s) (p1:zl s t) (p2:RuleOk s r):Calls Try.prog 101 #[.agg #[yI s.xn,.slice qB s.qx.length qA,.slice qL s.qw.length qJ],.agg #[.slice qX t.qC.length qR,.slice xG t.qI.length xA,.slice qO t.qF.length qN],.agg #[yI r.qE,yI r.vC,.slice yj r.xy.length yc,.slice yu r.xZ.length yh,.slice yl r.xY.length yf,.slice yt r.x9.length yg,.slice QH r.ja.length QG,.slice jQ r.qM.length jP,.bool r.zW]] w (Ret (fun v w' =>v=.bool (dec (EnOk s t r))) w):=by
 refine en func101 ntmps101 ?_
 have H:=(((((((((((St.start w).arg hrInto).arg hrOut).arg hrHere).arg hrLack).arg hrHave).arg hrNeed).arg xO).arg zK).arg zf).arg xF).arg qV
 have vG:=qP qV
 have jM:=qP xF
 have Qh:=qP zf
 have QR:=qP zK
 have yO:=qP xO
 have nhrNeed:=qP hrNeed
 have nhrHave:=qP hrHave
 have nhrLack:=qP hrLack
 have nhrHere:=qP hrHere
 have nhrOut:=qP hrOut
 have nhrInto:=qP hrInto
 clear qV xF zf zK xO hrNeed hrHave hrLack hrHere hrOut hrInto
 have N:=Fresh.nil w.heap.size
 have p3:=p2.1
 have p4:=p1.1
 have p5:=p1.2.1
 have p6:=(p1.bagLen (k:=r.qE.toNat) qf).len
 have p7:=p2.2.2.2.2.1.len
 have p8:=p2.2.2.2.2.2.1.len
 have p9:=p2.2.2.2.2.2.2.1.len
 have p10:=je p2.2.2.2.2.2.2.1
 have p11:=p0.1
 have p12:=p2.2.2.2.2.2.2.2.2.2.2
 have p13:=kinds_le p0
 refine zcr (sw (yK H (yS s qB qA qL qJ) fun b1 w2 H=>sw (yK H (yT t qX qR xG xA qO qN) fun b3 w4 H=>sw (yK H [yI r.qE,yI r.vC,.slice yj r.xy.length yc,.slice yu r.xZ.length yh,.slice yl r.xY.length yf,.slice yt r.x9.length yg,.slice QH r.ja.length QG,.slice jQ r.qM.length jP,.bool r.zW] fun b5 w6 H=>sp (.bool false) (zjcc (oF rfl ?_))))))
 refine oL rfl (H.cell 1 rfl rfl) (oF rfl (oL rfl (H.cell 0 rfl rfl) ?_))
 obtain ⟨b7,o8,rfl⟩:=H.addr 2 rfl qf
 refine oI rfl rfl (oL rfl (H.Xg 2 rfl r.qE qf qf) (sp (.bool (!(t.qC[r.qE.toNat]!))) (zjn (xW (!(t.qC[r.qE.toNat]!)) rfl (fun h10=>?_) (fun h10=>?_)))))
 ·skip
  replace h10:=xB h10
  refine zcr (sp (.bool false) (zjr (t_r (ret1 (.bool false) rfl rfl ⟨_,rfl,?_,H.base⟩))))
  rw [xh (fun h=>by obtain ⟨h1,h2,h3,h4,h5⟩:=h;first | exact ft h1 ‹_› | exact ft h2 ‹_› | exact ft h3 ‹_› | exact h4 ⟨‹_›,‹_›⟩ | (obtain ⟨q1,q2⟩:=h5 i qf;first | exact ft q1 ‹_› | exact absurd q2 ‹_›))]
 replace h10:=xm h10
 refine xx (t_n (zcr (oF rfl (oL rfl (H.cell 1 rfl rfl) (oF rfl (oL rfl (H.cell 0 rfl rfl) ?_))))))
 obtain ⟨b11,o12,rfl⟩:=H.addr 3 rfl qf
 obtain ⟨ae14,ce14,Fe14,H⟩:=H.QL 3 rfl r.qE r.qE.toNat qf qf qf
 refine oI rfl rfl (oL rfl (H.xX 1 rfl 0 rfl) (sp (.slice ae14 ((t.qI[r.qE.toNat]!).length) ce14) (zjcc (oF rfl (oL rfl (H.cell 0 rfl rfl) (sp (.slice ae14 ((t.qI[r.qE.toNat]!).length) ce14) (sw (oq (isWithin_ok _ r.xy (t.qI[r.qE.toNat]!) (H.get 7 rfl).1 (H.get 0 rfl).1 qg qg) H fun w15 H=>sps [.bool (!(within r.xy (t.qI[r.qE.toNat]!))),.bool (!(within r.xy (t.qI[r.qE.toNat]!)))] ?_))))))))
 cases h17:(!(within r.xy (t.qI[r.qE.toNat]!)))
 ·skip
  replace h17:=xm h17
  refine qK 26 rfl rfl (oF rfl (qK 26 rfl rfl (oL rfl (H.cell 0 rfl rfl) (qK 26 rfl rfl (sp (.slice ae14 ((t.qI[r.qE.toNat]!).length) ce14) (qK 26 rfl rfl (sw (oq (isWithin_ok _ r.xZ (t.qI[r.qE.toNat]!) (H.get 8 rfl).1 (H.get 0 rfl).1 qg qg) H fun w18 H=>qK 26 rfl rfl (sps [.bool (!(within r.xZ (t.qI[r.qE.toNat]!))),.bool (!(within r.xZ (t.qI[r.qE.toNat]!))),.bool (!(within r.xZ (t.qI[r.qE.toNat]!)))] ?_)))))))))
  cases h20:(!(within r.xZ (t.qI[r.qE.toNat]!)))
  ·skip
   replace h20:=xm h20
   refine qK 33 rfl rfl (oF rfl (qK 33 rfl rfl (oL rfl (H.cell 0 rfl rfl) (qK 33 rfl rfl (sw (oq (bagSize_ok _ r.xY (H.get 9 rfl).1 (by first | assumption | exact je ql | exact QB ql)) H fun w21 H=>qK 33 rfl rfl (sp (.bool (decide ((sumL r.xY:Int) > 0))) (qK 33 rfl rfl (sp (.bool (decide ((sumL r.xY:Int) > 0))) ?_)))))))))
   cases h23:(decide ((sumL r.xY:Int) > 0))
   ·skip
    replace h23:=of_decide_eq_false h23
    refine xK [39,40,41,42] (qK 33 rfl rfl (sps [.bool false,.bool false] (zjn (xW false rfl (fun h=>absurd h qj) (fun _=>xx (t_n (zcr (oF rfl (oL rfl (H.cell 0 rfl rfl) (sp (.func (.func 120) #[] #[pp b3 0,pp b1 0,pp b5 0]) (sw (Qg #[.slice jQ r.qM.length jP,.func (.func 120) #[] #[pp b3 0,pp b1 0,pp b5 0]] rfl rfl call119 (en func119 ntmps119 ?_)))))))))))))
    refine zcr (sp (.bool false) (zjc (sps [.slice jQ r.qM.length jP,.func (.func 120) #[] #[pp b3 0,pp b1 0,pp b5 0]] (sw (Qg #[.slice jQ r.qM.length jP,.func (.func 120) #[] #[pp b3 0,pp b1 0,pp b5 0]] rfl rfl call123 (en func123 ntmps123 ?_))))))
    refine zcr (sp (yI 0) (zjcc (sp (.slice jQ r.qM.length jP) (oN rfl (sp (yI 0) (zjn (xw ?_)))))))
    refine vJ (fun m' ρ w24=>∃ (zB:Env) (i:Nat),ρ=upd (upd (upd (upd zB 0 (.slice jQ r.qM.length jP)) 1 (.func (.func 120) #[] #[pp b3 0,pp b1 0,pp b5 0])) 7 (yI r.qM.length)) 8 (yI i)∧((i:Int)≤r.qM.length)∧(IntoUp s t r i)∧m' =(r.qM.length - (i:Int)).toNat∧Fresh w.heap.size []∧St w w24 [.box b5 [yI r.qE,yI r.vC,.slice yj r.xy.length yc,.slice yu r.xZ.length yh,.slice yl r.xY.length yf,.slice yt r.x9.length yg,.slice QH r.ja.length QG,.slice jQ r.qM.length jP,.bool r.zW] 51,.box b3 [.slice (aa b7 o8) t.qC.length qR,.slice (aa b11 o12) t.qI.length xA,.slice qO t.qF.length qN] 31,.box b1 (yS s qB qA qL qJ) 27] [sF false Fe14 ae14 ce14 (t.qI[r.qE.toNat]!),atF b11 (o12+(r.qE:Int).toNat * 1) [.slice ae14 ((t.qI[r.qE.toNat]!).length) ce14],sF false xe qB qA s.qx,sF false xI qL qJ s.qw,sF false zg (aa b7 o8) qR t.qC,sF false zO (aa b11 o12) xA t.qI,sF false xN qO qN t.qF,sF false Xu yj yc r.xy,sF false Xx yu yh r.xZ,sF false Xv yl yf r.xY,sF false Xw yt yg r.x9,sF false FrOut QH QG r.ja,sF false FrInto jQ jP r.qM]) ((r.qM.length - (0:Int)).toNat) ⟨_,0,uE4,qf,(by exact fun j hj=>by omega),rfl,N,H⟩ ?_
    clear H N
    rintro m' ρ w25 ⟨zB,i,rfl,i0,i1,rfl,N,H⟩
    refine zcr (sp (.bool (decide ((i:Int) < r.qM.length))) (zjn (zn (cD rfl (fun h26=>?_) (fun h26=>?_)))))
    ·skip
     have q:=(p12 i qf).1
     have q1:=q.1
     have q2:=q.2
     refine xx (t_n (zn (xw (zcr (sps [yI i,yI i] (zjc (sps [.func (.func 120) #[] #[pp b3 0,pp b1 0,pp b5 0],.slice jQ r.qM.length jP,yI i] ?_)))))))
     obtain ⟨b27,o28,rfl⟩:=H.addr 12 rfl qf
     obtain ⟨ae30Bag,ce30Bag,Fe30Bag,H⟩:=H.yX 12 rfl i i qf qf qf
     refine oI rfl rfl (sw (zu [yI ((r.qM[i]!).qE),.slice ae30Bag (((r.qM[i]!).Qz).length) ce30Bag] isAgg121 sizeOf121 rfl (qH (H.get 1 rfl) 0 2) (sw (Qg #[.agg #[yI ((r.qM[i]!).qE),.slice ae30Bag (((r.qM[i]!).Qz).length) ce30Bag],pp b3 0,pp b1 0,pp b5 0] rfl rfl call120 (en func120 ntmps120 ?_)))))
     refine zcr (sw (yK H [yI ((r.qM[i]!).qE),.slice ae30Bag (((r.qM[i]!).Qz).length) ce30Bag] fun b31 w32 H=>sp (.bool false) (zjn (zn ?_))))
     refine yF rfl H fun H=>tF 0 rfl rfl H ?_
     refine tL 1 rfl rfl (fun _ h=>h.cell 2 rfl rfl) H ?_
     refine tF 2 rfl rfl H ?_
     refine tL 3 rfl rfl (fun _ h=>h.cell 0 rfl rfl) H ?_
     refine tI 4 rfl rfl rfl H ?_
     refine tL 5 rfl rfl (fun _ h=>h.Xg 6 rfl ((r.qM[i]!).qE) qf qf) H ?_
     refine rtp 6 (.bool (!(t.qC[((r.qM[i]!).qE).toNat]!))) H ?_
     refine rtp 7 (.bool (!(t.qC[((r.qM[i]!).qE).toNat]!))) H ?_
     cases h34:(!(t.qC[((r.qM[i]!).qE).toNat]!))
     ·skip
      replace h34:=xm h34
      refine rg 8 (.agg #[yI s.xn,.slice qB s.qx.length qA,.slice qL s.qw.length qJ]) 13 (QC (cs:=(yS s qB qA qL qJ)) isAgg27 sizeOf27 rfl (fun _ h=>qH (h.cells 3 rfl) 0 3)) H ?_
      refine rg 9 (.agg #[.slice (aa b7 o8) t.qC.length qR,.slice (aa b11 o12) t.qI.length xA,.slice qO t.qF.length qN]) 13 (QC (cs:=[.slice (aa b7 o8) t.qC.length qR,.slice (aa b11 o12) t.qI.length xA,.slice qO t.qF.length qN]) isAgg31 sizeOf31 rfl (fun _ h=>qH (h.cells 2 rfl) 0 3)) H ?_
      refine gF 10 rfl rfl H ?_
      refine gL 11 rfl rfl (fun _ h=>h.cell 0 rfl rfl) H ?_
      refine gF 13 rfl rfl H ?_
      refine gL 14 rfl rfl (fun _ h=>h.cell 1 rfl rfl) H ?_
      refine zH [12] qh qm (r_opG rfl (e:=13) rfl rfl (oq (parentNow_ok _ s t ((r.qM[i]!).qE) (H.get 4 rfl).1 (H.get 5 rfl).1 (H.get 6 rfl).1 (H.get 7 rfl).1 (H.get 8 rfl).1 qg qg qg) H fun w36 H=>⟨H,(rgp 15 (.bool ((xg s t ((r.qM[i]!).qE):Int) != r.qE)) 13 H ?_)⟩) zI)
      refine rtp 16 (.bool ((xg s t ((r.qM[i]!).qE):Int) != r.qE)) H ?_
      refine rtp 17 (.bool ((xg s t ((r.qM[i]!).qE):Int) != r.qE)) H ?_
      refine qZ qh (t_n (c_ret (ret1 (.bool ((xg s t ((r.qM[i]!).qE):Int) != r.qE)) rfl rfl ⟨_,rfl,?_⟩)))
      replace H:=H.erases [0]
      dsimp only [Qj,List.eraseIdx] at H
      refine zjn (xW ((xg s t ((r.qM[i]!).qE):Int) != r.qE) rfl (fun h38=>?_) (fun h38=>?_))
      ·skip
       replace h38:=bne_iff_ne.1 h38
       refine zcr (sps [yI i,yI i] (zjr (zr5 (ret1 (yI i) rfl rfl ⟨_,rfl,(sw (o_pure (.bool true) (by show some (Value.bool (decide ((i:Int)≥0)))=some (Value.bool true);rw [decide_eq_true qf]) (sp (.bool true) (zjr (ret1 (.bool true) rfl rfl ⟨_,rfl,(sps [.bool false,.bool false] (zjr (ret1 (.bool false) rfl rfl ⟨_,rfl,?_,H.base⟩)))⟩)))))⟩))))
       rw [xh (fun h=>by obtain ⟨h1,h2,h3,h4,h5⟩:=h;first | exact ft h1 ‹_› | exact ft h2 ‹_› | exact ft h3 ‹_› | exact h4 ⟨‹_›,‹_›⟩ | (obtain ⟨q1,q2⟩:=h5 i qf;first | exact ft q1 ‹_› | exact absurd q2 ‹_›))]
      replace h38:=zL h38
      refine xx (b_n (t_n (zk (sw (zX i 1 rfl rfl qf (sp (yI (i+1)) (zt (xu (m' :=(r.qM.length - ((i+1):Int)).toNat) qf ⟨_,i+1,uE4,?_,?_,rfl,N,H.pick [0,1,2] [2,3,4,5,6,7,8,9,10,11,12,13,14]⟩))))))))
      · omega
      · exact i1.succ ‹_› ‹_›
     replace h34:=xB h34
     refine zC [8,9,10,11,12,13,14,15] 8 (H) (rtp 16 (.bool true) H ?_)
     refine rtp 17 (.bool true) H ?_
     refine qZ qh (t_n (c_ret (ret1 (.bool true) rfl rfl ⟨_,rfl,?_⟩)))
     replace H:=H.erases [0]
     dsimp only [Qj,List.eraseIdx] at H
     refine zjn (xW true rfl (fun _=>zcr (sps [yI i,yI i] (zjr (zr5 (ret1 (yI i) rfl rfl ⟨_,rfl,(sw (o_pure (.bool true) (by show some (Value.bool (decide ((i:Int)≥0)))=some (Value.bool true);rw [decide_eq_true qf]) (sp (.bool true) (zjr (ret1 (.bool true) rfl rfl ⟨_,rfl,(sps [.bool false,.bool false] (zjr (ret1 (.bool false) rfl rfl ⟨_,rfl,?_,H.base⟩)))⟩)))))⟩))))) (fun h=>absurd h qj))
     rw [xh (fun h=>by obtain ⟨h1,h2,h3,h4,h5⟩:=h;first | exact ft h1 ‹_› | exact ft h2 ‹_› | exact ft h3 ‹_› | exact h4 ⟨‹_›,‹_›⟩ | (obtain ⟨q1,q2⟩:=h5 i qf;first | exact ft q1 ‹_› | exact absurd q2 ‹_›))]
    refine zx4 (zcr (sp (yI (-1)) (zjr (ret1 (yI (-1)) rfl rfl ⟨_,rfl,(sps [.bool false,.bool false] (zjr (ret1 (.bool false) rfl rfl ⟨_,rfl,(sps [.bool true,.bool true] (zjr (ret1 (.bool true) rfl rfl ⟨_,rfl,?_,H.base⟩)))⟩)))⟩))))
    rw [yC ⟨by assumption,by assumption,by assumption,fun ⟨u,v⟩=>by first | omega | exact ft v ‹_›,(show i=r.qM.length by omega)▸i1⟩]
   replace h23:=of_decide_eq_true h23
   refine qK 38 rfl rfl (oF rfl (qK 38 rfl rfl (oL rfl (H.cell 0 rfl rfl) (qK 38 rfl rfl (sp (.slice ae14 ((t.qI[r.qE.toNat]!).length) ce14) (qK 38 rfl rfl (sw (oq (isWithin_ok _ r.xY (t.qI[r.qE.toNat]!) (H.get 9 rfl).1 (H.get 0 rfl).1 qg qg) H fun w39 H=>qK 33 rfl rfl (sps [.bool (within r.xY (t.qI[r.qE.toNat]!)),.bool (within r.xY (t.qI[r.qE.toNat]!))] (zjn (xW (within r.xY (t.qI[r.qE.toNat]!)) rfl (fun h41=>?_) (fun h41=>?_))))))))))))
   ·skip
    refine zcr (sp (.bool false) (zjr (t_r (ret1 (.bool false) rfl rfl ⟨_,rfl,?_,H.base⟩))))
    rw [xh (fun h=>by obtain ⟨h1,h2,h3,h4,h5⟩:=h;first | exact ft h1 ‹_› | exact ft h2 ‹_› | exact ft h3 ‹_› | exact h4 ⟨‹_›,‹_›⟩ | (obtain ⟨q1,q2⟩:=h5 i qf;first | exact ft q1 ‹_› | exact absurd q2 ‹_›))]
   refine xx (t_n (zcr (oF rfl (oL rfl (H.cell 0 rfl rfl) (sp (.func (.func 120) #[] #[pp b3 0,pp b1 0,pp b5 0]) (sw (Qg #[.slice jQ r.qM.length jP,.func (.func 120) #[] #[pp b3 0,pp b1 0,pp b5 0]] rfl rfl call119 (en func119 ntmps119 ?_))))))))
   refine zcr (sp (.bool false) (zjc (sps [.slice jQ r.qM.length jP,.func (.func 120) #[] #[pp b3 0,pp b1 0,pp b5 0]] (sw (Qg #[.slice jQ r.qM.length jP,.func (.func 120) #[] #[pp b3 0,pp b1 0,pp b5 0]] rfl rfl call123 (en func123 ntmps123 ?_))))))
   refine zcr (sp (yI 0) (zjcc (sp (.slice jQ r.qM.length jP) (oN rfl (sp (yI 0) (zjn (xw ?_)))))))
   refine vJ (fun m' ρ w42=>∃ (zB:Env) (i:Nat),ρ=upd (upd (upd (upd zB 0 (.slice jQ r.qM.length jP)) 1 (.func (.func 120) #[] #[pp b3 0,pp b1 0,pp b5 0])) 7 (yI r.qM.length)) 8 (yI i)∧((i:Int)≤r.qM.length)∧(IntoUp s t r i)∧m' =(r.qM.length - (i:Int)).toNat∧Fresh w.heap.size []∧St w w42 [.box b5 [yI r.qE,yI r.vC,.slice yj r.xy.length yc,.slice yu r.xZ.length yh,.slice yl r.xY.length yf,.slice yt r.x9.length yg,.slice QH r.ja.length QG,.slice jQ r.qM.length jP,.bool r.zW] 51,.box b3 [.slice (aa b7 o8) t.qC.length qR,.slice (aa b11 o12) t.qI.length xA,.slice qO t.qF.length qN] 31,.box b1 (yS s qB qA qL qJ) 27] [sF false Fe14 ae14 ce14 (t.qI[r.qE.toNat]!),atF b11 (o12+(r.qE:Int).toNat * 1) [.slice ae14 ((t.qI[r.qE.toNat]!).length) ce14],sF false xe qB qA s.qx,sF false xI qL qJ s.qw,sF false zg (aa b7 o8) qR t.qC,sF false zO (aa b11 o12) xA t.qI,sF false xN qO qN t.qF,sF false Xu yj yc r.xy,sF false Xx yu yh r.xZ,sF false Xv yl yf r.xY,sF false Xw yt yg r.x9,sF false FrOut QH QG r.ja,sF false FrInto jQ jP r.qM]) ((r.qM.length - (0:Int)).toNat) ⟨_,0,uE4,qf,(by exact fun j hj=>by omega),rfl,N,H⟩ ?_
   clear H N
   rintro m' ρ w43 ⟨zB,i,rfl,i0,i1,rfl,N,H⟩
   refine zcr (sp (.bool (decide ((i:Int) < r.qM.length))) (zjn (zn (cD rfl (fun h44=>?_) (fun h44=>?_)))))
   ·skip
    have q:=(p12 i qf).1
    have q1:=q.1
    have q2:=q.2
    refine xx (t_n (zn (xw (zcr (sps [yI i,yI i] (zjc (sps [.func (.func 120) #[] #[pp b3 0,pp b1 0,pp b5 0],.slice jQ r.qM.length jP,yI i] ?_)))))))
    obtain ⟨b45,o46,rfl⟩:=H.addr 12 rfl qf
    obtain ⟨ae48Bag,ce48Bag,Fe48Bag,H⟩:=H.yX 12 rfl i i qf qf qf
    refine oI rfl rfl (sw (zu [yI ((r.qM[i]!).qE),.slice ae48Bag (((r.qM[i]!).Qz).length) ce48Bag] isAgg121 sizeOf121 rfl (qH (H.get 1 rfl) 0 2) (sw (Qg #[.agg #[yI ((r.qM[i]!).qE),.slice ae48Bag (((r.qM[i]!).Qz).length) ce48Bag],pp b3 0,pp b1 0,pp b5 0] rfl rfl call120 (en func120 ntmps120 ?_)))))
    refine zcr (sw (yK H [yI ((r.qM[i]!).qE),.slice ae48Bag (((r.qM[i]!).Qz).length) ce48Bag] fun b49 w50 H=>sp (.bool false) (zjn (zn ?_))))
    refine yF rfl H fun H=>tF 0 rfl rfl H ?_
    refine tL 1 rfl rfl (fun _ h=>h.cell 2 rfl rfl) H ?_
    refine tF 2 rfl rfl H ?_
    refine tL 3 rfl rfl (fun _ h=>h.cell 0 rfl rfl) H ?_
    refine tI 4 rfl rfl rfl H ?_
    refine tL 5 rfl rfl (fun _ h=>h.Xg 6 rfl ((r.qM[i]!).qE) qf qf) H ?_
    refine rtp 6 (.bool (!(t.qC[((r.qM[i]!).qE).toNat]!))) H ?_
    refine rtp 7 (.bool (!(t.qC[((r.qM[i]!).qE).toNat]!))) H ?_
    cases h52:(!(t.qC[((r.qM[i]!).qE).toNat]!))
    ·skip
     replace h52:=xm h52
     refine rg 8 (.agg #[yI s.xn,.slice qB s.qx.length qA,.slice qL s.qw.length qJ]) 13 (QC (cs:=(yS s qB qA qL qJ)) isAgg27 sizeOf27 rfl (fun _ h=>qH (h.cells 3 rfl) 0 3)) H ?_
     refine rg 9 (.agg #[.slice (aa b7 o8) t.qC.length qR,.slice (aa b11 o12) t.qI.length xA,.slice qO t.qF.length qN]) 13 (QC (cs:=[.slice (aa b7 o8) t.qC.length qR,.slice (aa b11 o12) t.qI.length xA,.slice qO t.qF.length qN]) isAgg31 sizeOf31 rfl (fun _ h=>qH (h.cells 2 rfl) 0 3)) H ?_
     refine gF 10 rfl rfl H ?_
     refine gL 11 rfl rfl (fun _ h=>h.cell 0 rfl rfl) H ?_
     refine gF 13 rfl rfl H ?_
     refine gL 14 rfl rfl (fun _ h=>h.cell 1 rfl rfl) H ?_
     refine zH [12] qh qm (r_opG rfl (e:=13) rfl rfl (oq (parentNow_ok _ s t ((r.qM[i]!).qE) (H.get 4 rfl).1 (H.get 5 rfl).1 (H.get 6 rfl).1 (H.get 7 rfl).1 (H.get 8 rfl).1 qg qg qg) H fun w54 H=>⟨H,(rgp 15 (.bool ((xg s t ((r.qM[i]!).qE):Int) != r.qE)) 13 H ?_)⟩) zI)
     refine rtp 16 (.bool ((xg s t ((r.qM[i]!).qE):Int) != r.qE)) H ?_
     refine rtp 17 (.bool ((xg s t ((r.qM[i]!).qE):Int) != r.qE)) H ?_
     refine qZ qh (t_n (c_ret (ret1 (.bool ((xg s t ((r.qM[i]!).qE):Int) != r.qE)) rfl rfl ⟨_,rfl,?_⟩)))
     replace H:=H.erases [0]
     dsimp only [Qj,List.eraseIdx] at H
     refine zjn (xW ((xg s t ((r.qM[i]!).qE):Int) != r.qE) rfl (fun h56=>?_) (fun h56=>?_))
     ·skip
      replace h56:=bne_iff_ne.1 h56
      refine zcr (sps [yI i,yI i] (zjr (zr5 (ret1 (yI i) rfl rfl ⟨_,rfl,(sw (o_pure (.bool true) (by show some (Value.bool (decide ((i:Int)≥0)))=some (Value.bool true);rw [decide_eq_true qf]) (sp (.bool true) (zjr (ret1 (.bool true) rfl rfl ⟨_,rfl,(sps [.bool false,.bool false] (zjr (ret1 (.bool false) rfl rfl ⟨_,rfl,?_,H.base⟩)))⟩)))))⟩))))
      rw [xh (fun h=>by obtain ⟨h1,h2,h3,h4,h5⟩:=h;first | exact ft h1 ‹_› | exact ft h2 ‹_› | exact ft h3 ‹_› | exact h4 ⟨‹_›,‹_›⟩ | (obtain ⟨q1,q2⟩:=h5 i qf;first | exact ft q1 ‹_› | exact absurd q2 ‹_›))]
     replace h56:=zL h56
     refine xx (b_n (t_n (zk (sw (zX i 1 rfl rfl qf (sp (yI (i+1)) (zt (xu (m' :=(r.qM.length - ((i+1):Int)).toNat) qf ⟨_,i+1,uE4,?_,?_,rfl,N,H.pick [0,1,2] [2,3,4,5,6,7,8,9,10,11,12,13,14]⟩))))))))
     · omega
     · exact i1.succ ‹_› ‹_›
    replace h52:=xB h52
    refine zC [8,9,10,11,12,13,14,15] 8 (H) (rtp 16 (.bool true) H ?_)
    refine rtp 17 (.bool true) H ?_
    refine qZ qh (t_n (c_ret (ret1 (.bool true) rfl rfl ⟨_,rfl,?_⟩)))
    replace H:=H.erases [0]
    dsimp only [Qj,List.eraseIdx] at H
    refine zjn (xW true rfl (fun _=>zcr (sps [yI i,yI i] (zjr (zr5 (ret1 (yI i) rfl rfl ⟨_,rfl,(sw (o_pure (.bool true) (by show some (Value.bool (decide ((i:Int)≥0)))=some (Value.bool true);rw [decide_eq_true qf]) (sp (.bool true) (zjr (ret1 (.bool true) rfl rfl ⟨_,rfl,(sps [.bool false,.bool false] (zjr (ret1 (.bool false) rfl rfl ⟨_,rfl,?_,H.base⟩)))⟩)))))⟩))))) (fun h=>absurd h qj))
    rw [xh (fun h=>by obtain ⟨h1,h2,h3,h4,h5⟩:=h;first | exact ft h1 ‹_› | exact ft h2 ‹_› | exact ft h3 ‹_› | exact h4 ⟨‹_›,‹_›⟩ | (obtain ⟨q1,q2⟩:=h5 i qf;first | exact ft q1 ‹_› | exact absurd q2 ‹_›))]
   refine zx4 (zcr (sp (yI (-1)) (zjr (ret1 (yI (-1)) rfl rfl ⟨_,rfl,(sps [.bool false,.bool false] (zjr (ret1 (.bool false) rfl rfl ⟨_,rfl,(sps [.bool true,.bool true] (zjr (ret1 (.bool true) rfl rfl ⟨_,rfl,?_,H.base⟩)))⟩)))⟩))))
   rw [yC ⟨by assumption,by assumption,by assumption,fun ⟨u,v⟩=>by first | omega | exact ft v ‹_›,(show i=r.qM.length by omega)▸i1⟩]
  replace h20:=xB h20
  refine xK [34,35,36,37,38,39,40,41,42,43] (sp (.bool true) (zjn (xW true rfl (fun _=>zcr (sp (.bool false) (zjr (t_r (ret1 (.bool false) rfl rfl ⟨_,rfl,?_,H.base⟩))))) (fun h=>absurd h qj))))
  rw [xh (fun h=>by obtain ⟨h1,h2,h3,h4,h5⟩:=h;first | exact ft h1 ‹_› | exact ft h2 ‹_› | exact ft h3 ‹_› | exact h4 ⟨‹_›,‹_›⟩ | (obtain ⟨q1,q2⟩:=h5 i qf;first | exact ft q1 ‹_› | exact absurd q2 ‹_›))]
 replace h17:=xB h17
 refine xK [27,28,29,30,31] (sps [.bool true,.bool true] (xK [34,35,36,37,38,39,40,41,42,43] (sp (.bool true) (zjn (xW true rfl (fun _=>zcr (sp (.bool false) (zjr (t_r (ret1 (.bool false) rfl rfl ⟨_,rfl,?_,H.base⟩))))) (fun h=>absurd h qj))))))
 rw [xh (fun h=>by obtain ⟨h1,h2,h3,h4,h5⟩:=h;first | exact ft h1 ‹_› | exact ft h2 ‹_› | exact ft h3 ‹_› | exact h4 ⟨‹_›,‹_›⟩ | (obtain ⟨q1,q2⟩:=h5 i qf;first | exact ft q1 ‹_› | exact absurd q2 ‹_›))]

theorem cloneSS_ok (w:World) (l:yLL) {al:yOA} {Fl:yLN} (hl:qU.rep w Fl [.slice al l.length cl] l) (p0:l.length≤1000000):Calls Try.prog 78 #[.slice al l.length cl] w (Ret (fun v w' =>∃ (ra:yOA) (rn:Nat) (rc:Nat) (rx:List Value) (rF:yLN),v=.slice ra rn rc∧(∀ b∈rF,b∈Fl)∧St w w' [rr ra rn rc 24 1 rx] [xf false rF rx l]) w):=by
 refine en func78 ntmps78 ?_
 have H:=(St.start w).arg hl
 have nhl:=qP hl
 clear hl
 have N:=Fresh.nil w.heap.size
 refine zcr (sp yN (zjcc (sp (.slice al l.length cl) (sw (o_eqnil underlying29 al l.length cl rfl (zjn (xW (al.isNone) rfl (fun h1=>?_) (fun h1=>?_))))))))
 ·skip
  refine zcr (sp yN (zjr (t_r ?_)))
  replace H:=H.nilRow 24 1
  replace H:=H.Qv (α:=yLI)
  refine ret1 yN rfl rfl ⟨_,rfl,?_,H.base⟩
  obtain rfl:=H.nilOf 1 rfl ‹_›
  replace H:=H.unfree 0 rfl
  exact ⟨none,0,0,[],[],rfl,(by intro b hb;first | (simp at hb;done) | exact id b (by simpa using hb)),H.pick [0] [0]⟩
 refine xx (t_n (zcr (sw (QQ H underlying29 ti24 fun b2 w3 H=>sp (.slice al l.length cl) ?_))))
 replace H:=H.boxRow 0 rfl 1 0 rfl qj
 replace H:=H.Qv (α:=yLI)
 refine sw (o_appendFR H 0 rfl 1 rfl underlying29 ti24 rfl qj rfl rfl qp qf fun a4 c5 w6 us7 G8 H hG9=>?_)
 replace H:=H.repsCat false 1 rfl 0 rfl qm
 refine sp (.slice a4 (0+l.length) c5) (zjr (ret1 (.slice a4 (0+l.length) c5) rfl rfl ⟨_,rfl,(⟨a4,0+l.length,c5,[]++us7,([]++G8),rfl,(by intro b hb;first | (simp at hb;done) | exact hG9 b (by simpa using hb)),H.pick [0] [0]⟩),H.base⟩))

theorem timesIn_ok (w:World) (l:yLI) (m:yLI) {al:yOA} {Fl:yLN} {am:yOA} {Fm:yLN} (hl:qU.rep w Fl [.slice al l.length cl] l) (hm:qU.rep w Fm [.slice am m.length cm] m) (p0:l.length≤m.length) (p2:∀ q,q < l.length→0≤m[q]! ∧m[q]! ≤1000):Calls Try.prog 79 #[.slice al l.length cl,.slice am m.length cm] w (Ret (fun v w' =>v=yI (y8 l m)) w):=by
 refine en func79 ntmps79 ?_
 have H:=((St.start w).arg hm).arg hl
 have nhl:=qP hl
 have nhm:=qP hm
 clear hl hm
 have N:=Fresh.nil w.heap.size
 refine zcr (sp (yI 0) (zjc (sp (yI 1000) (zjcc (sp (.slice al l.length cl) (oN rfl (sp (yI 0) (zjn (xw ?_)))))))))
 refine vJ (fun m' ρ w1=>∃ (zB:Env) (most:Int) (k:Nat),ρ=upd (upd (upd (upd (upd zB 1 (.slice am m.length cm)) 5 (yI most)) 8 (.slice al l.length cl)) 9 (yI l.length)) 10 (yI k)∧most=yY l m k∧((k:Int)≤l.length)∧m' =(l.length - (k:Int)).toNat∧Fresh w.heap.size []∧St w w1 [] [sF false Fl al cl l,sF false Fm am cm m]) ((l.length - (0:Int)).toNat) ⟨_,1000,0,uE5,(by rfl),qf,rfl,N,H⟩ ?_
 clear H N
 rintro m' ρ w2 ⟨zB,most,k,rfl,rfl,i0,rfl,N,H⟩
 refine zcr (sp (.bool (decide ((k:Int) < l.length))) (zjn (zn (cD rfl (fun h3=>?_) (fun h3=>?_)))))
 ·skip
  refine xx (t_n (zn (xw (zcr (sp (yI k) ?_)))))
  obtain ⟨b4,o5,rfl⟩:=H.addr 0 rfl qf
  refine oI rfl rfl (oL rfl (H.yE 0 rfl k qf qf) (sps [yI k,yI (l[k]!)] (zjc (sps [yI (l[k]!),.bool (decide ((l[k]! :Int) > 0))] (zjn (cD rfl (fun h7=>?_) (fun h7=>?_)))))))
  ·skip
   refine zk (sps [yI (yY l m k),.slice am m.length cm,yI k] ?_)
   obtain ⟨b8,o9,rfl⟩:=H.addr 1 rfl qf
   refine oI rfl rfl (oL rfl (H.yE 1 rfl k qf qf) (sp (yI (l[k]!)) (sw (o_quo (m[k]!) (l[k]!) rfl rfl (by (have:=p2 k qf;omega)) (by (have:=p2 k qf;omega)) (sw (o_min (yY l m k) ((m[k]!) / (l[k]!)) rfl rfl (sp (yI (min (yY l m k) ((m[k]!) / (l[k]!)))) (zt (b_n (t_n (zk (sw (zX k 1 rfl rfl (by (have:=p2 k qf;omega)) (sp (yI (k+1)) (zt (xu (m' :=(l.length - ((k+1):Int)).toNat) qf ⟨_,min (yY l m k) ((m[k]!) / (l[k]!)),k+1,uE5,?_,?_,rfl,N,H⟩))))))))))))))))
   · first | exact (timesTo_pos qf).symm | exact (timesTo_skip qf).symm
   · omega
  refine xx (b_n (t_n (zk (sw (zX k 1 rfl rfl (by (have:=p2 k qf;omega)) (sp (yI (k+1)) (zt (xu (m' :=(l.length - ((k+1):Int)).toNat) qf ⟨_,(yY l m k),k+1,uE5,?_,?_,rfl,N,H⟩))))))))
  · first | exact (timesTo_pos qf).symm | exact (timesTo_skip qf).symm
  · omega
 refine zx4 (zcr (sps [yI (yY l m k),yI (yY l m k)] (zjr (ret1 (yI (yY l m k)) rfl rfl ⟨_,rfl,?_,H.base⟩))))
 obtain rfl:k=l.length:=by omega
 rfl

theorem applicable_ok (w:World) (s:qy) (t:qG) {qB:yOA} {xe:yLN} {qL:yOA} {xI:yLN} {qX:yOA} {zg:yLN} {xG:yOA} {zO:yLN} {qO:yOA} {xN:yLN} (qV:qU.rep w xe [.slice qB s.qx.length qA] s.qx) (xF:qU.rep w xI [.slice qL s.qw.length qJ] s.qw) (zf:qU.rep w zg [.slice qX t.qC.length qR] t.qC) (zK:qU.rep w zO [.slice xG t.qI.length xA] t.qI) (xO:qU.rep w xN [.slice qO t.qF.length qN] t.qF) (p0:yH s) (p1:zl s t):Calls Try.prog 60 #[.agg #[yI s.xn,.slice qB s.qx.length qA,.slice qL s.qw.length qJ],.agg #[.slice qX t.qC.length qR,.slice xG t.qI.length xA,.slice qO t.qF.length qN]] w (Ret (fun v w' =>∃ (ra:yOA) (rn:Nat) (rc:Nat),v=.slice ra rn rc∧Fresh w.heap.size []∧St w w' [rr ra rn rc 2 1 ((appls s t).map (Value.int .i64))] []) w):=by
 refine en func60 ntmps60 ?_
 have H:=(((((St.start w).arg xO).arg zK).arg zf).arg xF).arg qV
 have vG:=qP qV
 have jM:=qP xF
 have Qh:=qP zf
 have QR:=qP zK
 have yO:=qP xO
 clear qV xF zf zK xO
 have N:=Fresh.nil w.heap.size
 have p2:=p0.2.1
 have p3:=p0.1.2.1
 refine zcr (sw (yK H (yS s qB qA qL qJ) fun b1 w2 H=>sw (yK H (yT t qX qR xG xA qO qN) fun b3 w4 H=>sp yN (zjc (sw (xJ [yI 0,yI 0,yI 0,yI 0,yI 0,yI 0] [] (sw (xq H ti124 [yI 0,yI 0,yI 0,yI 0,yI 0,yI 0] fun b5 w6 H=>?_))))))))
 refine sw (qQ H 0 [yI 0,yI 0,yI 0,yI 0,yI 0,yI 0] sizeOf124 fun w7 H=>zjcc (sp (yI 0) (zjn (xw ?_))))
 refine vJ (fun m' ρ w8=>∃ (zB:Env) (c:Nat) (top:yLI),ρ=upd (upd (upd (upd zB 2 (pp b1 0)) 3 (pp b3 0)) 5 (pp b5 0)) 13 (yI c)∧top=minus c∧((c:Int)≤6)∧m' =(6 - (c:Int)).toNat∧Fresh w.heap.size []∧St w w8 [.box b5 (top.map (Value.int .i64)) 124,.box b3 (yT t qX qR xG xA qO qN) 31,.box b1 (yS s qB qA qL qJ) 27] [sF false xe qB qA s.qx,sF false xI qL qJ s.qw,sF false zg qX qR t.qC,sF false zO xG xA t.qI,sF false xN qO qN t.qF]) ((6 - (0:Int)).toNat) ⟨_,0,[0,0,0,0,0,0],uE4,(by rfl),qf,rfl,N,H⟩ ?_
 clear H N
 rintro m' ρ w9 ⟨zB,c,top,rfl,rfl,i0,rfl,N,H⟩
 refine zcr (sp (.bool (decide ((c:Int) < 6))) (zjn (zn (cD rfl (fun h10=>?_) (fun h10=>?_)))))
 ·skip
  refine xx (t_n (zn (xw (zcr (sps [yI c,yI c] (zjn (zk (sp (yI c) (sw (o_idxArr c underlying124 ti2 rfl rfl qf qf (sw (o_storeArr H 0 rfl (-1) sizeOf2 rfl rfl (i:=c) qf (by simp only [List.length_set,List.length_cons,List.length_nil,minus_len,QW];omega) fun w11 H=>zt (b_n (t_n (zk (sw (zX c 1 rfl rfl qf (sp (yI (c+1)) (zt (xu (m' :=(6 - ((c+1):Int)).toNat) qf ⟨_,c+1,((minus c).set c (-1)),uE4,?_,?_,rfl,N,H⟩))))))))))))))))))))
  · exact minus_set qf
  · omega
 refine zx4 (zcc (oF rfl (oL rfl (H.cell 2 rfl rfl) (oN rfl (sp (yI 0) (zjn (xw ?_)))))))
 refine vJ (fun m' ρ w12=>∃ (zB:Env) (k:Nat) (top_1:yLI),ρ=upd (upd (upd (upd (upd (upd zB 2 (pp b1 0)) 3 (pp b3 0)) 5 (pp b5 0)) 20 (.slice qL s.qw.length qJ)) 21 (yI s.qw.length)) 22 (yI k)∧top_1=bests s t (-1) 6 k∧((k:Int)≤s.qw.length)∧m' =(s.qw.length - (k:Int)).toNat∧Fresh w.heap.size []∧St w w12 [.box b5 (top_1.map (Value.int .i64)) 124,.box b3 (yT t qX qR xG xA qO qN) 31,.box b1 (yS s qB qA qL qJ) 27] [sF false xe qB qA s.qx,sF false xI qL qJ s.qw,sF false zg qX qR t.qC,sF false zO xG xA t.qI,sF false xN qO qN t.qF]) ((s.qw.length - (0:Int)).toNat) ⟨_,0,(minus c),uE6,(by exact minus_six qf s t),qf,rfl,N,H⟩ ?_
 clear H N
 rintro m' ρ w13 ⟨zB,k,top_1,rfl,rfl,i0,rfl,N,H⟩
 refine zcr (sp (.bool (decide ((k:Int) < s.qw.length))) (zjn (zn (cD rfl (fun h14=>?_) (fun h14=>?_)))))
 ·skip
  have q:=p0.rule (i:=k) qf
  have qc:=q.1
  have qk:=q.cell
  have qr:=q.2.1
  have q6:(s.qw[k]!).qE.toNat < 6:=by omega
  refine xx (t_n (zn (xw (zcr ?_))))
  obtain ⟨b15,o16,rfl⟩:=H.addr 1 rfl qf
  obtain ⟨ae18Need,ce18Need,Fe18Need,ae18Have,ce18Have,Fe18Have,ae18Lack,ce18Lack,Fe18Lack,ae18Here,ce18Here,Fe18Here,ae18Out,ce18Out,Fe18Out,ae18Into,ce18Into,Fe18Into,H⟩:=H.Qo 1 rfl k k qf qf qf
  refine oI rfl rfl (sw (zu [yI ((s.qw[k]!).qE),yI ((s.qw[k]!).vC),.slice ae18Need (((s.qw[k]!).xy).length) ce18Need,.slice ae18Have (((s.qw[k]!).xZ).length) ce18Have,.slice ae18Lack (((s.qw[k]!).xY).length) ce18Lack,.slice ae18Here (((s.qw[k]!).x9).length) ce18Here,.slice ae18Out (((s.qw[k]!).ja).length) ce18Out,.slice ae18Into (((s.qw[k]!).qM).length) ce18Into,.bool ((s.qw[k]!).zW)] isAgg51 sizeOf51 rfl (qH (H.get 6 rfl) 0 9) ?_))
  refine sw (xq H ti51 [yI 0,yI 0,yN,yN,yN,yN,yN,yN,.bool false] fun b19 w20 H=>sw (qQ H 0 [yI ((s.qw[k]!).qE),yI ((s.qw[k]!).vC),.slice ae18Need (((s.qw[k]!).xy).length) ce18Need,.slice ae18Have (((s.qw[k]!).xZ).length) ce18Have,.slice ae18Lack (((s.qw[k]!).xY).length) ce18Lack,.slice ae18Here (((s.qw[k]!).x9).length) ce18Here,.slice ae18Out (((s.qw[k]!).ja).length) ce18Out,.slice ae18Into (((s.qw[k]!).qM).length) ce18Into,.bool ((s.qw[k]!).zW)] sizeOf51 fun w21 H=>?_))
  refine zjc (sw (zu [yI s.xn,.slice qB s.qx.length qA,.slice (aa b15 o16) s.qw.length qJ] isAgg27 sizeOf27 rfl (qH (H.cells 3 rfl) 0 3) (sw (zu (yT t qX qR xG xA qO qN) isAgg31 sizeOf31 rfl (qH (H.cells 2 rfl) 0 3) ?_))))
  refine sw (zu [yI ((s.qw[k]!).qE),yI ((s.qw[k]!).vC),.slice ae18Need (((s.qw[k]!).xy).length) ce18Need,.slice ae18Have (((s.qw[k]!).xZ).length) ce18Have,.slice ae18Lack (((s.qw[k]!).xY).length) ce18Lack,.slice ae18Here (((s.qw[k]!).x9).length) ce18Here,.slice ae18Out (((s.qw[k]!).ja).length) ce18Out,.slice ae18Into (((s.qw[k]!).qM).length) ce18Into,.bool ((s.qw[k]!).zW)] isAgg51 sizeOf51 rfl (qH (H.cells 0 rfl) 0 9) ?_)
  refine sw (oq (isEnabled_ok _ s t (s.qw[k]!) (H.get 7 rfl).1 (H.get 8 rfl).1 (H.get 9 rfl).1 (H.get 10 rfl).1 (H.get 11 rfl).1 (H.get 0 rfl).1 (H.get 1 rfl).1 (H.get 2 rfl).1 (H.get 3 rfl).1 (H.get 4 rfl).1 (H.get 5 rfl).1 qg qg qg) H fun w23 H=>zjn (cP rfl (fun h25=>?_) (fun h25=>?_)))
  ·skip
   refine yR rfl H [0,2,3] fun H=>?_
   have S:=H.jR [0,2,3] [0,1,2,3,4,5,6,7,8,9,10,11]
   refine tF 0 rfl rfl S ?_
   refine tL 1 rfl rfl (fun _ h=>h.cell 0 rfl rfl) S ?_
   refine tF 2 rfl rfl S ?_
   refine tL 3 rfl rfl (fun _ h=>h.cell 0 rfl rfl) S ?_
   refine rt 4 (pp b5 (0+((s.qw[k]!).qE:Int).toNat * 1)) (y_idxArr b5 (0) 6 ((s.qw[k]!).qE) underlying124 ti2 rfl rfl qf qf) S ?_
   refine tF 6 rfl rfl S ?_
   refine tL 7 rfl rfl (fun _ h=>h.cell 0 rfl rfl) S ?_
   refine ro 5 rfl (zh (yI ((bests s t (-1) 6 k)[((s.qw[k]!).qE).toNat]!)) isAgg2 rfl (H.cell 1 rfl (ints_at (iv:=(s.qw[k]!).qE) (i:=(((s.qw[k]!).qE).toNat)) qf (by simp only [List.length_set,List.length_cons,List.length_nil,minus_len,QW];omega))) (⟨H.pick [0,2,3] [0,1,2,3,4,5,6,7,8,9,10,11],?_⟩))
   have S:=H.jR [0,2,3] [0,1,2,3,4,5,6,7,8,9,10,11]
   refine rt 8 (yI (max ((bests s t (-1) 6 k)[((s.qw[k]!).qE).toNat]!) ((s.qw[k]!).vC))) (y_max ((bests s t (-1) 6 k)[((s.qw[k]!).qE).toNat]!) ((s.qw[k]!).vC) rfl rfl) S ?_
   refine rt 9 (pp b5 (0+((s.qw[k]!).qE:Int).toNat * 1)) (y_idxArr b5 (0) 6 ((s.qw[k]!).qE) underlying124 ti2 rfl rfl qf qf) S ?_
   refine ro 10 rfl (o_storeArr H 1 rfl (max ((bests s t (-1) 6 k)[((s.qw[k]!).qE).toNat]!) ((s.qw[k]!).vC)) sizeOf2 rfl rfl (i:=(((s.qw[k]!).qE).toNat)) qf (by simp only [List.length_set,List.length_cons,List.length_nil,minus_len,QW];omega) fun w27 H=>⟨H.pick [0,2,3] [0,1,2,3,4,5,6,7,8,9,10,11],(qZ qh (b_n (t_n (zk (sw (zX k 1 rfl rfl qf (sp (yI (k+1)) (zt ?_))))))))⟩)
   refine xu (m' :=(s.qw.length - ((k+1):Int)).toNat) qf ⟨_,k+1,((bests s t (-1) 6 k).set (((s.qw[k]!).qE).toNat) (max ((bests s t (-1) 6 k)[((s.qw[k]!).qE).toNat]!) ((s.qw[k]!).vC))),uE6,?_,?_,rfl,N,H.pick [1,2,3] [7,8,9,10,11]⟩
   · first | exact bests_set ‹_› qf | exact bests_skip ‹_›
   · omega
  refine xx (b_n (t_n (zk (sw (zX k 1 rfl rfl qf (sp (yI (k+1)) (zt (xu (m' :=(s.qw.length - ((k+1):Int)).toNat) qf ⟨_,k+1,(bests s t (-1) 6 k),uE6,?_,?_,rfl,N,H.pick [1,2,3] [7,8,9,10,11]⟩))))))))
  · first | exact bests_set ‹_› qf | exact bests_skip ‹_›
  · omega
 refine zx4 (zcr (sw (QQ H underlying24 ti2 fun b28 w29 H=>sp (.slice (aa b28 0) 0 0) (zjcc (oF rfl (oL rfl (H.cell 3 rfl rfl) (oN rfl (sp (yI 0) (zjn (xw ?_))))))))))
 replace H:=H.boxRowI 0 [] 0
 refine vJ (fun m' ρ w30=>∃ (zB:Env) (Xp:yOA) (QK:Nat) (Xo:Nat) (out:yLI) (i:Nat),ρ=upd (upd (upd (upd (upd (upd (upd zB 2 (pp b1 0)) 3 (pp b3 0)) 5 (pp b5 0)) 9 (.slice Xp QK Xo)) 43 (.slice qL s.qw.length qJ)) 44 (yI s.qw.length)) 45 (yI i)∧out=applL s t i∧((i:Int)≤s.qw.length)∧m' =(s.qw.length - (i:Int)).toNat∧Fresh w.heap.size []∧St w w30 [rr Xp QK Xo 2 1 (out.map (Value.int .i64)),.box b5 ((bests s t (-1) 6 k).map (Value.int .i64)) 124,.box b3 (yT t qX qR xG xA qO qN) 31,.box b1 (yS s qB qA qL qJ) 27] [sF false xe qB qA s.qx,sF false xI qL qJ s.qw,sF false zg qX qR t.qC,sF false zO xG xA t.qI,sF false xN qO qN t.qF]) ((s.qw.length - (0:Int)).toNat) ⟨_,(aa b28 0),0,0,([]:yLI),0,uE7,(by rfl),qf,rfl,N,H⟩ ?_
 clear H N
 rintro m' ρ w31 ⟨zB,Xp,QK,Xo,out,i,rfl,rfl,i0,rfl,N,H⟩
 have hn_out:=H.zS 0 rfl
 have ll:=applL_le s t i
 refine zcr (sp (.bool (decide ((i:Int) < s.qw.length))) (zjn (zn (cD rfl (fun h32=>?_) (fun h32=>?_)))))
 ·skip
  have q:=p0.rule (i:=i) qf
  have qc:=q.1
  have qk:=q.cell
  have qr:=q.2.1
  have q6:(s.qw[i]!).qE.toNat < 6:=by omega
  refine xx (t_n (zn (xw (zcr (sp (yI i) ?_)))))
  obtain ⟨b33,o34,rfl⟩:=H.addr 1 rfl qf
  obtain ⟨ae36Need,ce36Need,Fe36Need,ae36Have,ce36Have,Fe36Have,ae36Lack,ce36Lack,Fe36Lack,ae36Here,ce36Here,Fe36Here,ae36Out,ce36Out,Fe36Out,ae36Into,ce36Into,Fe36Into,H⟩:=H.Qo 1 rfl i i qf qf qf
  refine oI rfl rfl (sw (zu [yI ((s.qw[i]!).qE),yI ((s.qw[i]!).vC),.slice ae36Need (((s.qw[i]!).xy).length) ce36Need,.slice ae36Have (((s.qw[i]!).xZ).length) ce36Have,.slice ae36Lack (((s.qw[i]!).xY).length) ce36Lack,.slice ae36Here (((s.qw[i]!).x9).length) ce36Here,.slice ae36Out (((s.qw[i]!).ja).length) ce36Out,.slice ae36Into (((s.qw[i]!).qM).length) ce36Into,.bool ((s.qw[i]!).zW)] isAgg51 sizeOf51 rfl (qH (H.get 6 rfl) 0 9) ?_))
  refine sw (xq H ti51 [yI 0,yI 0,yN,yN,yN,yN,yN,yN,.bool false] fun b37 w38 H=>sp (yI i) ?_)
  refine sw (qQ H 0 [yI ((s.qw[i]!).qE),yI ((s.qw[i]!).vC),.slice ae36Need (((s.qw[i]!).xy).length) ce36Need,.slice ae36Have (((s.qw[i]!).xZ).length) ce36Have,.slice ae36Lack (((s.qw[i]!).xY).length) ce36Lack,.slice ae36Here (((s.qw[i]!).x9).length) ce36Here,.slice ae36Out (((s.qw[i]!).ja).length) ce36Out,.slice ae36Into (((s.qw[i]!).qM).length) ce36Into,.bool ((s.qw[i]!).zW)] sizeOf51 fun w39 H=>zjn (zn ?_))
  refine yF rfl H fun H=>tF 0 rfl rfl H ?_
  refine tL 1 rfl rfl (fun _ h=>h.cell 0 rfl rfl) H ?_
  refine tF 2 rfl rfl H ?_
  refine tL 3 rfl rfl (fun _ h=>h.cell 0 rfl rfl) H ?_
  refine rt 4 (pp b5 (0+((s.qw[i]!).qE:Int).toNat * 1)) (y_idxArr b5 (0) 6 ((s.qw[i]!).qE) underlying124 ti2 rfl rfl qf qf) H ?_
  refine tL 5 rfl rfl (fun _ h=>h.cell 2 rfl (ints_at (iv:=(s.qw[i]!).qE) (i:=(((s.qw[i]!).qE).toNat)) qf (by simp only [List.length_set,List.length_cons,List.length_nil,minus_len,QW];omega))) H ?_
  refine rtp 6 (.bool (((s.qw[i]!).vC:Int) == ((bests s t (-1) 6 k)[((s.qw[i]!).qE).toNat]!))) H ?_
  refine rtp 7 (.bool (((s.qw[i]!).vC:Int) == ((bests s t (-1) 6 k)[((s.qw[i]!).qE).toNat]!))) H ?_
  cases h41:(((s.qw[i]!).vC:Int) == ((bests s t (-1) 6 k)[((s.qw[i]!).qE).toNat]!))
  ·skip
   replace h41:=ne_of_beq_false h41
   refine zC [8,9,10,11] 4 (H) (rtp 12 (.bool false) H ?_)
   refine qZ qh (t_n (xW false rfl (fun h=>absurd h qj) (fun _=>xx (b_n (t_n (zk (sw (zX i 1 rfl rfl qf (sp (yI (i+1)) (zt (xu (m' :=(s.qw.length - ((i+1):Int)).toNat) qf ⟨_,Xp,QK,Xo,(applL s t i),i+1,uE7,?_,?_,rfl,N,H.pick [1,2,3,4] [7,8,9,10,11]⟩)))))))))))
   · first | exact applL_yes (appl_yes (n:=6) (z:= -1) (k:=k) qf qf qf q6 ‹_› ‹_›) | exact applL_no (appl_no (n:=6) (z:= -1) (k:=k) qf qf qf q6 ‹_›) | exact applL_no (fun h=>‹¬ EnOk _ _ _› h.1)
   · omega
  replace h41:=eq_of_beq h41
  refine rg 8 (.agg #[yI s.xn,.slice qB s.qx.length qA,.slice (aa b33 o34) s.qw.length qJ]) 57 (QC (cs:=[yI s.xn,.slice qB s.qx.length qA,.slice (aa b33 o34) s.qw.length qJ]) isAgg27 sizeOf27 rfl (fun _ h=>qH (h.cells 4 rfl) 0 3)) H ?_
  refine rg 9 (.agg #[.slice qX t.qC.length qR,.slice xG t.qI.length xA,.slice qO t.qF.length qN]) 57 (QC (cs:=(yT t qX qR xG xA qO qN)) isAgg31 sizeOf31 rfl (fun _ h=>qH (h.cells 3 rfl) 0 3)) H ?_
  refine rg 10 (.agg #[yI ((s.qw[i]!).qE),yI ((s.qw[i]!).vC),.slice ae36Need (((s.qw[i]!).xy).length) ce36Need,.slice ae36Have (((s.qw[i]!).xZ).length) ce36Have,.slice ae36Lack (((s.qw[i]!).xY).length) ce36Lack,.slice ae36Here (((s.qw[i]!).x9).length) ce36Here,.slice ae36Out (((s.qw[i]!).ja).length) ce36Out,.slice ae36Into (((s.qw[i]!).qM).length) ce36Into,.bool ((s.qw[i]!).zW)]) 57 (QC (cs:=[yI ((s.qw[i]!).qE),yI ((s.qw[i]!).vC),.slice ae36Need (((s.qw[i]!).xy).length) ce36Need,.slice ae36Have (((s.qw[i]!).xZ).length) ce36Have,.slice ae36Lack (((s.qw[i]!).xY).length) ce36Lack,.slice ae36Here (((s.qw[i]!).x9).length) ce36Here,.slice ae36Out (((s.qw[i]!).ja).length) ce36Out,.slice ae36Into (((s.qw[i]!).qM).length) ce36Into,.bool ((s.qw[i]!).zW)]) isAgg51 sizeOf51 rfl (fun _ h=>qH (h.cells 0 rfl) 0 9)) H ?_
  refine zH [11] qh qm (r_opG rfl (e:=57) rfl rfl (oq (isEnabled_ok _ s t (s.qw[i]!) (H.get 7 rfl).1 (H.get 8 rfl).1 (H.get 9 rfl).1 (H.get 10 rfl).1 (H.get 11 rfl).1 (H.get 0 rfl).1 (H.get 1 rfl).1 (H.get 2 rfl).1 (H.get 3 rfl).1 (H.get 4 rfl).1 (H.get 5 rfl).1 qg qg qg) H fun w43 H=>⟨H,(rtp 12 (.bool (dec (EnOk s t (s.qw[i]!)))) H ?_)⟩) zI)
  refine qZ qh (t_n (cP rfl (fun h45=>?_) (fun h45=>?_)))
  ·skip
   refine zk (sps [.slice Xp QK Xo,yI i] (sw (vF H underlying24 ti2 [yI i] fun b46 w47 H=>sw (vP H 2 rfl 0 rfl underlying24 ti2 rfl qj rfl rfl rfl (by simp [Value.oneCell',Value.cells]) qp qf fun a48 c49 w50 H=>?_))))
   rw [snocI] at H
   refine sp (.slice a48 (QK+1) c49) (zt (b_n (t_n (zk (sw (zX i 1 rfl rfl qf (sp (yI (i+1)) (zt (xu (m' :=(s.qw.length - ((i+1):Int)).toNat) qf ⟨_,a48,QK+1,c49,((applL s t i)++[(i:Int)]),i+1,uE7,?_,?_,rfl,N,H.pick [2,3,4,5] [7,8,9,10,11]⟩)))))))))
   · first | exact applL_yes (appl_yes (n:=6) (z:= -1) (k:=k) qf qf qf q6 ‹_› ‹_›) | exact applL_no (appl_no (n:=6) (z:= -1) (k:=k) qf qf qf q6 ‹_›) | exact applL_no (fun h=>‹¬ EnOk _ _ _› h.1)
   · omega
  refine xx (b_n (t_n (zk (sw (zX i 1 rfl rfl qf (sp (yI (i+1)) (zt (xu (m' :=(s.qw.length - ((i+1):Int)).toNat) qf ⟨_,Xp,QK,Xo,(applL s t i),i+1,uE7,?_,?_,rfl,N,H.pick [1,2,3,4] [7,8,9,10,11]⟩))))))))
  · first | exact applL_yes (appl_yes (n:=6) (z:= -1) (k:=k) qf qf qf q6 ‹_› ‹_›) | exact applL_no (appl_no (n:=6) (z:= -1) (k:=k) qf qf qf q6 ‹_›) | exact applL_no (fun h=>‹¬ EnOk _ _ _› h.1)
  · omega
 refine zx4 (zcr (sps [.slice Xp QK Xo,.slice Xp QK Xo] (zjr (ret1 (.slice Xp QK Xo) rfl rfl ⟨_,rfl,?_,H.base⟩))))
 obtain rfl:i=s.qw.length:=by omega
 exact ⟨Xp,QK,Xo,rfl,N,H.pick [0] []⟩
theorem firstChoice_ok (w:World) (s:qy) (t:qG) {qB:yOA} {xe:yLN} {qL:yOA} {xI:yLN} {qX:yOA} {zg:yLN} {xG:yOA} {zO:yLN} {qO:yOA} {xN:yLN} (qV:qU.rep w xe [.slice qB s.qx.length qA] s.qx) (xF:qU.rep w xI [.slice qL s.qw.length qJ] s.qw) (zf:qU.rep w zg [.slice qX t.qC.length qR] t.qC) (zK:qU.rep w zO [.slice xG t.qI.length xA] t.qI) (xO:qU.rep w xN [.slice qO t.qF.length qN] t.qF) (p0:yH s) (p1:zl s t):Calls Try.prog 43 #[.agg #[yI s.xn,.slice qB s.qx.length qA,.slice qL s.qw.length qJ],.agg #[.slice qX t.qC.length qR,.slice xG t.qI.length xA,.slice qO t.qF.length qN]] w (Ret (fun v w' =>∃ (ra:yOA) (rn:Nat) (rc:Nat),v=.slice ra rn rc∧Fresh w.heap.size []∧St w w' [rr ra rn rc 2 1 ((xR s t).map (Value.int .i64))] []) w):=by
 refine en func43 ntmps43 ?_
 have H:=(((((St.start w).arg xO).arg zK).arg zf).arg xF).arg qV
 have vG:=qP qV
 have jM:=qP xF
 have Qh:=qP zf
 have QR:=qP zK
 have yO:=qP xO
 clear qV xF zf zK xO
 have N:=Fresh.nil w.heap.size
 have p3:=p0.2.1
 have p7:=p1.2.1
 have p8:=kinds_le p0
 have p9:=p0.1.2.1
 have p11:jb s=s.qx.length:=rfl
 refine zcr (sw (yK H (yS s qB qA qL qJ) fun b1 w2 H=>sw (yK H (yT t qX qR xG xA qO qN) fun b3 w4 H=>sp yN (zjn (zn ?_)))))
 refine c_cut (fun ρ w10=>∃ (zB:Env) (b5:Nat) (ra6:yOA) (rc7:Nat) (rx8:List Value) (rF9:yLN),ρ=upd (upd (upd (upd zB 2 (pp b1 0)) 3 (pp b3 0)) 5 (.slice (aa b5 0) s.qw.length s.qw.length)) 6 (.slice ra6 t.qI.length rc7)∧Fresh w.heap.size []∧St w w10 [rr ra6 t.qI.length rc7 24 1 rx8,rr (aa b5 0) s.qw.length s.qw.length 2 1 ((List.replicate s.qw.length (0:Int)).map (Value.int .i64)),.box b3 (yT t qX qR xG xA qO qN) 31,.box b1 (yS s qB qA qL qJ) 27] [xf false rF9 rx8 t.qI,sF false xe qB qA s.qx,sF false xI qL qJ s.qw,sF false zg qX qR t.qC,sF false zO xG xA t.qI,sF false xN qO qN t.qF]) ?_ ?_
 ·skip
  refine yF rfl H fun H=>tF 0 rfl rfl H ?_
  refine tL 1 rfl rfl (fun _ h=>h.cell 1 rfl rfl) H ?_
  refine tN 2 rfl rfl H ?_
  refine tF 4 rfl rfl H ?_
  refine tL 5 rfl rfl (fun _ h=>h.cell 0 rfl rfl) H ?_
  refine zH [3,6] qh qm (vz rfl ?_ (vz rfl ?_ zI))
  ·skip
   refine x8 H underlying24 ti2 s.qw.length rfl rfl qf qf qf fun b12 w13 H=>⟨H.pick [1,2] [0,1,2,3,4],(ro 6 rfl ?_)⟩
   have sz17:=H.base.size
   refine oc (cloneSS_ok _ t.qI (H.get 3 rfl).1 qg) ?_
   rintro _ w15 ⟨ra14,rn14,rc14,rx14,rF14,rfl,hG19,K⟩ _
   replace H:=H.mergeIn K 3 rfl hG19
   obtain rfl:=H.zi (α:=yLI) 0 rfl 0 rfl qj
   refine ⟨H.pick [2,3] [1,2,3,4,5],?_⟩
   have S:=H.jR [2,3] [1,2,3,4,5]
   refine rtp 7 (.slice (aa b12 0) s.qw.length s.qw.length) S ?_
   refine rtp 8 (.slice ra14 t.qI.length rc14) S ?_
   refine qZ qh ((meet ⟨_,b12,ra14,rc14,rx14,rF14,uE4,N,H⟩))
  have sz23:=H.base.size
  refine oc (cloneSS_ok _ t.qI (H.get 3 rfl).1 qg) ?_
  rintro _ w21 ⟨ra20,rn20,rc20,rx20,rF20,rfl,hG25,K⟩ _
  replace H:=H.mergeIn K 3 rfl hG25
  obtain rfl:=H.zi (α:=yLI) 0 rfl 0 rfl qj
  refine ⟨H.pick [1,2] [1,2,3,4,5],(ro 3 rfl (x8 H underlying24 ti2 s.qw.length rfl rfl qf qf qf fun b26 w27 H=>⟨H.pick [2,3] [1,2,3,4,5],?_⟩))⟩
  have S:=H.jR [2,3] [1,2,3,4,5]
  refine rtp 7 (.slice (aa b26 0) s.qw.length s.qw.length) S ?_
  refine rtp 8 (.slice ra20 t.qI.length rc20) S ?_
  refine qZ qh ((meet ⟨_,b26,ra20,rc20,rx20,rF20,uE4,N,H.pick [1,0,2,3] [0,1,2,3,4,5]⟩))
 clear H N
 rintro ρ w28 ⟨zB,b5,ra6,rc7,rx8,rF9,rfl,N,H⟩
 refine t_n (zcc (sw (zu (yS s qB qA qL qJ) isAgg27 sizeOf27 rfl (qH (H.cells 3 rfl) 0 3) (sw (zu (yT t qX qR xG xA qO qN) isAgg31 sizeOf31 rfl (qH (H.cells 2 rfl) 0 3) ?_)))))
 have sz32:=H.base.size
 refine sw (oc (applicable_ok _ s t (H.get 1 rfl).1 (H.get 2 rfl).1 (H.get 3 rfl).1 (H.get 4 rfl).1 (H.get 5 rfl).1 qg qg) ?_)
 rintro _ w30 ⟨ra29,rn29,rc29,rfl,M,K⟩ _
 replace H:=H.merge K M
 obtain rfl:=H.zS 0 rfl
 have al:(appls s t).length≤s.qw.length:=applL_le s t s.qw.length
 refine oN rfl (sp (yI 0) (zjn (xw ?_)))
 refine vJ (fun m' ρ w35=>∃ (zB:Env) (k:Nat) (rest:yLL) (Xq:List Value) (QX:yLN) (out:yLI) (m:Nat),ρ=upd (upd (upd (upd (upd (upd zB 2 (pp b1 0)) 5 (.slice (aa b5 0) s.qw.length s.qw.length)) 6 (.slice ra6 t.qI.length rc7)) 19 (.slice ra29 ((appls s t).length) rc29)) 20 (yI ((appls s t).length))) 21 (yI k)∧rest=zU s t m∧out=firstTo s t m s.qw.length∧((k:Int)≤((appls s t).length))∧((applL s t m).length=k)∧(m≤s.qw.length)∧m' =(((appls s t).length) - (k:Int)).toNat∧Fresh w.heap.size []∧St w w35 [rr ra29 ((appls s t).length) rc29 2 1 ((appls s t).map (Value.int .i64)),rr ra6 t.qI.length rc7 24 1 Xq,rr (aa b5 0) s.qw.length s.qw.length 2 1 (out.map (Value.int .i64)),.box b3 (yT t qX qR xG xA qO qN) 31,.box b1 (yS s qB qA qL qJ) 27] [xf false QX Xq rest,sF false xe qB qA s.qx,sF false xI qL qJ s.qw,sF false zg qX qR t.qC,sF false zO xG xA t.qI,sF false xN qO qN t.qF]) ((((appls s t).length) - (0:Int)).toNat) ⟨_,0,t.qI,rx8,rF9,(List.replicate s.qw.length (0:Int)),0,uE6,(by rfl),(by exact firstTo_zero s t _),qf,(by rfl),qf,rfl,N,H⟩ ?_
 clear H N
 rintro m' ρ w36 ⟨zB,k,rest,Xq,QX,out,m,rfl,rfl,rfl,i0,hm,hn,rfl,N,H⟩
 have hn_rest:=H.zi (α:=yLI) 1 rfl 0 rfl qj
 have hn_out:=H.zS 2 rfl
 refine zcr (sp (.bool (decide ((k:Int) < ((appls s t).length)))) (zjn (zn (cD rfl (fun h37=>?_) (fun h37=>?_)))))
 ·skip
  obtain ⟨a0,a1,a2,a3,a4,a5⟩:=appls_at' hm hn qf
  have q:=p0.rule (i:=((appls s t)[k]!).toNat) qf
  have qc:=q.1
  have qk:=q.cell
  have qr:=q.2.1
  have bn1:=q.2.2.2.2.1
  have rl:=(firstR_box p0 p1 m qf).1
  have fl:=jo s t m s.qw.length
  have ex:((firstTo s t m s.qw.length).set ((appls s t)[k]!).toNat (y8 (s.qw[((appls s t)[k]!).toNat]!).xy ((zU s t m)[(s.qw[((appls s t)[k]!).toNat]!).qE.toNat]!)))[((appls s t)[k]!).toNat]! =(y8 (s.qw[((appls s t)[k]!).toNat]!).xy ((zU s t m)[(s.qw[((appls s t)[k]!).toNat]!).qE.toNat]!)):=by rw [getset (by rw [jo];omega),if_pos rfl]
  have xb:=firstC_bd p0 p1 (k:=((appls s t)[k]!).toNat) a2
  rw [← firstC_step a1 a3 a4] at xb
  refine xx (t_n (zn (xw (zcr ?_))))
  obtain ⟨b38,rfl⟩:=H.QP 0 rfl qf
  refine oI rfl rfl (oL rfl (H.rowInt 0 rfl (iv:=k) (i:=k) qf qf) (sp (yI ((appls s t)[k]!)) (zjc (oF rfl (oL rfl (H.cell 4 rfl rfl) (sp (yI ((appls s t)[k]!)) ?_))))))
  obtain ⟨b39,o40,rfl⟩:=H.addr 2 rfl qf
  obtain ⟨ae42Need,ce42Need,Fe42Need,ae42Have,ce42Have,Fe42Have,ae42Lack,ce42Lack,Fe42Lack,ae42Here,ce42Here,Fe42Here,ae42Out,ce42Out,Fe42Out,ae42Into,ce42Into,Fe42Into,H⟩:=H.Qo 2 rfl ((appls s t)[k]!) (((appls s t)[k]!).toNat) qf qf qf
  refine oI rfl rfl ?_
  refine sw (zu [yI ((s.qw[((appls s t)[k]!).toNat]!).qE),yI ((s.qw[((appls s t)[k]!).toNat]!).vC),.slice ae42Need (((s.qw[((appls s t)[k]!).toNat]!).xy).length) ce42Need,.slice ae42Have (((s.qw[((appls s t)[k]!).toNat]!).xZ).length) ce42Have,.slice ae42Lack (((s.qw[((appls s t)[k]!).toNat]!).xY).length) ce42Lack,.slice ae42Here (((s.qw[((appls s t)[k]!).toNat]!).x9).length) ce42Here,.slice ae42Out (((s.qw[((appls s t)[k]!).toNat]!).ja).length) ce42Out,.slice ae42Into (((s.qw[((appls s t)[k]!).toNat]!).qM).length) ce42Into,.bool ((s.qw[((appls s t)[k]!).toNat]!).zW)] isAgg51 sizeOf51 rfl (qH (H.get 6 rfl) 0 9) ?_)
  refine sw (xq H ti51 [yI 0,yI 0,yN,yN,yN,yN,yN,yN,.bool false] fun b43 w44 H=>?_)
  refine sw (qQ H 0 [yI ((s.qw[((appls s t)[k]!).toNat]!).qE),yI ((s.qw[((appls s t)[k]!).toNat]!).vC),.slice ae42Need (((s.qw[((appls s t)[k]!).toNat]!).xy).length) ce42Need,.slice ae42Have (((s.qw[((appls s t)[k]!).toNat]!).xZ).length) ce42Have,.slice ae42Lack (((s.qw[((appls s t)[k]!).toNat]!).xY).length) ce42Lack,.slice ae42Here (((s.qw[((appls s t)[k]!).toNat]!).x9).length) ce42Here,.slice ae42Out (((s.qw[((appls s t)[k]!).toNat]!).ja).length) ce42Out,.slice ae42Into (((s.qw[((appls s t)[k]!).toNat]!).qM).length) ce42Into,.bool ((s.qw[((appls s t)[k]!).toNat]!).zW)] sizeOf51 fun w45 H=>?_)
  refine zjn (zn ?_)
  refine yR rfl H [0,1,2,4,5] fun H=>?_
  have S:=H.jR [0,1,2,4,5] [0,1,2,3,4,5,6,7,8,9,10,11,12]
  refine rtp 0 (.slice (aa b5 0) s.qw.length s.qw.length) S ?_
  refine rtp 1 (yI ((appls s t)[k]!)) S ?_
  refine tF 2 rfl rfl S ?_
  refine tL 3 rfl rfl (fun _ h=>h.cell 0 rfl rfl) S ?_
  refine rtp 4 (.slice ra6 t.qI.length rc7) S ?_
  refine tF 5 rfl rfl S ?_
  refine tL 6 rfl rfl (fun _ h=>h.cell 0 rfl rfl) S ?_
  obtain ⟨b47,rfl⟩:=H.QP 2 rfl qf
  refine tI 7 rfl rfl rfl (H.pick [0,1,2,4,5] [0,1,2,3,4,5,6,7,8,9,10,11,12]) ?_
  refine ro 8 rfl ?_
  obtain ⟨a48,c49,G50,s51,h52,H⟩:=H.jD 2 rfl 7 rfl (iv:=(s.qw[((appls s t)[k]!).toNat]!).qE) (((s.qw[((appls s t)[k]!).toNat]!).qE).toNat) qf qf
  refine zh (.slice a48 (((zU s t m)[((s.qw[((appls s t)[k]!).toNat]!).qE).toNat]!).length) c49) isAgg24 rfl (h52) (⟨H.pick [0,1,2,4,5] [1,2,3,4,5,6,7,8,9,10,11,12,13],(ro 9 rfl ?_)⟩)
  obtain ⟨u1,u2,u5⟩:=firstR_row (c:=(s.qw[((appls s t)[k]!).toNat]!).qE.toNat) p0 p1 (show m≤_ by omega) qk
  have u3:=bn1.len
  have u6:∀ q,q < ((s.qw[((appls s t)[k]!).toNat]!).xy).length→0≤((zU s t m)[(s.qw[((appls s t)[k]!).toNat]!).qE.toNat]!)[q]! ∧((zU s t m)[(s.qw[((appls s t)[k]!).toNat]!).qE.toNat]!)[q]! ≤1000:=fun q hq=>u5 q qf
  refine oq (timesIn_ok _ ((s.qw[((appls s t)[k]!).toNat]!).xy) ((zU s t m)[((s.qw[((appls s t)[k]!).toNat]!).qE).toNat]!) (H.get 1 rfl).1 (H.get 0 rfl).1 qg qg) H fun w54 H=>⟨H.pick [0,1,2,4,5] [1,2,3,4,5,6,7,8,9,10,11,12,13],(tI 10 rfl rfl rfl (H.pick [0,1,2,4,5] [1,2,3,4,5,6,7,8,9,10,11,12,13]) ?_)⟩
  refine ro 11 rfl (o_storeInt H 3 rfl (y8 ((s.qw[((appls s t)[k]!).toNat]!).xy) ((zU s t m)[((s.qw[((appls s t)[k]!).toNat]!).qE).toNat]!)) sizeOf2 rfl rfl (i:=(((appls s t)[k]!).toNat)) qf qf fun w56 H=>⟨H.pick [0,1,2,4,5] [1,2,3,4,5,6,7,8,9,10,11,12,13],(qZ qh (t_n ?_))⟩)
  refine yR rfl H [0,1,3,4,5] fun H=>?_
  have S:=H.jR [0,1,3,4,5] [0,1,2,3,4,5,6,7,8,9,10,11,12,13]
  refine rtp 0 (.slice (aa b47 0) t.qI.length rc7) S ?_
  refine tF 1 rfl rfl S ?_
  refine tL 2 rfl rfl (fun _ h=>h.cell 0 rfl rfl) S ?_
  refine rtp 3 (.slice (aa b47 0) t.qI.length rc7) S ?_
  refine tF 4 rfl rfl S ?_
  refine tL 5 rfl rfl (fun _ h=>h.cell 0 rfl rfl) S ?_
  refine tI 6 rfl rfl rfl S ?_
  refine tF 8 rfl rfl S ?_
  refine tL 9 rfl rfl (fun _ h=>h.cell 0 rfl rfl) S ?_
  refine rtp 10 (.slice (aa b5 0) s.qw.length s.qw.length) S ?_
  refine rtp 11 (yI ((appls s t)[k]!)) S ?_
  refine tI 12 rfl rfl rfl S ?_
  refine tL 13 rfl rfl (fun _ h=>h.rowInt 2 rfl (iv:=(appls s t)[k]!) (i:=(((appls s t)[k]!).toNat)) qf qf) S ?_
  refine rt 14 (yI (-(((firstTo s t m s.qw.length).set (((appls s t)[k]!).toNat) (y8 ((s.qw[((appls s t)[k]!).toNat]!).xy) ((zU s t m)[((s.qw[((appls s t)[k]!).toNat]!).qE).toNat]!)))[((appls s t)[k]!).toNat]!))) (y_neg (((firstTo s t m s.qw.length).set (((appls s t)[k]!).toNat) (y8 ((s.qw[((appls s t)[k]!).toNat]!).xy) ((zU s t m)[((s.qw[((appls s t)[k]!).toNat]!).qE).toNat]!)))[((appls s t)[k]!).toNat]!) rfl qf) S ?_
  refine ro 7 rfl ?_
  obtain ⟨a58,c59,G60,s61,h62,H⟩:=H.jD 2 rfl 8 rfl (iv:=(s.qw[((appls s t)[k]!).toNat]!).qE) (((s.qw[((appls s t)[k]!).toNat]!).qE).toNat) qf qf
  refine zh (.slice a58 (((zU s t m)[((s.qw[((appls s t)[k]!).toNat]!).qE).toNat]!).length) c59) isAgg24 rfl (h62) (⟨H.pick [0,1,3,4,5] [1,2,3,4,5,6,7,8,9,10,11,12,13,14],(ro 15 rfl ?_)⟩)
  obtain ⟨u1,u2,u5⟩:=firstR_row (c:=(s.qw[((appls s t)[k]!).toNat]!).qE.toNat) p0 p1 (show m≤_ by omega) qk
  have u3:=bn1.len
  have u4:=bn1.jX (t:= -(((firstTo s t m s.qw.length).set ((appls s t)[k]!).toNat (y8 (s.qw[((appls s t)[k]!).toNat]!).xy ((zU s t m)[(s.qw[((appls s t)[k]!).toNat]!).qE.toNat]!)))[((appls s t)[k]!).toNat]!)) qf
  have sz63:=H.base.size
  refine oc (plus_ok _ ((zU s t m)[((s.qw[((appls s t)[k]!).toNat]!).qE).toNat]!) ((s.qw[((appls s t)[k]!).toNat]!).xy) (-(((firstTo s t m s.qw.length).set (((appls s t)[k]!).toNat) (y8 ((s.qw[((appls s t)[k]!).toNat]!).xy) ((zU s t m)[((s.qw[((appls s t)[k]!).toNat]!).qE).toNat]!)))[((appls s t)[k]!).toNat]!)) (H.get 0 rfl).1 (H.get 2 rfl).1 qg qg qg) ?_
  rintro v68 w66 r68 x67
  replace H:=H.zq x67 r68
  obtain ⟨a69,c70,rfl,hc71,hm72⟩:=H.jO 0 rfl
  refine ⟨H.pick [1,2,4,5,6] [1,2,3,4,5,6,7,8,9,10,11,12,13,14],(tI 16 rfl rfl rfl (H.pick [1,2,4,5,6] [1,2,3,4,5,6,7,8,9,10,11,12,13,14]) ?_)⟩
  refine ro 17 rfl ?_
  obtain ⟨G74,N,hn75,H⟩:=H.zT 0 rfl N (H.yG [])
  refine jm false H 3 rfl 10 rfl (.slice a69 ((jW ((zU s t m)[((s.qw[((appls s t)[k]!).toNat]!).qE).toNat]!) ((s.qw[((appls s t)[k]!).toNat]!).xy) (-(((firstTo s t m s.qw.length).set (((appls s t)[k]!).toNat) (y8 ((s.qw[((appls s t)[k]!).toNat]!).xy) ((zU s t m)[((s.qw[((appls s t)[k]!).toNat]!).qE).toNat]!)))[((appls s t)[k]!).toNat]!))).length) c70) 0 rfl rfl sizeOf24 rfl rfl (i:=(((s.qw[((appls s t)[k]!).toNat]!).qE).toNat)) qf qf qm fun w73 xs76 F77 hs78 H=>⟨H.pick [1,2,4,5,6] [3,4,5,6,7,8,9,10,11,12,13,14,15,16],(qZ qh (b_n (t_n (zk ?_))))⟩
  refine sw (zX k 1 rfl rfl qf (sp (yI (k+1)) (zt ?_)))
  refine xu (m' :=(((appls s t).length) - ((k+1):Int)).toNat) qf ⟨_,k+1,((zU s t m).set (((s.qw[((appls s t)[k]!).toNat]!).qE).toNat) (jW ((zU s t m)[((s.qw[((appls s t)[k]!).toNat]!).qE).toNat]!) ((s.qw[((appls s t)[k]!).toNat]!).xy) (-(((firstTo s t m s.qw.length).set (((appls s t)[k]!).toNat) (y8 ((s.qw[((appls s t)[k]!).toNat]!).xy) ((zU s t m)[((s.qw[((appls s t)[k]!).toNat]!).qE).toNat]!)))[((appls s t)[k]!).toNat]!)))),xs76,F77,((firstTo s t m s.qw.length).set (((appls s t)[k]!).toNat) (y8 ((s.qw[((appls s t)[k]!).toNat]!).xy) ((zU s t m)[((s.qw[((appls s t)[k]!).toNat]!).qE).toNat]!))),((appls s t)[k]!).toNat+1,uE6,?_,?_,?_,?_,?_,rfl,(N.pick []),H.pick [2,3,4,5,6] [0,12,13,14,15,16]⟩
  · exact firstR_step a1 a2 a3 a4 ex
  · exact firstTo_set a1 a2 a4 (firstC_step a1 a3 a4)
  · omega
  · exact a5
  · exact a2
 refine zx4 (zcr (sps [.slice (aa b5 0) s.qw.length s.qw.length,.slice (aa b5 0) s.qw.length s.qw.length] (zjr (ret1 (.slice (aa b5 0) s.qw.length s.qw.length) rfl rfl ⟨_,rfl,?_,H.base⟩))))
 rw [firstTo_end hn (appls_end hm hn qf)] at H
 exact ⟨(aa b5 0),s.qw.length,s.qw.length,rfl,N,H.pick [2] []⟩
end
end Go.Proofs.Ytcpnclokildllaa
