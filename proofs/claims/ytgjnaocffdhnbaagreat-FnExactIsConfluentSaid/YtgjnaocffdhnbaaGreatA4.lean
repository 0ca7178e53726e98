/- Walks and laws, printed by program and by hand: what each function comes to, for all arguments, part 4. -/
import Derived.Test.YtgjnaocffdhnbaaGreatA3
namespace Go.Proofs.YtgjnaocffdhnbaaGreat
set_option linter.unusedVariables false
set_option linter.unusedSimpArgs false
open Go.Proofs.YtgjnaocffdhnbaaGreat.Tot (tot)
open Go.Proofs.YtgjnaocffdhnbaaGreat.Mark (cnt mrk mkd mkd_mark cnt_mark)
section
open Go.Proofs.Tryz
open Go.RowKit
set_option linter.unusedVariables false
set_option linter.unusedSimpArgs false
set_option maxRecDepth 100000
set_option maxHeartbeats 4000000
variable {cl cm bs os qy qH bt ot qO qZ qI yu yz yw yx QN jT ccounts : Nat}
theorem l00Max_ok (w:World) (a:Int) (b:Int):Calls Tryz.prog 119 #[yI a,yI b] w (Ret (fun v w' =>v=yI (max a b)) w):=by
 refine en func119 ntmps119 ?_
 have H:=St.start w
 have N:=Fresh.nil w.heap.size
 refine zcr (sp (yI 0) (zjcc (sps [yI a,yI b,.bool (decide ((a:Int) > b))] (zjn (cD rfl (fun h1=>?_) (fun h1=>?_))))))
 ·skip
  refine zcr (sps [yI a,yI a] (zjr (t_r (ret1 (yI a) rfl rfl ⟨_,rfl,(congrArg (Value.int .i64) ?_),H.base⟩))))
  omega
 refine qV (t_n (zcr (sps [yI b,yI b] (zjr (ret1 (yI b) rfl rfl ⟨_,rfl,(congrArg (Value.int .i64) ?_),H.base⟩)))))
 omega

theorem l01Within_ok (w:World) (l:yLI) (m:yLI) {al:yOA} {Fl:yLN} {am:yOA} {Fm:yLN} (hl:qP.rep w Fl [.slice al l.length cl] l) (hm:qP.rep w Fm [.slice am m.length cm] m) (p0:l.length≤m.length):Calls Tryz.prog 192 #[.slice al l.length cl,.slice am m.length cm] w (Ret (fun v w' =>v=.bool (within l m)) w):=by
 refine en func192 ntmps192 ?_
 have H:=((St.start w).arg hm).arg hl
 have nhl:=qN hl
 have nhm:=qN hm
 clear hl hm
 have N:=Fresh.nil w.heap.size
 refine zcr (sp (.bool false) (zjcc (sp (yI 0) (zjn (qY ?_)))))
 refine zB (fun m' ρ w1=>∃ (xN:Env) (i:Nat),ρ=upd (upd (upd xN 0 (.slice al l.length cl)) 1 (.slice am m.length cm)) 5 (yI i)∧((i:Int)≤l.length)∧(withinTo l m i)∧m' =(l.length - (i:Int)).toNat∧Fresh w.heap.size []∧St w w1 [] [sF false Fl al cl l,sF false Fm am cm m]) ((l.length - (0:Int)).toNat) ⟨_,0,uE3,qf,(by exact withinTo_zero l m),rfl,N,H⟩ ?_
 clear H N
 rintro m' ρ w2 ⟨xN,i,rfl,i0,i1,rfl,N,H⟩
 refine zcc (sps [yI i,.slice al l.length cl] (oN rfl (sp (.bool (decide ((i:Int) < l.length))) (zjn (cD rfl (fun h3=>?_) (fun h3=>?_))))))
 ·skip
  refine qV (t_n (xU (qY (xU ?_))))
  refine ja rfl H fun H=>rtp 0 (.slice al l.length cl) H ?_
  refine rtp 1 (yI i) H ?_
  obtain ⟨b5,o6,rfl⟩:=H.addr 0 rfl qf
  refine tI 2 rfl rfl rfl H ?_
  refine tL 3 rfl rfl (fun _ h=>h.yf 0 rfl i qf) H ?_
  refine rtp 4 (.slice am m.length cm) H ?_
  refine rtp 5 (yI i) H ?_
  obtain ⟨b8,o9,rfl⟩:=H.addr 1 rfl qf
  refine tI 6 rfl rfl rfl H ?_
  refine tL 7 rfl rfl (fun _ h=>h.yf 1 rfl i qf) H ?_
  refine rtp 8 (.bool (decide ((l[i]! :Int) > (m[i]!)))) H ?_
  refine xH qh (t_n (cD rfl (fun h11=>?_) (fun h11=>?_)))
  ·skip
   refine zcr (sp (.bool false) (zjr (zr5 (ret1 (.bool false) rfl rfl ⟨_,rfl,?_,H.base⟩))))
   rw [within_no (k:=i) ‹_› qf]
  refine qV (b_n (t_n (xX (sp (yI i) (sw (zD i 1 rfl rfl qf (sp (yI (i+1)) (xY (xg (m' :=(l.length - ((i+1):Int)).toNat) qf ⟨_,i+1,uE3,?_,?_,rfl,N,H⟩)))))))))
  · omega
  · exact withinTo_succ ‹_› qf
 refine zx4 (zcr (sp (.bool true) (zjr (ret1 (.bool true) rfl rfl ⟨_,rfl,?_,H.base⟩))))
 rw [within_yes ‹_› qf]

theorem l01Times_ok (w:World) (l:yLI) (m:yLI) {al:yOA} {Fl:yLN} {am:yOA} {Fm:yLN} (hl:qP.rep w Fl [.slice al l.length cl] l) (hm:qP.rep w Fm [.slice am m.length cm] m) (p0:l.length≤m.length) (p2:∀ k,k < l.length→0≤m[k]! ∧m[k]! ≤1000) (p3:∃ j,j < l.length∧0 < l[j]!):Calls Tryz.prog 199 #[.slice al l.length cl,.slice am m.length cm] w (Ret (fun v w' =>v=yI (jg l m)) w):=by
 refine en func199 ntmps199 ?_
 have H:=((St.start w).arg hm).arg hl
 have nhl:=qN hl
 have nhm:=qN hm
 clear hl hm
 have N:=Fresh.nil w.heap.size
 refine zcr (sp (yI 0) (zjc (sp (yI (-1)) (zjcc (sp (yI 0) (zjn (qY ?_)))))))
 refine zB (fun m' ρ w1=>∃ (xN:Env) (best:Int) (i:Nat),ρ=upd (upd (upd (upd xN 0 (.slice al l.length cl)) 1 (.slice am m.length cm)) 5 (yI best)) 6 (yI i)∧((i:Int)≤l.length)∧(QT l m i best)∧m' =(l.length - (i:Int)).toNat∧Fresh w.heap.size []∧St w w1 [] [sF false Fl al cl l,sF false Fm am cm m]) ((l.length - (0:Int)).toNat) ⟨_,(-1),0,uE4,qf,(by exact QT.zero l m),rfl,N,H⟩ ?_
 clear H N
 rintro m' ρ w2 ⟨xN,best,i,rfl,i0,i1,rfl,N,H⟩
 refine zcc (sps [yI i,.slice al l.length cl] (oN rfl (sp (.bool (decide ((i:Int) < l.length))) (zjn (cD rfl (fun h3=>?_) (fun h3=>?_))))))
 ·skip
  refine qV (t_n (xU (qY (xU ?_))))
  refine ja rfl H fun H=>rtp 0 (.slice al l.length cl) H ?_
  refine rtp 1 (yI i) H ?_
  obtain ⟨b5,o6,rfl⟩:=H.addr 0 rfl qf
  refine tI 2 rfl rfl rfl H ?_
  refine tL 3 rfl rfl (fun _ h=>h.yf 0 rfl i qf) H ?_
  refine rtp 4 (.bool (decide ((l[i]! :Int) > 0))) H ?_
  refine rtp 5 (.bool (decide ((l[i]! :Int) > 0))) H ?_
  cases h8:(decide ((l[i]! :Int) > 0))
  ·skip
   replace h8:=of_decide_eq_false h8
   refine zS [6,7,8,9,10,11,12,13,14,15,16,17,18,19,20] 15 (H) (rtp 21 (.bool false) H ?_)
   refine xH qh (t_n (xF false rfl (fun h=>absurd h qj) (fun _=>qV (b_n (t_n (xX (sp (yI i) (sw (zD i 1 rfl rfl (by (have:=p2 i qf;omega)) (sp (yI (i+1)) (xY (xg (m' :=(l.length - ((i+1):Int)).toNat) qf ⟨_,best,i+1,uE4,?_,?_,rfl,N,H⟩))))))))))))
   · omega
   · first | exact i1.take (p2 i qf) qf qf (timesTo_bd (fun k hk=>(p2 k hk).1) i qf).1 | exact i1.keep qf | exact i1.keep2 qf qf qf
  replace h8:=of_decide_eq_true h8
  refine rgp 6 (yI best) 18 H ?_
  refine rgp 7 (.bool (decide ((best:Int) < 0))) 18 H ?_
  refine rgp 8 (.bool (decide ((best:Int) < 0))) 18 H ?_
  cases h9:(decide ((best:Int) < 0))
  ·skip
   replace h9:=of_decide_eq_false h9
   refine rgp 9 (.slice am m.length cm) 21 H ?_
   refine rgp 10 (yI i) 21 H ?_
   obtain ⟨b10,o11,rfl⟩:=H.addr 1 rfl qf
   refine gI 11 rfl rfl rfl H ?_
   refine gL 12 rfl rfl (fun _ h=>h.jy 1 rfl i qf qf) H ?_
   refine rgp 13 (.slice (aa b5 o6) l.length cl) 21 H ?_
   refine rgp 14 (yI i) 21 H ?_
   refine gI 15 rfl rfl rfl H ?_
   refine gL 16 rfl rfl (fun _ h=>h.jy 0 rfl i qf qf) H ?_
   refine rg 17 (yI ((m[i]!) / (l[i]!))) 21 (y_quo (m[i]!) (l[i]!) rfl rfl (by (have:=p2 i qf;omega)) (by (have:=p2 i qf;omega))) H ?_
   refine rgp 18 (yI best) 21 H ?_
   refine rgp 19 (.bool (decide (((m[i]!) / (l[i]!):Int) < best))) 21 H ?_
   refine rgp 20 (.bool (decide (((m[i]!) / (l[i]!):Int) < best))) 18 H ?_
   refine rtp 21 (.bool (decide (((m[i]!) / (l[i]!):Int) < best))) H ?_
   refine xH qh (t_n (cD rfl (fun h13=>?_) (fun h13=>?_)))
   ·skip
    refine ja rfl H fun H=>rtp 0 (.slice (aa b10 o11) m.length cm) H ?_
    refine rtp 1 (yI i) H ?_
    refine tI 2 rfl rfl rfl H ?_
    refine tL 3 rfl rfl (fun _ h=>h.yf 1 rfl i qf) H ?_
    refine rtp 4 (.slice (aa b5 o6) l.length cl) H ?_
    refine rtp 5 (yI i) H ?_
    refine tI 6 rfl rfl rfl H ?_
    refine tL 7 rfl rfl (fun _ h=>h.yf 0 rfl i qf) H ?_
    refine rt 8 (yI ((m[i]!) / (l[i]!))) (y_quo (m[i]!) (l[i]!) rfl rfl (by (have:=p2 i qf;omega)) (by (have:=p2 i qf;omega))) H ?_
    refine rtp 9 (yI ((m[i]!) / (l[i]!))) H ?_
    refine xH qh (b_n (t_n (xX (sp (yI i) (sw (zD i 1 rfl rfl (by (have:=p2 i qf;omega)) (sp (yI (i+1)) (xY (xg (m' :=(l.length - ((i+1):Int)).toNat) qf ⟨_,(m[i]!) / (l[i]!),i+1,uE4,?_,?_,rfl,N,H⟩)))))))))
    · omega
    · first | exact i1.take (p2 i qf) qf qf (timesTo_bd (fun k hk=>(p2 k hk).1) i qf).1 | exact i1.keep qf | exact i1.keep2 qf qf qf
   refine qV (b_n (t_n (xX (sp (yI i) (sw (zD i 1 rfl rfl (by (have:=p2 i qf;omega)) (sp (yI (i+1)) (xY (xg (m' :=(l.length - ((i+1):Int)).toNat) qf ⟨_,best,i+1,uE4,?_,?_,rfl,N,H⟩)))))))))
   · omega
   · first | exact i1.take (p2 i qf) qf qf (timesTo_bd (fun k hk=>(p2 k hk).1) i qf).1 | exact i1.keep qf | exact i1.keep2 qf qf qf
  replace h9:=of_decide_eq_true h9
  refine zS [9,10,11,12,13,14,15,16,17,18,19] 11 (H) (rgp 20 (.bool true) 18 H ?_)
  refine rtp 21 (.bool true) H ?_
  refine xH qh (t_n (xF true rfl (fun _=>?_) (fun h=>absurd h qj)))
  refine ja rfl H fun H=>rtp 0 (.slice am m.length cm) H ?_
  refine rtp 1 (yI i) H ?_
  obtain ⟨b16,o17,rfl⟩:=H.addr 1 rfl qf
  refine tI 2 rfl rfl rfl H ?_
  refine tL 3 rfl rfl (fun _ h=>h.yf 1 rfl i qf) H ?_
  refine rtp 4 (.slice (aa b5 o6) l.length cl) H ?_
  refine rtp 5 (yI i) H ?_
  refine tI 6 rfl rfl rfl H ?_
  refine tL 7 rfl rfl (fun _ h=>h.yf 0 rfl i qf) H ?_
  refine rt 8 (yI ((m[i]!) / (l[i]!))) (y_quo (m[i]!) (l[i]!) rfl rfl (by (have:=p2 i qf;omega)) (by (have:=p2 i qf;omega))) H ?_
  refine rtp 9 (yI ((m[i]!) / (l[i]!))) H ?_
  refine xH qh (b_n (t_n (xX (sp (yI i) (sw (zD i 1 rfl rfl (by (have:=p2 i qf;omega)) (sp (yI (i+1)) (xY (xg (m' :=(l.length - ((i+1):Int)).toNat) qf ⟨_,(m[i]!) / (l[i]!),i+1,uE4,?_,?_,rfl,N,H⟩)))))))))
  · omega
  · first | exact i1.take (p2 i qf) qf qf (timesTo_bd (fun k hk=>(p2 k hk).1) i qf).1 | exact i1.keep qf | exact i1.keep2 qf qf qf
 refine zx4 (zcr (sps [yI best,yI best] (zjr (ret1 (yI best) rfl rfl ⟨_,rfl,?_,H.base⟩))))
 obtain rfl:i=l.length:=by omega
 rw [i1.done p3];rfl

theorem l03Both_ok (w:World) (s:qL) (t:qM) {qA:yOA} {qW:yLN} {qK:yOA} {xy:yLN} {qR:yOA} {xJ:yLN} {xh:yOA} {zn:yLN} {qJ:yOA} {xw:yLN} (hs:vw w bs os (yS s qA qy qK qH)) (xf:qP.rep w qW [.slice qA s.qw.length qy] s.qw) (xG:qP.rep w xy [.slice qK s.qx.length qH] s.qx) (ht:vw w bt ot (yT t qR qO xh qZ qJ qI)) (zh:qP.rep w xJ [.slice qR t.qB.length qO] t.qB) (zJ:qP.rep w zn [.slice xh t.qE.length qZ] t.qE) (xK:qP.rep w xw [.slice qJ t.qC.length qI] t.qC):Calls Tryz.prog 57 #[pp bs os,pp bt ot] w (Ret (fun v w' =>v=.bool (dec (jZ s∧zK s t))) w):=by
 refine en func57 ntmps57 ?_
 have H:=(((((((St.start w).arg xK).arg zJ).arg zh).XU ht).arg xG).arg xf).XU hs
 have ve:=qN xf
 have jh:=qN xG
 have yM:=qN zh
 have Qr:=qN zJ
 have jF:=qN xK
 clear hs xf xG ht zh zJ xK
 have N:=Fresh.nil w.heap.size
 refine zcr (sp (.bool false) (zjc (sp (pp bs os) (sw (oq (l02Ok_ok _ s (qF (H.get 0 rfl) 0 3) (H.get 1 rfl).1 (H.get 2 rfl).1) H fun w1 H=>sp (.bool (dec (jZ s))) ?_)))))
 cases h3:(dec (jZ s))
 ·skip
  replace h3:=zV h3
  refine xZ [8,9,10] (sps [.bool false,.bool false] (zjr (ret1 (.bool false) rfl rfl ⟨_,rfl,?_,H.base⟩)))
  rw [xn (fun h=>‹¬ jZ s› h.1)]
 replace h3:=Qb h3
 refine qQ 7 rfl rfl (sp (pp bs os) (qQ 7 rfl rfl (sp (pp bt ot) (qQ 7 rfl rfl (sw (oq (l02State_ok _ s t (qF (H.get 0 rfl) 0 3) (H.get 1 rfl).1 (H.get 2 rfl).1 (qF (H.get 3 rfl) 0 3) (H.get 4 rfl).1 (H.get 5 rfl).1 (H.get 6 rfl).1 (by first | assumption | exact (And.left (by assumption:jZ _)))) H fun w4 H=>sps [.bool (dec (zK s t)),.bool (dec (zK s t))] (zjr (ret1 (.bool (dec (zK s t))) rfl rfl ⟨_,rfl,(congrArg Value.bool (dec_eq ?_)),H.base⟩))))))))
 first | exact ⟨fun h=>⟨‹_›,Qb h⟩,fun h=>jP h.2⟩ | (simp_all;done)

theorem l03Enabled_ok (w:World) (s:qL) (t:qM) (r:QF) {qA:yOA} {qW:yLN} {qK:yOA} {xy:yLN} {qR:yOA} {xJ:yLN} {xh:yOA} {zn:yLN} {qJ:yOA} {xw:yLN} {br or:Nat} {yB:yOA} {Vo:yLN} {yE:yOA} {Vr:yLN} {yC:yOA} {Vp:yLN} {yD:yOA} {Vq:yLN} {QO:yOA} {FrOut:yLN} {jW:yOA} {FrInto:yLN} (hs:vw w bs os (yS s qA qy qK qH)) (xf:qP.rep w qW [.slice qA s.qw.length qy] s.qw) (xG:qP.rep w xy [.slice qK s.qx.length qH] s.qx) (ht:vw w bt ot (yT t qR qO xh qZ qJ qI)) (zh:qP.rep w xJ [.slice qR t.qB.length qO] t.qB) (zJ:qP.rep w zn [.slice xh t.qE.length qZ] t.qE) (xK:qP.rep w xw [.slice qJ t.qC.length qI] t.qC) (hr:vw w br or [yI r.qG,yI r.zM,.slice yB r.xE.length yu,.slice yE r.xM.length yz,.slice yC r.xO.length yw,.slice yD r.xW.length yx,.slice QO r.vC.length QN,.slice jW r.qU.length jT,.bool r.zG]) (hrNeed:qP.rep w Vo [.slice yB r.xE.length yu] r.xE) (hrHave:qP.rep w Vr [.slice yE r.xM.length yz] r.xM) (hrLack:qP.rep w Vp [.slice yC r.xO.length yw] r.xO) (hrHere:qP.rep w Vq [.slice yD r.xW.length yx] r.xW) (hrOut:qP.rep w FrOut [.slice QO r.vC.length QN] r.vC) (hrInto:qP.rep w FrInto [.slice jW r.qU.length jT] r.qU) (p0:jZ s) (p1:zK s t) (p2:RuleOk s r):Calls Tryz.prog 157 #[pp bs os,pp bt ot,pp br or] w (Ret (fun v w' =>v=.bool (dec (EnOk s t r))) w):=by
 refine en func157 ntmps157 ?_
 have H:=((((((((((((((St.start w).arg hrInto).arg hrOut).arg hrHere).arg hrLack).arg hrHave).arg hrNeed).XU hr).arg xK).arg zJ).arg zh).XU ht).arg xG).arg xf).XU hs
 have ve:=qN xf
 have jh:=qN xG
 have yM:=qN zh
 have Qr:=qN zJ
 have jF:=qN xK
 have nhrNeed:=qN hrNeed
 have nhrHave:=qN hrHave
 have nhrLack:=qN hrLack
 have nhrHere:=qN hrHere
 have nhrOut:=qN hrOut
 have nhrInto:=qN hrInto
 clear hs xf xG ht zh zJ xK hr hrNeed hrHave hrLack hrHere hrOut hrInto
 have N:=Fresh.nil w.heap.size
 have p3:=p2.1
 have p4:=p1.1
 have p5:=p1.2.1
 have p6:=(p1.bagLen (k:=r.qG.toNat) qf).len
 have p7:=p2.2.2.2.2.1.len
 have p8:=p2.2.2.2.2.2.1.len
 have p9:=p2.2.2.2.2.2.2.1.len
 have p10:=vF p2.2.2.2.2.2.2.1
 have p11:=p0.1
 have p12:=p2.2.2.2.2.2.2.2.2.2.2
 refine zcr (sp (.bool false) (zjn (xU (xU ?_))))
 refine ja rfl H fun H=>rtp 0 (pp bt ot) H ?_
 refine rtp 1 (pp bt ot) H ?_
 refine tF 2 rfl rfl H ?_
 refine tL 3 rfl rfl (fun _ h=>h.xR 3 rfl 0 rfl) H ?_
 refine rtp 4 (pp br or) H ?_
 refine rtp 5 (pp br or) H ?_
 refine tF 6 rfl rfl H ?_
 refine tL 7 rfl rfl (fun _ h=>h.xR 7 rfl 0 rfl) H ?_
 obtain ⟨b2,o3,rfl⟩:=H.addr 4 rfl qf
 refine tI 8 rfl rfl rfl H ?_
 refine tL 9 rfl rfl (fun _ h=>h.Xp 4 rfl r.qG qf qf) H ?_
 refine rtp 10 (.bool (!(t.qB[r.qG.toNat]!))) H ?_
 refine xH qh (t_n (xF (!(t.qB[r.qG.toNat]!)) rfl (fun h5=>?_) (fun h5=>?_)))
 ·skip
  replace h5:=xq h5
  refine zcr (sp (.bool false) (zjr (t_r (ret1 (.bool false) rfl rfl ⟨_,rfl,?_,H.base⟩))))
  rw [xn (fun h=>by obtain ⟨h1,h2,h3,h4,h5⟩:=h;first | exact ft h1 ‹_› | exact ft h2 ‹_› | exact ft h3 ‹_› | exact h4 ⟨‹_›,‹_›⟩ | (obtain ⟨q1,q2⟩:=h5 i qf;first | exact ft q1 ‹_› | exact absurd q2 ‹_›))]
 replace h5:=xk h5
 refine qV (t_n (xU ?_))
 refine ja rfl H fun H=>rtp 0 (pp bt ot) H ?_
 refine rtp 1 (pp bt ot) H ?_
 refine tF 2 rfl rfl H ?_
 refine tL 3 rfl rfl (fun _ h=>h.xR 3 rfl 1 rfl) H ?_
 refine rtp 4 (pp br or) H ?_
 refine rtp 5 (pp br or) H ?_
 refine tF 6 rfl rfl H ?_
 refine tL 7 rfl rfl (fun _ h=>h.xR 7 rfl 0 rfl) H ?_
 obtain ⟨b7,o8,rfl⟩:=H.addr 5 rfl qf
 obtain ⟨ae10,ce10,Fe10,H⟩:=H.vH 5 rfl r.qG r.qG.toNat qf qf qf
 refine tI 8 rfl rfl rfl (H.pick [] [2,3,4,5,6,7,8,9,10,11,12,13,14,15]) ?_
 refine ro 9 rfl (zF (.slice ae10 ((t.qE[r.qG.toNat]!).length) ce10) isAgg22 rfl (H.xR 1 rfl 0 rfl) (⟨H.pick [] [2,3,4,5,6,7,8,9,10,11,12,13,14,15],(rtp 10 (.slice ae10 ((t.qE[r.qG.toNat]!).length) ce10) (H.pick [] [2,3,4,5,6,7,8,9,10,11,12,13,14,15]) ?_)⟩))
 refine xH qh (t_n (zcc (sps [pp br or,pp br or] (oF rfl (oL rfl (H.xR 9 rfl 2 rfl) (sp (.slice ae10 ((t.qE[r.qG.toNat]!).length) ce10) (sw (oq (l01Within_ok _ r.xE (t.qE[r.qG.toNat]!) (H.get 10 rfl).1 (H.get 0 rfl).1 qg) H fun w12 H=>sps [.bool (!(within r.xE (t.qE[r.qG.toNat]!))),.bool (!(within r.xE (t.qE[r.qG.toNat]!)))] ?_))))))))
 cases h14:(!(within r.xE (t.qE[r.qG.toNat]!)))
 ·skip
  replace h14:=xk h14
  refine qQ 38 rfl rfl (sp (pp br or) (qQ 38 rfl rfl (sp (pp br or) (qQ 38 rfl rfl (oF rfl (qQ 38 rfl rfl (oL rfl (H.xR 9 rfl 3 rfl) (qQ 38 rfl rfl (sp (.slice ae10 ((t.qE[r.qG.toNat]!).length) ce10) (qQ 38 rfl rfl (sw (oq (l01Within_ok _ r.xM (t.qE[r.qG.toNat]!) (H.get 11 rfl).1 (H.get 0 rfl).1 qg) H fun w16 H=>qQ 38 rfl rfl (sps [.bool (!(within r.xM (t.qE[r.qG.toNat]!))),.bool (!(within r.xM (t.qE[r.qG.toNat]!))),.bool (!(within r.xM (t.qE[r.qG.toNat]!)))] ?_)))))))))))))
  cases h18:(!(within r.xM (t.qE[r.qG.toNat]!)))
  ·skip
   replace h18:=xk h18
   refine qQ 47 rfl rfl (sp (pp br or) (qQ 47 rfl rfl (sp (pp br or) (qQ 47 rfl rfl (oF rfl (qQ 47 rfl rfl (oL rfl (H.xR 9 rfl 4 rfl) (qQ 47 rfl rfl (sw (oq (VI _ r.xO (H.get 12 rfl).1 (by first | assumption | exact vF ql | exact yV ql)) H fun w19 H=>qQ 47 rfl rfl (sp (.bool (decide ((X0 r.xO:Int) > 0))) (qQ 47 rfl rfl (sp (.bool (decide ((X0 r.xO:Int) > 0))) ?_)))))))))))))
   cases h21:(decide ((X0 r.xO:Int) > 0))
   ·skip
    replace h21:=of_decide_eq_false h21
    refine xZ [55,56,57,58,59,60] (qQ 47 rfl rfl (sps [.bool false,.bool false] (zjn (xF false rfl (fun h=>absurd h qj) (fun _=>qV (t_n (zcc (sp (yI 0) (zjn (qY ?_))))))))))
    refine zB (fun m' ρ w22=>∃ (xN:Env) (i:Nat),ρ=upd (upd (upd (upd xN 0 (pp bs os)) 1 (pp bt ot)) 2 (pp br or)) 8 (yI i)∧((i:Int)≤r.qU.length)∧(IntoUp s t r i)∧m' =(r.qU.length - (i:Int)).toNat∧Fresh w.heap.size []∧St w w22 [] [sF false Fe10 ae10 ce10 (t.qE[r.qG.toNat]!),atF b7 (o8+(r.qG:Int).toNat * 1) [.slice ae10 ((t.qE[r.qG.toNat]!).length) ce10],atF bs os (yS s qA qy qK qH),sF false qW qA qy s.qw,sF false xy qK qH s.qx,atF bt ot [.slice (aa b2 o3) t.qB.length qO,.slice (aa b7 o8) t.qE.length qZ,.slice qJ t.qC.length qI],sF false xJ (aa b2 o3) qO t.qB,sF false zn (aa b7 o8) qZ t.qE,sF false xw qJ qI t.qC,atF br or [yI r.qG,yI r.zM,.slice yB r.xE.length yu,.slice yE r.xM.length yz,.slice yC r.xO.length yw,.slice yD r.xW.length yx,.slice QO r.vC.length QN,.slice jW r.qU.length jT,.bool r.zG],sF false Vo yB yu r.xE,sF false Vr yE yz r.xM,sF false Vp yC yw r.xO,sF false Vq yD yx r.xW,sF false FrOut QO QN r.vC,sF false FrInto jW jT r.qU]) ((r.qU.length - (0:Int)).toNat) ⟨_,0,uE4,qf,(by exact fun j hj=>by omega),rfl,N,H⟩ ?_
    clear H N
    rintro m' ρ w23 ⟨xN,i,rfl,i0,i1,rfl,N,H⟩
    refine zcc (sps [yI i,pp br or,pp br or] (oF rfl (oL rfl (H.xR 9 rfl 7 rfl) (oN rfl (sp (.bool (decide ((i:Int) < r.qU.length))) (zjn (cD rfl (fun h24=>?_) (fun h24=>?_))))))))
    ·skip
     have q:=(p12 i qf).1
     have q1:=q.1
     have q2:=q.2
     refine qV (t_n (xU (qY (zcr (sps [pp br or,pp br or] (oF rfl (oL rfl (H.xR 9 rfl 7 rfl) (sp (yI i) ?_))))))))
     obtain ⟨b25,o26,rfl⟩:=H.addr 15 rfl qf
     obtain ⟨ae28Bag,ce28Bag,Fe28Bag,H⟩:=H.jJ 15 rfl i i qf qf qf
     refine oI rfl rfl (oF rfl (oL rfl (H.xR 1 rfl 0 rfl) (sp (yI ((r.qU[i]!).qG)) (zjn (xU ?_)))))
     refine ja rfl H fun H=>rtp 0 (pp bt ot) H ?_
     refine rtp 1 (pp bt ot) H ?_
     refine tF 2 rfl rfl H ?_
     refine tL 3 rfl rfl (fun _ h=>h.xR 7 rfl 0 rfl) H ?_
     refine rtp 4 (yI ((r.qU[i]!).qG)) H ?_
     refine tI 5 rfl rfl rfl H ?_
     refine tL 6 rfl rfl (fun _ h=>h.Xp 8 rfl ((r.qU[i]!).qG) qf qf) H ?_
     refine rtp 7 (.bool (!(t.qB[((r.qU[i]!).qG).toNat]!))) H ?_
     refine rtp 8 (.bool (!(t.qB[((r.qU[i]!).qG).toNat]!))) H ?_
     cases h30:(!(t.qB[((r.qU[i]!).qG).toNat]!))
     ·skip
      replace h30:=xk h30
      refine rgp 9 (pp bs os) 88 H ?_
      refine rgp 10 (pp bt ot) 88 H ?_
      refine rgp 11 (yI ((r.qU[i]!).qG)) 88 H ?_
      refine rgp 13 (pp br or) 88 H ?_
      refine rgp 14 (pp br or) 88 H ?_
      refine gF 15 rfl rfl H ?_
      refine gL 16 rfl rfl (fun _ h=>h.xR 11 rfl 0 rfl) H ?_
      refine vS [12] qh qm (r_opG rfl (e:=88) rfl rfl (oq (l02Parent_ok _ s t ((r.qU[i]!).qG) (qF (H.get 4 rfl) 0 3) (H.get 5 rfl).1 (H.get 6 rfl).1 (qF (H.get 7 rfl) 0 3) (H.get 8 rfl).1 (H.get 9 rfl).1 (H.get 10 rfl).1 ql ql ql) H fun w31 H=>⟨H,(rgp 17 (.bool ((xx s t ((r.qU[i]!).qG):Int) != r.qG)) 88 H ?_)⟩) vT)
      refine rtp 18 (.bool ((xx s t ((r.qU[i]!).qG):Int) != r.qG)) H ?_
      refine xH qh (t_n (xF ((xx s t ((r.qU[i]!).qG):Int) != r.qG) rfl (fun h33=>?_) (fun h33=>?_)))
      ·skip
       replace h33:=bne_iff_ne.1 h33
       refine zcr (sp (.bool false) (zjr (zr5 (ret1 (.bool false) rfl rfl ⟨_,rfl,?_,H.base⟩))))
       rw [xn (fun h=>by obtain ⟨h1,h2,h3,h4,h5⟩:=h;first | exact ft h1 ‹_› | exact ft h2 ‹_› | exact ft h3 ‹_› | exact h4 ⟨‹_›,‹_›⟩ | (obtain ⟨q1,q2⟩:=h5 i qf;first | exact ft q1 ‹_› | exact absurd q2 ‹_›))]
      replace h33:=xA h33
      refine qV (b_n (t_n (xX (sp (yI i) (sw (zD i 1 rfl rfl qf (sp (yI (i+1)) (xY (xg (m' :=(r.qU.length - ((i+1):Int)).toNat) qf ⟨_,i+1,uE4,?_,?_,rfl,N,H.pick [] [2,3,4,5,6,7,8,9,10,11,12,13,14,15,16,17]⟩)))))))))
      · omega
      · exact i1.succ ‹_› ‹_›
     replace h30:=xq h30
     refine zS [9,10,11,12,13,14,15,16,17] 9 (H) (rtp 18 (.bool true) H ?_)
     refine xH qh (t_n (xF true rfl (fun _=>zcr (sp (.bool false) (zjr (zr5 (ret1 (.bool false) rfl rfl ⟨_,rfl,?_,H.base⟩))))) (fun h=>absurd h qj)))
     rw [xn (fun h=>by obtain ⟨h1,h2,h3,h4,h5⟩:=h;first | exact ft h1 ‹_› | exact ft h2 ‹_› | exact ft h3 ‹_› | exact h4 ⟨‹_›,‹_›⟩ | (obtain ⟨q1,q2⟩:=h5 i qf;first | exact ft q1 ‹_› | exact absurd q2 ‹_›))]
    refine zx4 (zcr (sp (.bool true) (zjr (ret1 (.bool true) rfl rfl ⟨_,rfl,?_,H.base⟩))))
    rw [jP ⟨by assumption,by assumption,by assumption,fun ⟨u,v⟩=>by first | omega | exact ft v ‹_›,(show i=r.qU.length by omega)▸i1⟩]
   replace h21:=of_decide_eq_true h21
   refine qQ 54 rfl rfl (sp (pp br or) (qQ 54 rfl rfl (sp (pp br or) (qQ 54 rfl rfl (oF rfl (qQ 54 rfl rfl (oL rfl (H.xR 9 rfl 4 rfl) (qQ 54 rfl rfl (sp (.slice ae10 ((t.qE[r.qG.toNat]!).length) ce10) (qQ 54 rfl rfl (sw (oq (l01Within_ok _ r.xO (t.qE[r.qG.toNat]!) (H.get 12 rfl).1 (H.get 0 rfl).1 qg) H fun w35 H=>qQ 47 rfl rfl (sps [.bool (within r.xO (t.qE[r.qG.toNat]!)),.bool (within r.xO (t.qE[r.qG.toNat]!))] (zjn (xF (within r.xO (t.qE[r.qG.toNat]!)) rfl (fun h37=>?_) (fun h37=>?_))))))))))))))))
   ·skip
    refine zcr (sp (.bool false) (zjr (t_r (ret1 (.bool false) rfl rfl ⟨_,rfl,?_,H.base⟩))))
    rw [xn (fun h=>by obtain ⟨h1,h2,h3,h4,h5⟩:=h;first | exact ft h1 ‹_› | exact ft h2 ‹_› | exact ft h3 ‹_› | exact h4 ⟨‹_›,‹_›⟩ | (obtain ⟨q1,q2⟩:=h5 i qf;first | exact ft q1 ‹_› | exact absurd q2 ‹_›))]
   refine qV (t_n (zcc (sp (yI 0) (zjn (qY ?_)))))
   refine zB (fun m' ρ w38=>∃ (xN:Env) (i:Nat),ρ=upd (upd (upd (upd xN 0 (pp bs os)) 1 (pp bt ot)) 2 (pp br or)) 8 (yI i)∧((i:Int)≤r.qU.length)∧(IntoUp s t r i)∧m' =(r.qU.length - (i:Int)).toNat∧Fresh w.heap.size []∧St w w38 [] [sF false Fe10 ae10 ce10 (t.qE[r.qG.toNat]!),atF b7 (o8+(r.qG:Int).toNat * 1) [.slice ae10 ((t.qE[r.qG.toNat]!).length) ce10],atF bs os (yS s qA qy qK qH),sF false qW qA qy s.qw,sF false xy qK qH s.qx,atF bt ot [.slice (aa b2 o3) t.qB.length qO,.slice (aa b7 o8) t.qE.length qZ,.slice qJ t.qC.length qI],sF false xJ (aa b2 o3) qO t.qB,sF false zn (aa b7 o8) qZ t.qE,sF false xw qJ qI t.qC,atF br or [yI r.qG,yI r.zM,.slice yB r.xE.length yu,.slice yE r.xM.length yz,.slice yC r.xO.length yw,.slice yD r.xW.length yx,.slice QO r.vC.length QN,.slice jW r.qU.length jT,.bool r.zG],sF false Vo yB yu r.xE,sF false Vr yE yz r.xM,sF false Vp yC yw r.xO,sF false Vq yD yx r.xW,sF false FrOut QO QN r.vC,sF false FrInto jW jT r.qU]) ((r.qU.length - (0:Int)).toNat) ⟨_,0,uE4,qf,(by exact fun j hj=>by omega),rfl,N,H⟩ ?_
   clear H N
   rintro m' ρ w39 ⟨xN,i,rfl,i0,i1,rfl,N,H⟩
   refine zcc (sps [yI i,pp br or,pp br or] (oF rfl (oL rfl (H.xR 9 rfl 7 rfl) (oN rfl (sp (.bool (decide ((i:Int) < r.qU.length))) (zjn (cD rfl (fun h40=>?_) (fun h40=>?_))))))))
   ·skip
    have q:=(p12 i qf).1
    have q1:=q.1
    have q2:=q.2
    refine qV (t_n (xU (qY (zcr (sps [pp br or,pp br or] (oF rfl (oL rfl (H.xR 9 rfl 7 rfl) (sp (yI i) ?_))))))))
    obtain ⟨b41,o42,rfl⟩:=H.addr 15 rfl qf
    obtain ⟨ae44Bag,ce44Bag,Fe44Bag,H⟩:=H.jJ 15 rfl i i qf qf qf
    refine oI rfl rfl (oF rfl (oL rfl (H.xR 1 rfl 0 rfl) (sp (yI ((r.qU[i]!).qG)) (zjn (xU ?_)))))
    refine ja rfl H fun H=>rtp 0 (pp bt ot) H ?_
    refine rtp 1 (pp bt ot) H ?_
    refine tF 2 rfl rfl H ?_
    refine tL 3 rfl rfl (fun _ h=>h.xR 7 rfl 0 rfl) H ?_
    refine rtp 4 (yI ((r.qU[i]!).qG)) H ?_
    refine tI 5 rfl rfl rfl H ?_
    refine tL 6 rfl rfl (fun _ h=>h.Xp 8 rfl ((r.qU[i]!).qG) qf qf) H ?_
    refine rtp 7 (.bool (!(t.qB[((r.qU[i]!).qG).toNat]!))) H ?_
    refine rtp 8 (.bool (!(t.qB[((r.qU[i]!).qG).toNat]!))) H ?_
    cases h46:(!(t.qB[((r.qU[i]!).qG).toNat]!))
    ·skip
     replace h46:=xk h46
     refine rgp 9 (pp bs os) 88 H ?_
     refine rgp 10 (pp bt ot) 88 H ?_
     refine rgp 11 (yI ((r.qU[i]!).qG)) 88 H ?_
     refine rgp 13 (pp br or) 88 H ?_
     refine rgp 14 (pp br or) 88 H ?_
     refine gF 15 rfl rfl H ?_
     refine gL 16 rfl rfl (fun _ h=>h.xR 11 rfl 0 rfl) H ?_
     refine vS [12] qh qm (r_opG rfl (e:=88) rfl rfl (oq (l02Parent_ok _ s t ((r.qU[i]!).qG) (qF (H.get 4 rfl) 0 3) (H.get 5 rfl).1 (H.get 6 rfl).1 (qF (H.get 7 rfl) 0 3) (H.get 8 rfl).1 (H.get 9 rfl).1 (H.get 10 rfl).1 ql ql ql) H fun w47 H=>⟨H,(rgp 17 (.bool ((xx s t ((r.qU[i]!).qG):Int) != r.qG)) 88 H ?_)⟩) vT)
     refine rtp 18 (.bool ((xx s t ((r.qU[i]!).qG):Int) != r.qG)) H ?_
     refine xH qh (t_n (xF ((xx s t ((r.qU[i]!).qG):Int) != r.qG) rfl (fun h49=>?_) (fun h49=>?_)))
     ·skip
      replace h49:=bne_iff_ne.1 h49
      refine zcr (sp (.bool false) (zjr (zr5 (ret1 (.bool false) rfl rfl ⟨_,rfl,?_,H.base⟩))))
      rw [xn (fun h=>by obtain ⟨h1,h2,h3,h4,h5⟩:=h;first | exact ft h1 ‹_› | exact ft h2 ‹_› | exact ft h3 ‹_› | exact h4 ⟨‹_›,‹_›⟩ | (obtain ⟨q1,q2⟩:=h5 i qf;first | exact ft q1 ‹_› | exact absurd q2 ‹_›))]
     replace h49:=xA h49
     refine qV (b_n (t_n (xX (sp (yI i) (sw (zD i 1 rfl rfl qf (sp (yI (i+1)) (xY (xg (m' :=(r.qU.length - ((i+1):Int)).toNat) qf ⟨_,i+1,uE4,?_,?_,rfl,N,H.pick [] [2,3,4,5,6,7,8,9,10,11,12,13,14,15,16,17]⟩)))))))))
     · omega
     · exact i1.succ ‹_› ‹_›
    replace h46:=xq h46
    refine zS [9,10,11,12,13,14,15,16,17] 9 (H) (rtp 18 (.bool true) H ?_)
    refine xH qh (t_n (xF true rfl (fun _=>zcr (sp (.bool false) (zjr (zr5 (ret1 (.bool false) rfl rfl ⟨_,rfl,?_,H.base⟩))))) (fun h=>absurd h qj)))
    rw [xn (fun h=>by obtain ⟨h1,h2,h3,h4,h5⟩:=h;first | exact ft h1 ‹_› | exact ft h2 ‹_› | exact ft h3 ‹_› | exact h4 ⟨‹_›,‹_›⟩ | (obtain ⟨q1,q2⟩:=h5 i qf;first | exact ft q1 ‹_› | exact absurd q2 ‹_›))]
   refine zx4 (zcr (sp (.bool true) (zjr (ret1 (.bool true) rfl rfl ⟨_,rfl,?_,H.base⟩))))
   rw [jP ⟨by assumption,by assumption,by assumption,fun ⟨u,v⟩=>by first | omega | exact ft v ‹_›,(show i=r.qU.length by omega)▸i1⟩]
  replace h18:=xq h18
  refine xZ [48,49,50,51,52,53,54,55,56,57,58,59,60,61] (sp (.bool true) (zjn (xF true rfl (fun _=>zcr (sp (.bool false) (zjr (t_r (ret1 (.bool false) rfl rfl ⟨_,rfl,?_,H.base⟩))))) (fun h=>absurd h qj))))
  rw [xn (fun h=>by obtain ⟨h1,h2,h3,h4,h5⟩:=h;first | exact ft h1 ‹_› | exact ft h2 ‹_› | exact ft h3 ‹_› | exact h4 ⟨‹_›,‹_›⟩ | (obtain ⟨q1,q2⟩:=h5 i qf;first | exact ft q1 ‹_› | exact absurd q2 ‹_›))]
 replace h14:=xq h14
 refine xZ [39,40,41,42,43,44,45] (sps [.bool true,.bool true] (xZ [48,49,50,51,52,53,54,55,56,57,58,59,60,61] (sp (.bool true) (zjn (xF true rfl (fun _=>zcr (sp (.bool false) (zjr (t_r (ret1 (.bool false) rfl rfl ⟨_,rfl,?_,H.base⟩))))) (fun h=>absurd h qj))))))
 rw [xn (fun h=>by obtain ⟨h1,h2,h3,h4,h5⟩:=h;first | exact ft h1 ‹_› | exact ft h2 ‹_› | exact ft h3 ‹_› | exact h4 ⟨‹_›,‹_›⟩ | (obtain ⟨q1,q2⟩:=h5 i qf;first | exact ft q1 ‹_› | exact absurd q2 ‹_›))]

theorem l03Applicable_ok (w:World) (s:qL) (t:qM) {qA:yOA} {qW:yLN} {qK:yOA} {xy:yLN} {qR:yOA} {xJ:yLN} {xh:yOA} {zn:yLN} {qJ:yOA} {xw:yLN} (hs:vw w bs os (yS s qA qy qK qH)) (xf:qP.rep w qW [.slice qA s.qw.length qy] s.qw) (xG:qP.rep w xy [.slice qK s.qx.length qH] s.qx) (ht:vw w bt ot (yT t qR qO xh qZ qJ qI)) (zh:qP.rep w xJ [.slice qR t.qB.length qO] t.qB) (zJ:qP.rep w zn [.slice xh t.qE.length qZ] t.qE) (xK:qP.rep w xw [.slice qJ t.qC.length qI] t.qC) (p0:jZ s) (p1:zK s t):Calls Tryz.prog 127 #[pp bs os,pp bt ot] w (Ret (fun v w' =>∃ (ra:yOA) (rn:Nat) (rc:Nat),v=.slice ra rn rc∧Fresh w.heap.size []∧St w w' [rr ra rn rc 4 1 ((appl s t).map (Value.bool))] []) w):=by
 refine en func127 ntmps127 ?_
 have H:=(((((((St.start w).arg xK).arg zJ).arg zh).XU ht).arg xG).arg xf).XU hs
 have ve:=qN xf
 have jh:=qN xG
 have yM:=qN zh
 have Qr:=qN zJ
 have jF:=qN xK
 clear hs xf xG ht zh zJ xK
 have N:=Fresh.nil w.heap.size
 have p2:=p0.2.1
 have p3:=p0.1.2.1
 refine zcr (sp yN (zjc (sps [pp bs os,pp bs os] (oF rfl (oL rfl (H.xR 0 rfl 1 rfl) (oN rfl (sw (jr H underlying22 ti2 s.qw.length rfl rfl qf qf qf fun b1 w2 H=>sp (.slice (aa b1 0) s.qw.length s.qw.length) (zjc (sw (vU H underlying26 ti4 fun b3 w4 H=>sp (.slice (aa b3 0) 0 0) (zjcc (sp (yI 0) (zjn (qY ?_)))))))))))))))
 replace H:=H.boxRowB 0 [] 0
 refine zB (fun m' ρ w5=>∃ (xN:Env) (vk:yOA) (zq:Nat) (zT:Nat) (out:List Bool) (i:Nat) (best:yLI),ρ=upd (upd (upd (upd (upd xN 0 (pp bs os)) 1 (pp bt ot)) 5 (.slice (aa b1 0) s.qw.length s.qw.length)) 6 (.slice vk zq zT)) 7 (yI i)∧out=applB s t 0 i∧best=bests s t 0 s.qw.length i∧((i:Int)≤s.qx.length)∧m' =(s.qx.length - (i:Int)).toNat∧Fresh w.heap.size []∧St w w5 [rr vk zq zT 4 1 (out.map (Value.bool)),rr (aa b1 0) s.qw.length s.qw.length 2 1 (best.map (Value.int .i64))] [atF bs os (yS s qA qy qK qH),sF false qW qA qy s.qw,sF false xy qK qH s.qx,atF bt ot (yT t qR qO xh qZ qJ qI),sF false xJ qR qO t.qB,sF false zn xh qZ t.qE,sF false xw qJ qI t.qC]) ((s.qx.length - (0:Int)).toNat) ⟨_,(aa b3 0),0,0,([]:List Bool),0,(List.replicate s.qw.length (0:Int)),uE5,(by rfl),(by exact bests_zero s t 0 _),qf,rfl,N,H⟩ ?_
 clear H N
 rintro m' ρ w6 ⟨xN,vk,zq,zT,out,i,best,rfl,rfl,rfl,i0,rfl,N,H⟩
 have hn_out:=H.rowNB 0 rfl
 have hn_best:=H.Xk 1 rfl
 have bl:=Xh s t 0 s.qw.length i
 have al:=applB_len s t 0 i
 refine zcc (sps [yI i,pp bs os,pp bs os] (oF rfl (oL rfl (H.xR 0 rfl 2 rfl) (oN rfl (sp (.bool (decide ((i:Int) < s.qx.length))) (zjn (cD rfl (fun h7=>?_) (fun h7=>?_))))))))
 ·skip
  have q:=p0.rule (i:=i) qf
  have qc:=q.1
  have qk:=q.cell
  have qr:=q.2.1
  refine qV (t_n (xU (qY (zcr (sps [pp bs os,pp bs os] (oF rfl (oL rfl (H.xR 0 rfl 2 rfl) (sp (yI i) ?_))))))))
  obtain ⟨b8,o9,rfl⟩:=H.addr 2 rfl qf
  obtain ⟨ae11Need,ce11Need,Fe11Need,ae11Have,ce11Have,Fe11Have,ae11Lack,ce11Lack,Fe11Lack,ae11Here,ce11Here,Fe11Here,ae11Out,ce11Out,Fe11Out,ae11Into,ce11Into,Fe11Into,H⟩:=H.yc 2 rfl i i qf qf qf
  refine oI rfl rfl (sp (pp b8 (o9+(i:Int).toNat * 9)) (zjc (sps [pp bs os,pp bt ot,pp b8 (o9+(i:Int).toNat * 9)] (sw (oq (l03Enabled_ok _ s t (s.qx[i]!) (qF (H.get 7 rfl) 0 3) (H.get 8 rfl).1 (H.get 9 rfl).1 (qF (H.get 10 rfl) 0 3) (H.get 11 rfl).1 (H.get 12 rfl).1 (H.get 13 rfl).1 (qF (H.get 6 rfl) 0 9) (H.get 0 rfl).1 (H.get 1 rfl).1 (H.get 2 rfl).1 (H.get 3 rfl).1 (H.get 4 rfl).1 (H.get 5 rfl).1 qg qg qg) H fun w13 H=>?_)))))
  refine sp (.bool (dec (EnOk s t (s.qx[i]!)))) (zjc (sps [.slice vk zq zT,.bool (dec (EnOk s t (s.qx[i]!)))] (sw (zI H underlying26 ti4 [.bool (dec (EnOk s t (s.qx[i]!)))] fun b15 w16 H=>sw (zO H 1 rfl 0 rfl underlying26 ti4 rfl qj rfl rfl rfl (by simp [Value.oneCell',Value.cells]) qp qf fun a17 c18 w19 H=>?_)))))
  rw [snocB] at H
  refine sp (.slice a17 (zq+1) c18) (zjc (sp (.bool (dec (EnOk s t (s.qx[i]!)))) (zjn (cP rfl (fun h20=>?_) (fun h20=>?_)))))
  ·skip
   refine yY rfl H [0,1] fun H=>?_
   have S:=H.jY [0,1] [0,1,2,3,4,5,6,7,8,9,10,11,12,13]
   refine rtp 0 (.slice (aa b1 0) s.qw.length s.qw.length) S ?_
   refine rtp 1 (pp b8 (o9+(i:Int).toNat * 9)) S ?_
   refine rtp 2 (pp b8 (o9+(i:Int).toNat * 9)) S ?_
   refine tF 3 rfl rfl S ?_
   refine tL 4 rfl rfl (fun _ h=>h.xR 6 rfl 0 rfl) S ?_
   refine rtp 5 (.slice (aa b1 0) s.qw.length s.qw.length) S ?_
   refine rtp 6 (pp b8 (o9+(i:Int).toNat * 9)) S ?_
   refine rtp 7 (pp b8 (o9+(i:Int).toNat * 9)) S ?_
   refine tF 8 rfl rfl S ?_
   refine tL 9 rfl rfl (fun _ h=>h.xR 6 rfl 0 rfl) S ?_
   refine tI 10 rfl rfl rfl S ?_
   refine rtp 12 (pp b8 (o9+(i:Int).toNat * 9)) S ?_
   refine rtp 13 (pp b8 (o9+(i:Int).toNat * 9)) S ?_
   refine tF 14 rfl rfl S ?_
   refine tL 15 rfl rfl (fun _ h=>h.xR 6 rfl 1 rfl) S ?_
   refine ro 11 rfl (zF (yI ((bests s t 0 s.qw.length i)[((s.qx[i]!).qG).toNat]!)) isAgg2 rfl (H.rowInt 2 rfl (iv:=(s.qx[i]!).qG) (i:=(((s.qx[i]!).qG).toNat)) qf qf) (⟨H.pick [0,1] [0,1,2,3,4,5,6,7,8,9,10,11,12,13],(ro 16 rfl (oq (l00Max_ok w19.drew ((bests s t 0 s.qw.length i)[((s.qx[i]!).qG).toNat]!) ((s.qx[i]!).zM)) H fun w23 H=>⟨H.pick [0,1] [0,1,2,3,4,5,6,7,8,9,10,11,12,13],(tI 17 rfl rfl rfl (H.pick [0,1] [0,1,2,3,4,5,6,7,8,9,10,11,12,13]) ?_)⟩))⟩))
   refine ro 18 rfl (QW H 2 rfl (max ((bests s t 0 s.qw.length i)[((s.qx[i]!).qG).toNat]!) ((s.qx[i]!).zM)) sizeOf2 rfl rfl (i:=(((s.qx[i]!).qG).toNat)) qf qf fun w25 H=>⟨H.pick [0,1] [0,1,2,3,4,5,6,7,8,9,10,11,12,13],(xH qh (b_n (t_n (xX (sp (yI i) (sw (zD i 1 rfl rfl qf (sp (yI (i+1)) (xY ?_)))))))))⟩)
   refine xg (m' :=(s.qx.length - ((i+1):Int)).toNat) qf ⟨_,a17,zq+1,c18,((applB s t 0 i)++[dec (EnOk s t (s.qx[i]!))]),i+1,((bests s t 0 s.qw.length i).set (((s.qx[i]!).qG).toNat) (max ((bests s t 0 s.qw.length i)[((s.qx[i]!).qG).toNat]!) ((s.qx[i]!).zM))),uE5,?_,?_,?_,rfl,N,H.pick [1,2] [7,8,9,10,11,12,13]⟩
   · exact applB_snoc s t i
   · first | exact bests_set ‹_› qf | exact bests_skip ‹_›
   · omega
  refine qV (b_n (t_n (xX (sp (yI i) (sw (zD i 1 rfl rfl qf (sp (yI (i+1)) (xY (xg (m' :=(s.qx.length - ((i+1):Int)).toNat) qf ⟨_,a17,zq+1,c18,((applB s t 0 i)++[dec (EnOk s t (s.qx[i]!))]),i+1,(bests s t 0 s.qw.length i),uE5,?_,?_,?_,rfl,N,H.pick [1,2] [7,8,9,10,11,12,13]⟩)))))))))
  · exact applB_snoc s t i
  · first | exact bests_set ‹_› qf | exact bests_skip ‹_›
  · omega
 refine zx4 (zcc (sp (yI 0) (zjn (qY ?_))))
 refine zB (fun m' ρ w26=>∃ (xN:Env) (i_1:Nat) (out_1:List Bool),ρ=upd (upd (upd (upd xN 0 (pp bs os)) 5 (.slice (aa b1 0) s.qw.length s.qw.length)) 6 (.slice vk zq zT)) 10 (yI i_1)∧out_1=applB s t i_1 s.qx.length∧((i_1:Int)≤s.qx.length)∧m' =(s.qx.length - (i_1:Int)).toNat∧Fresh w.heap.size []∧St w w26 [rr vk zq zT 4 1 (out_1.map (Value.bool)),rr (aa b1 0) s.qw.length s.qw.length 2 1 ((bests s t 0 s.qw.length i).map (Value.int .i64))] [atF bs os (yS s qA qy qK qH),sF false qW qA qy s.qw,sF false xy qK qH s.qx]) ((s.qx.length - (0:Int)).toNat) ⟨_,0,(applB s t 0 i),uE4,(by rw [show i=s.qx.length by omega]),qf,rfl,N,H.pick [0,1] [0,1,2]⟩ ?_
 clear H N
 rintro m' ρ w27 ⟨xN,i_1,out_1,rfl,rfl,i0,rfl,N,H⟩
 have hn_out:=H.rowNB 0 rfl
 have bl:=Xh s t 0 s.qw.length i
 have al:=applB_len s t i_1 s.qx.length
 refine zcc (sps [yI i_1,pp bs os,pp bs os] (oF rfl (oL rfl (H.xR 0 rfl 2 rfl) (oN rfl (sp (.bool (decide ((i_1:Int) < s.qx.length))) (zjn (cD rfl (fun h28=>?_) (fun h28=>?_))))))))
 ·skip
  have q:=p0.rule (i:=i_1) qf
  have qc:=q.1
  have qk:=q.cell
  have qr:=q.2.1
  refine qV (t_n (xU (qY ?_)))
  refine yY rfl H [1] fun H=>?_
  have S:=H.jY [1] [0,1,2]
  refine rtp 0 (.slice vk zq zT) S ?_
  refine rtp 1 (yI i_1) S ?_
  refine rtp 2 (.slice vk zq zT) S ?_
  refine rtp 3 (yI i_1) S ?_
  obtain ⟨b30,rfl⟩:=H.yP 0 rfl qf
  refine tI 4 rfl rfl rfl (H.pick [1] [0,1,2]) ?_
  refine ro 5 rfl (zF (.bool ((applB s t i_1 s.qx.length)[i_1]!)) isAgg4 rfl (H.rowBool 0 rfl (iv:=i_1) (i:=i_1) qf qf) (⟨H.pick [1] [0,1,2],(rtp 6 (.bool ((applB s t i_1 s.qx.length)[i_1]!)) (H.pick [1] [0,1,2]) ?_)⟩))
  cases h31:((applB s t i_1 s.qx.length)[i_1]!)
  ·skip
   refine zS [7,8,9,10,11,12,13,14,15,16,17,18,19,20,21,22,23,24,25,26] 20 (H.pick [1] [0,1,2]) ?_
   have S:=H.jY [1] [0,1,2]
   refine rtp 27 (.bool false) S ?_
   refine tI 28 rfl rfl rfl S ?_
   refine ro 29 rfl (Qm H 0 rfl false sizeOf4 rfl rfl (i:=i_1) qf qf fun w32 H=>⟨H.pick [1] [0,1,2],(xH qh (b_n (t_n (xX (sp (yI i_1) (sw (zD i_1 1 rfl rfl qf (sp (yI (i_1+1)) (xY (xg (m' :=(s.qx.length - ((i_1+1):Int)).toNat) qf ⟨_,i_1+1,((applB s t i_1 s.qx.length).set i_1 false),uE4,?_,?_,rfl,N,H⟩))))))))))⟩)
   · first | exact applB_set qf (applB_step0 (m:=s.qx.length) qf ‹_›) | exact applB_set qf (applB_step1 (m:=s.qx.length) (n:=s.qw.length) (z:=0) (i:=i) qf ‹_› rfl qf qf qf)
   · omega
  have S:=H.jY [1] [0,1,2]
  refine rgp 7 (pp bs os) 75 S ?_
  refine rgp 8 (pp bs os) 75 S ?_
  refine gF 9 rfl rfl S ?_
  refine gL 10 rfl rfl (fun _ h=>h.xR 0 rfl 2 rfl) S ?_
  refine rgp 11 (yI i_1) 75 S ?_
  obtain ⟨b33,o34,rfl⟩:=H.addr 2 rfl qf
  obtain ⟨ae36Need,ce36Need,Fe36Need,ae36Have,ce36Have,Fe36Have,ae36Lack,ce36Lack,Fe36Lack,ae36Here,ce36Here,Fe36Here,ae36Out,ce36Out,Fe36Out,ae36Into,ce36Into,Fe36Into,H⟩:=H.yc 2 rfl i_1 i_1 qf qf qf
  have S:=H.jY [1] [7,8,9]
  refine gI 12 rfl rfl rfl S ?_
  refine gF 13 rfl rfl S ?_
  refine rgp 15 (.slice (aa b1 0) s.qw.length s.qw.length) 75 S ?_
  refine rgp 16 (pp bs os) 75 S ?_
  refine rgp 17 (pp bs os) 75 S ?_
  refine gF 18 rfl rfl S ?_
  refine gL 19 rfl rfl (fun _ h=>h.xR 0 rfl 2 rfl) S ?_
  refine rgp 20 (yI i_1) 75 S ?_
  refine gI 21 rfl rfl rfl S ?_
  refine gF 22 rfl rfl S ?_
  refine vS [14,23] qh qm (r_opG rfl (e:=75) rfl rfl ?_ (r_opG rfl (e:=75) rfl rfl ?_ vT))
  ·skip
   refine zF (yI ((s.qx[i_1]!).zM)) isAgg2 rfl (H.xR 6 rfl 1 rfl) (⟨H.pick [1] [7,8,9],(vS [23] qh qm (r_opG rfl (e:=75) rfl rfl (zF (yI ((s.qx[i_1]!).qG)) isAgg2 rfl (H.xR 6 rfl 0 rfl) (⟨H.pick [1] [7,8,9],?_⟩)) vT))⟩)
   have S:=H.jY [1] [7,8,9]
   refine gI 24 rfl rfl rfl S ?_
   refine gL 25 rfl rfl (fun _ h=>h.rowInt 0 rfl (iv:=(s.qx[i_1]!).qG) (i:=(((s.qx[i_1]!).qG).toNat)) qf qf) S ?_
   refine rgp 26 (.bool (((s.qx[i_1]!).zM:Int) == ((bests s t 0 s.qw.length i)[((s.qx[i_1]!).qG).toNat]!))) 75 S ?_
   refine rtp 27 (.bool (((s.qx[i_1]!).zM:Int) == ((bests s t 0 s.qw.length i)[((s.qx[i_1]!).qG).toNat]!))) S ?_
   refine tI 28 rfl rfl rfl S ?_
   refine ro 29 rfl (Qm H 0 rfl (((s.qx[i_1]!).zM:Int) == ((bests s t 0 s.qw.length i)[((s.qx[i_1]!).qG).toNat]!)) sizeOf4 rfl rfl (i:=i_1) qf qf fun w37 H=>⟨H.pick [1] [7,8,9],(xH qh (b_n (t_n (xX (sp (yI i_1) (sw (zD i_1 1 rfl rfl qf (sp (yI (i_1+1)) (xY (xg (m' :=(s.qx.length - ((i_1+1):Int)).toNat) qf ⟨_,i_1+1,((applB s t i_1 s.qx.length).set i_1 (((s.qx[i_1]!).zM:Int) == ((bests s t 0 s.qw.length i)[((s.qx[i_1]!).qG).toNat]!))),uE4,?_,?_,rfl,N,H.pick [0,1] [7,8,9]⟩))))))))))⟩)
   · first | exact applB_set qf (applB_step0 (m:=s.qx.length) qf ‹_›) | exact applB_set qf (applB_step1 (m:=s.qx.length) (n:=s.qw.length) (z:=0) (i:=i) qf ‹_› rfl qf qf qf)
   · omega
  refine zF (yI ((s.qx[i_1]!).qG)) isAgg2 rfl (H.xR 6 rfl 0 rfl) (⟨H.pick [1] [7,8,9],?_⟩)
  have S:=H.jY [1] [7,8,9]
  refine gI 24 rfl rfl rfl S ?_
  refine gL 25 rfl rfl (fun _ h=>h.rowInt 0 rfl (iv:=(s.qx[i_1]!).qG) (i:=(((s.qx[i_1]!).qG).toNat)) qf qf) S ?_
  refine vS [14] qh qm (r_opG rfl (e:=75) rfl rfl (zF (yI ((s.qx[i_1]!).zM)) isAgg2 rfl (H.xR 6 rfl 1 rfl) (⟨H.pick [1] [7,8,9],?_⟩)) vT)
  have S:=H.jY [1] [7,8,9]
  refine rgp 26 (.bool (((s.qx[i_1]!).zM:Int) == ((bests s t 0 s.qw.length i)[((s.qx[i_1]!).qG).toNat]!))) 75 S ?_
  refine rtp 27 (.bool (((s.qx[i_1]!).zM:Int) == ((bests s t 0 s.qw.length i)[((s.qx[i_1]!).qG).toNat]!))) S ?_
  refine tI 28 rfl rfl rfl S ?_
  refine ro 29 rfl (Qm H 0 rfl (((s.qx[i_1]!).zM:Int) == ((bests s t 0 s.qw.length i)[((s.qx[i_1]!).qG).toNat]!)) sizeOf4 rfl rfl (i:=i_1) qf qf fun w38 H=>⟨H.pick [1] [7,8,9],(xH qh (b_n (t_n (xX (sp (yI i_1) (sw (zD i_1 1 rfl rfl qf (sp (yI (i_1+1)) (xY (xg (m' :=(s.qx.length - ((i_1+1):Int)).toNat) qf ⟨_,i_1+1,((applB s t i_1 s.qx.length).set i_1 (((s.qx[i_1]!).zM:Int) == ((bests s t 0 s.qw.length i)[((s.qx[i_1]!).qG).toNat]!))),uE4,?_,?_,rfl,N,H.pick [0,1] [7,8,9]⟩))))))))))⟩)
  · first | exact applB_set qf (applB_step0 (m:=s.qx.length) qf ‹_›) | exact applB_set qf (applB_step1 (m:=s.qx.length) (n:=s.qw.length) (z:=0) (i:=i) qf ‹_› rfl qf qf qf)
  · omega
 refine zx4 (zcr (sps [.slice vk zq zT,.slice vk zq zT] (zjr (ret1 (.slice vk zq zT) rfl rfl ⟨_,rfl,?_,H.base⟩))))
 obtain rfl:i_1=s.qx.length:=by omega
 exact ⟨vk,zq,zT,rfl,N,H.pick [0] []⟩

theorem l03Halted_ok (w:World) (s:qL) (t:qM) {qA:yOA} {qW:yLN} {qK:yOA} {xy:yLN} {qR:yOA} {xJ:yLN} {xh:yOA} {zn:yLN} {qJ:yOA} {xw:yLN} (hs:vw w bs os (yS s qA qy qK qH)) (xf:qP.rep w qW [.slice qA s.qw.length qy] s.qw) (xG:qP.rep w xy [.slice qK s.qx.length qH] s.qx) (ht:vw w bt ot (yT t qR qO xh qZ qJ qI)) (zh:qP.rep w xJ [.slice qR t.qB.length qO] t.qB) (zJ:qP.rep w zn [.slice xh t.qE.length qZ] t.qE) (xK:qP.rep w xw [.slice qJ t.qC.length qI] t.qC) (p0:jZ s) (p1:zK s t):Calls Tryz.prog 90 #[pp bs os,pp bt ot] w (Ret (fun v w' =>v=.bool (dec (Halted s t))) w):=by
 refine en func90 ntmps90 ?_
 have H:=(((((((St.start w).arg xK).arg zJ).arg zh).XU ht).arg xG).arg xf).XU hs
 have ve:=qN xf
 have jh:=qN xG
 have yM:=qN zh
 have Qr:=qN zJ
 have jF:=qN xK
 clear hs xf xG ht zh zJ xK
 have N:=Fresh.nil w.heap.size
 have p2:=p0.2.1
 refine zcr (sp (.bool false) (zjc (sps [pp bs os,pp bt ot] ?_)))
 have sz4:=H.base.size
 refine sw (oc (l03Applicable_ok _ s t (qF (H.get 0 rfl) 0 3) (H.get 1 rfl).1 (H.get 2 rfl).1 (qF (H.get 3 rfl) 0 3) (H.get 4 rfl).1 (H.get 5 rfl).1 (H.get 6 rfl).1 qg qg) ?_)
 rintro _ w2 ⟨ra1,rn1,rc1,rfl,M,K⟩ _
 replace H:=H.merge K M
 obtain rfl:=H.rowNB 0 rfl
 have al:=appl_len s t
 refine sp (.slice ra1 ((appl s t).length) rc1) (zjcc (sp (yI 0) (zjn (qY ?_))))
 refine zB (fun m' ρ w7=>∃ (xN:Env) (i:Nat),ρ=upd (upd xN 5 (.slice ra1 ((appl s t).length) rc1)) 6 (yI i)∧((i:Int)≤((appl s t).length))∧(HaltTo s t i)∧m' =(((appl s t).length) - (i:Int)).toNat∧Fresh w.heap.size []∧St w w7 [rr ra1 ((appl s t).length) rc1 4 1 ((appl s t).map (Value.bool))] []) ((((appl s t).length) - (0:Int)).toNat) ⟨_,0,uE2,qf,(by exact fun j hj=>by omega),rfl,N,H.pick [0] []⟩ ?_
 clear H N
 rintro m' ρ w8 ⟨xN,i,rfl,i0,i1,rfl,N,H⟩
 refine zcc (sps [yI i,.slice ra1 ((appl s t).length) rc1] (oN rfl (sp (.bool (decide ((i:Int) < ((appl s t).length)))) (zjn (cD rfl (fun h9=>?_) (fun h9=>?_))))))
 ·skip
  refine qV (t_n (xU (qY (zcr (sps [.slice ra1 ((appl s t).length) rc1,yI i] ?_)))))
  obtain ⟨b10,rfl⟩:=H.yP 0 rfl qf
  refine oI rfl rfl (oL rfl (H.rowBool 0 rfl (iv:=i) (i:=i) qf qf) (zjn (xF ((appl s t)[i]!) rfl (fun h11=>?_) (fun h11=>?_))))
  ·skip
   refine zcr (sp (.bool false) (zjr (zr5 (ret1 (.bool false) rfl rfl ⟨_,rfl,?_,H.base⟩))))
   rw [xn (fun h=>h i qf (QA qf ‹_›))]
  refine qV (b_n (t_n (xX (sp (yI i) (sw (zD i 1 rfl rfl qf (sp (yI (i+1)) (xY (xg (m' :=(((appl s t).length) - ((i+1):Int)).toNat) qf ⟨_,i+1,uE2,?_,?_,rfl,N,H⟩)))))))))
  · omega
  · exact i1.succ (Qa qf ‹_›)
 refine zx4 (zcr (sp (.bool true) (zjr (ret1 (.bool true) rfl rfl ⟨_,rfl,?_,H.base⟩))))
 obtain rfl:i=s.qx.length:=by omega
 rw [jP i1]

theorem l03Rest_ok (w:World) (s:qL) (t:qM) (counts:yLI) {qA:yOA} {qW:yLN} {qK:yOA} {xy:yLN} {qR:yOA} {xJ:yLN} {xh:yOA} {zn:yLN} {qJ:yOA} {xw:yLN} {acounts:yOA} {Fcounts:yLN} (hs:vw w bs os (yS s qA qy qK qH)) (xf:qP.rep w qW [.slice qA s.qw.length qy] s.qw) (xG:qP.rep w xy [.slice qK s.qx.length qH] s.qx) (ht:vw w bt ot (yT t qR qO xh qZ qJ qI)) (zh:qP.rep w xJ [.slice qR t.qB.length qO] t.qB) (zJ:qP.rep w zn [.slice xh t.qE.length qZ] t.qE) (xK:qP.rep w xw [.slice qJ t.qC.length qI] t.qC) (hcounts:qP.rep w Fcounts [.slice acounts counts.length ccounts] counts) (p0:jZ s) (p1:zK s t) (p2:CntOk s counts):Calls Tryz.prog 180 #[pp bs os,pp bt ot,.slice acounts counts.length ccounts] w (Ret (fun v w' =>∃ (ra0:yOA) (rn0:Nat) (rc0:Nat) (rx0:List Value) (rF0:yLN),v=.tuple #[.slice ra0 rn0 rc0,.bool (dec (IsCh s t counts))]∧Fresh w.heap.size [rF0]∧St w w' [rr ra0 rn0 rc0 22 1 rx0] [zk true rF0 rx0 (yQ s t counts (Qo (BadAt s t counts) counts.length))]) w):=by
 refine en func180 ntmps180 ?_
 have H:=((((((((St.start w).arg hcounts).arg xK).arg zJ).arg zh).XU ht).arg xG).arg xf).XU hs
 have ve:=qN xf
 have jh:=qN xG
 have yM:=qN zh
 have Qr:=qN zJ
 have jF:=qN xK
 have nhcounts:=qN hcounts
 clear hs xf xG ht zh zJ xK hcounts
 have N:=Fresh.nil w.heap.size
 have p3:=p0.2.1
 have p6:=p2.1
 have p7:=p1.2.1
 have p8:=kinds_le p0
 have p9:=p0.1.2.1
 have p11:jb s=s.qw.length:=rfl
 refine zcr (sps [yN,.bool false] (zjc (sps [pp bs os,pp bt ot] ?_)))
 have sz4:=H.base.size
 refine sw (oc (l03Applicable_ok _ s t (qF (H.get 0 rfl) 0 3) (H.get 1 rfl).1 (H.get 2 rfl).1 (qF (H.get 3 rfl) 0 3) (H.get 4 rfl).1 (H.get 5 rfl).1 (H.get 6 rfl).1 qg qg) ?_)
 rintro _ w2 ⟨ra1,rn1,rc1,rfl,M,K⟩ _
 replace H:=H.merge K M
 obtain rfl:=H.rowNB 0 rfl
 have al:=appl_len s t
 refine sp (.slice ra1 ((appl s t).length) rc1) (zjc (sw (vU H underlying27 ti22 fun b7 w8 H=>sp (.slice (aa b7 0) 0 0) (zjcc (sp (yI 0) (zjn (qY ?_)))))))
 replace H:=H.boxRow 0 rfl 1 0 rfl qj
 replace H:=H.vN (α:=yLI)
 refine zB (fun m' ρ w9=>∃ (xN:Env) (Xw:yOA) (Qc:Nat) (QL:Nat) (rest:yLL) (x_rest:List Value) (F_rest:yLN) (c:Nat),ρ=upd (upd (upd (upd (upd (upd xN 0 (pp bs os)) 1 (pp bt ot)) 2 (.slice acounts counts.length ccounts)) 8 (.slice ra1 ((appl s t).length) rc1)) 9 (.slice Xw Qc QL)) 10 (yI c)∧rest=t.qE.take c∧((c:Int)≤t.qE.length)∧m' =(t.qE.length - (c:Int)).toNat∧Fresh w.heap.size [F_rest]∧St w w9 [rr Xw Qc QL 22 1 x_rest,rr ra1 ((appl s t).length) rc1 4 1 ((appl s t).map (Value.bool))] [zk true F_rest x_rest rest,atF bs os (yS s qA qy qK qH),sF false qW qA qy s.qw,sF false xy qK qH s.qx,atF bt ot (yT t qR qO xh qZ qJ qI),sF false xJ qR qO t.qB,sF false zn xh qZ t.qE,sF false xw qJ qI t.qC,sF false Fcounts acounts ccounts counts]) ((t.qE.length - (0:Int)).toNat) ⟨_,(aa b7 0),0,0,([]:yLL),[],[],0,uE6,(by rfl),qf,rfl,N.emp,H⟩ ?_
 clear H N
 rintro m' ρ w10 ⟨xN,Xw,Qc,QL,rest,x_rest,F_rest,c,rfl,rfl,i0,rfl,N,H⟩
 have hn_rest:=H.zo (α:=yLI) 0 rfl 0 rfl qj
 have p4:=(p1.bagLen (k:=c))
 rw [List.length_take_of_le qf] at hn_rest
 refine zcc (sps [yI c,pp bt ot,pp bt ot] (oF rfl (oL rfl (H.xR 4 rfl 1 rfl) (oN rfl (sp (.bool (decide ((c:Int) < t.qE.length))) (zjn (cD rfl (fun h11=>?_) (fun h11=>?_))))))))
 ·skip
  refine qV (t_n (xU (qY (xX (sps [.slice Xw Qc QL,pp bt ot,pp bt ot] (oF rfl (oL rfl (H.xR 4 rfl 1 rfl) (sp (yI c) ?_))))))))
  obtain ⟨b12,o13,rfl⟩:=H.addr 6 rfl qf
  obtain ⟨ae15,ce15,Fe15,H⟩:=H.vH 6 rfl c c qf qf qf
  refine oI rfl rfl (oL rfl (H.xR 1 rfl 0 rfl) ?_)
  have p5:=(p1.bagLen (k:=c) qf).len
  have sz16:=H.base.size
  have lt17:=H.ltN (L:=[F_rest]) [2]
  refine sw (oc (Xg _ (t.qE[c]!) (H.get 0 rfl).1 qg) ?_)
  rintro v21 w19 r21 x20
  replace H:=H.zC x20 r21
  obtain ⟨a22,c23,rfl,hc24,hm25⟩:=H.ji 0 rfl
  refine sw (zI H underlying27 ti22 [.slice a22 ((t.qE[c]!).length) c23] fun b26 w27 H=>?_)
  obtain ⟨G31,N,hn32,H⟩:=H.vP 1 rfl N (H.yg [2])
  refine sw (zO H 2 rfl 0 rfl underlying27 ti22 rfl qj rfl rfl rfl (by simp [Value.oneCell',Value.cells]) qp qf fun a28 c29 w30 H=>?_)
  replace H:=H.yj 3 rfl 0 rfl
  replace N:Fresh w.heap.size [(F_rest++G31)]:=(N.pick [1,0]).join
  refine sp (.slice a28 (Qc+1) c29) (xY (b_n (t_n (xX (sp (yI c) (sw (zD c 1 rfl rfl qf (sp (yI (c+1)) (xY (xg (m' :=(t.qE.length - ((c+1):Int)).toNat) qf ⟨_,a28,Qc+1,c29,((t.qE.take c)++[(t.qE[c]!)]),x_rest++[.slice a22 ((t.qE[c]!).length) c23],(F_rest++G31),c+1,uE6,?_,?_,rfl,N,H.pick [2,3] [0,5,6,7,8,9,10,11,12]⟩))))))))))
  · exact take_snoc qf
  · omega
 refine zx4 (zcc (sp (yI 0) (zjn (qY ?_))))
 refine zB (fun m' ρ w33=>∃ (xN:Env) (i:Nat) (rest_1:yLL) (x_rest_1:List Value) (Vu:yLN),ρ=upd (upd (upd (upd (upd xN 0 (pp bs os)) 2 (.slice acounts counts.length ccounts)) 8 (.slice ra1 ((appl s t).length) rc1)) 9 (.slice Xw Qc QL)) 11 (yI i)∧rest_1=yQ s t counts i∧((i:Int)≤counts.length)∧(GoodTo s t counts i)∧m' =(counts.length - (i:Int)).toNat∧Fresh w.heap.size [Vu]∧St w w33 [rr Xw Qc QL 22 1 x_rest_1,rr ra1 ((appl s t).length) rc1 4 1 ((appl s t).map (Value.bool))] [zk true Vu x_rest_1 rest_1,atF bs os (yS s qA qy qK qH),sF false qW qA qy s.qw,sF false xy qK qH s.qx,sF false Fcounts acounts ccounts counts]) ((counts.length - (0:Int)).toNat) ⟨_,0,(t.qE.take c),x_rest,F_rest,uE5,(by rw [List.take_of_length_le qf];rfl),qf,(by exact fun j hj=>by omega),rfl,N,H.pick [0,1] [0,1,2,3,8]⟩ ?_
 clear H N
 rintro m' ρ w34 ⟨xN,i,rest_1,x_rest_1,Vu,rfl,rfl,i0,i1,rfl,N,H⟩
 have hn_rest:=H.zo (α:=yLI) 0 rfl 0 rfl qj
 have rl:=restR_len (s:=s) (t:=t) (counts:=counts) i
 refine zcc (sps [yI i,.slice acounts counts.length ccounts] (oN rfl (sp (.bool (decide ((i:Int) < counts.length))) (zjn (cD rfl (fun h35=>?_) (fun h35=>?_))))))
 ·skip
  have q:=p0.rule (i:=i) qf
  have qc:=q.1
  have qk:=q.cell
  have qr:=q.2.1
  have b1:=q.2.2.2.2.1
  have p10:=p2.bd (i:=i) qf
  refine qV (t_n (xU (qY (zcc (sps [.slice acounts counts.length ccounts,yI i] ?_)))))
  obtain ⟨b36,o37,rfl⟩:=H.addr 4 rfl qf
  refine oI rfl rfl (oL rfl (H.jy 4 rfl i qf qf) (sps [.bool (decide ((counts[i]! :Int) > 0)),.bool (decide ((counts[i]! :Int) > 0))] ?_))
  cases h39:(decide ((counts[i]! :Int) > 0))
  ·skip
   replace h39:=of_decide_eq_false h39
   refine xZ [51,52,53,54,55] (sp (.bool false) (zjn (xF false rfl (fun h=>absurd h qj) (fun _=>qV (t_n (zcr (sps [pp bs os,pp bs os] (oF rfl (oL rfl (H.xR 1 rfl 2 rfl) (sp (yI i) ?_))))))))))
   obtain ⟨b40,o41,rfl⟩:=H.addr 3 rfl qf
   obtain ⟨ae43Need,ce43Need,Fe43Need,ae43Have,ce43Have,Fe43Have,ae43Lack,ce43Lack,Fe43Lack,ae43Here,ce43Here,Fe43Here,ae43Out,ce43Out,Fe43Out,ae43Into,ce43Into,Fe43Into,H⟩:=H.yc 3 rfl i i qf qf qf
   refine oI rfl rfl (oF rfl (oL rfl (H.xR 6 rfl 0 rfl) (sp (yI ((s.qx[i]!).qG)) (zjn ?_))))
   refine yY rfl H [1] fun H=>?_
   have S:=H.jY [1] [0,1,2,3,4,5,6,7,8,9,10,11]
   refine rtp 0 (.slice Xw Qc QL) S ?_
   refine rtp 1 (yI ((s.qx[i]!).qG)) S ?_
   refine rtp 2 (.slice Xw Qc QL) S ?_
   refine rtp 3 (yI ((s.qx[i]!).qG)) S ?_
   obtain ⟨b45,rfl⟩:=H.yP 0 rfl qf
   have S:=H.jY [1] [0,1,2,3,4,5,6,7,8,9,10,11]
   refine tI 4 rfl rfl rfl S ?_
   refine rtp 6 (pp bs os) S ?_
   refine rtp 7 (pp bs os) S ?_
   refine tF 8 rfl rfl S ?_
   refine tL 9 rfl rfl (fun _ h=>h.xR 8 rfl 2 rfl) S ?_
   refine rtp 10 (yI i) S ?_
   refine tI 11 rfl rfl rfl S ?_
   refine tF 12 rfl rfl S ?_
   refine tL 13 rfl rfl (fun _ h=>h.xR 6 rfl 2 rfl) S ?_
   refine rtp 14 (.slice (aa b36 o37) counts.length ccounts) S ?_
   refine rtp 15 (yI i) S ?_
   refine tI 16 rfl rfl rfl S ?_
   refine tL 17 rfl rfl (fun _ h=>h.yf 11 rfl i qf) S ?_
   refine rt 18 (yI (-(counts[i]!))) (y_neg (counts[i]!) rfl qf) S ?_
   refine ro 5 rfl ?_
   obtain ⟨a46,c47,G48,s49,h50,H⟩:=H.jO 0 rfl 7 rfl (iv:=(s.qx[i]!).qG) (((s.qx[i]!).qG).toNat) qf qf
   refine zF (.slice a46 (((yQ s t counts i)[((s.qx[i]!).qG).toNat]!).length) c47) isAgg22 rfl (h50) (⟨H.pick [1] [1,2,3,4,5,6,7,8,9,10,11,12],(ro 19 rfl ?_)⟩)
   obtain ⟨u1,u2⟩:=restR_row (c:=(s.qx[i]!).qG.toNat) p0 p1 p2 (show i≤_ by omega) qk
   have u3:=b1.len
   have u4:=b1.yJ (t:= -(counts[i]!)) qf
   have sz51:=H.base.size
   have lt52:=H.ltN (L:=[Vu]) [8]
   refine oc (Xi _ ((yQ s t counts i)[((s.qx[i]!).qG).toNat]!) ((s.qx[i]!).xE) (-(counts[i]!)) (H.get 0 rfl).1 (H.get 1 rfl).1 qg qg qg) ?_
   rintro v56 w54 r56 x55
   replace H:=H.zC x55 r56
   obtain ⟨a57,c58,rfl,hc59,hm60⟩:=H.ji 0 rfl
   refine ⟨H.pick [2] [1,2,3,4,5,6,7,8,9,10,11,12],(tI 20 rfl rfl rfl (H.pick [2] [1,2,3,4,5,6,7,8,9,10,11,12]) ?_)⟩
   refine ro 21 rfl ?_
   obtain ⟨G62,N,hn63,H⟩:=H.vP 0 rfl N (H.yg [8])
   refine jB true H 1 rfl 9 rfl (.slice a57 ((vY ((yQ s t counts i)[((s.qx[i]!).qG).toNat]!) ((s.qx[i]!).xE) (-(counts[i]!))).length) c58) 0 rfl rfl sizeOf22 rfl rfl (i:=(((s.qx[i]!).qG).toNat)) qf qf qm fun w61 xs64 F65 hs66 H=>?_
   replace N:Fresh w.heap.size [F65]:=(N.pick [1,0]).repl hs66
   refine ⟨H.pick [2] [3,4,5,6,7,8,9,10,11,12,13,14],(xH qh (b_n (t_n (xX (sp (yI i) (sw (zD i 1 rfl rfl qf (sp (yI (i+1)) (xY (xg (m' :=(counts.length - ((i+1):Int)).toNat) qf ⟨_,i+1,((yQ s t counts i).set (((s.qx[i]!).qG).toNat) (vY ((yQ s t counts i)[((s.qx[i]!).qG).toNat]!) ((s.qx[i]!).xE) (-(counts[i]!)))),xs64,F65,uE5,?_,?_,?_,rfl,N,H.pick [1,2] [0,11,12,13,14]⟩))))))))))⟩
   · rfl
   · omega
   · exact i1.succ (fun h=>by obtain ⟨u,v⟩:=h;first | omega | exact v (QA qf ‹_›))
  replace h39:=of_decide_eq_true h39
  refine qQ 50 rfl rfl (sp (.slice ra1 ((appl s t).length) rc1) (qQ 50 rfl rfl (sp (yI i) (qQ 50 rfl rfl ?_))))
  obtain ⟨b67,rfl⟩:=H.yP 1 rfl qf
  refine oI rfl rfl (qQ 50 rfl rfl (oL rfl (H.rowBool 1 rfl (iv:=i) (i:=i) qf qf) (qQ 50 rfl rfl (sps [.bool (!((appl s t)[i]!)),.bool (!((appl s t)[i]!))] (zjn (xF (!((appl s t)[i]!)) rfl (fun h68=>?_) (fun h68=>?_)))))))
  ·skip
   replace h68:=xq h68
   refine zcr (sps [.slice Xw Qc QL,.slice Xw Qc QL,.bool false] (zjr (t_r (zr5 (ret2 (.slice Xw Qc QL) (.bool false) rfl rfl rfl ⟨_,rfl,?_,H.base⟩)))))
   rw [stop_first (k:=i) i1 qf ⟨by omega,Qa qf ‹_›⟩,xn (fun h=>h.1 i qf ⟨by omega,Qa qf ‹_›⟩)]
   exact ⟨Xw,Qc,QL,x_rest_1,Vu,rfl,N,H.pick [0] [0]⟩
  replace h68:=xk h68
  refine qV (t_n (zcr (sps [pp bs os,pp bs os] (oF rfl (oL rfl (H.xR 1 rfl 2 rfl) (sp (yI i) ?_))))))
  obtain ⟨b69,o70,rfl⟩:=H.addr 3 rfl qf
  obtain ⟨ae72Need,ce72Need,Fe72Need,ae72Have,ce72Have,Fe72Have,ae72Lack,ce72Lack,Fe72Lack,ae72Here,ce72Here,Fe72Here,ae72Out,ce72Out,Fe72Out,ae72Into,ce72Into,Fe72Into,H⟩:=H.yc 3 rfl i i qf qf qf
  refine oI rfl rfl (oF rfl (oL rfl (H.xR 6 rfl 0 rfl) (sp (yI ((s.qx[i]!).qG)) (zjn ?_))))
  refine yY rfl H [1] fun H=>?_
  have S:=H.jY [1] [0,1,2,3,4,5,6,7,8,9,10,11]
  refine rtp 0 (.slice Xw Qc QL) S ?_
  refine rtp 1 (yI ((s.qx[i]!).qG)) S ?_
  refine rtp 2 (.slice Xw Qc QL) S ?_
  refine rtp 3 (yI ((s.qx[i]!).qG)) S ?_
  obtain ⟨b74,rfl⟩:=H.yP 0 rfl qf
  have S:=H.jY [1] [0,1,2,3,4,5,6,7,8,9,10,11]
  refine tI 4 rfl rfl rfl S ?_
  refine rtp 6 (pp bs os) S ?_
  refine rtp 7 (pp bs os) S ?_
  refine tF 8 rfl rfl S ?_
  refine tL 9 rfl rfl (fun _ h=>h.xR 8 rfl 2 rfl) S ?_
  refine rtp 10 (yI i) S ?_
  refine tI 11 rfl rfl rfl S ?_
  refine tF 12 rfl rfl S ?_
  refine tL 13 rfl rfl (fun _ h=>h.xR 6 rfl 2 rfl) S ?_
  refine rtp 14 (.slice (aa b36 o37) counts.length ccounts) S ?_
  refine rtp 15 (yI i) S ?_
  refine tI 16 rfl rfl rfl S ?_
  refine tL 17 rfl rfl (fun _ h=>h.yf 11 rfl i qf) S ?_
  refine rt 18 (yI (-(counts[i]!))) (y_neg (counts[i]!) rfl qf) S ?_
  refine ro 5 rfl ?_
  obtain ⟨a75,c76,G77,s78,h79,H⟩:=H.jO 0 rfl 7 rfl (iv:=(s.qx[i]!).qG) (((s.qx[i]!).qG).toNat) qf qf
  refine zF (.slice a75 (((yQ s t counts i)[((s.qx[i]!).qG).toNat]!).length) c76) isAgg22 rfl (h79) (⟨H.pick [1] [1,2,3,4,5,6,7,8,9,10,11,12],(ro 19 rfl ?_)⟩)
  obtain ⟨u1,u2⟩:=restR_row (c:=(s.qx[i]!).qG.toNat) p0 p1 p2 (show i≤_ by omega) qk
  have u3:=b1.len
  have u4:=b1.yJ (t:= -(counts[i]!)) qf
  have sz80:=H.base.size
  have lt81:=H.ltN (L:=[Vu]) [8]
  refine oc (Xi _ ((yQ s t counts i)[((s.qx[i]!).qG).toNat]!) ((s.qx[i]!).xE) (-(counts[i]!)) (H.get 0 rfl).1 (H.get 1 rfl).1 qg qg qg) ?_
  rintro v85 w83 r85 x84
  replace H:=H.zC x84 r85
  obtain ⟨a86,c87,rfl,hc88,hm89⟩:=H.ji 0 rfl
  refine ⟨H.pick [2] [1,2,3,4,5,6,7,8,9,10,11,12],(tI 20 rfl rfl rfl (H.pick [2] [1,2,3,4,5,6,7,8,9,10,11,12]) ?_)⟩
  refine ro 21 rfl ?_
  obtain ⟨G91,N,hn92,H⟩:=H.vP 0 rfl N (H.yg [8])
  refine jB true H 1 rfl 9 rfl (.slice a86 ((vY ((yQ s t counts i)[((s.qx[i]!).qG).toNat]!) ((s.qx[i]!).xE) (-(counts[i]!))).length) c87) 0 rfl rfl sizeOf22 rfl rfl (i:=(((s.qx[i]!).qG).toNat)) qf qf qm fun w90 xs93 F94 hs95 H=>?_
  replace N:Fresh w.heap.size [F94]:=(N.pick [1,0]).repl hs95
  refine ⟨H.pick [2] [3,4,5,6,7,8,9,10,11,12,13,14],(xH qh (b_n (t_n (xX (sp (yI i) (sw (zD i 1 rfl rfl qf (sp (yI (i+1)) (xY (xg (m' :=(counts.length - ((i+1):Int)).toNat) qf ⟨_,i+1,((yQ s t counts i).set (((s.qx[i]!).qG).toNat) (vY ((yQ s t counts i)[((s.qx[i]!).qG).toNat]!) ((s.qx[i]!).xE) (-(counts[i]!)))),xs93,F94,uE5,?_,?_,?_,rfl,N,H.pick [1,2] [0,11,12,13,14]⟩))))))))))⟩
  · rfl
  · omega
  · exact i1.succ (fun h=>by obtain ⟨u,v⟩:=h;first | omega | exact v (QA qf ‹_›))
 refine zx4 (zcc (sp (yI 0) (zjn (qY ?_))))
 refine zB (fun m' ρ w96=>∃ (xN:Env) (c_1:Nat),ρ=upd (upd xN 9 (.slice Xw Qc QL)) 13 (yI c_1)∧((c_1:Int)≤Qc)∧(NonNeg (yQ s t counts i) c_1)∧m' =(Qc - (c_1:Int)).toNat∧Fresh w.heap.size [Vu]∧St w w96 [rr Xw Qc QL 22 1 x_rest_1,rr ra1 ((appl s t).length) rc1 4 1 ((appl s t).map (Value.bool))] [zk true Vu x_rest_1 (yQ s t counts i)]) ((Qc - (0:Int)).toNat) ⟨_,0,uE2,qf,(by exact fun j hj=>by omega),rfl,N,H.pick [0,1] [0]⟩ ?_
 clear H N
 rintro m' ρ w97 ⟨xN,c_1,rfl,i0,i2,rfl,N,H⟩
 refine zcc (sps [yI c_1,.slice Xw Qc QL] (oN rfl (sp (.bool (decide ((c_1:Int) < Qc))) (zjn (cD rfl (fun h98=>?_) (fun h98=>?_))))))
 ·skip
  have r1:=(restR_row (c:=c_1) p0 p1 p2 (show i≤_ by omega) (show c_1 < jb s by omega)).1
  refine qV (t_n (xU (qY (zcr (sp (yI 0) (zjn (qY ?_)))))))
  refine zB (fun m' ρ w99=>∃ (xN:Env) (k:Nat),ρ=upd (upd (upd xN 9 (.slice Xw Qc QL)) 13 (yI c_1)) 14 (yI k)∧((k:Int)≤(((yQ s t counts i)[c_1]!).length))∧(∀ j,j < k→0≤((yQ s t counts i)[c_1]!)[j]!)∧m' =((((yQ s t counts i)[c_1]!).length) - (k:Int)).toNat∧Fresh w.heap.size [Vu]∧St w w99 [rr Xw Qc QL 22 1 x_rest_1,rr ra1 ((appl s t).length) rc1 4 1 ((appl s t).map (Value.bool))] [zk true Vu x_rest_1 (yQ s t counts i)]) (((((yQ s t counts i)[c_1]!).length) - (0:Int)).toNat) ⟨_,0,uE3,qf,(by exact fun j hj=>by omega),rfl,N,H⟩ ?_
  clear H N
  rintro m' ρ w100 ⟨xN,k,rfl,i0,i3,rfl,N,H⟩
  refine zcc (sps [yI k,.slice Xw Qc QL,yI c_1] ?_)
  obtain ⟨b101,rfl⟩:=H.yP 0 rfl qf
  refine oI rfl rfl ?_
  obtain ⟨a102,c103,G104,s105,h106,H⟩:=H.jO 0 rfl 0 rfl (iv:=c_1) c_1 qf qf
  refine oL rfl (h106) (oN rfl (sp (.bool (decide ((k:Int) < (((yQ s t counts i)[c_1]!).length)))) (zjn (cD rfl (fun h107=>?_) (fun h107=>?_)))))
  ·skip
   refine qV (t_n (xU (qY (zcr (sps [.slice (aa b101 0) Qc QL,yI c_1] (oI rfl rfl ?_))))))
   obtain ⟨a108,c109,G110,s111,h112,H⟩:=H.jO 0 rfl 1 rfl (iv:=c_1) c_1 qf qf
   refine oL rfl (h112) (sp (yI k) ?_)
   obtain ⟨b113,o114,rfl⟩:=H.addr 0 rfl qf
   refine oI rfl rfl (oL rfl (H.jy 0 rfl k qf qf) (sp (.bool (decide ((((yQ s t counts i)[c_1]!)[k]! :Int) < 0))) (zjn (cD rfl (fun h116=>?_) (fun h116=>?_)))))
   ·skip
    refine zcr (sps [.slice (aa b101 0) Qc QL,.slice (aa b101 0) Qc QL,.bool false] (zjr (b_r (t_r (t_r (b_r (zr5 (ret2 (.slice (aa b101 0) Qc QL) (.bool false) rfl rfl rfl ⟨_,rfl,?_,H.base⟩))))))))
    obtain rfl:i=counts.length:=by omega
    rw [stop_none (n:=counts.length) i1,xn (fun h=>by have:=h.2 c_1 qf k qf;omega)]
    exact ⟨(aa b101 0),Qc,QL,x_rest_1,Vu,rfl,N,H.pick [0] [2]⟩
   refine qV (b_n (t_n (xX (sp (yI k) (sw (zD k 1 rfl rfl qf (sp (yI (k+1)) (xY (xg (m' :=((((yQ s t counts i)[c_1]!).length) - ((k+1):Int)).toNat) qf ⟨_,k+1,uE3,?_,?_,rfl,N,H.pick [0,1] [2]⟩)))))))))
   · omega
   · exact fun j hj=>by (by_cases e:j=k;(subst e;omega);exact i3 j qf)
  refine c_exit (t_x (t_x (b_x (b_n (t_n (xX (sp (yI c_1) (sw (zD c_1 1 rfl rfl qf (sp (yI (c_1+1)) (xY (xg (m' :=(Qc - ((c_1+1):Int)).toNat) qf ⟨_,c_1+1,uE2,?_,?_,rfl,N,H.pick [0,1] [1]⟩))))))))))))
  · omega
  · exact i2.succ (fun j hj=>i3 j qf)
 refine zx4 (zcr (sps [.slice Xw Qc QL,.slice Xw Qc QL,.bool true] (zjr (ret2 (.slice Xw Qc QL) (.bool true) rfl rfl rfl ⟨_,rfl,?_,H.base⟩))))
 obtain rfl:i=counts.length:=by omega
 rw [stop_none (n:=counts.length) i1,jP ⟨i1,(show c_1=t.qE.length by omega)▸i2⟩]
 exact ⟨Xw,Qc,QL,x_rest_1,Vu,rfl,N,H.pick [0] [0]⟩
theorem l03Step_ok (w:World) (s:qL) (t:qM) (counts:yLI) {qA:yOA} {qW:yLN} {qK:yOA} {xy:yLN} {qR:yOA} {xJ:yLN} {xh:yOA} {zn:yLN} {qJ:yOA} {xw:yLN} {acounts:yOA} {Fcounts:yLN} (hs:vw w bs os (yS s qA qy qK qH)) (xf:qP.rep w qW [.slice qA s.qw.length qy] s.qw) (xG:qP.rep w xy [.slice qK s.qx.length qH] s.qx) (ht:vw w bt ot (yT t qR qO xh qZ qJ qI)) (zh:qP.rep w xJ [.slice qR t.qB.length qO] t.qB) (zJ:qP.rep w zn [.slice xh t.qE.length qZ] t.qE) (xK:qP.rep w xw [.slice qJ t.qC.length qI] t.qC) (hcounts:qP.rep w Fcounts [.slice acounts counts.length ccounts] counts) (p0:jZ s) (p1:zK s t) (p2:CntOk s counts):Calls Tryz.prog 144 #[pp bs os,pp bt ot,.slice acounts counts.length ccounts] w (Ret (fun v w' =>∃ (ra0Alive:yOA) (rn0Alive:Nat) (rc0Alive:Nat) (ra0Bags:yOA) (rn0Bags:Nat) (rc0Bags:Nat) (rx0Bags:List Value) (rF0Bags:yLN) (ra0Around:yOA) (rn0Around:Nat) (rc0Around:Nat),v=.tuple #[.agg #[.slice ra0Alive rn0Alive rc0Alive,.slice ra0Bags rn0Bags rc0Bags,.slice ra0Around rn0Around rc0Around],yI ((zA s t counts).2)]∧Fresh w.heap.size [rF0Bags]∧St w w' [rr ra0Alive rn0Alive rc0Alive 4 1 ((((zA s t counts).1).qB).map (Value.bool)),rr ra0Bags rn0Bags rc0Bags 22 1 rx0Bags,rr ra0Around rn0Around rc0Around 2 1 ((((zA s t counts).1).qC).map (Value.int .i64))] [zk true rF0Bags rx0Bags (((zA s t counts).1).qE)]) w):=by
 refine en func144 ntmps144 ?_
 have H:=((((((((St.start w).arg hcounts).arg xK).arg zJ).arg zh).XU ht).arg xG).arg xf).XU hs
 have ve:=qN xf
 have jh:=qN xG
 have yM:=qN zh
 have Qr:=qN zJ
 have jF:=qN xK
 have nhcounts:=qN hcounts
 clear hs xf xG ht zh zJ xK hcounts
 have N:=Fresh.nil w.heap.size
 have p3:=p0.2.1
 have p6:=p2.1
 have p7:=p1.2.1
 have p8:=kinds_le p0
 have p9:=p0.1.2.1
 have p11:jb s=s.qw.length:=rfl
 have p12:=p1.1
 have p15:=p0.1
 have p16:=p0.1.1
 obtain ⟨q7,q8,q9,q10⟩:=p1.sizes p0.1
 have q13:=fun k hk=>Nat.le_trans (q10 k hk) (by decide:8≤1000000)
 have p14:=restR_len (s:=s) (t:=t) (counts:=counts)
 refine zcr (sw (xI H ti38 [yN,yN,yN] fun b1 w2 H=>sp (yI 0) (zjc (sps [pp bs os,pp bt ot,.slice acounts counts.length ccounts] ?_))))
 have sz6:=H.base.size
 refine sw (oc (l03Rest_ok _ s t counts (qF (H.get 0 rfl) 0 3) (H.get 1 rfl).1 (H.get 2 rfl).1 (qF (H.get 3 rfl) 0 3) (H.get 4 rfl).1 (H.get 5 rfl).1 (H.get 6 rfl).1 (H.get 7 rfl).1 qg qg qg) ?_)
 rintro _ w4 ⟨ra3a,rn3a,rc3a,rx3a,rF3a,rfl,M,K⟩ _
 replace N:=N.merge sz6 qm M
 replace H:=H.merge K M
 obtain rfl:=H.zo (α:=yLI) 0 rfl 0 rfl qj
 refine sps [.tuple #[.slice ra3a ((yQ s t counts (Qo (BadAt s t counts) counts.length)).length) rc3a,.bool (dec (IsCh s t counts))],.slice ra3a ((yQ s t counts (Qo (BadAt s t counts) counts.length)).length) rc3a,.bool (dec (IsCh s t counts)),.slice ra3a ((yQ s t counts (Qo (BadAt s t counts) counts.length)).length) rc3a,.bool (dec (IsCh s t counts))] (zjcc (sps [.bool (dec (IsCh s t counts)),.bool (!(dec (IsCh s t counts)))] (zjn (cQ rfl (fun h9=>?_) (fun h9=>?_)))))
 ·skip
  refine zcr (sw (jk [yN,yN,yN] [] (sw (zy H 1 [yN,yN,yN] sizeOf38 fun w10 H=>sp (yI 4) (zjr (t_r ?_))))))
  replace H:=H.nilRowB 4
  replace H:=H.nilRow 22 1
  replace H:=H.vN (α:=yLI)
  replace H:=H.nilRowI 2
  refine retC2 H 4 rfl (yI 4) rfl isAgg38 sizeOf38 rfl rfl ⟨_,rfl,?_,H.base⟩
  rw [stepBy_no ‹_›]
  exact ⟨none,0,0,none,0,0,[],[],none,0,0,rfl,(N.emp.pick [0]),H.pick [2,1,0] [0]⟩
 have st:=stop_none (n:=counts.length) (P:=BadAt s t counts) (‹IsCh s t counts›).1
 have r1:=restR_len (s:=s) (t:=t) (counts:=counts) (Qo (BadAt s t counts) counts.length)
 refine qV (t_n (zcr (sp (pp bt ot) ?_)))
 have sz14:=H.base.size
 have lt15:=H.ltN (L:=[rF3a]) [0]
 refine sw (oc (l02Own_ok _ t (qF (H.get 4 rfl) 0 3) (H.get 5 rfl).1 (H.get 6 rfl).1 (H.get 7 rfl).1 qg qg qg qg) ?_)
 rintro _ w12 ⟨yL,rn11Alive,yK,ra11Bags,rn11Bags,rc11Bags,Vs,yl,ra11Around,rn11Around,rc11Around,rfl,M,K⟩ _
 replace N:=N.merge sz14 lt15 M
 replace H:=H.merge K M
 obtain rfl:=H.rowNB 0 rfl
 obtain rfl:=H.zo (α:=yLI) 1 rfl 0 rfl qj
 obtain rfl:=H.Xk 2 rfl
 refine sw (xI H ti38 [yN,yN,yN] fun b19 w20 H=>sw (zy H 0 (yT t yL yK ra11Bags rc11Bags ra11Around rc11Around) sizeOf38 fun w21 H=>zjc (sp (.slice ra3a ((yQ s t counts (Qo (BadAt s t counts) counts.length)).length) rc3a) (oF rfl (sw (xP H 0 [.slice yL t.qB.length yK,.slice ra3a ((yQ s t counts (Qo (BadAt s t counts) counts.length)).length) rc3a,.slice ra11Around t.qC.length rc11Around] sizeOf27 fun w22 H=>zjcc (sp (yI 0) ?_)))))))
 refine zjn (qY ?_)
 refine zB (fun m' ρ w23=>∃ (xN:Env) (i:Nat) (vX:yOA) (vV:Nat) (vW:Nat) (out_Around:yLI) (rest:yLL) (x_rest:List Value) (F_rest:yLN),ρ=upd (upd (upd (upd (upd (upd xN 0 (pp bs os)) 1 (pp bt ot)) 2 (.slice acounts counts.length ccounts)) 6 (pp b1 0)) 10 (pp b19 0)) 11 (yI i)∧((i:Int)≤counts.length)∧(Ent (s.qw.length+1) (Qj s) (fun p q=>base0 s t p q+needS s counts s.qx.length p q+putS s t counts i p q) (20000000+6000000 * i) (rest++[out_Around]))∧(rest.length=s.qw.length)∧m' =(counts.length - (i:Int)).toNat∧Fresh w.heap.size [yl,F_rest]∧St w w23 [.box b19 [.slice yL t.qB.length yK,.slice ra3a ((yQ s t counts (Qo (BadAt s t counts) counts.length)).length) rc3a,.slice vX vV vW] 38,rr yL t.qB.length yK 4 1 (t.qB.map (Value.bool)),rr ra11Bags t.qE.length rc11Bags 22 1 Vs,rr vX vV vW 2 1 (out_Around.map (Value.int .i64)),rr ra3a ((yQ s t counts (Qo (BadAt s t counts) counts.length)).length) rc3a 22 1 x_rest,.box b1 [yN,yN,yN] 38] [zk true yl Vs t.qE,zk true F_rest x_rest rest,atF bs os (yS s qA qy qK qH),sF false qW qA qy s.qw,sF false xy qK qH s.qx,atF bt ot (yT t qR qO xh qZ qJ qI),sF false xJ qR qO t.qB,sF false zn xh qZ t.qE,sF false xw qJ qI t.qC,sF false Fcounts acounts ccounts counts]) ((counts.length - (0:Int)).toNat) ⟨_,0,ra11Around,t.qC.length,rc11Around,t.qC,yQ s t counts (Qo (BadAt s t counts) counts.length),rx3a,rF3a,uE6,qf,(by rw [st,p6];exact (rest_ent p0 p1 p2).to (fun _ _=>rfl) qf),qf,rfl,N,H⟩ ?_
 clear H N
 rintro m' ρ w24 ⟨xN,i,vX,vV,vW,out_Around,rest,x_rest,F_rest,rfl,i0,E_rest,z_rest,rfl,N,H⟩
 have hn_out_Around:=H.Xk 3 rfl
 have hn_rest:=H.zo (α:=yLI) 4 rfl 1 rfl qj
 refine zcc (sps [yI i,.slice acounts counts.length ccounts] (oN rfl (sp (.bool (decide ((i:Int) < counts.length))) (zjn (cD rfl (fun h25=>?_) (fun h25=>?_))))))
 ·skip
  have q:=p0.rule (i:=i) qf
  have qc:=q.1
  have qk:=q.cell
  have qr:=q.2.1
  have bn1:=q.2.2.2.2.1
  have bn2:=q.2.2.2.2.2.2.2.1
  have bn3:=q.2.2.2.2.2.2.2.2.1
  have ln1:=bn1.len
  have ln2:=bn2.len
  have ln3:=bn3.len
  have p10:=p2.bd (i:=i) qf
  have qn:=q.2.2.2.1
  refine qV (t_n (xU (qY (zcr (sps [pp bs os,pp bs os] (oF rfl (oL rfl (H.xR 2 rfl 2 rfl) (sp (yI i) ?_))))))))
  obtain ⟨b26,o27,rfl⟩:=H.addr 4 rfl qf
  obtain ⟨ae29Need,ce29Need,Fe29Need,ae29Have,ce29Have,Fe29Have,ae29Lack,ce29Lack,Fe29Lack,ae29Here,ce29Here,Fe29Here,ae29Out,ce29Out,Fe29Out,ae29Into,ce29Into,Fe29Into,H⟩:=H.yc 4 rfl i i qf qf qf
  refine oI rfl rfl (sp (pp b26 (o27+(i:Int).toNat * 9)) (zjcc (sps [.slice acounts counts.length ccounts,yI i] ?_)))
  obtain ⟨b30,o31,rfl⟩:=H.addr 16 rfl qf
  refine oI rfl rfl (oL rfl (H.jy 16 rfl i qf qf) (sp (.bool ((counts[i]! :Int) == 0)) (zjn (cE rfl (fun h33=>?_) (fun h33=>?_)))))
  ·skip
   refine c_exit (t_x (b_x (t_n (xX (sp (yI i) (sw (zD i 1 rfl rfl qf (sp (yI (i+1)) (xY (xg (m' :=(counts.length - ((i+1):Int)).toNat) qf ⟨_,i+1,vX,vV,vW,out_Around,rest,x_rest,F_rest,uE6,?_,?_,?_,rfl,N,H.pick [0,1,2,3,4,5] [7,8,9,10,11,12,13,14,15,16]⟩))))))))))
   · omega
   · first | exact E_rest.to (fun p q=>by simp only [putS_skip (s:=s) (t:=t) (counts:=counts) (i:=i) ‹_›]) qf | exact E_out_Bags.to (fun p q=>by rw [show k=((s.qx[i]!).qU).length by omega];simp only [putS,putF];omega) qf
   · omega
  refine qV (t_n (xU ?_))
  refine yY rfl H [0,1,2,3,5] fun H=>?_
  have S:=H.jY [0,1,2,3,5] [0,1,2,3,4,5,6,7,8,9,10,11,12,13,14,15,16]
  refine tF 0 rfl rfl S ?_
  refine tL 1 rfl rfl (fun _ h=>h.cell 0 rfl rfl) S ?_
  refine rtp 2 (pp b26 (o27+(i:Int).toNat * 9)) S ?_
  refine rtp 3 (pp b26 (o27+(i:Int).toNat * 9)) S ?_
  refine tF 4 rfl rfl S ?_
  refine tL 5 rfl rfl (fun _ h=>h.xR 6 rfl 0 rfl) S ?_
  refine tF 6 rfl rfl S ?_
  refine tL 7 rfl rfl (fun _ h=>h.cell 0 rfl rfl) S ?_
  refine rtp 8 (pp b26 (o27+(i:Int).toNat * 9)) S ?_
  refine rtp 9 (pp b26 (o27+(i:Int).toNat * 9)) S ?_
  refine tF 10 rfl rfl S ?_
  refine tL 11 rfl rfl (fun _ h=>h.xR 6 rfl 0 rfl) S ?_
  obtain ⟨b35,rfl⟩:=H.yP 4 rfl qf
  have S:=H.jY [0,1,2,3,5] [0,1,2,3,4,5,6,7,8,9,10,11,12,13,14,15,16]
  refine tI 12 rfl rfl rfl S ?_
  refine rtp 14 (pp b26 (o27+(i:Int).toNat * 9)) S ?_
  refine rtp 15 (pp b26 (o27+(i:Int).toNat * 9)) S ?_
  refine tF 16 rfl rfl S ?_
  refine tL 17 rfl rfl (fun _ h=>h.xR 6 rfl 5 rfl) S ?_
  refine rtp 18 (.slice (aa b30 o31) counts.length ccounts) S ?_
  refine rtp 19 (yI i) S ?_
  refine tI 20 rfl rfl rfl S ?_
  refine tL 21 rfl rfl (fun _ h=>h.yf 16 rfl i qf) S ?_
  refine ro 13 rfl ?_
  obtain ⟨a36,c37,G38,s39,h40,H⟩:=H.jO 4 rfl 8 rfl (iv:=(s.qx[i]!).qG) (((s.qx[i]!).qG).toNat) qf qf
  refine zF (.slice a36 ((rest[((s.qx[i]!).qG).toNat]!).length) c37) isAgg22 rfl (h40) (⟨H.pick [0,1,2,3,5] [1,2,3,4,5,6,7,8,9,10,11,12,13,14,15,16,17],(ro 22 rfl ?_)⟩)
  obtain ⟨u1,u2⟩:=Ent.rowL E_rest (c:=((s.qx[i]!).qG).toNat) qf qf qf qf
  have u4:=(by first | exact bn2.yJ qf | exact bn3.yJ qf | exact bn4.yJ qf:SmallT ((s.qx[i]!).xW) (counts[i]!))
  have sz41:=H.base.size
  have lt42:=H.ltN (L:=[yl,F_rest]) [8,9]
  refine oc (Xi _ (rest[((s.qx[i]!).qG).toNat]!) ((s.qx[i]!).xW) (counts[i]!) (H.get 0 rfl).1 (H.get 4 rfl).1 qg qg qg) ?_
  rintro v46 w44 r46 x45
  replace H:=H.zC x45 r46
  obtain ⟨a47,c48,rfl,hc49,hm50⟩:=H.ji 0 rfl
  refine ⟨H.pick [1,2,3,4,6] [1,2,3,4,5,6,7,8,9,10,11,12,13,14,15,16,17],(tI 23 rfl rfl rfl (H.pick [1,2,3,4,6] [1,2,3,4,5,6,7,8,9,10,11,12,13,14,15,16,17]) ?_)⟩
  refine ro 24 rfl ?_
  obtain ⟨G52,N,hn53,H⟩:=H.vP 0 rfl N (H.yg [8,9])
  refine jB true H 5 rfl 10 rfl (.slice a47 ((vY (rest[((s.qx[i]!).qG).toNat]!) ((s.qx[i]!).xW) (counts[i]!)).length) c48) 0 rfl rfl sizeOf22 rfl rfl (i:=(((s.qx[i]!).qG).toNat)) qf qf qm fun w51 xs54 F55 hs56 H=>?_
  replace N:Fresh w.heap.size [F55,yl]:=(N.pick [2,0,1]).repl hs56
  refine ⟨H.pick [1,2,3,4,6] [3,4,5,6,7,8,9,10,11,12,13,14,15,16,17,18,19],(xH qh (t_n (zcc (sps [pp b26 (o27+(i:Int).toNat * 9),pp b26 (o27+(i:Int).toNat * 9)] (oF rfl (oL rfl (H.xR 9 rfl 0 rfl) (sp (.bool (((s.qx[i]!).qG:Int) == 0)) (zjn (cE rfl (fun h57=>?_) (fun h57=>?_))))))))))⟩
  ·skip
   obtain ⟨bg58,e_bg58⟩:∃ z,z=(rest.set (((s.qx[i]!).qG).toNat) (vY (rest[((s.qx[i]!).qG).toNat]!) ((s.qx[i]!).xW) (counts[i]!))):=⟨_,rfl⟩
   rw [← e_bg58] at H
   have E_bg58:=Ent.addL (D:=1000000) E_rest e_bg58 qf qf (by first | exact bn2.mul qf | exact bn3.mul qf | exact bn4.mul qf) qf
   have z_bg58:bg58.length=s.qw.length:=by rw [e_bg58,List.length_set];omega
   have E_cur:=E_bg58
   refine yY rfl H [0,2,3,4,5,6] fun H=>?_
   have S:=H.jY [0,2,3,4,5,6] [0,1,2,3,4,5,6,7,8,9,10,11,12,13,14,15,16,17,18,19]
   refine tF 0 rfl rfl S ?_
   refine rtp 2 (pp b26 (o27+(i:Int).toNat * 9)) S ?_
   refine rtp 3 (pp b26 (o27+(i:Int).toNat * 9)) S ?_
   refine tF 4 rfl rfl S ?_
   refine tL 5 rfl rfl (fun _ h=>h.xR 9 rfl 6 rfl) S ?_
   refine rtp 6 (.slice (aa b30 o31) counts.length ccounts) S ?_
   refine rtp 7 (yI i) S ?_
   refine tI 8 rfl rfl rfl S ?_
   refine tL 9 rfl rfl (fun _ h=>h.yf 19 rfl i qf) S ?_
   refine ro 1 rfl (zF (.slice vX vV vW) isAgg22 rfl (H.cell 1 rfl rfl) (⟨H.pick [0,2,3,4,5,6] [0,1,2,3,4,5,6,7,8,9,10,11,12,13,14,15,16,17,18,19],(ro 10 rfl ?_)⟩))
   obtain ⟨G60,hn61,h62⟩:=H.rowIsI 4 rfl
   obtain ⟨u1,u2⟩:=Ent.rowN E_bg58 qf qf qf
   have u4:=(by first | exact bn2.yJ qf | exact bn3.yJ qf | exact bn4.yJ qf:SmallT ((s.qx[i]!).vC) (counts[i]!))
   have sz63:=H.base.size
   have lt64:=H.ltN (L:=[F55,yl]) [0,10]
   refine oc (args_eq (by rw [← hn61]) (Xi _ out_Around ((s.qx[i]!).vC) (counts[i]!) (hn61▸h62) (H.get 7 rfl).1 qg qg qg)) ?_
   rintro v68 w66 r68 x67
   replace H:=H.zC x67 r68
   obtain ⟨a69,c70,rfl,hc71,hm72⟩:=H.ji 0 rfl
   refine ⟨H.pick [1,3,4,5,6,7] [0,1,2,3,4,5,6,7,8,9,10,11,12,13,14,15,16,17,18,19],(tF 11 rfl rfl (H.pick [1,3,4,5,6,7] [0,1,2,3,4,5,6,7,8,9,10,11,12,13,14,15,16,17,18,19]) ?_)⟩
   refine ro 12 rfl (xP H 2 [.slice yL t.qB.length yK,.slice (aa b35 0) ((yQ s t counts (Qo (BadAt s t counts) counts.length)).length) rc3a,.slice a69 ((vY out_Around ((s.qx[i]!).vC) (counts[i]!)).length) c70] sizeOf22 fun w73 H=>⟨H.pick [1,3,4,5,6,7] [0,1,2,3,4,5,6,7,8,9,10,11,12,13,14,15,16,17,18,19],(xH qh (t_n (zcr (sp (yI 0) (zjn (qY ?_))))))⟩)
   replace E_bg58:=Ent.addN (D:=1000000) (a' :=vY out_Around ((s.qx[i]!).vC) (counts[i]!)) E_bg58 rfl qf (by first | exact bn2.mul qf | exact bn3.mul qf | exact bn4.mul qf) qf
   have E_cur:=E_bg58
   refine zB (fun m' ρ w74=>∃ (xN:Env) (k:Nat) (out_Bags:yLL) (zN:List Value) (zf:yLN),ρ=upd (upd (upd (upd (upd (upd (upd (upd xN 0 (pp bs os)) 1 (pp bt ot)) 2 (.slice (aa b30 o31) counts.length ccounts)) 6 (pp b1 0)) 10 (pp b19 0)) 11 (yI i)) 12 (pp b26 (o27+(i:Int).toNat * 9))) 14 (yI k)∧((k:Int)≤(((s.qx[i]!).qU).length))∧(Ent (s.qw.length+1) (Qj s) (fun p q=>base0 s t p q+needS s counts s.qx.length p q+putS s t counts i p q+at' p (s.qx[i]!).qG.toNat (counts[i]! * ((s.qx[i]!).xW)[q]!)+at' p (outPl s t (s.qx[i]!)) (counts[i]! * ((s.qx[i]!).vC)[q]!)+intoF (s.qx[i]!) (counts[i]!) k p q) (22000000+6000000 * i+1000000 * k) (out_Bags++[vY out_Around ((s.qx[i]!).vC) (counts[i]!)]))∧(out_Bags.length=s.qw.length)∧m' =((((s.qx[i]!).qU).length) - (k:Int)).toNat∧Fresh w.heap.size [yl,zf]∧St w w74 [rr a69 ((vY out_Around ((s.qx[i]!).vC) (counts[i]!)).length) c70 2 1 ((vY out_Around ((s.qx[i]!).vC) (counts[i]!)).map (Value.int .i64)),.box b19 [.slice yL t.qB.length yK,.slice (aa b35 0) ((yQ s t counts (Qo (BadAt s t counts) counts.length)).length) rc3a,.slice a69 ((vY out_Around ((s.qx[i]!).vC) (counts[i]!)).length) c70] 38,rr yL t.qB.length yK 4 1 (t.qB.map (Value.bool)),rr ra11Bags t.qE.length rc11Bags 22 1 Vs,rr vX vV vW 2 1 (out_Around.map (Value.int .i64)),rr (aa b35 0) ((yQ s t counts (Qo (BadAt s t counts) counts.length)).length) rc3a 22 1 zN,.box b1 [yN,yN,yN] 38] [zk true zf zN out_Bags,sF false Fe29Need ae29Need ce29Need ((s.qx[i]!).xE),sF false Fe29Have ae29Have ce29Have ((s.qx[i]!).xM),sF false Fe29Lack ae29Lack ce29Lack ((s.qx[i]!).xO),sF false Fe29Here ae29Here ce29Here ((s.qx[i]!).xW),sF false Fe29Out ae29Out ce29Out ((s.qx[i]!).vC),sF false Fe29Into ae29Into ce29Into ((s.qx[i]!).qU),atF b26 (o27+(i:Int).toNat * 9) [yI ((s.qx[i]!).qG),yI ((s.qx[i]!).zM),.slice ae29Need (((s.qx[i]!).xE).length) ce29Need,.slice ae29Have (((s.qx[i]!).xM).length) ce29Have,.slice ae29Lack (((s.qx[i]!).xO).length) ce29Lack,.slice ae29Here (((s.qx[i]!).xW).length) ce29Here,.slice ae29Out (((s.qx[i]!).vC).length) ce29Out,.slice ae29Into (((s.qx[i]!).qU).length) ce29Into,.bool ((s.qx[i]!).zG)],zk true yl Vs t.qE,atF bs os [yI s.xB,.slice qA s.qw.length qy,.slice (aa b26 o27) s.qx.length qH],sF false qW qA qy s.qw,sF false xy (aa b26 o27) qH s.qx,atF bt ot (yT t qR qO xh qZ qJ qI),sF false xJ qR qO t.qB,sF false zn xh qZ t.qE,sF false xw qJ qI t.qC,sF false Fcounts (aa b30 o31) ccounts counts]) (((((s.qx[i]!).qU).length) - (0:Int)).toNat) ⟨_,0,bg58,xs54,F55,uE8,qf,(by exact E_cur.to (fun p q=>by first | (simp only [intoF,outPl_root (s:=s) (t:=t) (r:=s.qx[i]!) ‹_›,jb];omega) | (simp only [intoF,outPl_up (s:=s) (t:=t) (r:=s.qx[i]!) ‹_›];omega)) qf),qf,rfl,(N.pick [1,0]),H.pick [0,2,3,4,5,6,7] [0,3,4,5,6,7,8,9,10,12,13,14,15,16,17,18,19]⟩ ?_
   clear H N
   rintro m' ρ w75 ⟨xN,k,out_Bags,zN,zf,rfl,i0,E_out_Bags,z_out_Bags,rfl,N,H⟩
   have VB:=H.zo (α:=yLI) 5 rfl 0 rfl qj
   refine zcc (sps [yI k,pp b26 (o27+(i:Int).toNat * 9),pp b26 (o27+(i:Int).toNat * 9)] (oF rfl (oL rfl (H.xR 7 rfl 7 rfl) (oN rfl (sp (.bool (decide ((k:Int) < (((s.qx[i]!).qU).length)))) (zjn (cD rfl (fun h76=>?_) (fun h76=>?_))))))))
   ·skip
    have qi:=q.2.2.2.2.2.2.2.2.2.2 k qf
    have qi1:=qi.1
    have bn4:=qi.2.2.1
    have ln4:=bn4.len
    refine qV (t_n (xU (qY (zcr (sps [pp b26 (o27+(i:Int).toNat * 9),pp b26 (o27+(i:Int).toNat * 9)] (oF rfl (oL rfl (H.xR 7 rfl 7 rfl) (sp (yI k) ?_))))))))
    obtain ⟨b77,o78,rfl⟩:=H.addr 6 rfl qf
    obtain ⟨ae80Bag,ce80Bag,Fe80Bag,H⟩:=H.jJ 6 rfl k k qf qf qf
    refine oI rfl rfl (oF rfl (oL rfl (H.xR 1 rfl 0 rfl) (sp (yI ((((s.qx[i]!).qU)[k]!).qG)) (zjn ?_))))
    refine yY rfl H [0,1,2,3,4,6] fun H=>?_
    have S:=H.jY [0,1,2,3,4,6] [0,1,2,3,4,5,6,7,8,9,10,11,12,13,14,15,16,17,18]
    refine tF 0 rfl rfl S ?_
    refine tL 1 rfl rfl (fun _ h=>h.cell 1 rfl rfl) S ?_
    refine rtp 2 (yI ((((s.qx[i]!).qU)[k]!).qG)) S ?_
    refine tF 3 rfl rfl S ?_
    refine tL 4 rfl rfl (fun _ h=>h.cell 1 rfl rfl) S ?_
    refine rtp 5 (yI ((((s.qx[i]!).qU)[k]!).qG)) S ?_
    refine tI 6 rfl rfl rfl S ?_
    refine rtp 8 (pp b26 (o27+(i:Int).toNat * 9)) S ?_
    refine rtp 9 (pp b26 (o27+(i:Int).toNat * 9)) S ?_
    refine tF 10 rfl rfl S ?_
    refine tL 11 rfl rfl (fun _ h=>h.xR 9 rfl 7 rfl) S ?_
    refine rtp 12 (yI k) S ?_
    refine tI 13 rfl rfl rfl S ?_
    refine tF 14 rfl rfl S ?_
    refine tL 15 rfl rfl (fun _ h=>h.xR 1 rfl 1 rfl) S ?_
    refine rtp 16 (.slice (aa b30 o31) counts.length ccounts) S ?_
    refine rtp 17 (yI i) S ?_
    refine tI 18 rfl rfl rfl S ?_
    refine tL 19 rfl rfl (fun _ h=>h.yf 18 rfl i qf) S ?_
    refine ro 7 rfl ?_
    obtain ⟨a82,c83,G84,s85,h86,H⟩:=H.jO 5 rfl 2 rfl (iv:=(((s.qx[i]!).qU)[k]!).qG) (((((s.qx[i]!).qU)[k]!).qG).toNat) qf qf
    refine zF (.slice a82 ((out_Bags[((((s.qx[i]!).qU)[k]!).qG).toNat]!).length) c83) isAgg22 rfl (h86) (⟨H.pick [0,1,2,3,4,6] [1,2,3,4,5,6,7,8,9,10,11,12,13,14,15,16,17,18,19],(ro 20 rfl ?_)⟩)
    obtain ⟨u1,u2⟩:=Ent.rowL E_out_Bags (c:=((((s.qx[i]!).qU)[k]!).qG).toNat) qf qf qf qf
    have u4:=(by first | exact bn2.yJ qf | exact bn3.yJ qf | exact bn4.yJ qf:SmallT ((((s.qx[i]!).qU)[k]!).jE) (counts[i]!))
    have sz87:=H.base.size
    have lt88:=H.ltN (L:=[yl,zf]) [11,3]
    refine oc (Xi _ (out_Bags[((((s.qx[i]!).qU)[k]!).qG).toNat]!) ((((s.qx[i]!).qU)[k]!).jE) (counts[i]!) (H.get 0 rfl).1 (H.get 1 rfl).1 qg qg qg) ?_
    rintro v92 w90 r92 x91
    replace H:=H.zC x91 r92
    obtain ⟨a93,c94,rfl,hc95,hm96⟩:=H.ji 0 rfl
    refine ⟨H.pick [1,2,3,4,5,7] [1,2,3,4,5,6,7,8,9,10,11,12,13,14,15,16,17,18,19],(tI 21 rfl rfl rfl (H.pick [1,2,3,4,5,7] [1,2,3,4,5,6,7,8,9,10,11,12,13,14,15,16,17,18,19]) ?_)⟩
    refine ro 22 rfl ?_
    obtain ⟨G98,N,hn99,H⟩:=H.vP 0 rfl N (H.yg [11,3])
    refine jB true H 6 rfl 4 rfl (.slice a93 ((vY (out_Bags[((((s.qx[i]!).qU)[k]!).qG).toNat]!) ((((s.qx[i]!).qU)[k]!).jE) (counts[i]!)).length) c94) 0 rfl rfl sizeOf22 rfl rfl (i:=(((((s.qx[i]!).qU)[k]!).qG).toNat)) qf qf qm fun w97 xs100 F101 hs102 H=>?_
    replace N:Fresh w.heap.size [F101,yl]:=(N.pick [2,0,1]).repl hs102
    refine ⟨H.pick [1,2,3,4,5,7] [3,4,5,6,7,8,9,10,11,12,13,14,15,16,17,18,19,20,21],(xH qh (b_n (t_n (xX (sp (yI k) (sw (zD k 1 rfl rfl qf (sp (yI (k+1)) (xY ?_)))))))))⟩
    obtain ⟨bg103,e_bg103⟩:∃ z,z=(out_Bags.set (((((s.qx[i]!).qU)[k]!).qG).toNat) (vY (out_Bags[((((s.qx[i]!).qU)[k]!).qG).toNat]!) ((((s.qx[i]!).qU)[k]!).jE) (counts[i]!))):=⟨_,rfl⟩
    rw [← e_bg103] at H
    have E_bg103:=Ent.addL (D:=1000000) E_out_Bags e_bg103 qf qf (by first | exact bn2.mul qf | exact bn3.mul qf | exact bn4.mul qf) qf
    have z_bg103:bg103.length=s.qw.length:=by rw [e_bg103,List.length_set];omega
    have E_cur:=E_bg103
    refine xg (m' :=((((s.qx[i]!).qU).length) - ((k+1):Int)).toNat) qf ⟨_,k+1,bg103,xs100,F101,uE8,?_,?_,?_,rfl,(N.pick [1,0]),H.pick [1,2,3,4,5,6,7] [0,6,7,8,9,10,11,12,13,14,15,16,17,18,19,20,21]⟩
    · omega
    · exact E_cur.to (fun p q=>by simp only [intoF];omega) qf
    · omega
   refine c_exit (t_x (t_x (b_x (b_n (t_n (xX (sp (yI i) (sw (zD i 1 rfl rfl qf (sp (yI (i+1)) (xY (xg (m' :=(counts.length - ((i+1):Int)).toNat) qf ⟨_,i+1,a69,(vY out_Around ((s.qx[i]!).vC) (counts[i]!)).length,c70,vY out_Around ((s.qx[i]!).vC) (counts[i]!),out_Bags,zN,zf,uE6,?_,?_,?_,rfl,N,H.pick [1,2,3,0,5,6] [8,0,9,10,11,12,13,14,15,16]⟩))))))))))))
   · omega
   · first | exact E_rest.to (fun p q=>by simp only [putS_skip (s:=s) (t:=t) (counts:=counts) (i:=i) ‹_›]) qf | exact E_out_Bags.to (fun p q=>by rw [show k=((s.qx[i]!).qU).length by omega];simp only [putS,putF];omega) qf
   · omega
  obtain ⟨bg104,e_bg104⟩:∃ z,z=(rest.set (((s.qx[i]!).qG).toNat) (vY (rest[((s.qx[i]!).qG).toNat]!) ((s.qx[i]!).xW) (counts[i]!))):=⟨_,rfl⟩
  rw [← e_bg104] at H
  have E_bg104:=Ent.addL (D:=1000000) E_rest e_bg104 qf qf (by first | exact bn2.mul qf | exact bn3.mul qf | exact bn4.mul qf) qf
  have z_bg104:bg104.length=s.qw.length:=by rw [e_bg104,List.length_set];omega
  have E_cur:=E_bg104
  refine zcr (sps [pp bs os,pp bt ot,pp b26 (o27+(i:Int).toNat * 9),pp b26 (o27+(i:Int).toNat * 9)] (oF rfl (oL rfl (H.xR 9 rfl 0 rfl) (sw (oq (l02Parent_ok _ s t ((s.qx[i]!).qG) (qF (H.get 12 rfl) 0 3) (H.get 13 rfl).1 (H.get 14 rfl).1 (qF (H.get 15 rfl) 0 3) (H.get 16 rfl).1 (H.get 17 rfl).1 (H.get 18 rfl).1 ql ql ql) H fun w105 H=>?_)))))
  have pin:=VH (s:=s) (t:=t) (c:=((s.qx[i]!).qG)) p0.1 p1.2.2.1 qf qf
  refine sp (yI (xx s t ((s.qx[i]!).qG))) (zjn ?_)
  refine yY rfl H [0,1,2,3,4,6] fun H=>?_
  have S:=H.jY [0,1,2,3,4,6] [0,1,2,3,4,5,6,7,8,9,10,11,12,13,14,15,16,17,18,19]
  refine tF 0 rfl rfl S ?_
  refine tL 1 rfl rfl (fun _ h=>h.cell 1 rfl rfl) S ?_
  refine rtp 2 (yI (xx s t ((s.qx[i]!).qG))) S ?_
  refine tF 3 rfl rfl S ?_
  refine tL 4 rfl rfl (fun _ h=>h.cell 1 rfl rfl) S ?_
  refine rtp 5 (yI (xx s t ((s.qx[i]!).qG))) S ?_
  refine tI 6 rfl rfl rfl S ?_
  refine rtp 8 (pp b26 (o27+(i:Int).toNat * 9)) S ?_
  refine rtp 9 (pp b26 (o27+(i:Int).toNat * 9)) S ?_
  refine tF 10 rfl rfl S ?_
  refine tL 11 rfl rfl (fun _ h=>h.xR 9 rfl 6 rfl) S ?_
  refine rtp 12 (.slice (aa b30 o31) counts.length ccounts) S ?_
  refine rtp 13 (yI i) S ?_
  refine tI 14 rfl rfl rfl S ?_
  refine tL 15 rfl rfl (fun _ h=>h.yf 19 rfl i qf) S ?_
  refine ro 7 rfl ?_
  obtain ⟨a108,c109,G110,s111,h112,H⟩:=H.jO 5 rfl 0 rfl (iv:=xx s t ((s.qx[i]!).qG)) ((xx s t ((s.qx[i]!).qG)).toNat) qf qf
  refine zF (.slice a108 ((bg104[(xx s t ((s.qx[i]!).qG)).toNat]!).length) c109) isAgg22 rfl (h112) (⟨H.pick [0,1,2,3,4,6] [1,2,3,4,5,6,7,8,9,10,11,12,13,14,15,16,17,18,19,20],(ro 16 rfl ?_)⟩)
  obtain ⟨u1,u2⟩:=Ent.rowL E_bg104 (c:=(xx s t ((s.qx[i]!).qG)).toNat) qf qf qf qf
  have u4:=(by first | exact bn2.yJ qf | exact bn3.yJ qf | exact bn4.yJ qf:SmallT ((s.qx[i]!).vC) (counts[i]!))
  have sz113:=H.base.size
  have lt114:=H.ltN (L:=[F55,yl]) [1,11]
  refine oc (Xi _ (bg104[(xx s t ((s.qx[i]!).qG)).toNat]!) ((s.qx[i]!).vC) (counts[i]!) (H.get 0 rfl).1 (H.get 8 rfl).1 qg qg qg) ?_
  rintro v118 w116 r118 x117
  replace H:=H.zC x117 r118
  obtain ⟨a119,c120,rfl,hc121,hm122⟩:=H.ji 0 rfl
  refine ⟨H.pick [1,2,3,4,5,7] [1,2,3,4,5,6,7,8,9,10,11,12,13,14,15,16,17,18,19,20],(tI 17 rfl rfl rfl (H.pick [1,2,3,4,5,7] [1,2,3,4,5,6,7,8,9,10,11,12,13,14,15,16,17,18,19,20]) ?_)⟩
  refine ro 18 rfl ?_
  obtain ⟨G124,N,hn125,H⟩:=H.vP 0 rfl N (H.yg [1,11])
  refine jB true H 6 rfl 2 rfl (.slice a119 ((vY (bg104[(xx s t ((s.qx[i]!).qG)).toNat]!) ((s.qx[i]!).vC) (counts[i]!)).length) c120) 0 rfl rfl sizeOf22 rfl rfl (i:=((xx s t ((s.qx[i]!).qG)).toNat)) qf qf qm fun w123 xs126 F127 hs128 H=>?_
  replace N:Fresh w.heap.size [F127,yl]:=(N.pick [1,0,2]).repl hs128
  refine ⟨H.pick [1,2,3,4,5,7] [3,4,5,6,7,8,9,10,11,12,13,14,15,16,17,18,19,20,21,22],(xH qh (t_n (zcr (sp (yI 0) (zjn (qY ?_))))))⟩
  obtain ⟨bg129,e_bg129⟩:∃ z,z=(bg104.set ((xx s t ((s.qx[i]!).qG)).toNat) (vY (bg104[(xx s t ((s.qx[i]!).qG)).toNat]!) ((s.qx[i]!).vC) (counts[i]!))):=⟨_,rfl⟩
  rw [← e_bg129] at H
  have E_bg129:=Ent.addL (D:=1000000) E_bg104 e_bg129 qf qf (by first | exact bn2.mul qf | exact bn3.mul qf | exact bn4.mul qf) qf
  have z_bg129:bg129.length=s.qw.length:=by rw [e_bg129,List.length_set];omega
  have E_cur:=E_bg129
  refine zB (fun m' ρ w130=>∃ (xN:Env) (k:Nat) (out_Bags:yLL) (zN:List Value) (zf:yLN),ρ=upd (upd (upd (upd (upd (upd (upd (upd xN 0 (pp bs os)) 1 (pp bt ot)) 2 (.slice (aa b30 o31) counts.length ccounts)) 6 (pp b1 0)) 10 (pp b19 0)) 11 (yI i)) 12 (pp b26 (o27+(i:Int).toNat * 9))) 14 (yI k)∧((k:Int)≤(((s.qx[i]!).qU).length))∧(Ent (s.qw.length+1) (Qj s) (fun p q=>base0 s t p q+needS s counts s.qx.length p q+putS s t counts i p q+at' p (s.qx[i]!).qG.toNat (counts[i]! * ((s.qx[i]!).xW)[q]!)+at' p (outPl s t (s.qx[i]!)) (counts[i]! * ((s.qx[i]!).vC)[q]!)+intoF (s.qx[i]!) (counts[i]!) k p q) (22000000+6000000 * i+1000000 * k) (out_Bags++[out_Around]))∧(out_Bags.length=s.qw.length)∧m' =((((s.qx[i]!).qU).length) - (k:Int)).toNat∧Fresh w.heap.size [yl,zf]∧St w w130 [.box b19 [.slice yL t.qB.length yK,.slice (aa b35 0) ((yQ s t counts (Qo (BadAt s t counts) counts.length)).length) rc3a,.slice vX vV vW] 38,rr yL t.qB.length yK 4 1 (t.qB.map (Value.bool)),rr ra11Bags t.qE.length rc11Bags 22 1 Vs,rr vX vV vW 2 1 (out_Around.map (Value.int .i64)),rr (aa b35 0) ((yQ s t counts (Qo (BadAt s t counts) counts.length)).length) rc3a 22 1 zN,.box b1 [yN,yN,yN] 38] [zk true zf zN out_Bags,sF false Fe29Need ae29Need ce29Need ((s.qx[i]!).xE),sF false Fe29Have ae29Have ce29Have ((s.qx[i]!).xM),sF false Fe29Lack ae29Lack ce29Lack ((s.qx[i]!).xO),sF false Fe29Here ae29Here ce29Here ((s.qx[i]!).xW),sF false Fe29Out ae29Out ce29Out ((s.qx[i]!).vC),sF false Fe29Into ae29Into ce29Into ((s.qx[i]!).qU),atF b26 (o27+(i:Int).toNat * 9) [yI ((s.qx[i]!).qG),yI ((s.qx[i]!).zM),.slice ae29Need (((s.qx[i]!).xE).length) ce29Need,.slice ae29Have (((s.qx[i]!).xM).length) ce29Have,.slice ae29Lack (((s.qx[i]!).xO).length) ce29Lack,.slice ae29Here (((s.qx[i]!).xW).length) ce29Here,.slice ae29Out (((s.qx[i]!).vC).length) ce29Out,.slice ae29Into (((s.qx[i]!).qU).length) ce29Into,.bool ((s.qx[i]!).zG)],zk true yl Vs t.qE,atF bs os [yI s.xB,.slice qA s.qw.length qy,.slice (aa b26 o27) s.qx.length qH],sF false qW qA qy s.qw,sF false xy (aa b26 o27) qH s.qx,atF bt ot (yT t qR qO xh qZ qJ qI),sF false xJ qR qO t.qB,sF false zn xh qZ t.qE,sF false xw qJ qI t.qC,sF false Fcounts (aa b30 o31) ccounts counts]) (((((s.qx[i]!).qU).length) - (0:Int)).toNat) ⟨_,0,bg129,xs126,F127,uE8,qf,(by exact E_cur.to (fun p q=>by first | (simp only [intoF,outPl_root (s:=s) (t:=t) (r:=s.qx[i]!) ‹_›,jb];omega) | (simp only [intoF,outPl_up (s:=s) (t:=t) (r:=s.qx[i]!) ‹_›];omega)) qf),qf,rfl,(N.pick [1,0]),H.pick [2,3,4,5,6,7] [0,6,7,8,9,10,11,12,13,15,16,17,18,19,20,21,22]⟩ ?_
  clear H N
  rintro m' ρ w131 ⟨xN,k,out_Bags,zN,zf,rfl,i0,E_out_Bags,z_out_Bags,rfl,N,H⟩
  have VB:=H.zo (α:=yLI) 4 rfl 0 rfl qj
  refine zcc (sps [yI k,pp b26 (o27+(i:Int).toNat * 9),pp b26 (o27+(i:Int).toNat * 9)] (oF rfl (oL rfl (H.xR 7 rfl 7 rfl) (oN rfl (sp (.bool (decide ((k:Int) < (((s.qx[i]!).qU).length)))) (zjn (cD rfl (fun h132=>?_) (fun h132=>?_))))))))
  ·skip
   have qi:=q.2.2.2.2.2.2.2.2.2.2 k qf
   have qi1:=qi.1
   have bn4:=qi.2.2.1
   have ln4:=bn4.len
   refine qV (t_n (xU (qY (zcr (sps [pp b26 (o27+(i:Int).toNat * 9),pp b26 (o27+(i:Int).toNat * 9)] (oF rfl (oL rfl (H.xR 7 rfl 7 rfl) (sp (yI k) ?_))))))))
   obtain ⟨b133,o134,rfl⟩:=H.addr 6 rfl qf
   obtain ⟨ae136Bag,ce136Bag,Fe136Bag,H⟩:=H.jJ 6 rfl k k qf qf qf
   refine oI rfl rfl (oF rfl (oL rfl (H.xR 1 rfl 0 rfl) (sp (yI ((((s.qx[i]!).qU)[k]!).qG)) (zjn ?_))))
   refine yY rfl H [0,1,2,3,5] fun H=>?_
   have S:=H.jY [0,1,2,3,5] [0,1,2,3,4,5,6,7,8,9,10,11,12,13,14,15,16,17,18]
   refine tF 0 rfl rfl S ?_
   refine tL 1 rfl rfl (fun _ h=>h.cell 0 rfl rfl) S ?_
   refine rtp 2 (yI ((((s.qx[i]!).qU)[k]!).qG)) S ?_
   refine tF 3 rfl rfl S ?_
   refine tL 4 rfl rfl (fun _ h=>h.cell 0 rfl rfl) S ?_
   refine rtp 5 (yI ((((s.qx[i]!).qU)[k]!).qG)) S ?_
   refine tI 6 rfl rfl rfl S ?_
   refine rtp 8 (pp b26 (o27+(i:Int).toNat * 9)) S ?_
   refine rtp 9 (pp b26 (o27+(i:Int).toNat * 9)) S ?_
   refine tF 10 rfl rfl S ?_
   refine tL 11 rfl rfl (fun _ h=>h.xR 9 rfl 7 rfl) S ?_
   refine rtp 12 (yI k) S ?_
   refine tI 13 rfl rfl rfl S ?_
   refine tF 14 rfl rfl S ?_
   refine tL 15 rfl rfl (fun _ h=>h.xR 1 rfl 1 rfl) S ?_
   refine rtp 16 (.slice (aa b30 o31) counts.length ccounts) S ?_
   refine rtp 17 (yI i) S ?_
   refine tI 18 rfl rfl rfl S ?_
   refine tL 19 rfl rfl (fun _ h=>h.yf 18 rfl i qf) S ?_
   refine ro 7 rfl ?_
   obtain ⟨a138,c139,G140,s141,h142,H⟩:=H.jO 4 rfl 2 rfl (iv:=(((s.qx[i]!).qU)[k]!).qG) (((((s.qx[i]!).qU)[k]!).qG).toNat) qf qf
   refine zF (.slice a138 ((out_Bags[((((s.qx[i]!).qU)[k]!).qG).toNat]!).length) c139) isAgg22 rfl (h142) (⟨H.pick [0,1,2,3,5] [1,2,3,4,5,6,7,8,9,10,11,12,13,14,15,16,17,18,19],(ro 20 rfl ?_)⟩)
   obtain ⟨u1,u2⟩:=Ent.rowL E_out_Bags (c:=((((s.qx[i]!).qU)[k]!).qG).toNat) qf qf qf qf
   have u4:=(by first | exact bn2.yJ qf | exact bn3.yJ qf | exact bn4.yJ qf:SmallT ((((s.qx[i]!).qU)[k]!).jE) (counts[i]!))
   have sz143:=H.base.size
   have lt144:=H.ltN (L:=[yl,zf]) [11,3]
   refine oc (Xi _ (out_Bags[((((s.qx[i]!).qU)[k]!).qG).toNat]!) ((((s.qx[i]!).qU)[k]!).jE) (counts[i]!) (H.get 0 rfl).1 (H.get 1 rfl).1 qg qg qg) ?_
   rintro v148 w146 r148 x147
   replace H:=H.zC x147 r148
   obtain ⟨a149,c150,rfl,hc151,hm152⟩:=H.ji 0 rfl
   refine ⟨H.pick [1,2,3,4,6] [1,2,3,4,5,6,7,8,9,10,11,12,13,14,15,16,17,18,19],(tI 21 rfl rfl rfl (H.pick [1,2,3,4,6] [1,2,3,4,5,6,7,8,9,10,11,12,13,14,15,16,17,18,19]) ?_)⟩
   refine ro 22 rfl ?_
   obtain ⟨G154,N,hn155,H⟩:=H.vP 0 rfl N (H.yg [11,3])
   refine jB true H 5 rfl 4 rfl (.slice a149 ((vY (out_Bags[((((s.qx[i]!).qU)[k]!).qG).toNat]!) ((((s.qx[i]!).qU)[k]!).jE) (counts[i]!)).length) c150) 0 rfl rfl sizeOf22 rfl rfl (i:=(((((s.qx[i]!).qU)[k]!).qG).toNat)) qf qf qm fun w153 xs156 F157 hs158 H=>?_
   replace N:Fresh w.heap.size [F157,yl]:=(N.pick [2,0,1]).repl hs158
   refine ⟨H.pick [1,2,3,4,6] [3,4,5,6,7,8,9,10,11,12,13,14,15,16,17,18,19,20,21],(xH qh (b_n (t_n (xX (sp (yI k) (sw (zD k 1 rfl rfl qf (sp (yI (k+1)) (xY ?_)))))))))⟩
   obtain ⟨bg159,e_bg159⟩:∃ z,z=(out_Bags.set (((((s.qx[i]!).qU)[k]!).qG).toNat) (vY (out_Bags[((((s.qx[i]!).qU)[k]!).qG).toNat]!) ((((s.qx[i]!).qU)[k]!).jE) (counts[i]!))):=⟨_,rfl⟩
   rw [← e_bg159] at H
   have E_bg159:=Ent.addL (D:=1000000) E_out_Bags e_bg159 qf qf (by first | exact bn2.mul qf | exact bn3.mul qf | exact bn4.mul qf) qf
   have z_bg159:bg159.length=s.qw.length:=by rw [e_bg159,List.length_set];omega
   have E_cur:=E_bg159
   refine xg (m' :=((((s.qx[i]!).qU).length) - ((k+1):Int)).toNat) qf ⟨_,k+1,bg159,xs156,F157,uE8,?_,?_,?_,rfl,(N.pick [1,0]),H.pick [1,2,3,4,5,6] [0,6,7,8,9,10,11,12,13,14,15,16,17,18,19,20,21]⟩
   · omega
   · exact E_cur.to (fun p q=>by simp only [intoF];omega) qf
   · omega
  refine c_exit (t_x (t_x (b_x (b_n (t_n (xX (sp (yI i) (sw (zD i 1 rfl rfl qf (sp (yI (i+1)) (xY (xg (m' :=(counts.length - ((i+1):Int)).toNat) qf ⟨_,i+1,vX,vV,vW,out_Around,out_Bags,zN,zf,uE6,?_,?_,?_,rfl,N,H.pick [0,1,2,3,4,5] [8,0,9,10,11,12,13,14,15,16]⟩))))))))))))
  · omega
  · first | exact E_rest.to (fun p q=>by simp only [putS_skip (s:=s) (t:=t) (counts:=counts) (i:=i) ‹_›]) qf | exact E_out_Bags.to (fun p q=>by rw [show k=((s.qx[i]!).qU).length by omega];simp only [putS,putF];omega) qf
  · omega
 refine zx4 (zcc (sps [pp bs os,pp bs os] (oF rfl (oL rfl (H.xR 2 rfl 1 rfl) (oN rfl (sw (o_sub s.qw.length 1 rfl rfl qf (sp (yI (s.qw.length - 1)) (zjn (qY ?_))))))))))
 obtain rfl:i=s.qx.length:=by omega
 have hl:=stepped_live (counts:=counts) p1 (E_rest.to (g:=fun p k=>base0 s t p k+allS s t counts s.qx.length p k) (fun p k=>by rw [allS_eq];omega) (Int.le_refl _)) qf
 obtain ⟨s1,s2⟩:=step_tab2 qf E_rest
 subst s1 s2
 refine zB (fun m' ρ w160=>∃ (xN:Env) (c:Int) (out_Alive:List Bool) (out_Bags:yLL) (zN:List Value) (zf:yLN) (j:Nat),ρ=upd (upd (upd (upd (upd xN 0 (pp bs os)) 2 (.slice acounts counts.length ccounts)) 6 (pp b1 0)) 10 (pp b19 0)) 16 (yI c)∧out_Alive=(xm s counts (xu s t counts) j).qB∧out_Bags=(xm s counts (xu s t counts) j).qE∧(c=(s.qw.length:Int) - 1 - j)∧(j+1≤s.qw.length)∧m' =(c:Int).toNat∧Fresh w.heap.size [yl,zf]∧St w w160 [.box b19 [.slice yL t.qB.length yK,.slice ra3a ((yQ s t counts (Qo (BadAt s t counts) counts.length)).length) rc3a,.slice vX vV vW] 38,rr yL t.qB.length yK 4 1 (out_Alive.map (Value.bool)),rr ra11Bags t.qE.length rc11Bags 22 1 Vs,rr vX vV vW 2 1 (((xu s t counts).qC).map (Value.int .i64)),rr ra3a ((yQ s t counts (Qo (BadAt s t counts) counts.length)).length) rc3a 22 1 zN,.box b1 [yN,yN,yN] 38] [zk true yl Vs t.qE,zk true zf zN out_Bags,atF bs os (yS s qA qy qK qH),sF false qW qA qy s.qw,sF false xy qK qH s.qx,sF false Fcounts acounts ccounts counts]) (((s.qw.length - 1):Int).toNat) ⟨_,s.qw.length - 1,t.qB,(xu s t counts).qE,x_rest,F_rest,0,uE5,(by rfl),(by rfl),qf,qf,rfl,N,H.pick [0,1,2,3,4,5] [0,1,2,3,4,9]⟩ ?_
 clear H N
 rintro m' ρ w161 ⟨xN,c,out_Alive,out_Bags,zN,zf,j,rfl,rfl,rfl,ic,jc,rfl,N,H⟩
 have hn_out_Alive:=H.rowNB 1 rfl
 have VB:=H.zo (α:=yLI) 4 rfl 1 rfl qj
 have L:=meltDown_live (counts:=counts) p0 hl j qf
 have L1:=L.alive
 have L2:=L.root
 have L3:=L.bags.1
 rw [← Qg s counts (xu s t counts) j] at H
 refine zcc (sps [yI c,.bool (decide ((c:Int) > 0))] (zjn (cD rfl (fun h162=>?_) (fun h162=>?_))))
 ·skip
  have cin:CellIn s c:=⟨by omega,by omega⟩
  refine qV (t_n (xU (qY (zcr (sp (.bool false) (zjcc (sp (yI 0) (zjn (qY ?_)))))))))
  refine zB (fun m' ρ w163=>∃ (xN:Env) (melts:Bool) (i_1:Nat),ρ=upd (upd (upd (upd (upd (upd (upd xN 0 (pp bs os)) 2 (.slice acounts counts.length ccounts)) 6 (pp b1 0)) 10 (pp b19 0)) 16 (yI c)) 17 (.bool melts)) 18 (yI i_1)∧melts=dec (QH s counts c i_1)∧((i_1:Int)≤counts.length)∧m' =(counts.length - (i_1:Int)).toNat∧Fresh w.heap.size [yl,zf]∧St w w163 [.box b19 [.slice yL t.qB.length yK,.slice ra3a ((yQ s t counts (Qo (BadAt s t counts) counts.length)).length) rc3a,.slice vX vV vW] 38,rr yL t.qB.length yK 4 1 (((xm s counts (xu s t counts) j).qB).map (Value.bool)),rr ra11Bags t.qE.length rc11Bags 22 1 Vs,rr vX vV vW 2 1 (((xm s counts (xu s t counts) j).qC).map (Value.int .i64)),rr ra3a ((yQ s t counts (Qo (BadAt s t counts) counts.length)).length) rc3a 22 1 zN,.box b1 [yN,yN,yN] 38] [zk true yl Vs t.qE,zk true zf zN ((xm s counts (xu s t counts) j).qE),atF bs os (yS s qA qy qK qH),sF false qW qA qy s.qw,sF false xy qK qH s.qx,sF false Fcounts acounts ccounts counts]) ((counts.length - (0:Int)).toNat) ⟨_,false,0,uE7,(by exact (xn (melts_zero _ _ _)).symm),qf,rfl,N,H⟩ ?_
  clear H N
  rintro m' ρ w164 ⟨xN,melts,i_1,rfl,rfl,i0,rfl,N,H⟩
  refine zcc (sps [yI i_1,.slice acounts counts.length ccounts] (oN rfl (sp (.bool (decide ((i_1:Int) < counts.length))) (zjn (cD rfl (fun h165=>?_) (fun h165=>?_))))))
  ·skip
   refine qV (t_n (xU (qY (xX (sps [.bool (dec (QH s counts c i_1)),.bool (dec (QH s counts c i_1))] ?_)))))
   cases h166:((dec (QH s counts c i_1)))
   ·skip
    refine qQ 172 rfl rfl (sp (.slice acounts counts.length ccounts) (qQ 172 rfl rfl (sp (yI i_1) (qQ 172 rfl rfl ?_))))
    obtain ⟨b167,o168,rfl⟩:=H.addr 5 rfl qf
    refine oI rfl rfl (qQ 172 rfl rfl (oL rfl (H.jy 5 rfl i_1 qf qf) (qQ 172 rfl rfl (sp (.bool (decide ((counts[i_1]! :Int) > 0))) (qQ 172 rfl rfl (sp (.bool (decide ((counts[i_1]! :Int) > 0))) ?_))))))
    cases h170:(decide ((counts[i_1]! :Int) > 0))
    ·skip
     replace h170:=of_decide_eq_false h170
     refine xZ [179,180,181,182,183,184,185,186] (qQ 172 rfl rfl (sp (.bool false) (qQ 172 rfl rfl (sp (.bool false) (xZ [189,190,191,192,193,194,195,196,197,198] (qQ 172 rfl rfl (sps [.bool false,.bool false,.bool false] (xY (b_n (t_n (xX (sp (yI i_1) (sw (zD i_1 1 rfl rfl qf (sp (yI (i_1+1)) (xY (xg (m' :=(counts.length - ((i_1+1):Int)).toNat) qf ⟨_,false,i_1+1,uE7,?_,?_,rfl,N,H⟩)))))))))))))))))
     · first | exact melts_1 ‹_› | exact melts_2 ‹_› qf | exact melts_3 ‹_› ‹_› | exact melts_4 ‹_› qf ‹_›
     · omega
    replace h170:=of_decide_eq_true h170
    refine qQ 178 rfl rfl (sp (pp bs os) (qQ 178 rfl rfl (sp (pp bs os) (qQ 178 rfl rfl (oF rfl (qQ 178 rfl rfl (oL rfl (H.xR 2 rfl 2 rfl) (qQ 178 rfl rfl (sp (yI i_1) (qQ 178 rfl rfl ?_))))))))))
    obtain ⟨b171,o172,rfl⟩:=H.addr 4 rfl qf
    obtain ⟨ae174Need,ce174Need,Fe174Need,ae174Have,ce174Have,Fe174Have,ae174Lack,ce174Lack,Fe174Lack,ae174Here,ce174Here,Fe174Here,ae174Out,ce174Out,Fe174Out,ae174Into,ce174Into,Fe174Into,H⟩:=H.yc 4 rfl i_1 i_1 qf qf qf
    refine oI rfl rfl (qQ 178 rfl rfl (oF rfl (qQ 178 rfl rfl (oL rfl (H.xR 6 rfl 8 rfl) (qQ 172 rfl rfl (sp (.bool ((s.qx[i_1]!).zG)) (qQ 172 rfl rfl (sp (.bool ((s.qx[i_1]!).zG)) ?_))))))))
    cases h175:((s.qx[i_1]!).zG)
    ·skip
     rw [h175] at H
     refine xZ [189,190,191,192,193,194,195,196,197,198] (qQ 172 rfl rfl (sps [.bool false,.bool false,.bool false] (xY (b_n (t_n (xX (sp (yI i_1) (sw (zD i_1 1 rfl rfl qf (sp (yI (i_1+1)) (xY (xg (m' :=(counts.length - ((i_1+1):Int)).toNat) qf ⟨_,false,i_1+1,uE7,?_,?_,rfl,N,H.pick [0,1,2,3,4,5] [7,8,9,10,11,12]⟩))))))))))))
     · first | exact melts_1 ‹_› | exact melts_2 ‹_› qf | exact melts_3 ‹_› ‹_› | exact melts_4 ‹_› qf ‹_›
     · omega
    rw [h175] at H
    refine qQ 188 rfl rfl (sp (pp bs os) (qQ 188 rfl rfl (sp (pp bs os) (qQ 188 rfl rfl (oF rfl (qQ 188 rfl rfl (oL rfl (H.xR 9 rfl 2 rfl) (qQ 188 rfl rfl (sp (yI i_1) (qQ 188 rfl rfl (oI rfl rfl (qQ 188 rfl rfl (oF rfl (qQ 188 rfl rfl (oL rfl (H.xR 6 rfl 0 rfl) (qQ 188 rfl rfl (sp (yI c) (qQ 188 rfl rfl (sp (.bool (((s.qx[i_1]!).qG:Int) == c)) (qQ 172 rfl rfl (sps [.bool (((s.qx[i_1]!).qG:Int) == c),.bool (((s.qx[i_1]!).qG:Int) == c),.bool (((s.qx[i_1]!).qG:Int) == c)] (xY (b_n (t_n (xX (sp (yI i_1) ?_))))))))))))))))))))))))))
    refine sw (zD i_1 1 rfl rfl qf (sp (yI (i_1+1)) (xY (xg (m' :=(counts.length - ((i_1+1):Int)).toNat) qf ⟨_,((s.qx[i_1]!).qG:Int) == c,i_1+1,uE7,?_,?_,rfl,N,H.pick [0,1,2,3,4,5] [7,8,9,10,11,12]⟩))))
    · first | exact melts_1 ‹_› | exact melts_2 ‹_› qf | exact melts_3 ‹_› ‹_› | exact melts_4 ‹_› qf ‹_›
    · omega
   refine xZ [173,174,175,176,177,178,179,180,181,182,183,184,185,186,187,188,189,190,191,192,193,194,195,196,197,198,199] (sps [.bool true,.bool true] (xY (b_n (t_n (xX (sp (yI i_1) (sw (zD i_1 1 rfl rfl qf (sp (yI (i_1+1)) (xY (xg (m' :=(counts.length - ((i_1+1):Int)).toNat) qf ⟨_,true,i_1+1,uE7,?_,?_,rfl,N,H⟩)))))))))))
   · first | exact melts_1 ‹_› | exact melts_2 ‹_› qf | exact melts_3 ‹_› ‹_› | exact melts_4 ‹_› qf ‹_›
   · omega
  refine zx4 (zcr (sp (.bool (dec (QH s counts c i_1))) (zjn (xF ((dec (QH s counts c i_1))) rfl (fun h176=>?_) (fun h176=>?_)))))
  ·skip
   refine xX (sps [pp bs os,yI c] (sw (zZ #[pp bs os,pp b19 0,yI c] rfl rfl call183 (en func183 ntmps183 ?_))))
   refine zcr (sps [pp bs os,pp b19 0,yI c] ?_)
   obtain ⟨G177,hn178,h179⟩:=H.rowIsB 1 rfl
   obtain ⟨G180,hn181,h182⟩:=H.rowIsR (α:=yLI) 4 rfl 1 rfl qj
   obtain ⟨G183,hn184,h185⟩:=H.rowIsI 3 rfl
   refine sw (oq (l02Parent_ok _ s (xm s counts (xu s t counts) j) c (qF (H.get 2 rfl) 0 3) (H.get 3 rfl).1 (H.get 4 rfl).1 (by have hz:=(qF (H.cells 0 rfl) 0 3);rw [hn178,hn181,hn184] at hz;exact hz) (hn178▸h179) (hn181▸h182) (hn184▸h185) ql ql ql) H fun w186 H=>?_)
   have pin:=VH (s:=s) (t:=(xm s counts (xu s t counts) j)) (c:=c) p0.1 L2 qf qf
   refine sp (yI (xx s (xm s counts (xu s t counts) j) c)) (zjn (xU ?_))
   obtain ⟨b188,rfl⟩:=H.yP 4 rfl qf
   refine c_cut (fun ρ w191=>∃ (xN:Env) (xs189:List Value) (F190:yLN),ρ=upd (upd (upd xN 0 (pp bs os)) 1 (pp b19 0)) 2 (yI c)∧Fresh w.heap.size [F190,yl]∧St w w191 [.box b19 [.slice yL t.qB.length yK,.slice (aa b188 0) ((yQ s t counts (Qo (BadAt s t counts) counts.length)).length) rc3a,.slice vX vV vW] 38,rr yL t.qB.length yK 4 1 (((xm s counts (xu s t counts) j).qB).map (Value.bool)),rr ra11Bags t.qE.length rc11Bags 22 1 Vs,rr vX vV vW 2 1 (((xm s counts (xu s t counts) j).qC).map (Value.int .i64)),rr (aa b188 0) ((yQ s t counts (Qo (BadAt s t counts) counts.length)).length) rc3a 22 1 xs189,.box b1 [yN,yN,yN] 38] [zk true F190 xs189 (((xm s counts (xu s t counts) j).qE).set ((xx s (xm s counts (xu s t counts) j) c).toNat) (vY (((xm s counts (xu s t counts) j).qE)[(xx s (xm s counts (xu s t counts) j) c).toNat]!) (((xm s counts (xu s t counts) j).qE)[c.toNat]!) 1)),zk true yl Vs t.qE,atF bs os (yS s qA qy qK qH),sF false qW qA qy s.qw,sF false xy qK qH s.qx,sF false Fcounts acounts ccounts counts]) ?_ ?_
   ·skip
    refine yY rfl H [0,1,2,3,5] fun H=>?_
    have S:=H.jY [0,1,2,3,5] [0,1,2,3,4,5]
    refine rtp 0 (pp b19 0) S ?_
    refine rtp 1 (pp b19 0) S ?_
    refine tF 2 rfl rfl S ?_
    refine tL 3 rfl rfl (fun _ h=>h.cell 0 rfl rfl) S ?_
    refine rtp 4 (yI (xx s (xm s counts (xu s t counts) j) c)) S ?_
    refine rtp 5 (pp b19 0) S ?_
    refine rtp 6 (pp b19 0) S ?_
    refine tF 7 rfl rfl S ?_
    refine tL 8 rfl rfl (fun _ h=>h.cell 0 rfl rfl) S ?_
    refine rtp 9 (yI (xx s (xm s counts (xu s t counts) j) c)) S ?_
    refine tI 10 rfl rfl rfl S ?_
    refine rtp 12 (pp b19 0) S ?_
    refine rtp 13 (pp b19 0) S ?_
    refine tF 14 rfl rfl S ?_
    refine tL 15 rfl rfl (fun _ h=>h.cell 0 rfl rfl) S ?_
    refine rtp 16 (yI c) S ?_
    refine tI 17 rfl rfl rfl S ?_
    refine vS [11,18] qh qm (jA rfl ?_ (jA rfl ?_ vT))
    ·skip
     obtain ⟨a193,c194,G195,s196,h197,H⟩:=H.jO 4 rfl 1 rfl (iv:=xx s (xm s counts (xu s t counts) j) c) ((xx s (xm s counts (xu s t counts) j) c).toNat) qf qf
     refine zF (.slice a193 ((((xm s counts (xu s t counts) j).qE)[(xx s (xm s counts (xu s t counts) j) c).toNat]!).length) c194) isAgg22 rfl (h197) (⟨H.pick [0,1,2,3,5] [1,2,3,4,5,6],(ro 18 rfl ?_)⟩)
     obtain ⟨a198,c199,G200,s201,h202,H⟩:=H.jO 4 rfl 2 rfl (iv:=c) c.toNat qf qf
     refine zF (.slice a198 ((((xm s counts (xu s t counts) j).qE)[c.toNat]!).length) c199) isAgg22 rfl (h202) (⟨H.pick [0,1,2,3,5] [2,3,4,5,6,7],(ro 19 rfl ?_)⟩)
     obtain ⟨u1,u2,u4⟩:=L.rows p0 (bnd_le qf) (p:=(xx s (xm s counts (xu s t counts) j) c).toNat) (c:=c.toNat) qf qf
     have sz203:=H.base.size
     have lt204:=H.ltN (L:=[yl,zf]) [2,3]
     refine oc (Xi _ (((xm s counts (xu s t counts) j).qE)[(xx s (xm s counts (xu s t counts) j) c).toNat]!) (((xm s counts (xu s t counts) j).qE)[c.toNat]!) 1 (H.get 1 rfl).1 (H.get 0 rfl).1 qg qg qg) ?_
     rintro v208 w206 r208 x207
     replace H:=H.zC x207 r208
     obtain ⟨a209,c210,rfl,hc211,hm212⟩:=H.ji 0 rfl
     refine ⟨H.pick [1,2,3,4,6] [2,3,4,5,6,7],(tI 20 rfl rfl rfl (H.pick [1,2,3,4,6] [2,3,4,5,6,7]) ?_)⟩
     refine ro 21 rfl ?_
     obtain ⟨G214,N,hn215,H⟩:=H.vP 0 rfl N (H.yg [2,3])
     refine jB true H 5 rfl 4 rfl (.slice a209 ((vY (((xm s counts (xu s t counts) j).qE)[(xx s (xm s counts (xu s t counts) j) c).toNat]!) (((xm s counts (xu s t counts) j).qE)[c.toNat]!) 1).length) c210) 0 rfl rfl sizeOf22 rfl rfl (i:=((xx s (xm s counts (xu s t counts) j) c).toNat)) qf qf qm fun w213 xs216 F217 hs218 H=>?_
     replace N:Fresh w.heap.size [F217,yl]:=(N.pick [2,0,1]).repl hs218
     refine ⟨H.pick [1,2,3,4,6] [4,5,6,7,8,9],(xH qh ((meet ⟨_,xs216,F217,uE3,N,H.pick [1,2,3,4,5,6] [0,4,6,7,8,9]⟩)))⟩
    obtain ⟨a219,c220,G221,s222,h223,H⟩:=H.jO 4 rfl 1 rfl (iv:=c) c.toNat qf qf
    refine zF (.slice a219 ((((xm s counts (xu s t counts) j).qE)[c.toNat]!).length) c220) isAgg22 rfl (h223) (⟨H.pick [0,1,2,3,5] [1,2,3,4,5,6],(ro 11 rfl ?_)⟩)
    obtain ⟨a224,c225,G226,s227,h228,H⟩:=H.jO 4 rfl 2 rfl (iv:=xx s (xm s counts (xu s t counts) j) c) ((xx s (xm s counts (xu s t counts) j) c).toNat) qf qf
    refine zF (.slice a224 ((((xm s counts (xu s t counts) j).qE)[(xx s (xm s counts (xu s t counts) j) c).toNat]!).length) c225) isAgg22 rfl (h228) (⟨H.pick [0,1,2,3,5] [2,3,4,5,6,7],(ro 19 rfl ?_)⟩)
    obtain ⟨u1,u2,u4⟩:=L.rows p0 (bnd_le qf) (p:=(xx s (xm s counts (xu s t counts) j) c).toNat) (c:=c.toNat) qf qf
    have sz229:=H.base.size
    have lt230:=H.ltN (L:=[yl,zf]) [2,3]
    refine oc (Xi _ (((xm s counts (xu s t counts) j).qE)[(xx s (xm s counts (xu s t counts) j) c).toNat]!) (((xm s counts (xu s t counts) j).qE)[c.toNat]!) 1 (H.get 0 rfl).1 (H.get 1 rfl).1 qg qg qg) ?_
    rintro v234 w232 r234 x233
    replace H:=H.zC x233 r234
    obtain ⟨a235,c236,rfl,hc237,hm238⟩:=H.ji 0 rfl
    refine ⟨H.pick [1,2,3,4,6] [2,3,4,5,6,7],(tI 20 rfl rfl rfl (H.pick [1,2,3,4,6] [2,3,4,5,6,7]) ?_)⟩
    refine ro 21 rfl ?_
    obtain ⟨G240,N,hn241,H⟩:=H.vP 0 rfl N (H.yg [2,3])
    refine jB true H 5 rfl 4 rfl (.slice a235 ((vY (((xm s counts (xu s t counts) j).qE)[(xx s (xm s counts (xu s t counts) j) c).toNat]!) (((xm s counts (xu s t counts) j).qE)[c.toNat]!) 1).length) c236) 0 rfl rfl sizeOf22 rfl rfl (i:=((xx s (xm s counts (xu s t counts) j) c).toNat)) qf qf qm fun w239 xs242 F243 hs244 H=>?_
    replace N:Fresh w.heap.size [F243,yl]:=(N.pick [2,0,1]).repl hs244
    refine ⟨H.pick [1,2,3,4,6] [4,5,6,7,8,9],(xH qh ((meet ⟨_,xs242,F243,uE3,N,H.pick [1,2,3,4,5,6] [0,4,6,7,8,9]⟩)))⟩
   clear H N
   rintro ρ w245 ⟨xN,xs189,F190,rfl,N,H⟩
   refine t_n (xU ?_)
   refine yY rfl H [0,1,2,3,5] fun H=>?_
   have S:=H.jY [0,1,2,3,5] [0,1,2,3,4,5]
   refine rtp 0 (pp b19 0) S ?_
   refine rtp 1 (pp b19 0) S ?_
   refine tF 2 rfl rfl S ?_
   refine tL 3 rfl rfl (fun _ h=>h.cell 0 rfl rfl) S ?_
   refine rtp 4 (yI c) S ?_
   refine rtp 5 (pp bs os) S ?_
   refine rtp 6 (pp bs os) S ?_
   refine tF 7 rfl rfl S ?_
   refine tL 8 rfl rfl (fun _ h=>h.xR 2 rfl 0 rfl) S ?_
   refine ro 9 rfl (jr H underlying22 ti2 s.xB.toNat rfl rfl qf qf qf fun b247 w248 H=>⟨H.pick [1,2,3,4,6] [0,1,2,3,4,5],(tI 10 rfl rfl rfl (H.pick [1,2,3,4,6] [0,1,2,3,4,5]) ?_)⟩)
   refine ro 11 rfl ?_
   obtain ⟨G250,N,hn251,H⟩:=H.vP 0 rfl N (H.yg [0,1])
   refine jB true H 5 rfl 1 rfl (.slice (aa b247 0) s.xB.toNat s.xB.toNat) 0 rfl rfl sizeOf22 rfl rfl (i:=c.toNat) qf qf qm fun w249 xs252 F253 hs254 H=>?_
   replace N:Fresh w.heap.size [F253,yl]:=(N.pick [1,0,2]).repl hs254
   refine ⟨H.pick [1,2,3,4,6] [2,3,4,5,6,7],(xH qh (t_n (xX (sps [pp b19 0,pp b19 0] (oF rfl (oL rfl (H.cell 1 rfl rfl) (sp (yI c) ?_)))))))⟩
   obtain ⟨b255,rfl⟩:=H.yP 2 rfl qf
   refine oI rfl rfl (sw (Qm H 2 rfl false sizeOf4 rfl rfl (i:=c.toNat) qf qf fun w256 H=>xY (ret0 rfl ⟨_,rfl,?_⟩)))
   replace H:=H.erases [0]
   dsimp only [vJ,List.eraseIdx] at H
   refine xY (b_n (t_n (xX (sp (yI c) (sw (o_sub c 1 rfl rfl qf (sp (yI (c - 1)) (xY ?_))))))))
   rw [Qg] at H
   refine xg (m' :=((c - 1):Int).toNat) qf ⟨_,c - 1,(((xm s counts (xu s t counts) j).qB).set c.toNat false),((((xm s counts (xu s t counts) j).qE).set ((xx s (xm s counts (xu s t counts) j) c).toNat) (vY (((xm s counts (xu s t counts) j).qE)[(xx s (xm s counts (xu s t counts) j) c).toNat]!) (((xm s counts (xu s t counts) j).qE)[c.toNat]!) 1)).set c.toNat (List.replicate s.xB.toNat (0:Int))),xs252,F253,j+1,uE5,?_,?_,?_,?_,rfl,(N.pick [1,0]),H.pick [0,1,2,3,4,5] [3,0,4,5,6,7]⟩
   · first | (rw [Qu (c:=c) (i:=i_1) ‹_› qf ic];done) | (rw [Qu (c:=c) (i:=i_1) ‹_› qf ic];rfl) | rw [meltDown_no' (c:=c) (i:=i_1) ‹_› qf ic]
   · first | (rw [Qu (c:=c) (i:=i_1) ‹_› qf ic];done) | (rw [Qu (c:=c) (i:=i_1) ‹_› qf ic];rfl) | rw [meltDown_no' (c:=c) (i:=i_1) ‹_› qf ic]
   · omega
   · omega
  refine qV (b_n (t_n (xX (sp (yI c) (sw (o_sub c 1 rfl rfl qf (sp (yI (c - 1)) (xY ?_))))))))
  rw [Qg] at H
  refine xg (m' :=((c - 1):Int).toNat) qf ⟨_,c - 1,((xm s counts (xu s t counts) j).qB),((xm s counts (xu s t counts) j).qE),zN,zf,j+1,uE5,?_,?_,?_,?_,rfl,N,H⟩
  · first | (rw [Qu (c:=c) (i:=i_1) ‹_› qf ic];done) | (rw [Qu (c:=c) (i:=i_1) ‹_› qf ic];rfl) | rw [meltDown_no' (c:=c) (i:=i_1) ‹_› qf ic]
  · first | (rw [Qu (c:=c) (i:=i_1) ‹_› qf ic];done) | (rw [Qu (c:=c) (i:=i_1) ‹_› qf ic];rfl) | rw [meltDown_no' (c:=c) (i:=i_1) ‹_› qf ic]
  · omega
  · omega
 refine zx4 (zcr (sp (pp bs os) (sw (zZ #[pp bs os,pp b19 0] rfl rfl call184 (en func184 ntmps184 ?_)))))
 refine zcr (sw (xI H ti38 [yN,yN,yN] fun b257 w258 H=>sp (yI 0) (zjcc (sps [pp bs os,pp b19 0] ?_))))
 obtain ⟨G259,hn260,h261⟩:=H.rowIsB 2 rfl
 obtain ⟨G262,hn263,h264⟩:=H.rowIsR (α:=yLI) 5 rfl 1 rfl qj
 obtain ⟨G265,hn266,h267⟩:=H.rowIsI 4 rfl
 refine sw (oq (l02State_ok _ s (xm s counts (xu s t counts) j) (qF (H.get 2 rfl) 0 3) (H.get 3 rfl).1 (H.get 4 rfl).1 (by have hz:=(qF (H.cells 1 rfl) 0 3);rw [hn260,hn263,hn266] at hz;exact hz) (hn260▸h261) (hn263▸h264) (hn266▸h267) (by first | assumption | exact (And.left (by assumption:jZ _)))) H fun w268 H=>sp (.bool (!(dec (zK s (xm s counts (xu s t counts) j))))) (zjn (cQ rfl (fun h270=>?_) (fun h270=>?_))))
 ·skip
  refine zcr (sw (jk [yN,yN,yN] [] (sw (zy H 0 [yN,yN,yN] sizeOf38 fun w271 H=>sp (yI 3) (zjr (t_r (retC2 H 0 rfl (yI 3) rfl isAgg38 sizeOf38 rfl rfl ⟨_,rfl,?_⟩)))))))
  replace H:=H.erases [0]
  dsimp only [vJ,List.eraseIdx] at H
  refine sps [.agg #[yN,yN,yN],yI 3] (sw (zy H 5 [yN,yN,yN] sizeOf38 fun w272 H=>sp (yI 3) (zjr ?_)))
  replace H:=H.nilRowB 4
  replace H:=H.nilRow 22 1
  replace H:=H.vN (α:=yLI)
  replace H:=H.nilRowI 2
  refine retC2 H 8 rfl (yI 3) rfl isAgg38 sizeOf38 rfl rfl ⟨_,rfl,?_,H.base⟩
  rw [stepBy_yes ‹_›,stepRes,show jb s - 1=j by omega,told_no ‹_›]
  exact ⟨none,0,0,none,0,0,[],[],none,0,0,rfl,(N.emp.pick [0]),H.pick [2,1,0] [0]⟩
 refine qV (t_n (zcr (sps [pp b19 0,pp b19 0] (sw (zl [.slice yL t.qB.length yK,.slice ra3a ((yQ s t counts (Qo (BadAt s t counts) counts.length)).length) rc3a,.slice vX vV vW] isAgg38 sizeOf38 rfl (qF (H.cells 1 rfl) 0 3) (sw (zy H 0 [.slice yL t.qB.length yK,.slice ra3a ((yQ s t counts (Qo (BadAt s t counts) counts.length)).length) rc3a,.slice vX vV vW] sizeOf38 fun w273 H=>sp (yI 0) (zjr ?_))))))))
 refine retC2 H 0 rfl (yI 0) rfl isAgg38 sizeOf38 rfl rfl ⟨_,rfl,?_⟩
 replace H:=H.erases [0]
 dsimp only [vJ,List.eraseIdx] at H
 refine sps [.agg #[.slice yL t.qB.length yK,.slice ra3a ((yQ s t counts (Qo (BadAt s t counts) counts.length)).length) rc3a,.slice vX vV vW],yI 0] (sw (zy H 5 [.slice yL t.qB.length yK,.slice ra3a ((yQ s t counts (Qo (BadAt s t counts) counts.length)).length) rc3a,.slice vX vV vW] sizeOf38 fun w274 H=>sp (yI 0) (zjr (retC2 H 5 rfl (yI 0) rfl isAgg38 sizeOf38 rfl rfl ⟨_,rfl,?_,H.base⟩))))
 rw [stepBy_yes ‹_›,stepRes,show jb s - 1=j by omega,told_yes ‹_›]
 exact ⟨yL,t.qB.length,yK,ra3a,(yQ s t counts (Qo (BadAt s t counts) counts.length)).length,rc3a,zN,zf,vX,vV,vW,rfl,(N.pick [1]),H.pick [1,4,3] [1]⟩
theorem isEnabled_ok (w:World) (s:qL) (t:qM) (r:QF) {qA:yOA} {qW:yLN} {qK:yOA} {xy:yLN} {qR:yOA} {xJ:yLN} {xh:yOA} {zn:yLN} {qJ:yOA} {xw:yLN} {yB:yOA} {Vo:yLN} {yE:yOA} {Vr:yLN} {yC:yOA} {Vp:yLN} {yD:yOA} {Vq:yLN} {QO:yOA} {FrOut:yLN} {jW:yOA} {FrInto:yLN} (xf:qP.rep w qW [.slice qA s.qw.length qy] s.qw) (xG:qP.rep w xy [.slice qK s.qx.length qH] s.qx) (zh:qP.rep w xJ [.slice qR t.qB.length qO] t.qB) (zJ:qP.rep w zn [.slice xh t.qE.length qZ] t.qE) (xK:qP.rep w xw [.slice qJ t.qC.length qI] t.qC) (hrNeed:qP.rep w Vo [.slice yB r.xE.length yu] r.xE) (hrHave:qP.rep w Vr [.slice yE r.xM.length yz] r.xM) (hrLack:qP.rep w Vp [.slice yC r.xO.length yw] r.xO) (hrHere:qP.rep w Vq [.slice yD r.xW.length yx] r.xW) (hrOut:qP.rep w FrOut [.slice QO r.vC.length QN] r.vC) (hrInto:qP.rep w FrInto [.slice jW r.qU.length jT] r.qU) (p0:jZ s) (p1:zK s t) (p2:RuleOk s r):Calls Tryz.prog 145 #[.agg #[yI s.xB,.slice qA s.qw.length qy,.slice qK s.qx.length qH],.agg #[.slice qR t.qB.length qO,.slice xh t.qE.length qZ,.slice qJ t.qC.length qI],.agg #[yI r.qG,yI r.zM,.slice yB r.xE.length yu,.slice yE r.xM.length yz,.slice yC r.xO.length yw,.slice yD r.xW.length yx,.slice QO r.vC.length QN,.slice jW r.qU.length jT,.bool r.zG]] w (Ret (fun v w' =>v=.bool (dec (EnOk s t r))) w):=by
 refine en func145 ntmps145 ?_
 have H:=(((((((((((St.start w).arg hrInto).arg hrOut).arg hrHere).arg hrLack).arg hrHave).arg hrNeed).arg xK).arg zJ).arg zh).arg xG).arg xf
 have ve:=qN xf
 have jh:=qN xG
 have yM:=qN zh
 have Qr:=qN zJ
 have jF:=qN xK
 have nhrNeed:=qN hrNeed
 have nhrHave:=qN hrHave
 have nhrLack:=qN hrLack
 have nhrHere:=qN hrHere
 have nhrOut:=qN hrOut
 have nhrInto:=qN hrInto
 clear xf xG zh zJ xK hrNeed hrHave hrLack hrHere hrOut hrInto
 have N:=Fresh.nil w.heap.size
 have p3:=p2.1
 have p4:=p1.1
 have p5:=p1.2.1
 have p6:=(p1.bagLen (k:=r.qG.toNat) qf).len
 have p7:=p2.2.2.2.2.1.len
 have p8:=p2.2.2.2.2.2.1.len
 have p9:=p2.2.2.2.2.2.2.1.len
 have p10:=vF p2.2.2.2.2.2.2.1
 have p11:=p0.1
 have p12:=p2.2.2.2.2.2.2.2.2.2.2
 have p13:=kinds_le p0
 refine zcr (sw (vz H (yS s qA qy qK qH) fun b1 w2 H=>sw (vz H (yT t qR qO xh qZ qJ qI) fun b3 w4 H=>sw (vz H [yI r.qG,yI r.zM,.slice yB r.xE.length yu,.slice yE r.xM.length yz,.slice yC r.xO.length yw,.slice yD r.xW.length yx,.slice QO r.vC.length QN,.slice jW r.qU.length jT,.bool r.zG] fun b5 w6 H=>sp (.bool false) (zjcc (oF rfl ?_))))))
 refine oL rfl (H.cell 1 rfl rfl) (oF rfl (oL rfl (H.cell 0 rfl rfl) ?_))
 obtain ⟨b7,o8,rfl⟩:=H.addr 2 rfl qf
 refine oI rfl rfl (oL rfl (H.Xp 2 rfl r.qG qf qf) (sp (.bool (!(t.qB[r.qG.toNat]!))) (zjn (xF (!(t.qB[r.qG.toNat]!)) rfl (fun h10=>?_) (fun h10=>?_)))))
 ·skip
  replace h10:=xq h10
  refine zcr (sp (.bool false) (zjr (t_r (ret1 (.bool false) rfl rfl ⟨_,rfl,?_,H.base⟩))))
  rw [xn (fun h=>by obtain ⟨h1,h2,h3,h4,h5⟩:=h;first | exact ft h1 ‹_› | exact ft h2 ‹_› | exact ft h3 ‹_› | exact h4 ⟨‹_›,‹_›⟩ | (obtain ⟨q1,q2⟩:=h5 i qf;first | exact ft q1 ‹_› | exact absurd q2 ‹_›))]
 replace h10:=xk h10
 refine qV (t_n (zcr (oF rfl (oL rfl (H.cell 1 rfl rfl) (oF rfl (oL rfl (H.cell 0 rfl rfl) ?_))))))
 obtain ⟨b11,o12,rfl⟩:=H.addr 3 rfl qf
 obtain ⟨ae14,ce14,Fe14,H⟩:=H.vH 3 rfl r.qG r.qG.toNat qf qf qf
 refine oI rfl rfl (oL rfl (H.xR 1 rfl 0 rfl) (sp (.slice ae14 ((t.qE[r.qG.toNat]!).length) ce14) (zjcc (oF rfl (oL rfl (H.cell 0 rfl rfl) (sp (.slice ae14 ((t.qE[r.qG.toNat]!).length) ce14) (sw (oq (isWithin_ok _ r.xE (t.qE[r.qG.toNat]!) (H.get 7 rfl).1 (H.get 0 rfl).1 qg qg) H fun w15 H=>sps [.bool (!(within r.xE (t.qE[r.qG.toNat]!))),.bool (!(within r.xE (t.qE[r.qG.toNat]!)))] ?_))))))))
 cases h17:(!(within r.xE (t.qE[r.qG.toNat]!)))
 ·skip
  replace h17:=xk h17
  refine qQ 26 rfl rfl (oF rfl (qQ 26 rfl rfl (oL rfl (H.cell 0 rfl rfl) (qQ 26 rfl rfl (sp (.slice ae14 ((t.qE[r.qG.toNat]!).length) ce14) (qQ 26 rfl rfl (sw (oq (isWithin_ok _ r.xM (t.qE[r.qG.toNat]!) (H.get 8 rfl).1 (H.get 0 rfl).1 qg qg) H fun w18 H=>qQ 26 rfl rfl (sps [.bool (!(within r.xM (t.qE[r.qG.toNat]!))),.bool (!(within r.xM (t.qE[r.qG.toNat]!))),.bool (!(within r.xM (t.qE[r.qG.toNat]!)))] ?_)))))))))
  cases h20:(!(within r.xM (t.qE[r.qG.toNat]!)))
  ·skip
   replace h20:=xk h20
   refine qQ 33 rfl rfl (oF rfl (qQ 33 rfl rfl (oL rfl (H.cell 0 rfl rfl) (qQ 33 rfl rfl (sw (oq (XT _ r.xO (H.get 9 rfl).1 (by first | assumption | exact vF ql | exact yV ql)) H fun w21 H=>qQ 33 rfl rfl (sp (.bool (decide ((X0 r.xO:Int) > 0))) (qQ 33 rfl rfl (sp (.bool (decide ((X0 r.xO:Int) > 0))) ?_)))))))))
   cases h23:(decide ((X0 r.xO:Int) > 0))
   ·skip
    replace h23:=of_decide_eq_false h23
    refine xZ [39,40,41,42] (qQ 33 rfl rfl (sps [.bool false,.bool false] (zjn (xF false rfl (fun h=>absurd h qj) (fun _=>qV (t_n (zcr (oF rfl (oL rfl (H.cell 0 rfl rfl) (sp (.func (.func 187) #[] #[pp b3 0,pp b1 0,pp b5 0]) (sw (zZ #[.slice jW r.qU.length jT,.func (.func 187) #[] #[pp b3 0,pp b1 0,pp b5 0]] rfl rfl call186 (en func186 ntmps186 ?_)))))))))))))
    refine zcr (sp (.bool false) (zjc (sps [.slice jW r.qU.length jT,.func (.func 187) #[] #[pp b3 0,pp b1 0,pp b5 0]] (sw (zZ #[.slice jW r.qU.length jT,.func (.func 187) #[] #[pp b3 0,pp b1 0,pp b5 0]] rfl rfl call207 (en func207 ntmps207 ?_))))))
    refine zcr (sp (yI 0) (zjcc (sp (.slice jW r.qU.length jT) (oN rfl (sp (yI 0) (zjn (qY ?_)))))))
    refine zB (fun m' ρ w24=>∃ (xN:Env) (i:Nat),ρ=upd (upd (upd (upd xN 0 (.slice jW r.qU.length jT)) 1 (.func (.func 187) #[] #[pp b3 0,pp b1 0,pp b5 0])) 7 (yI r.qU.length)) 8 (yI i)∧((i:Int)≤r.qU.length)∧(IntoUp s t r i)∧m' =(r.qU.length - (i:Int)).toNat∧Fresh w.heap.size []∧St w w24 [.box b5 [yI r.qG,yI r.zM,.slice yB r.xE.length yu,.slice yE r.xM.length yz,.slice yC r.xO.length yw,.slice yD r.xW.length yx,.slice QO r.vC.length QN,.slice jW r.qU.length jT,.bool r.zG] 121,.box b3 [.slice (aa b7 o8) t.qB.length qO,.slice (aa b11 o12) t.qE.length qZ,.slice qJ t.qC.length qI] 38,.box b1 (yS s qA qy qK qH) 36] [sF false Fe14 ae14 ce14 (t.qE[r.qG.toNat]!),atF b11 (o12+(r.qG:Int).toNat * 1) [.slice ae14 ((t.qE[r.qG.toNat]!).length) ce14],sF false qW qA qy s.qw,sF false xy qK qH s.qx,sF false xJ (aa b7 o8) qO t.qB,sF false zn (aa b11 o12) qZ t.qE,sF false xw qJ qI t.qC,sF false Vo yB yu r.xE,sF false Vr yE yz r.xM,sF false Vp yC yw r.xO,sF false Vq yD yx r.xW,sF false FrOut QO QN r.vC,sF false FrInto jW jT r.qU]) ((r.qU.length - (0:Int)).toNat) ⟨_,0,uE4,qf,(by exact fun j hj=>by omega),rfl,N,H⟩ ?_
    clear H N
    rintro m' ρ w25 ⟨xN,i,rfl,i0,i1,rfl,N,H⟩
    refine zcr (sp (.bool (decide ((i:Int) < r.qU.length))) (zjn (xU (cD rfl (fun h26=>?_) (fun h26=>?_)))))
    ·skip
     have q:=(p12 i qf).1
     have q1:=q.1
     have q2:=q.2
     refine qV (t_n (xU (qY (zcr (sps [yI i,yI i] (zjc (sps [.func (.func 187) #[] #[pp b3 0,pp b1 0,pp b5 0],.slice jW r.qU.length jT,yI i] ?_)))))))
     obtain ⟨b27,o28,rfl⟩:=H.addr 12 rfl qf
     obtain ⟨ae30Bag,ce30Bag,Fe30Bag,H⟩:=H.jJ 12 rfl i i qf qf qf
     refine oI rfl rfl (sw (zl [yI ((r.qU[i]!).qG),.slice ae30Bag (((r.qU[i]!).jE).length) ce30Bag] isAgg164 sizeOf164 rfl (qF (H.get 1 rfl) 0 2) (sw (zZ #[.agg #[yI ((r.qU[i]!).qG),.slice ae30Bag (((r.qU[i]!).jE).length) ce30Bag],pp b3 0,pp b1 0,pp b5 0] rfl rfl call187 (en func187 ntmps187 ?_)))))
     refine zcr (sw (vz H [yI ((r.qU[i]!).qG),.slice ae30Bag (((r.qU[i]!).jE).length) ce30Bag] fun b31 w32 H=>sp (.bool false) (zjn (xU ?_))))
     refine ja rfl H fun H=>tF 0 rfl rfl H ?_
     refine tL 1 rfl rfl (fun _ h=>h.cell 2 rfl rfl) H ?_
     refine tF 2 rfl rfl H ?_
     refine tL 3 rfl rfl (fun _ h=>h.cell 0 rfl rfl) H ?_
     refine tI 4 rfl rfl rfl H ?_
     refine tL 5 rfl rfl (fun _ h=>h.Xp 6 rfl ((r.qU[i]!).qG) qf qf) H ?_
     refine rtp 6 (.bool (!(t.qB[((r.qU[i]!).qG).toNat]!))) H ?_
     refine rtp 7 (.bool (!(t.qB[((r.qU[i]!).qG).toNat]!))) H ?_
     cases h34:(!(t.qB[((r.qU[i]!).qG).toNat]!))
     ·skip
      replace h34:=xk h34
      refine rg 8 (.agg #[yI s.xB,.slice qA s.qw.length qy,.slice qK s.qx.length qH]) 13 (Qk (cs:=(yS s qA qy qK qH)) isAgg36 sizeOf36 rfl (fun _ h=>qF (h.cells 3 rfl) 0 3)) H ?_
      refine rg 9 (.agg #[.slice (aa b7 o8) t.qB.length qO,.slice (aa b11 o12) t.qE.length qZ,.slice qJ t.qC.length qI]) 13 (Qk (cs:=[.slice (aa b7 o8) t.qB.length qO,.slice (aa b11 o12) t.qE.length qZ,.slice qJ t.qC.length qI]) isAgg38 sizeOf38 rfl (fun _ h=>qF (h.cells 2 rfl) 0 3)) H ?_
      refine gF 10 rfl rfl H ?_
      refine gL 11 rfl rfl (fun _ h=>h.cell 0 rfl rfl) H ?_
      refine gF 13 rfl rfl H ?_
      refine gL 14 rfl rfl (fun _ h=>h.cell 1 rfl rfl) H ?_
      refine vS [12] qh qm (r_opG rfl (e:=13) rfl rfl (oq (parentNow_ok _ s t ((r.qU[i]!).qG) (H.get 4 rfl).1 (H.get 5 rfl).1 (H.get 6 rfl).1 (H.get 7 rfl).1 (H.get 8 rfl).1 qg qg qg) H fun w36 H=>⟨H,(rgp 15 (.bool ((xx s t ((r.qU[i]!).qG):Int) != r.qG)) 13 H ?_)⟩) vT)
      refine rtp 16 (.bool ((xx s t ((r.qU[i]!).qG):Int) != r.qG)) H ?_
      refine rtp 17 (.bool ((xx s t ((r.qU[i]!).qG):Int) != r.qG)) H ?_
      refine xH qh (t_n (c_ret (ret1 (.bool ((xx s t ((r.qU[i]!).qG):Int) != r.qG)) rfl rfl ⟨_,rfl,?_⟩)))
      replace H:=H.erases [0]
      dsimp only [vJ,List.eraseIdx] at H
      refine zjn (xF ((xx s t ((r.qU[i]!).qG):Int) != r.qG) rfl (fun h38=>?_) (fun h38=>?_))
      ·skip
       replace h38:=bne_iff_ne.1 h38
       refine zcr (sps [yI i,yI i] (zjr (zr5 (ret1 (yI i) rfl rfl ⟨_,rfl,(sw (o_pure (.bool true) (by show some (Value.bool (decide ((i:Int)≥0)))=some (Value.bool true);rw [decide_eq_true qf]) (sp (.bool true) (zjr (ret1 (.bool true) rfl rfl ⟨_,rfl,(sps [.bool false,.bool false] (zjr (ret1 (.bool false) rfl rfl ⟨_,rfl,?_,H.base⟩)))⟩)))))⟩))))
       rw [xn (fun h=>by obtain ⟨h1,h2,h3,h4,h5⟩:=h;first | exact ft h1 ‹_› | exact ft h2 ‹_› | exact ft h3 ‹_› | exact h4 ⟨‹_›,‹_›⟩ | (obtain ⟨q1,q2⟩:=h5 i qf;first | exact ft q1 ‹_› | exact absurd q2 ‹_›))]
      replace h38:=xA h38
      refine qV (b_n (t_n (xX (sw (zD i 1 rfl rfl qf (sp (yI (i+1)) (xY (xg (m' :=(r.qU.length - ((i+1):Int)).toNat) qf ⟨_,i+1,uE4,?_,?_,rfl,N,H.pick [0,1,2] [2,3,4,5,6,7,8,9,10,11,12,13,14]⟩))))))))
      · omega
      · exact i1.succ ‹_› ‹_›
     replace h34:=xq h34
     refine zS [8,9,10,11,12,13,14,15] 8 (H) (rtp 16 (.bool true) H ?_)
     refine rtp 17 (.bool true) H ?_
     refine xH qh (t_n (c_ret (ret1 (.bool true) rfl rfl ⟨_,rfl,?_⟩)))
     replace H:=H.erases [0]
     dsimp only [vJ,List.eraseIdx] at H
     refine zjn (xF true rfl (fun _=>zcr (sps [yI i,yI i] (zjr (zr5 (ret1 (yI i) rfl rfl ⟨_,rfl,(sw (o_pure (.bool true) (by show some (Value.bool (decide ((i:Int)≥0)))=some (Value.bool true);rw [decide_eq_true qf]) (sp (.bool true) (zjr (ret1 (.bool true) rfl rfl ⟨_,rfl,(sps [.bool false,.bool false] (zjr (ret1 (.bool false) rfl rfl ⟨_,rfl,?_,H.base⟩)))⟩)))))⟩))))) (fun h=>absurd h qj))
     rw [xn (fun h=>by obtain ⟨h1,h2,h3,h4,h5⟩:=h;first | exact ft h1 ‹_› | exact ft h2 ‹_› | exact ft h3 ‹_› | exact h4 ⟨‹_›,‹_›⟩ | (obtain ⟨q1,q2⟩:=h5 i qf;first | exact ft q1 ‹_› | exact absurd q2 ‹_›))]
    refine zx4 (zcr (sp (yI (-1)) (zjr (ret1 (yI (-1)) rfl rfl ⟨_,rfl,(sps [.bool false,.bool false] (zjr (ret1 (.bool false) rfl rfl ⟨_,rfl,(sps [.bool true,.bool true] (zjr (ret1 (.bool true) rfl rfl ⟨_,rfl,?_,H.base⟩)))⟩)))⟩))))
    rw [jP ⟨by assumption,by assumption,by assumption,fun ⟨u,v⟩=>by first | omega | exact ft v ‹_›,(show i=r.qU.length by omega)▸i1⟩]
   replace h23:=of_decide_eq_true h23
   refine qQ 38 rfl rfl (oF rfl (qQ 38 rfl rfl (oL rfl (H.cell 0 rfl rfl) (qQ 38 rfl rfl (sp (.slice ae14 ((t.qE[r.qG.toNat]!).length) ce14) (qQ 38 rfl rfl (sw (oq (isWithin_ok _ r.xO (t.qE[r.qG.toNat]!) (H.get 9 rfl).1 (H.get 0 rfl).1 qg qg) H fun w39 H=>qQ 33 rfl rfl (sps [.bool (within r.xO (t.qE[r.qG.toNat]!)),.bool (within r.xO (t.qE[r.qG.toNat]!))] (zjn (xF (within r.xO (t.qE[r.qG.toNat]!)) rfl (fun h41=>?_) (fun h41=>?_))))))))))))
   ·skip
    refine zcr (sp (.bool false) (zjr (t_r (ret1 (.bool false) rfl rfl ⟨_,rfl,?_,H.base⟩))))
    rw [xn (fun h=>by obtain ⟨h1,h2,h3,h4,h5⟩:=h;first | exact ft h1 ‹_› | exact ft h2 ‹_› | exact ft h3 ‹_› | exact h4 ⟨‹_›,‹_›⟩ | (obtain ⟨q1,q2⟩:=h5 i qf;first | exact ft q1 ‹_› | exact absurd q2 ‹_›))]
   refine qV (t_n (zcr (oF rfl (oL rfl (H.cell 0 rfl rfl) (sp (.func (.func 187) #[] #[pp b3 0,pp b1 0,pp b5 0]) (sw (zZ #[.slice jW r.qU.length jT,.func (.func 187) #[] #[pp b3 0,pp b1 0,pp b5 0]] rfl rfl call186 (en func186 ntmps186 ?_))))))))
   refine zcr (sp (.bool false) (zjc (sps [.slice jW r.qU.length jT,.func (.func 187) #[] #[pp b3 0,pp b1 0,pp b5 0]] (sw (zZ #[.slice jW r.qU.length jT,.func (.func 187) #[] #[pp b3 0,pp b1 0,pp b5 0]] rfl rfl call207 (en func207 ntmps207 ?_))))))
   refine zcr (sp (yI 0) (zjcc (sp (.slice jW r.qU.length jT) (oN rfl (sp (yI 0) (zjn (qY ?_)))))))
   refine zB (fun m' ρ w42=>∃ (xN:Env) (i:Nat),ρ=upd (upd (upd (upd xN 0 (.slice jW r.qU.length jT)) 1 (.func (.func 187) #[] #[pp b3 0,pp b1 0,pp b5 0])) 7 (yI r.qU.length)) 8 (yI i)∧((i:Int)≤r.qU.length)∧(IntoUp s t r i)∧m' =(r.qU.length - (i:Int)).toNat∧Fresh w.heap.size []∧St w w42 [.box b5 [yI r.qG,yI r.zM,.slice yB r.xE.length yu,.slice yE r.xM.length yz,.slice yC r.xO.length yw,.slice yD r.xW.length yx,.slice QO r.vC.length QN,.slice jW r.qU.length jT,.bool r.zG] 121,.box b3 [.slice (aa b7 o8) t.qB.length qO,.slice (aa b11 o12) t.qE.length qZ,.slice qJ t.qC.length qI] 38,.box b1 (yS s qA qy qK qH) 36] [sF false Fe14 ae14 ce14 (t.qE[r.qG.toNat]!),atF b11 (o12+(r.qG:Int).toNat * 1) [.slice ae14 ((t.qE[r.qG.toNat]!).length) ce14],sF false qW qA qy s.qw,sF false xy qK qH s.qx,sF false xJ (aa b7 o8) qO t.qB,sF false zn (aa b11 o12) qZ t.qE,sF false xw qJ qI t.qC,sF false Vo yB yu r.xE,sF false Vr yE yz r.xM,sF false Vp yC yw r.xO,sF false Vq yD yx r.xW,sF false FrOut QO QN r.vC,sF false FrInto jW jT r.qU]) ((r.qU.length - (0:Int)).toNat) ⟨_,0,uE4,qf,(by exact fun j hj=>by omega),rfl,N,H⟩ ?_
   clear H N
   rintro m' ρ w43 ⟨xN,i,rfl,i0,i1,rfl,N,H⟩
   refine zcr (sp (.bool (decide ((i:Int) < r.qU.length))) (zjn (xU (cD rfl (fun h44=>?_) (fun h44=>?_)))))
   ·skip
    have q:=(p12 i qf).1
    have q1:=q.1
    have q2:=q.2
    refine qV (t_n (xU (qY (zcr (sps [yI i,yI i] (zjc (sps [.func (.func 187) #[] #[pp b3 0,pp b1 0,pp b5 0],.slice jW r.qU.length jT,yI i] ?_)))))))
    obtain ⟨b45,o46,rfl⟩:=H.addr 12 rfl qf
    obtain ⟨ae48Bag,ce48Bag,Fe48Bag,H⟩:=H.jJ 12 rfl i i qf qf qf
    refine oI rfl rfl (sw (zl [yI ((r.qU[i]!).qG),.slice ae48Bag (((r.qU[i]!).jE).length) ce48Bag] isAgg164 sizeOf164 rfl (qF (H.get 1 rfl) 0 2) (sw (zZ #[.agg #[yI ((r.qU[i]!).qG),.slice ae48Bag (((r.qU[i]!).jE).length) ce48Bag],pp b3 0,pp b1 0,pp b5 0] rfl rfl call187 (en func187 ntmps187 ?_)))))
    refine zcr (sw (vz H [yI ((r.qU[i]!).qG),.slice ae48Bag (((r.qU[i]!).jE).length) ce48Bag] fun b49 w50 H=>sp (.bool false) (zjn (xU ?_))))
    refine ja rfl H fun H=>tF 0 rfl rfl H ?_
    refine tL 1 rfl rfl (fun _ h=>h.cell 2 rfl rfl) H ?_
    refine tF 2 rfl rfl H ?_
    refine tL 3 rfl rfl (fun _ h=>h.cell 0 rfl rfl) H ?_
    refine tI 4 rfl rfl rfl H ?_
    refine tL 5 rfl rfl (fun _ h=>h.Xp 6 rfl ((r.qU[i]!).qG) qf qf) H ?_
    refine rtp 6 (.bool (!(t.qB[((r.qU[i]!).qG).toNat]!))) H ?_
    refine rtp 7 (.bool (!(t.qB[((r.qU[i]!).qG).toNat]!))) H ?_
    cases h52:(!(t.qB[((r.qU[i]!).qG).toNat]!))
    ·skip
     replace h52:=xk h52
     refine rg 8 (.agg #[yI s.xB,.slice qA s.qw.length qy,.slice qK s.qx.length qH]) 13 (Qk (cs:=(yS s qA qy qK qH)) isAgg36 sizeOf36 rfl (fun _ h=>qF (h.cells 3 rfl) 0 3)) H ?_
     refine rg 9 (.agg #[.slice (aa b7 o8) t.qB.length qO,.slice (aa b11 o12) t.qE.length qZ,.slice qJ t.qC.length qI]) 13 (Qk (cs:=[.slice (aa b7 o8) t.qB.length qO,.slice (aa b11 o12) t.qE.length qZ,.slice qJ t.qC.length qI]) isAgg38 sizeOf38 rfl (fun _ h=>qF (h.cells 2 rfl) 0 3)) H ?_
     refine gF 10 rfl rfl H ?_
     refine gL 11 rfl rfl (fun _ h=>h.cell 0 rfl rfl) H ?_
     refine gF 13 rfl rfl H ?_
     refine gL 14 rfl rfl (fun _ h=>h.cell 1 rfl rfl) H ?_
     refine vS [12] qh qm (r_opG rfl (e:=13) rfl rfl (oq (parentNow_ok _ s t ((r.qU[i]!).qG) (H.get 4 rfl).1 (H.get 5 rfl).1 (H.get 6 rfl).1 (H.get 7 rfl).1 (H.get 8 rfl).1 qg qg qg) H fun w54 H=>⟨H,(rgp 15 (.bool ((xx s t ((r.qU[i]!).qG):Int) != r.qG)) 13 H ?_)⟩) vT)
     refine rtp 16 (.bool ((xx s t ((r.qU[i]!).qG):Int) != r.qG)) H ?_
     refine rtp 17 (.bool ((xx s t ((r.qU[i]!).qG):Int) != r.qG)) H ?_
     refine xH qh (t_n (c_ret (ret1 (.bool ((xx s t ((r.qU[i]!).qG):Int) != r.qG)) rfl rfl ⟨_,rfl,?_⟩)))
     replace H:=H.erases [0]
     dsimp only [vJ,List.eraseIdx] at H
     refine zjn (xF ((xx s t ((r.qU[i]!).qG):Int) != r.qG) rfl (fun h56=>?_) (fun h56=>?_))
     ·skip
      replace h56:=bne_iff_ne.1 h56
      refine zcr (sps [yI i,yI i] (zjr (zr5 (ret1 (yI i) rfl rfl ⟨_,rfl,(sw (o_pure (.bool true) (by show some (Value.bool (decide ((i:Int)≥0)))=some (Value.bool true);rw [decide_eq_true qf]) (sp (.bool true) (zjr (ret1 (.bool true) rfl rfl ⟨_,rfl,(sps [.bool false,.bool false] (zjr (ret1 (.bool false) rfl rfl ⟨_,rfl,?_,H.base⟩)))⟩)))))⟩))))
      rw [xn (fun h=>by obtain ⟨h1,h2,h3,h4,h5⟩:=h;first | exact ft h1 ‹_› | exact ft h2 ‹_› | exact ft h3 ‹_› | exact h4 ⟨‹_›,‹_›⟩ | (obtain ⟨q1,q2⟩:=h5 i qf;first | exact ft q1 ‹_› | exact absurd q2 ‹_›))]
     replace h56:=xA h56
     refine qV (b_n (t_n (xX (sw (zD i 1 rfl rfl qf (sp (yI (i+1)) (xY (xg (m' :=(r.qU.length - ((i+1):Int)).toNat) qf ⟨_,i+1,uE4,?_,?_,rfl,N,H.pick [0,1,2] [2,3,4,5,6,7,8,9,10,11,12,13,14]⟩))))))))
     · omega
     · exact i1.succ ‹_› ‹_›
    replace h52:=xq h52
    refine zS [8,9,10,11,12,13,14,15] 8 (H) (rtp 16 (.bool true) H ?_)
    refine rtp 17 (.bool true) H ?_
    refine xH qh (t_n (c_ret (ret1 (.bool true) rfl rfl ⟨_,rfl,?_⟩)))
    replace H:=H.erases [0]
    dsimp only [vJ,List.eraseIdx] at H
    refine zjn (xF true rfl (fun _=>zcr (sps [yI i,yI i] (zjr (zr5 (ret1 (yI i) rfl rfl ⟨_,rfl,(sw (o_pure (.bool true) (by show some (Value.bool (decide ((i:Int)≥0)))=some (Value.bool true);rw [decide_eq_true qf]) (sp (.bool true) (zjr (ret1 (.bool true) rfl rfl ⟨_,rfl,(sps [.bool false,.bool false] (zjr (ret1 (.bool false) rfl rfl ⟨_,rfl,?_,H.base⟩)))⟩)))))⟩))))) (fun h=>absurd h qj))
    rw [xn (fun h=>by obtain ⟨h1,h2,h3,h4,h5⟩:=h;first | exact ft h1 ‹_› | exact ft h2 ‹_› | exact ft h3 ‹_› | exact h4 ⟨‹_›,‹_›⟩ | (obtain ⟨q1,q2⟩:=h5 i qf;first | exact ft q1 ‹_› | exact absurd q2 ‹_›))]
   refine zx4 (zcr (sp (yI (-1)) (zjr (ret1 (yI (-1)) rfl rfl ⟨_,rfl,(sps [.bool false,.bool false] (zjr (ret1 (.bool false) rfl rfl ⟨_,rfl,(sps [.bool true,.bool true] (zjr (ret1 (.bool true) rfl rfl ⟨_,rfl,?_,H.base⟩)))⟩)))⟩))))
   rw [jP ⟨by assumption,by assumption,by assumption,fun ⟨u,v⟩=>by first | omega | exact ft v ‹_›,(show i=r.qU.length by omega)▸i1⟩]
  replace h20:=xq h20
  refine xZ [34,35,36,37,38,39,40,41,42,43] (sp (.bool true) (zjn (xF true rfl (fun _=>zcr (sp (.bool false) (zjr (t_r (ret1 (.bool false) rfl rfl ⟨_,rfl,?_,H.base⟩))))) (fun h=>absurd h qj))))
  rw [xn (fun h=>by obtain ⟨h1,h2,h3,h4,h5⟩:=h;first | exact ft h1 ‹_› | exact ft h2 ‹_› | exact ft h3 ‹_› | exact h4 ⟨‹_›,‹_›⟩ | (obtain ⟨q1,q2⟩:=h5 i qf;first | exact ft q1 ‹_› | exact absurd q2 ‹_›))]
 replace h17:=xq h17
 refine xZ [27,28,29,30,31] (sps [.bool true,.bool true] (xZ [34,35,36,37,38,39,40,41,42,43] (sp (.bool true) (zjn (xF true rfl (fun _=>zcr (sp (.bool false) (zjr (t_r (ret1 (.bool false) rfl rfl ⟨_,rfl,?_,H.base⟩))))) (fun h=>absurd h qj))))))
 rw [xn (fun h=>by obtain ⟨h1,h2,h3,h4,h5⟩:=h;first | exact ft h1 ‹_› | exact ft h2 ‹_› | exact ft h3 ‹_› | exact h4 ⟨‹_›,‹_›⟩ | (obtain ⟨q1,q2⟩:=h5 i qf;first | exact ft q1 ‹_› | exact absurd q2 ‹_›))]

theorem cloneSS_ok (w:World) (l:yLL) {al:yOA} {Fl:yLN} (hl:qP.rep w Fl [.slice al l.length cl] l) (p0:l.length≤1000000):Calls Tryz.prog 151 #[.slice al l.length cl] w (Ret (fun v w' =>∃ (ra:yOA) (rn:Nat) (rc:Nat) (rx:List Value) (rF:yLN),v=.slice ra rn rc∧(∀ b∈rF,b∈Fl)∧St w w' [rr ra rn rc 22 1 rx] [zk false rF rx l]) w):=by
 refine en func151 ntmps151 ?_
 have H:=(St.start w).arg hl
 have nhl:=qN hl
 clear hl
 have N:=Fresh.nil w.heap.size
 refine zcr (sp yN (zjcc (sp (.slice al l.length cl) (sw (o_eqnil underlying27 al l.length cl rfl (zjn (xF (al.isNone) rfl (fun h1=>?_) (fun h1=>?_))))))))
 ·skip
  refine zcr (sp yN (zjr (t_r ?_)))
  replace H:=H.nilRow 22 1
  replace H:=H.vN (α:=yLI)
  refine ret1 yN rfl rfl ⟨_,rfl,?_,H.base⟩
  obtain rfl:=H.nilOf 1 rfl ‹_›
  replace H:=H.unfree 0 rfl
  exact ⟨none,0,0,[],[],rfl,(by intro b hb;first | (simp at hb;done) | exact id b (by simpa using hb)),H.pick [0] [0]⟩
 refine qV (t_n (zcr (sw (vU H underlying27 ti22 fun b2 w3 H=>sp (.slice al l.length cl) ?_))))
 replace H:=H.boxRow 0 rfl 1 0 rfl qj
 replace H:=H.vN (α:=yLI)
 refine sw (o_appendFR H 0 rfl 1 rfl underlying27 ti22 rfl qj rfl rfl qp qf fun a4 c5 w6 us7 G8 H hG9=>?_)
 replace H:=H.repsCat false 1 rfl 0 rfl qm
 refine sp (.slice a4 (0+l.length) c5) (zjr (ret1 (.slice a4 (0+l.length) c5) rfl rfl ⟨_,rfl,(⟨a4,0+l.length,c5,[]++us7,([]++G8),rfl,(by intro b hb;first | (simp at hb;done) | exact hG9 b (by simpa using hb)),H.pick [0] [0]⟩),H.base⟩))

theorem timesIn_ok (w:World) (l:yLI) (m:yLI) {al:yOA} {Fl:yLN} {am:yOA} {Fm:yLN} (hl:qP.rep w Fl [.slice al l.length cl] l) (hm:qP.rep w Fm [.slice am m.length cm] m) (p0:l.length≤m.length) (p2:∀ q,q < l.length→0≤m[q]! ∧m[q]! ≤1000):Calls Tryz.prog 203 #[.slice al l.length cl,.slice am m.length cm] w (Ret (fun v w' =>v=yI (jg l m)) w):=by
 refine en func203 ntmps203 ?_
 have H:=((St.start w).arg hm).arg hl
 have nhl:=qN hl
 have nhm:=qN hm
 clear hl hm
 have N:=Fresh.nil w.heap.size
 refine zcr (sp (yI 0) (zjc (sp (yI 1000) (zjcc (sp (.slice al l.length cl) (oN rfl (sp (yI 0) (zjn (qY ?_)))))))))
 refine zB (fun m' ρ w1=>∃ (xN:Env) (most:Int) (k:Nat),ρ=upd (upd (upd (upd (upd xN 1 (.slice am m.length cm)) 5 (yI most)) 8 (.slice al l.length cl)) 9 (yI l.length)) 10 (yI k)∧most=yH l m k∧((k:Int)≤l.length)∧m' =(l.length - (k:Int)).toNat∧Fresh w.heap.size []∧St w w1 [] [sF false Fl al cl l,sF false Fm am cm m]) ((l.length - (0:Int)).toNat) ⟨_,1000,0,uE5,(by rfl),qf,rfl,N,H⟩ ?_
 clear H N
 rintro m' ρ w2 ⟨xN,most,k,rfl,rfl,i0,rfl,N,H⟩
 refine zcr (sp (.bool (decide ((k:Int) < l.length))) (zjn (xU (cD rfl (fun h3=>?_) (fun h3=>?_)))))
 ·skip
  refine qV (t_n (xU (qY (zcr (sp (yI k) ?_)))))
  obtain ⟨b4,o5,rfl⟩:=H.addr 0 rfl qf
  refine oI rfl rfl (oL rfl (H.jy 0 rfl k qf qf) (sps [yI k,yI (l[k]!)] (zjc (sps [yI (l[k]!),.bool (decide ((l[k]! :Int) > 0))] (zjn (cD rfl (fun h7=>?_) (fun h7=>?_)))))))
  ·skip
   refine xX (sps [yI (yH l m k),.slice am m.length cm,yI k] ?_)
   obtain ⟨b8,o9,rfl⟩:=H.addr 1 rfl qf
   refine oI rfl rfl (oL rfl (H.jy 1 rfl k qf qf) (sp (yI (l[k]!)) (sw (o_quo (m[k]!) (l[k]!) rfl rfl (by (have:=p2 k qf;omega)) (by (have:=p2 k qf;omega)) (sw (o_min (yH l m k) ((m[k]!) / (l[k]!)) rfl rfl (sp (yI (min (yH l m k) ((m[k]!) / (l[k]!)))) (xY (b_n (t_n (xX (sw (zD k 1 rfl rfl (by (have:=p2 k qf;omega)) (sp (yI (k+1)) (xY (xg (m' :=(l.length - ((k+1):Int)).toNat) qf ⟨_,min (yH l m k) ((m[k]!) / (l[k]!)),k+1,uE5,?_,?_,rfl,N,H⟩))))))))))))))))
   · first | exact (timesTo_pos qf).symm | exact (timesTo_skip qf).symm
   · omega
  refine qV (b_n (t_n (xX (sw (zD k 1 rfl rfl (by (have:=p2 k qf;omega)) (sp (yI (k+1)) (xY (xg (m' :=(l.length - ((k+1):Int)).toNat) qf ⟨_,(yH l m k),k+1,uE5,?_,?_,rfl,N,H⟩))))))))
  · first | exact (timesTo_pos qf).symm | exact (timesTo_skip qf).symm
  · omega
 refine zx4 (zcr (sps [yI (yH l m k),yI (yH l m k)] (zjr (ret1 (yI (yH l m k)) rfl rfl ⟨_,rfl,?_,H.base⟩))))
 obtain rfl:k=l.length:=by omega
 rfl

theorem applicable_ok (w:World) (s:qL) (t:qM) {qA:yOA} {qW:yLN} {qK:yOA} {xy:yLN} {qR:yOA} {xJ:yLN} {xh:yOA} {zn:yLN} {qJ:yOA} {xw:yLN} (xf:qP.rep w qW [.slice qA s.qw.length qy] s.qw) (xG:qP.rep w xy [.slice qK s.qx.length qH] s.qx) (zh:qP.rep w xJ [.slice qR t.qB.length qO] t.qB) (zJ:qP.rep w zn [.slice xh t.qE.length qZ] t.qE) (xK:qP.rep w xw [.slice qJ t.qC.length qI] t.qC) (p0:jZ s) (p1:zK s t):Calls Tryz.prog 112 #[.agg #[yI s.xB,.slice qA s.qw.length qy,.slice qK s.qx.length qH],.agg #[.slice qR t.qB.length qO,.slice xh t.qE.length qZ,.slice qJ t.qC.length qI]] w (Ret (fun v w' =>∃ (ra:yOA) (rn:Nat) (rc:Nat),v=.slice ra rn rc∧Fresh w.heap.size []∧St w w' [rr ra rn rc 2 1 ((appls s t).map (Value.int .i64))] []) w):=by
 refine en func112 ntmps112 ?_
 have H:=(((((St.start w).arg xK).arg zJ).arg zh).arg xG).arg xf
 have ve:=qN xf
 have jh:=qN xG
 have yM:=qN zh
 have Qr:=qN zJ
 have jF:=qN xK
 clear xf xG zh zJ xK
 have N:=Fresh.nil w.heap.size
 have p2:=p0.2.1
 have p3:=p0.1.2.1
 refine zcr (sw (vz H (yS s qA qy qK qH) fun b1 w2 H=>sw (vz H (yT t qR qO xh qZ qJ qI) fun b3 w4 H=>sp yN (zjc (sw (jk [yI 0,yI 0,yI 0,yI 0,yI 0,yI 0] [] (sw (xI H ti166 [yI 0,yI 0,yI 0,yI 0,yI 0,yI 0] fun b5 w6 H=>?_))))))))
 refine sw (zy H 0 [yI 0,yI 0,yI 0,yI 0,yI 0,yI 0] sizeOf166 fun w7 H=>zjcc (sp (yI 0) (zjn (qY ?_))))
 refine zB (fun m' ρ w8=>∃ (xN:Env) (c:Nat) (top:yLI),ρ=upd (upd (upd (upd xN 2 (pp b1 0)) 3 (pp b3 0)) 5 (pp b5 0)) 13 (yI c)∧top=minus c∧((c:Int)≤6)∧m' =(6 - (c:Int)).toNat∧Fresh w.heap.size []∧St w w8 [.box b5 (top.map (Value.int .i64)) 166,.box b3 (yT t qR qO xh qZ qJ qI) 38,.box b1 (yS s qA qy qK qH) 36] [sF false qW qA qy s.qw,sF false xy qK qH s.qx,sF false xJ qR qO t.qB,sF false zn xh qZ t.qE,sF false xw qJ qI t.qC]) ((6 - (0:Int)).toNat) ⟨_,0,[0,0,0,0,0,0],uE4,(by rfl),qf,rfl,N,H⟩ ?_
 clear H N
 rintro m' ρ w9 ⟨xN,c,top,rfl,rfl,i0,rfl,N,H⟩
 refine zcr (sp (.bool (decide ((c:Int) < 6))) (zjn (xU (cD rfl (fun h10=>?_) (fun h10=>?_)))))
 ·skip
  refine qV (t_n (xU (qY (zcr (sps [yI c,yI c] (zjn (xX (sp (yI c) (sw (o_idxArr c underlying166 ti2 rfl rfl qf qf (sw (o_storeArr H 0 rfl (-1) sizeOf2 rfl rfl (i:=c) qf (by simp only [List.length_set,List.length_cons,List.length_nil,minus_len,Xh];omega) fun w11 H=>xY (b_n (t_n (xX (sw (zD c 1 rfl rfl qf (sp (yI (c+1)) (xY (xg (m' :=(6 - ((c+1):Int)).toNat) qf ⟨_,c+1,((minus c).set c (-1)),uE4,?_,?_,rfl,N,H⟩))))))))))))))))))))
  · exact minus_set qf
  · omega
 refine zx4 (zcc (oF rfl (oL rfl (H.cell 2 rfl rfl) (oN rfl (sp (yI 0) (zjn (qY ?_)))))))
 refine zB (fun m' ρ w12=>∃ (xN:Env) (k:Nat) (top_1:yLI),ρ=upd (upd (upd (upd (upd (upd xN 2 (pp b1 0)) 3 (pp b3 0)) 5 (pp b5 0)) 20 (.slice qK s.qx.length qH)) 21 (yI s.qx.length)) 22 (yI k)∧top_1=bests s t (-1) 6 k∧((k:Int)≤s.qx.length)∧m' =(s.qx.length - (k:Int)).toNat∧Fresh w.heap.size []∧St w w12 [.box b5 (top_1.map (Value.int .i64)) 166,.box b3 (yT t qR qO xh qZ qJ qI) 38,.box b1 (yS s qA qy qK qH) 36] [sF false qW qA qy s.qw,sF false xy qK qH s.qx,sF false xJ qR qO t.qB,sF false zn xh qZ t.qE,sF false xw qJ qI t.qC]) ((s.qx.length - (0:Int)).toNat) ⟨_,0,(minus c),uE6,(by exact minus_six qf s t),qf,rfl,N,H⟩ ?_
 clear H N
 rintro m' ρ w13 ⟨xN,k,top_1,rfl,rfl,i0,rfl,N,H⟩
 refine zcr (sp (.bool (decide ((k:Int) < s.qx.length))) (zjn (xU (cD rfl (fun h14=>?_) (fun h14=>?_)))))
 ·skip
  have q:=p0.rule (i:=k) qf
  have qc:=q.1
  have qk:=q.cell
  have qr:=q.2.1
  have q6:(s.qx[k]!).qG.toNat < 6:=by omega
  refine qV (t_n (xU (qY (zcr ?_))))
  obtain ⟨b15,o16,rfl⟩:=H.addr 1 rfl qf
  obtain ⟨ae18Need,ce18Need,Fe18Need,ae18Have,ce18Have,Fe18Have,ae18Lack,ce18Lack,Fe18Lack,ae18Here,ce18Here,Fe18Here,ae18Out,ce18Out,Fe18Out,ae18Into,ce18Into,Fe18Into,H⟩:=H.yc 1 rfl k k qf qf qf
  refine oI rfl rfl (sw (zl [yI ((s.qx[k]!).qG),yI ((s.qx[k]!).zM),.slice ae18Need (((s.qx[k]!).xE).length) ce18Need,.slice ae18Have (((s.qx[k]!).xM).length) ce18Have,.slice ae18Lack (((s.qx[k]!).xO).length) ce18Lack,.slice ae18Here (((s.qx[k]!).xW).length) ce18Here,.slice ae18Out (((s.qx[k]!).vC).length) ce18Out,.slice ae18Into (((s.qx[k]!).qU).length) ce18Into,.bool ((s.qx[k]!).zG)] isAgg121 sizeOf121 rfl (qF (H.get 6 rfl) 0 9) ?_))
  refine sw (xI H ti121 [yI 0,yI 0,yN,yN,yN,yN,yN,yN,.bool false] fun b19 w20 H=>sw (zy H 0 [yI ((s.qx[k]!).qG),yI ((s.qx[k]!).zM),.slice ae18Need (((s.qx[k]!).xE).length) ce18Need,.slice ae18Have (((s.qx[k]!).xM).length) ce18Have,.slice ae18Lack (((s.qx[k]!).xO).length) ce18Lack,.slice ae18Here (((s.qx[k]!).xW).length) ce18Here,.slice ae18Out (((s.qx[k]!).vC).length) ce18Out,.slice ae18Into (((s.qx[k]!).qU).length) ce18Into,.bool ((s.qx[k]!).zG)] sizeOf121 fun w21 H=>?_))
  refine zjc (sw (zl [yI s.xB,.slice qA s.qw.length qy,.slice (aa b15 o16) s.qx.length qH] isAgg36 sizeOf36 rfl (qF (H.cells 3 rfl) 0 3) (sw (zl (yT t qR qO xh qZ qJ qI) isAgg38 sizeOf38 rfl (qF (H.cells 2 rfl) 0 3) ?_))))
  refine sw (zl [yI ((s.qx[k]!).qG),yI ((s.qx[k]!).zM),.slice ae18Need (((s.qx[k]!).xE).length) ce18Need,.slice ae18Have (((s.qx[k]!).xM).length) ce18Have,.slice ae18Lack (((s.qx[k]!).xO).length) ce18Lack,.slice ae18Here (((s.qx[k]!).xW).length) ce18Here,.slice ae18Out (((s.qx[k]!).vC).length) ce18Out,.slice ae18Into (((s.qx[k]!).qU).length) ce18Into,.bool ((s.qx[k]!).zG)] isAgg121 sizeOf121 rfl (qF (H.cells 0 rfl) 0 9) ?_)
  refine sw (oq (isEnabled_ok _ s t (s.qx[k]!) (H.get 7 rfl).1 (H.get 8 rfl).1 (H.get 9 rfl).1 (H.get 10 rfl).1 (H.get 11 rfl).1 (H.get 0 rfl).1 (H.get 1 rfl).1 (H.get 2 rfl).1 (H.get 3 rfl).1 (H.get 4 rfl).1 (H.get 5 rfl).1 qg qg qg) H fun w23 H=>zjn (cP rfl (fun h25=>?_) (fun h25=>?_)))
  ·skip
   refine yY rfl H [0,2,3] fun H=>?_
   have S:=H.jY [0,2,3] [0,1,2,3,4,5,6,7,8,9,10,11]
   refine tF 0 rfl rfl S ?_
   refine tL 1 rfl rfl (fun _ h=>h.cell 0 rfl rfl) S ?_
   refine tF 2 rfl rfl S ?_
   refine tL 3 rfl rfl (fun _ h=>h.cell 0 rfl rfl) S ?_
   refine rt 4 (pp b5 (0+((s.qx[k]!).qG:Int).toNat * 1)) (y_idxArr b5 (0) 6 ((s.qx[k]!).qG) underlying166 ti2 rfl rfl qf qf) S ?_
   refine tF 6 rfl rfl S ?_
   refine tL 7 rfl rfl (fun _ h=>h.cell 0 rfl rfl) S ?_
   refine ro 5 rfl (zF (yI ((bests s t (-1) 6 k)[((s.qx[k]!).qG).toNat]!)) isAgg2 rfl (H.cell 1 rfl (ints_at (iv:=(s.qx[k]!).qG) (i:=(((s.qx[k]!).qG).toNat)) qf (by simp only [List.length_set,List.length_cons,List.length_nil,minus_len,Xh];omega))) (⟨H.pick [0,2,3] [0,1,2,3,4,5,6,7,8,9,10,11],?_⟩))
   have S:=H.jY [0,2,3] [0,1,2,3,4,5,6,7,8,9,10,11]
   refine rt 8 (yI (max ((bests s t (-1) 6 k)[((s.qx[k]!).qG).toNat]!) ((s.qx[k]!).zM))) (y_max ((bests s t (-1) 6 k)[((s.qx[k]!).qG).toNat]!) ((s.qx[k]!).zM) rfl rfl) S ?_
   refine rt 9 (pp b5 (0+((s.qx[k]!).qG:Int).toNat * 1)) (y_idxArr b5 (0) 6 ((s.qx[k]!).qG) underlying166 ti2 rfl rfl qf qf) S ?_
   refine ro 10 rfl (o_storeArr H 1 rfl (max ((bests s t (-1) 6 k)[((s.qx[k]!).qG).toNat]!) ((s.qx[k]!).zM)) sizeOf2 rfl rfl (i:=(((s.qx[k]!).qG).toNat)) qf (by simp only [List.length_set,List.length_cons,List.length_nil,minus_len,Xh];omega) fun w27 H=>⟨H.pick [0,2,3] [0,1,2,3,4,5,6,7,8,9,10,11],(xH qh (b_n (t_n (xX (sw (zD k 1 rfl rfl qf (sp (yI (k+1)) (xY ?_))))))))⟩)
   refine xg (m' :=(s.qx.length - ((k+1):Int)).toNat) qf ⟨_,k+1,((bests s t (-1) 6 k).set (((s.qx[k]!).qG).toNat) (max ((bests s t (-1) 6 k)[((s.qx[k]!).qG).toNat]!) ((s.qx[k]!).zM))),uE6,?_,?_,rfl,N,H.pick [1,2,3] [7,8,9,10,11]⟩
   · first | exact bests_set ‹_› qf | exact bests_skip ‹_›
   · omega
  refine qV (b_n (t_n (xX (sw (zD k 1 rfl rfl qf (sp (yI (k+1)) (xY (xg (m' :=(s.qx.length - ((k+1):Int)).toNat) qf ⟨_,k+1,(bests s t (-1) 6 k),uE6,?_,?_,rfl,N,H.pick [1,2,3] [7,8,9,10,11]⟩))))))))
  · first | exact bests_set ‹_› qf | exact bests_skip ‹_›
  · omega
 refine zx4 (zcr (sw (vU H underlying22 ti2 fun b28 w29 H=>sp (.slice (aa b28 0) 0 0) (zjcc (oF rfl (oL rfl (H.cell 3 rfl rfl) (oN rfl (sp (yI 0) (zjn (qY ?_))))))))))
 replace H:=H.boxRowI 0 [] 0
 refine zB (fun m' ρ w30=>∃ (xN:Env) (vk:yOA) (zq:Nat) (zT:Nat) (out:yLI) (i:Nat),ρ=upd (upd (upd (upd (upd (upd (upd xN 2 (pp b1 0)) 3 (pp b3 0)) 5 (pp b5 0)) 9 (.slice vk zq zT)) 43 (.slice qK s.qx.length qH)) 44 (yI s.qx.length)) 45 (yI i)∧out=applL s t i∧((i:Int)≤s.qx.length)∧m' =(s.qx.length - (i:Int)).toNat∧Fresh w.heap.size []∧St w w30 [rr vk zq zT 2 1 (out.map (Value.int .i64)),.box b5 ((bests s t (-1) 6 k).map (Value.int .i64)) 166,.box b3 (yT t qR qO xh qZ qJ qI) 38,.box b1 (yS s qA qy qK qH) 36] [sF false qW qA qy s.qw,sF false xy qK qH s.qx,sF false xJ qR qO t.qB,sF false zn xh qZ t.qE,sF false xw qJ qI t.qC]) ((s.qx.length - (0:Int)).toNat) ⟨_,(aa b28 0),0,0,([]:yLI),0,uE7,(by rfl),qf,rfl,N,H⟩ ?_
 clear H N
 rintro m' ρ w31 ⟨xN,vk,zq,zT,out,i,rfl,rfl,i0,rfl,N,H⟩
 have hn_out:=H.Xk 0 rfl
 have ll:=applL_le s t i
 refine zcr (sp (.bool (decide ((i:Int) < s.qx.length))) (zjn (xU (cD rfl (fun h32=>?_) (fun h32=>?_)))))
 ·skip
  have q:=p0.rule (i:=i) qf
  have qc:=q.1
  have qk:=q.cell
  have qr:=q.2.1
  have q6:(s.qx[i]!).qG.toNat < 6:=by omega
  refine qV (t_n (xU (qY (zcr (sp (yI i) ?_)))))
  obtain ⟨b33,o34,rfl⟩:=H.addr 1 rfl qf
  obtain ⟨ae36Need,ce36Need,Fe36Need,ae36Have,ce36Have,Fe36Have,ae36Lack,ce36Lack,Fe36Lack,ae36Here,ce36Here,Fe36Here,ae36Out,ce36Out,Fe36Out,ae36Into,ce36Into,Fe36Into,H⟩:=H.yc 1 rfl i i qf qf qf
  refine oI rfl rfl (sw (zl [yI ((s.qx[i]!).qG),yI ((s.qx[i]!).zM),.slice ae36Need (((s.qx[i]!).xE).length) ce36Need,.slice ae36Have (((s.qx[i]!).xM).length) ce36Have,.slice ae36Lack (((s.qx[i]!).xO).length) ce36Lack,.slice ae36Here (((s.qx[i]!).xW).length) ce36Here,.slice ae36Out (((s.qx[i]!).vC).length) ce36Out,.slice ae36Into (((s.qx[i]!).qU).length) ce36Into,.bool ((s.qx[i]!).zG)] isAgg121 sizeOf121 rfl (qF (H.get 6 rfl) 0 9) ?_))
  refine sw (xI H ti121 [yI 0,yI 0,yN,yN,yN,yN,yN,yN,.bool false] fun b37 w38 H=>sp (yI i) ?_)
  refine sw (zy H 0 [yI ((s.qx[i]!).qG),yI ((s.qx[i]!).zM),.slice ae36Need (((s.qx[i]!).xE).length) ce36Need,.slice ae36Have (((s.qx[i]!).xM).length) ce36Have,.slice ae36Lack (((s.qx[i]!).xO).length) ce36Lack,.slice ae36Here (((s.qx[i]!).xW).length) ce36Here,.slice ae36Out (((s.qx[i]!).vC).length) ce36Out,.slice ae36Into (((s.qx[i]!).qU).length) ce36Into,.bool ((s.qx[i]!).zG)] sizeOf121 fun w39 H=>zjn (xU ?_))
  refine ja rfl H fun H=>tF 0 rfl rfl H ?_
  refine tL 1 rfl rfl (fun _ h=>h.cell 0 rfl rfl) H ?_
  refine tF 2 rfl rfl H ?_
  refine tL 3 rfl rfl (fun _ h=>h.cell 0 rfl rfl) H ?_
  refine rt 4 (pp b5 (0+((s.qx[i]!).qG:Int).toNat * 1)) (y_idxArr b5 (0) 6 ((s.qx[i]!).qG) underlying166 ti2 rfl rfl qf qf) H ?_
  refine tL 5 rfl rfl (fun _ h=>h.cell 2 rfl (ints_at (iv:=(s.qx[i]!).qG) (i:=(((s.qx[i]!).qG).toNat)) qf (by simp only [List.length_set,List.length_cons,List.length_nil,minus_len,Xh];omega))) H ?_
  refine rtp 6 (.bool (((s.qx[i]!).zM:Int) == ((bests s t (-1) 6 k)[((s.qx[i]!).qG).toNat]!))) H ?_
  refine rtp 7 (.bool (((s.qx[i]!).zM:Int) == ((bests s t (-1) 6 k)[((s.qx[i]!).qG).toNat]!))) H ?_
  cases h41:(((s.qx[i]!).zM:Int) == ((bests s t (-1) 6 k)[((s.qx[i]!).qG).toNat]!))
  ·skip
   replace h41:=ne_of_beq_false h41
   refine zS [8,9,10,11] 4 (H) (rtp 12 (.bool false) H ?_)
   refine xH qh (t_n (xF false rfl (fun h=>absurd h qj) (fun _=>qV (b_n (t_n (xX (sw (zD i 1 rfl rfl qf (sp (yI (i+1)) (xY (xg (m' :=(s.qx.length - ((i+1):Int)).toNat) qf ⟨_,vk,zq,zT,(applL s t i),i+1,uE7,?_,?_,rfl,N,H.pick [1,2,3,4] [7,8,9,10,11]⟩)))))))))))
   · first | exact applL_yes (appl_yes (n:=6) (z:= -1) (k:=k) qf qf qf q6 ‹_› ‹_›) | exact applL_no (appl_no (n:=6) (z:= -1) (k:=k) qf qf qf q6 ‹_›) | exact applL_no (fun h=>‹¬ EnOk _ _ _› h.1)
   · omega
  replace h41:=eq_of_beq h41
  refine rg 8 (.agg #[yI s.xB,.slice qA s.qw.length qy,.slice (aa b33 o34) s.qx.length qH]) 57 (Qk (cs:=[yI s.xB,.slice qA s.qw.length qy,.slice (aa b33 o34) s.qx.length qH]) isAgg36 sizeOf36 rfl (fun _ h=>qF (h.cells 4 rfl) 0 3)) H ?_
  refine rg 9 (.agg #[.slice qR t.qB.length qO,.slice xh t.qE.length qZ,.slice qJ t.qC.length qI]) 57 (Qk (cs:=(yT t qR qO xh qZ qJ qI)) isAgg38 sizeOf38 rfl (fun _ h=>qF (h.cells 3 rfl) 0 3)) H ?_
  refine rg 10 (.agg #[yI ((s.qx[i]!).qG),yI ((s.qx[i]!).zM),.slice ae36Need (((s.qx[i]!).xE).length) ce36Need,.slice ae36Have (((s.qx[i]!).xM).length) ce36Have,.slice ae36Lack (((s.qx[i]!).xO).length) ce36Lack,.slice ae36Here (((s.qx[i]!).xW).length) ce36Here,.slice ae36Out (((s.qx[i]!).vC).length) ce36Out,.slice ae36Into (((s.qx[i]!).qU).length) ce36Into,.bool ((s.qx[i]!).zG)]) 57 (Qk (cs:=[yI ((s.qx[i]!).qG),yI ((s.qx[i]!).zM),.slice ae36Need (((s.qx[i]!).xE).length) ce36Need,.slice ae36Have (((s.qx[i]!).xM).length) ce36Have,.slice ae36Lack (((s.qx[i]!).xO).length) ce36Lack,.slice ae36Here (((s.qx[i]!).xW).length) ce36Here,.slice ae36Out (((s.qx[i]!).vC).length) ce36Out,.slice ae36Into (((s.qx[i]!).qU).length) ce36Into,.bool ((s.qx[i]!).zG)]) isAgg121 sizeOf121 rfl (fun _ h=>qF (h.cells 0 rfl) 0 9)) H ?_
  refine vS [11] qh qm (r_opG rfl (e:=57) rfl rfl (oq (isEnabled_ok _ s t (s.qx[i]!) (H.get 7 rfl).1 (H.get 8 rfl).1 (H.get 9 rfl).1 (H.get 10 rfl).1 (H.get 11 rfl).1 (H.get 0 rfl).1 (H.get 1 rfl).1 (H.get 2 rfl).1 (H.get 3 rfl).1 (H.get 4 rfl).1 (H.get 5 rfl).1 qg qg qg) H fun w43 H=>⟨H,(rtp 12 (.bool (dec (EnOk s t (s.qx[i]!)))) H ?_)⟩) vT)
  refine xH qh (t_n (cP rfl (fun h45=>?_) (fun h45=>?_)))
  ·skip
   refine xX (sps [.slice vk zq zT,yI i] (sw (zI H underlying22 ti2 [yI i] fun b46 w47 H=>sw (zO H 2 rfl 0 rfl underlying22 ti2 rfl qj rfl rfl rfl (by simp [Value.oneCell',Value.cells]) qp qf fun a48 c49 w50 H=>?_))))
   rw [snocI] at H
   refine sp (.slice a48 (zq+1) c49) (xY (b_n (t_n (xX (sw (zD i 1 rfl rfl qf (sp (yI (i+1)) (xY (xg (m' :=(s.qx.length - ((i+1):Int)).toNat) qf ⟨_,a48,zq+1,c49,((applL s t i)++[(i:Int)]),i+1,uE7,?_,?_,rfl,N,H.pick [2,3,4,5] [7,8,9,10,11]⟩)))))))))
   · first | exact applL_yes (appl_yes (n:=6) (z:= -1) (k:=k) qf qf qf q6 ‹_› ‹_›) | exact applL_no (appl_no (n:=6) (z:= -1) (k:=k) qf qf qf q6 ‹_›) | exact applL_no (fun h=>‹¬ EnOk _ _ _› h.1)
   · omega
  refine qV (b_n (t_n (xX (sw (zD i 1 rfl rfl qf (sp (yI (i+1)) (xY (xg (m' :=(s.qx.length - ((i+1):Int)).toNat) qf ⟨_,vk,zq,zT,(applL s t i),i+1,uE7,?_,?_,rfl,N,H.pick [1,2,3,4] [7,8,9,10,11]⟩))))))))
  · first | exact applL_yes (appl_yes (n:=6) (z:= -1) (k:=k) qf qf qf q6 ‹_› ‹_›) | exact applL_no (appl_no (n:=6) (z:= -1) (k:=k) qf qf qf q6 ‹_›) | exact applL_no (fun h=>‹¬ EnOk _ _ _› h.1)
  · omega
 refine zx4 (zcr (sps [.slice vk zq zT,.slice vk zq zT] (zjr (ret1 (.slice vk zq zT) rfl rfl ⟨_,rfl,?_,H.base⟩))))
 obtain rfl:i=s.qx.length:=by omega
 exact ⟨vk,zq,zT,rfl,N,H.pick [0] []⟩
theorem around_ok (w:World) (s:qL) {qA:yOA} {qW:yLN} {qK:yOA} {xy:yLN} (xf:qP.rep w qW [.slice qA s.qw.length qy] s.qw) (xG:qP.rep w xy [.slice qK s.qx.length qH] s.qx):Calls Tryz.prog 154 #[.agg #[yI s.xB,.slice qA s.qw.length qy,.slice qK s.qx.length qH]] w (Ret (fun v w' =>v=yI s.qw.length) w):=by
 refine en func154 ntmps154 ?_
 have H:=((St.start w).arg xG).arg xf
 have ve:=qN xf
 have jh:=qN xG
 clear xf xG
 have N:=Fresh.nil w.heap.size
 refine zcr (sw (vz H (yS s qA qy qK qH) fun b1 w2 H=>sp (yI 0) (zjc (oF rfl (oL rfl (H.cell 0 rfl rfl) (oN rfl (sp (yI s.qw.length) (zjr (ret1 (yI s.qw.length) rfl rfl ⟨_,rfl,?_,H.base⟩)))))))))
 rfl

theorem step_ok (w:World) (s:qL) (t:qM) (counts:yLI) {qA:yOA} {qW:yLN} {qK:yOA} {xy:yLN} {qR:yOA} {xJ:yLN} {xh:yOA} {zn:yLN} {qJ:yOA} {xw:yLN} {acounts:yOA} {Fcounts:yLN} (xf:qP.rep w qW [.slice qA s.qw.length qy] s.qw) (xG:qP.rep w xy [.slice qK s.qx.length qH] s.qx) (zh:qP.rep w xJ [.slice qR t.qB.length qO] t.qB) (zJ:qP.rep w zn [.slice xh t.qE.length qZ] t.qE) (xK:qP.rep w xw [.slice qJ t.qC.length qI] t.qC) (hcounts:qP.rep w Fcounts [.slice acounts counts.length ccounts] counts) (p0:jZ s) (p1:zK s t) (p2:CntOk s counts) (p3:IsCh s t counts):Calls Tryz.prog 125 #[.agg #[yI s.xB,.slice qA s.qw.length qy,.slice qK s.qx.length qH],.agg #[.slice qR t.qB.length qO,.slice xh t.qE.length qZ,.slice qJ t.qC.length qI],.slice acounts counts.length ccounts] w (Ret (fun v w' =>∃ (ra0Alive:yOA) (rn0Alive:Nat) (rc0Alive:Nat) (ra0Bags:yOA) (rn0Bags:Nat) (rc0Bags:Nat) (rx0Bags:List Value) (rF0Bags:yLN) (ra0Around:yOA) (rn0Around:Nat) (rc0Around:Nat),v=.tuple #[.agg #[.slice ra0Alive rn0Alive rc0Alive,.slice ra0Bags rn0Bags rc0Bags,.slice ra0Around rn0Around rc0Around],yI ((zA s t counts).2)]∧Fresh w.heap.size [rF0Bags]∧St w w' [rr ra0Alive rn0Alive rc0Alive 4 1 ((((zA s t counts).1).qB).map (Value.bool)),rr ra0Bags rn0Bags rc0Bags 22 1 rx0Bags,rr ra0Around rn0Around rc0Around 2 1 ((((zA s t counts).1).qC).map (Value.int .i64))] [zk true rF0Bags rx0Bags (((zA s t counts).1).qE)]) w):=by
 refine en func125 ntmps125 ?_
 have H:=((((((St.start w).arg hcounts).arg xK).arg zJ).arg zh).arg xG).arg xf
 have ve:=qN xf
 have jh:=qN xG
 have yM:=qN zh
 have Qr:=qN zJ
 have jF:=qN xK
 have nhcounts:=qN hcounts
 clear xf xG zh zJ xK hcounts
 have N:=Fresh.nil w.heap.size
 have p5:=p0.2.1
 have p6:=p2.1
 have p7:=p1.2.1
 have p8:=kinds_le p0
 have p9:=p0.1.2.1
 have p11:jb s=s.qw.length:=rfl
 have p12:=p1.1
 have p15:=p0.1
 have p16:=p0.1.1
 have p17:=p1.around.1
 refine zcr (sw (vz H (yS s qA qy qK qH) fun b1 w2 H=>sw (vz H (yT t qR qO xh qZ qJ qI) fun b3 w4 H=>sw (xI H ti38 [yN,yN,yN] fun b5 w6 H=>sp (yI 0) (zjn (xU ?_))))))
 refine c_cut (fun ρ w11=>∃ (xN:Env) (a7:yOA) (c8:Nat) (rx9:List Value) (rF10:yLN),ρ=upd (upd (upd (upd (upd xN 2 (.slice acounts counts.length ccounts)) 3 (pp b1 0)) 4 (pp b3 0)) 6 (pp b5 0)) 8 (.slice a7 (t.qE.length+1) c8)∧Fresh w.heap.size []∧St w w11 [rr a7 (t.qE.length+1) c8 22 1 (rx9++[.slice qJ t.qC.length qI]),.box b5 [yN,yN,yN] 38,.box b3 (yT t qR qO xh qZ qJ qI) 38,.box b1 (yS s qA qy qK qH) 36] [zk false (rF10++xw) (rx9++[.slice qJ t.qC.length qI]) (t.qE++[t.qC]),sF false qW qA qy s.qw,sF false xy qK qH s.qx,sF false xJ qR qO t.qB,sF false zn xh qZ t.qE,sF false xw qJ qI t.qC,sF false Fcounts acounts ccounts counts]) ?_ ?_
 ·skip
  refine ja rfl H fun H=>tF 0 rfl rfl H ?_
  refine tL 1 rfl rfl (fun _ h=>h.cell 1 rfl rfl) H ?_
  refine tF 3 rfl rfl H ?_
  refine tL 4 rfl rfl (fun _ h=>h.cell 1 rfl rfl) H ?_
  refine vS [2,5] qh qm (jA rfl ?_ (jA rfl ?_ vT))
  ·skip
   have sz16:=H.base.size
   refine oc (cloneSS_ok _ t.qE (H.get 3 rfl).1 qg) ?_
   rintro _ w14 ⟨ra13,rn13,rc13,rx13,rF13,rfl,hG18,K⟩ _
   replace H:=H.mergeIn K 3 rfl hG18
   obtain rfl:=H.zo (α:=yLI) 0 rfl 0 rfl qj
   refine ⟨H.pick [1,2,3] [1,2,3,4,5,6],(ro 5 rfl (zI H underlying27 ti22 [.slice qJ t.qC.length qI] fun b19 w20 H=>⟨H.pick [2,3,4] [1,2,3,4,5,6],(ro 6 rfl (zO H 1 rfl 0 rfl underlying27 ti22 rfl qj rfl rfl rfl (by simp [Value.oneCell',Value.cells]) qp qf fun a21 c22 w23 H=>?_))⟩))⟩
   replace H:=H.yj 0 rfl 5 rfl
   refine ⟨H.pick [2,3,4] [2,3,4,5,6,7],(rtp 7 (.slice a21 (t.qE.length+1) c22) (H.pick [2,3,4] [2,3,4,5,6,7]) ?_)⟩
   refine xH qh ((meet ⟨_,a21,c22,rx13,rF13,uE5,N,H.pick [1,2,3,4] [0,2,3,4,5,6,7]⟩))
  refine zI H underlying27 ti22 [.slice qJ t.qC.length qI] fun b24 w25 H=>⟨H.pick [1,2,3] [0,1,2,3,4,5],(ro 2 rfl ?_)⟩
  have sz29:=H.base.size
  refine oc (cloneSS_ok _ t.qE (H.get 3 rfl).1 qg) ?_
  rintro _ w27 ⟨ra26,rn26,rc26,rx26,rF26,rfl,hG31,K⟩ _
  replace H:=H.mergeIn K 3 rfl hG31
  obtain rfl:=H.zo (α:=yLI) 0 rfl 0 rfl qj
  refine ⟨H.pick [2,3,4] [1,2,3,4,5,6],(ro 6 rfl (zO H 0 rfl 1 rfl underlying27 ti22 rfl qj rfl rfl rfl (by simp [Value.oneCell',Value.cells]) qp qf fun a32 c33 w34 H=>?_))⟩
  replace H:=H.yj 0 rfl 5 rfl
  refine ⟨H.pick [2,3,4] [2,3,4,5,6,7],(rtp 7 (.slice a32 (t.qE.length+1) c33) (H.pick [2,3,4] [2,3,4,5,6,7]) ?_)⟩
  refine xH qh ((meet ⟨_,a32,c33,rx26,rF26,uE5,N,H.pick [0,2,3,4] [0,2,3,4,5,6,7]⟩))
 clear H N
 rintro ρ w35 ⟨xN,a7,c8,rx9,rF10,rfl,N,H⟩
 refine t_n (zcr (oF rfl (oL rfl (H.cell 3 rfl rfl) (oN rfl (sw (o_makeB H underlying26 ti4 s.qw.length rfl rfl qf qf qf fun b36 w37 H=>sp (.slice (aa b36 0) s.qw.length s.qw.length) (zjcc (sp (.slice acounts counts.length ccounts) (oN rfl (sp (yI 0) (zjn (qY ?_))))))))))))
 refine zB (fun m' ρ w38=>∃ (xN:Env) (i:Nat) (melts:List Bool) (bags:yLL) (x_bags:List Value) (F_bags:yLN),ρ=upd (upd (upd (upd (upd (upd (upd (upd xN 3 (pp b1 0)) 4 (pp b3 0)) 6 (pp b5 0)) 8 (.slice a7 (t.qE.length+1) c8)) 9 (.slice (aa b36 0) s.qw.length s.qw.length)) 26 (.slice acounts counts.length ccounts)) 27 (yI counts.length)) 28 (yI i)∧melts=yt s counts s.qw.length i∧((i:Int)≤counts.length)∧(Ent (s.qw.length+1) (Qj s) (fun p q=>base0 s t p q+allS s t counts i p q) (20000000+6000000 * i) bags)∧(bags.length=s.qw.length+1)∧m' =(counts.length - (i:Int)).toNat∧Fresh w.heap.size []∧St w w38 [rr (aa b36 0) s.qw.length s.qw.length 4 1 (melts.map (Value.bool)),rr a7 (t.qE.length+1) c8 22 1 x_bags,.box b5 [yN,yN,yN] 38,.box b3 (yT t qR qO xh qZ qJ qI) 38,.box b1 (yS s qA qy qK qH) 36] [zk false F_bags x_bags bags,sF false qW qA qy s.qw,sF false xy qK qH s.qx,sF false xJ qR qO t.qB,sF false zn xh qZ t.qE,sF false xw qJ qI t.qC,sF false Fcounts acounts ccounts counts]) ((counts.length - (0:Int)).toNat) ⟨_,0,(List.replicate s.qw.length (false)),(t.qE++[t.qC]),rx9++[.slice qJ t.qC.length qI],(rF10++xw),uE8,(by exact meltsL_zero s counts _),qf,(by exact (start_ent p1).to (fun _ _=>rfl) qf),(by simp;omega),rfl,N,H⟩ ?_
 clear H N
 rintro m' ρ w39 ⟨xN,i,melts,bags,x_bags,F_bags,rfl,rfl,i0,E_bags,z_bags,rfl,N,H⟩
 have hn_melts:=H.rowNB 0 rfl
 have hn_bags:=H.zo (α:=yLI) 1 rfl 0 rfl qj
 refine zcr (sp (.bool (decide ((i:Int) < counts.length))) (zjn (xU (cD rfl (fun h40=>?_) (fun h40=>?_)))))
 ·skip
  have q:=p0.rule (i:=i) qf
  have qc:=q.1
  have qk:=q.cell
  have qr:=q.2.1
  have bn1:=q.2.2.2.2.1
  have bn2:=q.2.2.2.2.2.2.2.1
  have bn3:=q.2.2.2.2.2.2.2.2.1
  have ln1:=bn1.len
  have ln2:=bn2.len
  have ln3:=bn3.len
  have p10:=p2.bd (i:=i) qf
  have qn:=q.2.2.2.1
  have ml:=meltsL_len s counts s.qw.length i
  refine qV (t_n (xU (qY (zcr (sp (yI i) ?_)))))
  obtain ⟨b41,o42,rfl⟩:=H.addr 6 rfl qf
  refine oI rfl rfl (oL rfl (H.jy 6 rfl i qf qf) (sps [yI i,yI (counts[i]!)] (zjc (oF rfl (oL rfl (H.cell 4 rfl rfl) (sp (yI i) ?_))))))
  obtain ⟨b44,o45,rfl⟩:=H.addr 2 rfl qf
  obtain ⟨XW,XO,Fe47Need,XY,XQ,Fe47Have,XX,XP,Fe47Lack,Xf,Xd,Fe47Here,XG,XE,Fe47Out,Xe,Xc,Fe47Into,H⟩:=H.yc 2 rfl i i qf qf qf
  refine oI rfl rfl (sw (zl [yI ((s.qx[i]!).qG),yI ((s.qx[i]!).zM),.slice XW (((s.qx[i]!).xE).length) XO,.slice XY (((s.qx[i]!).xM).length) XQ,.slice XX (((s.qx[i]!).xO).length) XP,.slice Xf (((s.qx[i]!).xW).length) Xd,.slice XG (((s.qx[i]!).vC).length) XE,.slice Xe (((s.qx[i]!).qU).length) Xc,.bool ((s.qx[i]!).zG)] isAgg121 sizeOf121 rfl (qF (H.get 6 rfl) 0 9) ?_))
  refine sw (xI H ti121 [yI 0,yI 0,yN,yN,yN,yN,yN,yN,.bool false] fun b48 w49 H=>sw (zy H 0 [yI ((s.qx[i]!).qG),yI ((s.qx[i]!).zM),.slice XW (((s.qx[i]!).xE).length) XO,.slice XY (((s.qx[i]!).xM).length) XQ,.slice XX (((s.qx[i]!).xO).length) XP,.slice Xf (((s.qx[i]!).xW).length) Xd,.slice XG (((s.qx[i]!).vC).length) XE,.slice Xe (((s.qx[i]!).qU).length) Xc,.bool ((s.qx[i]!).zG)] sizeOf121 fun w50 H=>?_))
  refine zjn (xU ?_)
  refine yY rfl H [0,1,3,4,5] fun H=>?_
  have S:=H.jY [0,1,3,4,5] [0,1,2,3,4,5,6,7,8,9,10,11,12,13]
  refine rtp 0 (.slice a7 (t.qE.length+1) c8) S ?_
  refine tF 1 rfl rfl S ?_
  refine tL 2 rfl rfl (fun _ h=>h.cell 0 rfl rfl) S ?_
  refine rtp 3 (.slice a7 (t.qE.length+1) c8) S ?_
  refine tF 4 rfl rfl S ?_
  refine tL 5 rfl rfl (fun _ h=>h.cell 0 rfl rfl) S ?_
  obtain ⟨b52,rfl⟩:=H.yP 2 rfl qf
  have S:=H.jY [0,1,3,4,5] [0,1,2,3,4,5,6,7,8,9,10,11,12,13]
  refine tI 6 rfl rfl rfl S ?_
  refine tF 8 rfl rfl S ?_
  refine tL 9 rfl rfl (fun _ h=>h.cell 0 rfl rfl) S ?_
  refine rtp 10 (yI (counts[i]!)) S ?_
  refine rt 11 (yI (-(counts[i]!))) (y_neg (counts[i]!) rfl qf) S ?_
  refine ro 7 rfl ?_
  obtain ⟨a53,c54,G55,s56,h57,H⟩:=H.jO 2 rfl 7 rfl (iv:=(s.qx[i]!).qG) (((s.qx[i]!).qG).toNat) qf qf
  refine zF (.slice a53 ((bags[((s.qx[i]!).qG).toNat]!).length) c54) isAgg22 rfl (h57) (⟨H.pick [0,1,3,4,5] [1,2,3,4,5,6,7,8,9,10,11,12,13,14],(ro 12 rfl ?_)⟩)
  obtain ⟨u1,u2⟩:=E_bags.sh.row (c:=((s.qx[i]!).qG).toNat) qf p8 qf
  have u4:=(by first | exact bn1.yJ qf | exact bn2.yJ qf | exact bn3.yJ qf | exact bn4.yJ qf:SmallT ((s.qx[i]!).xE) (-(counts[i]!)))
  have sz58:=H.base.size
  refine oc (plus_ok _ (bags[((s.qx[i]!).qG).toNat]!) ((s.qx[i]!).xE) (-(counts[i]!)) (H.get 0 rfl).1 (H.get 1 rfl).1 qg qg qg) ?_
  rintro v63 w61 r63 x62
  replace H:=H.zC x62 r63
  obtain ⟨a64,c65,rfl,hc66,hm67⟩:=H.ji 0 rfl
  refine ⟨H.pick [1,2,4,5,6] [1,2,3,4,5,6,7,8,9,10,11,12,13,14],(tI 13 rfl rfl rfl (H.pick [1,2,4,5,6] [1,2,3,4,5,6,7,8,9,10,11,12,13,14]) ?_)⟩
  refine ro 14 rfl ?_
  obtain ⟨G69,N,hn70,H⟩:=H.vP 0 rfl N (H.yg [])
  refine jB false H 3 rfl 9 rfl (.slice a64 ((vY (bags[((s.qx[i]!).qG).toNat]!) ((s.qx[i]!).xE) (-(counts[i]!))).length) c65) 0 rfl rfl sizeOf22 rfl rfl (i:=(((s.qx[i]!).qG).toNat)) qf qf qm fun w68 xs71 F72 hs73 H=>⟨H.pick [1,2,4,5,6] [3,4,5,6,7,8,9,10,11,12,13,14,15,16],(xH qh (t_n (zcr (sw (zl [yI s.xB,.slice qA s.qw.length qy,.slice (aa b44 o45) s.qx.length qH] isAgg36 sizeOf36 rfl (qF (H.cells 6 rfl) 0 3) ?_)))))⟩
  refine sw (zl (yT t qR qO xh qZ qJ qI) isAgg38 sizeOf38 rfl (qF (H.cells 5 rfl) 0 3) (sp (.slice (aa b52 0) (t.qE.length+1) c8) ?_))
  refine sw (zl [yI ((s.qx[i]!).qG),yI ((s.qx[i]!).zM),.slice XW (((s.qx[i]!).xE).length) XO,.slice XY (((s.qx[i]!).xM).length) XQ,.slice XX (((s.qx[i]!).xO).length) XP,.slice Xf (((s.qx[i]!).xW).length) Xd,.slice XG (((s.qx[i]!).vC).length) XE,.slice Xe (((s.qx[i]!).qU).length) Xc,.bool ((s.qx[i]!).zG)] isAgg121 sizeOf121 rfl (qF (H.cells 1 rfl) 0 9) (sp (yI (counts[i]!)) ?_))
  obtain ⟨bg74,e_bg74⟩:∃ z,z=(bags.set (((s.qx[i]!).qG).toNat) (vY (bags[((s.qx[i]!).qG).toNat]!) ((s.qx[i]!).xE) (-(counts[i]!)))):=⟨_,rfl⟩
  rw [← e_bg74] at H
  have E_bg74:=Ent.add (D:=1000000) E_bags e_bg74 qf (by first | exact bn1.mul qf | exact bn2.mul qf | exact bn3.mul qf | exact bn4.mul qf) qf
  have z_bg74:=E_bg74.sh.1
  have E_cur:=E_bg74
  refine sw (zZ #[.agg #[yI s.xB,.slice qA s.qw.length qy,.slice (aa b44 o45) s.qx.length qH],.agg #[.slice qR t.qB.length qO,.slice xh t.qE.length qZ,.slice qJ t.qC.length qI],.slice (aa b52 0) (t.qE.length+1) c8,.agg #[yI ((s.qx[i]!).qG),yI ((s.qx[i]!).zM),.slice XW (((s.qx[i]!).xE).length) XO,.slice XY (((s.qx[i]!).xM).length) XQ,.slice XX (((s.qx[i]!).xO).length) XP,.slice Xf (((s.qx[i]!).xW).length) Xd,.slice XG (((s.qx[i]!).vC).length) XE,.slice Xe (((s.qx[i]!).qU).length) Xc,.bool ((s.qx[i]!).zG)],yI (counts[i]!)] rfl rfl call153 ?_)
  refine en func153 ntmps153 ?_
  refine zcr (sw (vz H [yI s.xB,.slice qA s.qw.length qy,.slice (aa b44 o45) s.qx.length qH] fun b75 w76 H=>sw (vz H (yT t qR qO xh qZ qJ qI) fun b77 w78 H=>sw (vz H [.slice (aa b52 0) (t.qE.length+1) c8] fun b79 w80 H=>?_))))
  refine sw (vz H [yI ((s.qx[i]!).qG),yI ((s.qx[i]!).zM),.slice XW (((s.qx[i]!).xE).length) XO,.slice XY (((s.qx[i]!).xM).length) XQ,.slice XX (((s.qx[i]!).xO).length) XP,.slice Xf (((s.qx[i]!).xW).length) Xd,.slice XG (((s.qx[i]!).vC).length) XE,.slice Xe (((s.qx[i]!).qU).length) Xc,.bool ((s.qx[i]!).zG)] fun b81 w82 H=>sw (vz H [yI (counts[i]!)] fun b83 w84 H=>zjc ?_))
  refine sps [.func (.func 191) #[] #[pp b79 0,pp b83 0],.func (.func 191) #[] #[pp b79 0,pp b83 0]] (zjc (sp (.func (.func 191) #[] #[pp b79 0,pp b83 0]) (oF rfl (oL rfl (H.cell 1 rfl rfl) (oF rfl (oL rfl (H.cell 1 rfl rfl) (sw (zZ #[yI ((s.qx[i]!).qG),.slice Xf (((s.qx[i]!).xW).length) Xd,pp b79 0,pp b83 0] rfl rfl call191 (en func191 ntmps191 ?_)))))))))
  refine yY rfl H [0,1,2,3,4,5,6,7,9,10,11] fun H=>?_
  have S:=H.jY [0,1,2,3,4,5,6,7,9,10,11] [0,1,2,3,4,5,6,7,8,9,10,11,12,13,14,15,16]
  refine tL 0 rfl rfl (fun _ h=>h.cell 2 rfl rfl) S ?_
  refine rtp 1 (yI ((s.qx[i]!).qG)) S ?_
  refine tL 2 rfl rfl (fun _ h=>h.cell 2 rfl rfl) S ?_
  refine rtp 3 (yI ((s.qx[i]!).qG)) S ?_
  refine tI 4 rfl rfl rfl S ?_
  refine rtp 6 (.slice Xf (((s.qx[i]!).xW).length) Xd) S ?_
  refine tL 7 rfl rfl (fun _ h=>h.cell 0 rfl rfl) S ?_
  refine ro 5 rfl ?_
  obtain ⟨a86,c87,G88,s89,h90,H⟩:=H.jO 8 rfl 0 rfl (iv:=(s.qx[i]!).qG) (((s.qx[i]!).qG).toNat) qf qf
  refine zF (.slice a86 ((bg74[((s.qx[i]!).qG).toNat]!).length) c87) isAgg22 rfl (h90) (⟨H.pick [0,1,2,3,4,5,6,7,9,10,11] [1,2,3,4,5,6,7,8,9,10,11,12,13,14,15,16,17],(ro 8 rfl ?_)⟩)
  obtain ⟨u1,u2⟩:=E_bg74.sh.row (c:=((s.qx[i]!).qG).toNat) qf p8 qf
  have u4:=(by first | exact bn1.yJ qf | exact bn2.yJ qf | exact bn3.yJ qf | exact bn4.yJ qf:SmallT ((s.qx[i]!).xW) (counts[i]!))
  have sz91:=H.base.size
  have lt92:=H.ltN (L:=[G69]) [2]
  refine oc (plus_ok _ (bg74[((s.qx[i]!).qG).toNat]!) ((s.qx[i]!).xW) (counts[i]!) (H.get 0 rfl).1 (H.get 7 rfl).1 qg qg qg) ?_
  rintro v96 w94 r96 x95
  replace H:=H.zC x95 r96
  obtain ⟨a97,c98,rfl,hc99,hm100⟩:=H.ji 0 rfl
  refine ⟨H.pick [1,2,3,4,5,6,7,8,10,11,12] [1,2,3,4,5,6,7,8,9,10,11,12,13,14,15,16,17],(tI 9 rfl rfl rfl (H.pick [1,2,3,4,5,6,7,8,10,11,12] [1,2,3,4,5,6,7,8,9,10,11,12,13,14,15,16,17]) ?_)⟩
  refine ro 10 rfl ?_
  obtain ⟨G102,N,hn103,H⟩:=H.vP 0 rfl N (H.yg [2])
  refine jB false H 9 rfl 2 rfl (.slice a97 ((vY (bg74[((s.qx[i]!).qG).toNat]!) ((s.qx[i]!).xW) (counts[i]!)).length) c98) 0 rfl rfl sizeOf22 rfl rfl (i:=(((s.qx[i]!).qG).toNat)) qf qf qm fun w101 xs104 F105 hs106 H=>⟨H.pick [1,2,3,4,5,6,7,8,10,11,12] [3,4,5,6,7,8,9,10,11,12,13,14,15,16,17,18,19],(xH qh ((ret0 rfl ⟨_,rfl,?_⟩)))⟩
  replace H:=H.erases [6,0]
  dsimp only [vJ,List.eraseIdx] at H
  obtain ⟨bg107,e_bg107⟩:∃ z,z=(bg74.set (((s.qx[i]!).qG).toNat) (vY (bg74[((s.qx[i]!).qG).toNat]!) ((s.qx[i]!).xW) (counts[i]!))):=⟨_,rfl⟩
  rw [← e_bg107] at H
  have E_bg107:=Ent.add (D:=1000000) E_bg74 e_bg107 qf (by first | exact bn1.mul qf | exact bn2.mul qf | exact bn3.mul qf | exact bn4.mul qf) qf
  have z_bg107:=E_bg107.sh.1
  have E_cur:=E_bg107
  refine zjcc (sw (zl [yI s.xB,.slice qA s.qw.length qy,.slice (aa b44 o45) s.qx.length qH] isAgg36 sizeOf36 rfl (qF (H.cells 4 rfl) 0 3) (sw (zl (yT t qR qO xh qZ qJ qI) isAgg38 sizeOf38 rfl (qF (H.cells 3 rfl) 0 3) (oF rfl (oL rfl (H.cell 1 rfl rfl) ?_))))))
  have qc' :=qc
  refine sw (oq (parentNow_ok _ s t ((s.qx[i]!).qG) (H.get 14 rfl).1 (H.get 15 rfl).1 (H.get 16 rfl).1 (H.get 17 rfl).1 (H.get 18 rfl).1 qg qg qg) H fun w109 H=>?_)
  have pl:=parentNow_lt p15 p1.2.2.1 qc
  refine sp (yI (xx s t ((s.qx[i]!).qG))) (zjc (sps [yI (xx s t ((s.qx[i]!).qG)),.bool (decide ((xx s t ((s.qx[i]!).qG):Int)≥0))] (zjn (cD rfl (fun h111=>?_) (fun h111=>?_)))))
  ·skip
   have po:=outPl_in (r:=s.qx[i]!) p15 ‹_›
   refine xX (sps [.func (.func 191) #[] #[pp b79 0,pp b83 0],yI (xx s t ((s.qx[i]!).qG))] (oF rfl (oL rfl (H.cell 1 rfl rfl) (sw (zZ #[yI (xx s t ((s.qx[i]!).qG)),.slice XG (((s.qx[i]!).vC).length) XE,pp b79 0,pp b83 0] rfl rfl call191 (en func191 ntmps191 ?_))))))
   refine yY rfl H [0,1,2,3,4,5,6,8,9,10] fun H=>?_
   have S:=H.jY [0,1,2,3,4,5,6,8,9,10] [0,1,2,3,4,5,6,7,8,9,10,11,12,13,14,15,16,17,18,19]
   refine tL 0 rfl rfl (fun _ h=>h.cell 2 rfl rfl) S ?_
   refine rtp 1 (yI (xx s t ((s.qx[i]!).qG))) S ?_
   refine tL 2 rfl rfl (fun _ h=>h.cell 2 rfl rfl) S ?_
   refine rtp 3 (yI (xx s t ((s.qx[i]!).qG))) S ?_
   refine tI 4 rfl rfl rfl S ?_
   refine rtp 6 (.slice XG (((s.qx[i]!).vC).length) XE) S ?_
   refine tL 7 rfl rfl (fun _ h=>h.cell 0 rfl rfl) S ?_
   refine ro 5 rfl ?_
   obtain ⟨a113,c114,G115,s116,h117,H⟩:=H.jO 7 rfl 0 rfl (iv:=xx s t ((s.qx[i]!).qG)) ((xx s t ((s.qx[i]!).qG)).toNat) qf qf
   refine zF (.slice a113 ((bg107[(xx s t ((s.qx[i]!).qG)).toNat]!).length) c114) isAgg22 rfl (h117) (⟨H.pick [0,1,2,3,4,5,6,8,9,10] [1,2,3,4,5,6,7,8,9,10,11,12,13,14,15,16,17,18,19,20],(ro 8 rfl ?_)⟩)
   obtain ⟨u1,u2⟩:=E_bg107.sh.row (c:=(xx s t ((s.qx[i]!).qG)).toNat) qf p8 qf
   have u4:=(by first | exact bn1.yJ qf | exact bn2.yJ qf | exact bn3.yJ qf | exact bn4.yJ qf:SmallT ((s.qx[i]!).vC) (counts[i]!))
   have sz118:=H.base.size
   have lt119:=H.ltN (L:=[G102,G69]) [2,5]
   refine oc (plus_ok _ (bg107[(xx s t ((s.qx[i]!).qG)).toNat]!) ((s.qx[i]!).vC) (counts[i]!) (H.get 0 rfl).1 (H.get 11 rfl).1 qg qg qg) ?_
   rintro v123 w121 r123 x122
   replace H:=H.zC x122 r123
   obtain ⟨a124,c125,rfl,hc126,hm127⟩:=H.ji 0 rfl
   refine ⟨H.pick [1,2,3,4,5,6,7,9,10,11] [1,2,3,4,5,6,7,8,9,10,11,12,13,14,15,16,17,18,19,20],(tI 9 rfl rfl rfl (H.pick [1,2,3,4,5,6,7,9,10,11] [1,2,3,4,5,6,7,8,9,10,11,12,13,14,15,16,17,18,19,20]) ?_)⟩
   refine ro 10 rfl ?_
   obtain ⟨G129,N,hn130,H⟩:=H.vP 0 rfl N (H.yg [2,5])
   refine jB false H 8 rfl 2 rfl (.slice a124 ((vY (bg107[(xx s t ((s.qx[i]!).qG)).toNat]!) ((s.qx[i]!).vC) (counts[i]!)).length) c125) 0 rfl rfl sizeOf22 rfl rfl (i:=((xx s t ((s.qx[i]!).qG)).toNat)) qf qf qm fun w128 xs131 F132 hs133 H=>⟨H.pick [1,2,3,4,5,6,7,9,10,11] [3,4,5,6,7,8,9,10,11,12,13,14,15,16,17,18,19,20,21,22],(xH qh ((ret0 rfl ⟨_,rfl,?_⟩)))⟩
   replace H:=H.erases [0]
   dsimp only [vJ,List.eraseIdx] at H
   obtain ⟨bg134,e_bg134⟩:∃ z,z=(bg107.set ((xx s t ((s.qx[i]!).qG)).toNat) (vY (bg107[(xx s t ((s.qx[i]!).qG)).toNat]!) ((s.qx[i]!).vC) (counts[i]!))):=⟨_,rfl⟩
   rw [← e_bg134] at H
   have E_bg134:=Ent.add (D:=1000000) E_bg107 e_bg134 qf (by first | exact bn1.mul qf | exact bn2.mul qf | exact bn3.mul qf | exact bn4.mul qf) qf
   have z_bg134:=E_bg134.sh.1
   have E_cur:=E_bg134
   refine zjc (oF rfl (oL rfl (H.cell 1 rfl rfl) (oN rfl (sp (yI 0) (zjn (qY ?_))))))
   refine zB (fun m' ρ w135=>∃ (xN:Env) (k:Nat) (bags_1:yLL) (XK:List Value) (F_bags_1:yLN),ρ=upd (upd (upd (upd xN 10 (.func (.func 191) #[] #[pp b79 0,pp b83 0])) 40 (.slice Xe (((s.qx[i]!).qU).length) Xc)) 41 (yI (((s.qx[i]!).qU).length))) 42 (yI k)∧((k:Int)≤(((s.qx[i]!).qU).length))∧(Ent (s.qw.length+1) (Qj s) (fun p q=>base0 s t p q+allS s t counts i p q+at' p (s.qx[i]!).qG.toNat (-(counts[i]!) * ((s.qx[i]!).xE)[q]!)+at' p (s.qx[i]!).qG.toNat ((counts[i]!) * ((s.qx[i]!).xW)[q]!)+at' p (outPl s t (s.qx[i]!)) ((counts[i]!) * ((s.qx[i]!).vC)[q]!)+intoF (s.qx[i]!) (counts[i]!) k p q) (23000000+6000000 * i+1000000 * k) bags_1)∧(bags_1.length=s.qw.length+1)∧m' =((((s.qx[i]!).qU).length) - (k:Int)).toNat∧Fresh w.heap.size [G69]∧St w w135 [.box b83 [yI (counts[i]!)] 2,.box b81 [yI ((s.qx[i]!).qG),yI ((s.qx[i]!).zM),.slice XW (((s.qx[i]!).xE).length) XO,.slice XY (((s.qx[i]!).xM).length) XQ,.slice XX (((s.qx[i]!).xO).length) XP,.slice Xf (((s.qx[i]!).xW).length) Xd,.slice XG (((s.qx[i]!).vC).length) XE,.slice Xe (((s.qx[i]!).qU).length) Xc,.bool ((s.qx[i]!).zG)] 121,.box b79 [.slice (aa b52 0) (t.qE.length+1) c8] 27,.box b77 (yT t qR qO xh qZ qJ qI) 38,.box b75 [yI s.xB,.slice qA s.qw.length qy,.slice (aa b44 o45) s.qx.length qH] 36,.box b48 [yI ((s.qx[i]!).qG),yI ((s.qx[i]!).zM),.slice XW (((s.qx[i]!).xE).length) XO,.slice XY (((s.qx[i]!).xM).length) XQ,.slice XX (((s.qx[i]!).xO).length) XP,.slice Xf (((s.qx[i]!).xW).length) Xd,.slice XG (((s.qx[i]!).vC).length) XE,.slice Xe (((s.qx[i]!).qU).length) Xc,.bool ((s.qx[i]!).zG)] 121,rr (aa b36 0) s.qw.length s.qw.length 4 1 ((yt s counts s.qw.length i).map (Value.bool)),rr (aa b52 0) (t.qE.length+1) c8 22 1 XK,.box b5 [yN,yN,yN] 38,.box b3 (yT t qR qO xh qZ qJ qI) 38,.box b1 [yI s.xB,.slice qA s.qw.length qy,.slice (aa b44 o45) s.qx.length qH] 36] [zk false F_bags_1 XK bags_1,sF true G69 a64 c65 (vY (bags[((s.qx[i]!).qG).toNat]!) ((s.qx[i]!).xE) (-(counts[i]!))),sF false G55 a53 c54 (bags[((s.qx[i]!).qG).toNat]!),sF false Fe47Need XW XO ((s.qx[i]!).xE),sF false Fe47Have XY XQ ((s.qx[i]!).xM),sF false Fe47Lack XX XP ((s.qx[i]!).xO),sF false Fe47Here Xf Xd ((s.qx[i]!).xW),sF false Fe47Out XG XE ((s.qx[i]!).vC),sF false Fe47Into Xe Xc ((s.qx[i]!).qU),atF b44 (o45+(i:Int).toNat * 9) [yI ((s.qx[i]!).qG),yI ((s.qx[i]!).zM),.slice XW (((s.qx[i]!).xE).length) XO,.slice XY (((s.qx[i]!).xM).length) XQ,.slice XX (((s.qx[i]!).xO).length) XP,.slice Xf (((s.qx[i]!).xW).length) Xd,.slice XG (((s.qx[i]!).vC).length) XE,.slice Xe (((s.qx[i]!).qU).length) Xc,.bool ((s.qx[i]!).zG)],sF false qW qA qy s.qw,sF false xy (aa b44 o45) qH s.qx,sF false xJ qR qO t.qB,sF false zn xh qZ t.qE,sF false xw qJ qI t.qC,sF false Fcounts (aa b41 o42) ccounts counts]) (((((s.qx[i]!).qU).length) - (0:Int)).toNat) ⟨_,0,bg134,xs131,F132,uE4,qf,(by exact E_cur.to (fun p q=>by rw [po];simp only [intoF];first | omega | (simp only [Int.toNat_natCast];omega)) qf),qf,rfl,(N.pick [2]),H.pick [0,1,2,3,4,5,6,7,8,9,10] [0,7,8,9,10,11,12,13,14,15,17,18,19,20,21,22]⟩ ?_
   clear H N
   rintro m' ρ w136 ⟨xN,k,bags_1,XK,F_bags_1,rfl,i0,E_bags_1,z_bags_1,rfl,N,H⟩
   have hn_bags:=H.zo (α:=yLI) 7 rfl 0 rfl qj
   refine zcr (sp (.bool (decide ((k:Int) < (((s.qx[i]!).qU).length)))) (zjn (xU (cD rfl (fun h137=>?_) (fun h137=>?_)))))
   ·skip
    have qi:=q.2.2.2.2.2.2.2.2.2.2 k qf
    have qi1:=qi.1
    have bn4:=qi.2.2.1
    have ln4:=bn4.len
    refine qV (t_n (xU (qY (zcr ?_))))
    obtain ⟨b138,o139,rfl⟩:=H.addr 8 rfl qf
    obtain ⟨ae141Bag,ce141Bag,Fe141Bag,H⟩:=H.jJ 8 rfl k k qf qf qf
    refine oI rfl rfl (sw (zl [yI ((((s.qx[i]!).qU)[k]!).qG),.slice ae141Bag (((((s.qx[i]!).qU)[k]!).jE).length) ce141Bag] isAgg164 sizeOf164 rfl (qF (H.get 1 rfl) 0 2) (sw (xI H ti164 [yI 0,yN] fun b142 w143 H=>sw (zy H 0 [yI ((((s.qx[i]!).qU)[k]!).qG),.slice ae141Bag (((((s.qx[i]!).qU)[k]!).jE).length) ce141Bag] sizeOf164 fun w144 H=>zjn (xX (sp (.func (.func 191) #[] #[pp b79 0,pp b83 0]) (oF rfl (oL rfl (H.cell 0 rfl rfl) (oF rfl (oL rfl (H.cell 0 rfl rfl) ?_)))))))))))
    refine sw (zZ #[yI ((((s.qx[i]!).qU)[k]!).qG),.slice ae141Bag (((((s.qx[i]!).qU)[k]!).jE).length) ce141Bag,pp b79 0,pp b83 0] rfl rfl call191 (en func191 ntmps191 ?_))
    refine yY rfl H [0,1,2,3,4,5,6,7,9,10,11] fun H=>?_
    have S:=H.jY [0,1,2,3,4,5,6,7,9,10,11] [0,1,2,3,4,5,6,7,8,9,10,11,12,13,14,15,16,17]
    refine tL 0 rfl rfl (fun _ h=>h.cell 3 rfl rfl) S ?_
    refine rtp 1 (yI ((((s.qx[i]!).qU)[k]!).qG)) S ?_
    refine tL 2 rfl rfl (fun _ h=>h.cell 3 rfl rfl) S ?_
    refine rtp 3 (yI ((((s.qx[i]!).qU)[k]!).qG)) S ?_
    refine tI 4 rfl rfl rfl S ?_
    refine rtp 6 (.slice ae141Bag (((((s.qx[i]!).qU)[k]!).jE).length) ce141Bag) S ?_
    refine tL 7 rfl rfl (fun _ h=>h.cell 1 rfl rfl) S ?_
    refine ro 5 rfl ?_
    obtain ⟨a146,c147,G148,s149,h150,H⟩:=H.jO 8 rfl 2 rfl (iv:=(((s.qx[i]!).qU)[k]!).qG) (((((s.qx[i]!).qU)[k]!).qG).toNat) qf qf
    refine zF (.slice a146 ((bags_1[((((s.qx[i]!).qU)[k]!).qG).toNat]!).length) c147) isAgg22 rfl (h150) (⟨H.pick [0,1,2,3,4,5,6,7,9,10,11] [1,2,3,4,5,6,7,8,9,10,11,12,13,14,15,16,17,18],(ro 8 rfl ?_)⟩)
    obtain ⟨u1,u2⟩:=E_bags_1.sh.row (c:=((((s.qx[i]!).qU)[k]!).qG).toNat) qf p8 qf
    have u4:=(by first | exact bn1.yJ qf | exact bn2.yJ qf | exact bn3.yJ qf | exact bn4.yJ qf:SmallT ((((s.qx[i]!).qU)[k]!).jE) (counts[i]!))
    have sz151:=H.base.size
    have lt152:=H.ltN (L:=[G69]) [4]
    refine oc (plus_ok _ (bags_1[((((s.qx[i]!).qU)[k]!).qG).toNat]!) ((((s.qx[i]!).qU)[k]!).jE) (counts[i]!) (H.get 0 rfl).1 (H.get 1 rfl).1 qg qg qg) ?_
    rintro v156 w154 r156 x155
    replace H:=H.zC x155 r156
    obtain ⟨a157,c158,rfl,hc159,hm160⟩:=H.ji 0 rfl
    refine ⟨H.pick [1,2,3,4,5,6,7,8,10,11,12] [1,2,3,4,5,6,7,8,9,10,11,12,13,14,15,16,17,18],(tI 9 rfl rfl rfl (H.pick [1,2,3,4,5,6,7,8,10,11,12] [1,2,3,4,5,6,7,8,9,10,11,12,13,14,15,16,17,18]) ?_)⟩
    refine ro 10 rfl ?_
    obtain ⟨G162,N,hn163,H⟩:=H.vP 0 rfl N (H.yg [4])
    refine jB false H 9 rfl 4 rfl (.slice a157 ((vY (bags_1[((((s.qx[i]!).qU)[k]!).qG).toNat]!) ((((s.qx[i]!).qU)[k]!).jE) (counts[i]!)).length) c158) 0 rfl rfl sizeOf22 rfl rfl (i:=(((((s.qx[i]!).qU)[k]!).qG).toNat)) qf qf qm fun w161 xs164 F165 hs166 H=>⟨H.pick [1,2,3,4,5,6,7,8,10,11,12] [3,4,5,6,7,8,9,10,11,12,13,14,15,16,17,18,19,20],(xH qh ((ret0 rfl ⟨_,rfl,?_⟩)))⟩
    replace H:=H.erases [0]
    dsimp only [vJ,List.eraseIdx] at H
    obtain ⟨bg167,e_bg167⟩:∃ z,z=(bags_1.set (((((s.qx[i]!).qU)[k]!).qG).toNat) (vY (bags_1[((((s.qx[i]!).qU)[k]!).qG).toNat]!) ((((s.qx[i]!).qU)[k]!).jE) (counts[i]!))):=⟨_,rfl⟩
    rw [← e_bg167] at H
    have E_bg167:=Ent.add (D:=1000000) E_bags_1 e_bg167 qf (by first | exact bn1.mul qf | exact bn2.mul qf | exact bn3.mul qf | exact bn4.mul qf) qf
    have z_bg167:=E_bg167.sh.1
    have E_cur:=E_bg167
    refine xY (b_n (t_n (xX (sw (zD k 1 rfl rfl qf (sp (yI (k+1)) (xY (xg (m' :=((((s.qx[i]!).qU).length) - ((k+1):Int)).toNat) qf ⟨_,k+1,bg167,xs164,F165,uE4,?_,?_,?_,rfl,(N.pick [1]),H.pick [1,2,3,4,5,6,7,8,9,10,11] [0,6,7,8,9,10,11,12,13,14,15,16,17,18,19,20]⟩))))))))
    · omega
    · exact E_cur.to (fun p q=>by simp only [intoF];omega) qf
    · omega
   refine c_exit (t_x (t_x (b_x (ret0 rfl ⟨_,rfl,?_⟩))))
   replace H:=H.erases [4,3,2,1,0]
   dsimp only [vJ,List.eraseIdx] at H
   refine zjn ?_
   refine yY rfl H [0,2,3,4,5] fun H=>?_
   have S:=H.jY [0,2,3,4,5] [0,1,2,3,4,5,6,7,8,9,10,11,12,13,14,15]
   refine rtp 0 (.slice (aa b36 0) s.qw.length s.qw.length) S ?_
   refine tF 1 rfl rfl S ?_
   refine tL 2 rfl rfl (fun _ h=>h.cell 0 rfl rfl) S ?_
   refine rtp 3 (.slice (aa b36 0) s.qw.length s.qw.length) S ?_
   refine tF 4 rfl rfl S ?_
   refine tL 5 rfl rfl (fun _ h=>h.cell 0 rfl rfl) S ?_
   refine tI 6 rfl rfl rfl S ?_
   refine ro 7 rfl (zF (.bool ((yt s counts s.qw.length i)[((s.qx[i]!).qG).toNat]!)) isAgg4 rfl (H.rowBool 1 rfl (iv:=(s.qx[i]!).qG) (i:=(((s.qx[i]!).qG).toNat)) qf qf) (⟨H.pick [0,2,3,4,5] [0,1,2,3,4,5,6,7,8,9,10,11,12,13,14,15],(rtp 8 (.bool ((yt s counts s.qw.length i)[((s.qx[i]!).qG).toNat]!)) (H.pick [0,2,3,4,5] [0,1,2,3,4,5,6,7,8,9,10,11,12,13,14,15]) ?_)⟩))
   cases h169:((yt s counts s.qw.length i)[((s.qx[i]!).qG).toNat]!)
   ·skip
    have S:=H.jY [0,2,3,4,5] [0,1,2,3,4,5,6,7,8,9,10,11,12,13,14,15]
    refine rgp 9 (yI (counts[i]!)) 66 S ?_
    refine rgp 10 (.bool (decide ((counts[i]! :Int) > 0))) 66 S ?_
    refine rgp 11 (.bool (decide ((counts[i]! :Int) > 0))) 66 S ?_
    cases h170:(decide ((counts[i]! :Int) > 0))
    ·skip
     replace h170:=of_decide_eq_false h170
     refine zS [12,13] 2 (H.pick [0,2,3,4,5] [0,1,2,3,4,5,6,7,8,9,10,11,12,13,14,15]) ?_
     have S:=H.jY [0,2,3,4,5] [0,1,2,3,4,5,6,7,8,9,10,11,12,13,14,15]
     refine rgp 14 (.bool false) 66 S ?_
     refine rtp 15 (.bool false) S ?_
     refine tI 16 rfl rfl rfl S ?_
     refine ro 17 rfl (Qm H 1 rfl false sizeOf4 rfl rfl (i:=(((s.qx[i]!).qG).toNat)) qf qf fun w171 H=>⟨H.pick [0,2,3,4,5] [0,1,2,3,4,5,6,7,8,9,10,11,12,13,14,15],(xH qh (b_n (t_n (xX (sw (zD i 1 rfl rfl qf (sp (yI (i+1)) (xY (xg (m' :=(counts.length - ((i+1):Int)).toNat) qf ⟨_,i+1,((yt s counts s.qw.length i).set (((s.qx[i]!).qG).toNat) false),bags_1,XK,F_bags_1,uE8,?_,?_,?_,?_,rfl,(N.pick []),H.pick [1,2,3,4,5] [0,10,11,12,13,14,15]⟩)))))))))⟩)
     · first | exact meltsL_1 qf qf ‹_› | exact meltsL_2 qf qf ‹_› qf | exact meltsL_3 qf qf ‹_› qf
     · omega
     · exact E_bags_1.to (fun p q=>by rw [show k=((s.qx[i]!).qU).length by omega];simp only [allS,needF,putF];omega) qf
     · omega
    replace h170:=of_decide_eq_true h170
    have S:=H.jY [0,2,3,4,5] [0,1,2,3,4,5,6,7,8,9,10,11,12,13,14,15]
    refine gF 12 rfl rfl S ?_
    refine gL 13 rfl rfl (fun _ h=>h.cell 0 rfl rfl) S ?_
    refine rgp 14 (.bool ((s.qx[i]!).zG)) 66 S ?_
    refine rtp 15 (.bool ((s.qx[i]!).zG)) S ?_
    refine tI 16 rfl rfl rfl S ?_
    refine ro 17 rfl (Qm H 1 rfl ((s.qx[i]!).zG) sizeOf4 rfl rfl (i:=(((s.qx[i]!).qG).toNat)) qf qf fun w172 H=>⟨H.pick [0,2,3,4,5] [0,1,2,3,4,5,6,7,8,9,10,11,12,13,14,15],(xH qh (b_n (t_n (xX (sw (zD i 1 rfl rfl qf (sp (yI (i+1)) (xY (xg (m' :=(counts.length - ((i+1):Int)).toNat) qf ⟨_,i+1,((yt s counts s.qw.length i).set (((s.qx[i]!).qG).toNat) ((s.qx[i]!).zG)),bags_1,XK,F_bags_1,uE8,?_,?_,?_,?_,rfl,(N.pick []),H.pick [1,2,3,4,5] [0,10,11,12,13,14,15]⟩)))))))))⟩)
    · first | exact meltsL_1 qf qf ‹_› | exact meltsL_2 qf qf ‹_› qf | exact meltsL_3 qf qf ‹_› qf
    · omega
    · exact E_bags_1.to (fun p q=>by rw [show k=((s.qx[i]!).qU).length by omega];simp only [allS,needF,putF];omega) qf
    · omega
   refine zS [9,10,11,12,13,14] 6 (H.pick [0,2,3,4,5] [0,1,2,3,4,5,6,7,8,9,10,11,12,13,14,15]) ?_
   have S:=H.jY [0,2,3,4,5] [0,1,2,3,4,5,6,7,8,9,10,11,12,13,14,15]
   refine rtp 15 (.bool true) S ?_
   refine tI 16 rfl rfl rfl S ?_
   refine ro 17 rfl (Qm H 1 rfl true sizeOf4 rfl rfl (i:=(((s.qx[i]!).qG).toNat)) qf qf fun w173 H=>⟨H.pick [0,2,3,4,5] [0,1,2,3,4,5,6,7,8,9,10,11,12,13,14,15],(xH qh (b_n (t_n (xX (sw (zD i 1 rfl rfl qf (sp (yI (i+1)) (xY (xg (m' :=(counts.length - ((i+1):Int)).toNat) qf ⟨_,i+1,((yt s counts s.qw.length i).set (((s.qx[i]!).qG).toNat) true),bags_1,XK,F_bags_1,uE8,?_,?_,?_,?_,rfl,(N.pick []),H.pick [1,2,3,4,5] [0,10,11,12,13,14,15]⟩)))))))))⟩)
   · first | exact meltsL_1 qf qf ‹_› | exact meltsL_2 qf qf ‹_› qf | exact meltsL_3 qf qf ‹_› qf
   · omega
   · exact E_bags_1.to (fun p q=>by rw [show k=((s.qx[i]!).qU).length by omega];simp only [allS,needF,putF];omega) qf
   · omega
  have po:=outPl_out (r:=s.qx[i]!) p15 p1.2.2.1 qc qf
  refine yY rfl H [0,1,2,3,4,5,6,8,9,10] fun H=>?_
  have S:=H.jY [0,1,2,3,4,5,6,8,9,10] [0,1,2,3,4,5,6,7,8,9,10,11,12,13,14,15,16,17,18,19]
  refine rtp 0 (.func (.func 191) #[] #[pp b79 0,pp b83 0]) S ?_
  refine rt 1 (.agg #[yI s.xB,.slice qA s.qw.length qy,.slice (aa b44 o45) s.qx.length qH]) (Qk (cs:=[yI s.xB,.slice qA s.qw.length qy,.slice (aa b44 o45) s.qx.length qH]) isAgg36 sizeOf36 rfl (fun _ h=>qF (h.cells 4 rfl) 0 3)) S ?_
  refine tF 3 rfl rfl S ?_
  refine tL 4 rfl rfl (fun _ h=>h.cell 1 rfl rfl) S ?_
  refine ro 2 rfl (oq (around_ok _ s (H.get 14 rfl).1 (H.get 15 rfl).1) H fun w176 H=>⟨H.pick [0,1,2,3,4,5,6,8,9,10] [0,1,2,3,4,5,6,7,8,9,10,11,12,13,14,15,16,17,18,19],(ro 5 rfl (zZ #[yI s.qw.length,.slice XG (((s.qx[i]!).vC).length) XE,pp b79 0,pp b83 0] rfl rfl call191 (en func191 ntmps191 ?_)))⟩)
  refine yY rfl H [0,1,2,3,4,5,6,8,9,10] fun H=>?_
  have S:=H.jY [0,1,2,3,4,5,6,8,9,10] [0,1,2,3,4,5,6,7,8,9,10,11,12,13,14,15,16,17,18,19]
  refine tL 0 rfl rfl (fun _ h=>h.cell 2 rfl rfl) S ?_
  refine rtp 1 (yI s.qw.length) S ?_
  refine tL 2 rfl rfl (fun _ h=>h.cell 2 rfl rfl) S ?_
  refine rtp 3 (yI s.qw.length) S ?_
  refine tI 4 rfl rfl rfl S ?_
  refine rtp 6 (.slice XG (((s.qx[i]!).vC).length) XE) S ?_
  refine tL 7 rfl rfl (fun _ h=>h.cell 0 rfl rfl) S ?_
  refine ro 5 rfl ?_
  obtain ⟨a179,c180,G181,s182,h183,H⟩:=H.jO 7 rfl 0 rfl (iv:=s.qw.length) s.qw.length qf qf
  refine zF (.slice a179 ((bg107[s.qw.length]!).length) c180) isAgg22 rfl (h183) (⟨H.pick [0,1,2,3,4,5,6,8,9,10] [1,2,3,4,5,6,7,8,9,10,11,12,13,14,15,16,17,18,19,20],(ro 8 rfl ?_)⟩)
  obtain ⟨u1,u2⟩:=E_bg107.sh.row (c:=s.qw.length) qf p8 qf
  have u4:=(by first | exact bn1.yJ qf | exact bn2.yJ qf | exact bn3.yJ qf | exact bn4.yJ qf:SmallT ((s.qx[i]!).vC) (counts[i]!))
  have sz184:=H.base.size
  have lt185:=H.ltN (L:=[G102,G69]) [2,5]
  refine oc (plus_ok _ (bg107[s.qw.length]!) ((s.qx[i]!).vC) (counts[i]!) (H.get 0 rfl).1 (H.get 11 rfl).1 qg qg qg) ?_
  rintro v189 w187 r189 x188
  replace H:=H.zC x188 r189
  obtain ⟨a190,c191,rfl,hc192,hm193⟩:=H.ji 0 rfl
  refine ⟨H.pick [1,2,3,4,5,6,7,9,10,11] [1,2,3,4,5,6,7,8,9,10,11,12,13,14,15,16,17,18,19,20],(tI 9 rfl rfl rfl (H.pick [1,2,3,4,5,6,7,9,10,11] [1,2,3,4,5,6,7,8,9,10,11,12,13,14,15,16,17,18,19,20]) ?_)⟩
  refine ro 10 rfl ?_
  obtain ⟨G195,N,hn196,H⟩:=H.vP 0 rfl N (H.yg [2,5])
  refine jB false H 8 rfl 2 rfl (.slice a190 ((vY (bg107[s.qw.length]!) ((s.qx[i]!).vC) (counts[i]!)).length) c191) 0 rfl rfl sizeOf22 rfl rfl (i:=s.qw.length) qf qf qm fun w194 xs197 F198 hs199 H=>⟨H.pick [1,2,3,4,5,6,7,9,10,11] [3,4,5,6,7,8,9,10,11,12,13,14,15,16,17,18,19,20,21,22],(xH qh ((ret0 rfl ⟨_,rfl,?_⟩)))⟩
  replace H:=H.erases [0]
  dsimp only [vJ,List.eraseIdx] at H
  obtain ⟨bg200,e_bg200⟩:∃ z,z=(bg107.set s.qw.length (vY (bg107[s.qw.length]!) ((s.qx[i]!).vC) (counts[i]!))):=⟨_,rfl⟩
  rw [← e_bg200] at H
  have E_bg200:=Ent.add (D:=1000000) E_bg107 e_bg200 qf (by first | exact bn1.mul qf | exact bn2.mul qf | exact bn3.mul qf | exact bn4.mul qf) qf
  have z_bg200:=E_bg200.sh.1
  have E_cur:=E_bg200
  refine ⟨H.pick [0,1,2,3,4,5,6,8,9,10] [3,4,5,6,7,8,9,10,11,12,13,14,15,16,17,18,19,20,21,22],(xH qh (t_n (zcr (oF rfl (oL rfl (H.cell 1 rfl rfl) (oN rfl (sp (yI 0) (zjn (qY ?_)))))))))⟩
  refine zB (fun m' ρ w201=>∃ (xN:Env) (k:Nat) (bags_1:yLL) (XK:List Value) (F_bags_1:yLN),ρ=upd (upd (upd (upd xN 10 (.func (.func 191) #[] #[pp b79 0,pp b83 0])) 40 (.slice Xe (((s.qx[i]!).qU).length) Xc)) 41 (yI (((s.qx[i]!).qU).length))) 42 (yI k)∧((k:Int)≤(((s.qx[i]!).qU).length))∧(Ent (s.qw.length+1) (Qj s) (fun p q=>base0 s t p q+allS s t counts i p q+at' p (s.qx[i]!).qG.toNat (-(counts[i]!) * ((s.qx[i]!).xE)[q]!)+at' p (s.qx[i]!).qG.toNat ((counts[i]!) * ((s.qx[i]!).xW)[q]!)+at' p (outPl s t (s.qx[i]!)) ((counts[i]!) * ((s.qx[i]!).vC)[q]!)+intoF (s.qx[i]!) (counts[i]!) k p q) (23000000+6000000 * i+1000000 * k) bags_1)∧(bags_1.length=s.qw.length+1)∧m' =((((s.qx[i]!).qU).length) - (k:Int)).toNat∧Fresh w.heap.size [G69]∧St w w201 [.box b83 [yI (counts[i]!)] 2,.box b81 [yI ((s.qx[i]!).qG),yI ((s.qx[i]!).zM),.slice XW (((s.qx[i]!).xE).length) XO,.slice XY (((s.qx[i]!).xM).length) XQ,.slice XX (((s.qx[i]!).xO).length) XP,.slice Xf (((s.qx[i]!).xW).length) Xd,.slice XG (((s.qx[i]!).vC).length) XE,.slice Xe (((s.qx[i]!).qU).length) Xc,.bool ((s.qx[i]!).zG)] 121,.box b79 [.slice (aa b52 0) (t.qE.length+1) c8] 27,.box b77 (yT t qR qO xh qZ qJ qI) 38,.box b75 [yI s.xB,.slice qA s.qw.length qy,.slice (aa b44 o45) s.qx.length qH] 36,.box b48 [yI ((s.qx[i]!).qG),yI ((s.qx[i]!).zM),.slice XW (((s.qx[i]!).xE).length) XO,.slice XY (((s.qx[i]!).xM).length) XQ,.slice XX (((s.qx[i]!).xO).length) XP,.slice Xf (((s.qx[i]!).xW).length) Xd,.slice XG (((s.qx[i]!).vC).length) XE,.slice Xe (((s.qx[i]!).qU).length) Xc,.bool ((s.qx[i]!).zG)] 121,rr (aa b36 0) s.qw.length s.qw.length 4 1 ((yt s counts s.qw.length i).map (Value.bool)),rr (aa b52 0) (t.qE.length+1) c8 22 1 XK,.box b5 [yN,yN,yN] 38,.box b3 (yT t qR qO xh qZ qJ qI) 38,.box b1 [yI s.xB,.slice qA s.qw.length qy,.slice (aa b44 o45) s.qx.length qH] 36] [zk false F_bags_1 XK bags_1,sF true G69 a64 c65 (vY (bags[((s.qx[i]!).qG).toNat]!) ((s.qx[i]!).xE) (-(counts[i]!))),sF false G55 a53 c54 (bags[((s.qx[i]!).qG).toNat]!),sF false Fe47Need XW XO ((s.qx[i]!).xE),sF false Fe47Have XY XQ ((s.qx[i]!).xM),sF false Fe47Lack XX XP ((s.qx[i]!).xO),sF false Fe47Here Xf Xd ((s.qx[i]!).xW),sF false Fe47Out XG XE ((s.qx[i]!).vC),sF false Fe47Into Xe Xc ((s.qx[i]!).qU),atF b44 (o45+(i:Int).toNat * 9) [yI ((s.qx[i]!).qG),yI ((s.qx[i]!).zM),.slice XW (((s.qx[i]!).xE).length) XO,.slice XY (((s.qx[i]!).xM).length) XQ,.slice XX (((s.qx[i]!).xO).length) XP,.slice Xf (((s.qx[i]!).xW).length) Xd,.slice XG (((s.qx[i]!).vC).length) XE,.slice Xe (((s.qx[i]!).qU).length) Xc,.bool ((s.qx[i]!).zG)],sF false qW qA qy s.qw,sF false xy (aa b44 o45) qH s.qx,sF false xJ qR qO t.qB,sF false zn xh qZ t.qE,sF false xw qJ qI t.qC,sF false Fcounts (aa b41 o42) ccounts counts]) (((((s.qx[i]!).qU).length) - (0:Int)).toNat) ⟨_,0,bg200,xs197,F198,uE4,qf,(by exact E_cur.to (fun p q=>by rw [po];simp only [intoF];first | omega | (simp only [Int.toNat_natCast];omega)) qf),qf,rfl,(N.pick [2]),H.pick [0,1,2,3,4,5,6,7,8,9,10] [0,7,8,9,10,11,12,13,14,15,17,18,19,20,21,22]⟩ ?_
  clear H N
  rintro m' ρ w202 ⟨xN,k,bags_1,XK,F_bags_1,rfl,i0,E_bags_1,z_bags_1,rfl,N,H⟩
  have hn_bags:=H.zo (α:=yLI) 7 rfl 0 rfl qj
  refine zcr (sp (.bool (decide ((k:Int) < (((s.qx[i]!).qU).length)))) (zjn (xU (cD rfl (fun h203=>?_) (fun h203=>?_)))))
  ·skip
   have qi:=q.2.2.2.2.2.2.2.2.2.2 k qf
   have qi1:=qi.1
   have bn4:=qi.2.2.1
   have ln4:=bn4.len
   refine qV (t_n (xU (qY (zcr ?_))))
   obtain ⟨b204,o205,rfl⟩:=H.addr 8 rfl qf
   obtain ⟨ae207Bag,ce207Bag,Fe207Bag,H⟩:=H.jJ 8 rfl k k qf qf qf
   refine oI rfl rfl (sw (zl [yI ((((s.qx[i]!).qU)[k]!).qG),.slice ae207Bag (((((s.qx[i]!).qU)[k]!).jE).length) ce207Bag] isAgg164 sizeOf164 rfl (qF (H.get 1 rfl) 0 2) (sw (xI H ti164 [yI 0,yN] fun b208 w209 H=>sw (zy H 0 [yI ((((s.qx[i]!).qU)[k]!).qG),.slice ae207Bag (((((s.qx[i]!).qU)[k]!).jE).length) ce207Bag] sizeOf164 fun w210 H=>zjn (xX (sp (.func (.func 191) #[] #[pp b79 0,pp b83 0]) (oF rfl (oL rfl (H.cell 0 rfl rfl) (oF rfl (oL rfl (H.cell 0 rfl rfl) ?_)))))))))))
   refine sw (zZ #[yI ((((s.qx[i]!).qU)[k]!).qG),.slice ae207Bag (((((s.qx[i]!).qU)[k]!).jE).length) ce207Bag,pp b79 0,pp b83 0] rfl rfl call191 (en func191 ntmps191 ?_))
   refine yY rfl H [0,1,2,3,4,5,6,7,9,10,11] fun H=>?_
   have S:=H.jY [0,1,2,3,4,5,6,7,9,10,11] [0,1,2,3,4,5,6,7,8,9,10,11,12,13,14,15,16,17]
   refine tL 0 rfl rfl (fun _ h=>h.cell 3 rfl rfl) S ?_
   refine rtp 1 (yI ((((s.qx[i]!).qU)[k]!).qG)) S ?_
   refine tL 2 rfl rfl (fun _ h=>h.cell 3 rfl rfl) S ?_
   refine rtp 3 (yI ((((s.qx[i]!).qU)[k]!).qG)) S ?_
   refine tI 4 rfl rfl rfl S ?_
   refine rtp 6 (.slice ae207Bag (((((s.qx[i]!).qU)[k]!).jE).length) ce207Bag) S ?_
   refine tL 7 rfl rfl (fun _ h=>h.cell 1 rfl rfl) S ?_
   refine ro 5 rfl ?_
   obtain ⟨a212,c213,G214,s215,h216,H⟩:=H.jO 8 rfl 2 rfl (iv:=(((s.qx[i]!).qU)[k]!).qG) (((((s.qx[i]!).qU)[k]!).qG).toNat) qf qf
   refine zF (.slice a212 ((bags_1[((((s.qx[i]!).qU)[k]!).qG).toNat]!).length) c213) isAgg22 rfl (h216) (⟨H.pick [0,1,2,3,4,5,6,7,9,10,11] [1,2,3,4,5,6,7,8,9,10,11,12,13,14,15,16,17,18],(ro 8 rfl ?_)⟩)
   obtain ⟨u1,u2⟩:=E_bags_1.sh.row (c:=((((s.qx[i]!).qU)[k]!).qG).toNat) qf p8 qf
   have u4:=(by first | exact bn1.yJ qf | exact bn2.yJ qf | exact bn3.yJ qf | exact bn4.yJ qf:SmallT ((((s.qx[i]!).qU)[k]!).jE) (counts[i]!))
   have sz217:=H.base.size
   have lt218:=H.ltN (L:=[G69]) [4]
   refine oc (plus_ok _ (bags_1[((((s.qx[i]!).qU)[k]!).qG).toNat]!) ((((s.qx[i]!).qU)[k]!).jE) (counts[i]!) (H.get 0 rfl).1 (H.get 1 rfl).1 qg qg qg) ?_
   rintro v222 w220 r222 x221
   replace H:=H.zC x221 r222
   obtain ⟨a223,c224,rfl,hc225,hm226⟩:=H.ji 0 rfl
   refine ⟨H.pick [1,2,3,4,5,6,7,8,10,11,12] [1,2,3,4,5,6,7,8,9,10,11,12,13,14,15,16,17,18],(tI 9 rfl rfl rfl (H.pick [1,2,3,4,5,6,7,8,10,11,12] [1,2,3,4,5,6,7,8,9,10,11,12,13,14,15,16,17,18]) ?_)⟩
   refine ro 10 rfl ?_
   obtain ⟨G228,N,hn229,H⟩:=H.vP 0 rfl N (H.yg [4])
   refine jB false H 9 rfl 4 rfl (.slice a223 ((vY (bags_1[((((s.qx[i]!).qU)[k]!).qG).toNat]!) ((((s.qx[i]!).qU)[k]!).jE) (counts[i]!)).length) c224) 0 rfl rfl sizeOf22 rfl rfl (i:=(((((s.qx[i]!).qU)[k]!).qG).toNat)) qf qf qm fun w227 xs230 F231 hs232 H=>⟨H.pick [1,2,3,4,5,6,7,8,10,11,12] [3,4,5,6,7,8,9,10,11,12,13,14,15,16,17,18,19,20],(xH qh ((ret0 rfl ⟨_,rfl,?_⟩)))⟩
   replace H:=H.erases [0]
   dsimp only [vJ,List.eraseIdx] at H
   obtain ⟨bg233,e_bg233⟩:∃ z,z=(bags_1.set (((((s.qx[i]!).qU)[k]!).qG).toNat) (vY (bags_1[((((s.qx[i]!).qU)[k]!).qG).toNat]!) ((((s.qx[i]!).qU)[k]!).jE) (counts[i]!))):=⟨_,rfl⟩
   rw [← e_bg233] at H
   have E_bg233:=Ent.add (D:=1000000) E_bags_1 e_bg233 qf (by first | exact bn1.mul qf | exact bn2.mul qf | exact bn3.mul qf | exact bn4.mul qf) qf
   have z_bg233:=E_bg233.sh.1
   have E_cur:=E_bg233
   refine xY (b_n (t_n (xX (sw (zD k 1 rfl rfl qf (sp (yI (k+1)) (xY (xg (m' :=((((s.qx[i]!).qU).length) - ((k+1):Int)).toNat) qf ⟨_,k+1,bg233,xs230,F231,uE4,?_,?_,?_,rfl,(N.pick [1]),H.pick [1,2,3,4,5,6,7,8,9,10,11] [0,6,7,8,9,10,11,12,13,14,15,16,17,18,19,20]⟩))))))))
   · omega
   · exact E_cur.to (fun p q=>by simp only [intoF];omega) qf
   · omega
  refine c_exit (t_x (t_x (b_x (ret0 rfl ⟨_,rfl,?_⟩))))
  replace H:=H.erases [4,3,2,1,0]
  dsimp only [vJ,List.eraseIdx] at H
  refine zjn ?_
  refine yY rfl H [0,2,3,4,5] fun H=>?_
  have S:=H.jY [0,2,3,4,5] [0,1,2,3,4,5,6,7,8,9,10,11,12,13,14,15]
  refine rtp 0 (.slice (aa b36 0) s.qw.length s.qw.length) S ?_
  refine tF 1 rfl rfl S ?_
  refine tL 2 rfl rfl (fun _ h=>h.cell 0 rfl rfl) S ?_
  refine rtp 3 (.slice (aa b36 0) s.qw.length s.qw.length) S ?_
  refine tF 4 rfl rfl S ?_
  refine tL 5 rfl rfl (fun _ h=>h.cell 0 rfl rfl) S ?_
  refine tI 6 rfl rfl rfl S ?_
  refine ro 7 rfl (zF (.bool ((yt s counts s.qw.length i)[((s.qx[i]!).qG).toNat]!)) isAgg4 rfl (H.rowBool 1 rfl (iv:=(s.qx[i]!).qG) (i:=(((s.qx[i]!).qG).toNat)) qf qf) (⟨H.pick [0,2,3,4,5] [0,1,2,3,4,5,6,7,8,9,10,11,12,13,14,15],(rtp 8 (.bool ((yt s counts s.qw.length i)[((s.qx[i]!).qG).toNat]!)) (H.pick [0,2,3,4,5] [0,1,2,3,4,5,6,7,8,9,10,11,12,13,14,15]) ?_)⟩))
  cases h235:((yt s counts s.qw.length i)[((s.qx[i]!).qG).toNat]!)
  ·skip
   have S:=H.jY [0,2,3,4,5] [0,1,2,3,4,5,6,7,8,9,10,11,12,13,14,15]
   refine rgp 9 (yI (counts[i]!)) 66 S ?_
   refine rgp 10 (.bool (decide ((counts[i]! :Int) > 0))) 66 S ?_
   refine rgp 11 (.bool (decide ((counts[i]! :Int) > 0))) 66 S ?_
   cases h236:(decide ((counts[i]! :Int) > 0))
   ·skip
    replace h236:=of_decide_eq_false h236
    refine zS [12,13] 2 (H.pick [0,2,3,4,5] [0,1,2,3,4,5,6,7,8,9,10,11,12,13,14,15]) ?_
    have S:=H.jY [0,2,3,4,5] [0,1,2,3,4,5,6,7,8,9,10,11,12,13,14,15]
    refine rgp 14 (.bool false) 66 S ?_
    refine rtp 15 (.bool false) S ?_
    refine tI 16 rfl rfl rfl S ?_
    refine ro 17 rfl (Qm H 1 rfl false sizeOf4 rfl rfl (i:=(((s.qx[i]!).qG).toNat)) qf qf fun w237 H=>⟨H.pick [0,2,3,4,5] [0,1,2,3,4,5,6,7,8,9,10,11,12,13,14,15],(xH qh (b_n (t_n (xX (sw (zD i 1 rfl rfl qf (sp (yI (i+1)) (xY (xg (m' :=(counts.length - ((i+1):Int)).toNat) qf ⟨_,i+1,((yt s counts s.qw.length i).set (((s.qx[i]!).qG).toNat) false),bags_1,XK,F_bags_1,uE8,?_,?_,?_,?_,rfl,(N.pick []),H.pick [1,2,3,4,5] [0,10,11,12,13,14,15]⟩)))))))))⟩)
    · first | exact meltsL_1 qf qf ‹_› | exact meltsL_2 qf qf ‹_› qf | exact meltsL_3 qf qf ‹_› qf
    · omega
    · exact E_bags_1.to (fun p q=>by rw [show k=((s.qx[i]!).qU).length by omega];simp only [allS,needF,putF];omega) qf
    · omega
   replace h236:=of_decide_eq_true h236
   have S:=H.jY [0,2,3,4,5] [0,1,2,3,4,5,6,7,8,9,10,11,12,13,14,15]
   refine gF 12 rfl rfl S ?_
   refine gL 13 rfl rfl (fun _ h=>h.cell 0 rfl rfl) S ?_
   refine rgp 14 (.bool ((s.qx[i]!).zG)) 66 S ?_
   refine rtp 15 (.bool ((s.qx[i]!).zG)) S ?_
   refine tI 16 rfl rfl rfl S ?_
   refine ro 17 rfl (Qm H 1 rfl ((s.qx[i]!).zG) sizeOf4 rfl rfl (i:=(((s.qx[i]!).qG).toNat)) qf qf fun w238 H=>⟨H.pick [0,2,3,4,5] [0,1,2,3,4,5,6,7,8,9,10,11,12,13,14,15],(xH qh (b_n (t_n (xX (sw (zD i 1 rfl rfl qf (sp (yI (i+1)) (xY (xg (m' :=(counts.length - ((i+1):Int)).toNat) qf ⟨_,i+1,((yt s counts s.qw.length i).set (((s.qx[i]!).qG).toNat) ((s.qx[i]!).zG)),bags_1,XK,F_bags_1,uE8,?_,?_,?_,?_,rfl,(N.pick []),H.pick [1,2,3,4,5] [0,10,11,12,13,14,15]⟩)))))))))⟩)
   · first | exact meltsL_1 qf qf ‹_› | exact meltsL_2 qf qf ‹_› qf | exact meltsL_3 qf qf ‹_› qf
   · omega
   · exact E_bags_1.to (fun p q=>by rw [show k=((s.qx[i]!).qU).length by omega];simp only [allS,needF,putF];omega) qf
   · omega
  refine zS [9,10,11,12,13,14] 6 (H.pick [0,2,3,4,5] [0,1,2,3,4,5,6,7,8,9,10,11,12,13,14,15]) ?_
  have S:=H.jY [0,2,3,4,5] [0,1,2,3,4,5,6,7,8,9,10,11,12,13,14,15]
  refine rtp 15 (.bool true) S ?_
  refine tI 16 rfl rfl rfl S ?_
  refine ro 17 rfl (Qm H 1 rfl true sizeOf4 rfl rfl (i:=(((s.qx[i]!).qG).toNat)) qf qf fun w239 H=>⟨H.pick [0,2,3,4,5] [0,1,2,3,4,5,6,7,8,9,10,11,12,13,14,15],(xH qh (b_n (t_n (xX (sw (zD i 1 rfl rfl qf (sp (yI (i+1)) (xY (xg (m' :=(counts.length - ((i+1):Int)).toNat) qf ⟨_,i+1,((yt s counts s.qw.length i).set (((s.qx[i]!).qG).toNat) true),bags_1,XK,F_bags_1,uE8,?_,?_,?_,?_,rfl,(N.pick []),H.pick [1,2,3,4,5] [0,10,11,12,13,14,15]⟩)))))))))⟩)
  · first | exact meltsL_1 qf qf ‹_› | exact meltsL_2 qf qf ‹_› qf | exact meltsL_3 qf qf ‹_› qf
  · omega
  · exact E_bags_1.to (fun p q=>by rw [show k=((s.qx[i]!).qU).length by omega];simp only [allS,needF,putF];omega) qf
  · omega
 refine zx4 (xU ?_)
 obtain ⟨b240,rfl⟩:=H.yP 1 rfl qf
 refine c_cut (fun ρ w250=>∃ (xN:Env) (b241:Nat) (ra242:yOA) (rc243:Nat) (ra244:yOA) (rc245:Nat) (ra246:yOA) (rc247:Nat) (rx248:List Value) (rF249:yLN),ρ=upd (upd (upd (upd xN 3 (pp b1 0)) 6 (pp b5 0)) 9 (.slice (aa b36 0) s.qw.length s.qw.length)) 13 (pp b241 0)∧Fresh w.heap.size [rF249]∧St w w250 [.box b241 [.slice ra242 (((⟨t.qB,(bags.take s.qw.length),bags[s.qw.length]!⟩:qM).qB).length) rc243,.slice ra244 (((⟨t.qB,(bags.take s.qw.length),bags[s.qw.length]!⟩:qM).qE).length) rc245,.slice ra246 (((⟨t.qB,(bags.take s.qw.length),bags[s.qw.length]!⟩:qM).qC).length) rc247] 38,rr ra242 (((⟨t.qB,(bags.take s.qw.length),bags[s.qw.length]!⟩:qM).qB).length) rc243 4 1 (((⟨t.qB,(bags.take s.qw.length),bags[s.qw.length]!⟩:qM).qB).map (Value.bool)),rr ra244 (((⟨t.qB,(bags.take s.qw.length),bags[s.qw.length]!⟩:qM).qE).length) rc245 22 1 rx248,rr ra246 (((⟨t.qB,(bags.take s.qw.length),bags[s.qw.length]!⟩:qM).qC).length) rc247 2 1 (((⟨t.qB,(bags.take s.qw.length),bags[s.qw.length]!⟩:qM).qC).map (Value.int .i64)),rr (aa b36 0) s.qw.length s.qw.length 4 1 ((yt s counts s.qw.length i).map (Value.bool)),rr none 0 0 0 1 [],.box b5 [yN,yN,yN] 38,.box b3 (yT t qR qO xh qZ qJ qI) 38,.box b1 (yS s qA qy qK qH) 36] [zk true rF249 rx248 ((⟨t.qB,(bags.take s.qw.length),bags[s.qw.length]!⟩:qM).qE),sF false qW qA qy s.qw,sF false xy qK qH s.qx,sF false xJ qR qO t.qB,sF false zn xh qZ t.qE,sF false xw qJ qI t.qC]) ?_ ?_
 ·skip
  refine yY rfl H [0,2,3,4] fun H=>?_
  refine Xo (fun ρ w258=>∃ (xN:Env) (a252:yOA) (c253:Nat) (a254:yOA) (G255:yLN) (G256:yLN),ρ=upd (upd (upd (upd (upd (upd xN 3 (pp b1 0)) 6 (pp b5 0)) 9 (.slice (aa b36 0) s.qw.length s.qw.length)) 77 (.slice qR t.qB.length qO)) 81 (.slice a254 ((bags.take s.qw.length).length) c8)) 86 (.slice a252 ((bags[s.qw.length]!).length) c253)∧Fresh w.heap.size []∧St w w258 [rr (aa b36 0) s.qw.length s.qw.length 4 1 ((yt s counts s.qw.length i).map (Value.bool)),rr none 0 0 0 1 [],.box b5 [yN,yN,yN] 38,.box b3 (yT t qR qO xh qZ qJ qI) 38,.box b1 (yS s qA qy qK qH) 36] [sF false G255 a254 c8 (bags.take s.qw.length),sF false G256 a252 c253 (bags[s.qw.length]!),zk false F_bags x_bags bags,sF false qW qA qy s.qw,sF false xy qK qH s.qx,sF false xJ qR qO t.qB,sF false zn xh qZ t.qE,sF false xw qJ qI t.qC,sF false Fcounts acounts ccounts counts]) 4 #[true,true,true,true,true,true,true,true,true,true,true,false,false,false,false] ?_ fun L257=>?_
  ·skip
   rintro ρ w259 ⟨xN,a252,c253,a254,G255,G256,rfl,N,H⟩
   refine vS [11,13] qh qm (jA rfl ?_ (jA rfl ?_ vT))
   ·skip
    refine jk [.slice qR t.qB.length qO,.slice a254 ((bags.take s.qw.length).length) c8,.slice a252 ((bags[s.qw.length]!).length) c253] [(0,.slice qR t.qB.length qO),(1,.slice a254 ((bags.take s.qw.length).length) c8),(2,.slice a252 ((bags[s.qw.length]!).length) c253)] (⟨H.pick [0,2,3,4] [2,3,4,5,6,7,8],(vS [12,13] qh qm (jA rfl ?_ (jA rfl ?_ vT)))⟩)
    ·skip
     obtain ⟨cp0,cp1,cp2,cp3⟩:=copy_pre (al:=t.qB) E_bags p8 p9.2 p12
     have sz263:=H.base.size
     refine oc (Vd _ (⟨t.qB,(bags.take s.qw.length),bags[s.qw.length]!⟩:qM) (H.get 5 rfl).1 (H.get 0 rfl).1 (H.get 1 rfl).1 qg qg qg qg) ?_
     rintro _ w261 ⟨ra260Alive,rn260Alive,rc260Alive,ra260Bags,rn260Bags,rc260Bags,rx260Bags,rF260Bags,ra260Around,rn260Around,rc260Around,rfl,M,K⟩ _
     replace N:=N.merge sz263 qm M
     replace H:=H.merge K M
     obtain rfl:=H.rowNB 0 rfl
     obtain rfl:=H.zo (α:=yLI) 1 rfl 0 rfl qj
     obtain rfl:=H.Xk 2 rfl
     refine ⟨H.pick [3,5,6,7] [3,4,5,6,7,8,9],(ro 13 rfl (xI H ti38 [yN,yN,yN] fun b268 w269 H=>⟨H.pick [4,6,7,8] [3,4,5,6,7,8,9],(ro 14 rfl (zy H 0 [.slice ra260Alive (((⟨t.qB,(bags.take s.qw.length),bags[s.qw.length]!⟩:qM).qB).length) rc260Alive,.slice ra260Bags (((⟨t.qB,(bags.take s.qw.length),bags[s.qw.length]!⟩:qM).qE).length) rc260Bags,.slice ra260Around (((⟨t.qB,(bags.take s.qw.length),bags[s.qw.length]!⟩:qM).qC).length) rc260Around] sizeOf38 fun w270 H=>⟨H.pick [4,6,7,8] [3,4,5,6,7,8,9],?_⟩))⟩))⟩
     refine xH qh ((meet ⟨_,b268,ra260Alive,rc260Alive,ra260Bags,rc260Bags,ra260Around,rc260Around,rx260Bags,rF260Bags,uE4,N,H.pick [0,1,2,3,4,5,6,7,8] [0,4,5,6,7,8]⟩))
    refine xI H ti38 [yN,yN,yN] fun b271 w272 H=>⟨H.pick [1,3,4,5] [2,3,4,5,6,7,8],(ro 12 rfl ?_)⟩
    obtain ⟨cp0,cp1,cp2,cp3⟩:=copy_pre (al:=t.qB) E_bags p8 p9.2 p12
    have sz276:=H.base.size
    refine oc (Vd _ (⟨t.qB,(bags.take s.qw.length),bags[s.qw.length]!⟩:qM) (H.get 5 rfl).1 (H.get 0 rfl).1 (H.get 1 rfl).1 qg qg qg qg) ?_
    rintro _ w274 ⟨ra273Alive,rn273Alive,rc273Alive,ra273Bags,rn273Bags,rc273Bags,rx273Bags,rF273Bags,ra273Around,rn273Around,rc273Around,rfl,M,K⟩ _
    replace N:=N.merge sz276 qm M
    replace H:=H.merge K M
    obtain rfl:=H.rowNB 0 rfl
    obtain rfl:=H.zo (α:=yLI) 1 rfl 0 rfl qj
    obtain rfl:=H.Xk 2 rfl
    refine ⟨H.pick [4,6,7,8] [3,4,5,6,7,8,9],(ro 14 rfl (zy H 3 [.slice ra273Alive (((⟨t.qB,(bags.take s.qw.length),bags[s.qw.length]!⟩:qM).qB).length) rc273Alive,.slice ra273Bags (((⟨t.qB,(bags.take s.qw.length),bags[s.qw.length]!⟩:qM).qE).length) rc273Bags,.slice ra273Around (((⟨t.qB,(bags.take s.qw.length),bags[s.qw.length]!⟩:qM).qC).length) rc273Around] sizeOf38 fun w281 H=>⟨H.pick [4,6,7,8] [3,4,5,6,7,8,9],(xH qh (?_))⟩))⟩
    exact meet ⟨_,b271,ra273Alive,rc273Alive,ra273Bags,rc273Bags,ra273Around,rc273Around,rx273Bags,rF273Bags,uE4,N,H.pick [3,0,1,2,4,5,6,7,8] [0,4,5,6,7,8]⟩
   refine xI H ti38 [yN,yN,yN] fun b282 w283 H=>⟨H.pick [1,3,4,5] [2,3,4,5,6,7,8],(ro 11 rfl (jk [.slice qR t.qB.length qO,.slice a254 ((bags.take s.qw.length).length) c8,.slice a252 ((bags[s.qw.length]!).length) c253] [(0,.slice qR t.qB.length qO),(1,.slice a254 ((bags.take s.qw.length).length) c8),(2,.slice a252 ((bags[s.qw.length]!).length) c253)] (⟨H.pick [1,3,4,5] [2,3,4,5,6,7,8],(ro 12 rfl ?_)⟩)))⟩
   obtain ⟨cp0,cp1,cp2,cp3⟩:=copy_pre (al:=t.qB) E_bags p8 p9.2 p12
   have sz287:=H.base.size
   refine oc (Vd _ (⟨t.qB,(bags.take s.qw.length),bags[s.qw.length]!⟩:qM) (H.get 5 rfl).1 (H.get 0 rfl).1 (H.get 1 rfl).1 qg qg qg qg) ?_
   rintro _ w285 ⟨ra284Alive,rn284Alive,rc284Alive,ra284Bags,rn284Bags,rc284Bags,rx284Bags,rF284Bags,ra284Around,rn284Around,rc284Around,rfl,M,K⟩ _
   replace N:=N.merge sz287 qm M
   replace H:=H.merge K M
   obtain rfl:=H.rowNB 0 rfl
   obtain rfl:=H.zo (α:=yLI) 1 rfl 0 rfl qj
   obtain rfl:=H.Xk 2 rfl
   refine ⟨H.pick [4,6,7,8] [3,4,5,6,7,8,9],(ro 14 rfl (zy H 3 [.slice ra284Alive (((⟨t.qB,(bags.take s.qw.length),bags[s.qw.length]!⟩:qM).qB).length) rc284Alive,.slice ra284Bags (((⟨t.qB,(bags.take s.qw.length),bags[s.qw.length]!⟩:qM).qE).length) rc284Bags,.slice ra284Around (((⟨t.qB,(bags.take s.qw.length),bags[s.qw.length]!⟩:qM).qC).length) rc284Around] sizeOf38 fun w292 H=>⟨H.pick [4,6,7,8] [3,4,5,6,7,8,9],(xH qh (?_))⟩))⟩
   exact meet ⟨_,b282,ra284Alive,rc284Alive,ra284Bags,rc284Bags,ra284Around,rc284Around,rx284Bags,rF284Bags,uE4,N,H.pick [3,0,1,2,4,5,6,7,8] [0,4,5,6,7,8]⟩
  refine Xo (fun ρ w297=>∃ (xN:Env) (a293:yOA) (G294:yLN) (G295:yLN),ρ=upd (upd (upd (upd (upd (upd xN 3 (pp b1 0)) 6 (pp b5 0)) 9 (.slice (aa b36 0) s.qw.length s.qw.length)) 77 (.slice qR t.qB.length qO)) 81 (.slice a293 ((bags.take s.qw.length).length) c8)) 85 (pp b240 (0+(s.qw.length:Int).toNat * 1))∧Fresh w.heap.size []∧St w w297 [rr (aa b36 0) s.qw.length s.qw.length 4 1 ((yt s counts s.qw.length i).map (Value.bool)),rr none 0 0 0 1 [],.box b5 [yN,yN,yN] 38,.box b3 (yT t qR qO xh qZ qJ qI) 38,.box b1 (yS s qA qy qK qH) 36] [sF false G294 a293 c8 (bags.take s.qw.length),isF false G295 (.slice (aa b240 0) (t.qE.length+1) c8) bags,zk false F_bags x_bags bags,sF false qW qA qy s.qw,sF false xy qK qH s.qx,sF false xJ qR qO t.qB,sF false zn xh qZ t.qE,sF false xw qJ qI t.qC,sF false Fcounts acounts ccounts counts]) 5 #[true,true,true,true,true,true,true,true,true,true,false,false,false,false,false] ?_ fun L296=>?_
  ·skip
   rintro ρ w298 ⟨xN,a293,G294,G295,rfl,N,H⟩
   refine vS [10,13] qh qm (jA rfl ?_ (jA rfl ?_ vT))
   ·skip
    have hl299:=H.isLen 1 rfl
    obtain ⟨ae300,ce300,Fe300,H⟩:=H.vH 1 rfl s.qw.length s.qw.length qf qf qf
    refine zF (.slice ae300 ((bags[s.qw.length]!).length) ce300) isAgg22 rfl (H.xR 1 rfl 0 rfl) (⟨H.pick [0,2,3,4] [4,5,6,7,8,9,10],(Qe L257 ⟨_,ae300,ce300,a293,G294,Fe300,uE6,N,H.pick [0,1,2,3,4] [2,0,4,5,6,7,8,9,10]⟩)⟩)
   refine xI H ti38 [yN,yN,yN] fun b301 w302 H=>⟨H.pick [1,3,4,5] [2,3,4,5,6,7,8],(ro 10 rfl ?_)⟩
   have hl303:=H.isLen 1 rfl
   obtain ⟨ae304,ce304,Fe304,H⟩:=H.vH 1 rfl s.qw.length s.qw.length qf qf qf
   refine zF (.slice ae304 ((bags[s.qw.length]!).length) ce304) isAgg22 rfl (H.xR 1 rfl 0 rfl) (⟨H.pick [1,3,4,5] [4,5,6,7,8,9,10],(ro 11 rfl (jk [.slice qR t.qB.length qO,.slice a293 ((bags.take s.qw.length).length) c8,.slice ae304 ((bags[s.qw.length]!).length) ce304] [(0,.slice qR t.qB.length qO),(1,.slice a293 ((bags.take s.qw.length).length) c8),(2,.slice ae304 ((bags[s.qw.length]!).length) ce304)] (⟨H.pick [1,3,4,5] [4,5,6,7,8,9,10],(ro 12 rfl ?_)⟩)))⟩)
   obtain ⟨cp0,cp1,cp2,cp3⟩:=copy_pre (al:=t.qB) E_bags p8 p9.2 p12
   have sz308:=H.base.size
   refine oc (Vd _ (⟨t.qB,(bags.take s.qw.length),bags[s.qw.length]!⟩:qM) (H.get 7 rfl).1 (H.get 2 rfl).1 (H.get 0 rfl).1 qg qg qg qg) ?_
   rintro _ w306 ⟨ra305Alive,rn305Alive,rc305Alive,ra305Bags,rn305Bags,rc305Bags,rx305Bags,rF305Bags,ra305Around,rn305Around,rc305Around,rfl,M,K⟩ _
   replace N:=N.merge sz308 qm M
   replace H:=H.merge K M
   obtain rfl:=H.rowNB 0 rfl
   obtain rfl:=H.zo (α:=yLI) 1 rfl 0 rfl qj
   obtain rfl:=H.Xk 2 rfl
   refine ⟨H.pick [4,6,7,8] [5,6,7,8,9,10,11],(ro 14 rfl (zy H 3 [.slice ra305Alive (((⟨t.qB,(bags.take s.qw.length),bags[s.qw.length]!⟩:qM).qB).length) rc305Alive,.slice ra305Bags (((⟨t.qB,(bags.take s.qw.length),bags[s.qw.length]!⟩:qM).qE).length) rc305Bags,.slice ra305Around (((⟨t.qB,(bags.take s.qw.length),bags[s.qw.length]!⟩:qM).qC).length) rc305Around] sizeOf38 fun w313 H=>⟨H.pick [4,6,7,8] [5,6,7,8,9,10,11],(xH qh (?_))⟩))⟩
   exact meet ⟨_,b301,ra305Alive,rc305Alive,ra305Bags,rc305Bags,ra305Around,rc305Around,rx305Bags,rF305Bags,uE4,N,H.pick [3,0,1,2,4,5,6,7,8] [0,6,7,8,9,10]⟩
  refine Xo (fun ρ w316=>∃ (xN:Env) (b314:Nat),ρ=upd (upd (upd (upd (upd (upd (upd (upd xN 3 (pp b1 0)) 6 (pp b5 0)) 9 (.slice (aa b36 0) s.qw.length s.qw.length)) 13 (pp b314 0)) 77 (.slice qR t.qB.length qO)) 78 (.slice (aa b240 0) (t.qE.length+1) c8)) 80 (yI s.qw.length)) 85 (pp b240 (0+(s.qw.length:Int).toNat * 1))∧Fresh w.heap.size []∧St w w316 [.box b314 [yN,yN,yN] 38,rr (aa b36 0) s.qw.length s.qw.length 4 1 ((yt s counts s.qw.length i).map (Value.bool)),rr (aa b240 0) (t.qE.length+1) c8 22 1 x_bags,.box b5 [yN,yN,yN] 38,.box b3 (yT t qR qO xh qZ qJ qI) 38,.box b1 (yS s qA qy qK qH) 36] [zk false F_bags x_bags bags,sF false qW qA qy s.qw,sF false xy qK qH s.qx,sF false xJ qR qO t.qB,sF false zn xh qZ t.qE,sF false xw qJ qI t.qC,sF false Fcounts acounts ccounts counts]) 5 #[true,true,true,true,true,false,true,true,true,true,false,false,false,true,false] ?_ fun L315=>?_
  ·skip
   rintro ρ w317 ⟨xN,b314,rfl,N,H⟩
   refine vS [5,10] qh qm (jA rfl ?_ (jA rfl ?_ vT))
   ·skip
    obtain ⟨G318,hg320,hn319,H⟩:=H.Qz (α:=yLI) 2 rfl 0 rfl qj
    have hl325:=H.isLen 0 rfl
    refine o_head H 0 rfl s.qw.length underlying27 ti22 rfl rfl qf qf fun a321 G322 hG323 H=>?_
    have hl324:(bags.take s.qw.length).length=s.qw.length:=List.length_take_of_le qf
    refine ⟨H.pick [1,3,4,5] [2,3,4,5,6,7,8],(ro 10 rfl ?_)⟩
    have hl326:=H.isLen 1 rfl
    obtain ⟨ae327,ce327,Fe327,H⟩:=H.vH 1 rfl s.qw.length s.qw.length qf qf qf
    refine zF (.slice ae327 ((bags[s.qw.length]!).length) ce327) isAgg22 rfl (H.xR 1 rfl 0 rfl) (⟨H.pick [1,3,4,5] [4,5,6,7,8,9,10],(ro 11 rfl (jk [.slice qR t.qB.length qO,.slice a321 ((bags.take s.qw.length).length) c8,.slice ae327 ((bags[s.qw.length]!).length) ce327] [(0,.slice qR t.qB.length qO),(1,.slice a321 ((bags.take s.qw.length).length) c8),(2,.slice ae327 ((bags[s.qw.length]!).length) ce327)] (⟨H.pick [1,3,4,5] [4,5,6,7,8,9,10],(ro 12 rfl ?_)⟩)))⟩)
    obtain ⟨cp0,cp1,cp2,cp3⟩:=copy_pre (al:=t.qB) E_bags p8 p9.2 p12
    have sz331:=H.base.size
    refine oc (Vd _ (⟨t.qB,(bags.take s.qw.length),bags[s.qw.length]!⟩:qM) (H.get 7 rfl).1 (H.get 2 rfl).1 (H.get 0 rfl).1 qg qg qg qg) ?_
    rintro _ w329 ⟨ra328Alive,rn328Alive,rc328Alive,ra328Bags,rn328Bags,rc328Bags,rx328Bags,rF328Bags,ra328Around,rn328Around,rc328Around,rfl,M,K⟩ _
    replace N:=N.merge sz331 qm M
    replace H:=H.merge K M
    obtain rfl:=H.rowNB 0 rfl
    obtain rfl:=H.zo (α:=yLI) 1 rfl 0 rfl qj
    obtain rfl:=H.Xk 2 rfl
    refine ⟨H.pick [4,6,7,8] [5,6,7,8,9,10,11],(ro 14 rfl (zy H 3 [.slice ra328Alive (((⟨t.qB,(bags.take s.qw.length),bags[s.qw.length]!⟩:qM).qB).length) rc328Alive,.slice ra328Bags (((⟨t.qB,(bags.take s.qw.length),bags[s.qw.length]!⟩:qM).qE).length) rc328Bags,.slice ra328Around (((⟨t.qB,(bags.take s.qw.length),bags[s.qw.length]!⟩:qM).qC).length) rc328Around] sizeOf38 fun w336 H=>⟨H.pick [4,6,7,8] [5,6,7,8,9,10,11],(xH qh (?_))⟩))⟩
    exact meet ⟨_,b314,ra328Alive,rc328Alive,ra328Bags,rc328Bags,ra328Around,rc328Around,rx328Bags,rF328Bags,uE4,N,H.pick [3,0,1,2,4,5,6,7,8] [0,6,7,8,9,10]⟩
   obtain ⟨a337,c338,G339,s340,h341,H⟩:=H.jO 2 rfl 0 rfl (iv:=s.qw.length) s.qw.length qf qf
   refine zF (.slice a337 ((bags[s.qw.length]!).length) c338) isAgg22 rfl (h341) (⟨H.pick [1,3,4,5] [1,2,3,4,5,6,7],(ro 5 rfl ?_)⟩)
   obtain ⟨G342,hg344,hn343,H⟩:=H.Qz (α:=yLI) 2 rfl 1 rfl qj
   have hl349:=H.isLen 0 rfl
   refine o_head H 0 rfl s.qw.length underlying27 ti22 rfl rfl qf qf fun a345 G346 hG347 H=>?_
   have hl348:(bags.take s.qw.length).length=s.qw.length:=List.length_take_of_le qf
   refine ⟨H.pick [1,3,4,5] [3,4,5,6,7,8,9],(ro 11 rfl (jk [.slice qR t.qB.length qO,.slice a345 ((bags.take s.qw.length).length) c8,.slice a337 ((bags[s.qw.length]!).length) c338] [(0,.slice qR t.qB.length qO),(1,.slice a345 ((bags.take s.qw.length).length) c8),(2,.slice a337 ((bags[s.qw.length]!).length) c338)] (⟨H.pick [1,3,4,5] [3,4,5,6,7,8,9],(ro 12 rfl ?_)⟩)))⟩
   obtain ⟨cp0,cp1,cp2,cp3⟩:=copy_pre (al:=t.qB) E_bags p8 p9.2 p12
   have sz353:=H.base.size
   refine oc (Vd _ (⟨t.qB,(bags.take s.qw.length),bags[s.qw.length]!⟩:qM) (H.get 6 rfl).1 (H.get 0 rfl).1 (H.get 2 rfl).1 qg qg qg qg) ?_
   rintro _ w351 ⟨ra350Alive,rn350Alive,rc350Alive,ra350Bags,rn350Bags,rc350Bags,rx350Bags,rF350Bags,ra350Around,rn350Around,rc350Around,rfl,M,K⟩ _
   replace N:=N.merge sz353 qm M
   replace H:=H.merge K M
   obtain rfl:=H.rowNB 0 rfl
   obtain rfl:=H.zo (α:=yLI) 1 rfl 0 rfl qj
   obtain rfl:=H.Xk 2 rfl
   refine ⟨H.pick [4,6,7,8] [4,5,6,7,8,9,10],(ro 14 rfl (zy H 3 [.slice ra350Alive (((⟨t.qB,(bags.take s.qw.length),bags[s.qw.length]!⟩:qM).qB).length) rc350Alive,.slice ra350Bags (((⟨t.qB,(bags.take s.qw.length),bags[s.qw.length]!⟩:qM).qE).length) rc350Bags,.slice ra350Around (((⟨t.qB,(bags.take s.qw.length),bags[s.qw.length]!⟩:qM).qC).length) rc350Around] sizeOf38 fun w358 H=>⟨H.pick [4,6,7,8] [4,5,6,7,8,9,10],(xH qh (?_))⟩))⟩
   exact meet ⟨_,b314,ra350Alive,rc350Alive,ra350Bags,rc350Bags,ra350Around,rc350Around,rx350Bags,rF350Bags,uE4,N,H.pick [3,0,1,2,4,5,6,7,8] [0,5,6,7,8,9]⟩
  refine Xo (fun ρ w361=>∃ (xN:Env) (b359:Nat),ρ=upd (upd (upd (upd (upd (upd (upd (upd (upd xN 3 (pp b1 0)) 6 (pp b5 0)) 9 (.slice (aa b36 0) s.qw.length s.qw.length)) 13 (pp b359 0)) 77 (.slice qR t.qB.length qO)) 78 (.slice (aa b240 0) (t.qE.length+1) c8)) 80 (yI s.qw.length)) 82 (.slice (aa b240 0) (t.qE.length+1) c8)) 83 (.agg #[yI s.xB,.slice qA s.qw.length qy,.slice qK s.qx.length qH])∧Fresh w.heap.size []∧St w w361 [.box b359 [yN,yN,yN] 38,rr (aa b36 0) s.qw.length s.qw.length 4 1 ((yt s counts s.qw.length i).map (Value.bool)),rr (aa b240 0) (t.qE.length+1) c8 22 1 x_bags,.box b5 [yN,yN,yN] 38,.box b3 (yT t qR qO xh qZ qJ qI) 38,.box b1 (yS s qA qy qK qH) 36] [zk false F_bags x_bags bags,sF false qW qA qy s.qw,sF false xy qK qH s.qx,sF false xJ qR qO t.qB,sF false zn xh qZ t.qE,sF false xw qJ qI t.qC,sF false Fcounts acounts ccounts counts]) 7 #[true,true,true,true,true,false,true,true,false,false,false,false,false,true,false] ?_ fun L360=>?_
  ·skip
   rintro ρ w362 ⟨xN,b359,rfl,N,H⟩
   refine vS [5,8] qh qm (jA rfl ?_ (jA rfl ?_ vT))
   ·skip
    obtain ⟨G363,hg365,hn364,H⟩:=H.Qz (α:=yLI) 2 rfl 0 rfl qj
    have hl370:=H.isLen 0 rfl
    refine o_head H 0 rfl s.qw.length underlying27 ti22 rfl rfl qf qf fun a366 G367 hG368 H=>?_
    have hl369:(bags.take s.qw.length).length=s.qw.length:=List.length_take_of_le qf
    refine ⟨H.pick [1,3,4,5] [2,3,4,5,6,7,8],(ro 8 rfl (oq (around_ok _ s (H.get 3 rfl).1 (H.get 4 rfl).1) H fun w372 H=>⟨H.pick [1,3,4,5] [2,3,4,5,6,7,8],?_⟩))⟩
    obtain ⟨ae374,ce374,Fe374,H⟩:=H.vH 1 rfl s.qw.length s.qw.length qf qf qf
    refine tI 9 rfl rfl rfl (H.pick [1,3,4,5] [4,5,6,7,8,9,10]) ?_
    refine ro 10 rfl (zF (.slice ae374 ((bags[s.qw.length]!).length) ce374) isAgg22 rfl (H.xR 1 rfl 0 rfl) (⟨H.pick [1,3,4,5] [4,5,6,7,8,9,10],(ro 11 rfl (jk [.slice qR t.qB.length qO,.slice a366 ((bags.take s.qw.length).length) c8,.slice ae374 ((bags[s.qw.length]!).length) ce374] [(0,.slice qR t.qB.length qO),(1,.slice a366 ((bags.take s.qw.length).length) c8),(2,.slice ae374 ((bags[s.qw.length]!).length) ce374)] (⟨H.pick [1,3,4,5] [4,5,6,7,8,9,10],(ro 12 rfl ?_)⟩)))⟩))
    obtain ⟨cp0,cp1,cp2,cp3⟩:=copy_pre (al:=t.qB) E_bags p8 p9.2 p12
    have sz378:=H.base.size
    refine oc (Vd _ (⟨t.qB,(bags.take s.qw.length),bags[s.qw.length]!⟩:qM) (H.get 7 rfl).1 (H.get 2 rfl).1 (H.get 0 rfl).1 qg qg qg qg) ?_
    rintro _ w376 ⟨ra375Alive,rn375Alive,rc375Alive,ra375Bags,rn375Bags,rc375Bags,rx375Bags,rF375Bags,ra375Around,rn375Around,rc375Around,rfl,M,K⟩ _
    replace N:=N.merge sz378 qm M
    replace H:=H.merge K M
    obtain rfl:=H.rowNB 0 rfl
    obtain rfl:=H.zo (α:=yLI) 1 rfl 0 rfl qj
    obtain rfl:=H.Xk 2 rfl
    refine ⟨H.pick [4,6,7,8] [5,6,7,8,9,10,11],(ro 14 rfl (zy H 3 [.slice ra375Alive (((⟨t.qB,(bags.take s.qw.length),bags[s.qw.length]!⟩:qM).qB).length) rc375Alive,.slice ra375Bags (((⟨t.qB,(bags.take s.qw.length),bags[s.qw.length]!⟩:qM).qE).length) rc375Bags,.slice ra375Around (((⟨t.qB,(bags.take s.qw.length),bags[s.qw.length]!⟩:qM).qC).length) rc375Around] sizeOf38 fun w383 H=>⟨H.pick [4,6,7,8] [5,6,7,8,9,10,11],(xH qh (?_))⟩))⟩
    exact meet ⟨_,b359,ra375Alive,rc375Alive,ra375Bags,rc375Bags,ra375Around,rc375Around,rx375Bags,rF375Bags,uE4,N,H.pick [3,0,1,2,4,5,6,7,8] [0,6,7,8,9,10]⟩
   refine oq (around_ok _ s (H.get 1 rfl).1 (H.get 2 rfl).1) H fun w385 H=>⟨H.pick [1,3,4,5] [0,1,2,3,4,5,6],(tI 9 rfl rfl rfl (H.pick [1,3,4,5] [0,1,2,3,4,5,6]) ?_)⟩
   exact Qe L315 ⟨_,b359,uE8,N,H⟩
  have S:=H.jY [0,2,3,4] [0,1,2,3,4,5,6]
  refine tF 0 rfl rfl S ?_
  refine tL 1 rfl rfl (fun _ h=>h.cell 2 rfl rfl) S ?_
  refine rtp 2 (.slice (aa b240 0) (t.qE.length+1) c8) S ?_
  refine rt 3 (.agg #[yI s.xB,.slice qA s.qw.length qy,.slice qK s.qx.length qH]) (Qk (cs:=(yS s qA qy qK qH)) isAgg36 sizeOf36 rfl (fun _ h=>qF (h.cells 3 rfl) 0 3)) S ?_
  refine rtp 6 (.slice (aa b240 0) (t.qE.length+1) c8) S ?_
  refine rt 7 (.agg #[yI s.xB,.slice qA s.qw.length qy,.slice qK s.qx.length qH]) (Qk (cs:=(yS s qA qy qK qH)) isAgg36 sizeOf36 rfl (fun _ h=>qF (h.cells 3 rfl) 0 3)) S ?_
  refine vS [4,13] qh qm (jA rfl ?_ (jA rfl ?_ vT))
  ·skip
   refine oq (around_ok _ s (H.get 1 rfl).1 (H.get 2 rfl).1) H fun w388 H=>⟨H.pick [0,2,3,4] [0,1,2,3,4,5,6],(vS [5,8,13] qh qm (jA rfl ?_ (jA rfl ?_ (jA rfl ?_ vT))))⟩
   ·skip
    obtain ⟨G390,hg392,hn391,H⟩:=H.Qz (α:=yLI) 1 rfl 0 rfl qj
    have hl397:=H.isLen 0 rfl
    refine o_head H 0 rfl s.qw.length underlying27 ti22 rfl rfl qf qf fun a393 G394 hG395 H=>?_
    have hl396:(bags.take s.qw.length).length=s.qw.length:=List.length_take_of_le qf
    refine ⟨H.pick [0,2,3,4] [2,3,4,5,6,7,8],(vS [8,13] qh qm (jA rfl ?_ (jA rfl ?_ vT)))⟩
    ·skip
     refine oq (around_ok _ s (H.get 3 rfl).1 (H.get 4 rfl).1) H fun w399 H=>⟨H.pick [0,2,3,4] [2,3,4,5,6,7,8],?_⟩
     obtain ⟨ae401,ce401,Fe401,H⟩:=H.vH 1 rfl s.qw.length s.qw.length qf qf qf
     refine tI 9 rfl rfl rfl (H.pick [0,2,3,4] [4,5,6,7,8,9,10]) ?_
     exact Qe L296 ⟨_,a393,G394,G390,uE6,N,H.pick [0,1,2,3,4] [2,3,4,5,6,7,8,9,10]⟩
    refine xI H ti38 [yN,yN,yN] fun b402 w403 H=>⟨H.pick [1,3,4,5] [2,3,4,5,6,7,8],(ro 8 rfl (oq (around_ok _ s (H.get 3 rfl).1 (H.get 4 rfl).1) H fun w405 H=>⟨H.pick [1,3,4,5] [2,3,4,5,6,7,8],?_⟩))⟩
    obtain ⟨ae407,ce407,Fe407,H⟩:=H.vH 1 rfl s.qw.length s.qw.length qf qf qf
    refine tI 9 rfl rfl rfl (H.pick [1,3,4,5] [4,5,6,7,8,9,10]) ?_
    refine ro 10 rfl (zF (.slice ae407 ((bags[s.qw.length]!).length) ce407) isAgg22 rfl (H.xR 1 rfl 0 rfl) (⟨H.pick [1,3,4,5] [4,5,6,7,8,9,10],(ro 11 rfl (jk [.slice qR t.qB.length qO,.slice a393 ((bags.take s.qw.length).length) c8,.slice ae407 ((bags[s.qw.length]!).length) ce407] [(0,.slice qR t.qB.length qO),(1,.slice a393 ((bags.take s.qw.length).length) c8),(2,.slice ae407 ((bags[s.qw.length]!).length) ce407)] (⟨H.pick [1,3,4,5] [4,5,6,7,8,9,10],(ro 12 rfl ?_)⟩)))⟩))
    obtain ⟨cp0,cp1,cp2,cp3⟩:=copy_pre (al:=t.qB) E_bags p8 p9.2 p12
    have sz411:=H.base.size
    refine oc (Vd _ (⟨t.qB,(bags.take s.qw.length),bags[s.qw.length]!⟩:qM) (H.get 7 rfl).1 (H.get 2 rfl).1 (H.get 0 rfl).1 qg qg qg qg) ?_
    rintro _ w409 ⟨ra408Alive,rn408Alive,rc408Alive,ra408Bags,rn408Bags,rc408Bags,rx408Bags,rF408Bags,ra408Around,rn408Around,rc408Around,rfl,M,K⟩ _
    replace N:=N.merge sz411 qm M
    replace H:=H.merge K M
    obtain rfl:=H.rowNB 0 rfl
    obtain rfl:=H.zo (α:=yLI) 1 rfl 0 rfl qj
    obtain rfl:=H.Xk 2 rfl
    refine ⟨H.pick [4,6,7,8] [5,6,7,8,9,10,11],(ro 14 rfl (zy H 3 [.slice ra408Alive (((⟨t.qB,(bags.take s.qw.length),bags[s.qw.length]!⟩:qM).qB).length) rc408Alive,.slice ra408Bags (((⟨t.qB,(bags.take s.qw.length),bags[s.qw.length]!⟩:qM).qE).length) rc408Bags,.slice ra408Around (((⟨t.qB,(bags.take s.qw.length),bags[s.qw.length]!⟩:qM).qC).length) rc408Around] sizeOf38 fun w416 H=>⟨H.pick [4,6,7,8] [5,6,7,8,9,10,11],(xH qh (?_))⟩))⟩
    exact meet ⟨_,b402,ra408Alive,rc408Alive,ra408Bags,rc408Bags,ra408Around,rc408Around,rx408Bags,rF408Bags,uE4,N,H.pick [3,0,1,2,4,5,6,7,8] [0,6,7,8,9,10]⟩
   ·skip
    refine oq (around_ok _ s (H.get 1 rfl).1 (H.get 2 rfl).1) H fun w418 H=>⟨H.pick [0,2,3,4] [0,1,2,3,4,5,6],(tI 9 rfl rfl rfl (H.pick [0,2,3,4] [0,1,2,3,4,5,6]) ?_)⟩
    refine vS [5,10,13] qh qm (jA rfl ?_ (jA rfl ?_ (jA rfl ?_ vT)))
    ·skip
     obtain ⟨G420,hg422,hn421,H⟩:=H.Qz (α:=yLI) 1 rfl 0 rfl qj
     have hl427:=H.isLen 0 rfl
     refine o_head H 0 rfl s.qw.length underlying27 ti22 rfl rfl qf qf fun a423 G424 hG425 H=>?_
     have hl426:(bags.take s.qw.length).length=s.qw.length:=List.length_take_of_le qf
     refine ⟨H.pick [0,2,3,4] [2,3,4,5,6,7,8],(Qe L296 ⟨_,a423,G424,G420,uE6,N,H⟩)⟩
    ·skip
     obtain ⟨a428,c429,G430,s431,h432,H⟩:=H.jO 1 rfl 0 rfl (iv:=s.qw.length) s.qw.length qf qf
     refine zF (.slice a428 ((bags[s.qw.length]!).length) c429) isAgg22 rfl (h432) (⟨H.pick [0,2,3,4] [1,2,3,4,5,6,7],(vS [5,13] qh qm (jA rfl ?_ (jA rfl ?_ vT)))⟩)
     ·skip
      obtain ⟨G433,hg435,hn434,H⟩:=H.Qz (α:=yLI) 1 rfl 1 rfl qj
      have hl440:=H.isLen 0 rfl
      refine o_head H 0 rfl s.qw.length underlying27 ti22 rfl rfl qf qf fun a436 G437 hG438 H=>?_
      have hl439:(bags.take s.qw.length).length=s.qw.length:=List.length_take_of_le qf
      refine ⟨H.pick [0,2,3,4] [3,4,5,6,7,8,9],(Qe L257 ⟨_,a428,c429,a436,G437,G430,uE6,N,H.pick [0,1,2,3,4] [0,2,3,4,5,6,7,8,9]⟩)⟩
     refine xI H ti38 [yN,yN,yN] fun b441 w442 H=>⟨H.pick [1,3,4,5] [1,2,3,4,5,6,7],(ro 5 rfl ?_)⟩
     obtain ⟨G443,hg445,hn444,H⟩:=H.Qz (α:=yLI) 2 rfl 1 rfl qj
     have hl450:=H.isLen 0 rfl
     refine o_head H 0 rfl s.qw.length underlying27 ti22 rfl rfl qf qf fun a446 G447 hG448 H=>?_
     have hl449:(bags.take s.qw.length).length=s.qw.length:=List.length_take_of_le qf
     refine ⟨H.pick [1,3,4,5] [3,4,5,6,7,8,9],(ro 11 rfl (jk [.slice qR t.qB.length qO,.slice a446 ((bags.take s.qw.length).length) c8,.slice a428 ((bags[s.qw.length]!).length) c429] [(0,.slice qR t.qB.length qO),(1,.slice a446 ((bags.take s.qw.length).length) c8),(2,.slice a428 ((bags[s.qw.length]!).length) c429)] (⟨H.pick [1,3,4,5] [3,4,5,6,7,8,9],(ro 12 rfl ?_)⟩)))⟩
     obtain ⟨cp0,cp1,cp2,cp3⟩:=copy_pre (al:=t.qB) E_bags p8 p9.2 p12
     have sz454:=H.base.size
     refine oc (Vd _ (⟨t.qB,(bags.take s.qw.length),bags[s.qw.length]!⟩:qM) (H.get 6 rfl).1 (H.get 0 rfl).1 (H.get 2 rfl).1 qg qg qg qg) ?_
     rintro _ w452 ⟨ra451Alive,rn451Alive,rc451Alive,ra451Bags,rn451Bags,rc451Bags,rx451Bags,rF451Bags,ra451Around,rn451Around,rc451Around,rfl,M,K⟩ _
     replace N:=N.merge sz454 qm M
     replace H:=H.merge K M
     obtain rfl:=H.rowNB 0 rfl
     obtain rfl:=H.zo (α:=yLI) 1 rfl 0 rfl qj
     obtain rfl:=H.Xk 2 rfl
     refine ⟨H.pick [4,6,7,8] [4,5,6,7,8,9,10],(ro 14 rfl (zy H 3 [.slice ra451Alive (((⟨t.qB,(bags.take s.qw.length),bags[s.qw.length]!⟩:qM).qB).length) rc451Alive,.slice ra451Bags (((⟨t.qB,(bags.take s.qw.length),bags[s.qw.length]!⟩:qM).qE).length) rc451Bags,.slice ra451Around (((⟨t.qB,(bags.take s.qw.length),bags[s.qw.length]!⟩:qM).qC).length) rc451Around] sizeOf38 fun w459 H=>⟨H.pick [4,6,7,8] [4,5,6,7,8,9,10],(xH qh (?_))⟩))⟩
     exact meet ⟨_,b441,ra451Alive,rc451Alive,ra451Bags,rc451Bags,ra451Around,rc451Around,rx451Bags,rF451Bags,uE4,N,H.pick [3,0,1,2,4,5,6,7,8] [0,5,6,7,8,9]⟩
    refine xI H ti38 [yN,yN,yN] fun b460 w461 H=>⟨H.pick [1,3,4,5] [0,1,2,3,4,5,6],(Qe L315 ⟨_,b460,uE8,N,H⟩)⟩
   refine xI H ti38 [yN,yN,yN] fun b462 w463 H=>⟨H.pick [1,3,4,5] [0,1,2,3,4,5,6],(Qe L360 ⟨_,b462,uE9,N,H⟩)⟩
  refine xI H ti38 [yN,yN,yN] fun b464 w465 H=>⟨H.pick [1,3,4,5] [0,1,2,3,4,5,6],(ro 4 rfl (oq (around_ok _ s (H.get 1 rfl).1 (H.get 2 rfl).1) H fun w467 H=>⟨H.pick [1,3,4,5] [0,1,2,3,4,5,6],(Qe L360 ⟨_,b464,uE9,N,H⟩)⟩))⟩
 clear H N
 rintro ρ w469 ⟨xN,b241,ra242,rc243,ra244,rc245,ra246,rc247,rx248,rF249,rfl,N,H⟩
 refine t_n (zcc (sp (.slice (aa b36 0) s.qw.length s.qw.length) (oN rfl (sw (o_sub s.qw.length 1 rfl rfl qf (sp (yI (s.qw.length - 1)) (zjn (qY ?_))))))))
 obtain rfl:i=s.qx.length:=by omega
 have hl:=stepped_live p1 E_bags qf
 obtain ⟨s1,s2⟩:=step_tab E_bags
 rw [show (⟨t.qB,(bags.take s.qw.length),bags[s.qw.length]!⟩:qM)=xu s t counts from by rw [show bags.take s.qw.length=_ from s1,show bags[s.qw.length]! =_ from s2];rfl] at H
 refine zB (fun m' ρ w470=>∃ (xN:Env) (c:Int) (out_Alive:List Bool) (out_Bags:yLL) (zN:List Value) (zf:yLN) (j:Nat),ρ=upd (upd (upd (upd (upd xN 3 (pp b1 0)) 6 (pp b5 0)) 9 (.slice (aa b36 0) s.qw.length s.qw.length)) 13 (pp b241 0)) 14 (yI c)∧out_Alive=(xm s counts (xu s t counts) j).qB∧out_Bags=(xm s counts (xu s t counts) j).qE∧(c=(s.qw.length:Int) - 1 - j)∧(j+1≤s.qw.length)∧m' =(c:Int).toNat∧Fresh w.heap.size [zf]∧St w w470 [.box b241 [.slice ra242 (((xu s t counts).qB).length) rc243,.slice ra244 (((xu s t counts).qE).length) rc245,.slice ra246 (((xu s t counts).qC).length) rc247] 38,rr ra242 (((xu s t counts).qB).length) rc243 4 1 (out_Alive.map (Value.bool)),rr ra244 (((xu s t counts).qE).length) rc245 22 1 zN,rr ra246 (((xu s t counts).qC).length) rc247 2 1 (((xu s t counts).qC).map (Value.int .i64)),rr (aa b36 0) s.qw.length s.qw.length 4 1 ((yt s counts s.qw.length s.qx.length).map (Value.bool)),.box b5 [yN,yN,yN] 38,.box b3 (yT t qR qO xh qZ qJ qI) 38,.box b1 (yS s qA qy qK qH) 36] [zk true zf zN out_Bags,sF false qW qA qy s.qw,sF false xy qK qH s.qx,sF false xJ qR qO t.qB,sF false zn xh qZ t.qE,sF false xw qJ qI t.qC]) (((s.qw.length - 1):Int).toNat) ⟨_,s.qw.length - 1,(xu s t counts).qB,(xu s t counts).qE,rx248,rF249,0,uE5,(by rfl),(by rfl),qf,qf,rfl,N,H.pick [0,1,2,3,4,6,7,8] [0,1,2,3,4,5]⟩ ?_
 clear H N
 rintro m' ρ w471 ⟨xN,c,out_Alive,out_Bags,zN,zf,j,rfl,rfl,rfl,ic,jc,rfl,N,H⟩
 have hn_out_Alive:=H.rowNB 1 rfl
 have VB:=H.zo (α:=yLI) 2 rfl 0 rfl qj
 have L:=meltDown_live (counts:=counts) p0 hl j qf
 have L1:=L.alive
 have L2:=L.root
 have L3:=L.bags.1
 rw [← Qg s counts (xu s t counts) j] at H
 refine zcc (sps [yI c,.bool (decide ((c:Int) > 0))] (zjn (cD rfl (fun h472=>?_) (fun h472=>?_))))
 ·skip
  refine qV (t_n (xU (qY (zcr (sps [.slice (aa b36 0) s.qw.length s.qw.length,yI c] (oI rfl rfl (oL rfl (H.rowBool 4 rfl (iv:=c) (i:=c.toNat) qf qf) (zjn (xF ((yt s counts s.qw.length s.qx.length)[c.toNat]!) rfl (fun h473=>?_) (fun h473=>?_))))))))))
  ·skip
   refine xX (sw (zl (yS s qA qy qK qH) isAgg36 sizeOf36 rfl (qF (H.cells 7 rfl) 0 3) (sp (yI c) (sw (zZ #[.agg #[yI s.xB,.slice qA s.qw.length qy,.slice qK s.qx.length qH],pp b241 0,yI c] rfl rfl call155 (en func155 ntmps155 ?_))))))
   refine zcr (sw (vz H (yS s qA qy qK qH) fun b474 w475 H=>zjn (xU ?_)))
   refine ja rfl H fun H=>rt 0 (.agg #[yI s.xB,.slice qA s.qw.length qy,.slice qK s.qx.length qH]) (Qk (cs:=(yS s qA qy qK qH)) isAgg36 sizeOf36 rfl (fun _ h=>qF (h.cells 0 rfl) 0 3)) H ?_
   refine rtp 1 (pp b241 0) H ?_
   refine rtp 2 (pp b241 0) H ?_
   refine rt 3 (.agg #[.slice ra242 (((xu s t counts).qB).length) rc243,.slice ra244 (((xu s t counts).qE).length) rc245,.slice ra246 (((xm s counts (xu s t counts) j).qC).length) rc247]) (Qk (cs:=[.slice ra242 (((xu s t counts).qB).length) rc243,.slice ra244 (((xu s t counts).qE).length) rc245,.slice ra246 (((xm s counts (xu s t counts) j).qC).length) rc247]) isAgg38 sizeOf38 rfl (fun _ h=>qF (h.cells 1 rfl) 0 3)) H ?_
   refine rtp 4 (yI c) H ?_
   refine ro 5 rfl ?_
   obtain ⟨G477,hn478,h479⟩:=H.rowIsB 2 rfl
   obtain ⟨G480,hn481,h482⟩:=H.rowIsR (α:=yLI) 3 rfl 0 rfl qj
   obtain ⟨G483,hn484,h485⟩:=H.rowIsI 4 rfl
   refine oq (args_eq (by rw [← hn478,← hn481]) (parentNow_ok _ s (xm s counts (xu s t counts) j) c (H.get 1 rfl).1 (H.get 2 rfl).1 (hn478▸h479) (hn481▸h482) h485 qg qg qg)) H fun w487 H=>?_
   have pin:=VH (s:=s) (t:=(xm s counts (xu s t counts) j)) (c:=c) p0.1 L2 qf qf
   refine ⟨H,(rtp 6 (yI (xx s (xm s counts (xu s t counts) j) c)) H ?_)⟩
   refine xH qh (t_n (xU ?_))
   obtain ⟨b489,rfl⟩:=H.yP 3 rfl qf
   refine c_cut (fun ρ w492=>∃ (xN:Env) (xs490:List Value) (F491:yLN),ρ=upd (upd (upd xN 1 (pp b241 0)) 2 (yI c)) 3 (pp b474 0)∧Fresh w.heap.size [F491]∧St w w492 [.box b474 (yS s qA qy qK qH) 36,.box b241 [.slice ra242 (((xu s t counts).qB).length) rc243,.slice (aa b489 0) (((xu s t counts).qE).length) rc245,.slice ra246 (((xm s counts (xu s t counts) j).qC).length) rc247] 38,rr ra242 (((xu s t counts).qB).length) rc243 4 1 (((xm s counts (xu s t counts) j).qB).map (Value.bool)),rr (aa b489 0) (((xu s t counts).qE).length) rc245 22 1 xs490,rr ra246 (((xm s counts (xu s t counts) j).qC).length) rc247 2 1 (((xm s counts (xu s t counts) j).qC).map (Value.int .i64)),rr (aa b36 0) s.qw.length s.qw.length 4 1 ((yt s counts s.qw.length s.qx.length).map (Value.bool)),.box b5 [yN,yN,yN] 38,.box b3 (yT t qR qO xh qZ qJ qI) 38,.box b1 (yS s qA qy qK qH) 36] [zk true F491 xs490 (((xm s counts (xu s t counts) j).qE).set ((xx s (xm s counts (xu s t counts) j) c).toNat) (vY (((xm s counts (xu s t counts) j).qE)[(xx s (xm s counts (xu s t counts) j) c).toNat]!) (((xm s counts (xu s t counts) j).qE)[c.toNat]!) 1)),sF false qW qA qy s.qw,sF false xy qK qH s.qx,sF false xJ qR qO t.qB,sF false zn xh qZ t.qE,sF false xw qJ qI t.qC]) ?_ ?_
   ·skip
    refine yY rfl H [0,1,2,4,5,6,7,8] fun H=>?_
    have S:=H.jY [0,1,2,4,5,6,7,8] [0,1,2,3,4,5]
    refine rtp 0 (pp b241 0) S ?_
    refine rtp 1 (pp b241 0) S ?_
    refine tF 2 rfl rfl S ?_
    refine tL 3 rfl rfl (fun _ h=>h.cell 1 rfl rfl) S ?_
    refine rtp 4 (yI (xx s (xm s counts (xu s t counts) j) c)) S ?_
    refine rtp 5 (pp b241 0) S ?_
    refine rtp 6 (pp b241 0) S ?_
    refine tF 7 rfl rfl S ?_
    refine tL 8 rfl rfl (fun _ h=>h.cell 1 rfl rfl) S ?_
    refine rtp 9 (yI (xx s (xm s counts (xu s t counts) j) c)) S ?_
    refine tI 10 rfl rfl rfl S ?_
    refine rtp 12 (pp b241 0) S ?_
    refine rtp 13 (pp b241 0) S ?_
    refine tF 14 rfl rfl S ?_
    refine tL 15 rfl rfl (fun _ h=>h.cell 1 rfl rfl) S ?_
    refine rtp 16 (yI c) S ?_
    refine tI 17 rfl rfl rfl S ?_
    refine vS [11,18] qh qm (jA rfl ?_ (jA rfl ?_ vT))
    ·skip
     obtain ⟨a494,c495,G496,s497,h498,H⟩:=H.jO 3 rfl 0 rfl (iv:=xx s (xm s counts (xu s t counts) j) c) ((xx s (xm s counts (xu s t counts) j) c).toNat) qf qf
     refine zF (.slice a494 ((((xm s counts (xu s t counts) j).qE)[(xx s (xm s counts (xu s t counts) j) c).toNat]!).length) c495) isAgg22 rfl (h498) (⟨H.pick [0,1,2,4,5,6,7,8] [1,2,3,4,5,6],(ro 18 rfl ?_)⟩)
     obtain ⟨a499,c500,G501,s502,h503,H⟩:=H.jO 3 rfl 1 rfl (iv:=c) c.toNat qf qf
     refine zF (.slice a499 ((((xm s counts (xu s t counts) j).qE)[c.toNat]!).length) c500) isAgg22 rfl (h503) (⟨H.pick [0,1,2,4,5,6,7,8] [2,3,4,5,6,7],(ro 19 rfl ?_)⟩)
     obtain ⟨u1,u2,u4⟩:=L.rows p0 (bnd_le qf) (p:=(xx s (xm s counts (xu s t counts) j) c).toNat) (c:=c.toNat) qf qf
     have sz504:=H.base.size
     have lt505:=H.ltN (L:=[zf]) [2]
     refine oc (plus_ok _ (((xm s counts (xu s t counts) j).qE)[(xx s (xm s counts (xu s t counts) j) c).toNat]!) (((xm s counts (xu s t counts) j).qE)[c.toNat]!) 1 (H.get 1 rfl).1 (H.get 0 rfl).1 qg qg qg) ?_
     rintro v509 w507 r509 x508
     replace H:=H.zC x508 r509
     obtain ⟨a510,c511,rfl,hc512,hm513⟩:=H.ji 0 rfl
     refine ⟨H.pick [1,2,3,5,6,7,8,9] [2,3,4,5,6,7],(tI 20 rfl rfl rfl (H.pick [1,2,3,5,6,7,8,9] [2,3,4,5,6,7]) ?_)⟩
     refine ro 21 rfl ?_
     obtain ⟨G515,N,hn516,H⟩:=H.vP 0 rfl N (H.yg [2])
     refine jB true H 4 rfl 3 rfl (.slice a510 ((vY (((xm s counts (xu s t counts) j).qE)[(xx s (xm s counts (xu s t counts) j) c).toNat]!) (((xm s counts (xu s t counts) j).qE)[c.toNat]!) 1).length) c511) 0 rfl rfl sizeOf22 rfl rfl (i:=((xx s (xm s counts (xu s t counts) j) c).toNat)) qf qf qm fun w514 xs517 F518 hs519 H=>?_
     replace N:Fresh w.heap.size [F518]:=(N.pick [1,0]).repl hs519
     refine ⟨H.pick [1,2,3,5,6,7,8,9] [4,5,6,7,8,9],(xH qh ((meet ⟨_,xs517,F518,uE3,N,H.pick [1,2,3,4,5,6,7,8,9] [0,5,6,7,8,9]⟩)))⟩
    obtain ⟨a520,c521,G522,s523,h524,H⟩:=H.jO 3 rfl 0 rfl (iv:=c) c.toNat qf qf
    refine zF (.slice a520 ((((xm s counts (xu s t counts) j).qE)[c.toNat]!).length) c521) isAgg22 rfl (h524) (⟨H.pick [0,1,2,4,5,6,7,8] [1,2,3,4,5,6],(ro 11 rfl ?_)⟩)
    obtain ⟨a525,c526,G527,s528,h529,H⟩:=H.jO 3 rfl 1 rfl (iv:=xx s (xm s counts (xu s t counts) j) c) ((xx s (xm s counts (xu s t counts) j) c).toNat) qf qf
    refine zF (.slice a525 ((((xm s counts (xu s t counts) j).qE)[(xx s (xm s counts (xu s t counts) j) c).toNat]!).length) c526) isAgg22 rfl (h529) (⟨H.pick [0,1,2,4,5,6,7,8] [2,3,4,5,6,7],(ro 19 rfl ?_)⟩)
    obtain ⟨u1,u2,u4⟩:=L.rows p0 (bnd_le qf) (p:=(xx s (xm s counts (xu s t counts) j) c).toNat) (c:=c.toNat) qf qf
    have sz530:=H.base.size
    have lt531:=H.ltN (L:=[zf]) [2]
    refine oc (plus_ok _ (((xm s counts (xu s t counts) j).qE)[(xx s (xm s counts (xu s t counts) j) c).toNat]!) (((xm s counts (xu s t counts) j).qE)[c.toNat]!) 1 (H.get 0 rfl).1 (H.get 1 rfl).1 qg qg qg) ?_
    rintro v535 w533 r535 x534
    replace H:=H.zC x534 r535
    obtain ⟨a536,c537,rfl,hc538,hm539⟩:=H.ji 0 rfl
    refine ⟨H.pick [1,2,3,5,6,7,8,9] [2,3,4,5,6,7],(tI 20 rfl rfl rfl (H.pick [1,2,3,5,6,7,8,9] [2,3,4,5,6,7]) ?_)⟩
    refine ro 21 rfl ?_
    obtain ⟨G541,N,hn542,H⟩:=H.vP 0 rfl N (H.yg [2])
    refine jB true H 4 rfl 3 rfl (.slice a536 ((vY (((xm s counts (xu s t counts) j).qE)[(xx s (xm s counts (xu s t counts) j) c).toNat]!) (((xm s counts (xu s t counts) j).qE)[c.toNat]!) 1).length) c537) 0 rfl rfl sizeOf22 rfl rfl (i:=((xx s (xm s counts (xu s t counts) j) c).toNat)) qf qf qm fun w540 xs543 F544 hs545 H=>?_
    replace N:Fresh w.heap.size [F544]:=(N.pick [1,0]).repl hs545
    refine ⟨H.pick [1,2,3,5,6,7,8,9] [4,5,6,7,8,9],(xH qh ((meet ⟨_,xs543,F544,uE3,N,H.pick [1,2,3,4,5,6,7,8,9] [0,5,6,7,8,9]⟩)))⟩
   clear H N
   rintro ρ w546 ⟨xN,xs490,F491,rfl,N,H⟩
   refine t_n (xU ?_)
   refine yY rfl H [0,1,2,4,5,6,7,8] fun H=>?_
   have S:=H.jY [0,1,2,4,5,6,7,8] [0,1,2,3,4,5]
   refine rtp 0 (pp b241 0) S ?_
   refine rtp 1 (pp b241 0) S ?_
   refine tF 2 rfl rfl S ?_
   refine tL 3 rfl rfl (fun _ h=>h.cell 1 rfl rfl) S ?_
   refine rtp 4 (yI c) S ?_
   refine tF 5 rfl rfl S ?_
   refine tL 6 rfl rfl (fun _ h=>h.cell 0 rfl rfl) S ?_
   refine ro 7 rfl (jr H underlying22 ti2 s.xB.toNat rfl rfl qf qf qf fun b548 w549 H=>⟨H.pick [1,2,3,5,6,7,8,9] [0,1,2,3,4,5],(tI 8 rfl rfl rfl (H.pick [1,2,3,5,6,7,8,9] [0,1,2,3,4,5]) ?_)⟩)
   refine ro 9 rfl ?_
   obtain ⟨G551,N,hn552,H⟩:=H.vP 0 rfl N (H.yg [0])
   refine jB true H 4 rfl 1 rfl (.slice (aa b548 0) s.xB.toNat s.xB.toNat) 0 rfl rfl sizeOf22 rfl rfl (i:=c.toNat) qf qf qm fun w550 xs553 F554 hs555 H=>?_
   replace N:Fresh w.heap.size [F554]:=(N.pick [1,0]).repl hs555
   refine ⟨H.pick [1,2,3,5,6,7,8,9] [2,3,4,5,6,7],(xH qh (t_n (xX (sps [pp b241 0,pp b241 0] (oF rfl (oL rfl (H.cell 2 rfl rfl) (sp (yI c) ?_)))))))⟩
   obtain ⟨b556,rfl⟩:=H.yP 3 rfl qf
   refine oI rfl rfl (sw (Qm H 3 rfl false sizeOf4 rfl rfl (i:=c.toNat) qf qf fun w557 H=>xY (ret0 rfl ⟨_,rfl,?_⟩)))
   replace H:=H.erases [1,0]
   dsimp only [vJ,List.eraseIdx] at H
   refine xY (b_n (t_n (xX (sp (yI c) (sw (o_sub c 1 rfl rfl qf (sp (yI (c - 1)) (xY ?_))))))))
   rw [Qg] at H
   refine xg (m' :=((c - 1):Int).toNat) qf ⟨_,c - 1,(((xm s counts (xu s t counts) j).qB).set c.toNat false),((((xm s counts (xu s t counts) j).qE).set ((xx s (xm s counts (xu s t counts) j) c).toNat) (vY (((xm s counts (xu s t counts) j).qE)[(xx s (xm s counts (xu s t counts) j) c).toNat]!) (((xm s counts (xu s t counts) j).qE)[c.toNat]!) 1)).set c.toNat (List.replicate s.xB.toNat (0:Int))),xs553,F554,j+1,uE5,?_,?_,?_,?_,rfl,N,H.pick [0,1,2,3,4,5,6,7] [0,3,4,5,6,7]⟩
   · first | (rw [meltDown_yesL (c:=c) ‹_› qf qf rfl ic];rfl) | rw [meltDown_noL (c:=c) ‹_› qf qf rfl ic]
   · first | (rw [meltDown_yesL (c:=c) ‹_› qf qf rfl ic];rfl) | rw [meltDown_noL (c:=c) ‹_› qf qf rfl ic]
   · omega
   · omega
  refine qV (b_n (t_n (xX (sp (yI c) (sw (o_sub c 1 rfl rfl qf (sp (yI (c - 1)) (xY ?_))))))))
  rw [Qg] at H
  refine xg (m' :=((c - 1):Int).toNat) qf ⟨_,c - 1,((xm s counts (xu s t counts) j).qB),((xm s counts (xu s t counts) j).qE),zN,zf,j+1,uE5,?_,?_,?_,?_,rfl,N,H⟩
  · first | (rw [meltDown_yesL (c:=c) ‹_› qf qf rfl ic];rfl) | rw [meltDown_noL (c:=c) ‹_› qf qf rfl ic]
  · first | (rw [meltDown_yesL (c:=c) ‹_› qf qf rfl ic];rfl) | rw [meltDown_noL (c:=c) ‹_› qf qf rfl ic]
  · omega
  · omega
 refine zx4 (zcr (sw (zl (yS s qA qy qK qH) isAgg36 sizeOf36 rfl (qF (H.cells 7 rfl) 0 3) (sw (zl [.slice ra242 (((xu s t counts).qB).length) rc243,.slice ra244 (((xu s t counts).qE).length) rc245,.slice ra246 (((xm s counts (xu s t counts) j).qC).length) rc247] isAgg38 sizeOf38 rfl (qF (H.cells 0 rfl) 0 3) ?_)))))
 refine sw (zZ #[.agg #[yI s.xB,.slice qA s.qw.length qy,.slice qK s.qx.length qH],.agg #[.slice ra242 (((xu s t counts).qB).length) rc243,.slice ra244 (((xu s t counts).qE).length) rc245,.slice ra246 (((xm s counts (xu s t counts) j).qC).length) rc247]] rfl rfl call156 (en func156 ntmps156 ?_))
 refine zcr (sw (vz H (yS s qA qy qK qH) fun b558 w559 H=>sw (vz H [.slice ra242 (((xu s t counts).qB).length) rc243,.slice ra244 (((xu s t counts).qE).length) rc245,.slice ra246 (((xm s counts (xu s t counts) j).qC).length) rc247] fun b560 w561 H=>sw (xI H ti38 [yN,yN,yN] fun b562 w563 H=>sp (yI 0) (zjcc ?_)))))
 refine sw (zl (yS s qA qy qK qH) isAgg36 sizeOf36 rfl (qF (H.cells 2 rfl) 0 3) (sw (zl [.slice ra242 (((xu s t counts).qB).length) rc243,.slice ra244 (((xu s t counts).qE).length) rc245,.slice ra246 (((xm s counts (xu s t counts) j).qC).length) rc247] isAgg38 sizeOf38 rfl (qF (H.cells 1 rfl) 0 3) ?_)))
 obtain ⟨G564,hn565,h566⟩:=H.rowIsB 4 rfl
 obtain ⟨G567,hn568,h569⟩:=H.rowIsR (α:=yLI) 5 rfl 0 rfl qj
 obtain ⟨G570,hn571,h572⟩:=H.rowIsI 6 rfl
 refine sw (oq (args_eq (by rw [← hn565,← hn568]) (validState_ok _ s (xm s counts (xu s t counts) j) (H.get 1 rfl).1 (H.get 2 rfl).1 (hn565▸h566) (hn568▸h569) h572)) H fun w574 H=>sp (.bool (!(dec (jZ s∧zK s (xm s counts (xu s t counts) j))))) (zjn (cQ rfl (fun h576=>?_) (fun h576=>?_))))
 ·skip
  refine zcr (sw (jk [yN,yN,yN] [] (sw (zy H 0 [yN,yN,yN] sizeOf38 fun w577 H=>sp (yI 3) (zjr (t_r (retC2 H 0 rfl (yI 3) rfl isAgg38 sizeOf38 rfl rfl ⟨_,rfl,?_⟩)))))))
  replace H:=H.erases [2,1,0]
  dsimp only [vJ,List.eraseIdx] at H
  refine sps [.agg #[yN,yN,yN],yI 3] (sw (zy H 5 [yN,yN,yN] sizeOf38 fun w578 H=>sp (yI 3) (zjr ?_)))
  replace H:=H.nilRowB 4
  replace H:=H.nilRow 22 1
  replace H:=H.vN (α:=yLI)
  replace H:=H.nilRowI 2
  refine retC2 H 8 rfl (yI 3) rfl isAgg38 sizeOf38 rfl rfl ⟨_,rfl,?_,H.base⟩
  rw [stepBy_yes p3,stepRes,show jb s - 1=j by omega,told_no (fun h=>‹¬ (jZ s∧_)› ⟨p0,h⟩)]
  exact ⟨none,0,0,none,0,0,[],[],none,0,0,rfl,(N.emp.pick [0]),H.pick [2,1,0] [0]⟩
 refine qV (t_n (zcr (sw (zl [.slice ra242 (((xu s t counts).qB).length) rc243,.slice ra244 (((xu s t counts).qE).length) rc245,.slice ra246 (((xm s counts (xu s t counts) j).qC).length) rc247] isAgg38 sizeOf38 rfl (qF (H.cells 1 rfl) 0 3) (sw (zy H 0 [.slice ra242 (((xu s t counts).qB).length) rc243,.slice ra244 (((xu s t counts).qE).length) rc245,.slice ra246 (((xm s counts (xu s t counts) j).qC).length) rc247] sizeOf38 fun w579 H=>sp (yI 0) (zjr (retC2 H 0 rfl (yI 0) rfl isAgg38 sizeOf38 rfl rfl ⟨_,rfl,?_⟩))))))))
 replace H:=H.erases [2,1,0]
 dsimp only [vJ,List.eraseIdx] at H
 refine sps [.agg #[.slice ra242 (((xu s t counts).qB).length) rc243,.slice ra244 (((xu s t counts).qE).length) rc245,.slice ra246 (((xm s counts (xu s t counts) j).qC).length) rc247],yI 0] (sw (zy H 5 [.slice ra242 (((xu s t counts).qB).length) rc243,.slice ra244 (((xu s t counts).qE).length) rc245,.slice ra246 (((xm s counts (xu s t counts) j).qC).length) rc247] sizeOf38 fun w580 H=>sp (yI 0) (zjr (retC2 H 5 rfl (yI 0) rfl isAgg38 sizeOf38 rfl rfl ⟨_,rfl,?_,H.base⟩))))
 rw [stepBy_yes p3,stepRes,show jb s - 1=j by omega,told_yes (‹jZ s∧_›:jZ s∧_).2]
 exact ⟨ra242,((xu s t counts).qB).length,rc243,ra244,((xu s t counts).qE).length,rc245,zN,zf,ra246,((xm s counts (xu s t counts) j).qC).length,rc247,rfl,N,H.pick [1,2,3] [0]⟩
end
end Go.Proofs.YtgjnaocffdhnbaaGreat
