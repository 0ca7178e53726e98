/- Walks and laws, printed by program and by hand: what each function comes to, for all arguments, part 3. -/
import Derived.Test.YtkgdkfkgnodheaaGreatA2
namespace Go.Proofs.YtkgdkfkgnodheaaGreat
set_option linter.unusedVariables false
set_option linter.unusedSimpArgs false
open Go.Proofs.YtkgdkfkgnodheaaGreat.Tot (tot)
open Go.Proofs.YtkgdkfkgnodheaaGreat.Mark (cnt mrk mkd mkd_mark cnt_mark)
section
open Go.RowKit
set_option linter.unusedVariables false
set_option linter.unusedSimpArgs false
set_option maxRecDepth 100000
set_option maxHeartbeats 4000000
variable {cl bp op qH cpFree qM bs os csCells qP cb ccounts cleft : Nat}
theorem l06Sum_ok (w:World) (l:yLI) {al:yOA} {Fl:yLN} (hl:qV.rep w Fl [.slice al l.length cl] l) (p0:Small l):Calls Tryz.prog 53 #[.slice al l.length cl] w (Ret (fun v w' =>v=.int .i64 (yM l)) w):=by
 refine en Tryz.func53 Tryz.ntmps53 ?_
 have H:=(St.start w).arg hl
 have nhl:=qO hl
 clear hl
 have N:=Fresh.nil w.heap.size
 have p1:=p0.1
 refine zcr (sp (.int .i64 0) (zjc (sp (.int .i64 0) (zjcc (sp (.int .i64 0) (zjn (xm ?_)))))))
 refine zK (fun m' ρ w1=>∃ (zu:Env) (n:Int) (i:Nat),ρ=upd (upd (upd zu 0 (.slice al l.length cl)) 3 (.int .i64 n)) 4 (.int .i64 i)∧n=sumTo l i∧((i:Int)≤l.length)∧m' =(l.length - (i:Int)).toNat∧Fresh w.heap.size []∧St w w1 [] [sF false Fl al cl l]) ((l.length - (0:Int)).toNat) ⟨_,0,0,uE3,(by rfl),qg,rfl,N,H⟩ ?_
 clear H N
 rintro m' ρ w2 ⟨zu,n,i,rfl,rfl,i0,rfl,N,H⟩
 have hs:=sumTo_small p0 (k:=i)
 have hv:=p0.2 i
 refine zcc (sps [.int .i64 i,.slice al l.length cl] (oN rfl (sp (.bool (decide ((i:Int) < l.length))) (zjn (cD rfl (fun h3=>?_) (fun h3=>?_))))))
 ·skip
  refine xf (t_n (xP (xm (xJ (sps [.int .i64 (sumTo l i),.slice al l.length cl,.int .i64 i] ?_)))))
  obtain ⟨b4,o5,rfl⟩:=H.addr 0 rfl qg
  refine oI rfl rfl (oL rfl (H.vY 0 rfl i qg qg) (sw (xX (sumTo l i) (l[i]!) rfl rfl (by (have:=hv qg;have:=hs qg;omega)) (sp (.int .i64 ((sumTo l i)+(l[i]!))) (xN (b_n (t_n (xJ (sp (.int .i64 i) (sw (xX i 1 rfl rfl (by (have:=hv qg;have:=hs qg;omega)) (sp (.int .i64 (i+1)) (xN (xg (m' :=(l.length - ((i+1):Int)).toNat) qg ⟨_,(sumTo l i)+(l[i]!),i+1,uE3,?_,?_,rfl,N,H⟩))))))))))))))
  · rfl
  · omega
 ·skip
  refine zx4 (zcr (sps [.int .i64 (sumTo l i),.int .i64 (sumTo l i)] (zjr (ret1 (.int .i64 (sumTo l i)) rfl rfl ⟨_,rfl,?_,H.base⟩))))
  obtain rfl:i=l.length:=by omega
  rfl

theorem l06Bag_ok (w:World) (kinds:Int) (l:yLI) {al:yOA} {Fl:yLN} (hl:qV.rep w Fl [.slice al l.length cl] l) (p0:1≤kinds∧kinds≤8):Calls Tryz.prog 102 #[.int .i64 kinds,.slice al l.length cl] w (Ret (fun v w' =>v=.bool (dec (jI kinds l))) w):=by
 refine en Tryz.func102 Tryz.ntmps102 ?_
 have H:=(St.start w).arg hl
 have nhl:=qO hl
 clear hl
 have N:=Fresh.nil w.heap.size
 refine zcr (sp (.bool false) (zjcc (sp (.int .i64 0) (zjn (xm ?_)))))
 refine zK (fun m' ρ w1=>∃ (zu:Env) (i:Nat),ρ=upd (upd (upd zu 0 (.int .i64 kinds)) 1 (.slice al l.length cl)) 5 (.int .i64 i)∧((i:Int)≤l.length)∧(Counts l i)∧m' =(l.length - (i:Int)).toNat∧Fresh w.heap.size []∧St w w1 [] [sF false Fl al cl l]) ((l.length - (0:Int)).toNat) ⟨_,0,uE3,qg,(by exact Counts.zero l),rfl,N,H⟩ ?_
 clear H N
 rintro m' ρ w2 ⟨zu,i,rfl,i0,i1,rfl,N,H⟩
 refine zcc (sps [.int .i64 i,.slice al l.length cl] (oN rfl (sp (.bool (decide ((i:Int) < l.length))) (zjn (cD rfl (fun h3=>?_) (fun h3=>?_))))))
 ·skip
  refine xf (t_n (xP (xm (zcr (sps [.slice al l.length cl,.int .i64 i] ?_)))))
  obtain ⟨b4,o5,rfl⟩:=H.addr 0 rfl qg
  refine oI rfl rfl (oL rfl (H.vY 0 rfl i qg qg) (sw (oq (l00In_ok w2 (l[i]!) 0 1000) H fun w7 H=>sp (.bool (!(inR (l[i]!) 0 1000))) (zjn (xC (!(inR (l[i]!) 0 1000)) rfl (fun h9=>?_) (fun h9=>?_))))))
  ·skip
   replace h9:=xB h9
   replace h9:=inR_not h9
   refine zcr (sp (.bool false) (zjr (zr5 (ret1 (.bool false) rfl rfl ⟨_,rfl,?_,H.base⟩))))
   rw [zf (fun h=>‹¬ (0≤l[i]! ∧l[i]! ≤1000)› (h.1.1 i qg))]
  ·skip
   replace h9:=xq h9
   replace h9:=QB.1 h9
   refine xf (b_n (t_n (xJ (sp (.int .i64 i) (sw (xX i 1 rfl rfl qg (sp (.int .i64 (i+1)) (xN (xg (m' :=(l.length - ((i+1):Int)).toNat) qg ⟨_,i+1,uE3,?_,?_,rfl,N,H⟩)))))))))
   · omega
   · exact i1.succ ‹_›
 ·skip
  refine zx4 (zcr (sp (.slice al l.length cl) (oN rfl (sps [.int .i64 kinds,.bool ((l.length:Int) == kinds),.bool ((l.length:Int) == kinds)] (zjr (ret1 (.bool ((l.length:Int) == kinds)) rfl rfl ⟨_,rfl,?_,H.base⟩))))))
  obtain rfl:i=l.length:=by omega
  refine congrArg Value.bool (dec_eq ?_)
  rw [beq_iff_eq]
  exact ⟨fun h=>⟨⟨i1,by omega,by omega⟩,h⟩,fun h=>h.2⟩

theorem l06Rule_ok (w:World) (p:qW) (r:xM) {qI:yOA} {xe:yLN} {apFree:yOA} {FpFree:yLN} {qR:yOA} {xx:yLN} {br or:Nat} {arOut:yOA} {crOut:Nat} {FrOut:yLN} {arIn:yOA} {crIn:Nat} {FrIn:yLN} (hp:zM w bp op [.int .i64 p.qJ,.slice qI p.qC.length qH,.slice apFree p.qL.length cpFree,.slice qR p.qB.length qM]) (qX:qV.rep w xe [.slice qI p.qC.length qH] p.qC) (hpFree:qV.rep w FpFree [.slice apFree p.qL.length cpFree] p.qL) (xn:qV.rep w xx [.slice qR p.qB.length qM] p.qB) (hr:zM w br or [.int .i64 r.qE,.slice arOut r.qU.length crOut,.slice arIn r.fIn.length crIn]) (hrOut:qV.rep w FrOut [.slice arOut r.qU.length crOut] r.qU) (hrIn:qV.rep w FrIn [.slice arIn r.fIn.length crIn] r.fIn) (p0:PFrame p):Calls Tryz.prog 101 #[.pointer (some ⟨bp,op,none⟩),.pointer (some ⟨br,or,none⟩)] w (Ret (fun v w' =>v=.bool (dec (yQ p r))) w):=by
 refine en Tryz.func101 Tryz.ntmps101 ?_
 have H:=(((((((St.start w).arg hrIn).arg hrOut).argAt hr).arg xn).arg hpFree).arg qX).argAt hp
 have zF:=qO qX
 have nhpFree:=qO hpFree
 have vC:=qO xn
 have nhrOut:=qO hrOut
 have nhrIn:=qO hrIn
 clear hp qX hpFree xn hr hrOut hrIn
 have N:=Fresh.nil w.heap.size
 have p1:=p0.1
 have p2:=p0.2.2.1
 refine zcr (sp (.bool false) (zjn (xP (xP ?_))))
 refine vK rfl H fun H=>rtp 0 (.pointer (some ⟨br,or,none⟩)) H ?_
 refine rtp 1 (.pointer (some ⟨br,or,none⟩)) H ?_
 refine tF 2 rfl rfl H ?_
 refine tL 3 rfl rfl (fun _ h=>h.xU 4 rfl 0 rfl) H ?_
 refine rtp 4 (.pointer (some ⟨bp,op,none⟩)) H ?_
 refine rtp 5 (.pointer (some ⟨bp,op,none⟩)) H ?_
 refine tF 6 rfl rfl H ?_
 refine tL 7 rfl rfl (fun _ h=>h.xU 0 rfl 1 rfl) H ?_
 refine tN 8 rfl rfl H ?_
 refine rt 9 (.int .i64 (p.qC.length - 1)) (y_sub p.qC.length 1 rfl rfl (by (first | omega | (have:=psum ‹jI p.qJ r.qU›;have:=psum ‹jI p.qJ r.fIn›;omega)))) H ?_
 refine ro 10 rfl (oq (l00In_ok w.drew r.qE 0 (p.qC.length - 1)) H fun w2 H=>⟨H,(rtp 11 (.bool (!(inR r.qE 0 (p.qC.length - 1)))) H ?_)⟩)
 refine rtp 12 (.bool (!(inR r.qE 0 (p.qC.length - 1)))) H ?_
 cases h4:(!(inR r.qE 0 (p.qC.length - 1)))
 ·skip
  replace h4:=xq h4
  replace h4:=QB.1 h4
  refine rgp 13 (.pointer (some ⟨bp,op,none⟩)) 18 H ?_
  refine rgp 14 (.pointer (some ⟨bp,op,none⟩)) 18 H ?_
  refine gF 15 rfl rfl H ?_
  refine gL 16 rfl rfl (fun _ h=>h.xU 0 rfl 0 rfl) H ?_
  refine rgp 17 (.pointer (some ⟨br,or,none⟩)) 18 H ?_
  refine rgp 18 (.pointer (some ⟨br,or,none⟩)) 18 H ?_
  refine gF 19 rfl rfl H ?_
  refine gL 20 rfl rfl (fun _ h=>h.xU 4 rfl 1 rfl) H ?_
  refine yz [21] qi qo (r_opG rfl (e:=18) rfl rfl (oq (l06Bag_ok _ p.qJ r.qU (H.get 5 rfl).1 qh) H fun w6 H=>⟨H,(rgp 22 (.bool (!(dec (jI p.qJ r.qU)))) 18 H ?_)⟩) yA)
  refine rtp 23 (.bool (!(dec (jI p.qJ r.qU)))) H ?_
  refine rtp 24 (.bool (!(dec (jI p.qJ r.qU)))) H ?_
  cases h8:(!(dec (jI p.qJ r.qU)))
  ·skip
   replace h8:=xq h8
   replace h8:=zZ h8
   refine rgp 25 (.pointer (some ⟨bp,op,none⟩)) 30 H ?_
   refine rgp 26 (.pointer (some ⟨bp,op,none⟩)) 30 H ?_
   refine gF 27 rfl rfl H ?_
   refine gL 28 rfl rfl (fun _ h=>h.xU 0 rfl 0 rfl) H ?_
   refine rgp 29 (.pointer (some ⟨br,or,none⟩)) 30 H ?_
   refine rgp 30 (.pointer (some ⟨br,or,none⟩)) 30 H ?_
   refine gF 31 rfl rfl H ?_
   refine gL 32 rfl rfl (fun _ h=>h.xU 4 rfl 2 rfl) H ?_
   refine yz [33] qi qo (r_opG rfl (e:=30) rfl rfl (oq (l06Bag_ok _ p.qJ r.fIn (H.get 6 rfl).1 qh) H fun w10 H=>⟨H,(rgp 34 (.bool (!(dec (jI p.qJ r.fIn)))) 30 H ?_)⟩) yA)
   refine rtp 35 (.bool (!(dec (jI p.qJ r.fIn)))) H ?_
   refine rtp 36 (.bool (!(dec (jI p.qJ r.fIn)))) H ?_
   cases h12:(!(dec (jI p.qJ r.fIn)))
   ·skip
    replace h12:=xq h12
    replace h12:=zZ h12
    refine rgp 37 (.pointer (some ⟨br,or,none⟩)) 42 H ?_
    refine rgp 38 (.pointer (some ⟨br,or,none⟩)) 42 H ?_
    refine gF 39 rfl rfl H ?_
    refine gL 40 rfl rfl (fun _ h=>h.xU 4 rfl 1 rfl) H ?_
    refine rgp 42 (.pointer (some ⟨br,or,none⟩)) 42 H ?_
    refine rgp 43 (.pointer (some ⟨br,or,none⟩)) 42 H ?_
    refine gF 44 rfl rfl H ?_
    refine gL 45 rfl rfl (fun _ h=>h.xU 4 rfl 2 rfl) H ?_
    refine yz [41] qi qo (r_opG rfl (e:=42) rfl rfl (oq (l06Sum_ok _ r.qU (H.get 5 rfl).1 (by first | assumption | exact jJ qm | exact Qs qm)) H fun w14 H=>⟨H,(yz [46] qi qo (r_opG rfl (e:=42) rfl rfl (oq (l06Sum_ok _ r.fIn (H.get 6 rfl).1 (by first | assumption | exact jJ qm | exact Qs qm)) H fun w17 H=>⟨H,(rg 47 (.int .i64 ((yM r.qU)+(yM r.fIn))) 42 (y_add (yM r.qU) (yM r.fIn) rfl rfl (by (first | omega | (have:=psum ‹jI p.qJ r.qU›;have:=psum ‹jI p.qJ r.fIn›;omega)))) H ?_)⟩) yA))⟩) yA)
    refine rgp 48 (.bool (((yM r.qU)+(yM r.fIn):Int) == 0)) 42 H ?_
    refine rtp 49 (.bool (((yM r.qU)+(yM r.fIn):Int) == 0)) H ?_
    refine xI qi (t_n (cE rfl (fun h19=>?_) (fun h19=>?_)))
    ·skip
     refine zcr (sp (.bool false) (zjr (t_r (ret1 (.bool false) rfl rfl ⟨_,rfl,?_,H.base⟩))))
     rw [zf (fun h=>by obtain ⟨h1,h2,h3,h4,h5⟩:=h;first | contradiction | omega | (rcases h5 with h | h | h;omega;omega;exact h ((show r.fIn.length=i by omega)▸i1)))]
    ·skip
     refine xf (t_n (zcc (sps [.pointer (some ⟨br,or,none⟩),.pointer (some ⟨br,or,none⟩)] (oF rfl (oL rfl (H.xU 4 rfl 0 rfl) (sps [.bool (decide ((r.qE:Int) > 0)),.bool (decide ((r.qE:Int) > 0))] ?_))))))
     cases h20:(decide ((r.qE:Int) > 0))
     ·skip
      replace h20:=of_decide_eq_false h20
      refine qY 61 rfl rfl (sp (.pointer (some ⟨br,or,none⟩)) (qY 61 rfl rfl (sp (.pointer (some ⟨br,or,none⟩)) (qY 61 rfl rfl (oF rfl (qY 61 rfl rfl (oL rfl (H.xU 4 rfl 1 rfl) (qY 61 rfl rfl (sw (oq (l06Sum_ok _ r.qU (H.get 5 rfl).1 (by first | assumption | exact jJ qm | exact Qs qm)) H fun w22 H=>qY 61 rfl rfl (sps [.bool (decide ((yM r.qU:Int) > 0)),.bool (decide ((yM r.qU:Int) > 0))] (zjn (cD rfl (fun h24=>?_) (fun h24=>?_))))))))))))))
      ·skip
       refine zcr (sp (.bool true) (zjr (t_r (ret1 (.bool true) rfl rfl ⟨_,rfl,?_,H.base⟩))))
       rw [yw ⟨by omega,by assumption,by assumption,by omega,by first | (left;omega) | (right;left;omega) | (right;right;exact Bound.at (k:=i) qg qg qm)⟩]
      ·skip
       refine xf (t_n (zcc (sp (.int .i64 0) (zjn (xm ?_)))))
       have y1:jI p.qJ r.fIn:=‹_›
       have y2:=y1.2
       refine zK (fun m' ρ w25=>∃ (zu:Env) (i:Nat),ρ=upd (upd (upd zu 0 (.pointer (some ⟨bp,op,none⟩))) 1 (.pointer (some ⟨br,or,none⟩))) 5 (.int .i64 i)∧((i:Int)≤r.fIn.length)∧(NoBoundTo p r.fIn i)∧m' =(r.fIn.length - (i:Int)).toNat∧Fresh w.heap.size []∧St w w25 [] [atF bp op [.int .i64 p.qJ,.slice qI p.qC.length qH,.slice apFree p.qL.length cpFree,.slice qR p.qB.length qM],sF false xe qI qH p.qC,sF false FpFree apFree cpFree p.qL,sF false xx qR qM p.qB,atF br or [.int .i64 r.qE,.slice arOut r.qU.length crOut,.slice arIn r.fIn.length crIn],sF false FrOut arOut crOut r.qU,sF false FrIn arIn crIn r.fIn]) ((r.fIn.length - (0:Int)).toNat) ⟨_,0,uE3,qg,qy,rfl,N,H⟩ ?_
       clear H N
       rintro m' ρ w26 ⟨zu,i,rfl,i0,i1,rfl,N,H⟩
       refine zcc (sps [.int .i64 i,.pointer (some ⟨br,or,none⟩),.pointer (some ⟨br,or,none⟩)] (oF rfl (oL rfl (H.xU 4 rfl 2 rfl) (oN rfl (sp (.bool (decide ((i:Int) < r.fIn.length))) (zjn (cD rfl (fun h27=>?_) (fun h27=>?_))))))))
       ·skip
        refine xf (t_n (xP (xm (zcr (sps [.pointer (some ⟨br,or,none⟩),.pointer (some ⟨br,or,none⟩)] (oF rfl (oL rfl (H.xU 4 rfl 2 rfl) (sp (.int .i64 i) ?_))))))))
        obtain ⟨b28,o29,rfl⟩:=H.addr 6 rfl qg
        refine oI rfl rfl (oL rfl (H.vY 6 rfl i qg qg) (sps [.bool (decide ((r.fIn[i]! :Int) > 0)),.bool (decide ((r.fIn[i]! :Int) > 0))] ?_))
        cases h31:(decide ((r.fIn[i]! :Int) > 0))
        ·skip
         replace h31:=of_decide_eq_false h31
         refine zG [87,88,89,90,91,92,93,94] (sp (.bool false) (zjn (xC false rfl (fun h=>absurd h qj) (fun _=>xf (b_n (t_n (xJ (sp (.int .i64 i) (sw (xX i 1 rfl rfl (by (first | omega | (have:=psum ‹jI p.qJ r.qU›;have:=psum ‹jI p.qJ r.fIn›;omega))) (sp (.int .i64 (i+1)) (xN (xg (m' :=(r.fIn.length - ((i+1):Int)).toNat) qg ⟨_,i+1,uE3,?_,?_,rfl,N,H⟩)))))))))))))
         · omega
         · exact i1.succ (by first | (rintro ⟨_,h⟩;simp_all;done) | (rintro ⟨h,_⟩;omega))
        ·skip
         replace h31:=of_decide_eq_true h31
         refine qY 86 rfl rfl (sp (.pointer (some ⟨bp,op,none⟩)) (qY 86 rfl rfl (sp (.pointer (some ⟨bp,op,none⟩)) (qY 86 rfl rfl (oF rfl (qY 86 rfl rfl (oL rfl (H.xU 0 rfl 2 rfl) (qY 86 rfl rfl (sp (.int .i64 i) (qY 86 rfl rfl ?_))))))))))
         obtain ⟨b32,o33,rfl⟩:=H.addr 2 rfl qg
         refine oI rfl rfl (qY 86 rfl rfl (oL rfl (H.Qn 2 rfl i qg qg) (qY 86 rfl rfl (sps [.bool (!(p.qL[i]!)),.bool (!(p.qL[i]!))] (zjn (xC (!(p.qL[i]!)) rfl (fun h35=>?_) (fun h35=>?_)))))))
         ·skip
          replace h35:=xB h35
          refine zcr (sp (.bool true) (zjr (zr5 (ret1 (.bool true) rfl rfl ⟨_,rfl,?_,H.base⟩))))
          rw [yw ⟨by omega,by assumption,by assumption,by omega,by first | (left;omega) | (right;left;omega) | (right;right;exact Bound.at (k:=i) qg qg qm)⟩]
         ·skip
          replace h35:=xq h35
          refine xf (b_n (t_n (xJ (sp (.int .i64 i) (sw (xX i 1 rfl rfl (by (first | omega | (have:=psum ‹jI p.qJ r.qU›;have:=psum ‹jI p.qJ r.fIn›;omega))) (sp (.int .i64 (i+1)) (xN (xg (m' :=(r.fIn.length - ((i+1):Int)).toNat) qg ⟨_,i+1,uE3,?_,?_,rfl,N,H⟩)))))))))
          · omega
          · exact i1.succ (by first | (rintro ⟨_,h⟩;simp_all;done) | (rintro ⟨h,_⟩;omega))
       ·skip
        refine zx4 (zcr (sp (.bool false) (zjr (ret1 (.bool false) rfl rfl ⟨_,rfl,?_,H.base⟩))))
        rw [zf (fun h=>by obtain ⟨h1,h2,h3,h4,h5⟩:=h;first | contradiction | omega | (rcases h5 with h | h | h;omega;omega;exact h ((show r.fIn.length=i by omega)▸i1)))]
     ·skip
      replace h20:=of_decide_eq_true h20
      refine zG [62,63,64,65,66,67] (sp (.bool true) (zjn (xC true rfl (fun _=>zcr (sp (.bool true) (zjr (t_r (ret1 (.bool true) rfl rfl ⟨_,rfl,?_,H.base⟩))))) (fun h=>absurd h qj))))
      rw [yw ⟨by omega,by assumption,by assumption,by omega,by first | (left;omega) | (right;left;omega) | (right;right;exact Bound.at (k:=i) qg qg qm)⟩]
   ·skip
    replace h12:=xB h12
    replace h12:=zy h12
    refine zL [37,38,39,40,41,42,43,44,45,46,47,48] 12 (H) (rtp 49 (.bool true) H ?_)
    refine xI qi (t_n (xC true rfl (fun _=>zcr (sp (.bool false) (zjr (t_r (ret1 (.bool false) rfl rfl ⟨_,rfl,?_,H.base⟩))))) (fun h=>absurd h qj)))
    rw [zf (fun h=>by obtain ⟨h1,h2,h3,h4,h5⟩:=h;first | contradiction | omega | (rcases h5 with h | h | h;omega;omega;exact h ((show r.fIn.length=i by omega)▸i1)))]
  ·skip
   replace h8:=xB h8
   replace h8:=zy h8
   refine zL [25,26,27,28,29,30,31,32,33,34] 10 (H) (rtp 35 (.bool true) H ?_)
   refine rtp 36 (.bool true) H ?_
   refine zL [37,38,39,40,41,42,43,44,45,46,47,48] 12 (H) (rtp 49 (.bool true) H ?_)
   refine xI qi (t_n (xC true rfl (fun _=>zcr (sp (.bool false) (zjr (t_r (ret1 (.bool false) rfl rfl ⟨_,rfl,?_,H.base⟩))))) (fun h=>absurd h qj)))
   rw [zf (fun h=>by obtain ⟨h1,h2,h3,h4,h5⟩:=h;first | contradiction | omega | (rcases h5 with h | h | h;omega;omega;exact h ((show r.fIn.length=i by omega)▸i1)))]
 ·skip
  replace h4:=xB h4
  replace h4:=inR_not h4
  refine zL [13,14,15,16,17,18,19,20,21,22] 10 (H) (rtp 23 (.bool true) H ?_)
  refine rtp 24 (.bool true) H ?_
  refine zL [25,26,27,28,29,30,31,32,33,34] 10 (H) (rtp 35 (.bool true) H ?_)
  refine rtp 36 (.bool true) H ?_
  refine zL [37,38,39,40,41,42,43,44,45,46,47,48] 12 (H) (rtp 49 (.bool true) H ?_)
  refine xI qi (t_n (xC true rfl (fun _=>zcr (sp (.bool false) (zjr (t_r (ret1 (.bool false) rfl rfl ⟨_,rfl,?_,H.base⟩))))) (fun h=>absurd h qj)))
  rw [zf (fun h=>by obtain ⟨h1,h2,h3,h4,h5⟩:=h;first | contradiction | omega | (rcases h5 with h | h | h;omega;omega;exact h ((show r.fIn.length=i by omega)▸i1)))]

theorem l06Ok_ok (w:World) (p:qW) {qI:yOA} {xe:yLN} {apFree:yOA} {FpFree:yLN} {qR:yOA} {xx:yLN} (hp:zM w bp op [.int .i64 p.qJ,.slice qI p.qC.length qH,.slice apFree p.qL.length cpFree,.slice qR p.qB.length qM]) (qX:qV.rep w xe [.slice qI p.qC.length qH] p.qC) (hpFree:qV.rep w FpFree [.slice apFree p.qL.length cpFree] p.qL) (xn:qV.rep w xx [.slice qR p.qB.length qM] p.qB):Calls Tryz.prog 80 #[.pointer (some ⟨bp,op,none⟩)] w (Ret (fun v w' =>v=.bool (dec (zi p))) w):=by
 refine en Tryz.func80 Tryz.ntmps80 ?_
 have H:=((((St.start w).arg xn).arg hpFree).arg qX).argAt hp
 have zF:=qO qX
 have nhpFree:=qO hpFree
 have vC:=qO xn
 clear hp qX hpFree xn
 have N:=Fresh.nil w.heap.size
 refine zcr (sp (.bool false) (zjc (sps [.pointer (some ⟨bp,op,none⟩),.pointer (some ⟨bp,op,none⟩)] (oF rfl (oL rfl (H.xU 0 rfl 1 rfl) (oN rfl (sp (.int .i64 p.qC.length) (zjn (xP (xP ?_))))))))))
 refine vK rfl H fun H=>rtp 0 (.pointer (some ⟨bp,op,none⟩)) H ?_
 refine rtp 1 (.pointer (some ⟨bp,op,none⟩)) H ?_
 refine tF 2 rfl rfl H ?_
 refine tL 3 rfl rfl (fun _ h=>h.xU 0 rfl 0 rfl) H ?_
 refine ro 4 rfl (oq (l00In_ok w.drew p.qJ 1 8) H fun w2 H=>⟨H,(rtp 5 (.bool (!(inR p.qJ 1 8))) H ?_)⟩)
 refine rtp 6 (.bool (!(inR p.qJ 1 8))) H ?_
 cases h4:(!(inR p.qJ 1 8))
 ·skip
  replace h4:=xq h4
  replace h4:=QB.1 h4
  refine rgp 7 (.int .i64 p.qC.length) 17 H ?_
  refine yz [8] qi qo (r_opG rfl (e:=17) rfl rfl (oq (l00In_ok w2 p.qC.length 1 4) H fun w5 H=>⟨H,(rgp 9 (.bool (!(inR p.qC.length 1 4))) 17 H ?_)⟩) yA)
  refine rtp 10 (.bool (!(inR p.qC.length 1 4))) H ?_
  refine rtp 11 (.bool (!(inR p.qC.length 1 4))) H ?_
  cases h7:(!(inR p.qC.length 1 4))
  ·skip
   replace h7:=xq h7
   replace h7:=QB.1 h7
   refine rgp 12 (.pointer (some ⟨bp,op,none⟩)) 22 H ?_
   refine rgp 13 (.pointer (some ⟨bp,op,none⟩)) 22 H ?_
   refine gF 14 rfl rfl H ?_
   refine gL 15 rfl rfl (fun _ h=>h.xU 0 rfl 2 rfl) H ?_
   refine gN 16 rfl rfl H ?_
   refine rgp 17 (.pointer (some ⟨bp,op,none⟩)) 22 H ?_
   refine rgp 18 (.pointer (some ⟨bp,op,none⟩)) 22 H ?_
   refine gF 19 rfl rfl H ?_
   refine gL 20 rfl rfl (fun _ h=>h.xU 0 rfl 0 rfl) H ?_
   refine rgp 21 (.bool ((p.qL.length:Int) != p.qJ)) 22 H ?_
   refine rtp 22 (.bool ((p.qL.length:Int) != p.qJ)) H ?_
   refine rtp 23 (.bool ((p.qL.length:Int) != p.qJ)) H ?_
   cases h8:((p.qL.length:Int) != p.qJ)
   ·skip
    replace h8:=xA h8
    refine rgp 24 (.pointer (some ⟨bp,op,none⟩)) 34 H ?_
    refine rgp 25 (.pointer (some ⟨bp,op,none⟩)) 34 H ?_
    refine gF 26 rfl rfl H ?_
    refine gL 27 rfl rfl (fun _ h=>h.xU 0 rfl 3 rfl) H ?_
    refine gN 28 rfl rfl H ?_
    refine rgp 29 (.bool (decide ((p.qB.length:Int) > 8))) 34 H ?_
    refine rtp 30 (.bool (decide ((p.qB.length:Int) > 8))) H ?_
    refine rtp 31 (.bool (decide ((p.qB.length:Int) > 8))) H ?_
    cases h9:(decide ((p.qB.length:Int) > 8))
    ·skip
     replace h9:=of_decide_eq_false h9
     refine rgp 32 (.pointer (some ⟨bp,op,none⟩)) 42 H ?_
     refine rgp 33 (.pointer (some ⟨bp,op,none⟩)) 42 H ?_
     refine gF 34 rfl rfl H ?_
     refine gL 35 rfl rfl (fun _ h=>h.xU 0 rfl 1 rfl) H ?_
     obtain ⟨b10,o11,rfl⟩:=H.addr 1 rfl qg
     refine gI 36 rfl rfl rfl H ?_
     refine gL 37 rfl rfl (fun _ h=>h.vY 1 rfl 0 qg qg) H ?_
     refine rgp 38 (.bool ((p.qC[0]! :Int) != (-1))) 42 H ?_
     refine rtp 39 (.bool ((p.qC[0]! :Int) != (-1))) H ?_
     refine xI qi (t_n (xC ((p.qC[0]! :Int) != (-1)) rfl (fun h13=>?_) (fun h13=>?_)))
     ·skip
      replace h13:=bne_iff_ne.1 h13
      refine zcr (sp (.bool false) (zjr (t_r (ret1 (.bool false) rfl rfl ⟨_,rfl,?_,H.base⟩))))
      rw [zf (fun h=>by obtain ⟨⟨h1,h2,h3,h4,h5,h6⟩,h7⟩:=h;first | contradiction | omega | (have:=h6 i qg qg;omega) | (have:=h7 k qg;contradiction))]
     ·skip
      replace h13:=xA h13
      refine xf (t_n (zcc (sp (.int .i64 1) (zjn (xm ?_)))))
      refine zK (fun m' ρ w14=>∃ (zu:Env) (i:Nat),ρ=upd (upd (upd zu 0 (.pointer (some ⟨bp,op,none⟩))) 3 (.int .i64 p.qC.length)) 4 (.int .i64 i)∧((i:Int)≤p.qC.length)∧(PFrameTo p i)∧(1≤i)∧m' =(p.qC.length - (i:Int)).toNat∧Fresh w.heap.size []∧St w w14 [] [atF bp op [.int .i64 p.qJ,.slice (some ⟨b10,o11,none⟩) p.qC.length qH,.slice apFree p.qL.length cpFree,.slice qR p.qB.length qM],sF false xe (some ⟨b10,o11,none⟩) qH p.qC,sF false FpFree apFree cpFree p.qL,sF false xx qR qM p.qB]) ((p.qC.length - (1:Int)).toNat) ⟨_,1,uE3,qg,(by exact PFrameTo.one p),qg,rfl,N,H⟩ ?_
      clear H N
      rintro m' ρ w15 ⟨zu,i,rfl,i0,i1,i2,rfl,N,H⟩
      refine zcc (sps [.int .i64 i,.int .i64 p.qC.length,.bool (decide ((i:Int) < p.qC.length))] (zjn (cD rfl (fun h16=>?_) (fun h16=>?_))))
      ·skip
       refine xf (t_n (xP (xm (zcr (sps [.pointer (some ⟨bp,op,none⟩),.pointer (some ⟨bp,op,none⟩)] (oF rfl (oL rfl (H.xU 0 rfl 1 rfl) (sp (.int .i64 i) (oI rfl rfl (oL rfl (H.vY 1 rfl i qg qg) (sp (.int .i64 i) (sw (o_sub i 1 rfl rfl qg (sw (oq (l00In_ok w15 (p.qC[i]!) 0 (i - 1)) H fun w17 H=>sp (.bool (!(inR (p.qC[i]!) 0 (i - 1)))) (zjn (xC (!(inR (p.qC[i]!) 0 (i - 1))) rfl (fun h19=>?_) (fun h19=>?_))))))))))))))))))
       ·skip
        replace h19:=xB h19
        replace h19:=inR_not h19
        refine zcr (sp (.bool false) (zjr (zr5 (ret1 (.bool false) rfl rfl ⟨_,rfl,?_,H.base⟩))))
        rw [zf (fun h=>by obtain ⟨⟨h1,h2,h3,h4,h5,h6⟩,h7⟩:=h;first | contradiction | omega | (have:=h6 i qg qg;omega) | (have:=h7 k qg;contradiction))]
       ·skip
        replace h19:=xq h19
        replace h19:=QB.1 h19
        refine xf (b_n (t_n (xJ (sp (.int .i64 i) (sw (xX i 1 rfl rfl qg (sp (.int .i64 (i+1)) (xN (xg (m' :=(p.qC.length - ((i+1):Int)).toNat) qg ⟨_,i+1,uE3,?_,?_,?_,rfl,N,H⟩)))))))))
        · omega
        · exact i1.succ ‹_›
        · omega
      ·skip
       refine zx4 (zcc (sp (.int .i64 0) (zjn (xm ?_))))
       have f0:PFrame p:=⟨by omega,by omega,by omega,by omega,by omega,(show i=p.qC.length by omega)▸i1⟩
       refine zK (fun m' ρ w20=>∃ (zu:Env) (k:Nat),ρ=upd (upd zu 0 (.pointer (some ⟨bp,op,none⟩))) 5 (.int .i64 k)∧((k:Int)≤p.qB.length)∧(PRulesTo p k)∧m' =(p.qB.length - (k:Int)).toNat∧Fresh w.heap.size []∧St w w20 [] [atF bp op [.int .i64 p.qJ,.slice (some ⟨b10,o11,none⟩) p.qC.length qH,.slice apFree p.qL.length cpFree,.slice qR p.qB.length qM],sF false xe (some ⟨b10,o11,none⟩) qH p.qC,sF false FpFree apFree cpFree p.qL,sF false xx qR qM p.qB]) ((p.qB.length - (0:Int)).toNat) ⟨_,0,uE2,qg,qy,rfl,N,H⟩ ?_
       clear H N
       rintro m' ρ w21 ⟨zu,k,rfl,i0,i3,rfl,N,H⟩
       refine zcc (sps [.int .i64 k,.pointer (some ⟨bp,op,none⟩),.pointer (some ⟨bp,op,none⟩)] (oF rfl (oL rfl (H.xU 0 rfl 3 rfl) (oN rfl (sp (.bool (decide ((k:Int) < p.qB.length))) (zjn (cD rfl (fun h22=>?_) (fun h22=>?_))))))))
       ·skip
        refine xf (t_n (xP (xm (zcr (sps [.pointer (some ⟨bp,op,none⟩),.pointer (some ⟨bp,op,none⟩),.pointer (some ⟨bp,op,none⟩)] (oF rfl (oL rfl (H.xU 0 rfl 3 rfl) (sp (.int .i64 k) ?_))))))))
        obtain ⟨b23,o24,rfl⟩:=H.addr 3 rfl qg
        obtain ⟨ae26Out,ce26Out,Fe26Out,ae26In,ce26In,Fe26In,H⟩:=H.zW 3 rfl k k qg qg qg
        refine oI rfl rfl (sw (oq (l06Rule_ok _ p (p.qB[k]!) (qN (H.get 3 rfl) 0 4) (H.get 4 rfl).1 (H.get 5 rfl).1 (H.get 6 rfl).1 (qN (H.get 2 rfl) 0 3) (H.get 0 rfl).1 (H.get 1 rfl).1 qm) H fun w28 H=>sp (.bool (!(dec (yQ p (p.qB[k]!))))) (zjn (cQ rfl (fun h30=>?_) (fun h30=>?_)))))
        ·skip
         refine zcr (sp (.bool false) (zjr (zr5 (ret1 (.bool false) rfl rfl ⟨_,rfl,?_,H.base⟩))))
         rw [zf (fun h=>by obtain ⟨⟨h1,h2,h3,h4,h5,h6⟩,h7⟩:=h;first | contradiction | omega | (have:=h6 i qg qg;omega) | (have:=h7 k qg;contradiction))]
        ·skip
         refine xf (b_n (t_n (xJ (sp (.int .i64 k) (sw (xX k 1 rfl rfl qg (sp (.int .i64 (k+1)) (xN (xg (m' :=(p.qB.length - ((k+1):Int)).toNat) qg ⟨_,k+1,uE2,?_,?_,rfl,N,H.pick [] [3,4,5,6]⟩)))))))))
         · omega
         · exact i3.succ ‹_›
       ·skip
        refine zx4 (zcr (sp (.bool true) (zjr (ret1 (.bool true) rfl rfl ⟨_,rfl,?_,H.base⟩))))
        rw [yw ⟨f0,(show p.qB.length=k by omega)▸i3⟩]
    ·skip
     replace h9:=of_decide_eq_true h9
     refine zL [32,33,34,35,36,37,38] 7 (H) (rtp 39 (.bool true) H ?_)
     refine xI qi (t_n (xC true rfl (fun _=>zcr (sp (.bool false) (zjr (t_r (ret1 (.bool false) rfl rfl ⟨_,rfl,?_,H.base⟩))))) (fun h=>absurd h qj)))
     rw [zf (fun h=>by obtain ⟨⟨h1,h2,h3,h4,h5,h6⟩,h7⟩:=h;first | contradiction | omega | (have:=h6 i qg qg;omega) | (have:=h7 k qg;contradiction))]
   ·skip
    replace h8:=bne_iff_ne.1 h8
    refine zL [24,25,26,27,28,29] 6 (H) (rtp 30 (.bool true) H ?_)
    refine rtp 31 (.bool true) H ?_
    refine zL [32,33,34,35,36,37,38] 7 (H) (rtp 39 (.bool true) H ?_)
    refine xI qi (t_n (xC true rfl (fun _=>zcr (sp (.bool false) (zjr (t_r (ret1 (.bool false) rfl rfl ⟨_,rfl,?_,H.base⟩))))) (fun h=>absurd h qj)))
    rw [zf (fun h=>by obtain ⟨⟨h1,h2,h3,h4,h5,h6⟩,h7⟩:=h;first | contradiction | omega | (have:=h6 i qg qg;omega) | (have:=h7 k qg;contradiction))]
  ·skip
   replace h7:=xB h7
   replace h7:=inR_not h7
   refine zL [12,13,14,15,16,17,18,19,20,21] 10 (H) (rtp 22 (.bool true) H ?_)
   refine rtp 23 (.bool true) H ?_
   refine zL [24,25,26,27,28,29] 6 (H) (rtp 30 (.bool true) H ?_)
   refine rtp 31 (.bool true) H ?_
   refine zL [32,33,34,35,36,37,38] 7 (H) (rtp 39 (.bool true) H ?_)
   refine xI qi (t_n (xC true rfl (fun _=>zcr (sp (.bool false) (zjr (t_r (ret1 (.bool false) rfl rfl ⟨_,rfl,?_,H.base⟩))))) (fun h=>absurd h qj)))
   rw [zf (fun h=>by obtain ⟨⟨h1,h2,h3,h4,h5,h6⟩,h7⟩:=h;first | contradiction | omega | (have:=h6 i qg qg;omega) | (have:=h7 k qg;contradiction))]
 ·skip
  replace h4:=xB h4
  replace h4:=inR_not h4
  refine zL [7,8,9] 3 (H) (rtp 10 (.bool true) H ?_)
  refine rtp 11 (.bool true) H ?_
  refine zL [12,13,14,15,16,17,18,19,20,21] 10 (H) (rtp 22 (.bool true) H ?_)
  refine rtp 23 (.bool true) H ?_
  refine zL [24,25,26,27,28,29] 6 (H) (rtp 30 (.bool true) H ?_)
  refine rtp 31 (.bool true) H ?_
  refine zL [32,33,34,35,36,37,38] 7 (H) (rtp 39 (.bool true) H ?_)
  refine xI qi (t_n (xC true rfl (fun _=>zcr (sp (.bool false) (zjr (t_r (ret1 (.bool false) rfl rfl ⟨_,rfl,?_,H.base⟩))))) (fun h=>absurd h qj)))
  rw [zf (fun h=>by obtain ⟨⟨h1,h2,h3,h4,h5,h6⟩,h7⟩:=h;first | contradiction | omega | (have:=h6 i qg qg;omega) | (have:=h7 k qg;contradiction))]

theorem l06Stock_ok (w:World) (p:qW) (s:qZ) {qI:yOA} {xe:yLN} {apFree:yOA} {FpFree:yLN} {qR:yOA} {xx:yLN} {asCells:yOA} {FsCells:yLN} {qQ:yOA} {xw:yLN} (hp:zM w bp op [.int .i64 p.qJ,.slice qI p.qC.length qH,.slice apFree p.qL.length cpFree,.slice qR p.qB.length qM]) (qX:qV.rep w xe [.slice qI p.qC.length qH] p.qC) (hpFree:qV.rep w FpFree [.slice apFree p.qL.length cpFree] p.qL) (xn:qV.rep w xx [.slice qR p.qB.length qM] p.qB) (hs:zM w bs os [.slice asCells s.qG.length csCells,.slice qQ s.qF.length qP]) (hsCells:qV.rep w FsCells [.slice asCells s.qG.length csCells] s.qG) (xu:qV.rep w xw [.slice qQ s.qF.length qP] s.qF) (p0:PFrame p):Calls Tryz.prog 81 #[.pointer (some ⟨bp,op,none⟩),.pointer (some ⟨bs,os,none⟩)] w (Ret (fun v w' =>v=.bool (dec (xG p s))) w):=by
 refine en Tryz.func81 Tryz.ntmps81 ?_
 have H:=(((((((St.start w).arg xu).arg hsCells).argAt hs).arg xn).arg hpFree).arg qX).argAt hp
 have zF:=qO qX
 have nhpFree:=qO hpFree
 have vC:=qO xn
 have nhsCells:=qO hsCells
 have vV:=qO xu
 clear hp qX hpFree xn hs hsCells xu
 have N:=Fresh.nil w.heap.size
 have p1:=p0.1
 have p2:=p0.2.2.1
 refine zcr (sp (.bool false) (zjn (xP (xP ?_))))
 refine vK rfl H fun H=>rtp 0 (.pointer (some ⟨bs,os,none⟩)) H ?_
 refine rtp 1 (.pointer (some ⟨bs,os,none⟩)) H ?_
 refine tF 2 rfl rfl H ?_
 refine tL 3 rfl rfl (fun _ h=>h.xU 4 rfl 0 rfl) H ?_
 refine tN 4 rfl rfl H ?_
 refine rtp 5 (.pointer (some ⟨bp,op,none⟩)) H ?_
 refine rtp 6 (.pointer (some ⟨bp,op,none⟩)) H ?_
 refine tF 7 rfl rfl H ?_
 refine tL 8 rfl rfl (fun _ h=>h.xU 0 rfl 1 rfl) H ?_
 refine tN 9 rfl rfl H ?_
 refine rtp 10 (.bool ((s.qG.length:Int) != p.qC.length)) H ?_
 refine rtp 11 (.bool ((s.qG.length:Int) != p.qC.length)) H ?_
 cases h2:((s.qG.length:Int) != p.qC.length)
 ·skip
  replace h2:=xA h2
  refine rgp 12 (.pointer (some ⟨bp,op,none⟩)) 18 H ?_
  refine rgp 13 (.pointer (some ⟨bp,op,none⟩)) 18 H ?_
  refine gF 14 rfl rfl H ?_
  refine gL 15 rfl rfl (fun _ h=>h.xU 0 rfl 0 rfl) H ?_
  refine rgp 16 (.pointer (some ⟨bs,os,none⟩)) 18 H ?_
  refine rgp 17 (.pointer (some ⟨bs,os,none⟩)) 18 H ?_
  refine gF 18 rfl rfl H ?_
  refine gL 19 rfl rfl (fun _ h=>h.xU 4 rfl 1 rfl) H ?_
  refine yz [20] qi qo (r_opG rfl (e:=18) rfl rfl (oq (l06Bag_ok _ p.qJ s.qF (H.get 6 rfl).1 qh) H fun w4 H=>⟨H,(rgp 21 (.bool (!(dec (jI p.qJ s.qF)))) 18 H ?_)⟩) yA)
  refine rtp 22 (.bool (!(dec (jI p.qJ s.qF)))) H ?_
  refine xI qi (t_n (cQ rfl (fun h6=>?_) (fun h6=>?_)))
  ·skip
   refine zcr (sp (.bool false) (zjr (t_r (ret1 (.bool false) rfl rfl ⟨_,rfl,?_,H.base⟩))))
   rw [zf (fun h=>by obtain ⟨h1,h2,h3,h4⟩:=h;first | contradiction | omega | (have:=h3 i qg;contradiction) | exact h4 k qg ⟨by first | assumption | simp_all,by omega⟩)]
  ·skip
   refine xf (t_n (zcc (sp (.int .i64 0) (zjn (xm ?_)))))
   refine zK (fun m' ρ w7=>∃ (zu:Env) (i:Nat),ρ=upd (upd (upd zu 0 (.pointer (some ⟨bp,op,none⟩))) 1 (.pointer (some ⟨bs,os,none⟩))) 5 (.int .i64 i)∧((i:Int)≤s.qG.length)∧(PBagsTo p s i)∧m' =(s.qG.length - (i:Int)).toNat∧Fresh w.heap.size []∧St w w7 [] [atF bp op [.int .i64 p.qJ,.slice qI p.qC.length qH,.slice apFree p.qL.length cpFree,.slice qR p.qB.length qM],sF false xe qI qH p.qC,sF false FpFree apFree cpFree p.qL,sF false xx qR qM p.qB,atF bs os [.slice asCells s.qG.length csCells,.slice qQ s.qF.length qP],sF false FsCells asCells csCells s.qG,sF false xw qQ qP s.qF]) ((s.qG.length - (0:Int)).toNat) ⟨_,0,uE3,qg,qy,rfl,N,H⟩ ?_
   clear H N
   rintro m' ρ w8 ⟨zu,i,rfl,i0,i1,rfl,N,H⟩
   refine zcc (sps [.int .i64 i,.pointer (some ⟨bs,os,none⟩),.pointer (some ⟨bs,os,none⟩)] (oF rfl (oL rfl (H.xU 4 rfl 0 rfl) (oN rfl (sp (.bool (decide ((i:Int) < s.qG.length))) (zjn (cD rfl (fun h9=>?_) (fun h9=>?_))))))))
   ·skip
    refine xf (t_n (xP (xm (xP ?_))))
    refine vK rfl H fun H=>rtp 0 (.pointer (some ⟨bp,op,none⟩)) H ?_
    refine rtp 1 (.pointer (some ⟨bp,op,none⟩)) H ?_
    refine tF 2 rfl rfl H ?_
    refine tL 3 rfl rfl (fun _ h=>h.xU 0 rfl 0 rfl) H ?_
    refine rtp 4 (.pointer (some ⟨bs,os,none⟩)) H ?_
    refine rtp 5 (.pointer (some ⟨bs,os,none⟩)) H ?_
    refine tF 6 rfl rfl H ?_
    refine tL 7 rfl rfl (fun _ h=>h.xU 4 rfl 0 rfl) H ?_
    refine rtp 8 (.int .i64 i) H ?_
    obtain ⟨b11,o12,rfl⟩:=H.addr 5 rfl qg
    obtain ⟨ae14,ce14,Fe14,H⟩:=H.Qm 5 rfl i i qg qg qg
    refine tI 9 rfl rfl rfl (H.pick [] [2,3,4,5,6,7,8]) ?_
    refine ro 10 rfl (xY (.slice ae14 ((s.qG[i]!).length) ce14) Tryz.isAgg22 rfl (H.xU 1 rfl 0 rfl) (⟨H.pick [] [2,3,4,5,6,7,8],(ro 11 rfl (oq (l06Bag_ok _ p.qJ (s.qG[i]!) (H.get 0 rfl).1 qh) H fun w16 H=>⟨H.pick [] [2,3,4,5,6,7,8],(rtp 12 (.bool (!(dec (jI p.qJ (s.qG[i]!))))) (H.pick [] [2,3,4,5,6,7,8]) ?_)⟩))⟩))
    refine xI qi (t_n (cQ rfl (fun h18=>?_) (fun h18=>?_)))
    ·skip
     refine zcr (sp (.bool false) (zjr (zr5 (ret1 (.bool false) rfl rfl ⟨_,rfl,?_,H.base⟩))))
     rw [zf (fun h=>by obtain ⟨h1,h2,h3,h4⟩:=h;first | contradiction | omega | (have:=h3 i qg;contradiction) | exact h4 k qg ⟨by first | assumption | simp_all,by omega⟩)]
    ·skip
     refine xf (b_n (t_n (xJ (sp (.int .i64 i) (sw (xX i 1 rfl rfl qg (sp (.int .i64 (i+1)) (xN (xg (m' :=(s.qG.length - ((i+1):Int)).toNat) qg ⟨_,i+1,uE3,?_,?_,rfl,N,H.pick [] [2,3,4,5,6,7,8]⟩)))))))))
     · omega
     · exact i1.succ ‹_›
   ·skip
    refine zx4 (zcc (sp (.int .i64 0) (zjn (xm ?_))))
    have y1:jI p.qJ s.qF:=‹_›
    have y2:=y1.2
    refine zK (fun m' ρ w19=>∃ (zu:Env) (k:Nat),ρ=upd (upd (upd zu 0 (.pointer (some ⟨bp,op,none⟩))) 1 (.pointer (some ⟨bs,os,none⟩))) 6 (.int .i64 k)∧((k:Int)≤s.qF.length)∧(NoFreeTo p s.qF k)∧m' =(s.qF.length - (k:Int)).toNat∧Fresh w.heap.size []∧St w w19 [] [atF bp op [.int .i64 p.qJ,.slice qI p.qC.length qH,.slice apFree p.qL.length cpFree,.slice qR p.qB.length qM],sF false xe qI qH p.qC,sF false FpFree apFree cpFree p.qL,sF false xx qR qM p.qB,atF bs os [.slice asCells s.qG.length csCells,.slice qQ s.qF.length qP],sF false FsCells asCells csCells s.qG,sF false xw qQ qP s.qF]) ((s.qF.length - (0:Int)).toNat) ⟨_,0,uE3,qg,qy,rfl,N,H⟩ ?_
    clear H N
    rintro m' ρ w20 ⟨zu,k,rfl,i0,i2,rfl,N,H⟩
    refine zcc (sps [.int .i64 k,.pointer (some ⟨bs,os,none⟩),.pointer (some ⟨bs,os,none⟩)] (oF rfl (oL rfl (H.xU 4 rfl 1 rfl) (oN rfl (sp (.bool (decide ((k:Int) < s.qF.length))) (zjn (cD rfl (fun h21=>?_) (fun h21=>?_))))))))
    ·skip
     refine xf (t_n (xP (xm (zcr (sps [.pointer (some ⟨bp,op,none⟩),.pointer (some ⟨bp,op,none⟩)] (oF rfl (oL rfl (H.xU 0 rfl 2 rfl) (sp (.int .i64 k) ?_))))))))
     obtain ⟨b22,o23,rfl⟩:=H.addr 2 rfl qg
     refine oI rfl rfl (oL rfl (H.Qn 2 rfl k qg qg) (sp (.bool (p.qL[k]!)) ?_))
     cases h25:(p.qL[k]!)
     ·skip
      refine zG [69,70,71,72,73,74,75,76] (sp (.bool false) (zjn (xC false rfl (fun h=>absurd h qj) (fun _=>xf (b_n (t_n (xJ (sp (.int .i64 k) (sw (xX k 1 rfl rfl qg (sp (.int .i64 (k+1)) (xN (xg (m' :=(s.qF.length - ((k+1):Int)).toNat) qg ⟨_,k+1,uE3,?_,?_,rfl,N,H⟩)))))))))))))
      · omega
      · exact i2.succ (by first | (rintro ⟨h,_⟩;simp_all;done) | (rintro ⟨_,h⟩;omega))
     ·skip
      refine qY 68 rfl rfl (sp (.pointer (some ⟨bs,os,none⟩)) (qY 68 rfl rfl (sp (.pointer (some ⟨bs,os,none⟩)) (qY 68 rfl rfl (oF rfl (qY 68 rfl rfl (oL rfl (H.xU 4 rfl 1 rfl) (qY 68 rfl rfl (sp (.int .i64 k) (qY 68 rfl rfl ?_))))))))))
      obtain ⟨b26,o27,rfl⟩:=H.addr 6 rfl qg
      refine oI rfl rfl (qY 68 rfl rfl (oL rfl (H.vY 6 rfl k qg qg) (qY 68 rfl rfl (sps [.bool (decide ((s.qF[k]! :Int) > 0)),.bool (decide ((s.qF[k]! :Int) > 0))] (zjn (cD rfl (fun h29=>?_) (fun h29=>?_)))))))
      ·skip
       refine zcr (sp (.bool false) (zjr (zr5 (ret1 (.bool false) rfl rfl ⟨_,rfl,?_,H.base⟩))))
       rw [zf (fun h=>by obtain ⟨h1,h2,h3,h4⟩:=h;first | contradiction | omega | (have:=h3 i qg;contradiction) | exact h4 k qg ⟨by first | assumption | simp_all,by omega⟩)]
      ·skip
       refine xf (b_n (t_n (xJ (sp (.int .i64 k) (sw (xX k 1 rfl rfl qg (sp (.int .i64 (k+1)) (xN (xg (m' :=(s.qF.length - ((k+1):Int)).toNat) qg ⟨_,k+1,uE3,?_,?_,rfl,N,H⟩)))))))))
       · omega
       · exact i2.succ (by first | (rintro ⟨h,_⟩;simp_all;done) | (rintro ⟨_,h⟩;omega))
    ·skip
     refine zx4 (zcr (sp (.bool true) (zjr (ret1 (.bool true) rfl rfl ⟨_,rfl,?_,H.base⟩))))
     rw [yw ⟨by omega,by assumption,(show s.qG.length=i by omega)▸i1,(show s.qF.length=k by omega)▸i2⟩]
 ·skip
  replace h2:=bne_iff_ne.1 h2
  refine zL [12,13,14,15,16,17,18,19,20,21] 10 (H) (rtp 22 (.bool true) H ?_)
  refine xI qi (t_n (xC true rfl (fun _=>zcr (sp (.bool false) (zjr (t_r (ret1 (.bool false) rfl rfl ⟨_,rfl,?_,H.base⟩))))) (fun h=>absurd h qj)))
  rw [zf (fun h=>by obtain ⟨h1,h2,h3,h4⟩:=h;first | contradiction | omega | (have:=h3 i qg;contradiction) | exact h4 k qg ⟨by first | assumption | simp_all,by omega⟩)]

theorem l06Code_ok (w:World) (p:qW) (s:qZ) {qI:yOA} {xe:yLN} {apFree:yOA} {FpFree:yLN} {qR:yOA} {xx:yLN} {asCells:yOA} {FsCells:yLN} {qQ:yOA} {xw:yLN} (hp:zM w bp op [.int .i64 p.qJ,.slice qI p.qC.length qH,.slice apFree p.qL.length cpFree,.slice qR p.qB.length qM]) (qX:qV.rep w xe [.slice qI p.qC.length qH] p.qC) (hpFree:qV.rep w FpFree [.slice apFree p.qL.length cpFree] p.qL) (xn:qV.rep w xx [.slice qR p.qB.length qM] p.qB) (hs:zM w bs os [.slice asCells s.qG.length csCells,.slice qQ s.qF.length qP]) (hsCells:qV.rep w FsCells [.slice asCells s.qG.length csCells] s.qG) (xu:qV.rep w xw [.slice qQ s.qF.length qP] s.qF):Calls Tryz.prog 58 #[.pointer (some ⟨bp,op,none⟩),.pointer (some ⟨bs,os,none⟩)] w (Ret (fun v w' =>v=.int .i64 (Qr p s)) w):=by
 refine en Tryz.func58 Tryz.ntmps58 ?_
 have H:=(((((((St.start w).arg xu).arg hsCells).argAt hs).arg xn).arg hpFree).arg qX).argAt hp
 have zF:=qO qX
 have nhpFree:=qO hpFree
 have vC:=qO xn
 have nhsCells:=qO hsCells
 have vV:=qO xu
 clear hp qX hpFree xn hs hsCells xu
 have N:=Fresh.nil w.heap.size
 refine zcr (sp (.int .i64 0) (zjcc (sp (.pointer (some ⟨bp,op,none⟩)) (sw (oq (l06Ok_ok _ p (qN (H.get 0 rfl) 0 4) (H.get 1 rfl).1 (H.get 2 rfl).1 (H.get 3 rfl).1) H fun w2 H=>sp (.bool (!(dec (zi p)))) (zjn (cQ rfl (fun h4=>?_) (fun h4=>?_))))))))
 ·skip
  refine zcr (sp (.int .i64 1) (zjr (t_r (ret1 (.int .i64 1) rfl rfl ⟨_,rfl,?_,H.base⟩))))
  rw [pcode_1 ‹_›]
 ·skip
  refine xf (t_n (zcc (sps [.pointer (some ⟨bp,op,none⟩),.pointer (some ⟨bs,os,none⟩)] (sw (oq (l06Stock_ok _ p s (qN (H.get 0 rfl) 0 4) (H.get 1 rfl).1 (H.get 2 rfl).1 (H.get 3 rfl).1 (qN (H.get 4 rfl) 0 2) (H.get 5 rfl).1 (H.get 6 rfl).1 (by first | assumption | exact (And.left (by assumption:zi _)))) H fun w6 H=>sp (.bool (!(dec (xG p s)))) (zjn (cQ rfl (fun h8=>?_) (fun h8=>?_))))))))
  ·skip
   refine zcr (sp (.int .i64 2) (zjr (t_r (ret1 (.int .i64 2) rfl rfl ⟨_,rfl,?_,H.base⟩))))
   rw [pcode_2 ‹_› ‹_›]
  ·skip
   refine xf (t_n (zcr (sp (.int .i64 0) (zjr (ret1 (.int .i64 0) rfl rfl ⟨_,rfl,?_,H.base⟩)))))
   rw [pcode_0 ‹_› ‹_›]

theorem l06Mode_ok (w:World) (m:Int):Calls Tryz.prog 59 #[.int .i64 m] w (Ret (fun v w' =>v=.bool (dec (ModeOk m))) w):=by
 refine en Tryz.func59 Tryz.ntmps59 ?_
 have H:=St.start w
 have N:=Fresh.nil w.heap.size
 refine zcr (sp (.bool false) (zjc (sp (.int .i64 m) (sw (oq (l00In_ok w m 1 3) H fun w1 H=>sp (.bool (inR m 1 3)) (zjr (ret1 (.bool (inR m 1 3)) rfl rfl ⟨_,rfl,(congrArg Value.bool (dec_eq ?_)),H.base⟩)))))))
 rw [QB]
 rfl

theorem l06Asked_ok (w:World) (p:qW) (s:qZ) (m:Int) {qI:yOA} {xe:yLN} {apFree:yOA} {FpFree:yLN} {qR:yOA} {xx:yLN} {asCells:yOA} {FsCells:yLN} {qQ:yOA} {xw:yLN} (hp:zM w bp op [.int .i64 p.qJ,.slice qI p.qC.length qH,.slice apFree p.qL.length cpFree,.slice qR p.qB.length qM]) (qX:qV.rep w xe [.slice qI p.qC.length qH] p.qC) (hpFree:qV.rep w FpFree [.slice apFree p.qL.length cpFree] p.qL) (xn:qV.rep w xx [.slice qR p.qB.length qM] p.qB) (hs:zM w bs os [.slice asCells s.qG.length csCells,.slice qQ s.qF.length qP]) (hsCells:qV.rep w FsCells [.slice asCells s.qG.length csCells] s.qG) (xu:qV.rep w xw [.slice qQ s.qF.length qP] s.qF):Calls Tryz.prog 33 #[.pointer (some ⟨bp,op,none⟩),.pointer (some ⟨bs,os,none⟩),.int .i64 m] w (Ret (fun v w' =>v=.int .i64 (jc p s m)) w):=by
 refine en Tryz.func33 Tryz.ntmps33 ?_
 have H:=(((((((St.start w).arg xu).arg hsCells).argAt hs).arg xn).arg hpFree).arg qX).argAt hp
 have zF:=qO qX
 have nhpFree:=qO hpFree
 have vC:=qO xn
 have nhsCells:=qO hsCells
 have vV:=qO xu
 clear hp qX hpFree xn hs hsCells xu
 have N:=Fresh.nil w.heap.size
 refine zcr (sp (.int .i64 0) (zjcc (sps [.pointer (some ⟨bp,op,none⟩),.pointer (some ⟨bs,os,none⟩)] (sw (oq (l06Code_ok _ p s (qN (H.get 0 rfl) 0 4) (H.get 1 rfl).1 (H.get 2 rfl).1 (H.get 3 rfl).1 (qN (H.get 4 rfl) 0 2) (H.get 5 rfl).1 (H.get 6 rfl).1) H fun w2 H=>sp (.int .i64 (Qr p s)) (zjc (sps [.int .i64 (Qr p s),.bool ((Qr p s:Int) != 0)] (zjn (xC ((Qr p s:Int) != 0) rfl (fun h4=>?_) (fun h4=>?_))))))))))
 ·skip
  replace h4:=bne_iff_ne.1 h4
  refine zcr (sps [.int .i64 (Qr p s),.int .i64 (Qr p s)] (zjr (t_r (ret1 (.int .i64 (Qr p s)) rfl rfl ⟨_,rfl,?_,H.base⟩))))
  rw [mcode_no ‹_›]
 ·skip
  replace h4:=xA h4
  refine xf (t_n (zcc (sp (.int .i64 m) (sw (oq (l06Mode_ok w2 m) H fun w6 H=>sp (.bool (!(dec (ModeOk m)))) (zjn (cQ rfl (fun h8=>?_) (fun h8=>?_))))))))
  ·skip
   refine zcr (sp (.int .i64 2) (zjr (t_r (ret1 (.int .i64 2) rfl rfl ⟨_,rfl,?_,H.base⟩))))
   rw [mcode_2 ‹_› ‹_›]
  ·skip
   refine xf (t_n (zcr (sp (.int .i64 0) (zjr (ret1 (.int .i64 0) rfl rfl ⟨_,rfl,?_,H.base⟩)))))
   rw [mcode_0 ‹_› ‹_›]
theorem sizeB_ok (w:World) (l:List Bool) {al:yOA} {Fl:yLN} (hl:qV.rep w Fl [.slice al l.length cl] l):Calls Tryz.prog 107 #[.slice al l.length cl] w (Ret (fun v w' =>v=.int .i64 (l.length:Int)) w):=by
 refine en Tryz.func107 Tryz.ntmps107 ?_
 have H:=(St.start w).arg hl
 have nhl:=qO hl
 clear hl
 have N:=Fresh.nil w.heap.size
 refine zcr (sp (.int .i64 0) (zjc (sp (.slice al l.length cl) (oN rfl (sp (.int .i64 l.length) (zjr (ret1 (.int .i64 l.length) rfl rfl ⟨_,rfl,?_,H.base⟩)))))))
 rfl

theorem hasBound_ok (w:World) (p:qW) (b:yLI) {qI:yOA} {xe:yLN} {apFree:yOA} {FpFree:yLN} {qR:yOA} {xx:yLN} {ab:yOA} {Fb:yLN} (qX:qV.rep w xe [.slice qI p.qC.length qH] p.qC) (hpFree:qV.rep w FpFree [.slice apFree p.qL.length cpFree] p.qL) (xn:qV.rep w xx [.slice qR p.qB.length qM] p.qB) (hb:qV.rep w Fb [.slice ab b.length cb] b) (p0:PFrame p) (p1:jI p.qJ b):Calls Tryz.prog 110 #[.agg #[.int .i64 p.qJ,.slice qI p.qC.length qH,.slice apFree p.qL.length cpFree,.slice qR p.qB.length qM],.slice ab b.length cb] w (Ret (fun v w' =>v=.bool (dec (Bound p b))) w):=by
 refine en Tryz.func110 Tryz.ntmps110 ?_
 have H:=((((St.start w).arg hb).arg xn).arg hpFree).arg qX
 have zF:=qO qX
 have nhpFree:=qO hpFree
 have vC:=qO xn
 have nhb:=qO hb
 clear qX hpFree xn hb
 have N:=Fresh.nil w.heap.size
 have p2:=p0.2.2.1
 have p3:=p1.2
 refine zcr (sw (jd H [.int .i64 p.qJ,.slice qI p.qC.length qH,.slice apFree p.qL.length cpFree,.slice qR p.qB.length qM] fun b1 w2 H=>sp (.bool false) (zjcc (sp (.slice ab b.length cb) (oN rfl (sp (.int .i64 0) (zjn (xm ?_))))))))
 refine zK (fun m' ρ w3=>∃ (zu:Env) (k:Nat),ρ=upd (upd (upd (upd zu 2 (.pointer (some ⟨b1,0,none⟩))) 7 (.slice ab b.length cb)) 8 (.int .i64 b.length)) 9 (.int .i64 k)∧((k:Int)≤b.length)∧(NoBoundTo p b k)∧m' =(b.length - (k:Int)).toNat∧Fresh w.heap.size []∧St w w3 [.box b1 [.int .i64 p.qJ,.slice qI p.qC.length qH,.slice apFree p.qL.length cpFree,.slice qR p.qB.length qM] 37] [sF false xe qI qH p.qC,sF false FpFree apFree cpFree p.qL,sF false xx qR qM p.qB,sF false Fb ab cb b]) ((b.length - (0:Int)).toNat) ⟨_,0,uE4,qg,qy,rfl,N,H⟩ ?_
 clear H N
 rintro m' ρ w4 ⟨zu,k,rfl,i0,i1,rfl,N,H⟩
 refine zcr (sp (.bool (decide ((k:Int) < b.length))) (zjn (xP (cD rfl (fun h5=>?_) (fun h5=>?_)))))
 ·skip
  refine xf (t_n (xP (xm (zcr (sp (.int .i64 k) ?_)))))
  obtain ⟨b6,o7,rfl⟩:=H.addr 3 rfl qg
  refine oI rfl rfl (oL rfl (H.vY 3 rfl k qg qg) (sps [.int .i64 k,.int .i64 (b[k]!)] (zjc (sps [.int .i64 (b[k]!),.bool (decide ((b[k]! :Int) > 0)),.bool (decide ((b[k]! :Int) > 0))] ?_))))
  cases h9:(decide ((b[k]! :Int) > 0))
  ·skip
   replace h9:=of_decide_eq_false h9
   refine zG [17,18,19,20,21,22] (sp (.bool false) (zjn (xC false rfl (fun h=>absurd h qj) (fun _=>xf (b_n (t_n (xJ (sw (xX k 1 rfl rfl qg (sp (.int .i64 (k+1)) (xN (xg (m' :=(b.length - ((k+1):Int)).toNat) qg ⟨_,k+1,uE4,?_,?_,rfl,N,H⟩))))))))))))
   · omega
   · exact i1.succ (by first | (rintro ⟨_,h⟩;simp_all;done) | (rintro ⟨h,_⟩;omega))
  ·skip
   replace h9:=of_decide_eq_true h9
   refine qY 16 rfl rfl (oF rfl (qY 16 rfl rfl (oL rfl (H.cell 0 rfl rfl) (qY 16 rfl rfl (sp (.int .i64 k) (qY 16 rfl rfl ?_))))))
   obtain ⟨b10,o11,rfl⟩:=H.addr 1 rfl qg
   refine oI rfl rfl (qY 16 rfl rfl (oL rfl (H.Qn 1 rfl k qg qg) (qY 16 rfl rfl (sps [.bool (!(p.qL[k]!)),.bool (!(p.qL[k]!))] (zjn (xC (!(p.qL[k]!)) rfl (fun h13=>?_) (fun h13=>?_)))))))
   ·skip
    replace h13:=xB h13
    refine zcr (sp (.bool true) (zjr (zr5 (ret1 (.bool true) rfl rfl ⟨_,rfl,?_,H.base⟩))))
    rw [yw (Bound.at (k:=k) qg qg qm)]
   ·skip
    replace h13:=xq h13
    refine xf (b_n (t_n (xJ (sw (xX k 1 rfl rfl qg (sp (.int .i64 (k+1)) (xN (xg (m' :=(b.length - ((k+1):Int)).toNat) qg ⟨_,k+1,uE4,?_,?_,rfl,N,H⟩))))))))
    · omega
    · exact i1.succ (by first | (rintro ⟨_,h⟩;simp_all;done) | (rintro ⟨h,_⟩;omega))
 ·skip
  refine zx4 (zcr (sp (.bool false) (zjr (ret1 (.bool false) rfl rfl ⟨_,rfl,?_,H.base⟩))))
  rw [zf (fun h=>h ((show b.length=k by omega)▸i1))]

theorem validPassing_ok (w:World) (p:qW) {qI:yOA} {xe:yLN} {apFree:yOA} {FpFree:yLN} {qR:yOA} {xx:yLN} (qX:qV.rep w xe [.slice qI p.qC.length qH] p.qC) (hpFree:qV.rep w FpFree [.slice apFree p.qL.length cpFree] p.qL) (xn:qV.rep w xx [.slice qR p.qB.length qM] p.qB):Calls Tryz.prog 88 #[.agg #[.int .i64 p.qJ,.slice qI p.qC.length qH,.slice apFree p.qL.length cpFree,.slice qR p.qB.length qM]] w (Ret (fun v w' =>v=.bool (dec (zi p))) w):=by
 refine en Tryz.func88 Tryz.ntmps88 ?_
 have H:=(((St.start w).arg xn).arg hpFree).arg qX
 have zF:=qO qX
 have nhpFree:=qO hpFree
 have vC:=qO xn
 clear qX hpFree xn
 have N:=Fresh.nil w.heap.size
 refine zcr (sw (jd H [.int .i64 p.qJ,.slice qI p.qC.length qH,.slice apFree p.qL.length cpFree,.slice qR p.qB.length qM] fun b1 w2 H=>sp (.bool false) (zjn (xP (xP ?_)))))
 refine vK rfl H fun H=>tF 0 rfl rfl H ?_
 refine tL 1 rfl rfl (fun _ h=>h.cell 0 rfl rfl) H ?_
 refine ro 2 rfl (oq (QJ w2.drew p.qJ 1 8) H fun w4 H=>⟨H,(rtp 3 (.bool (!(inR p.qJ 1 8))) H ?_)⟩)
 refine rtp 4 (.bool (!(inR p.qJ 1 8))) H ?_
 cases h6:(!(inR p.qJ 1 8))
 ·skip
  replace h6:=xq h6
  replace h6:=QB.1 h6
  refine gF 5 rfl rfl H ?_
  refine gL 6 rfl rfl (fun _ h=>h.cell 0 rfl rfl) H ?_
  refine yz [7] qi qo (r_opG rfl (e:=9) rfl rfl (oq (sizeI_ok _ p.qC (H.get 0 rfl).1) H fun w7 H=>⟨H,(yz [8] qi qo (r_opG rfl (e:=9) rfl rfl (oq (QJ w7 (p.qC.length:Int) 1 4) H fun w9 H=>⟨H,(rgp 9 (.bool (!(inR (p.qC.length:Int) 1 4))) 9 H ?_)⟩) yA))⟩) yA)
  refine rtp 10 (.bool (!(inR (p.qC.length:Int) 1 4))) H ?_
  refine rtp 11 (.bool (!(inR (p.qC.length:Int) 1 4))) H ?_
  cases h11:(!(inR (p.qC.length:Int) 1 4))
  ·skip
   replace h11:=xq h11
   replace h11:=QB.1 h11
   refine gF 12 rfl rfl H ?_
   refine gL 13 rfl rfl (fun _ h=>h.cell 0 rfl rfl) H ?_
   obtain ⟨b12,o13,rfl⟩:=H.addr 0 rfl qg
   refine gI 14 rfl rfl rfl H ?_
   refine gL 15 rfl rfl (fun _ h=>h.vY 0 rfl 0 qg qg) H ?_
   refine rgp 16 (.bool ((p.qC[0]! :Int) != (-1))) 16 H ?_
   refine rtp 17 (.bool ((p.qC[0]! :Int) != (-1))) H ?_
   refine rtp 18 (.bool ((p.qC[0]! :Int) != (-1))) H ?_
   cases h15:((p.qC[0]! :Int) != (-1))
   ·skip
    replace h15:=xA h15
    refine gF 19 rfl rfl H ?_
    refine gL 20 rfl rfl (fun _ h=>h.cell 0 rfl rfl) H ?_
    refine gF 22 rfl rfl H ?_
    refine gL 23 rfl rfl (fun _ h=>h.cell 0 rfl rfl) H ?_
    refine yz [21] qi qo (r_opG rfl (e:=23) rfl rfl (oq (sizeB_ok _ p.qL (H.get 1 rfl).1) H fun w17 H=>⟨H,(rgp 24 (.bool (((p.qL.length:Int):Int) != p.qJ)) 23 H ?_)⟩) yA)
    refine rtp 25 (.bool (((p.qL.length:Int):Int) != p.qJ)) H ?_
    refine rtp 26 (.bool (((p.qL.length:Int):Int) != p.qJ)) H ?_
    cases h19:(((p.qL.length:Int):Int) != p.qJ)
    ·skip
     replace h19:=xA h19
     refine gF 27 rfl rfl H ?_
     refine gL 28 rfl rfl (fun _ h=>h.cell 0 rfl rfl) H ?_
     refine gN 29 rfl rfl H ?_
     refine rgp 30 (.bool (decide ((p.qB.length:Int) > 8))) 31 H ?_
     refine rtp 31 (.bool (decide ((p.qB.length:Int) > 8))) H ?_
     refine xI qi (t_n (cD rfl (fun h20=>?_) (fun h20=>?_)))
     ·skip
      refine zcr (sp (.bool false) (zjr (t_r (ret1 (.bool false) rfl rfl ⟨_,rfl,?_,H.base⟩))))
      rw [zf (fun h=>by obtain ⟨⟨h1,h2,h3,h4,h5,h6⟩,h7⟩:=h;first | contradiction | omega | (have:=h6 (c+1) qg qg;rw [← dg qg] at this;omega) | (obtain ⟨q1,q2,q3,q4,q5⟩:=h7 i qg;first | contradiction | omega | (rcases q5 with q5 | q5 | q5;omega;omega;contradiction)))]
     ·skip
      refine xf (t_n (zcc (oF rfl (oL rfl (H.cell 0 rfl rfl) (sw (o_tail H 0 rfl 1 Tryz.underlying22 ti2 rfl qg fun a21 G22 hG23 H=>?_))))))
      have hl24:(p.qC.drop 1).length=p.qC.length - 1:=List.length_drop
      refine oN rfl (sp (.int .i64 0) (zjn (xm ?_)))
      refine zK (fun m' ρ w25=>∃ (zu:Env) (c:Nat),ρ=upd (upd (upd (upd zu 1 (.pointer (some ⟨b1,0,none⟩))) 39 (.slice a21 ((p.qC.drop 1).length) (qH - 1))) 40 (.int .i64 ((p.qC.drop 1).length))) 41 (.int .i64 c)∧((c:Int)≤((p.qC.drop 1).length))∧(PFrameTo p (c+1))∧m' =(((p.qC.drop 1).length) - (c:Int)).toNat∧Fresh w.heap.size []∧St w w25 [.box b1 [.int .i64 p.qJ,.slice (some ⟨b12,o13,none⟩) p.qC.length qH,.slice apFree p.qL.length cpFree,.slice qR p.qB.length qM] 37] [sF false G22 a21 (qH - 1) (p.qC.drop 1),sF false xe (some ⟨b12,o13,none⟩) qH p.qC,sF false FpFree apFree cpFree p.qL,sF false xx qR qM p.qB]) ((((p.qC.drop 1).length) - (0:Int)).toNat) ⟨_,0,uE4,qg,(by exact PFrameTo.one p),rfl,N,H⟩ ?_
      clear H N
      rintro m' ρ w26 ⟨zu,c,rfl,i0,i1,rfl,N,H⟩
      have dg:=pdrop (l:=p.qC) (k:=c)
      refine zcr (sp (.bool (decide ((c:Int) < ((p.qC.drop 1).length)))) (zjn (xP (cD rfl (fun h27=>?_) (fun h27=>?_)))))
      ·skip
       refine xf (t_n (xP (xm (zcr (sp (.int .i64 c) ?_)))))
       obtain ⟨b28,o29,rfl⟩:=H.addr 0 rfl qg
       refine oI rfl rfl (oL rfl (H.vY 0 rfl c qg qg) (sps [.int .i64 c,.int .i64 ((p.qC.drop 1)[c]!)] (zjc (sps [.int .i64 ((p.qC.drop 1)[c]!),.int .i64 c] (sw (oq (QJ w26 ((p.qC.drop 1)[c]!) 0 c) H fun w31 H=>sp (.bool (!(inR ((p.qC.drop 1)[c]!) 0 c))) (zjn (xC (!(inR ((p.qC.drop 1)[c]!) 0 c)) rfl (fun h33=>?_) (fun h33=>?_)))))))))
       ·skip
        replace h33:=xB h33
        replace h33:=inR_not h33
        refine zcr (sp (.bool false) (zjr (zr5 (ret1 (.bool false) rfl rfl ⟨_,rfl,?_,H.base⟩))))
        rw [zf (fun h=>by obtain ⟨⟨h1,h2,h3,h4,h5,h6⟩,h7⟩:=h;first | contradiction | omega | (have:=h6 (c+1) qg qg;rw [← dg qg] at this;omega) | (obtain ⟨q1,q2,q3,q4,q5⟩:=h7 i qg;first | contradiction | omega | (rcases q5 with q5 | q5 | q5;omega;omega;contradiction)))]
       ·skip
        replace h33:=xq h33
        replace h33:=QB.1 h33
        refine xf (b_n (t_n (xJ (sw (xX c 1 rfl rfl qg (sp (.int .i64 (c+1)) (xN (xg (m' :=(((p.qC.drop 1).length) - ((c+1):Int)).toNat) qg ⟨_,c+1,uE4,?_,?_,rfl,N,H⟩))))))))
        · omega
        · exact i1.succ (by rw [← dg qg];omega)
      ·skip
       refine zx4 (zcr (oF rfl (oL rfl (H.cell 0 rfl rfl) (sp (.func (.func 109) #[] #[.pointer (some ⟨b1,0,none⟩)]) ?_))))
       have f0:PFrame p:=⟨by omega,by omega,by omega,by omega,by omega,(show p.qC.length=c+1 by omega)▸i1⟩
       refine sw (jG #[.slice qR p.qB.length qM,.func (.func 109) #[] #[.pointer (some ⟨b1,0,none⟩)]] rfl rfl Tryz.call108 (en Tryz.func108 Tryz.ntmps108 ?_))
       refine zcr (sp (.bool false) (zjc (sps [.slice qR p.qB.length qM,.func (.func 109) #[] #[.pointer (some ⟨b1,0,none⟩)]] (sw (jG #[.slice qR p.qB.length qM,.func (.func 109) #[] #[.pointer (some ⟨b1,0,none⟩)]] rfl rfl Tryz.call129 (en Tryz.func129 Tryz.ntmps129 ?_))))))
       refine zcr (sp (.int .i64 0) (zjcc (sp (.slice qR p.qB.length qM) (oN rfl (sp (.int .i64 0) (zjn (xm ?_)))))))
       refine zK (fun m' ρ w34=>∃ (zu:Env) (i:Nat),ρ=upd (upd (upd (upd zu 0 (.slice qR p.qB.length qM)) 1 (.func (.func 109) #[] #[.pointer (some ⟨b1,0,none⟩)])) 7 (.int .i64 p.qB.length)) 8 (.int .i64 i)∧((i:Int)≤p.qB.length)∧(PRulesTo p i)∧m' =(p.qB.length - (i:Int)).toNat∧Fresh w.heap.size []∧St w w34 [.box b1 [.int .i64 p.qJ,.slice (some ⟨b12,o13,none⟩) p.qC.length qH,.slice apFree p.qL.length cpFree,.slice qR p.qB.length qM] 37] [sF false G22 a21 (qH - 1) (p.qC.drop 1),sF false xe (some ⟨b12,o13,none⟩) qH p.qC,sF false FpFree apFree cpFree p.qL,sF false xx qR qM p.qB]) ((p.qB.length - (0:Int)).toNat) ⟨_,0,uE4,qg,qy,rfl,N,H⟩ ?_
       clear H N
       rintro m' ρ w35 ⟨zu,i,rfl,i0,i3,rfl,N,H⟩
       refine zcr (sp (.bool (decide ((i:Int) < p.qB.length))) (zjn (xP (cD rfl (fun h36=>?_) (fun h36=>?_)))))
       ·skip
        refine xf (t_n (xP (xm (zcr (sps [.int .i64 i,.int .i64 i] (zjc (sps [.func (.func 109) #[] #[.pointer (some ⟨b1,0,none⟩)],.slice qR p.qB.length qM,.int .i64 i] ?_)))))))
        obtain ⟨b37,o38,rfl⟩:=H.addr 3 rfl qg
        obtain ⟨ae40Out,ce40Out,Fe40Out,ae40In,ce40In,Fe40In,H⟩:=H.zW 3 rfl i i qg qg qg
        refine oI rfl rfl (sw (xZ [.int .i64 ((p.qB[i]!).qE),.slice ae40Out (((p.qB[i]!).qU).length) ce40Out,.slice ae40In (((p.qB[i]!).fIn).length) ce40In] Tryz.isAgg93 Tryz.sizeOf93 rfl (qN (H.get 2 rfl) 0 3) (sw (jG #[.agg #[.int .i64 ((p.qB[i]!).qE),.slice ae40Out (((p.qB[i]!).qU).length) ce40Out,.slice ae40In (((p.qB[i]!).fIn).length) ce40In],.pointer (some ⟨b1,0,none⟩)] rfl rfl Tryz.call109 (en Tryz.func109 Tryz.ntmps109 ?_)))))
        refine zcr (sw (jd H [.int .i64 ((p.qB[i]!).qE),.slice ae40Out (((p.qB[i]!).qU).length) ce40Out,.slice ae40In (((p.qB[i]!).fIn).length) ce40In] fun b41 w42 H=>sp (.bool false) (zjn (xP ?_))))
        refine vK rfl H fun H=>tF 0 rfl rfl H ?_
        refine tL 1 rfl rfl (fun _ h=>h.cell 0 rfl rfl) H ?_
        refine tF 2 rfl rfl H ?_
        refine tL 3 rfl rfl (fun _ h=>h.cell 1 rfl rfl) H ?_
        refine ro 4 rfl (oq (sizeI_ok _ p.qC (H.get 4 rfl).1) H fun w44 H=>⟨H,(rt 5 (.int .i64 ((p.qC.length:Int) - 1)) (y_sub (p.qC.length:Int) 1 rfl rfl (by (first | omega | (have:=psum ‹jI p.qJ (p.qB[i]!).qU›;have:=psum ‹jI p.qJ (p.qB[i]!).fIn›;omega)))) H ?_)⟩)
        refine ro 6 rfl (oq (QJ w44 ((p.qB[i]!).qE) 0 ((p.qC.length:Int) - 1)) H fun w46 H=>⟨H,(rtp 7 (.bool (!(inR ((p.qB[i]!).qE) 0 ((p.qC.length:Int) - 1)))) H ?_)⟩)
        refine rtp 8 (.bool (!(inR ((p.qB[i]!).qE) 0 ((p.qC.length:Int) - 1)))) H ?_
        cases h48:(!(inR ((p.qB[i]!).qE) 0 ((p.qC.length:Int) - 1)))
        ·skip
         replace h48:=xq h48
         replace h48:=QB.1 h48
         refine gF 9 rfl rfl H ?_
         refine gL 10 rfl rfl (fun _ h=>h.cell 1 rfl rfl) H ?_
         refine gF 11 rfl rfl H ?_
         refine gL 12 rfl rfl (fun _ h=>h.cell 0 rfl rfl) H ?_
         refine yz [13] qi qo (r_opG rfl (e:=12) rfl rfl (oq (validBag_ok _ p.qJ ((p.qB[i]!).qU) (H.get 0 rfl).1) H fun w49 H=>⟨H,(rgp 14 (.bool (!(dec (jI p.qJ ((p.qB[i]!).qU))))) 12 H ?_)⟩) yA)
         refine rtp 15 (.bool (!(dec (jI p.qJ ((p.qB[i]!).qU))))) H ?_
         refine rtp 16 (.bool (!(dec (jI p.qJ ((p.qB[i]!).qU))))) H ?_
         cases h51:(!(dec (jI p.qJ ((p.qB[i]!).qU))))
         ·skip
          replace h51:=xq h51
          replace h51:=zZ h51
          refine gF 17 rfl rfl H ?_
          refine gL 18 rfl rfl (fun _ h=>h.cell 1 rfl rfl) H ?_
          refine gF 19 rfl rfl H ?_
          refine gL 20 rfl rfl (fun _ h=>h.cell 0 rfl rfl) H ?_
          refine yz [21] qi qo (r_opG rfl (e:=20) rfl rfl (oq (validBag_ok _ p.qJ ((p.qB[i]!).fIn) (H.get 1 rfl).1) H fun w52 H=>⟨H,(rgp 22 (.bool (!(dec (jI p.qJ ((p.qB[i]!).fIn))))) 20 H ?_)⟩) yA)
          refine rtp 23 (.bool (!(dec (jI p.qJ ((p.qB[i]!).fIn))))) H ?_
          refine rtp 24 (.bool (!(dec (jI p.qJ ((p.qB[i]!).fIn))))) H ?_
          cases h54:(!(dec (jI p.qJ ((p.qB[i]!).fIn))))
          ·skip
           replace h54:=xq h54
           replace h54:=zZ h54
           refine gF 25 rfl rfl H ?_
           refine gL 26 rfl rfl (fun _ h=>h.cell 0 rfl rfl) H ?_
           refine gF 28 rfl rfl H ?_
           refine gL 29 rfl rfl (fun _ h=>h.cell 0 rfl rfl) H ?_
           refine yz [27] qi qo (r_opG rfl (e:=28) rfl rfl ?_ yA)
           have sm:Small ((p.qB[i]!).qU):=jJ qm
           refine oq (bagSize_ok _ ((p.qB[i]!).qU) (H.get 0 rfl).1 (by first | assumption | exact jJ qm | exact Qs qm)) H fun w55 H=>⟨H,(yz [30] qi qo (r_opG rfl (e:=28) rfl rfl ?_ yA))⟩
           have sm:Small ((p.qB[i]!).fIn):=jJ qm
           refine oq (bagSize_ok _ ((p.qB[i]!).fIn) (H.get 1 rfl).1 (by first | assumption | exact jJ qm | exact Qs qm)) H fun w57 H=>⟨H,(rg 31 (.int .i64 ((yM ((p.qB[i]!).qU))+(yM ((p.qB[i]!).fIn)))) 28 (y_add (yM ((p.qB[i]!).qU)) (yM ((p.qB[i]!).fIn)) rfl rfl (by (first | omega | (have:=psum ‹jI p.qJ (p.qB[i]!).qU›;have:=psum ‹jI p.qJ (p.qB[i]!).fIn›;omega)))) H ?_)⟩
           refine rgp 32 (.bool (((yM ((p.qB[i]!).qU))+(yM ((p.qB[i]!).fIn)):Int) == 0)) 28 H ?_
           refine rtp 33 (.bool (((yM ((p.qB[i]!).qU))+(yM ((p.qB[i]!).fIn)):Int) == 0)) H ?_
           refine rtp 34 (.bool (((yM ((p.qB[i]!).qU))+(yM ((p.qB[i]!).fIn)):Int) == 0)) H ?_
           cases h59:(((yM ((p.qB[i]!).qU))+(yM ((p.qB[i]!).fIn)):Int) == 0)
           ·skip
            replace h59:=ne_of_beq_false h59
            refine gF 35 rfl rfl H ?_
            refine gL 36 rfl rfl (fun _ h=>h.cell 0 rfl rfl) H ?_
            refine rgp 37 (.bool (((p.qB[i]!).qE:Int) == 0)) 38 H ?_
            refine rgp 38 (.bool (((p.qB[i]!).qE:Int) == 0)) 38 H ?_
            cases h60:(((p.qB[i]!).qE:Int) == 0)
            ·skip
             replace h60:=ne_of_beq_false h60
             refine zL [39,40,41,42] 4 (H) (rgp 43 (.bool false) 38 H ?_)
             refine rgp 44 (.bool false) 38 H ?_
             refine zL [45,46,47,48,49] 5 (H) (rgp 50 (.bool false) 38 H ?_)
             refine rtp 51 (.bool false) H ?_
             refine rtp 52 (.bool false) H ?_
             refine xI qi (t_n (c_ret (ret1 (.bool false) rfl rfl ⟨_,rfl,?_⟩)))
             replace H:=H.erases [0]
             dsimp only [Qg,List.eraseIdx] at H
             refine zjn (xC false rfl (fun h=>absurd h qj) (fun _=>xf (b_n (t_n (xJ (sw (xX i 1 rfl rfl qg (sp (.int .i64 (i+1)) (xN (xg (m' :=(p.qB.length - ((i+1):Int)).toNat) qg ⟨_,i+1,uE4,?_,?_,rfl,N,H.pick [0] [3,4,5,6]⟩))))))))))
             · omega
             · exact i3.succ ⟨by omega,by assumption,by assumption,by omega,by first | (left;omega) | (right;left;have:=psum ‹jI p.qJ (p.qB[i]!).qU›;omega) | (right;right;assumption)⟩
            ·skip
             replace h60:=eq_of_beq h60
             refine gF 39 rfl rfl H ?_
             refine gL 40 rfl rfl (fun _ h=>h.cell 0 rfl rfl) H ?_
             refine yz [41] qi qo (r_opG rfl (e:=42) rfl rfl ?_ yA)
             have sm:Small ((p.qB[i]!).qU):=jJ qm
             refine oq (bagSize_ok _ ((p.qB[i]!).qU) (H.get 0 rfl).1 (by first | assumption | exact jJ qm | exact Qs qm)) H fun w61 H=>⟨H,(rgp 42 (.bool ((yM ((p.qB[i]!).qU):Int) == 0)) 42 H ?_)⟩
             refine rgp 43 (.bool ((yM ((p.qB[i]!).qU):Int) == 0)) 38 H ?_
             refine rgp 44 (.bool ((yM ((p.qB[i]!).qU):Int) == 0)) 38 H ?_
             cases h63:((yM ((p.qB[i]!).qU):Int) == 0)
             ·skip
              replace h63:=ne_of_beq_false h63
              refine zL [45,46,47,48,49] 5 (H) (rgp 50 (.bool false) 38 H ?_)
              refine rtp 51 (.bool false) H ?_
              refine rtp 52 (.bool false) H ?_
              refine xI qi (t_n (c_ret (ret1 (.bool false) rfl rfl ⟨_,rfl,?_⟩)))
              replace H:=H.erases [0]
              dsimp only [Qg,List.eraseIdx] at H
              refine zjn (xC false rfl (fun h=>absurd h qj) (fun _=>xf (b_n (t_n (xJ (sw (xX i 1 rfl rfl qg (sp (.int .i64 (i+1)) (xN (xg (m' :=(p.qB.length - ((i+1):Int)).toNat) qg ⟨_,i+1,uE4,?_,?_,rfl,N,H.pick [0] [3,4,5,6]⟩))))))))))
              · omega
              · exact i3.succ ⟨by omega,by assumption,by assumption,by omega,by first | (left;omega) | (right;left;have:=psum ‹jI p.qJ (p.qB[i]!).qU›;omega) | (right;right;assumption)⟩
             ·skip
              replace h63:=eq_of_beq h63
              refine rg 45 (.agg #[.int .i64 p.qJ,.slice (some ⟨b12,o13,none⟩) p.qC.length qH,.slice apFree p.qL.length cpFree,.slice (some ⟨b37,o38,none⟩) p.qB.length qM]) 48 (Qc (cs:=[.int .i64 p.qJ,.slice (some ⟨b12,o13,none⟩) p.qC.length qH,.slice apFree p.qL.length cpFree,.slice (some ⟨b37,o38,none⟩) p.qB.length qM]) Tryz.isAgg37 Tryz.sizeOf37 rfl (fun _ h=>qN (h.cells 1 rfl) 0 4)) H ?_
              refine gF 46 rfl rfl H ?_
              refine gL 47 rfl rfl (fun _ h=>h.cell 0 rfl rfl) H ?_
              refine yz [48] qi qo (r_opG rfl (e:=48) rfl rfl (oq (hasBound_ok _ p ((p.qB[i]!).fIn) (H.get 4 rfl).1 (H.get 5 rfl).1 (H.get 6 rfl).1 (H.get 1 rfl).1 qm qm) H fun w65 H=>⟨H,(rgp 49 (.bool (!(dec (Bound p ((p.qB[i]!).fIn))))) 48 H ?_)⟩) yA)
              refine rgp 50 (.bool (!(dec (Bound p ((p.qB[i]!).fIn))))) 38 H ?_
              refine rtp 51 (.bool (!(dec (Bound p ((p.qB[i]!).fIn))))) H ?_
              refine rtp 52 (.bool (!(dec (Bound p ((p.qB[i]!).fIn))))) H ?_
              refine xI qi (t_n (c_ret (ret1 (.bool (!(dec (Bound p ((p.qB[i]!).fIn))))) rfl rfl ⟨_,rfl,?_⟩)))
              replace H:=H.erases [0]
              dsimp only [Qg,List.eraseIdx] at H
              refine zjn (cQ rfl (fun h67=>?_) (fun h67=>?_))
              ·skip
               refine zcr (sps [.int .i64 i,.int .i64 i] (zjr (zr5 (ret1 (.int .i64 i) rfl rfl ⟨_,rfl,(sw (o_pure (.bool true) (by show some (Value.bool (decide ((i:Int)≥0)))=some (Value.bool true);rw [decide_eq_true qg]) (sp (.bool true) (zjr (ret1 (.bool true) rfl rfl ⟨_,rfl,(sps [.bool false,.bool false] (zjr (ret1 (.bool false) rfl rfl ⟨_,rfl,?_,H.base⟩)))⟩)))))⟩))))
               rw [zf (fun h=>by obtain ⟨⟨h1,h2,h3,h4,h5,h6⟩,h7⟩:=h;first | contradiction | omega | (have:=h6 (c+1) qg qg;rw [← dg qg] at this;omega) | (obtain ⟨q1,q2,q3,q4,q5⟩:=h7 i qg;first | contradiction | omega | (rcases q5 with q5 | q5 | q5;omega;omega;contradiction)))]
              ·skip
               refine xf (b_n (t_n (xJ (sw (xX i 1 rfl rfl qg (sp (.int .i64 (i+1)) (xN (xg (m' :=(p.qB.length - ((i+1):Int)).toNat) qg ⟨_,i+1,uE4,?_,?_,rfl,N,H.pick [0] [3,4,5,6]⟩))))))))
               · omega
               · exact i3.succ ⟨by omega,by assumption,by assumption,by omega,by first | (left;omega) | (right;left;have:=psum ‹jI p.qJ (p.qB[i]!).qU›;omega) | (right;right;assumption)⟩
           ·skip
            replace h59:=eq_of_beq h59
            refine zL [35,36,37,38,39,40,41,42,43,44,45,46,47,48,49,50] 16 (H) (rtp 51 (.bool true) H ?_)
            refine rtp 52 (.bool true) H ?_
            refine xI qi (t_n (c_ret (ret1 (.bool true) rfl rfl ⟨_,rfl,?_⟩)))
            replace H:=H.erases [0]
            dsimp only [Qg,List.eraseIdx] at H
            refine zjn (xC true rfl (fun _=>zcr (sps [.int .i64 i,.int .i64 i] (zjr (zr5 (ret1 (.int .i64 i) rfl rfl ⟨_,rfl,(sw (o_pure (.bool true) (by show some (Value.bool (decide ((i:Int)≥0)))=some (Value.bool true);rw [decide_eq_true qg]) (sp (.bool true) (zjr (ret1 (.bool true) rfl rfl ⟨_,rfl,(sps [.bool false,.bool false] (zjr (ret1 (.bool false) rfl rfl ⟨_,rfl,?_,H.base⟩)))⟩)))))⟩))))) (fun h=>absurd h qj))
            rw [zf (fun h=>by obtain ⟨⟨h1,h2,h3,h4,h5,h6⟩,h7⟩:=h;first | contradiction | omega | (have:=h6 (c+1) qg qg;rw [← dg qg] at this;omega) | (obtain ⟨q1,q2,q3,q4,q5⟩:=h7 i qg;first | contradiction | omega | (rcases q5 with q5 | q5 | q5;omega;omega;contradiction)))]
          ·skip
           replace h54:=xB h54
           replace h54:=zy h54
           refine zL [25,26,27,28,29,30,31,32] 8 (H) (rtp 33 (.bool true) H ?_)
           refine rtp 34 (.bool true) H ?_
           refine zL [35,36,37,38,39,40,41,42,43,44,45,46,47,48,49,50] 16 (H) (rtp 51 (.bool true) H ?_)
           refine rtp 52 (.bool true) H ?_
           refine xI qi (t_n (c_ret (ret1 (.bool true) rfl rfl ⟨_,rfl,?_⟩)))
           replace H:=H.erases [0]
           dsimp only [Qg,List.eraseIdx] at H
           refine zjn (xC true rfl (fun _=>zcr (sps [.int .i64 i,.int .i64 i] (zjr (zr5 (ret1 (.int .i64 i) rfl rfl ⟨_,rfl,(sw (o_pure (.bool true) (by show some (Value.bool (decide ((i:Int)≥0)))=some (Value.bool true);rw [decide_eq_true qg]) (sp (.bool true) (zjr (ret1 (.bool true) rfl rfl ⟨_,rfl,(sps [.bool false,.bool false] (zjr (ret1 (.bool false) rfl rfl ⟨_,rfl,?_,H.base⟩)))⟩)))))⟩))))) (fun h=>absurd h qj))
           rw [zf (fun h=>by obtain ⟨⟨h1,h2,h3,h4,h5,h6⟩,h7⟩:=h;first | contradiction | omega | (have:=h6 (c+1) qg qg;rw [← dg qg] at this;omega) | (obtain ⟨q1,q2,q3,q4,q5⟩:=h7 i qg;first | contradiction | omega | (rcases q5 with q5 | q5 | q5;omega;omega;contradiction)))]
         ·skip
          replace h51:=xB h51
          replace h51:=zy h51
          refine zL [17,18,19,20,21,22] 6 (H) (rtp 23 (.bool true) H ?_)
          refine rtp 24 (.bool true) H ?_
          refine zL [25,26,27,28,29,30,31,32] 8 (H) (rtp 33 (.bool true) H ?_)
          refine rtp 34 (.bool true) H ?_
          refine zL [35,36,37,38,39,40,41,42,43,44,45,46,47,48,49,50] 16 (H) (rtp 51 (.bool true) H ?_)
          refine rtp 52 (.bool true) H ?_
          refine xI qi (t_n (c_ret (ret1 (.bool true) rfl rfl ⟨_,rfl,?_⟩)))
          replace H:=H.erases [0]
          dsimp only [Qg,List.eraseIdx] at H
          refine zjn (xC true rfl (fun _=>zcr (sps [.int .i64 i,.int .i64 i] (zjr (zr5 (ret1 (.int .i64 i) rfl rfl ⟨_,rfl,(sw (o_pure (.bool true) (by show some (Value.bool (decide ((i:Int)≥0)))=some (Value.bool true);rw [decide_eq_true qg]) (sp (.bool true) (zjr (ret1 (.bool true) rfl rfl ⟨_,rfl,(sps [.bool false,.bool false] (zjr (ret1 (.bool false) rfl rfl ⟨_,rfl,?_,H.base⟩)))⟩)))))⟩))))) (fun h=>absurd h qj))
          rw [zf (fun h=>by obtain ⟨⟨h1,h2,h3,h4,h5,h6⟩,h7⟩:=h;first | contradiction | omega | (have:=h6 (c+1) qg qg;rw [← dg qg] at this;omega) | (obtain ⟨q1,q2,q3,q4,q5⟩:=h7 i qg;first | contradiction | omega | (rcases q5 with q5 | q5 | q5;omega;omega;contradiction)))]
        ·skip
         replace h48:=xB h48
         replace h48:=inR_not h48
         refine zL [9,10,11,12,13,14] 6 (H) (rtp 15 (.bool true) H ?_)
         refine rtp 16 (.bool true) H ?_
         refine zL [17,18,19,20,21,22] 6 (H) (rtp 23 (.bool true) H ?_)
         refine rtp 24 (.bool true) H ?_
         refine zL [25,26,27,28,29,30,31,32] 8 (H) (rtp 33 (.bool true) H ?_)
         refine rtp 34 (.bool true) H ?_
         refine zL [35,36,37,38,39,40,41,42,43,44,45,46,47,48,49,50] 16 (H) (rtp 51 (.bool true) H ?_)
         refine rtp 52 (.bool true) H ?_
         refine xI qi (t_n (c_ret (ret1 (.bool true) rfl rfl ⟨_,rfl,?_⟩)))
         replace H:=H.erases [0]
         dsimp only [Qg,List.eraseIdx] at H
         refine zjn (xC true rfl (fun _=>zcr (sps [.int .i64 i,.int .i64 i] (zjr (zr5 (ret1 (.int .i64 i) rfl rfl ⟨_,rfl,(sw (o_pure (.bool true) (by show some (Value.bool (decide ((i:Int)≥0)))=some (Value.bool true);rw [decide_eq_true qg]) (sp (.bool true) (zjr (ret1 (.bool true) rfl rfl ⟨_,rfl,(sps [.bool false,.bool false] (zjr (ret1 (.bool false) rfl rfl ⟨_,rfl,?_,H.base⟩)))⟩)))))⟩))))) (fun h=>absurd h qj))
         rw [zf (fun h=>by obtain ⟨⟨h1,h2,h3,h4,h5,h6⟩,h7⟩:=h;first | contradiction | omega | (have:=h6 (c+1) qg qg;rw [← dg qg] at this;omega) | (obtain ⟨q1,q2,q3,q4,q5⟩:=h7 i qg;first | contradiction | omega | (rcases q5 with q5 | q5 | q5;omega;omega;contradiction)))]
       ·skip
        refine zx4 (zcr (sp (.int .i64 (-1)) (zjr (ret1 (.int .i64 (-1)) rfl rfl ⟨_,rfl,(sps [.bool false,.bool false] (zjr (ret1 (.bool false) rfl rfl ⟨_,rfl,(sps [.bool true,.bool true] (zjr (ret1 (.bool true) rfl rfl ⟨_,rfl,?_,H.base⟩)))⟩)))⟩))))
        rw [yw ⟨f0,(show p.qB.length=i by omega)▸i3⟩]
    ·skip
     replace h19:=bne_iff_ne.1 h19
     refine zL [27,28,29,30] 4 (H) (rtp 31 (.bool true) H ?_)
     refine xI qi (t_n (xC true rfl (fun _=>zcr (sp (.bool false) (zjr (t_r (ret1 (.bool false) rfl rfl ⟨_,rfl,?_,H.base⟩))))) (fun h=>absurd h qj)))
     rw [zf (fun h=>by obtain ⟨⟨h1,h2,h3,h4,h5,h6⟩,h7⟩:=h;first | contradiction | omega | (have:=h6 (c+1) qg qg;rw [← dg qg] at this;omega) | (obtain ⟨q1,q2,q3,q4,q5⟩:=h7 i qg;first | contradiction | omega | (rcases q5 with q5 | q5 | q5;omega;omega;contradiction)))]
   ·skip
    replace h15:=bne_iff_ne.1 h15
    refine zL [19,20,21,22,23,24] 6 (H) (rtp 25 (.bool true) H ?_)
    refine rtp 26 (.bool true) H ?_
    refine zL [27,28,29,30] 4 (H) (rtp 31 (.bool true) H ?_)
    refine xI qi (t_n (xC true rfl (fun _=>zcr (sp (.bool false) (zjr (t_r (ret1 (.bool false) rfl rfl ⟨_,rfl,?_,H.base⟩))))) (fun h=>absurd h qj)))
    rw [zf (fun h=>by obtain ⟨⟨h1,h2,h3,h4,h5,h6⟩,h7⟩:=h;first | contradiction | omega | (have:=h6 (c+1) qg qg;rw [← dg qg] at this;omega) | (obtain ⟨q1,q2,q3,q4,q5⟩:=h7 i qg;first | contradiction | omega | (rcases q5 with q5 | q5 | q5;omega;omega;contradiction)))]
  ·skip
   replace h11:=xB h11
   replace h11:=inR_not h11
   refine zL [12,13,14,15,16] 5 (H) (rtp 17 (.bool true) H ?_)
   refine rtp 18 (.bool true) H ?_
   refine zL [19,20,21,22,23,24] 6 (H) (rtp 25 (.bool true) H ?_)
   refine rtp 26 (.bool true) H ?_
   refine zL [27,28,29,30] 4 (H) (rtp 31 (.bool true) H ?_)
   refine xI qi (t_n (xC true rfl (fun _=>zcr (sp (.bool false) (zjr (t_r (ret1 (.bool false) rfl rfl ⟨_,rfl,?_,H.base⟩))))) (fun h=>absurd h qj)))
   rw [zf (fun h=>by obtain ⟨⟨h1,h2,h3,h4,h5,h6⟩,h7⟩:=h;first | contradiction | omega | (have:=h6 (c+1) qg qg;rw [← dg qg] at this;omega) | (obtain ⟨q1,q2,q3,q4,q5⟩:=h7 i qg;first | contradiction | omega | (rcases q5 with q5 | q5 | q5;omega;omega;contradiction)))]
 ·skip
  replace h6:=xB h6
  replace h6:=inR_not h6
  refine zL [5,6,7,8,9] 5 (H) (rtp 10 (.bool true) H ?_)
  refine rtp 11 (.bool true) H ?_
  refine zL [12,13,14,15,16] 5 (H) (rtp 17 (.bool true) H ?_)
  refine rtp 18 (.bool true) H ?_
  refine zL [19,20,21,22,23,24] 6 (H) (rtp 25 (.bool true) H ?_)
  refine rtp 26 (.bool true) H ?_
  refine zL [27,28,29,30] 4 (H) (rtp 31 (.bool true) H ?_)
  refine xI qi (t_n (xC true rfl (fun _=>zcr (sp (.bool false) (zjr (t_r (ret1 (.bool false) rfl rfl ⟨_,rfl,?_,H.base⟩))))) (fun h=>absurd h qj)))
  rw [zf (fun h=>by obtain ⟨⟨h1,h2,h3,h4,h5,h6⟩,h7⟩:=h;first | contradiction | omega | (have:=h6 (c+1) qg qg;rw [← dg qg] at this;omega) | (obtain ⟨q1,q2,q3,q4,q5⟩:=h7 i qg;first | contradiction | omega | (rcases q5 with q5 | q5 | q5;omega;omega;contradiction)))]

theorem validStock_ok (w:World) (p:qW) (s:qZ) {qI:yOA} {xe:yLN} {apFree:yOA} {FpFree:yLN} {qR:yOA} {xx:yLN} {asCells:yOA} {FsCells:yLN} {qQ:yOA} {xw:yLN} (qX:qV.rep w xe [.slice qI p.qC.length qH] p.qC) (hpFree:qV.rep w FpFree [.slice apFree p.qL.length cpFree] p.qL) (xn:qV.rep w xx [.slice qR p.qB.length qM] p.qB) (hsCells:qV.rep w FsCells [.slice asCells s.qG.length csCells] s.qG) (xu:qV.rep w xw [.slice qQ s.qF.length qP] s.qF):Calls Tryz.prog 70 #[.agg #[.int .i64 p.qJ,.slice qI p.qC.length qH,.slice apFree p.qL.length cpFree,.slice qR p.qB.length qM],.agg #[.slice asCells s.qG.length csCells,.slice qQ s.qF.length qP]] w (Ret (fun v w' =>v=.bool (dec (zi p∧xG p s))) w):=by
 refine en Tryz.func70 Tryz.ntmps70 ?_
 have H:=(((((St.start w).arg xu).arg hsCells).arg xn).arg hpFree).arg qX
 have zF:=qO qX
 have nhpFree:=qO hpFree
 have vC:=qO xn
 have nhsCells:=qO hsCells
 have vV:=qO xu
 clear qX hpFree xn hsCells xu
 have N:=Fresh.nil w.heap.size
 refine zcr (sw (jd H [.int .i64 p.qJ,.slice qI p.qC.length qH,.slice apFree p.qL.length cpFree,.slice qR p.qB.length qM] fun b1 w2 H=>sw (jd H [.slice asCells s.qG.length csCells,.slice qQ s.qF.length qP] fun b3 w4 H=>sp (.bool false) (zjcc (sw (xZ [.int .i64 p.qJ,.slice qI p.qC.length qH,.slice apFree p.qL.length cpFree,.slice qR p.qB.length qM] Tryz.isAgg37 Tryz.sizeOf37 rfl (qN (H.cells 1 rfl) 0 4) (sw (oq (validPassing_ok _ p (H.get 0 rfl).1 (H.get 1 rfl).1 (H.get 2 rfl).1) H fun w6 H=>?_))))))))
 refine sps [.bool (!(dec (zi p))),.bool (!(dec (zi p)))] ?_
 cases h8:(!(dec (zi p)))
 ·skip
  replace h8:=xq h8
  replace h8:=zZ h8
  refine qY 10 rfl rfl (oF rfl (qY 10 rfl rfl (oL rfl (H.cell 0 rfl rfl) (qY 10 rfl rfl (oN rfl (qY 10 rfl rfl (oF rfl (qY 10 rfl rfl (oL rfl (H.cell 1 rfl rfl) (qY 10 rfl rfl (oN rfl (qY 10 rfl rfl (sps [.bool ((s.qG.length:Int) != p.qC.length),.bool ((s.qG.length:Int) != p.qC.length),.bool ((s.qG.length:Int) != p.qC.length)] ?_)))))))))))))
  cases h9:((s.qG.length:Int) != p.qC.length)
  ·skip
   replace h9:=xA h9
   refine qY 19 rfl rfl (oF rfl (qY 19 rfl rfl (oL rfl (H.cell 1 rfl rfl) (qY 19 rfl rfl (oF rfl (qY 19 rfl rfl (oL rfl (H.cell 0 rfl rfl) (qY 19 rfl rfl (sw (oq (validBag_ok _ p.qJ s.qF (H.get 4 rfl).1) H fun w10 H=>qY 19 rfl rfl (sps [.bool (!(dec (jI p.qJ s.qF))),.bool (!(dec (jI p.qJ s.qF)))] (zjn (cQ rfl (fun h12=>?_) (fun h12=>?_))))))))))))))
   ·skip
    refine zcr (sp (.bool false) (zjr (t_r (ret1 (.bool false) rfl rfl ⟨_,rfl,?_,H.base⟩))))
    rw [zf (fun h=>by obtain ⟨h0,h1,h2,h3,h4⟩:=h;first | contradiction | omega | (have:=h3 i qg;contradiction) | exact h4 k qg ⟨by first | assumption | simp_all,by omega⟩)]
   ·skip
    refine xf (t_n (zcc (oF rfl (oL rfl (H.cell 0 rfl rfl) (oN rfl (sp (.int .i64 0) (zjn (xm ?_))))))))
    have y1:jI p.qJ s.qF:=‹_›
    have y2:=y1.2
    have y3:=(‹zi p›:zi p).1.2.2.1
    refine zK (fun m' ρ w13=>∃ (zu:Env) (k:Nat),ρ=upd (upd (upd (upd (upd zu 2 (.pointer (some ⟨b1,0,none⟩))) 3 (.pointer (some ⟨b3,0,none⟩))) 28 (.slice qQ s.qF.length qP)) 29 (.int .i64 s.qF.length)) 30 (.int .i64 k)∧((k:Int)≤s.qF.length)∧(NoFreeTo p s.qF k)∧m' =(s.qF.length - (k:Int)).toNat∧Fresh w.heap.size []∧St w w13 [.box b3 [.slice asCells s.qG.length csCells,.slice qQ s.qF.length qP] 39,.box b1 [.int .i64 p.qJ,.slice qI p.qC.length qH,.slice apFree p.qL.length cpFree,.slice qR p.qB.length qM] 37] [sF false xe qI qH p.qC,sF false FpFree apFree cpFree p.qL,sF false xx qR qM p.qB,sF false FsCells asCells csCells s.qG,sF false xw qQ qP s.qF]) ((s.qF.length - (0:Int)).toNat) ⟨_,0,uE5,qg,qy,rfl,N,H⟩ ?_
    clear H N
    rintro m' ρ w14 ⟨zu,k,rfl,i0,i1,rfl,N,H⟩
    refine zcr (sp (.bool (decide ((k:Int) < s.qF.length))) (zjn (xP (cD rfl (fun h15=>?_) (fun h15=>?_)))))
    ·skip
     refine xf (t_n (xP (xm (zcr (sp (.int .i64 k) ?_)))))
     obtain ⟨b16,o17,rfl⟩:=H.addr 4 rfl qg
     refine oI rfl rfl (oL rfl (H.vY 4 rfl k qg qg) (sps [.int .i64 k,.int .i64 (s.qF[k]!)] (zjc (sps [.int .i64 (s.qF[k]!),.bool (decide ((s.qF[k]! :Int) > 0)),.bool (decide ((s.qF[k]! :Int) > 0))] ?_))))
     cases h19:(decide ((s.qF[k]! :Int) > 0))
     ·skip
      replace h19:=of_decide_eq_false h19
      refine zG [38,39,40,41,42] (sp (.bool false) (zjn (xC false rfl (fun h=>absurd h qj) (fun _=>xf (b_n (t_n (xJ (sw (xX k 1 rfl rfl qg (sp (.int .i64 (k+1)) (xN (xg (m' :=(s.qF.length - ((k+1):Int)).toNat) qg ⟨_,k+1,uE5,?_,?_,rfl,N,H⟩))))))))))))
      · omega
      · exact i1.succ (by first | (rintro ⟨h,_⟩;simp_all;done) | (rintro ⟨_,h⟩;omega))
     ·skip
      replace h19:=of_decide_eq_true h19
      refine qY 37 rfl rfl (oF rfl (qY 37 rfl rfl (oL rfl (H.cell 1 rfl rfl) (qY 37 rfl rfl (sp (.int .i64 k) (qY 37 rfl rfl ?_))))))
      obtain ⟨b20,o21,rfl⟩:=H.addr 1 rfl qg
      refine oI rfl rfl (qY 37 rfl rfl (oL rfl (H.Qn 1 rfl k qg qg) (sp (.bool (p.qL[k]!)) (zjn (xC (p.qL[k]!) rfl (fun h23=>?_) (fun h23=>?_))))))
      ·skip
       refine zcr (sp (.bool false) (zjr (zr5 (ret1 (.bool false) rfl rfl ⟨_,rfl,?_,H.base⟩))))
       rw [zf (fun h=>by obtain ⟨h0,h1,h2,h3,h4⟩:=h;first | contradiction | omega | (have:=h3 i qg;contradiction) | exact h4 k qg ⟨by first | assumption | simp_all,by omega⟩)]
      ·skip
       refine xf (b_n (t_n (xJ (sw (xX k 1 rfl rfl qg (sp (.int .i64 (k+1)) (xN (xg (m' :=(s.qF.length - ((k+1):Int)).toNat) qg ⟨_,k+1,uE5,?_,?_,rfl,N,H⟩))))))))
       · omega
       · exact i1.succ (by first | (rintro ⟨h,_⟩;simp_all;done) | (rintro ⟨_,h⟩;omega))
    ·skip
     refine zx4 (zcr (oF rfl (oL rfl (H.cell 0 rfl rfl) (sp (.func (.func 95) #[] #[.pointer (some ⟨b1,0,none⟩)]) (sw (jG #[.slice asCells s.qG.length csCells,.func (.func 95) #[] #[.pointer (some ⟨b1,0,none⟩)]] rfl rfl Tryz.call94 (en Tryz.func94 Tryz.ntmps94 ?_)))))))
     refine zcr (sp (.bool false) (zjc (sps [.slice asCells s.qG.length csCells,.func (.func 95) #[] #[.pointer (some ⟨b1,0,none⟩)]] (sw (jG #[.slice asCells s.qG.length csCells,.func (.func 95) #[] #[.pointer (some ⟨b1,0,none⟩)]] rfl rfl Tryz.call115 (en Tryz.func115 Tryz.ntmps115 ?_))))))
     refine zcr (sp (.int .i64 0) (zjcc (sp (.slice asCells s.qG.length csCells) (oN rfl (sp (.int .i64 0) (zjn (xm ?_)))))))
     refine zK (fun m' ρ w24=>∃ (zu:Env) (i:Nat),ρ=upd (upd (upd (upd zu 0 (.slice asCells s.qG.length csCells)) 1 (.func (.func 95) #[] #[.pointer (some ⟨b1,0,none⟩)])) 7 (.int .i64 s.qG.length)) 8 (.int .i64 i)∧((i:Int)≤s.qG.length)∧(PBagsTo p s i)∧m' =(s.qG.length - (i:Int)).toNat∧Fresh w.heap.size []∧St w w24 [.box b3 [.slice asCells s.qG.length csCells,.slice qQ s.qF.length qP] 39,.box b1 [.int .i64 p.qJ,.slice qI p.qC.length qH,.slice apFree p.qL.length cpFree,.slice qR p.qB.length qM] 37] [sF false xe qI qH p.qC,sF false FpFree apFree cpFree p.qL,sF false xx qR qM p.qB,sF false FsCells asCells csCells s.qG,sF false xw qQ qP s.qF]) ((s.qG.length - (0:Int)).toNat) ⟨_,0,uE4,qg,qy,rfl,N,H⟩ ?_
     clear H N
     rintro m' ρ w25 ⟨zu,i,rfl,i0,i2,rfl,N,H⟩
     refine zcr (sp (.bool (decide ((i:Int) < s.qG.length))) (zjn (xP (cD rfl (fun h26=>?_) (fun h26=>?_)))))
     ·skip
      refine xf (t_n (xP (xm (zcr (sps [.int .i64 i,.int .i64 i] (zjc (sps [.func (.func 95) #[] #[.pointer (some ⟨b1,0,none⟩)],.slice asCells s.qG.length csCells,.int .i64 i] ?_)))))))
      obtain ⟨b27,o28,rfl⟩:=H.addr 3 rfl qg
      obtain ⟨ae30,ce30,Fe30,H⟩:=H.Qm 3 rfl i i qg qg qg
      refine oI rfl rfl (oL rfl (H.xU 1 rfl 0 rfl) (sw (jG #[.slice ae30 ((s.qG[i]!).length) ce30,.pointer (some ⟨b1,0,none⟩)] rfl rfl Tryz.call95 (en Tryz.func95 Tryz.ntmps95 ?_))))
      refine zcr (sp (.bool false) (zjc (oF rfl (oL rfl (H.cell 1 rfl rfl) (sp (.slice ae30 ((s.qG[i]!).length) ce30) (sw (oq (validBag_ok _ p.qJ (s.qG[i]!) (H.get 0 rfl).1) H fun w31 H=>sps [.bool (!(dec (jI p.qJ (s.qG[i]!)))),.bool (!(dec (jI p.qJ (s.qG[i]!))))] (zjr (ret1 (.bool (!(dec (jI p.qJ (s.qG[i]!))))) rfl rfl ⟨_,rfl,(zjn (cQ rfl (fun h33=>?_) (fun h33=>?_)))⟩)))))))))
      ·skip
       refine zcr (sps [.int .i64 i,.int .i64 i] (zjr (zr5 (ret1 (.int .i64 i) rfl rfl ⟨_,rfl,(sw (o_pure (.bool true) (by show some (Value.bool (decide ((i:Int)≥0)))=some (Value.bool true);rw [decide_eq_true qg]) (sp (.bool true) (zjr (ret1 (.bool true) rfl rfl ⟨_,rfl,(sps [.bool false,.bool false] (zjr (ret1 (.bool false) rfl rfl ⟨_,rfl,?_,H.base⟩)))⟩)))))⟩))))
       rw [zf (fun h=>by obtain ⟨h0,h1,h2,h3,h4⟩:=h;first | contradiction | omega | (have:=h3 i qg;contradiction) | exact h4 k qg ⟨by first | assumption | simp_all,by omega⟩)]
      ·skip
       refine xf (b_n (t_n (xJ (sw (xX i 1 rfl rfl qg (sp (.int .i64 (i+1)) (xN (xg (m' :=(s.qG.length - ((i+1):Int)).toNat) qg ⟨_,i+1,uE4,?_,?_,rfl,N,H.pick [0,1] [2,3,4,5,6]⟩))))))))
       · omega
       · exact i2.succ qm
     ·skip
      refine zx4 (zcr (sp (.int .i64 (-1)) (zjr (ret1 (.int .i64 (-1)) rfl rfl ⟨_,rfl,(sps [.bool false,.bool false] (zjr (ret1 (.bool false) rfl rfl ⟨_,rfl,(sps [.bool true,.bool true] (zjr (ret1 (.bool true) rfl rfl ⟨_,rfl,?_,H.base⟩)))⟩)))⟩))))
      rw [yw ⟨by assumption,by omega,by assumption,(show s.qG.length=i by omega)▸i2,(show s.qF.length=k by omega)▸i1⟩]
  ·skip
   replace h9:=bne_iff_ne.1 h9
   refine zG [20,21,22,23,24,25] (sp (.bool true) (zjn (xC true rfl (fun _=>zcr (sp (.bool false) (zjr (t_r (ret1 (.bool false) rfl rfl ⟨_,rfl,?_,H.base⟩))))) (fun h=>absurd h qj))))
   rw [zf (fun h=>by obtain ⟨h0,h1,h2,h3,h4⟩:=h;first | contradiction | omega | (have:=h3 i qg;contradiction) | exact h4 k qg ⟨by first | assumption | simp_all,by omega⟩)]
 ·skip
  replace h8:=xB h8
  replace h8:=zy h8
  refine zG [11,12,13,14,15,16,17] (sps [.bool true,.bool true] (zG [20,21,22,23,24,25] (sp (.bool true) (zjn (xC true rfl (fun _=>zcr (sp (.bool false) (zjr (t_r (ret1 (.bool false) rfl rfl ⟨_,rfl,?_,H.base⟩))))) (fun h=>absurd h qj))))))
  rw [zf (fun h=>by obtain ⟨h0,h1,h2,h3,h4⟩:=h;first | contradiction | omega | (have:=h3 i qg;contradiction) | exact h4 k qg ⟨by first | assumption | simp_all,by omega⟩)]

theorem stockCode_ok (w:World) (p:qW) (s:qZ) {qI:yOA} {xe:yLN} {apFree:yOA} {FpFree:yLN} {qR:yOA} {xx:yLN} {asCells:yOA} {FsCells:yLN} {qQ:yOA} {xw:yLN} (qX:qV.rep w xe [.slice qI p.qC.length qH] p.qC) (hpFree:qV.rep w FpFree [.slice apFree p.qL.length cpFree] p.qL) (xn:qV.rep w xx [.slice qR p.qB.length qM] p.qB) (hsCells:qV.rep w FsCells [.slice asCells s.qG.length csCells] s.qG) (xu:qV.rep w xw [.slice qQ s.qF.length qP] s.qF):Calls Tryz.prog 65 #[.agg #[.int .i64 p.qJ,.slice qI p.qC.length qH,.slice apFree p.qL.length cpFree,.slice qR p.qB.length qM],.agg #[.slice asCells s.qG.length csCells,.slice qQ s.qF.length qP]] w (Ret (fun v w' =>v=.int .i64 (Qr p s)) w):=by
 refine en Tryz.func65 Tryz.ntmps65 ?_
 have H:=(((((St.start w).arg xu).arg hsCells).arg xn).arg hpFree).arg qX
 have zF:=qO qX
 have nhpFree:=qO hpFree
 have vC:=qO xn
 have nhsCells:=qO hsCells
 have vV:=qO xu
 clear qX hpFree xn hsCells xu
 have N:=Fresh.nil w.heap.size
 refine zcr (sw (jd H [.int .i64 p.qJ,.slice qI p.qC.length qH,.slice apFree p.qL.length cpFree,.slice qR p.qB.length qM] fun b1 w2 H=>sw (jd H [.slice asCells s.qG.length csCells,.slice qQ s.qF.length qP] fun b3 w4 H=>sp (.int .i64 0) (zjn (xP (xm (zcr (sw (xZ [.int .i64 p.qJ,.slice qI p.qC.length qH,.slice apFree p.qL.length cpFree,.slice qR p.qB.length qM] Tryz.isAgg37 Tryz.sizeOf37 rfl (qN (H.cells 1 rfl) 0 4) (sw (oq (validPassing_ok _ p (H.get 0 rfl).1 (H.get 1 rfl).1 (H.get 2 rfl).1) H fun w6 H=>?_)))))))))))
 refine sps [.bool (!(dec (zi p))),.bool (!(dec (zi p)))] (zjn (cQ rfl (fun h8=>?_) (fun h8=>?_)))
 ·skip
  refine zcr (sp (.int .i64 1) (zjr (b_r (t_r (ret1 (.int .i64 1) rfl rfl ⟨_,rfl,?_,H.base⟩)))))
  rw [pcode_1 ‹_›]
 ·skip
  refine zcr (sw (xZ [.int .i64 p.qJ,.slice qI p.qC.length qH,.slice apFree p.qL.length cpFree,.slice qR p.qB.length qM] Tryz.isAgg37 Tryz.sizeOf37 rfl (qN (H.cells 1 rfl) 0 4) (sw (xZ [.slice asCells s.qG.length csCells,.slice qQ s.qF.length qP] Tryz.isAgg39 Tryz.sizeOf39 rfl (qN (H.cells 0 rfl) 0 2) (sw (oq (validStock_ok _ p s (H.get 0 rfl).1 (H.get 1 rfl).1 (H.get 2 rfl).1 (H.get 3 rfl).1 (H.get 4 rfl).1) H fun w10 H=>sps [.bool (!(dec (zi p∧xG p s))),.bool (!(dec (zi p∧xG p s)))] (zjn (cQ rfl (fun h12=>?_) (fun h12=>?_)))))))))
  ·skip
   refine zcr (sp (.int .i64 2) (zjr (b_r (t_r (ret1 (.int .i64 2) rfl rfl ⟨_,rfl,?_,H.base⟩)))))
   rw [pcode_2 ‹_› (fun h=>‹¬ (zi p∧xG p s)› ⟨‹_›,h⟩)]
  ·skip
   refine xf (b_n (t_n (zcr (sp (.int .i64 0) (zjr (ret1 (.int .i64 0) rfl rfl ⟨_,rfl,?_,H.base⟩))))))
   rw [pcode_0 ‹_› (‹zi p∧xG p s›:zi p∧xG p s).2]

theorem isMode_ok (w:World) (m:Int):Calls Tryz.prog 66 #[.int .i64 m] w (Ret (fun v w' =>v=.bool (dec (ModeOk m))) w):=by
 refine en Tryz.func66 Tryz.ntmps66 ?_
 have H:=St.start w
 have N:=Fresh.nil w.heap.size
 refine zcr (sp (.bool false) (zjc (sp (.int .i64 m) (sw (oq (QJ w m 1 3) H fun w1 H=>sp (.bool (inR m 1 3)) (zjr (ret1 (.bool (inR m 1 3)) rfl rfl ⟨_,rfl,(congrArg Value.bool (dec_eq ?_)),H.base⟩)))))))
 rw [QB]
 rfl

theorem modeOf_ok (w:World) (p:qW) (s:qZ) (m:Int) {qI:yOA} {xe:yLN} {apFree:yOA} {FpFree:yLN} {qR:yOA} {xx:yLN} {asCells:yOA} {FsCells:yLN} {qQ:yOA} {xw:yLN} (qX:qV.rep w xe [.slice qI p.qC.length qH] p.qC) (hpFree:qV.rep w FpFree [.slice apFree p.qL.length cpFree] p.qL) (xn:qV.rep w xx [.slice qR p.qB.length qM] p.qB) (hsCells:qV.rep w FsCells [.slice asCells s.qG.length csCells] s.qG) (xu:qV.rep w xw [.slice qQ s.qF.length qP] s.qF):Calls Tryz.prog 39 #[.agg #[.int .i64 p.qJ,.slice qI p.qC.length qH,.slice apFree p.qL.length cpFree,.slice qR p.qB.length qM],.agg #[.slice asCells s.qG.length csCells,.slice qQ s.qF.length qP],.int .i64 m] w (Ret (fun v w' =>v=.int .i64 (jc p s m)) w):=by
 refine en Tryz.func39 Tryz.ntmps39 ?_
 have H:=(((((St.start w).arg xu).arg hsCells).arg xn).arg hpFree).arg qX
 have zF:=qO qX
 have nhpFree:=qO hpFree
 have vC:=qO xn
 have nhsCells:=qO hsCells
 have vV:=qO xu
 clear qX hpFree xn hsCells xu
 have N:=Fresh.nil w.heap.size
 refine zcr (sw (jd H [.int .i64 p.qJ,.slice qI p.qC.length qH,.slice apFree p.qL.length cpFree,.slice qR p.qB.length qM] fun b1 w2 H=>sw (jd H [.slice asCells s.qG.length csCells,.slice qQ s.qF.length qP] fun b3 w4 H=>sp (.int .i64 0) (zjc (sw (xZ [.int .i64 p.qJ,.slice qI p.qC.length qH,.slice apFree p.qL.length cpFree,.slice qR p.qB.length qM] Tryz.isAgg37 Tryz.sizeOf37 rfl (qN (H.cells 1 rfl) 0 4) ?_))))))
 refine sw (xZ [.slice asCells s.qG.length csCells,.slice qQ s.qF.length qP] Tryz.isAgg39 Tryz.sizeOf39 rfl (qN (H.cells 0 rfl) 0 2) (sw (oq (stockCode_ok _ p s (H.get 0 rfl).1 (H.get 1 rfl).1 (H.get 2 rfl).1 (H.get 3 rfl).1 (H.get 4 rfl).1) H fun w6 H=>sp (.int .i64 (Qr p s)) (zjcc (sps [.int .i64 (Qr p s),.bool ((Qr p s:Int) == 0),.bool ((Qr p s:Int) == 0)] ?_)))))
 cases h8:((Qr p s:Int) == 0)
 ·skip
  replace h8:=ne_of_beq_false h8
  refine zG [14,15,16] (sp (.bool false) (zjn (xC false rfl (fun h=>absurd h qj) (fun _=>xf (t_n (zcr (sps [.int .i64 (Qr p s),.int .i64 (Qr p s)] (zjr (ret1 (.int .i64 (Qr p s)) rfl rfl ⟨_,rfl,?_,H.base⟩)))))))))
  first | rw [mcode_no ‹_›] | rw [mcode_0 ‹_› ‹_›,‹Qr p s=0›]
 ·skip
  replace h8:=eq_of_beq h8
  refine qY 13 rfl rfl (sp (.int .i64 m) (qY 13 rfl rfl (sw (oq (isMode_ok w6 m) H fun w10 H=>qY 13 rfl rfl (sps [.bool (!(dec (ModeOk m))),.bool (!(dec (ModeOk m)))] (zjn (cQ rfl (fun h12=>?_) (fun h12=>?_))))))))
  ·skip
   refine xJ (sp (.int .i64 2) (zjc (sps [.int .i64 2,.int .i64 2] (zjr (ret1 (.int .i64 2) rfl rfl ⟨_,rfl,?_,H.base⟩)))))
   rw [mcode_2 ‹_› ‹_›]
  ·skip
   refine xf (t_n (zcr (sps [.int .i64 (Qr p s),.int .i64 (Qr p s)] (zjr (ret1 (.int .i64 (Qr p s)) rfl rfl ⟨_,rfl,?_,H.base⟩)))))
   first | rw [mcode_no ‹_›] | rw [mcode_0 ‹_› ‹_›,‹Qr p s=0›]
theorem l06At_ok (w:World) (p:qW) (c:Int) {qI:yOA} {xe:yLN} {apFree:yOA} {FpFree:yLN} {qR:yOA} {xx:yLN} (hp:zM w bp op [.int .i64 p.qJ,.slice qI p.qC.length qH,.slice apFree p.qL.length cpFree,.slice qR p.qB.length qM]) (qX:qV.rep w xe [.slice qI p.qC.length qH] p.qC) (hpFree:qV.rep w FpFree [.slice apFree p.qL.length cpFree] p.qL) (xn:qV.rep w xx [.slice qR p.qB.length qM] p.qB) (p0:PFrame p) (p1:0≤c∧c≤(p.qC.length:Int) - 1):Calls Tryz.prog 105 #[.pointer (some ⟨bp,op,none⟩),.int .i64 c] w (Ret (fun v w' =>v=.int .i64 (pAt p c)) w):=by
 refine en Tryz.func105 Tryz.ntmps105 ?_
 have H:=((((St.start w).arg xn).arg hpFree).arg qX).argAt hp
 have zF:=qO qX
 have nhpFree:=qO hpFree
 have vC:=qO xn
 clear hp qX hpFree xn
 have N:=Fresh.nil w.heap.size
 have p2:=pat_bd p0 p1
 have p3:=p0.1
 have p4:=p0.2.1
 refine zcr (sp (.int .i64 0) (zjcc (sps [.pointer (some ⟨bp,op,none⟩),.pointer (some ⟨bp,op,none⟩)] (oF rfl (oL rfl (H.xU 0 rfl 1 rfl) (sp (.int .i64 c) ?_))))))
 obtain ⟨b1,o2,rfl⟩:=H.addr 1 rfl qg
 refine oI rfl rfl (oL rfl (H.vY 1 rfl c qg qg) (sp (.bool (decide ((p.qC[c.toNat]! :Int) < 0))) (zjn (cD rfl (fun h4=>?_) (fun h4=>?_)))))
 ·skip
  refine xP ?_
  refine vK rfl H fun H=>rtp 0 (.pointer (some ⟨bp,op,none⟩)) H ?_
  refine rtp 1 (.pointer (some ⟨bp,op,none⟩)) H ?_
  refine tF 2 rfl rfl H ?_
  refine tL 3 rfl rfl (fun _ h=>h.xU 0 rfl 1 rfl) H ?_
  refine tN 4 rfl rfl H ?_
  refine rtp 5 (.pointer (some ⟨bp,op,none⟩)) H ?_
  refine rtp 6 (.pointer (some ⟨bp,op,none⟩)) H ?_
  refine tF 7 rfl rfl H ?_
  refine tL 8 rfl rfl (fun _ h=>h.xU 0 rfl 0 rfl) H ?_
  refine rt 9 (.int .i64 (p.qC.length * p.qJ)) (y_mul p.qC.length p.qJ rfl rfl (by (first | omega | (have:=mul_bd8 (a:=(p.qC.length:Int)) (b:=p.qJ) qg qg;omega) | (have:=mul_bd8 (a:=p.qC[c.toNat]!) (b:=p.qJ) qg qg;omega)))) H ?_
  refine rtp 10 (.int .i64 (p.qC.length * p.qJ)) H ?_
  refine xI qi (t_n (c_ret (t_r (ret1 (.int .i64 (p.qC.length * p.qJ)) rfl rfl ⟨_,rfl,?_,H.base⟩))))
  rw [pat_top p0 p1 qg]
 ·skip
  refine xf (t_n (xP ?_))
  refine vK rfl H fun H=>rtp 0 (.pointer (some ⟨bp,op,none⟩)) H ?_
  refine rtp 1 (.pointer (some ⟨bp,op,none⟩)) H ?_
  refine tF 2 rfl rfl H ?_
  refine tL 3 rfl rfl (fun _ h=>h.xU 0 rfl 1 rfl) H ?_
  refine rtp 4 (.int .i64 c) H ?_
  refine tI 5 rfl rfl rfl H ?_
  refine tL 6 rfl rfl (fun _ h=>h.vY 1 rfl c qg qg) H ?_
  refine rtp 7 (.pointer (some ⟨bp,op,none⟩)) H ?_
  refine rtp 8 (.pointer (some ⟨bp,op,none⟩)) H ?_
  refine tF 9 rfl rfl H ?_
  refine tL 10 rfl rfl (fun _ h=>h.xU 0 rfl 0 rfl) H ?_
  refine rt 11 (.int .i64 ((p.qC[c.toNat]!) * p.qJ)) (y_mul (p.qC[c.toNat]!) p.qJ rfl rfl (by (first | omega | (have:=mul_bd8 (a:=(p.qC.length:Int)) (b:=p.qJ) qg qg;omega) | (have:=mul_bd8 (a:=p.qC[c.toNat]!) (b:=p.qJ) qg qg;omega)))) H ?_
  refine rtp 12 (.int .i64 ((p.qC[c.toNat]!) * p.qJ)) H ?_
  refine xI qi (t_n (c_ret (ret1 (.int .i64 ((p.qC[c.toNat]!) * p.qJ)) rfl rfl ⟨_,rfl,?_,H.base⟩)))
  rw [pat_in p0 p1 qg]

theorem l06Flat_ok (w:World) (p:qW) (s:qZ) {qI:yOA} {xe:yLN} {apFree:yOA} {FpFree:yLN} {qR:yOA} {xx:yLN} {asCells:yOA} {FsCells:yLN} {qQ:yOA} {xw:yLN} (hp:zM w bp op [.int .i64 p.qJ,.slice qI p.qC.length qH,.slice apFree p.qL.length cpFree,.slice qR p.qB.length qM]) (qX:qV.rep w xe [.slice qI p.qC.length qH] p.qC) (hpFree:qV.rep w FpFree [.slice apFree p.qL.length cpFree] p.qL) (xn:qV.rep w xx [.slice qR p.qB.length qM] p.qB) (hs:zM w bs os [.slice asCells s.qG.length csCells,.slice qQ s.qF.length qP]) (hsCells:qV.rep w FsCells [.slice asCells s.qG.length csCells] s.qG) (xu:qV.rep w xw [.slice qQ s.qF.length qP] s.qF) (p0:PFrame p) (p1:xG p s):Calls Tryz.prog 84 #[.pointer (some ⟨bp,op,none⟩),.pointer (some ⟨bs,os,none⟩)] w (Ret (fun v w' =>∃ (ra:yOA) (rn:Nat) (rc:Nat),v=.slice ra rn rc∧Fresh w.heap.size []∧St w w' [rr ra rn rc 2 1 ((jT s).map (Value.int .i64))] []) w):=by
 refine en Tryz.func84 Tryz.ntmps84 ?_
 have H:=(((((((St.start w).arg xu).arg hsCells).argAt hs).arg xn).arg hpFree).arg qX).argAt hp
 have zF:=qO qX
 have nhpFree:=qO hpFree
 have vC:=qO xn
 have nhsCells:=qO hsCells
 have vV:=qO xu
 clear hp qX hpFree xn hs hsCells xu
 have N:=Fresh.nil w.heap.size
 have p2:=p1.1
 have p3:=p1.2.1
 have p4:=p0.2.1
 have p5:=p1.2.1.1.2
 refine zcr (sp (.slice none 0 0) (zjc (sw (jH H Tryz.underlying22 ti2 fun b1 w2 H=>sp (.slice (some ⟨b1,0,none⟩) 0 0) (zjcc (sp (.int .i64 0) (zjn (xm ?_))))))))
 replace H:=H.boxRowI 0 [] 0
 refine zK (fun m' ρ w3=>∃ (zu:Env) (zI:yOA) (zC:Nat) (zH:Nat) (out:yLI) (i:Nat),ρ=upd (upd (upd zu 1 (.pointer (some ⟨bs,os,none⟩))) 5 (.slice zI zC zH)) 6 (.int .i64 i)∧out=(s.qG.take i).flatten∧((i:Int)≤s.qG.length)∧m' =(s.qG.length - (i:Int)).toNat∧Fresh w.heap.size []∧St w w3 [rr zI zC zH 2 1 (out.map (Value.int .i64))] [atF bs os [.slice asCells s.qG.length csCells,.slice qQ s.qF.length qP],sF false FsCells asCells csCells s.qG,sF false xw qQ qP s.qF]) ((s.qG.length - (0:Int)).toNat) ⟨_,(some ⟨b1,0,none⟩),0,0,([]:yLI),0,uE3,(by rfl),qg,rfl,N,H.pick [0] [4,5,6]⟩ ?_
 clear H N
 rintro m' ρ w4 ⟨zu,zI,zC,zH,out,i,rfl,rfl,i0,rfl,N,H⟩
 have hn_out:=H.y9 0 rfl
 have q1:=flat_small p0 p1 (i:=i)
 have q2:=fun h=>(p1.2.2.1 i h).1.2
 refine zcc (sps [.int .i64 i,.pointer (some ⟨bs,os,none⟩),.pointer (some ⟨bs,os,none⟩)] (oF rfl (oL rfl (H.xU 0 rfl 0 rfl) (oN rfl (sp (.bool (decide ((i:Int) < s.qG.length))) (zjn (cD rfl (fun h5=>?_) (fun h5=>?_))))))))
 ·skip
  have q3:=q2 qg
  refine xf (t_n (xP (xm (xJ (sps [.slice zI zC zH,.pointer (some ⟨bs,os,none⟩),.pointer (some ⟨bs,os,none⟩)] (oF rfl (oL rfl (H.xU 0 rfl 0 rfl) (sp (.int .i64 i) ?_))))))))
  obtain ⟨b6,o7,rfl⟩:=H.addr 1 rfl qg
  obtain ⟨ae9,ce9,Fe9,H⟩:=H.Qm 1 rfl i i qg qg qg
  refine oI rfl rfl (oL rfl (H.xU 1 rfl 0 rfl) (sw (o_appendIR H 0 rfl 0 rfl Tryz.underlying22 ti2 rfl rfl rfl qw qg fun a10 c11 w12 H=>?_)))
  rw [catI] at H
  refine sp (.slice a10 (zC+((s.qG[i]!).length)) c11) (xN (b_n (t_n (xJ (sp (.int .i64 i) (sw (xX i 1 rfl rfl qg (sp (.int .i64 (i+1)) (xN (xg (m' :=(s.qG.length - ((i+1):Int)).toNat) qg ⟨_,a10,zC+((s.qG[i]!).length),c11,(((s.qG.take i).flatten)++(s.qG[i]!)),i+1,uE3,?_,?_,rfl,N,H.pick [0] [2,3,4]⟩))))))))))
  · exact flatten_snoc qg
  · omega
 ·skip
  refine zx4 (zcr (sps [.slice zI zC zH,.pointer (some ⟨bs,os,none⟩),.pointer (some ⟨bs,os,none⟩)] (oF rfl (oL rfl (H.xU 0 rfl 1 rfl) (sw (o_appendIR H 0 rfl 2 rfl Tryz.underlying22 ti2 rfl rfl rfl qw qg fun a13 c14 w15 H=>?_))))))
  rw [catI] at H
  refine sp (.slice a13 (zC+s.qF.length) c14) (zjr (ret1 (.slice a13 (zC+s.qF.length) c14) rfl rfl ⟨_,rfl,?_,H.base⟩))
  obtain rfl:i=s.qG.length:=by omega
  rw [List.take_length] at H
  exact ⟨a13,zC+s.qF.length,c14,rfl,N,H.pick [0] []⟩

theorem l06Left_ok (w:World) (p:qW) (s:qZ) (counts:yLI) {qI:yOA} {xe:yLN} {apFree:yOA} {FpFree:yLN} {qR:yOA} {xx:yLN} {asCells:yOA} {FsCells:yLN} {qQ:yOA} {xw:yLN} {acounts:yOA} {Fcounts:yLN} (hp:zM w bp op [.int .i64 p.qJ,.slice qI p.qC.length qH,.slice apFree p.qL.length cpFree,.slice qR p.qB.length qM]) (qX:qV.rep w xe [.slice qI p.qC.length qH] p.qC) (hpFree:qV.rep w FpFree [.slice apFree p.qL.length cpFree] p.qL) (xn:qV.rep w xx [.slice qR p.qB.length qM] p.qB) (hs:zM w bs os [.slice asCells s.qG.length csCells,.slice qQ s.qF.length qP]) (hsCells:qV.rep w FsCells [.slice asCells s.qG.length csCells] s.qG) (xu:qV.rep w xw [.slice qQ s.qF.length qP] s.qF) (hcounts:qV.rep w Fcounts [.slice acounts counts.length ccounts] counts) (p0:zi p) (p1:xG p s) (p2:Cnts p counts) (p3:Fits p s counts):Calls Tryz.prog 85 #[.pointer (some ⟨bp,op,none⟩),.pointer (some ⟨bs,os,none⟩),.slice acounts counts.length ccounts] w (Ret (fun v w' =>∃ (ra0:yOA) (rn0:Nat) (rc0:Nat),v=.tuple #[.slice ra0 rn0 rc0,.bool true]∧Fresh w.heap.size []∧St w w' [rr ra0 rn0 rc0 2 1 ((xF p s counts counts.length).map (Value.int .i64))] []) w):=by
 refine en Tryz.func85 Tryz.ntmps85 ?_
 have H:=((((((((St.start w).arg hcounts).arg xu).arg hsCells).argAt hs).arg xn).arg hpFree).arg qX).argAt hp
 have zF:=qO qX
 have nhpFree:=qO hpFree
 have vC:=qO xn
 have nhsCells:=qO hsCells
 have vV:=qO xu
 have nhcounts:=qO hcounts
 clear hp qX hpFree xn hs hsCells xu hcounts
 have N:=Fresh.nil w.heap.size
 have p4:=p2.1
 have p5:=p0.1.2.2.2.1
 refine zcr (sps [.slice none 0 0,.bool false] (zjc (sps [.pointer (some ⟨bp,op,none⟩),.pointer (some ⟨bs,os,none⟩)] ?_)))
 have sz4:=H.base.size
 refine sw (oc (l06Flat_ok _ p s (qN (H.get 0 rfl) 0 4) (H.get 1 rfl).1 (H.get 2 rfl).1 (H.get 3 rfl).1 (qN (H.get 4 rfl) 0 2) (H.get 5 rfl).1 (H.get 6 rfl).1 (by exact p0.1) qm) ?_)
 rintro _ w2 ⟨ra1,rn1,rc1,rfl,M,K⟩ _
 replace H:=H.merge K M
 obtain rfl:=H.y9 0 rfl
 refine sp (.slice ra1 ((jT s).length) rc1) (zjc (sp (.bool true) (zjcc (sp (.int .i64 0) (zjn (xm ?_))))))
 refine zK (fun m' ρ w7=>∃ (zu:Env) (ok:Bool) (k:Nat) (flat:yLI),ρ=upd (upd (upd (upd (upd zu 0 (.pointer (some ⟨bp,op,none⟩))) 2 (.slice acounts counts.length ccounts)) 8 (.slice ra1 ((jT s).length) rc1)) 9 (.bool ok)) 10 (.int .i64 k)∧ok=true∧flat=(xF p s counts k)∧((k:Int)≤counts.length)∧m' =(counts.length - (k:Int)).toNat∧Fresh w.heap.size []∧St w w7 [rr ra1 ((jT s).length) rc1 2 1 (flat.map (Value.int .i64))] [atF bp op [.int .i64 p.qJ,.slice qI p.qC.length qH,.slice apFree p.qL.length cpFree,.slice qR p.qB.length qM],sF false xe qI qH p.qC,sF false FpFree apFree cpFree p.qL,sF false xx qR qM p.qB,sF false Fcounts acounts ccounts counts]) ((counts.length - (0:Int)).toNat) ⟨_,true,0,jT s,uE5,(by rfl),(by rfl),qg,rfl,N,H.pick [0] [0,1,2,3,7]⟩ ?_
 clear H N
 rintro m' ρ w8 ⟨zu,ok,k,flat,rfl,rfl,rfl,i0,rfl,N,H⟩
 have hn_flat:=H.y9 0 rfl
 refine zcc (sps [.int .i64 k,.slice acounts counts.length ccounts] (oN rfl (sps [.bool (decide ((k:Int) < counts.length)),.bool (decide ((k:Int) < counts.length))] ?_)))
 cases h9:(decide ((k:Int) < counts.length))
 ·skip
  replace h9:=of_decide_eq_false h9
  refine zG [19] (sp (.bool false) (zjn (xC false rfl (fun h=>absurd h qj) (fun _=>zx4 (zcr (sps [.slice ra1 ((jT s).length) rc1,.bool true,.slice ra1 ((jT s).length) rc1,.bool true] (zjr (ret2 (.slice ra1 ((jT s).length) rc1) (.bool true) rfl rfl rfl ⟨_,rfl,?_,H.base⟩))))))))
  first | (exact absurd (by assumption:true=false) qj) | (obtain rfl:k=counts.length:=qg;exact ⟨ra1,(jT s).length,rc1,rfl,N,H.pick [0] []⟩)
 ·skip
  replace h9:=of_decide_eq_true h9
  refine qY 18 rfl rfl (sps [.bool true,.bool true] (zjn (xC (true) rfl (fun h10=>?_) (fun h10=>?_))))
  ·skip
   refine xf (t_n (xP (xm ?_)))
   refine jO rfl H [] fun H=>?_
   have S:=H.zq [] [0,1,2,3,4]
   refine rtp 0 (.pointer (some ⟨bp,op,none⟩)) S ?_
   refine rtp 1 (.slice ra1 ((jT s).length) rc1) S ?_
   refine rtp 2 (.pointer (some ⟨bp,op,none⟩)) S ?_
   refine rtp 3 (.pointer (some ⟨bp,op,none⟩)) S ?_
   refine tF 4 rfl rfl S ?_
   refine tL 5 rfl rfl (fun _ h=>h.xU 0 rfl 3 rfl) S ?_
   refine rtp 6 (.int .i64 k) S ?_
   obtain ⟨b12,o13,rfl⟩:=H.addr 3 rfl qg
   obtain ⟨ae15Out,ce15Out,Fe15Out,ae15In,ce15In,Fe15In,H⟩:=H.zW 3 rfl k k qg qg qg
   have S:=H.zq [] [3,4,5,6,7]
   refine tI 7 rfl rfl rfl S ?_
   refine rtp 8 (.slice acounts counts.length ccounts) S ?_
   refine rtp 9 (.int .i64 k) S ?_
   obtain ⟨b16,o17,rfl⟩:=H.addr 7 rfl qg
   have S:=H.zq [] [3,4,5,6,7]
   refine tI 10 rfl rfl rfl S ?_
   refine tL 11 rfl rfl (fun _ h=>h.vT 4 rfl k qg) S ?_
   refine ro 12 rfl ?_
   have cr:=p0.2 k qg
   have c1:=cr.1
   have c2:=p0.1.2.1
   have c3:=p0.1.1
   have mb:=mul_bd8 (a:=(p.qB[k]!).qE) (b:=p.qJ) qg qg
   have fl:(xF p s counts k).length=(p.qC.length+1) * pK p:=by rw [jB,yu p0.1 p1]
   have fb:∀ j,j < (xF p s counts k).length→0≤(xF p s counts k)[j]! ∧(xF p s counts k)[j]! ≤1000:=fun j hj=>p3.bd p0 p1 p2 qg (by rwa [jB] at hj)
   have tb:0≤counts[k]! ∧counts[k]! ≤1000:=⟨p2.2 k qg,p3.le p0 p1 p2 qg⟩
   refine jG #[.pointer (some ⟨bp,op,none⟩),.slice ra1 ((jT s).length) rc1,.pointer (some ⟨b12,o13+(k:Int).toNat * 3,none⟩),.int .i64 (counts[k]!)] rfl rfl Tryz.call104 (en Tryz.func104 Tryz.ntmps104 ?_)
   refine zcr (sp (.bool false) (zjn (xP ?_)))
   refine vK rfl H fun H=>rtp 0 (.pointer (some ⟨b12,o13+(k:Int).toNat * 3,none⟩)) H ?_
   refine rtp 1 (.pointer (some ⟨b12,o13+(k:Int).toNat * 3,none⟩)) H ?_
   refine tF 2 rfl rfl H ?_
   refine tL 3 rfl rfl (fun _ h=>h.xU 2 rfl 0 rfl) H ?_
   refine rtp 4 (.pointer (some ⟨bp,op,none⟩)) H ?_
   refine rtp 5 (.pointer (some ⟨bp,op,none⟩)) H ?_
   refine tF 6 rfl rfl H ?_
   refine tL 7 rfl rfl (fun _ h=>h.xU 3 rfl 0 rfl) H ?_
   refine rt 8 (.int .i64 (((p.qB[k]!).qE) * p.qJ)) (y_mul ((p.qB[k]!).qE) p.qJ rfl rfl qg) H ?_
   refine rtp 9 (.int .i64 (((p.qB[k]!).qE) * p.qJ)) H ?_
   refine xI qi (t_n (xP ?_))
   have rok:yQ p (p.qB[k]!):=p0.2 _ qg
   obtain ⟨own,hown⟩:∃ z:Nat,z=pOwn p (p.qB[k]!):=⟨_,rfl⟩
   rw [show ((p.qB[k]!).qE) * p.qJ=(own:Int) by rw [hown];exact pown_eq p0.1 rok.1.1]
   have tq:=TkGeo.of p0.1 rok hown fl
   have qk:=pK_eq p0.1
   have lo:=jF p0.1 rok.2.1
   have li:=jF p0.1 rok.2.2.1
   have lf:=p0.1.2.2.1
   refine xJ (sps [.pointer (some ⟨bp,op,none⟩),.pointer (some ⟨b12,o13+(k:Int).toNat * 3,none⟩),.pointer (some ⟨b12,o13+(k:Int).toNat * 3,none⟩)] (oF rfl (oL rfl (H.xU 2 rfl 0 rfl) (sw (oq (l06At_ok _ p ((p.qB[k]!).qE) (qN (H.get 3 rfl) 0 4) (H.get 4 rfl).1 (H.get 5 rfl).1 (H.get 6 rfl).1 (by exact p0.1) (by exact rok.1)) H fun w21 H=>sp (.int .i64 (pAt p ((p.qB[k]!).qE))) (zjc (sp (.bool true) (zjcc (sp (.int .i64 0) (zjn (xm ?_)))))))))))
   refine zK (fun m' ρ w23=>∃ (zu:Env) (ok_52:Bool) (k_52:Nat) (flat_52:yLI),ρ=upd (upd (upd (upd (upd (upd (upd (upd zu 0 (.pointer (some ⟨bp,op,none⟩))) 1 (.slice ra1 ((jT s).length) rc1)) 2 (.pointer (some ⟨b12,o13+(k:Int).toNat * 3,none⟩))) 3 (.int .i64 (counts[k]!))) 9 (.int .i64 own)) 10 (.int .i64 (pAt p ((p.qB[k]!).qE)))) 11 (.bool ok_52)) 12 (.int .i64 k_52)∧ok_52=dec (TkOk own (pAt p (p.qB[k]!).qE) (Opens p (p.qB[k]!).qE) (p.qB[k]!).qU (p.qB[k]!).fIn (counts[k]!) (xF p s counts k) k_52)∧flat_52=(xH own (pAt p (p.qB[k]!).qE) (Opens p (p.qB[k]!).qE) (p.qB[k]!).qU (p.qB[k]!).fIn (counts[k]!) (xF p s counts k) k_52)∧((k_52:Int)≤p.qJ)∧m' =(p.qJ - (k_52:Int)).toNat∧Fresh w.heap.size []∧St w w23 [rr ra1 ((jT s).length) rc1 2 1 (flat_52.map (Value.int .i64))] [sF false Fe15Out ae15Out ce15Out ((p.qB[k]!).qU),sF false Fe15In ae15In ce15In ((p.qB[k]!).fIn),atF b12 (o13+(k:Int).toNat * 3) [.int .i64 ((p.qB[k]!).qE),.slice ae15Out (((p.qB[k]!).qU).length) ce15Out,.slice ae15In (((p.qB[k]!).fIn).length) ce15In],atF bp op [.int .i64 p.qJ,.slice qI p.qC.length qH,.slice apFree p.qL.length cpFree,.slice (some ⟨b12,o13,none⟩) p.qB.length qM],sF false xe qI qH p.qC,sF false FpFree apFree cpFree p.qL,sF false xx (some ⟨b12,o13,none⟩) qM p.qB,sF false Fcounts (some ⟨b16,o17,none⟩) ccounts counts]) ((p.qJ - (0:Int)).toNat) ⟨_,true,0,(xF p s counts k),uE8,(by exact (yw (TkOk.zero _ _ _ _ _ _ _)).symm),(by rfl),qg,rfl,N,H⟩ ?_
   clear H N
   rintro m' ρ w24 ⟨zu,ok_52,k_52,flat_52,rfl,rfl,rfl,i0,rfl,N,H⟩
   have hn_flat:=H.y9 0 rfl
   refine zcc (sps [.int .i64 k_52,.pointer (some ⟨bp,op,none⟩),.pointer (some ⟨bp,op,none⟩)] (oF rfl (oL rfl (H.xU 3 rfl 0 rfl) (sp (.bool (decide ((k_52:Int) < p.qJ))) (zjn (cD rfl (fun h25=>?_) (fun h25=>?_)))))))
   ·skip
    have ta:TkAt p (p.qB[k]!) own (xF p s counts k) (xH own (pAt p (p.qB[k]!).qE) (Opens p (p.qB[k]!).qE) (p.qB[k]!).qU (p.qB[k]!).fIn (counts[k]!) (xF p s counts k) k_52) (counts[k]!) k_52:=TkAt.of p0.1 rok tq tb qg
    obtain ⟨r1,r2,r3⟩:=ta.read
    obtain ⟨y1,y2,y3,y4,y5,y6,y7,y8⟩:=ta
    have z1:=fb _ y5
    have z2:=fb _ y6
    have fs:=flat_le p0.1 fl
    refine xf (t_n (xP (xm (xP ?_))))
    refine jO rfl H [] fun H=>?_
    have S:=H.zq [] [0,1,2,3,4,5,6,7]
    refine rtp 0 (.slice ra1 ((jT s).length) rc1) S ?_
    refine rtp 1 (.int .i64 own) S ?_
    refine rtp 2 (.int .i64 k_52) S ?_
    refine rt 3 (.int .i64 (own+k_52)) (y_add own k_52 rfl rfl qg) S ?_
    obtain ⟨b27,rfl⟩:=H.yg 0 rfl qg
    have S:=H.zq [] [0,1,2,3,4,5,6,7]
    refine tI 4 rfl rfl rfl S ?_
    refine rtp 6 (.pointer (some ⟨b12,o13+(k:Int).toNat * 3,none⟩)) S ?_
    refine rtp 7 (.pointer (some ⟨b12,o13+(k:Int).toNat * 3,none⟩)) S ?_
    refine tF 8 rfl rfl S ?_
    refine tL 9 rfl rfl (fun _ h=>h.xU 2 rfl 1 rfl) S ?_
    refine rtp 10 (.int .i64 k_52) S ?_
    obtain ⟨b28,o29,rfl⟩:=H.addr 0 rfl qg
    have S:=H.zq [] [0,1,2,3,4,5,6,7]
    refine tI 11 rfl rfl rfl S ?_
    refine tL 12 rfl rfl (fun _ h=>h.vT 0 rfl k_52 qg) S ?_
    refine rtp 13 (.int .i64 (counts[k]!)) S ?_
    refine rt 14 (.int .i64 ((((p.qB[k]!).qU)[k_52]!) * (counts[k]!))) (y_mul (((p.qB[k]!).qU)[k_52]!) (counts[k]!) rfl rfl qg) S ?_
    refine ro 5 rfl (xY (.int .i64 ((xH own (pAt p (p.qB[k]!).qE) (Opens p (p.qB[k]!).qE) (p.qB[k]!).qU (p.qB[k]!).fIn (counts[k]!) (xF p s counts k) k_52)[own+k_52]!)) Tryz.isAgg2 rfl (H.yE 0 rfl (iv:=own+k_52) (i:=(own+k_52)) qg qg) (⟨H.pick [] [0,1,2,3,4,5,6,7],?_⟩))
    have S:=H.zq [] [0,1,2,3,4,5,6,7]
    refine rt 15 (.int .i64 (((xH own (pAt p (p.qB[k]!).qE) (Opens p (p.qB[k]!).qE) (p.qB[k]!).qU (p.qB[k]!).fIn (counts[k]!) (xF p s counts k) k_52)[own+k_52]!) - ((((p.qB[k]!).qU)[k_52]!) * (counts[k]!)))) (y_sub ((xH own (pAt p (p.qB[k]!).qE) (Opens p (p.qB[k]!).qE) (p.qB[k]!).qU (p.qB[k]!).fIn (counts[k]!) (xF p s counts k) k_52)[own+k_52]!) ((((p.qB[k]!).qU)[k_52]!) * (counts[k]!)) rfl rfl qg) S ?_
    refine tI 16 rfl rfl rfl S ?_
    refine ro 17 rfl (vg H 0 rfl (((xH own (pAt p (p.qB[k]!).qE) (Opens p (p.qB[k]!).qE) (p.qB[k]!).qU (p.qB[k]!).fIn (counts[k]!) (xF p s counts k) k_52)[own+k_52]!) - ((((p.qB[k]!).qU)[k_52]!) * (counts[k]!))) Tryz.sizeOf2 rfl rfl (i:=(own+k_52)) qg qg fun w31 H=>⟨H.pick [] [0,1,2,3,4,5,6,7],(xI qi (t_n (zcr ?_)))⟩)
    refine sps [.bool (dec (TkOk own (pAt p (p.qB[k]!).qE) (Opens p (p.qB[k]!).qE) (p.qB[k]!).qU (p.qB[k]!).fIn (counts[k]!) (xF p s counts k) k_52)),.bool (dec (TkOk own (pAt p (p.qB[k]!).qE) (Opens p (p.qB[k]!).qE) (p.qB[k]!).qU (p.qB[k]!).fIn (counts[k]!) (xF p s counts k) k_52))] ?_
    cases h32:((dec (TkOk own (pAt p (p.qB[k]!).qE) (Opens p (p.qB[k]!).qE) (p.qB[k]!).qU (p.qB[k]!).fIn (counts[k]!) (xF p s counts k) k_52)))
    ·skip
     refine zG [55,56,57,58,59,60,61] (sps [.bool false,.bool false] (zjc (sps [.pointer (some ⟨b12,o13+(k:Int).toNat * 3,none⟩),.pointer (some ⟨b12,o13+(k:Int).toNat * 3,none⟩)] (oF rfl (oL rfl (H.xU 2 rfl 0 rfl) (sps [.bool (decide (((p.qB[k]!).qE:Int) > 0)),.bool (decide (((p.qB[k]!).qE:Int) > 0))] ?_))))))
     cases h33:(decide (((p.qB[k]!).qE:Int) > 0))
     ·skip
      replace h33:=of_decide_eq_false h33
      refine qY 68 rfl rfl (sp (.pointer (some ⟨bp,op,none⟩)) (qY 68 rfl rfl (sp (.pointer (some ⟨bp,op,none⟩)) (qY 68 rfl rfl (oF rfl (qY 68 rfl rfl (oL rfl (H.xU 3 rfl 2 rfl) (qY 68 rfl rfl (sp (.int .i64 k_52) (qY 68 rfl rfl ?_))))))))))
      obtain ⟨b34,o35,rfl⟩:=H.addr 5 rfl qg
      refine oI rfl rfl (qY 68 rfl rfl (oL rfl (H.Qn 5 rfl k_52 qg qg) (qY 68 rfl rfl (sps [.bool (!(p.qL[k_52]!)),.bool (!(p.qL[k_52]!))] (zjn (xC (!(p.qL[k_52]!)) rfl (fun h37=>?_) (fun h37=>?_)))))))
      ·skip
       replace h37:=xB h37
       refine xP ?_
       refine jO rfl H [] fun H=>?_
       have S:=H.zq [] [0,1,2,3,4,5,6,7]
       refine rtp 0 (.slice (some ⟨b27,0,none⟩) ((jT s).length) rc1) S ?_
       refine rtp 1 (.int .i64 (pAt p ((p.qB[k]!).qE))) S ?_
       refine rtp 2 (.int .i64 k_52) S ?_
       refine rt 3 (.int .i64 ((pAt p ((p.qB[k]!).qE))+k_52)) (y_add (pAt p ((p.qB[k]!).qE)) k_52 rfl rfl qg) S ?_
       refine tI 4 rfl rfl rfl S ?_
       refine rtp 6 (.pointer (some ⟨b12,o13+(k:Int).toNat * 3,none⟩)) S ?_
       refine rtp 7 (.pointer (some ⟨b12,o13+(k:Int).toNat * 3,none⟩)) S ?_
       refine tF 8 rfl rfl S ?_
       refine tL 9 rfl rfl (fun _ h=>h.xU 2 rfl 2 rfl) S ?_
       refine rtp 10 (.int .i64 k_52) S ?_
       obtain ⟨b39,o40,rfl⟩:=H.addr 1 rfl qg
       have S:=H.zq [] [0,1,2,3,4,5,6,7]
       refine tI 11 rfl rfl rfl S ?_
       refine tL 12 rfl rfl (fun _ h=>h.vT 1 rfl k_52 qg) S ?_
       refine rtp 13 (.int .i64 (counts[k]!)) S ?_
       refine rt 14 (.int .i64 ((((p.qB[k]!).fIn)[k_52]!) * (counts[k]!))) (y_mul (((p.qB[k]!).fIn)[k_52]!) (counts[k]!) rfl rfl qg) S ?_
       refine ro 5 rfl (xY (.int .i64 (((xH own (pAt p (p.qB[k]!).qE) (Opens p (p.qB[k]!).qE) (p.qB[k]!).qU (p.qB[k]!).fIn (counts[k]!) (xF p s counts k) k_52).set (own+k_52) (((xH own (pAt p (p.qB[k]!).qE) (Opens p (p.qB[k]!).qE) (p.qB[k]!).qU (p.qB[k]!).fIn (counts[k]!) (xF p s counts k) k_52)[own+k_52]!) - ((((p.qB[k]!).qU)[k_52]!) * (counts[k]!))))[(pAt p ((p.qB[k]!).qE))+k_52]!)) Tryz.isAgg2 rfl (H.yE 0 rfl (iv:=(pAt p ((p.qB[k]!).qE))+k_52) (i:=((pAt p ((p.qB[k]!).qE))+k_52)) qg qg) (⟨H.pick [] [0,1,2,3,4,5,6,7],?_⟩))
       have S:=H.zq [] [0,1,2,3,4,5,6,7]
       refine rt 15 (.int .i64 ((((xH own (pAt p (p.qB[k]!).qE) (Opens p (p.qB[k]!).qE) (p.qB[k]!).qU (p.qB[k]!).fIn (counts[k]!) (xF p s counts k) k_52).set (own+k_52) (((xH own (pAt p (p.qB[k]!).qE) (Opens p (p.qB[k]!).qE) (p.qB[k]!).qU (p.qB[k]!).fIn (counts[k]!) (xF p s counts k) k_52)[own+k_52]!) - ((((p.qB[k]!).qU)[k_52]!) * (counts[k]!))))[(pAt p ((p.qB[k]!).qE))+k_52]!) - ((((p.qB[k]!).fIn)[k_52]!) * (counts[k]!)))) (y_sub (((xH own (pAt p (p.qB[k]!).qE) (Opens p (p.qB[k]!).qE) (p.qB[k]!).qU (p.qB[k]!).fIn (counts[k]!) (xF p s counts k) k_52).set (own+k_52) (((xH own (pAt p (p.qB[k]!).qE) (Opens p (p.qB[k]!).qE) (p.qB[k]!).qU (p.qB[k]!).fIn (counts[k]!) (xF p s counts k) k_52)[own+k_52]!) - ((((p.qB[k]!).qU)[k_52]!) * (counts[k]!))))[(pAt p ((p.qB[k]!).qE))+k_52]!) ((((p.qB[k]!).fIn)[k_52]!) * (counts[k]!)) rfl rfl qg) S ?_
       refine tI 16 rfl rfl rfl S ?_
       refine ro 17 rfl (vg H 0 rfl ((((xH own (pAt p (p.qB[k]!).qE) (Opens p (p.qB[k]!).qE) (p.qB[k]!).qU (p.qB[k]!).fIn (counts[k]!) (xF p s counts k) k_52).set (own+k_52) (((xH own (pAt p (p.qB[k]!).qE) (Opens p (p.qB[k]!).qE) (p.qB[k]!).qU (p.qB[k]!).fIn (counts[k]!) (xF p s counts k) k_52)[own+k_52]!) - ((((p.qB[k]!).qU)[k_52]!) * (counts[k]!))))[(pAt p ((p.qB[k]!).qE))+k_52]!) - ((((p.qB[k]!).fIn)[k_52]!) * (counts[k]!))) Tryz.sizeOf2 rfl rfl (i:=((pAt p ((p.qB[k]!).qE))+k_52)) qg qg fun w42 H=>⟨H.pick [] [0,1,2,3,4,5,6,7],(xI qi (t_n ?_))⟩)
       refine xJ (sps [.bool false,.bool false] (zG [97,98,99,100,101,102,103] (sps [.bool false,.bool false] (xN (b_n (t_n (xJ (sp (.int .i64 k_52) (sw (xX k_52 1 rfl rfl qg (sp (.int .i64 (k_52+1)) (xN ?_))))))))))))
       refine xg (m' :=(p.qJ - ((k_52+1):Int)).toNat) qg ⟨_,false,k_52+1,(((xH own (pAt p (p.qB[k]!).qE) (Opens p (p.qB[k]!).qE) (p.qB[k]!).qU (p.qB[k]!).fIn (counts[k]!) (xF p s counts k) k_52).set (own+k_52) (((xH own (pAt p (p.qB[k]!).qE) (Opens p (p.qB[k]!).qE) (p.qB[k]!).qU (p.qB[k]!).fIn (counts[k]!) (xF p s counts k) k_52)[own+k_52]!) - ((((p.qB[k]!).qU)[k_52]!) * (counts[k]!)))).set ((pAt p ((p.qB[k]!).qE))+k_52) ((((xH own (pAt p (p.qB[k]!).qE) (Opens p (p.qB[k]!).qE) (p.qB[k]!).qU (p.qB[k]!).fIn (counts[k]!) (xF p s counts k) k_52).set (own+k_52) (((xH own (pAt p (p.qB[k]!).qE) (Opens p (p.qB[k]!).qE) (p.qB[k]!).qU (p.qB[k]!).fIn (counts[k]!) (xF p s counts k) k_52)[own+k_52]!) - ((((p.qB[k]!).qU)[k_52]!) * (counts[k]!))))[(pAt p ((p.qB[k]!).qE))+k_52]!) - ((((p.qB[k]!).fIn)[k_52]!) * (counts[k]!)))),uE8,?_,?_,?_,rfl,N,H⟩
       · first | exact jZ (zy qm) | exact Ql qg | exact yc (zZ qm) qg (by first | exact .inl qg | exact .inr ‹p.qL[k_52]! =false› | exact .inr (by simp_all)) qg | exact jY (zZ qm) (by first | assumption | (rintro (h | h);omega;exact absurd ‹p.qL[k_52]! =true› (by rw [h];decide)) | (rintro (h | h);omega;simp_all)) qg
       · first | exact jW (by first | exact .inl qg | exact .inr ‹p.qL[k_52]! =false› | exact .inr (by simp_all)) | exact vG (by first | assumption | (rintro (h | h);omega;exact absurd ‹p.qL[k_52]! =true› (by rw [h];decide)) | (rintro (h | h);omega;simp_all))
       · omega
      ·skip
       replace h37:=xq h37
       refine xf (b_n (t_n (xJ (sp (.int .i64 k_52) (sw (xX k_52 1 rfl rfl qg (sp (.int .i64 (k_52+1)) (xN (xg (m' :=(p.qJ - ((k_52+1):Int)).toNat) qg ⟨_,false,k_52+1,((xH own (pAt p (p.qB[k]!).qE) (Opens p (p.qB[k]!).qE) (p.qB[k]!).qU (p.qB[k]!).fIn (counts[k]!) (xF p s counts k) k_52).set (own+k_52) (((xH own (pAt p (p.qB[k]!).qE) (Opens p (p.qB[k]!).qE) (p.qB[k]!).qU (p.qB[k]!).fIn (counts[k]!) (xF p s counts k) k_52)[own+k_52]!) - ((((p.qB[k]!).qU)[k_52]!) * (counts[k]!)))),uE8,?_,?_,?_,rfl,N,H⟩)))))))))
       · first | exact jZ (zy qm) | exact Ql qg | exact yc (zZ qm) qg (by first | exact .inl qg | exact .inr ‹p.qL[k_52]! =false› | exact .inr (by simp_all)) qg | exact jY (zZ qm) (by first | assumption | (rintro (h | h);omega;exact absurd ‹p.qL[k_52]! =true› (by rw [h];decide)) | (rintro (h | h);omega;simp_all)) qg
       · first | exact jW (by first | exact .inl qg | exact .inr ‹p.qL[k_52]! =false› | exact .inr (by simp_all)) | exact vG (by first | assumption | (rintro (h | h);omega;exact absurd ‹p.qL[k_52]! =true› (by rw [h];decide)) | (rintro (h | h);omega;simp_all))
       · omega
     ·skip
      replace h33:=of_decide_eq_true h33
      refine zG [69,70,71,72,73,74,75,76] (sp (.bool true) (zjn (xC true rfl (fun _=>xP ?_) (fun h=>absurd h qj))))
      refine jO rfl H [] fun H=>?_
      have S:=H.zq [] [0,1,2,3,4,5,6,7]
      refine rtp 0 (.slice (some ⟨b27,0,none⟩) ((jT s).length) rc1) S ?_
      refine rtp 1 (.int .i64 (pAt p ((p.qB[k]!).qE))) S ?_
      refine rtp 2 (.int .i64 k_52) S ?_
      refine rt 3 (.int .i64 ((pAt p ((p.qB[k]!).qE))+k_52)) (y_add (pAt p ((p.qB[k]!).qE)) k_52 rfl rfl qg) S ?_
      refine tI 4 rfl rfl rfl S ?_
      refine rtp 6 (.pointer (some ⟨b12,o13+(k:Int).toNat * 3,none⟩)) S ?_
      refine rtp 7 (.pointer (some ⟨b12,o13+(k:Int).toNat * 3,none⟩)) S ?_
      refine tF 8 rfl rfl S ?_
      refine tL 9 rfl rfl (fun _ h=>h.xU 2 rfl 2 rfl) S ?_
      refine rtp 10 (.int .i64 k_52) S ?_
      obtain ⟨b44,o45,rfl⟩:=H.addr 1 rfl qg
      have S:=H.zq [] [0,1,2,3,4,5,6,7]
      refine tI 11 rfl rfl rfl S ?_
      refine tL 12 rfl rfl (fun _ h=>h.vT 1 rfl k_52 qg) S ?_
      refine rtp 13 (.int .i64 (counts[k]!)) S ?_
      refine rt 14 (.int .i64 ((((p.qB[k]!).fIn)[k_52]!) * (counts[k]!))) (y_mul (((p.qB[k]!).fIn)[k_52]!) (counts[k]!) rfl rfl qg) S ?_
      refine ro 5 rfl (xY (.int .i64 (((xH own (pAt p (p.qB[k]!).qE) (Opens p (p.qB[k]!).qE) (p.qB[k]!).qU (p.qB[k]!).fIn (counts[k]!) (xF p s counts k) k_52).set (own+k_52) (((xH own (pAt p (p.qB[k]!).qE) (Opens p (p.qB[k]!).qE) (p.qB[k]!).qU (p.qB[k]!).fIn (counts[k]!) (xF p s counts k) k_52)[own+k_52]!) - ((((p.qB[k]!).qU)[k_52]!) * (counts[k]!))))[(pAt p ((p.qB[k]!).qE))+k_52]!)) Tryz.isAgg2 rfl (H.yE 0 rfl (iv:=(pAt p ((p.qB[k]!).qE))+k_52) (i:=((pAt p ((p.qB[k]!).qE))+k_52)) qg qg) (⟨H.pick [] [0,1,2,3,4,5,6,7],?_⟩))
      have S:=H.zq [] [0,1,2,3,4,5,6,7]
      refine rt 15 (.int .i64 ((((xH own (pAt p (p.qB[k]!).qE) (Opens p (p.qB[k]!).qE) (p.qB[k]!).qU (p.qB[k]!).fIn (counts[k]!) (xF p s counts k) k_52).set (own+k_52) (((xH own (pAt p (p.qB[k]!).qE) (Opens p (p.qB[k]!).qE) (p.qB[k]!).qU (p.qB[k]!).fIn (counts[k]!) (xF p s counts k) k_52)[own+k_52]!) - ((((p.qB[k]!).qU)[k_52]!) * (counts[k]!))))[(pAt p ((p.qB[k]!).qE))+k_52]!) - ((((p.qB[k]!).fIn)[k_52]!) * (counts[k]!)))) (y_sub (((xH own (pAt p (p.qB[k]!).qE) (Opens p (p.qB[k]!).qE) (p.qB[k]!).qU (p.qB[k]!).fIn (counts[k]!) (xF p s counts k) k_52).set (own+k_52) (((xH own (pAt p (p.qB[k]!).qE) (Opens p (p.qB[k]!).qE) (p.qB[k]!).qU (p.qB[k]!).fIn (counts[k]!) (xF p s counts k) k_52)[own+k_52]!) - ((((p.qB[k]!).qU)[k_52]!) * (counts[k]!))))[(pAt p ((p.qB[k]!).qE))+k_52]!) ((((p.qB[k]!).fIn)[k_52]!) * (counts[k]!)) rfl rfl qg) S ?_
      refine tI 16 rfl rfl rfl S ?_
      refine ro 17 rfl (vg H 0 rfl ((((xH own (pAt p (p.qB[k]!).qE) (Opens p (p.qB[k]!).qE) (p.qB[k]!).qU (p.qB[k]!).fIn (counts[k]!) (xF p s counts k) k_52).set (own+k_52) (((xH own (pAt p (p.qB[k]!).qE) (Opens p (p.qB[k]!).qE) (p.qB[k]!).qU (p.qB[k]!).fIn (counts[k]!) (xF p s counts k) k_52)[own+k_52]!) - ((((p.qB[k]!).qU)[k_52]!) * (counts[k]!))))[(pAt p ((p.qB[k]!).qE))+k_52]!) - ((((p.qB[k]!).fIn)[k_52]!) * (counts[k]!))) Tryz.sizeOf2 rfl rfl (i:=((pAt p ((p.qB[k]!).qE))+k_52)) qg qg fun w47 H=>⟨H.pick [] [0,1,2,3,4,5,6,7],(xI qi (t_n ?_))⟩)
      refine xJ (sps [.bool false,.bool false] (zG [97,98,99,100,101,102,103] (sps [.bool false,.bool false] (xN (b_n (t_n (xJ (sp (.int .i64 k_52) (sw (xX k_52 1 rfl rfl qg (sp (.int .i64 (k_52+1)) (xN ?_))))))))))))
      refine xg (m' :=(p.qJ - ((k_52+1):Int)).toNat) qg ⟨_,false,k_52+1,(((xH own (pAt p (p.qB[k]!).qE) (Opens p (p.qB[k]!).qE) (p.qB[k]!).qU (p.qB[k]!).fIn (counts[k]!) (xF p s counts k) k_52).set (own+k_52) (((xH own (pAt p (p.qB[k]!).qE) (Opens p (p.qB[k]!).qE) (p.qB[k]!).qU (p.qB[k]!).fIn (counts[k]!) (xF p s counts k) k_52)[own+k_52]!) - ((((p.qB[k]!).qU)[k_52]!) * (counts[k]!)))).set ((pAt p ((p.qB[k]!).qE))+k_52) ((((xH own (pAt p (p.qB[k]!).qE) (Opens p (p.qB[k]!).qE) (p.qB[k]!).qU (p.qB[k]!).fIn (counts[k]!) (xF p s counts k) k_52).set (own+k_52) (((xH own (pAt p (p.qB[k]!).qE) (Opens p (p.qB[k]!).qE) (p.qB[k]!).qU (p.qB[k]!).fIn (counts[k]!) (xF p s counts k) k_52)[own+k_52]!) - ((((p.qB[k]!).qU)[k_52]!) * (counts[k]!))))[(pAt p ((p.qB[k]!).qE))+k_52]!) - ((((p.qB[k]!).fIn)[k_52]!) * (counts[k]!)))),uE8,?_,?_,?_,rfl,N,H⟩
      · first | exact jZ (zy qm) | exact Ql qg | exact yc (zZ qm) qg (by first | exact .inl qg | exact .inr ‹p.qL[k_52]! =false› | exact .inr (by simp_all)) qg | exact jY (zZ qm) (by first | assumption | (rintro (h | h);omega;exact absurd ‹p.qL[k_52]! =true› (by rw [h];decide)) | (rintro (h | h);omega;simp_all)) qg
      · first | exact jW (by first | exact .inl qg | exact .inr ‹p.qL[k_52]! =false› | exact .inr (by simp_all)) | exact vG (by first | assumption | (rintro (h | h);omega;exact absurd ‹p.qL[k_52]! =true› (by rw [h];decide)) | (rintro (h | h);omega;simp_all))
      · omega
    ·skip
     refine qY 54 rfl rfl (sp (.slice (some ⟨b27,0,none⟩) ((jT s).length) rc1) (qY 54 rfl rfl (sp (.int .i64 own) (qY 54 rfl rfl (sp (.int .i64 k_52) (qY 54 rfl rfl (sw (xX own k_52 rfl rfl qg (qY 54 rfl rfl (oI rfl rfl (qY 54 rfl rfl (oL rfl (H.yE 0 rfl (iv:=own+k_52) (i:=(own+k_52)) qg qg) (qY 54 rfl rfl ?_)))))))))))))
     refine sps [.bool (decide ((((xH own (pAt p (p.qB[k]!).qE) (Opens p (p.qB[k]!).qE) (p.qB[k]!).qU (p.qB[k]!).fIn (counts[k]!) (xF p s counts k) k_52).set (own+k_52) (((xH own (pAt p (p.qB[k]!).qE) (Opens p (p.qB[k]!).qE) (p.qB[k]!).qU (p.qB[k]!).fIn (counts[k]!) (xF p s counts k) k_52)[own+k_52]!) - ((((p.qB[k]!).qU)[k_52]!) * (counts[k]!))))[own+k_52]! :Int)≥0)),.bool (decide ((((xH own (pAt p (p.qB[k]!).qE) (Opens p (p.qB[k]!).qE) (p.qB[k]!).qU (p.qB[k]!).fIn (counts[k]!) (xF p s counts k) k_52).set (own+k_52) (((xH own (pAt p (p.qB[k]!).qE) (Opens p (p.qB[k]!).qE) (p.qB[k]!).qU (p.qB[k]!).fIn (counts[k]!) (xF p s counts k) k_52)[own+k_52]!) - ((((p.qB[k]!).qU)[k_52]!) * (counts[k]!))))[own+k_52]! :Int)≥0)),.bool (decide ((((xH own (pAt p (p.qB[k]!).qE) (Opens p (p.qB[k]!).qE) (p.qB[k]!).qU (p.qB[k]!).fIn (counts[k]!) (xF p s counts k) k_52).set (own+k_52) (((xH own (pAt p (p.qB[k]!).qE) (Opens p (p.qB[k]!).qE) (p.qB[k]!).qU (p.qB[k]!).fIn (counts[k]!) (xF p s counts k) k_52)[own+k_52]!) - ((((p.qB[k]!).qU)[k_52]!) * (counts[k]!))))[own+k_52]! :Int)≥0))] ?_
     refine zjc (sps [.pointer (some ⟨b12,o13+(k:Int).toNat * 3,none⟩),.pointer (some ⟨b12,o13+(k:Int).toNat * 3,none⟩)] (oF rfl (oL rfl (H.xU 2 rfl 0 rfl) (sps [.bool (decide (((p.qB[k]!).qE:Int) > 0)),.bool (decide (((p.qB[k]!).qE:Int) > 0))] ?_))))
     cases h48:(decide (((p.qB[k]!).qE:Int) > 0))
     ·skip
      replace h48:=of_decide_eq_false h48
      refine qY 68 rfl rfl (sp (.pointer (some ⟨bp,op,none⟩)) (qY 68 rfl rfl (sp (.pointer (some ⟨bp,op,none⟩)) (qY 68 rfl rfl (oF rfl (qY 68 rfl rfl (oL rfl (H.xU 3 rfl 2 rfl) (qY 68 rfl rfl (sp (.int .i64 k_52) (qY 68 rfl rfl ?_))))))))))
      obtain ⟨b49,o50,rfl⟩:=H.addr 5 rfl qg
      refine oI rfl rfl (qY 68 rfl rfl (oL rfl (H.Qn 5 rfl k_52 qg qg) (qY 68 rfl rfl (sps [.bool (!(p.qL[k_52]!)),.bool (!(p.qL[k_52]!))] (zjn (xC (!(p.qL[k_52]!)) rfl (fun h52=>?_) (fun h52=>?_)))))))
      ·skip
       replace h52:=xB h52
       refine xP ?_
       refine jO rfl H [] fun H=>?_
       have S:=H.zq [] [0,1,2,3,4,5,6,7]
       refine rtp 0 (.slice (some ⟨b27,0,none⟩) ((jT s).length) rc1) S ?_
       refine rtp 1 (.int .i64 (pAt p ((p.qB[k]!).qE))) S ?_
       refine rtp 2 (.int .i64 k_52) S ?_
       refine rt 3 (.int .i64 ((pAt p ((p.qB[k]!).qE))+k_52)) (y_add (pAt p ((p.qB[k]!).qE)) k_52 rfl rfl qg) S ?_
       refine tI 4 rfl rfl rfl S ?_
       refine rtp 6 (.pointer (some ⟨b12,o13+(k:Int).toNat * 3,none⟩)) S ?_
       refine rtp 7 (.pointer (some ⟨b12,o13+(k:Int).toNat * 3,none⟩)) S ?_
       refine tF 8 rfl rfl S ?_
       refine tL 9 rfl rfl (fun _ h=>h.xU 2 rfl 2 rfl) S ?_
       refine rtp 10 (.int .i64 k_52) S ?_
       obtain ⟨b54,o55,rfl⟩:=H.addr 1 rfl qg
       have S:=H.zq [] [0,1,2,3,4,5,6,7]
       refine tI 11 rfl rfl rfl S ?_
       refine tL 12 rfl rfl (fun _ h=>h.vT 1 rfl k_52 qg) S ?_
       refine rtp 13 (.int .i64 (counts[k]!)) S ?_
       refine rt 14 (.int .i64 ((((p.qB[k]!).fIn)[k_52]!) * (counts[k]!))) (y_mul (((p.qB[k]!).fIn)[k_52]!) (counts[k]!) rfl rfl qg) S ?_
       refine ro 5 rfl (xY (.int .i64 (((xH own (pAt p (p.qB[k]!).qE) (Opens p (p.qB[k]!).qE) (p.qB[k]!).qU (p.qB[k]!).fIn (counts[k]!) (xF p s counts k) k_52).set (own+k_52) (((xH own (pAt p (p.qB[k]!).qE) (Opens p (p.qB[k]!).qE) (p.qB[k]!).qU (p.qB[k]!).fIn (counts[k]!) (xF p s counts k) k_52)[own+k_52]!) - ((((p.qB[k]!).qU)[k_52]!) * (counts[k]!))))[(pAt p ((p.qB[k]!).qE))+k_52]!)) Tryz.isAgg2 rfl (H.yE 0 rfl (iv:=(pAt p ((p.qB[k]!).qE))+k_52) (i:=((pAt p ((p.qB[k]!).qE))+k_52)) qg qg) (⟨H.pick [] [0,1,2,3,4,5,6,7],?_⟩))
       have S:=H.zq [] [0,1,2,3,4,5,6,7]
       refine rt 15 (.int .i64 ((((xH own (pAt p (p.qB[k]!).qE) (Opens p (p.qB[k]!).qE) (p.qB[k]!).qU (p.qB[k]!).fIn (counts[k]!) (xF p s counts k) k_52).set (own+k_52) (((xH own (pAt p (p.qB[k]!).qE) (Opens p (p.qB[k]!).qE) (p.qB[k]!).qU (p.qB[k]!).fIn (counts[k]!) (xF p s counts k) k_52)[own+k_52]!) - ((((p.qB[k]!).qU)[k_52]!) * (counts[k]!))))[(pAt p ((p.qB[k]!).qE))+k_52]!) - ((((p.qB[k]!).fIn)[k_52]!) * (counts[k]!)))) (y_sub (((xH own (pAt p (p.qB[k]!).qE) (Opens p (p.qB[k]!).qE) (p.qB[k]!).qU (p.qB[k]!).fIn (counts[k]!) (xF p s counts k) k_52).set (own+k_52) (((xH own (pAt p (p.qB[k]!).qE) (Opens p (p.qB[k]!).qE) (p.qB[k]!).qU (p.qB[k]!).fIn (counts[k]!) (xF p s counts k) k_52)[own+k_52]!) - ((((p.qB[k]!).qU)[k_52]!) * (counts[k]!))))[(pAt p ((p.qB[k]!).qE))+k_52]!) ((((p.qB[k]!).fIn)[k_52]!) * (counts[k]!)) rfl rfl qg) S ?_
       refine tI 16 rfl rfl rfl S ?_
       refine ro 17 rfl (vg H 0 rfl ((((xH own (pAt p (p.qB[k]!).qE) (Opens p (p.qB[k]!).qE) (p.qB[k]!).qU (p.qB[k]!).fIn (counts[k]!) (xF p s counts k) k_52).set (own+k_52) (((xH own (pAt p (p.qB[k]!).qE) (Opens p (p.qB[k]!).qE) (p.qB[k]!).qU (p.qB[k]!).fIn (counts[k]!) (xF p s counts k) k_52)[own+k_52]!) - ((((p.qB[k]!).qU)[k_52]!) * (counts[k]!))))[(pAt p ((p.qB[k]!).qE))+k_52]!) - ((((p.qB[k]!).fIn)[k_52]!) * (counts[k]!))) Tryz.sizeOf2 rfl rfl (i:=((pAt p ((p.qB[k]!).qE))+k_52)) qg qg fun w57 H=>⟨H.pick [] [0,1,2,3,4,5,6,7],(xI qi (t_n ?_))⟩)
       refine xJ ?_
       refine sps [.bool (decide ((((xH own (pAt p (p.qB[k]!).qE) (Opens p (p.qB[k]!).qE) (p.qB[k]!).qU (p.qB[k]!).fIn (counts[k]!) (xF p s counts k) k_52).set (own+k_52) (((xH own (pAt p (p.qB[k]!).qE) (Opens p (p.qB[k]!).qE) (p.qB[k]!).qU (p.qB[k]!).fIn (counts[k]!) (xF p s counts k) k_52)[own+k_52]!) - ((((p.qB[k]!).qU)[k_52]!) * (counts[k]!))))[own+k_52]! :Int)≥0)),.bool (decide ((((xH own (pAt p (p.qB[k]!).qE) (Opens p (p.qB[k]!).qE) (p.qB[k]!).qU (p.qB[k]!).fIn (counts[k]!) (xF p s counts k) k_52).set (own+k_52) (((xH own (pAt p (p.qB[k]!).qE) (Opens p (p.qB[k]!).qE) (p.qB[k]!).qU (p.qB[k]!).fIn (counts[k]!) (xF p s counts k) k_52)[own+k_52]!) - ((((p.qB[k]!).qU)[k_52]!) * (counts[k]!))))[own+k_52]! :Int)≥0))] ?_
       cases h58:(decide ((((xH own (pAt p (p.qB[k]!).qE) (Opens p (p.qB[k]!).qE) (p.qB[k]!).qU (p.qB[k]!).fIn (counts[k]!) (xF p s counts k) k_52).set (own+k_52) (((xH own (pAt p (p.qB[k]!).qE) (Opens p (p.qB[k]!).qE) (p.qB[k]!).qU (p.qB[k]!).fIn (counts[k]!) (xF p s counts k) k_52)[own+k_52]!) - ((((p.qB[k]!).qU)[k_52]!) * (counts[k]!))))[own+k_52]! :Int)≥0))
       ·skip
        replace h58:=of_decide_eq_false h58
        refine zG [97,98,99,100,101,102,103] (sps [.bool false,.bool false] (xN (b_n (t_n (xJ (sp (.int .i64 k_52) (sw (xX k_52 1 rfl rfl qg (sp (.int .i64 (k_52+1)) (xN ?_))))))))))
        refine xg (m' :=(p.qJ - ((k_52+1):Int)).toNat) qg ⟨_,false,k_52+1,(((xH own (pAt p (p.qB[k]!).qE) (Opens p (p.qB[k]!).qE) (p.qB[k]!).qU (p.qB[k]!).fIn (counts[k]!) (xF p s counts k) k_52).set (own+k_52) (((xH own (pAt p (p.qB[k]!).qE) (Opens p (p.qB[k]!).qE) (p.qB[k]!).qU (p.qB[k]!).fIn (counts[k]!) (xF p s counts k) k_52)[own+k_52]!) - ((((p.qB[k]!).qU)[k_52]!) * (counts[k]!)))).set ((pAt p ((p.qB[k]!).qE))+k_52) ((((xH own (pAt p (p.qB[k]!).qE) (Opens p (p.qB[k]!).qE) (p.qB[k]!).qU (p.qB[k]!).fIn (counts[k]!) (xF p s counts k) k_52).set (own+k_52) (((xH own (pAt p (p.qB[k]!).qE) (Opens p (p.qB[k]!).qE) (p.qB[k]!).qU (p.qB[k]!).fIn (counts[k]!) (xF p s counts k) k_52)[own+k_52]!) - ((((p.qB[k]!).qU)[k_52]!) * (counts[k]!))))[(pAt p ((p.qB[k]!).qE))+k_52]!) - ((((p.qB[k]!).fIn)[k_52]!) * (counts[k]!)))),uE8,?_,?_,?_,rfl,N,H⟩
        · first | exact jZ (zy qm) | exact Ql qg | exact yc (zZ qm) qg (by first | exact .inl qg | exact .inr ‹p.qL[k_52]! =false› | exact .inr (by simp_all)) qg | exact jY (zZ qm) (by first | assumption | (rintro (h | h);omega;exact absurd ‹p.qL[k_52]! =true› (by rw [h];decide)) | (rintro (h | h);omega;simp_all)) qg
        · first | exact jW (by first | exact .inl qg | exact .inr ‹p.qL[k_52]! =false› | exact .inr (by simp_all)) | exact vG (by first | assumption | (rintro (h | h);omega;exact absurd ‹p.qL[k_52]! =true› (by rw [h];decide)) | (rintro (h | h);omega;simp_all))
        · omega
       ·skip
        replace h58:=of_decide_eq_true h58
        refine qY 96 rfl rfl (sp (.slice (some ⟨b27,0,none⟩) ((jT s).length) rc1) (qY 96 rfl rfl (sp (.int .i64 (pAt p ((p.qB[k]!).qE))) (qY 96 rfl rfl (sp (.int .i64 k_52) (qY 96 rfl rfl (sw (xX (pAt p ((p.qB[k]!).qE)) k_52 rfl rfl qg (qY 96 rfl rfl (oI rfl rfl (qY 96 rfl rfl (oL rfl (H.yE 0 rfl (iv:=(pAt p ((p.qB[k]!).qE))+k_52) (i:=((pAt p ((p.qB[k]!).qE))+k_52)) qg qg) (qY 96 rfl rfl ?_)))))))))))))
        refine sps [.bool (decide (((((xH own (pAt p (p.qB[k]!).qE) (Opens p (p.qB[k]!).qE) (p.qB[k]!).qU (p.qB[k]!).fIn (counts[k]!) (xF p s counts k) k_52).set (own+k_52) (((xH own (pAt p (p.qB[k]!).qE) (Opens p (p.qB[k]!).qE) (p.qB[k]!).qU (p.qB[k]!).fIn (counts[k]!) (xF p s counts k) k_52)[own+k_52]!) - ((((p.qB[k]!).qU)[k_52]!) * (counts[k]!)))).set ((pAt p ((p.qB[k]!).qE))+k_52) ((((xH own (pAt p (p.qB[k]!).qE) (Opens p (p.qB[k]!).qE) (p.qB[k]!).qU (p.qB[k]!).fIn (counts[k]!) (xF p s counts k) k_52).set (own+k_52) (((xH own (pAt p (p.qB[k]!).qE) (Opens p (p.qB[k]!).qE) (p.qB[k]!).qU (p.qB[k]!).fIn (counts[k]!) (xF p s counts k) k_52)[own+k_52]!) - ((((p.qB[k]!).qU)[k_52]!) * (counts[k]!))))[(pAt p ((p.qB[k]!).qE))+k_52]!) - ((((p.qB[k]!).fIn)[k_52]!) * (counts[k]!))))[(pAt p ((p.qB[k]!).qE))+k_52]! :Int)≥0)),.bool (decide (((((xH own (pAt p (p.qB[k]!).qE) (Opens p (p.qB[k]!).qE) (p.qB[k]!).qU (p.qB[k]!).fIn (counts[k]!) (xF p s counts k) k_52).set (own+k_52) (((xH own (pAt p (p.qB[k]!).qE) (Opens p (p.qB[k]!).qE) (p.qB[k]!).qU (p.qB[k]!).fIn (counts[k]!) (xF p s counts k) k_52)[own+k_52]!) - ((((p.qB[k]!).qU)[k_52]!) * (counts[k]!)))).set ((pAt p ((p.qB[k]!).qE))+k_52) ((((xH own (pAt p (p.qB[k]!).qE) (Opens p (p.qB[k]!).qE) (p.qB[k]!).qU (p.qB[k]!).fIn (counts[k]!) (xF p s counts k) k_52).set (own+k_52) (((xH own (pAt p (p.qB[k]!).qE) (Opens p (p.qB[k]!).qE) (p.qB[k]!).qU (p.qB[k]!).fIn (counts[k]!) (xF p s counts k) k_52)[own+k_52]!) - ((((p.qB[k]!).qU)[k_52]!) * (counts[k]!))))[(pAt p ((p.qB[k]!).qE))+k_52]!) - ((((p.qB[k]!).fIn)[k_52]!) * (counts[k]!))))[(pAt p ((p.qB[k]!).qE))+k_52]! :Int)≥0)),.bool (decide (((((xH own (pAt p (p.qB[k]!).qE) (Opens p (p.qB[k]!).qE) (p.qB[k]!).qU (p.qB[k]!).fIn (counts[k]!) (xF p s counts k) k_52).set (own+k_52) (((xH own (pAt p (p.qB[k]!).qE) (Opens p (p.qB[k]!).qE) (p.qB[k]!).qU (p.qB[k]!).fIn (counts[k]!) (xF p s counts k) k_52)[own+k_52]!) - ((((p.qB[k]!).qU)[k_52]!) * (counts[k]!)))).set ((pAt p ((p.qB[k]!).qE))+k_52) ((((xH own (pAt p (p.qB[k]!).qE) (Opens p (p.qB[k]!).qE) (p.qB[k]!).qU (p.qB[k]!).fIn (counts[k]!) (xF p s counts k) k_52).set (own+k_52) (((xH own (pAt p (p.qB[k]!).qE) (Opens p (p.qB[k]!).qE) (p.qB[k]!).qU (p.qB[k]!).fIn (counts[k]!) (xF p s counts k) k_52)[own+k_52]!) - ((((p.qB[k]!).qU)[k_52]!) * (counts[k]!))))[(pAt p ((p.qB[k]!).qE))+k_52]!) - ((((p.qB[k]!).fIn)[k_52]!) * (counts[k]!))))[(pAt p ((p.qB[k]!).qE))+k_52]! :Int)≥0))] ?_
        refine xN (b_n (t_n (xJ (sp (.int .i64 k_52) (sw (xX k_52 1 rfl rfl qg (sp (.int .i64 (k_52+1)) (xN ?_))))))))
        refine xg (m' :=(p.qJ - ((k_52+1):Int)).toNat) qg ⟨_,decide (((((xH own (pAt p (p.qB[k]!).qE) (Opens p (p.qB[k]!).qE) (p.qB[k]!).qU (p.qB[k]!).fIn (counts[k]!) (xF p s counts k) k_52).set (own+k_52) (((xH own (pAt p (p.qB[k]!).qE) (Opens p (p.qB[k]!).qE) (p.qB[k]!).qU (p.qB[k]!).fIn (counts[k]!) (xF p s counts k) k_52)[own+k_52]!) - ((((p.qB[k]!).qU)[k_52]!) * (counts[k]!)))).set ((pAt p ((p.qB[k]!).qE))+k_52) ((((xH own (pAt p (p.qB[k]!).qE) (Opens p (p.qB[k]!).qE) (p.qB[k]!).qU (p.qB[k]!).fIn (counts[k]!) (xF p s counts k) k_52).set (own+k_52) (((xH own (pAt p (p.qB[k]!).qE) (Opens p (p.qB[k]!).qE) (p.qB[k]!).qU (p.qB[k]!).fIn (counts[k]!) (xF p s counts k) k_52)[own+k_52]!) - ((((p.qB[k]!).qU)[k_52]!) * (counts[k]!))))[(pAt p ((p.qB[k]!).qE))+k_52]!) - ((((p.qB[k]!).fIn)[k_52]!) * (counts[k]!))))[(pAt p ((p.qB[k]!).qE))+k_52]! :Int)≥0),k_52+1,(((xH own (pAt p (p.qB[k]!).qE) (Opens p (p.qB[k]!).qE) (p.qB[k]!).qU (p.qB[k]!).fIn (counts[k]!) (xF p s counts k) k_52).set (own+k_52) (((xH own (pAt p (p.qB[k]!).qE) (Opens p (p.qB[k]!).qE) (p.qB[k]!).qU (p.qB[k]!).fIn (counts[k]!) (xF p s counts k) k_52)[own+k_52]!) - ((((p.qB[k]!).qU)[k_52]!) * (counts[k]!)))).set ((pAt p ((p.qB[k]!).qE))+k_52) ((((xH own (pAt p (p.qB[k]!).qE) (Opens p (p.qB[k]!).qE) (p.qB[k]!).qU (p.qB[k]!).fIn (counts[k]!) (xF p s counts k) k_52).set (own+k_52) (((xH own (pAt p (p.qB[k]!).qE) (Opens p (p.qB[k]!).qE) (p.qB[k]!).qU (p.qB[k]!).fIn (counts[k]!) (xF p s counts k) k_52)[own+k_52]!) - ((((p.qB[k]!).qU)[k_52]!) * (counts[k]!))))[(pAt p ((p.qB[k]!).qE))+k_52]!) - ((((p.qB[k]!).fIn)[k_52]!) * (counts[k]!)))),uE8,?_,?_,?_,rfl,N,H⟩
        · first | exact jZ (zy qm) | exact Ql qg | exact yc (zZ qm) qg (by first | exact .inl qg | exact .inr ‹p.qL[k_52]! =false› | exact .inr (by simp_all)) qg | exact jY (zZ qm) (by first | assumption | (rintro (h | h);omega;exact absurd ‹p.qL[k_52]! =true› (by rw [h];decide)) | (rintro (h | h);omega;simp_all)) qg
        · first | exact jW (by first | exact .inl qg | exact .inr ‹p.qL[k_52]! =false› | exact .inr (by simp_all)) | exact vG (by first | assumption | (rintro (h | h);omega;exact absurd ‹p.qL[k_52]! =true› (by rw [h];decide)) | (rintro (h | h);omega;simp_all))
        · omega
      ·skip
       replace h52:=xq h52
       refine xf (b_n (t_n (xJ (sp (.int .i64 k_52) (sw (xX k_52 1 rfl rfl qg (sp (.int .i64 (k_52+1)) (xN ?_))))))))
       refine xg (m' :=(p.qJ - ((k_52+1):Int)).toNat) qg ⟨_,decide ((((xH own (pAt p (p.qB[k]!).qE) (Opens p (p.qB[k]!).qE) (p.qB[k]!).qU (p.qB[k]!).fIn (counts[k]!) (xF p s counts k) k_52).set (own+k_52) (((xH own (pAt p (p.qB[k]!).qE) (Opens p (p.qB[k]!).qE) (p.qB[k]!).qU (p.qB[k]!).fIn (counts[k]!) (xF p s counts k) k_52)[own+k_52]!) - ((((p.qB[k]!).qU)[k_52]!) * (counts[k]!))))[own+k_52]! :Int)≥0),k_52+1,((xH own (pAt p (p.qB[k]!).qE) (Opens p (p.qB[k]!).qE) (p.qB[k]!).qU (p.qB[k]!).fIn (counts[k]!) (xF p s counts k) k_52).set (own+k_52) (((xH own (pAt p (p.qB[k]!).qE) (Opens p (p.qB[k]!).qE) (p.qB[k]!).qU (p.qB[k]!).fIn (counts[k]!) (xF p s counts k) k_52)[own+k_52]!) - ((((p.qB[k]!).qU)[k_52]!) * (counts[k]!)))),uE8,?_,?_,?_,rfl,N,H⟩
       · first | exact jZ (zy qm) | exact Ql qg | exact yc (zZ qm) qg (by first | exact .inl qg | exact .inr ‹p.qL[k_52]! =false› | exact .inr (by simp_all)) qg | exact jY (zZ qm) (by first | assumption | (rintro (h | h);omega;exact absurd ‹p.qL[k_52]! =true› (by rw [h];decide)) | (rintro (h | h);omega;simp_all)) qg
       · first | exact jW (by first | exact .inl qg | exact .inr ‹p.qL[k_52]! =false› | exact .inr (by simp_all)) | exact vG (by first | assumption | (rintro (h | h);omega;exact absurd ‹p.qL[k_52]! =true› (by rw [h];decide)) | (rintro (h | h);omega;simp_all))
       · omega
     ·skip
      replace h48:=of_decide_eq_true h48
      refine zG [69,70,71,72,73,74,75,76] (sp (.bool true) (zjn (xC true rfl (fun _=>xP ?_) (fun h=>absurd h qj))))
      refine jO rfl H [] fun H=>?_
      have S:=H.zq [] [0,1,2,3,4,5,6,7]
      refine rtp 0 (.slice (some ⟨b27,0,none⟩) ((jT s).length) rc1) S ?_
      refine rtp 1 (.int .i64 (pAt p ((p.qB[k]!).qE))) S ?_
      refine rtp 2 (.int .i64 k_52) S ?_
      refine rt 3 (.int .i64 ((pAt p ((p.qB[k]!).qE))+k_52)) (y_add (pAt p ((p.qB[k]!).qE)) k_52 rfl rfl qg) S ?_
      refine tI 4 rfl rfl rfl S ?_
      refine rtp 6 (.pointer (some ⟨b12,o13+(k:Int).toNat * 3,none⟩)) S ?_
      refine rtp 7 (.pointer (some ⟨b12,o13+(k:Int).toNat * 3,none⟩)) S ?_
      refine tF 8 rfl rfl S ?_
      refine tL 9 rfl rfl (fun _ h=>h.xU 2 rfl 2 rfl) S ?_
      refine rtp 10 (.int .i64 k_52) S ?_
      obtain ⟨b60,o61,rfl⟩:=H.addr 1 rfl qg
      have S:=H.zq [] [0,1,2,3,4,5,6,7]
      refine tI 11 rfl rfl rfl S ?_
      refine tL 12 rfl rfl (fun _ h=>h.vT 1 rfl k_52 qg) S ?_
      refine rtp 13 (.int .i64 (counts[k]!)) S ?_
      refine rt 14 (.int .i64 ((((p.qB[k]!).fIn)[k_52]!) * (counts[k]!))) (y_mul (((p.qB[k]!).fIn)[k_52]!) (counts[k]!) rfl rfl qg) S ?_
      refine ro 5 rfl (xY (.int .i64 (((xH own (pAt p (p.qB[k]!).qE) (Opens p (p.qB[k]!).qE) (p.qB[k]!).qU (p.qB[k]!).fIn (counts[k]!) (xF p s counts k) k_52).set (own+k_52) (((xH own (pAt p (p.qB[k]!).qE) (Opens p (p.qB[k]!).qE) (p.qB[k]!).qU (p.qB[k]!).fIn (counts[k]!) (xF p s counts k) k_52)[own+k_52]!) - ((((p.qB[k]!).qU)[k_52]!) * (counts[k]!))))[(pAt p ((p.qB[k]!).qE))+k_52]!)) Tryz.isAgg2 rfl (H.yE 0 rfl (iv:=(pAt p ((p.qB[k]!).qE))+k_52) (i:=((pAt p ((p.qB[k]!).qE))+k_52)) qg qg) (⟨H.pick [] [0,1,2,3,4,5,6,7],?_⟩))
      have S:=H.zq [] [0,1,2,3,4,5,6,7]
      refine rt 15 (.int .i64 ((((xH own (pAt p (p.qB[k]!).qE) (Opens p (p.qB[k]!).qE) (p.qB[k]!).qU (p.qB[k]!).fIn (counts[k]!) (xF p s counts k) k_52).set (own+k_52) (((xH own (pAt p (p.qB[k]!).qE) (Opens p (p.qB[k]!).qE) (p.qB[k]!).qU (p.qB[k]!).fIn (counts[k]!) (xF p s counts k) k_52)[own+k_52]!) - ((((p.qB[k]!).qU)[k_52]!) * (counts[k]!))))[(pAt p ((p.qB[k]!).qE))+k_52]!) - ((((p.qB[k]!).fIn)[k_52]!) * (counts[k]!)))) (y_sub (((xH own (pAt p (p.qB[k]!).qE) (Opens p (p.qB[k]!).qE) (p.qB[k]!).qU (p.qB[k]!).fIn (counts[k]!) (xF p s counts k) k_52).set (own+k_52) (((xH own (pAt p (p.qB[k]!).qE) (Opens p (p.qB[k]!).qE) (p.qB[k]!).qU (p.qB[k]!).fIn (counts[k]!) (xF p s counts k) k_52)[own+k_52]!) - ((((p.qB[k]!).qU)[k_52]!) * (counts[k]!))))[(pAt p ((p.qB[k]!).qE))+k_52]!) ((((p.qB[k]!).fIn)[k_52]!) * (counts[k]!)) rfl rfl qg) S ?_
      refine tI 16 rfl rfl rfl S ?_
      refine ro 17 rfl (vg H 0 rfl ((((xH own (pAt p (p.qB[k]!).qE) (Opens p (p.qB[k]!).qE) (p.qB[k]!).qU (p.qB[k]!).fIn (counts[k]!) (xF p s counts k) k_52).set (own+k_52) (((xH own (pAt p (p.qB[k]!).qE) (Opens p (p.qB[k]!).qE) (p.qB[k]!).qU (p.qB[k]!).fIn (counts[k]!) (xF p s counts k) k_52)[own+k_52]!) - ((((p.qB[k]!).qU)[k_52]!) * (counts[k]!))))[(pAt p ((p.qB[k]!).qE))+k_52]!) - ((((p.qB[k]!).fIn)[k_52]!) * (counts[k]!))) Tryz.sizeOf2 rfl rfl (i:=((pAt p ((p.qB[k]!).qE))+k_52)) qg qg fun w63 H=>⟨H.pick [] [0,1,2,3,4,5,6,7],(xI qi (t_n ?_))⟩)
      refine xJ ?_
      refine sps [.bool (decide ((((xH own (pAt p (p.qB[k]!).qE) (Opens p (p.qB[k]!).qE) (p.qB[k]!).qU (p.qB[k]!).fIn (counts[k]!) (xF p s counts k) k_52).set (own+k_52) (((xH own (pAt p (p.qB[k]!).qE) (Opens p (p.qB[k]!).qE) (p.qB[k]!).qU (p.qB[k]!).fIn (counts[k]!) (xF p s counts k) k_52)[own+k_52]!) - ((((p.qB[k]!).qU)[k_52]!) * (counts[k]!))))[own+k_52]! :Int)≥0)),.bool (decide ((((xH own (pAt p (p.qB[k]!).qE) (Opens p (p.qB[k]!).qE) (p.qB[k]!).qU (p.qB[k]!).fIn (counts[k]!) (xF p s counts k) k_52).set (own+k_52) (((xH own (pAt p (p.qB[k]!).qE) (Opens p (p.qB[k]!).qE) (p.qB[k]!).qU (p.qB[k]!).fIn (counts[k]!) (xF p s counts k) k_52)[own+k_52]!) - ((((p.qB[k]!).qU)[k_52]!) * (counts[k]!))))[own+k_52]! :Int)≥0))] ?_
      cases h64:(decide ((((xH own (pAt p (p.qB[k]!).qE) (Opens p (p.qB[k]!).qE) (p.qB[k]!).qU (p.qB[k]!).fIn (counts[k]!) (xF p s counts k) k_52).set (own+k_52) (((xH own (pAt p (p.qB[k]!).qE) (Opens p (p.qB[k]!).qE) (p.qB[k]!).qU (p.qB[k]!).fIn (counts[k]!) (xF p s counts k) k_52)[own+k_52]!) - ((((p.qB[k]!).qU)[k_52]!) * (counts[k]!))))[own+k_52]! :Int)≥0))
      ·skip
       replace h64:=of_decide_eq_false h64
       refine zG [97,98,99,100,101,102,103] (sps [.bool false,.bool false] (xN (b_n (t_n (xJ (sp (.int .i64 k_52) (sw (xX k_52 1 rfl rfl qg (sp (.int .i64 (k_52+1)) (xN ?_))))))))))
       refine xg (m' :=(p.qJ - ((k_52+1):Int)).toNat) qg ⟨_,false,k_52+1,(((xH own (pAt p (p.qB[k]!).qE) (Opens p (p.qB[k]!).qE) (p.qB[k]!).qU (p.qB[k]!).fIn (counts[k]!) (xF p s counts k) k_52).set (own+k_52) (((xH own (pAt p (p.qB[k]!).qE) (Opens p (p.qB[k]!).qE) (p.qB[k]!).qU (p.qB[k]!).fIn (counts[k]!) (xF p s counts k) k_52)[own+k_52]!) - ((((p.qB[k]!).qU)[k_52]!) * (counts[k]!)))).set ((pAt p ((p.qB[k]!).qE))+k_52) ((((xH own (pAt p (p.qB[k]!).qE) (Opens p (p.qB[k]!).qE) (p.qB[k]!).qU (p.qB[k]!).fIn (counts[k]!) (xF p s counts k) k_52).set (own+k_52) (((xH own (pAt p (p.qB[k]!).qE) (Opens p (p.qB[k]!).qE) (p.qB[k]!).qU (p.qB[k]!).fIn (counts[k]!) (xF p s counts k) k_52)[own+k_52]!) - ((((p.qB[k]!).qU)[k_52]!) * (counts[k]!))))[(pAt p ((p.qB[k]!).qE))+k_52]!) - ((((p.qB[k]!).fIn)[k_52]!) * (counts[k]!)))),uE8,?_,?_,?_,rfl,N,H⟩
       · first | exact jZ (zy qm) | exact Ql qg | exact yc (zZ qm) qg (by first | exact .inl qg | exact .inr ‹p.qL[k_52]! =false› | exact .inr (by simp_all)) qg | exact jY (zZ qm) (by first | assumption | (rintro (h | h);omega;exact absurd ‹p.qL[k_52]! =true› (by rw [h];decide)) | (rintro (h | h);omega;simp_all)) qg
       · first | exact jW (by first | exact .inl qg | exact .inr ‹p.qL[k_52]! =false› | exact .inr (by simp_all)) | exact vG (by first | assumption | (rintro (h | h);omega;exact absurd ‹p.qL[k_52]! =true› (by rw [h];decide)) | (rintro (h | h);omega;simp_all))
       · omega
      ·skip
       replace h64:=of_decide_eq_true h64
       refine qY 96 rfl rfl (sp (.slice (some ⟨b27,0,none⟩) ((jT s).length) rc1) (qY 96 rfl rfl (sp (.int .i64 (pAt p ((p.qB[k]!).qE))) (qY 96 rfl rfl (sp (.int .i64 k_52) (qY 96 rfl rfl (sw (xX (pAt p ((p.qB[k]!).qE)) k_52 rfl rfl qg (qY 96 rfl rfl (oI rfl rfl (qY 96 rfl rfl (oL rfl (H.yE 0 rfl (iv:=(pAt p ((p.qB[k]!).qE))+k_52) (i:=((pAt p ((p.qB[k]!).qE))+k_52)) qg qg) (qY 96 rfl rfl ?_)))))))))))))
       refine sps [.bool (decide (((((xH own (pAt p (p.qB[k]!).qE) (Opens p (p.qB[k]!).qE) (p.qB[k]!).qU (p.qB[k]!).fIn (counts[k]!) (xF p s counts k) k_52).set (own+k_52) (((xH own (pAt p (p.qB[k]!).qE) (Opens p (p.qB[k]!).qE) (p.qB[k]!).qU (p.qB[k]!).fIn (counts[k]!) (xF p s counts k) k_52)[own+k_52]!) - ((((p.qB[k]!).qU)[k_52]!) * (counts[k]!)))).set ((pAt p ((p.qB[k]!).qE))+k_52) ((((xH own (pAt p (p.qB[k]!).qE) (Opens p (p.qB[k]!).qE) (p.qB[k]!).qU (p.qB[k]!).fIn (counts[k]!) (xF p s counts k) k_52).set (own+k_52) (((xH own (pAt p (p.qB[k]!).qE) (Opens p (p.qB[k]!).qE) (p.qB[k]!).qU (p.qB[k]!).fIn (counts[k]!) (xF p s counts k) k_52)[own+k_52]!) - ((((p.qB[k]!).qU)[k_52]!) * (counts[k]!))))[(pAt p ((p.qB[k]!).qE))+k_52]!) - ((((p.qB[k]!).fIn)[k_52]!) * (counts[k]!))))[(pAt p ((p.qB[k]!).qE))+k_52]! :Int)≥0)),.bool (decide (((((xH own (pAt p (p.qB[k]!).qE) (Opens p (p.qB[k]!).qE) (p.qB[k]!).qU (p.qB[k]!).fIn (counts[k]!) (xF p s counts k) k_52).set (own+k_52) (((xH own (pAt p (p.qB[k]!).qE) (Opens p (p.qB[k]!).qE) (p.qB[k]!).qU (p.qB[k]!).fIn (counts[k]!) (xF p s counts k) k_52)[own+k_52]!) - ((((p.qB[k]!).qU)[k_52]!) * (counts[k]!)))).set ((pAt p ((p.qB[k]!).qE))+k_52) ((((xH own (pAt p (p.qB[k]!).qE) (Opens p (p.qB[k]!).qE) (p.qB[k]!).qU (p.qB[k]!).fIn (counts[k]!) (xF p s counts k) k_52).set (own+k_52) (((xH own (pAt p (p.qB[k]!).qE) (Opens p (p.qB[k]!).qE) (p.qB[k]!).qU (p.qB[k]!).fIn (counts[k]!) (xF p s counts k) k_52)[own+k_52]!) - ((((p.qB[k]!).qU)[k_52]!) * (counts[k]!))))[(pAt p ((p.qB[k]!).qE))+k_52]!) - ((((p.qB[k]!).fIn)[k_52]!) * (counts[k]!))))[(pAt p ((p.qB[k]!).qE))+k_52]! :Int)≥0)),.bool (decide (((((xH own (pAt p (p.qB[k]!).qE) (Opens p (p.qB[k]!).qE) (p.qB[k]!).qU (p.qB[k]!).fIn (counts[k]!) (xF p s counts k) k_52).set (own+k_52) (((xH own (pAt p (p.qB[k]!).qE) (Opens p (p.qB[k]!).qE) (p.qB[k]!).qU (p.qB[k]!).fIn (counts[k]!) (xF p s counts k) k_52)[own+k_52]!) - ((((p.qB[k]!).qU)[k_52]!) * (counts[k]!)))).set ((pAt p ((p.qB[k]!).qE))+k_52) ((((xH own (pAt p (p.qB[k]!).qE) (Opens p (p.qB[k]!).qE) (p.qB[k]!).qU (p.qB[k]!).fIn (counts[k]!) (xF p s counts k) k_52).set (own+k_52) (((xH own (pAt p (p.qB[k]!).qE) (Opens p (p.qB[k]!).qE) (p.qB[k]!).qU (p.qB[k]!).fIn (counts[k]!) (xF p s counts k) k_52)[own+k_52]!) - ((((p.qB[k]!).qU)[k_52]!) * (counts[k]!))))[(pAt p ((p.qB[k]!).qE))+k_52]!) - ((((p.qB[k]!).fIn)[k_52]!) * (counts[k]!))))[(pAt p ((p.qB[k]!).qE))+k_52]! :Int)≥0))] ?_
       refine xN (b_n (t_n (xJ (sp (.int .i64 k_52) (sw (xX k_52 1 rfl rfl qg (sp (.int .i64 (k_52+1)) (xN ?_))))))))
       refine xg (m' :=(p.qJ - ((k_52+1):Int)).toNat) qg ⟨_,decide (((((xH own (pAt p (p.qB[k]!).qE) (Opens p (p.qB[k]!).qE) (p.qB[k]!).qU (p.qB[k]!).fIn (counts[k]!) (xF p s counts k) k_52).set (own+k_52) (((xH own (pAt p (p.qB[k]!).qE) (Opens p (p.qB[k]!).qE) (p.qB[k]!).qU (p.qB[k]!).fIn (counts[k]!) (xF p s counts k) k_52)[own+k_52]!) - ((((p.qB[k]!).qU)[k_52]!) * (counts[k]!)))).set ((pAt p ((p.qB[k]!).qE))+k_52) ((((xH own (pAt p (p.qB[k]!).qE) (Opens p (p.qB[k]!).qE) (p.qB[k]!).qU (p.qB[k]!).fIn (counts[k]!) (xF p s counts k) k_52).set (own+k_52) (((xH own (pAt p (p.qB[k]!).qE) (Opens p (p.qB[k]!).qE) (p.qB[k]!).qU (p.qB[k]!).fIn (counts[k]!) (xF p s counts k) k_52)[own+k_52]!) - ((((p.qB[k]!).qU)[k_52]!) * (counts[k]!))))[(pAt p ((p.qB[k]!).qE))+k_52]!) - ((((p.qB[k]!).fIn)[k_52]!) * (counts[k]!))))[(pAt p ((p.qB[k]!).qE))+k_52]! :Int)≥0),k_52+1,(((xH own (pAt p (p.qB[k]!).qE) (Opens p (p.qB[k]!).qE) (p.qB[k]!).qU (p.qB[k]!).fIn (counts[k]!) (xF p s counts k) k_52).set (own+k_52) (((xH own (pAt p (p.qB[k]!).qE) (Opens p (p.qB[k]!).qE) (p.qB[k]!).qU (p.qB[k]!).fIn (counts[k]!) (xF p s counts k) k_52)[own+k_52]!) - ((((p.qB[k]!).qU)[k_52]!) * (counts[k]!)))).set ((pAt p ((p.qB[k]!).qE))+k_52) ((((xH own (pAt p (p.qB[k]!).qE) (Opens p (p.qB[k]!).qE) (p.qB[k]!).qU (p.qB[k]!).fIn (counts[k]!) (xF p s counts k) k_52).set (own+k_52) (((xH own (pAt p (p.qB[k]!).qE) (Opens p (p.qB[k]!).qE) (p.qB[k]!).qU (p.qB[k]!).fIn (counts[k]!) (xF p s counts k) k_52)[own+k_52]!) - ((((p.qB[k]!).qU)[k_52]!) * (counts[k]!))))[(pAt p ((p.qB[k]!).qE))+k_52]!) - ((((p.qB[k]!).fIn)[k_52]!) * (counts[k]!)))),uE8,?_,?_,?_,rfl,N,H⟩
       · first | exact jZ (zy qm) | exact Ql qg | exact yc (zZ qm) qg (by first | exact .inl qg | exact .inr ‹p.qL[k_52]! =false› | exact .inr (by simp_all)) qg | exact jY (zZ qm) (by first | assumption | (rintro (h | h);omega;exact absurd ‹p.qL[k_52]! =true› (by rw [h];decide)) | (rintro (h | h);omega;simp_all)) qg
       · first | exact jW (by first | exact .inl qg | exact .inr ‹p.qL[k_52]! =false› | exact .inr (by simp_all)) | exact vG (by first | assumption | (rintro (h | h);omega;exact absurd ‹p.qL[k_52]! =true› (by rw [h];decide)) | (rintro (h | h);omega;simp_all))
       · omega
   ·skip
    have ek:k_52=pK p:=by omega
    refine zx4 (zcr (sps [.bool (dec (TkOk own (pAt p (p.qB[k]!).qE) (Opens p (p.qB[k]!).qE) (p.qB[k]!).qU (p.qB[k]!).fIn (counts[k]!) (xF p s counts k) k_52)),.bool (dec (TkOk own (pAt p (p.qB[k]!).qE) (Opens p (p.qB[k]!).qE) (p.qB[k]!).qU (p.qB[k]!).fIn (counts[k]!) (xF p s counts k) k_52))] (zjr (ret1 (.bool (dec (TkOk own (pAt p (p.qB[k]!).qE) (Opens p (p.qB[k]!).qE) (p.qB[k]!).qU (p.qB[k]!).fIn (counts[k]!) (xF p s counts k) k_52))) rfl rfl ⟨_,rfl,(⟨H.pick [] [3,4,5,6,7],?_⟩)⟩))))
    refine rtp 13 (.bool (dec (TkOk own (pAt p (p.qB[k]!).qE) (Opens p (p.qB[k]!).qE) (p.qB[k]!).qU (p.qB[k]!).fIn (counts[k]!) (xF p s counts k) k_52))) (H.pick [] [3,4,5,6,7]) ?_
    refine xI qi (b_n (t_n (xJ (sp (.int .i64 k) (sw (xX k 1 rfl rfl qg (sp (.int .i64 (k+1)) (xN (xg (m' :=(counts.length - ((k+1):Int)).toNat) qg ⟨_,(dec (TkOk own (pAt p (p.qB[k]!).qE) (Opens p (p.qB[k]!).qE) (p.qB[k]!).qU (p.qB[k]!).fIn (counts[k]!) (xF p s counts k) k_52)),k+1,(xH own (pAt p (p.qB[k]!).qE) (Opens p (p.qB[k]!).qE) (p.qB[k]!).qU (p.qB[k]!).fIn (counts[k]!) (xF p s counts k) k_52),uE5,?_,?_,?_,rfl,N,H.pick [0] [3,4,5,6,7]⟩)))))))))
    · rw [ek];exact yw (fits_tk p0 p1 p2 p3 qg hown)
    · rw [ek,hown];rfl
    · omega
  ·skip
   refine zx4 (zcr (sps [.slice ra1 ((jT s).length) rc1,.bool true,.slice ra1 ((jT s).length) rc1,.bool true] (zjr (ret2 (.slice ra1 ((jT s).length) rc1) (.bool true) rfl rfl rfl ⟨_,rfl,?_,H.base⟩))))
   first | (exact absurd (by assumption:true=false) qj) | (obtain rfl:k=counts.length:=qg;exact ⟨ra1,(jT s).length,rc1,rfl,N,H.pick [0] []⟩)
theorem l06Busy_ok (w:World) (p:qW) (counts:yLI) (k:Int) {qI:yOA} {xe:yLN} {apFree:yOA} {FpFree:yLN} {qR:yOA} {xx:yLN} {acounts:yOA} {Fcounts:yLN} (hp:zM w bp op [.int .i64 p.qJ,.slice qI p.qC.length qH,.slice apFree p.qL.length cpFree,.slice qR p.qB.length qM]) (qX:qV.rep w xe [.slice qI p.qC.length qH] p.qC) (hpFree:qV.rep w FpFree [.slice apFree p.qL.length cpFree] p.qL) (xn:qV.rep w xx [.slice qR p.qB.length qM] p.qB) (hcounts:qV.rep w Fcounts [.slice acounts counts.length ccounts] counts) (p0:counts.length≤p.qB.length) (p1:0≤k∧k < counts.length):Calls Tryz.prog 127 #[.pointer (some ⟨bp,op,none⟩),.slice acounts counts.length ccounts,.int .i64 k] w (Ret (fun v w' =>v=.bool (dec (BusyI p counts k))) w):=by
 refine en Tryz.func127 Tryz.ntmps127 ?_
 have H:=(((((St.start w).arg hcounts).arg xn).arg hpFree).arg qX).argAt hp
 have zF:=qO qX
 have nhpFree:=qO hpFree
 have vC:=qO xn
 have nhcounts:=qO hcounts
 clear hp qX hpFree xn hcounts
 have N:=Fresh.nil w.heap.size
 refine zcr (sp (.bool false) (zjcc (sp (.int .i64 0) (zjn (xm ?_)))))
 refine zK (fun m' ρ w1=>∃ (zu:Env) (i:Nat),ρ=upd (upd (upd (upd zu 0 (.pointer (some ⟨bp,op,none⟩))) 1 (.slice acounts counts.length ccounts)) 2 (.int .i64 k)) 7 (.int .i64 i)∧((i:Int)≤counts.length)∧(NoBusyTo p counts k.toNat i)∧m' =(counts.length - (i:Int)).toNat∧Fresh w.heap.size []∧St w w1 [] [atF bp op [.int .i64 p.qJ,.slice qI p.qC.length qH,.slice apFree p.qL.length cpFree,.slice qR p.qB.length qM],sF false xe qI qH p.qC,sF false FpFree apFree cpFree p.qL,sF false xx qR qM p.qB,sF false Fcounts acounts ccounts counts]) ((counts.length - (0:Int)).toNat) ⟨_,0,uE4,qg,qy,rfl,N,H⟩ ?_
 clear H N
 rintro m' ρ w2 ⟨zu,i,rfl,i0,i1,rfl,N,H⟩
 refine zcc (sps [.int .i64 i,.slice acounts counts.length ccounts] (oN rfl (sp (.bool (decide ((i:Int) < counts.length))) (zjn (cD rfl (fun h3=>?_) (fun h3=>?_))))))
 ·skip
  refine xf (t_n (xP (xm (xP ?_))))
  refine vK rfl H fun H=>rtp 0 (.slice acounts counts.length ccounts) H ?_
  refine rtp 1 (.int .i64 i) H ?_
  obtain ⟨b5,o6,rfl⟩:=H.addr 4 rfl qg
  refine tI 2 rfl rfl rfl H ?_
  refine tL 3 rfl rfl (fun _ h=>h.vT 4 rfl i qg) H ?_
  refine rtp 4 (.bool (decide ((counts[i]! :Int) > 0))) H ?_
  refine rtp 5 (.bool (decide ((counts[i]! :Int) > 0))) H ?_
  cases h8:(decide ((counts[i]! :Int) > 0))
  ·skip
   replace h8:=of_decide_eq_false h8
   refine zL [6,7,8,9,10,11,12,13,14,15,16,17,18,19,20,21,22] 17 (H) (rtp 23 (.bool false) H ?_)
   refine xI qi (t_n (xC false rfl (fun h=>absurd h qj) (fun _=>xf (b_n (t_n (xJ (sp (.int .i64 i) (sw (xX i 1 rfl rfl qg (sp (.int .i64 (i+1)) (xN (xg (m' :=(counts.length - ((i+1):Int)).toNat) qg ⟨_,i+1,uE4,?_,?_,rfl,N,H⟩))))))))))))
   · omega
   · exact i1.succ (by first | (rintro ⟨h,_⟩;omega) | (rintro ⟨_,h⟩;contradiction))
  ·skip
   replace h8:=of_decide_eq_true h8
   refine rgp 6 (.pointer (some ⟨bp,op,none⟩)) 19 H ?_
   refine rgp 7 (.pointer (some ⟨bp,op,none⟩)) 19 H ?_
   refine gF 8 rfl rfl H ?_
   refine gL 9 rfl rfl (fun _ h=>h.xU 0 rfl 3 rfl) H ?_
   refine rgp 10 (.int .i64 i) 19 H ?_
   obtain ⟨b9,o10,rfl⟩:=H.addr 3 rfl qg
   obtain ⟨ae12Out,ce12Out,Fe12Out,ae12In,ce12In,Fe12In,H⟩:=H.zW 3 rfl i i qg qg qg
   have S:=H.zq [] [3,4,5,6,7]
   refine gI 11 rfl rfl rfl S ?_
   refine gF 12 rfl rfl S ?_
   refine rgp 14 (.pointer (some ⟨bp,op,none⟩)) 19 S ?_
   refine rgp 15 (.pointer (some ⟨bp,op,none⟩)) 19 S ?_
   refine gF 16 rfl rfl S ?_
   refine gL 17 rfl rfl (fun _ h=>h.xU 0 rfl 3 rfl) S ?_
   refine rgp 18 (.int .i64 k) 19 S ?_
   obtain ⟨ae13Out,ce13Out,Fe13Out,ae13In,ce13In,Fe13In,H⟩:=H.zW 6 rfl k k.toNat qg qg qg
   have S:=H.zq [] [6,7,8,9,10]
   refine gI 19 rfl rfl rfl S ?_
   refine gF 20 rfl rfl S ?_
   refine yz [13,21] qi qo (r_opG rfl (e:=19) rfl rfl ?_ (r_opG rfl (e:=19) rfl rfl ?_ yA))
   ·skip
    refine xY (.int .i64 ((p.qB[i]!).qE)) Tryz.isAgg2 rfl (H.xU 5 rfl 0 rfl) (⟨H.pick [] [6,7,8,9,10],(yz [21] qi qo (r_opG rfl (e:=19) rfl rfl (xY (.int .i64 ((p.qB[k.toNat]!).qE)) Tryz.isAgg2 rfl (H.xU 2 rfl 0 rfl) (⟨H.pick [] [6,7,8,9,10],?_⟩)) yA))⟩)
    have S:=H.zq [] [6,7,8,9,10]
    refine rgp 22 (.bool (((p.qB[i]!).qE:Int) == ((p.qB[k.toNat]!).qE))) 19 S ?_
    refine rtp 23 (.bool (((p.qB[i]!).qE:Int) == ((p.qB[k.toNat]!).qE))) S ?_
    refine xI qi (t_n (cE rfl (fun h14=>?_) (fun h14=>?_)))
    ·skip
     refine zcr (sp (.bool true) (zjr (zr5 (ret1 (.bool true) rfl rfl ⟨_,rfl,?_,H.base⟩))))
     rw [yw (Busy.at (i:=i) qg qg qm)]
    ·skip
     refine xf (b_n (t_n (xJ (sp (.int .i64 i) (sw (xX i 1 rfl rfl qg (sp (.int .i64 (i+1)) (xN (xg (m' :=(counts.length - ((i+1):Int)).toNat) qg ⟨_,i+1,uE4,?_,?_,rfl,N,H.pick [] [6,7,8,9,10]⟩)))))))))
     · omega
     · exact i1.succ (by first | (rintro ⟨h,_⟩;omega) | (rintro ⟨_,h⟩;contradiction))
   ·skip
    refine xY (.int .i64 ((p.qB[k.toNat]!).qE)) Tryz.isAgg2 rfl (H.xU 2 rfl 0 rfl) (⟨H.pick [] [6,7,8,9,10],(yz [13] qi qo (r_opG rfl (e:=19) rfl rfl (xY (.int .i64 ((p.qB[i]!).qE)) Tryz.isAgg2 rfl (H.xU 5 rfl 0 rfl) (⟨H.pick [] [6,7,8,9,10],?_⟩)) yA))⟩)
    have S:=H.zq [] [6,7,8,9,10]
    refine rgp 22 (.bool (((p.qB[i]!).qE:Int) == ((p.qB[k.toNat]!).qE))) 19 S ?_
    refine rtp 23 (.bool (((p.qB[i]!).qE:Int) == ((p.qB[k.toNat]!).qE))) S ?_
    refine xI qi (t_n (cE rfl (fun h15=>?_) (fun h15=>?_)))
    ·skip
     refine zcr (sp (.bool true) (zjr (zr5 (ret1 (.bool true) rfl rfl ⟨_,rfl,?_,H.base⟩))))
     rw [yw (Busy.at (i:=i) qg qg qm)]
    ·skip
     refine xf (b_n (t_n (xJ (sp (.int .i64 i) (sw (xX i 1 rfl rfl qg (sp (.int .i64 (i+1)) (xN (xg (m' :=(counts.length - ((i+1):Int)).toNat) qg ⟨_,i+1,uE4,?_,?_,rfl,N,H.pick [] [6,7,8,9,10]⟩)))))))))
     · omega
     · exact i1.succ (by first | (rintro ⟨h,_⟩;omega) | (rintro ⟨_,h⟩;contradiction))
 ·skip
  refine zx4 (zcr (sp (.bool false) (zjr (ret1 (.bool false) rfl rfl ⟨_,rfl,?_,H.base⟩))))
  rw [zf (fun h=>h ((show counts.length=i by omega)▸i1))]

theorem l06Room_ok (w:World) (p:qW) (left:yLI) (counts:yLI) (k:Int) {qI:yOA} {xe:yLN} {apFree:yOA} {FpFree:yLN} {qR:yOA} {xx:yLN} {aleft:yOA} {Fleft:yLN} {acounts:yOA} {Fcounts:yLN} (hp:zM w bp op [.int .i64 p.qJ,.slice qI p.qC.length qH,.slice apFree p.qL.length cpFree,.slice qR p.qB.length qM]) (qX:qV.rep w xe [.slice qI p.qC.length qH] p.qC) (hpFree:qV.rep w FpFree [.slice apFree p.qL.length cpFree] p.qL) (xn:qV.rep w xx [.slice qR p.qB.length qM] p.qB) (hleft:qV.rep w Fleft [.slice aleft left.length cleft] left) (hcounts:qV.rep w Fcounts [.slice acounts counts.length ccounts] counts) (p0:zi p) (p1:LeftOk p left) (p2:counts.length=p.qB.length) (p3:0≤k∧k < counts.length):Calls Tryz.prog 128 #[.pointer (some ⟨bp,op,none⟩),.slice aleft left.length cleft,.slice acounts counts.length ccounts,.int .i64 k] w (Ret (fun v w' =>v=.bool (dec (RoomI p left counts k))) w):=by
 refine en Tryz.func128 Tryz.ntmps128 ?_
 have H:=((((((St.start w).arg hcounts).arg hleft).arg xn).arg hpFree).arg qX).argAt hp
 have zF:=qO qX
 have nhpFree:=qO hpFree
 have vC:=qO xn
 have nhleft:=qO hleft
 have nhcounts:=qO hcounts
 clear hp qX hpFree xn hleft hcounts
 have N:=Fresh.nil w.heap.size
 have p4:=p0.1.2.2.2.1
 have fl:=p1.1
 have fb:=p1.2
 have tb:(0:Int)≤1∧(1:Int)≤1000:=by decide
 have fs:=flat_le p0.1 fl
 refine zcr (sp (.bool false) (zjn (xP ?_)))
 refine vK rfl H fun H=>rtp 0 (.slice acounts counts.length ccounts) H ?_
 refine rtp 1 (.int .i64 k) H ?_
 obtain ⟨b2,o3,rfl⟩:=H.addr 5 rfl qg
 refine tI 2 rfl rfl rfl H ?_
 refine tL 3 rfl rfl (fun _ h=>h.vY 5 rfl k qg qg) H ?_
 refine rtp 4 (.bool (decide ((counts[k.toNat]! :Int) < 1000))) H ?_
 refine rtp 5 (.bool (decide ((counts[k.toNat]! :Int) < 1000))) H ?_
 cases h5:(decide ((counts[k.toNat]! :Int) < 1000))
 ·skip
  replace h5:=of_decide_eq_false h5
  refine zL [6,7,8,9,10,11,12,13,14,15] 10 (H) (rtp 16 (.bool false) H ?_)
  refine rtp 17 (.bool false) H ?_
  refine xI qi (t_n (c_ret (ret1 (.bool false) rfl rfl ⟨_,rfl,?_,H.base⟩)))
  rw [zf (fun h=>by have:=h.1;omega)]
 ·skip
  replace h5:=of_decide_eq_true h5
  refine rgp 6 (.pointer (some ⟨bp,op,none⟩)) 14 H ?_
  refine rgp 7 (.slice aleft left.length cleft) 14 H ?_
  refine rgp 9 (.pointer (some ⟨bp,op,none⟩)) 14 H ?_
  refine rgp 10 (.pointer (some ⟨bp,op,none⟩)) 14 H ?_
  refine gF 11 rfl rfl H ?_
  refine gL 12 rfl rfl (fun _ h=>h.xU 0 rfl 3 rfl) H ?_
  refine rgp 13 (.int .i64 k) 14 H ?_
  obtain ⟨b6,o7,rfl⟩:=H.addr 3 rfl qg
  obtain ⟨ae9Out,ce9Out,Fe9Out,ae9In,ce9In,Fe9In,H⟩:=H.zW 3 rfl k k.toNat qg qg qg
  refine gI 14 rfl rfl rfl (H.pick [] [3,4,5,6,7,8]) ?_
  refine yz [8] qi qo (r_opG rfl (e:=14) rfl rfl ?_ yA)
  have sz10:=H.base.size
  refine oc (yY _ left (H.get 7 rfl).1 qh) ?_
  rintro v15 w13 r15 x14
  replace H:=H.zg x14 r15
  obtain ⟨a16,c17,rfl,hc18,hm19⟩:=H.vO 0 rfl
  refine ⟨H.pick [] [3,4,5,6,7,8],(yz [15] qi qo (r_opG rfl (e:=14) rfl rfl ?_ yA))⟩
  have cr:=p0.2 k.toNat qg
  have c1:=cr.1
  have c2:=p0.1.2.1
  have c3:=p0.1.1
  have mb:=mul_bd8 (a:=(p.qB[k.toNat]!).qE) (b:=p.qJ) qg qg
  refine jG #[.pointer (some ⟨bp,op,none⟩),.slice a16 left.length c17,.pointer (some ⟨b6,o7+(k:Int).toNat * 3,none⟩),.int .i64 1] rfl rfl Tryz.call104 (en Tryz.func104 Tryz.ntmps104 ?_)
  refine zcr (sp (.bool false) (zjn (xP ?_)))
  refine vK rfl H fun H=>rtp 0 (.pointer (some ⟨b6,o7+(k:Int).toNat * 3,none⟩)) H ?_
  refine rtp 1 (.pointer (some ⟨b6,o7+(k:Int).toNat * 3,none⟩)) H ?_
  refine tF 2 rfl rfl H ?_
  refine tL 3 rfl rfl (fun _ h=>h.xU 2 rfl 0 rfl) H ?_
  refine rtp 4 (.pointer (some ⟨bp,op,none⟩)) H ?_
  refine rtp 5 (.pointer (some ⟨bp,op,none⟩)) H ?_
  refine tF 6 rfl rfl H ?_
  refine tL 7 rfl rfl (fun _ h=>h.xU 3 rfl 0 rfl) H ?_
  refine rt 8 (.int .i64 (((p.qB[k.toNat]!).qE) * p.qJ)) (y_mul ((p.qB[k.toNat]!).qE) p.qJ rfl rfl qg) H ?_
  refine rtp 9 (.int .i64 (((p.qB[k.toNat]!).qE) * p.qJ)) H ?_
  refine xI qi (t_n (xP ?_))
  have rok:yQ p (p.qB[k.toNat]!):=p0.2 _ qg
  obtain ⟨own,hown⟩:∃ z:Nat,z=pOwn p (p.qB[k.toNat]!):=⟨_,rfl⟩
  rw [show ((p.qB[k.toNat]!).qE) * p.qJ=(own:Int) by rw [hown];exact pown_eq p0.1 rok.1.1]
  have tq:=TkGeo.of p0.1 rok hown fl
  have qk:=pK_eq p0.1
  have lo:=jF p0.1 rok.2.1
  have li:=jF p0.1 rok.2.2.1
  have lf:=p0.1.2.2.1
  refine xJ (sps [.pointer (some ⟨bp,op,none⟩),.pointer (some ⟨b6,o7+(k:Int).toNat * 3,none⟩),.pointer (some ⟨b6,o7+(k:Int).toNat * 3,none⟩)] (oF rfl (oL rfl (H.xU 2 rfl 0 rfl) (sw (oq (l06At_ok _ p ((p.qB[k.toNat]!).qE) (qN (H.get 3 rfl) 0 4) (H.get 4 rfl).1 (H.get 5 rfl).1 (H.get 6 rfl).1 (by exact p0.1) (by exact rok.1)) H fun w22 H=>sp (.int .i64 (pAt p ((p.qB[k.toNat]!).qE))) (zjc (sp (.bool true) (zjcc (sp (.int .i64 0) (zjn (xm ?_)))))))))))
  refine zK (fun m' ρ w24=>∃ (zu:Env) (ok:Bool) (k_1:Nat) (flat:yLI),ρ=upd (upd (upd (upd (upd (upd (upd (upd zu 0 (.pointer (some ⟨bp,op,none⟩))) 1 (.slice a16 left.length c17)) 2 (.pointer (some ⟨b6,o7+(k:Int).toNat * 3,none⟩))) 3 (.int .i64 1)) 9 (.int .i64 own)) 10 (.int .i64 (pAt p ((p.qB[k.toNat]!).qE)))) 11 (.bool ok)) 12 (.int .i64 k_1)∧ok=dec (TkOk own (pAt p (p.qB[k.toNat]!).qE) (Opens p (p.qB[k.toNat]!).qE) (p.qB[k.toNat]!).qU (p.qB[k.toNat]!).fIn 1 left k_1)∧flat=(xH own (pAt p (p.qB[k.toNat]!).qE) (Opens p (p.qB[k.toNat]!).qE) (p.qB[k.toNat]!).qU (p.qB[k.toNat]!).fIn 1 left k_1)∧((k_1:Int)≤p.qJ)∧m' =(p.qJ - (k_1:Int)).toNat∧Fresh w.heap.size []∧St w w24 [rr a16 left.length c17 2 1 (flat.map (Value.int .i64))] [sF false Fe9Out ae9Out ce9Out ((p.qB[k.toNat]!).qU),sF false Fe9In ae9In ce9In ((p.qB[k.toNat]!).fIn),atF b6 (o7+(k:Int).toNat * 3) [.int .i64 ((p.qB[k.toNat]!).qE),.slice ae9Out (((p.qB[k.toNat]!).qU).length) ce9Out,.slice ae9In (((p.qB[k.toNat]!).fIn).length) ce9In],atF bp op [.int .i64 p.qJ,.slice qI p.qC.length qH,.slice apFree p.qL.length cpFree,.slice (some ⟨b6,o7,none⟩) p.qB.length qM],sF false xe qI qH p.qC,sF false FpFree apFree cpFree p.qL,sF false xx (some ⟨b6,o7,none⟩) qM p.qB,sF false Fleft aleft cleft left,sF false Fcounts (some ⟨b2,o3,none⟩) ccounts counts]) ((p.qJ - (0:Int)).toNat) ⟨_,true,0,left,uE8,(by exact (yw (TkOk.zero _ _ _ _ _ _ _)).symm),(by rfl),qg,rfl,N,H⟩ ?_
  clear H N
  rintro m' ρ w25 ⟨zu,ok,k_1,flat,rfl,rfl,rfl,i0,rfl,N,H⟩
  have hn_flat:=H.y9 0 rfl
  refine zcc (sps [.int .i64 k_1,.pointer (some ⟨bp,op,none⟩),.pointer (some ⟨bp,op,none⟩)] (oF rfl (oL rfl (H.xU 3 rfl 0 rfl) (sp (.bool (decide ((k_1:Int) < p.qJ))) (zjn (cD rfl (fun h26=>?_) (fun h26=>?_)))))))
  ·skip
   have ta:TkAt p (p.qB[k.toNat]!) own left (xH own (pAt p (p.qB[k.toNat]!).qE) (Opens p (p.qB[k.toNat]!).qE) (p.qB[k.toNat]!).qU (p.qB[k.toNat]!).fIn 1 left k_1) 1 k_1:=TkAt.of p0.1 rok tq tb qg
   obtain ⟨r1,r2,r3⟩:=ta.read
   obtain ⟨y1,y2,y3,y4,y5,y6,y7,y8⟩:=ta
   have z1:=fb _ y5
   have z2:=fb _ y6
   have fs:=flat_le p0.1 fl
   refine xf (t_n (xP (xm (xP ?_))))
   refine jO rfl H [] fun H=>?_
   have S:=H.zq [] [0,1,2,3,4,5,6,7,8]
   refine rtp 0 (.slice a16 left.length c17) S ?_
   refine rtp 1 (.int .i64 own) S ?_
   refine rtp 2 (.int .i64 k_1) S ?_
   refine rt 3 (.int .i64 (own+k_1)) (y_add own k_1 rfl rfl qg) S ?_
   obtain ⟨b28,rfl⟩:=H.yg 0 rfl qg
   have S:=H.zq [] [0,1,2,3,4,5,6,7,8]
   refine tI 4 rfl rfl rfl S ?_
   refine rtp 6 (.pointer (some ⟨b6,o7+(k:Int).toNat * 3,none⟩)) S ?_
   refine rtp 7 (.pointer (some ⟨b6,o7+(k:Int).toNat * 3,none⟩)) S ?_
   refine tF 8 rfl rfl S ?_
   refine tL 9 rfl rfl (fun _ h=>h.xU 2 rfl 1 rfl) S ?_
   refine rtp 10 (.int .i64 k_1) S ?_
   obtain ⟨b29,o30,rfl⟩:=H.addr 0 rfl qg
   have S:=H.zq [] [0,1,2,3,4,5,6,7,8]
   refine tI 11 rfl rfl rfl S ?_
   refine tL 12 rfl rfl (fun _ h=>h.vT 0 rfl k_1 qg) S ?_
   refine rtp 13 (.int .i64 1) S ?_
   refine rt 14 (.int .i64 ((((p.qB[k.toNat]!).qU)[k_1]!) * 1)) (y_mul (((p.qB[k.toNat]!).qU)[k_1]!) 1 rfl rfl qg) S ?_
   refine ro 5 rfl (xY (.int .i64 ((xH own (pAt p (p.qB[k.toNat]!).qE) (Opens p (p.qB[k.toNat]!).qE) (p.qB[k.toNat]!).qU (p.qB[k.toNat]!).fIn 1 left k_1)[own+k_1]!)) Tryz.isAgg2 rfl (H.yE 0 rfl (iv:=own+k_1) (i:=(own+k_1)) qg qg) (⟨H.pick [] [0,1,2,3,4,5,6,7,8],?_⟩))
   have S:=H.zq [] [0,1,2,3,4,5,6,7,8]
   refine rt 15 (.int .i64 (((xH own (pAt p (p.qB[k.toNat]!).qE) (Opens p (p.qB[k.toNat]!).qE) (p.qB[k.toNat]!).qU (p.qB[k.toNat]!).fIn 1 left k_1)[own+k_1]!) - ((((p.qB[k.toNat]!).qU)[k_1]!) * 1))) (y_sub ((xH own (pAt p (p.qB[k.toNat]!).qE) (Opens p (p.qB[k.toNat]!).qE) (p.qB[k.toNat]!).qU (p.qB[k.toNat]!).fIn 1 left k_1)[own+k_1]!) ((((p.qB[k.toNat]!).qU)[k_1]!) * 1) rfl rfl qg) S ?_
   refine tI 16 rfl rfl rfl S ?_
   refine ro 17 rfl (vg H 0 rfl (((xH own (pAt p (p.qB[k.toNat]!).qE) (Opens p (p.qB[k.toNat]!).qE) (p.qB[k.toNat]!).qU (p.qB[k.toNat]!).fIn 1 left k_1)[own+k_1]!) - ((((p.qB[k.toNat]!).qU)[k_1]!) * 1)) Tryz.sizeOf2 rfl rfl (i:=(own+k_1)) qg qg fun w32 H=>⟨H.pick [] [0,1,2,3,4,5,6,7,8],(xI qi (t_n (zcr ?_)))⟩)
   refine sps [.bool (dec (TkOk own (pAt p (p.qB[k.toNat]!).qE) (Opens p (p.qB[k.toNat]!).qE) (p.qB[k.toNat]!).qU (p.qB[k.toNat]!).fIn 1 left k_1)),.bool (dec (TkOk own (pAt p (p.qB[k.toNat]!).qE) (Opens p (p.qB[k.toNat]!).qE) (p.qB[k.toNat]!).qU (p.qB[k.toNat]!).fIn 1 left k_1))] ?_
   cases h33:((dec (TkOk own (pAt p (p.qB[k.toNat]!).qE) (Opens p (p.qB[k.toNat]!).qE) (p.qB[k.toNat]!).qU (p.qB[k.toNat]!).fIn 1 left k_1)))
   ·skip
    refine zG [55,56,57,58,59,60,61] (sps [.bool false,.bool false] (zjc (sps [.pointer (some ⟨b6,o7+(k:Int).toNat * 3,none⟩),.pointer (some ⟨b6,o7+(k:Int).toNat * 3,none⟩)] (oF rfl (oL rfl (H.xU 2 rfl 0 rfl) (sps [.bool (decide (((p.qB[k.toNat]!).qE:Int) > 0)),.bool (decide (((p.qB[k.toNat]!).qE:Int) > 0))] ?_))))))
    cases h34:(decide (((p.qB[k.toNat]!).qE:Int) > 0))
    ·skip
     replace h34:=of_decide_eq_false h34
     refine qY 68 rfl rfl (sp (.pointer (some ⟨bp,op,none⟩)) (qY 68 rfl rfl (sp (.pointer (some ⟨bp,op,none⟩)) (qY 68 rfl rfl (oF rfl (qY 68 rfl rfl (oL rfl (H.xU 3 rfl 2 rfl) (qY 68 rfl rfl (sp (.int .i64 k_1) (qY 68 rfl rfl ?_))))))))))
     obtain ⟨b35,o36,rfl⟩:=H.addr 5 rfl qg
     refine oI rfl rfl (qY 68 rfl rfl (oL rfl (H.Qn 5 rfl k_1 qg qg) (qY 68 rfl rfl (sps [.bool (!(p.qL[k_1]!)),.bool (!(p.qL[k_1]!))] (zjn (xC (!(p.qL[k_1]!)) rfl (fun h38=>?_) (fun h38=>?_)))))))
     ·skip
      replace h38:=xB h38
      refine xP ?_
      refine jO rfl H [] fun H=>?_
      have S:=H.zq [] [0,1,2,3,4,5,6,7,8]
      refine rtp 0 (.slice (some ⟨b28,0,none⟩) left.length c17) S ?_
      refine rtp 1 (.int .i64 (pAt p ((p.qB[k.toNat]!).qE))) S ?_
      refine rtp 2 (.int .i64 k_1) S ?_
      refine rt 3 (.int .i64 ((pAt p ((p.qB[k.toNat]!).qE))+k_1)) (y_add (pAt p ((p.qB[k.toNat]!).qE)) k_1 rfl rfl qg) S ?_
      refine tI 4 rfl rfl rfl S ?_
      refine rtp 6 (.pointer (some ⟨b6,o7+(k:Int).toNat * 3,none⟩)) S ?_
      refine rtp 7 (.pointer (some ⟨b6,o7+(k:Int).toNat * 3,none⟩)) S ?_
      refine tF 8 rfl rfl S ?_
      refine tL 9 rfl rfl (fun _ h=>h.xU 2 rfl 2 rfl) S ?_
      refine rtp 10 (.int .i64 k_1) S ?_
      obtain ⟨b40,o41,rfl⟩:=H.addr 1 rfl qg
      have S:=H.zq [] [0,1,2,3,4,5,6,7,8]
      refine tI 11 rfl rfl rfl S ?_
      refine tL 12 rfl rfl (fun _ h=>h.vT 1 rfl k_1 qg) S ?_
      refine rtp 13 (.int .i64 1) S ?_
      refine rt 14 (.int .i64 ((((p.qB[k.toNat]!).fIn)[k_1]!) * 1)) (y_mul (((p.qB[k.toNat]!).fIn)[k_1]!) 1 rfl rfl qg) S ?_
      refine ro 5 rfl (xY (.int .i64 (((xH own (pAt p (p.qB[k.toNat]!).qE) (Opens p (p.qB[k.toNat]!).qE) (p.qB[k.toNat]!).qU (p.qB[k.toNat]!).fIn 1 left k_1).set (own+k_1) (((xH own (pAt p (p.qB[k.toNat]!).qE) (Opens p (p.qB[k.toNat]!).qE) (p.qB[k.toNat]!).qU (p.qB[k.toNat]!).fIn 1 left k_1)[own+k_1]!) - ((((p.qB[k.toNat]!).qU)[k_1]!) * 1)))[(pAt p ((p.qB[k.toNat]!).qE))+k_1]!)) Tryz.isAgg2 rfl (H.yE 0 rfl (iv:=(pAt p ((p.qB[k.toNat]!).qE))+k_1) (i:=((pAt p ((p.qB[k.toNat]!).qE))+k_1)) qg qg) (⟨H.pick [] [0,1,2,3,4,5,6,7,8],?_⟩))
      have S:=H.zq [] [0,1,2,3,4,5,6,7,8]
      refine rt 15 (.int .i64 ((((xH own (pAt p (p.qB[k.toNat]!).qE) (Opens p (p.qB[k.toNat]!).qE) (p.qB[k.toNat]!).qU (p.qB[k.toNat]!).fIn 1 left k_1).set (own+k_1) (((xH own (pAt p (p.qB[k.toNat]!).qE) (Opens p (p.qB[k.toNat]!).qE) (p.qB[k.toNat]!).qU (p.qB[k.toNat]!).fIn 1 left k_1)[own+k_1]!) - ((((p.qB[k.toNat]!).qU)[k_1]!) * 1)))[(pAt p ((p.qB[k.toNat]!).qE))+k_1]!) - ((((p.qB[k.toNat]!).fIn)[k_1]!) * 1))) (y_sub (((xH own (pAt p (p.qB[k.toNat]!).qE) (Opens p (p.qB[k.toNat]!).qE) (p.qB[k.toNat]!).qU (p.qB[k.toNat]!).fIn 1 left k_1).set (own+k_1) (((xH own (pAt p (p.qB[k.toNat]!).qE) (Opens p (p.qB[k.toNat]!).qE) (p.qB[k.toNat]!).qU (p.qB[k.toNat]!).fIn 1 left k_1)[own+k_1]!) - ((((p.qB[k.toNat]!).qU)[k_1]!) * 1)))[(pAt p ((p.qB[k.toNat]!).qE))+k_1]!) ((((p.qB[k.toNat]!).fIn)[k_1]!) * 1) rfl rfl qg) S ?_
      refine tI 16 rfl rfl rfl S ?_
      refine ro 17 rfl (vg H 0 rfl ((((xH own (pAt p (p.qB[k.toNat]!).qE) (Opens p (p.qB[k.toNat]!).qE) (p.qB[k.toNat]!).qU (p.qB[k.toNat]!).fIn 1 left k_1).set (own+k_1) (((xH own (pAt p (p.qB[k.toNat]!).qE) (Opens p (p.qB[k.toNat]!).qE) (p.qB[k.toNat]!).qU (p.qB[k.toNat]!).fIn 1 left k_1)[own+k_1]!) - ((((p.qB[k.toNat]!).qU)[k_1]!) * 1)))[(pAt p ((p.qB[k.toNat]!).qE))+k_1]!) - ((((p.qB[k.toNat]!).fIn)[k_1]!) * 1)) Tryz.sizeOf2 rfl rfl (i:=((pAt p ((p.qB[k.toNat]!).qE))+k_1)) qg qg fun w43 H=>⟨H.pick [] [0,1,2,3,4,5,6,7,8],(xI qi (t_n (xJ ?_)))⟩)
      refine sps [.bool false,.bool false] (zG [97,98,99,100,101,102,103] (sps [.bool false,.bool false] (xN (b_n (t_n (xJ (sp (.int .i64 k_1) (sw (xX k_1 1 rfl rfl qg (sp (.int .i64 (k_1+1)) (xN ?_)))))))))))
      refine xg (m' :=(p.qJ - ((k_1+1):Int)).toNat) qg ⟨_,false,k_1+1,(((xH own (pAt p (p.qB[k.toNat]!).qE) (Opens p (p.qB[k.toNat]!).qE) (p.qB[k.toNat]!).qU (p.qB[k.toNat]!).fIn 1 left k_1).set (own+k_1) (((xH own (pAt p (p.qB[k.toNat]!).qE) (Opens p (p.qB[k.toNat]!).qE) (p.qB[k.toNat]!).qU (p.qB[k.toNat]!).fIn 1 left k_1)[own+k_1]!) - ((((p.qB[k.toNat]!).qU)[k_1]!) * 1))).set ((pAt p ((p.qB[k.toNat]!).qE))+k_1) ((((xH own (pAt p (p.qB[k.toNat]!).qE) (Opens p (p.qB[k.toNat]!).qE) (p.qB[k.toNat]!).qU (p.qB[k.toNat]!).fIn 1 left k_1).set (own+k_1) (((xH own (pAt p (p.qB[k.toNat]!).qE) (Opens p (p.qB[k.toNat]!).qE) (p.qB[k.toNat]!).qU (p.qB[k.toNat]!).fIn 1 left k_1)[own+k_1]!) - ((((p.qB[k.toNat]!).qU)[k_1]!) * 1)))[(pAt p ((p.qB[k.toNat]!).qE))+k_1]!) - ((((p.qB[k.toNat]!).fIn)[k_1]!) * 1))),uE8,?_,?_,?_,rfl,N,H⟩
      · first | exact jZ (zy qm) | exact Ql qg | exact yc (zZ qm) qg (by first | exact .inl qg | exact .inr ‹p.qL[k_1]! =false› | exact .inr (by simp_all)) qg | exact jY (zZ qm) (by first | assumption | (rintro (h | h);omega;exact absurd ‹p.qL[k_1]! =true› (by rw [h];decide)) | (rintro (h | h);omega;simp_all)) qg
      · first | exact jW (by first | exact .inl qg | exact .inr ‹p.qL[k_1]! =false› | exact .inr (by simp_all)) | exact vG (by first | assumption | (rintro (h | h);omega;exact absurd ‹p.qL[k_1]! =true› (by rw [h];decide)) | (rintro (h | h);omega;simp_all))
      · omega
     ·skip
      replace h38:=xq h38
      refine xf (b_n (t_n (xJ (sp (.int .i64 k_1) (sw (xX k_1 1 rfl rfl qg (sp (.int .i64 (k_1+1)) (xN (xg (m' :=(p.qJ - ((k_1+1):Int)).toNat) qg ⟨_,false,k_1+1,((xH own (pAt p (p.qB[k.toNat]!).qE) (Opens p (p.qB[k.toNat]!).qE) (p.qB[k.toNat]!).qU (p.qB[k.toNat]!).fIn 1 left k_1).set (own+k_1) (((xH own (pAt p (p.qB[k.toNat]!).qE) (Opens p (p.qB[k.toNat]!).qE) (p.qB[k.toNat]!).qU (p.qB[k.toNat]!).fIn 1 left k_1)[own+k_1]!) - ((((p.qB[k.toNat]!).qU)[k_1]!) * 1))),uE8,?_,?_,?_,rfl,N,H⟩)))))))))
      · first | exact jZ (zy qm) | exact Ql qg | exact yc (zZ qm) qg (by first | exact .inl qg | exact .inr ‹p.qL[k_1]! =false› | exact .inr (by simp_all)) qg | exact jY (zZ qm) (by first | assumption | (rintro (h | h);omega;exact absurd ‹p.qL[k_1]! =true› (by rw [h];decide)) | (rintro (h | h);omega;simp_all)) qg
      · first | exact jW (by first | exact .inl qg | exact .inr ‹p.qL[k_1]! =false› | exact .inr (by simp_all)) | exact vG (by first | assumption | (rintro (h | h);omega;exact absurd ‹p.qL[k_1]! =true› (by rw [h];decide)) | (rintro (h | h);omega;simp_all))
      · omega
    ·skip
     replace h34:=of_decide_eq_true h34
     refine zG [69,70,71,72,73,74,75,76] (sp (.bool true) (zjn (xC true rfl (fun _=>xP ?_) (fun h=>absurd h qj))))
     refine jO rfl H [] fun H=>?_
     have S:=H.zq [] [0,1,2,3,4,5,6,7,8]
     refine rtp 0 (.slice (some ⟨b28,0,none⟩) left.length c17) S ?_
     refine rtp 1 (.int .i64 (pAt p ((p.qB[k.toNat]!).qE))) S ?_
     refine rtp 2 (.int .i64 k_1) S ?_
     refine rt 3 (.int .i64 ((pAt p ((p.qB[k.toNat]!).qE))+k_1)) (y_add (pAt p ((p.qB[k.toNat]!).qE)) k_1 rfl rfl qg) S ?_
     refine tI 4 rfl rfl rfl S ?_
     refine rtp 6 (.pointer (some ⟨b6,o7+(k:Int).toNat * 3,none⟩)) S ?_
     refine rtp 7 (.pointer (some ⟨b6,o7+(k:Int).toNat * 3,none⟩)) S ?_
     refine tF 8 rfl rfl S ?_
     refine tL 9 rfl rfl (fun _ h=>h.xU 2 rfl 2 rfl) S ?_
     refine rtp 10 (.int .i64 k_1) S ?_
     obtain ⟨b45,o46,rfl⟩:=H.addr 1 rfl qg
     have S:=H.zq [] [0,1,2,3,4,5,6,7,8]
     refine tI 11 rfl rfl rfl S ?_
     refine tL 12 rfl rfl (fun _ h=>h.vT 1 rfl k_1 qg) S ?_
     refine rtp 13 (.int .i64 1) S ?_
     refine rt 14 (.int .i64 ((((p.qB[k.toNat]!).fIn)[k_1]!) * 1)) (y_mul (((p.qB[k.toNat]!).fIn)[k_1]!) 1 rfl rfl qg) S ?_
     refine ro 5 rfl (xY (.int .i64 (((xH own (pAt p (p.qB[k.toNat]!).qE) (Opens p (p.qB[k.toNat]!).qE) (p.qB[k.toNat]!).qU (p.qB[k.toNat]!).fIn 1 left k_1).set (own+k_1) (((xH own (pAt p (p.qB[k.toNat]!).qE) (Opens p (p.qB[k.toNat]!).qE) (p.qB[k.toNat]!).qU (p.qB[k.toNat]!).fIn 1 left k_1)[own+k_1]!) - ((((p.qB[k.toNat]!).qU)[k_1]!) * 1)))[(pAt p ((p.qB[k.toNat]!).qE))+k_1]!)) Tryz.isAgg2 rfl (H.yE 0 rfl (iv:=(pAt p ((p.qB[k.toNat]!).qE))+k_1) (i:=((pAt p ((p.qB[k.toNat]!).qE))+k_1)) qg qg) (⟨H.pick [] [0,1,2,3,4,5,6,7,8],?_⟩))
     have S:=H.zq [] [0,1,2,3,4,5,6,7,8]
     refine rt 15 (.int .i64 ((((xH own (pAt p (p.qB[k.toNat]!).qE) (Opens p (p.qB[k.toNat]!).qE) (p.qB[k.toNat]!).qU (p.qB[k.toNat]!).fIn 1 left k_1).set (own+k_1) (((xH own (pAt p (p.qB[k.toNat]!).qE) (Opens p (p.qB[k.toNat]!).qE) (p.qB[k.toNat]!).qU (p.qB[k.toNat]!).fIn 1 left k_1)[own+k_1]!) - ((((p.qB[k.toNat]!).qU)[k_1]!) * 1)))[(pAt p ((p.qB[k.toNat]!).qE))+k_1]!) - ((((p.qB[k.toNat]!).fIn)[k_1]!) * 1))) (y_sub (((xH own (pAt p (p.qB[k.toNat]!).qE) (Opens p (p.qB[k.toNat]!).qE) (p.qB[k.toNat]!).qU (p.qB[k.toNat]!).fIn 1 left k_1).set (own+k_1) (((xH own (pAt p (p.qB[k.toNat]!).qE) (Opens p (p.qB[k.toNat]!).qE) (p.qB[k.toNat]!).qU (p.qB[k.toNat]!).fIn 1 left k_1)[own+k_1]!) - ((((p.qB[k.toNat]!).qU)[k_1]!) * 1)))[(pAt p ((p.qB[k.toNat]!).qE))+k_1]!) ((((p.qB[k.toNat]!).fIn)[k_1]!) * 1) rfl rfl qg) S ?_
     refine tI 16 rfl rfl rfl S ?_
     refine ro 17 rfl (vg H 0 rfl ((((xH own (pAt p (p.qB[k.toNat]!).qE) (Opens p (p.qB[k.toNat]!).qE) (p.qB[k.toNat]!).qU (p.qB[k.toNat]!).fIn 1 left k_1).set (own+k_1) (((xH own (pAt p (p.qB[k.toNat]!).qE) (Opens p (p.qB[k.toNat]!).qE) (p.qB[k.toNat]!).qU (p.qB[k.toNat]!).fIn 1 left k_1)[own+k_1]!) - ((((p.qB[k.toNat]!).qU)[k_1]!) * 1)))[(pAt p ((p.qB[k.toNat]!).qE))+k_1]!) - ((((p.qB[k.toNat]!).fIn)[k_1]!) * 1)) Tryz.sizeOf2 rfl rfl (i:=((pAt p ((p.qB[k.toNat]!).qE))+k_1)) qg qg fun w48 H=>⟨H.pick [] [0,1,2,3,4,5,6,7,8],(xI qi (t_n (xJ ?_)))⟩)
     refine sps [.bool false,.bool false] (zG [97,98,99,100,101,102,103] (sps [.bool false,.bool false] (xN (b_n (t_n (xJ (sp (.int .i64 k_1) (sw (xX k_1 1 rfl rfl qg (sp (.int .i64 (k_1+1)) (xN ?_)))))))))))
     refine xg (m' :=(p.qJ - ((k_1+1):Int)).toNat) qg ⟨_,false,k_1+1,(((xH own (pAt p (p.qB[k.toNat]!).qE) (Opens p (p.qB[k.toNat]!).qE) (p.qB[k.toNat]!).qU (p.qB[k.toNat]!).fIn 1 left k_1).set (own+k_1) (((xH own (pAt p (p.qB[k.toNat]!).qE) (Opens p (p.qB[k.toNat]!).qE) (p.qB[k.toNat]!).qU (p.qB[k.toNat]!).fIn 1 left k_1)[own+k_1]!) - ((((p.qB[k.toNat]!).qU)[k_1]!) * 1))).set ((pAt p ((p.qB[k.toNat]!).qE))+k_1) ((((xH own (pAt p (p.qB[k.toNat]!).qE) (Opens p (p.qB[k.toNat]!).qE) (p.qB[k.toNat]!).qU (p.qB[k.toNat]!).fIn 1 left k_1).set (own+k_1) (((xH own (pAt p (p.qB[k.toNat]!).qE) (Opens p (p.qB[k.toNat]!).qE) (p.qB[k.toNat]!).qU (p.qB[k.toNat]!).fIn 1 left k_1)[own+k_1]!) - ((((p.qB[k.toNat]!).qU)[k_1]!) * 1)))[(pAt p ((p.qB[k.toNat]!).qE))+k_1]!) - ((((p.qB[k.toNat]!).fIn)[k_1]!) * 1))),uE8,?_,?_,?_,rfl,N,H⟩
     · first | exact jZ (zy qm) | exact Ql qg | exact yc (zZ qm) qg (by first | exact .inl qg | exact .inr ‹p.qL[k_1]! =false› | exact .inr (by simp_all)) qg | exact jY (zZ qm) (by first | assumption | (rintro (h | h);omega;exact absurd ‹p.qL[k_1]! =true› (by rw [h];decide)) | (rintro (h | h);omega;simp_all)) qg
     · first | exact jW (by first | exact .inl qg | exact .inr ‹p.qL[k_1]! =false› | exact .inr (by simp_all)) | exact vG (by first | assumption | (rintro (h | h);omega;exact absurd ‹p.qL[k_1]! =true› (by rw [h];decide)) | (rintro (h | h);omega;simp_all))
     · omega
   ·skip
    refine qY 54 rfl rfl (sp (.slice (some ⟨b28,0,none⟩) left.length c17) (qY 54 rfl rfl (sp (.int .i64 own) (qY 54 rfl rfl (sp (.int .i64 k_1) (qY 54 rfl rfl (sw (xX own k_1 rfl rfl qg (qY 54 rfl rfl (oI rfl rfl (qY 54 rfl rfl (oL rfl (H.yE 0 rfl (iv:=own+k_1) (i:=(own+k_1)) qg qg) (qY 54 rfl rfl ?_)))))))))))))
    refine sps [.bool (decide ((((xH own (pAt p (p.qB[k.toNat]!).qE) (Opens p (p.qB[k.toNat]!).qE) (p.qB[k.toNat]!).qU (p.qB[k.toNat]!).fIn 1 left k_1).set (own+k_1) (((xH own (pAt p (p.qB[k.toNat]!).qE) (Opens p (p.qB[k.toNat]!).qE) (p.qB[k.toNat]!).qU (p.qB[k.toNat]!).fIn 1 left k_1)[own+k_1]!) - ((((p.qB[k.toNat]!).qU)[k_1]!) * 1)))[own+k_1]! :Int)≥0)),.bool (decide ((((xH own (pAt p (p.qB[k.toNat]!).qE) (Opens p (p.qB[k.toNat]!).qE) (p.qB[k.toNat]!).qU (p.qB[k.toNat]!).fIn 1 left k_1).set (own+k_1) (((xH own (pAt p (p.qB[k.toNat]!).qE) (Opens p (p.qB[k.toNat]!).qE) (p.qB[k.toNat]!).qU (p.qB[k.toNat]!).fIn 1 left k_1)[own+k_1]!) - ((((p.qB[k.toNat]!).qU)[k_1]!) * 1)))[own+k_1]! :Int)≥0)),.bool (decide ((((xH own (pAt p (p.qB[k.toNat]!).qE) (Opens p (p.qB[k.toNat]!).qE) (p.qB[k.toNat]!).qU (p.qB[k.toNat]!).fIn 1 left k_1).set (own+k_1) (((xH own (pAt p (p.qB[k.toNat]!).qE) (Opens p (p.qB[k.toNat]!).qE) (p.qB[k.toNat]!).qU (p.qB[k.toNat]!).fIn 1 left k_1)[own+k_1]!) - ((((p.qB[k.toNat]!).qU)[k_1]!) * 1)))[own+k_1]! :Int)≥0))] ?_
    refine zjc (sps [.pointer (some ⟨b6,o7+(k:Int).toNat * 3,none⟩),.pointer (some ⟨b6,o7+(k:Int).toNat * 3,none⟩)] (oF rfl (oL rfl (H.xU 2 rfl 0 rfl) (sps [.bool (decide (((p.qB[k.toNat]!).qE:Int) > 0)),.bool (decide (((p.qB[k.toNat]!).qE:Int) > 0))] ?_))))
    cases h49:(decide (((p.qB[k.toNat]!).qE:Int) > 0))
    ·skip
     replace h49:=of_decide_eq_false h49
     refine qY 68 rfl rfl (sp (.pointer (some ⟨bp,op,none⟩)) (qY 68 rfl rfl (sp (.pointer (some ⟨bp,op,none⟩)) (qY 68 rfl rfl (oF rfl (qY 68 rfl rfl (oL rfl (H.xU 3 rfl 2 rfl) (qY 68 rfl rfl (sp (.int .i64 k_1) (qY 68 rfl rfl ?_))))))))))
     obtain ⟨b50,o51,rfl⟩:=H.addr 5 rfl qg
     refine oI rfl rfl (qY 68 rfl rfl (oL rfl (H.Qn 5 rfl k_1 qg qg) (qY 68 rfl rfl (sps [.bool (!(p.qL[k_1]!)),.bool (!(p.qL[k_1]!))] (zjn (xC (!(p.qL[k_1]!)) rfl (fun h53=>?_) (fun h53=>?_)))))))
     ·skip
      replace h53:=xB h53
      refine xP ?_
      refine jO rfl H [] fun H=>?_
      have S:=H.zq [] [0,1,2,3,4,5,6,7,8]
      refine rtp 0 (.slice (some ⟨b28,0,none⟩) left.length c17) S ?_
      refine rtp 1 (.int .i64 (pAt p ((p.qB[k.toNat]!).qE))) S ?_
      refine rtp 2 (.int .i64 k_1) S ?_
      refine rt 3 (.int .i64 ((pAt p ((p.qB[k.toNat]!).qE))+k_1)) (y_add (pAt p ((p.qB[k.toNat]!).qE)) k_1 rfl rfl qg) S ?_
      refine tI 4 rfl rfl rfl S ?_
      refine rtp 6 (.pointer (some ⟨b6,o7+(k:Int).toNat * 3,none⟩)) S ?_
      refine rtp 7 (.pointer (some ⟨b6,o7+(k:Int).toNat * 3,none⟩)) S ?_
      refine tF 8 rfl rfl S ?_
      refine tL 9 rfl rfl (fun _ h=>h.xU 2 rfl 2 rfl) S ?_
      refine rtp 10 (.int .i64 k_1) S ?_
      obtain ⟨b55,o56,rfl⟩:=H.addr 1 rfl qg
      have S:=H.zq [] [0,1,2,3,4,5,6,7,8]
      refine tI 11 rfl rfl rfl S ?_
      refine tL 12 rfl rfl (fun _ h=>h.vT 1 rfl k_1 qg) S ?_
      refine rtp 13 (.int .i64 1) S ?_
      refine rt 14 (.int .i64 ((((p.qB[k.toNat]!).fIn)[k_1]!) * 1)) (y_mul (((p.qB[k.toNat]!).fIn)[k_1]!) 1 rfl rfl qg) S ?_
      refine ro 5 rfl (xY (.int .i64 (((xH own (pAt p (p.qB[k.toNat]!).qE) (Opens p (p.qB[k.toNat]!).qE) (p.qB[k.toNat]!).qU (p.qB[k.toNat]!).fIn 1 left k_1).set (own+k_1) (((xH own (pAt p (p.qB[k.toNat]!).qE) (Opens p (p.qB[k.toNat]!).qE) (p.qB[k.toNat]!).qU (p.qB[k.toNat]!).fIn 1 left k_1)[own+k_1]!) - ((((p.qB[k.toNat]!).qU)[k_1]!) * 1)))[(pAt p ((p.qB[k.toNat]!).qE))+k_1]!)) Tryz.isAgg2 rfl (H.yE 0 rfl (iv:=(pAt p ((p.qB[k.toNat]!).qE))+k_1) (i:=((pAt p ((p.qB[k.toNat]!).qE))+k_1)) qg qg) (⟨H.pick [] [0,1,2,3,4,5,6,7,8],?_⟩))
      have S:=H.zq [] [0,1,2,3,4,5,6,7,8]
      refine rt 15 (.int .i64 ((((xH own (pAt p (p.qB[k.toNat]!).qE) (Opens p (p.qB[k.toNat]!).qE) (p.qB[k.toNat]!).qU (p.qB[k.toNat]!).fIn 1 left k_1).set (own+k_1) (((xH own (pAt p (p.qB[k.toNat]!).qE) (Opens p (p.qB[k.toNat]!).qE) (p.qB[k.toNat]!).qU (p.qB[k.toNat]!).fIn 1 left k_1)[own+k_1]!) - ((((p.qB[k.toNat]!).qU)[k_1]!) * 1)))[(pAt p ((p.qB[k.toNat]!).qE))+k_1]!) - ((((p.qB[k.toNat]!).fIn)[k_1]!) * 1))) (y_sub (((xH own (pAt p (p.qB[k.toNat]!).qE) (Opens p (p.qB[k.toNat]!).qE) (p.qB[k.toNat]!).qU (p.qB[k.toNat]!).fIn 1 left k_1).set (own+k_1) (((xH own (pAt p (p.qB[k.toNat]!).qE) (Opens p (p.qB[k.toNat]!).qE) (p.qB[k.toNat]!).qU (p.qB[k.toNat]!).fIn 1 left k_1)[own+k_1]!) - ((((p.qB[k.toNat]!).qU)[k_1]!) * 1)))[(pAt p ((p.qB[k.toNat]!).qE))+k_1]!) ((((p.qB[k.toNat]!).fIn)[k_1]!) * 1) rfl rfl qg) S ?_
      refine tI 16 rfl rfl rfl S ?_
      refine ro 17 rfl (vg H 0 rfl ((((xH own (pAt p (p.qB[k.toNat]!).qE) (Opens p (p.qB[k.toNat]!).qE) (p.qB[k.toNat]!).qU (p.qB[k.toNat]!).fIn 1 left k_1).set (own+k_1) (((xH own (pAt p (p.qB[k.toNat]!).qE) (Opens p (p.qB[k.toNat]!).qE) (p.qB[k.toNat]!).qU (p.qB[k.toNat]!).fIn 1 left k_1)[own+k_1]!) - ((((p.qB[k.toNat]!).qU)[k_1]!) * 1)))[(pAt p ((p.qB[k.toNat]!).qE))+k_1]!) - ((((p.qB[k.toNat]!).fIn)[k_1]!) * 1)) Tryz.sizeOf2 rfl rfl (i:=((pAt p ((p.qB[k.toNat]!).qE))+k_1)) qg qg fun w58 H=>⟨H.pick [] [0,1,2,3,4,5,6,7,8],(xI qi (t_n (xJ ?_)))⟩)
      refine sps [.bool (decide ((((xH own (pAt p (p.qB[k.toNat]!).qE) (Opens p (p.qB[k.toNat]!).qE) (p.qB[k.toNat]!).qU (p.qB[k.toNat]!).fIn 1 left k_1).set (own+k_1) (((xH own (pAt p (p.qB[k.toNat]!).qE) (Opens p (p.qB[k.toNat]!).qE) (p.qB[k.toNat]!).qU (p.qB[k.toNat]!).fIn 1 left k_1)[own+k_1]!) - ((((p.qB[k.toNat]!).qU)[k_1]!) * 1)))[own+k_1]! :Int)≥0)),.bool (decide ((((xH own (pAt p (p.qB[k.toNat]!).qE) (Opens p (p.qB[k.toNat]!).qE) (p.qB[k.toNat]!).qU (p.qB[k.toNat]!).fIn 1 left k_1).set (own+k_1) (((xH own (pAt p (p.qB[k.toNat]!).qE) (Opens p (p.qB[k.toNat]!).qE) (p.qB[k.toNat]!).qU (p.qB[k.toNat]!).fIn 1 left k_1)[own+k_1]!) - ((((p.qB[k.toNat]!).qU)[k_1]!) * 1)))[own+k_1]! :Int)≥0))] ?_
      cases h59:(decide ((((xH own (pAt p (p.qB[k.toNat]!).qE) (Opens p (p.qB[k.toNat]!).qE) (p.qB[k.toNat]!).qU (p.qB[k.toNat]!).fIn 1 left k_1).set (own+k_1) (((xH own (pAt p (p.qB[k.toNat]!).qE) (Opens p (p.qB[k.toNat]!).qE) (p.qB[k.toNat]!).qU (p.qB[k.toNat]!).fIn 1 left k_1)[own+k_1]!) - ((((p.qB[k.toNat]!).qU)[k_1]!) * 1)))[own+k_1]! :Int)≥0))
      ·skip
       replace h59:=of_decide_eq_false h59
       refine zG [97,98,99,100,101,102,103] (sps [.bool false,.bool false] (xN (b_n (t_n (xJ (sp (.int .i64 k_1) (sw (xX k_1 1 rfl rfl qg (sp (.int .i64 (k_1+1)) (xN ?_))))))))))
       refine xg (m' :=(p.qJ - ((k_1+1):Int)).toNat) qg ⟨_,false,k_1+1,(((xH own (pAt p (p.qB[k.toNat]!).qE) (Opens p (p.qB[k.toNat]!).qE) (p.qB[k.toNat]!).qU (p.qB[k.toNat]!).fIn 1 left k_1).set (own+k_1) (((xH own (pAt p (p.qB[k.toNat]!).qE) (Opens p (p.qB[k.toNat]!).qE) (p.qB[k.toNat]!).qU (p.qB[k.toNat]!).fIn 1 left k_1)[own+k_1]!) - ((((p.qB[k.toNat]!).qU)[k_1]!) * 1))).set ((pAt p ((p.qB[k.toNat]!).qE))+k_1) ((((xH own (pAt p (p.qB[k.toNat]!).qE) (Opens p (p.qB[k.toNat]!).qE) (p.qB[k.toNat]!).qU (p.qB[k.toNat]!).fIn 1 left k_1).set (own+k_1) (((xH own (pAt p (p.qB[k.toNat]!).qE) (Opens p (p.qB[k.toNat]!).qE) (p.qB[k.toNat]!).qU (p.qB[k.toNat]!).fIn 1 left k_1)[own+k_1]!) - ((((p.qB[k.toNat]!).qU)[k_1]!) * 1)))[(pAt p ((p.qB[k.toNat]!).qE))+k_1]!) - ((((p.qB[k.toNat]!).fIn)[k_1]!) * 1))),uE8,?_,?_,?_,rfl,N,H⟩
       · first | exact jZ (zy qm) | exact Ql qg | exact yc (zZ qm) qg (by first | exact .inl qg | exact .inr ‹p.qL[k_1]! =false› | exact .inr (by simp_all)) qg | exact jY (zZ qm) (by first | assumption | (rintro (h | h);omega;exact absurd ‹p.qL[k_1]! =true› (by rw [h];decide)) | (rintro (h | h);omega;simp_all)) qg
       · first | exact jW (by first | exact .inl qg | exact .inr ‹p.qL[k_1]! =false› | exact .inr (by simp_all)) | exact vG (by first | assumption | (rintro (h | h);omega;exact absurd ‹p.qL[k_1]! =true› (by rw [h];decide)) | (rintro (h | h);omega;simp_all))
       · omega
      ·skip
       replace h59:=of_decide_eq_true h59
       refine qY 96 rfl rfl (sp (.slice (some ⟨b28,0,none⟩) left.length c17) (qY 96 rfl rfl (sp (.int .i64 (pAt p ((p.qB[k.toNat]!).qE))) (qY 96 rfl rfl (sp (.int .i64 k_1) (qY 96 rfl rfl (sw (xX (pAt p ((p.qB[k.toNat]!).qE)) k_1 rfl rfl qg (qY 96 rfl rfl (oI rfl rfl (qY 96 rfl rfl (oL rfl (H.yE 0 rfl (iv:=(pAt p ((p.qB[k.toNat]!).qE))+k_1) (i:=((pAt p ((p.qB[k.toNat]!).qE))+k_1)) qg qg) (qY 96 rfl rfl ?_)))))))))))))
       refine sps [.bool (decide (((((xH own (pAt p (p.qB[k.toNat]!).qE) (Opens p (p.qB[k.toNat]!).qE) (p.qB[k.toNat]!).qU (p.qB[k.toNat]!).fIn 1 left k_1).set (own+k_1) (((xH own (pAt p (p.qB[k.toNat]!).qE) (Opens p (p.qB[k.toNat]!).qE) (p.qB[k.toNat]!).qU (p.qB[k.toNat]!).fIn 1 left k_1)[own+k_1]!) - ((((p.qB[k.toNat]!).qU)[k_1]!) * 1))).set ((pAt p ((p.qB[k.toNat]!).qE))+k_1) ((((xH own (pAt p (p.qB[k.toNat]!).qE) (Opens p (p.qB[k.toNat]!).qE) (p.qB[k.toNat]!).qU (p.qB[k.toNat]!).fIn 1 left k_1).set (own+k_1) (((xH own (pAt p (p.qB[k.toNat]!).qE) (Opens p (p.qB[k.toNat]!).qE) (p.qB[k.toNat]!).qU (p.qB[k.toNat]!).fIn 1 left k_1)[own+k_1]!) - ((((p.qB[k.toNat]!).qU)[k_1]!) * 1)))[(pAt p ((p.qB[k.toNat]!).qE))+k_1]!) - ((((p.qB[k.toNat]!).fIn)[k_1]!) * 1)))[(pAt p ((p.qB[k.toNat]!).qE))+k_1]! :Int)≥0)),.bool (decide (((((xH own (pAt p (p.qB[k.toNat]!).qE) (Opens p (p.qB[k.toNat]!).qE) (p.qB[k.toNat]!).qU (p.qB[k.toNat]!).fIn 1 left k_1).set (own+k_1) (((xH own (pAt p (p.qB[k.toNat]!).qE) (Opens p (p.qB[k.toNat]!).qE) (p.qB[k.toNat]!).qU (p.qB[k.toNat]!).fIn 1 left k_1)[own+k_1]!) - ((((p.qB[k.toNat]!).qU)[k_1]!) * 1))).set ((pAt p ((p.qB[k.toNat]!).qE))+k_1) ((((xH own (pAt p (p.qB[k.toNat]!).qE) (Opens p (p.qB[k.toNat]!).qE) (p.qB[k.toNat]!).qU (p.qB[k.toNat]!).fIn 1 left k_1).set (own+k_1) (((xH own (pAt p (p.qB[k.toNat]!).qE) (Opens p (p.qB[k.toNat]!).qE) (p.qB[k.toNat]!).qU (p.qB[k.toNat]!).fIn 1 left k_1)[own+k_1]!) - ((((p.qB[k.toNat]!).qU)[k_1]!) * 1)))[(pAt p ((p.qB[k.toNat]!).qE))+k_1]!) - ((((p.qB[k.toNat]!).fIn)[k_1]!) * 1)))[(pAt p ((p.qB[k.toNat]!).qE))+k_1]! :Int)≥0)),.bool (decide (((((xH own (pAt p (p.qB[k.toNat]!).qE) (Opens p (p.qB[k.toNat]!).qE) (p.qB[k.toNat]!).qU (p.qB[k.toNat]!).fIn 1 left k_1).set (own+k_1) (((xH own (pAt p (p.qB[k.toNat]!).qE) (Opens p (p.qB[k.toNat]!).qE) (p.qB[k.toNat]!).qU (p.qB[k.toNat]!).fIn 1 left k_1)[own+k_1]!) - ((((p.qB[k.toNat]!).qU)[k_1]!) * 1))).set ((pAt p ((p.qB[k.toNat]!).qE))+k_1) ((((xH own (pAt p (p.qB[k.toNat]!).qE) (Opens p (p.qB[k.toNat]!).qE) (p.qB[k.toNat]!).qU (p.qB[k.toNat]!).fIn 1 left k_1).set (own+k_1) (((xH own (pAt p (p.qB[k.toNat]!).qE) (Opens p (p.qB[k.toNat]!).qE) (p.qB[k.toNat]!).qU (p.qB[k.toNat]!).fIn 1 left k_1)[own+k_1]!) - ((((p.qB[k.toNat]!).qU)[k_1]!) * 1)))[(pAt p ((p.qB[k.toNat]!).qE))+k_1]!) - ((((p.qB[k.toNat]!).fIn)[k_1]!) * 1)))[(pAt p ((p.qB[k.toNat]!).qE))+k_1]! :Int)≥0))] ?_
       refine xN (b_n (t_n (xJ (sp (.int .i64 k_1) (sw (xX k_1 1 rfl rfl qg (sp (.int .i64 (k_1+1)) (xN ?_))))))))
       refine xg (m' :=(p.qJ - ((k_1+1):Int)).toNat) qg ⟨_,decide (((((xH own (pAt p (p.qB[k.toNat]!).qE) (Opens p (p.qB[k.toNat]!).qE) (p.qB[k.toNat]!).qU (p.qB[k.toNat]!).fIn 1 left k_1).set (own+k_1) (((xH own (pAt p (p.qB[k.toNat]!).qE) (Opens p (p.qB[k.toNat]!).qE) (p.qB[k.toNat]!).qU (p.qB[k.toNat]!).fIn 1 left k_1)[own+k_1]!) - ((((p.qB[k.toNat]!).qU)[k_1]!) * 1))).set ((pAt p ((p.qB[k.toNat]!).qE))+k_1) ((((xH own (pAt p (p.qB[k.toNat]!).qE) (Opens p (p.qB[k.toNat]!).qE) (p.qB[k.toNat]!).qU (p.qB[k.toNat]!).fIn 1 left k_1).set (own+k_1) (((xH own (pAt p (p.qB[k.toNat]!).qE) (Opens p (p.qB[k.toNat]!).qE) (p.qB[k.toNat]!).qU (p.qB[k.toNat]!).fIn 1 left k_1)[own+k_1]!) - ((((p.qB[k.toNat]!).qU)[k_1]!) * 1)))[(pAt p ((p.qB[k.toNat]!).qE))+k_1]!) - ((((p.qB[k.toNat]!).fIn)[k_1]!) * 1)))[(pAt p ((p.qB[k.toNat]!).qE))+k_1]! :Int)≥0),k_1+1,(((xH own (pAt p (p.qB[k.toNat]!).qE) (Opens p (p.qB[k.toNat]!).qE) (p.qB[k.toNat]!).qU (p.qB[k.toNat]!).fIn 1 left k_1).set (own+k_1) (((xH own (pAt p (p.qB[k.toNat]!).qE) (Opens p (p.qB[k.toNat]!).qE) (p.qB[k.toNat]!).qU (p.qB[k.toNat]!).fIn 1 left k_1)[own+k_1]!) - ((((p.qB[k.toNat]!).qU)[k_1]!) * 1))).set ((pAt p ((p.qB[k.toNat]!).qE))+k_1) ((((xH own (pAt p (p.qB[k.toNat]!).qE) (Opens p (p.qB[k.toNat]!).qE) (p.qB[k.toNat]!).qU (p.qB[k.toNat]!).fIn 1 left k_1).set (own+k_1) (((xH own (pAt p (p.qB[k.toNat]!).qE) (Opens p (p.qB[k.toNat]!).qE) (p.qB[k.toNat]!).qU (p.qB[k.toNat]!).fIn 1 left k_1)[own+k_1]!) - ((((p.qB[k.toNat]!).qU)[k_1]!) * 1)))[(pAt p ((p.qB[k.toNat]!).qE))+k_1]!) - ((((p.qB[k.toNat]!).fIn)[k_1]!) * 1))),uE8,?_,?_,?_,rfl,N,H⟩
       · first | exact jZ (zy qm) | exact Ql qg | exact yc (zZ qm) qg (by first | exact .inl qg | exact .inr ‹p.qL[k_1]! =false› | exact .inr (by simp_all)) qg | exact jY (zZ qm) (by first | assumption | (rintro (h | h);omega;exact absurd ‹p.qL[k_1]! =true› (by rw [h];decide)) | (rintro (h | h);omega;simp_all)) qg
       · first | exact jW (by first | exact .inl qg | exact .inr ‹p.qL[k_1]! =false› | exact .inr (by simp_all)) | exact vG (by first | assumption | (rintro (h | h);omega;exact absurd ‹p.qL[k_1]! =true› (by rw [h];decide)) | (rintro (h | h);omega;simp_all))
       · omega
     ·skip
      replace h53:=xq h53
      refine xf (b_n (t_n (xJ (sp (.int .i64 k_1) (sw (xX k_1 1 rfl rfl qg (sp (.int .i64 (k_1+1)) (xN ?_))))))))
      refine xg (m' :=(p.qJ - ((k_1+1):Int)).toNat) qg ⟨_,decide ((((xH own (pAt p (p.qB[k.toNat]!).qE) (Opens p (p.qB[k.toNat]!).qE) (p.qB[k.toNat]!).qU (p.qB[k.toNat]!).fIn 1 left k_1).set (own+k_1) (((xH own (pAt p (p.qB[k.toNat]!).qE) (Opens p (p.qB[k.toNat]!).qE) (p.qB[k.toNat]!).qU (p.qB[k.toNat]!).fIn 1 left k_1)[own+k_1]!) - ((((p.qB[k.toNat]!).qU)[k_1]!) * 1)))[own+k_1]! :Int)≥0),k_1+1,((xH own (pAt p (p.qB[k.toNat]!).qE) (Opens p (p.qB[k.toNat]!).qE) (p.qB[k.toNat]!).qU (p.qB[k.toNat]!).fIn 1 left k_1).set (own+k_1) (((xH own (pAt p (p.qB[k.toNat]!).qE) (Opens p (p.qB[k.toNat]!).qE) (p.qB[k.toNat]!).qU (p.qB[k.toNat]!).fIn 1 left k_1)[own+k_1]!) - ((((p.qB[k.toNat]!).qU)[k_1]!) * 1))),uE8,?_,?_,?_,rfl,N,H⟩
      · first | exact jZ (zy qm) | exact Ql qg | exact yc (zZ qm) qg (by first | exact .inl qg | exact .inr ‹p.qL[k_1]! =false› | exact .inr (by simp_all)) qg | exact jY (zZ qm) (by first | assumption | (rintro (h | h);omega;exact absurd ‹p.qL[k_1]! =true› (by rw [h];decide)) | (rintro (h | h);omega;simp_all)) qg
      · first | exact jW (by first | exact .inl qg | exact .inr ‹p.qL[k_1]! =false› | exact .inr (by simp_all)) | exact vG (by first | assumption | (rintro (h | h);omega;exact absurd ‹p.qL[k_1]! =true› (by rw [h];decide)) | (rintro (h | h);omega;simp_all))
      · omega
    ·skip
     replace h49:=of_decide_eq_true h49
     refine zG [69,70,71,72,73,74,75,76] (sp (.bool true) (zjn (xC true rfl (fun _=>xP ?_) (fun h=>absurd h qj))))
     refine jO rfl H [] fun H=>?_
     have S:=H.zq [] [0,1,2,3,4,5,6,7,8]
     refine rtp 0 (.slice (some ⟨b28,0,none⟩) left.length c17) S ?_
     refine rtp 1 (.int .i64 (pAt p ((p.qB[k.toNat]!).qE))) S ?_
     refine rtp 2 (.int .i64 k_1) S ?_
     refine rt 3 (.int .i64 ((pAt p ((p.qB[k.toNat]!).qE))+k_1)) (y_add (pAt p ((p.qB[k.toNat]!).qE)) k_1 rfl rfl qg) S ?_
     refine tI 4 rfl rfl rfl S ?_
     refine rtp 6 (.pointer (some ⟨b6,o7+(k:Int).toNat * 3,none⟩)) S ?_
     refine rtp 7 (.pointer (some ⟨b6,o7+(k:Int).toNat * 3,none⟩)) S ?_
     refine tF 8 rfl rfl S ?_
     refine tL 9 rfl rfl (fun _ h=>h.xU 2 rfl 2 rfl) S ?_
     refine rtp 10 (.int .i64 k_1) S ?_
     obtain ⟨b61,o62,rfl⟩:=H.addr 1 rfl qg
     have S:=H.zq [] [0,1,2,3,4,5,6,7,8]
     refine tI 11 rfl rfl rfl S ?_
     refine tL 12 rfl rfl (fun _ h=>h.vT 1 rfl k_1 qg) S ?_
     refine rtp 13 (.int .i64 1) S ?_
     refine rt 14 (.int .i64 ((((p.qB[k.toNat]!).fIn)[k_1]!) * 1)) (y_mul (((p.qB[k.toNat]!).fIn)[k_1]!) 1 rfl rfl qg) S ?_
     refine ro 5 rfl (xY (.int .i64 (((xH own (pAt p (p.qB[k.toNat]!).qE) (Opens p (p.qB[k.toNat]!).qE) (p.qB[k.toNat]!).qU (p.qB[k.toNat]!).fIn 1 left k_1).set (own+k_1) (((xH own (pAt p (p.qB[k.toNat]!).qE) (Opens p (p.qB[k.toNat]!).qE) (p.qB[k.toNat]!).qU (p.qB[k.toNat]!).fIn 1 left k_1)[own+k_1]!) - ((((p.qB[k.toNat]!).qU)[k_1]!) * 1)))[(pAt p ((p.qB[k.toNat]!).qE))+k_1]!)) Tryz.isAgg2 rfl (H.yE 0 rfl (iv:=(pAt p ((p.qB[k.toNat]!).qE))+k_1) (i:=((pAt p ((p.qB[k.toNat]!).qE))+k_1)) qg qg) (⟨H.pick [] [0,1,2,3,4,5,6,7,8],?_⟩))
     have S:=H.zq [] [0,1,2,3,4,5,6,7,8]
     refine rt 15 (.int .i64 ((((xH own (pAt p (p.qB[k.toNat]!).qE) (Opens p (p.qB[k.toNat]!).qE) (p.qB[k.toNat]!).qU (p.qB[k.toNat]!).fIn 1 left k_1).set (own+k_1) (((xH own (pAt p (p.qB[k.toNat]!).qE) (Opens p (p.qB[k.toNat]!).qE) (p.qB[k.toNat]!).qU (p.qB[k.toNat]!).fIn 1 left k_1)[own+k_1]!) - ((((p.qB[k.toNat]!).qU)[k_1]!) * 1)))[(pAt p ((p.qB[k.toNat]!).qE))+k_1]!) - ((((p.qB[k.toNat]!).fIn)[k_1]!) * 1))) (y_sub (((xH own (pAt p (p.qB[k.toNat]!).qE) (Opens p (p.qB[k.toNat]!).qE) (p.qB[k.toNat]!).qU (p.qB[k.toNat]!).fIn 1 left k_1).set (own+k_1) (((xH own (pAt p (p.qB[k.toNat]!).qE) (Opens p (p.qB[k.toNat]!).qE) (p.qB[k.toNat]!).qU (p.qB[k.toNat]!).fIn 1 left k_1)[own+k_1]!) - ((((p.qB[k.toNat]!).qU)[k_1]!) * 1)))[(pAt p ((p.qB[k.toNat]!).qE))+k_1]!) ((((p.qB[k.toNat]!).fIn)[k_1]!) * 1) rfl rfl qg) S ?_
     refine tI 16 rfl rfl rfl S ?_
     refine ro 17 rfl (vg H 0 rfl ((((xH own (pAt p (p.qB[k.toNat]!).qE) (Opens p (p.qB[k.toNat]!).qE) (p.qB[k.toNat]!).qU (p.qB[k.toNat]!).fIn 1 left k_1).set (own+k_1) (((xH own (pAt p (p.qB[k.toNat]!).qE) (Opens p (p.qB[k.toNat]!).qE) (p.qB[k.toNat]!).qU (p.qB[k.toNat]!).fIn 1 left k_1)[own+k_1]!) - ((((p.qB[k.toNat]!).qU)[k_1]!) * 1)))[(pAt p ((p.qB[k.toNat]!).qE))+k_1]!) - ((((p.qB[k.toNat]!).fIn)[k_1]!) * 1)) Tryz.sizeOf2 rfl rfl (i:=((pAt p ((p.qB[k.toNat]!).qE))+k_1)) qg qg fun w64 H=>⟨H.pick [] [0,1,2,3,4,5,6,7,8],(xI qi (t_n (xJ ?_)))⟩)
     refine sps [.bool (decide ((((xH own (pAt p (p.qB[k.toNat]!).qE) (Opens p (p.qB[k.toNat]!).qE) (p.qB[k.toNat]!).qU (p.qB[k.toNat]!).fIn 1 left k_1).set (own+k_1) (((xH own (pAt p (p.qB[k.toNat]!).qE) (Opens p (p.qB[k.toNat]!).qE) (p.qB[k.toNat]!).qU (p.qB[k.toNat]!).fIn 1 left k_1)[own+k_1]!) - ((((p.qB[k.toNat]!).qU)[k_1]!) * 1)))[own+k_1]! :Int)≥0)),.bool (decide ((((xH own (pAt p (p.qB[k.toNat]!).qE) (Opens p (p.qB[k.toNat]!).qE) (p.qB[k.toNat]!).qU (p.qB[k.toNat]!).fIn 1 left k_1).set (own+k_1) (((xH own (pAt p (p.qB[k.toNat]!).qE) (Opens p (p.qB[k.toNat]!).qE) (p.qB[k.toNat]!).qU (p.qB[k.toNat]!).fIn 1 left k_1)[own+k_1]!) - ((((p.qB[k.toNat]!).qU)[k_1]!) * 1)))[own+k_1]! :Int)≥0))] ?_
     cases h65:(decide ((((xH own (pAt p (p.qB[k.toNat]!).qE) (Opens p (p.qB[k.toNat]!).qE) (p.qB[k.toNat]!).qU (p.qB[k.toNat]!).fIn 1 left k_1).set (own+k_1) (((xH own (pAt p (p.qB[k.toNat]!).qE) (Opens p (p.qB[k.toNat]!).qE) (p.qB[k.toNat]!).qU (p.qB[k.toNat]!).fIn 1 left k_1)[own+k_1]!) - ((((p.qB[k.toNat]!).qU)[k_1]!) * 1)))[own+k_1]! :Int)≥0))
     ·skip
      replace h65:=of_decide_eq_false h65
      refine zG [97,98,99,100,101,102,103] (sps [.bool false,.bool false] (xN (b_n (t_n (xJ (sp (.int .i64 k_1) (sw (xX k_1 1 rfl rfl qg (sp (.int .i64 (k_1+1)) (xN ?_))))))))))
      refine xg (m' :=(p.qJ - ((k_1+1):Int)).toNat) qg ⟨_,false,k_1+1,(((xH own (pAt p (p.qB[k.toNat]!).qE) (Opens p (p.qB[k.toNat]!).qE) (p.qB[k.toNat]!).qU (p.qB[k.toNat]!).fIn 1 left k_1).set (own+k_1) (((xH own (pAt p (p.qB[k.toNat]!).qE) (Opens p (p.qB[k.toNat]!).qE) (p.qB[k.toNat]!).qU (p.qB[k.toNat]!).fIn 1 left k_1)[own+k_1]!) - ((((p.qB[k.toNat]!).qU)[k_1]!) * 1))).set ((pAt p ((p.qB[k.toNat]!).qE))+k_1) ((((xH own (pAt p (p.qB[k.toNat]!).qE) (Opens p (p.qB[k.toNat]!).qE) (p.qB[k.toNat]!).qU (p.qB[k.toNat]!).fIn 1 left k_1).set (own+k_1) (((xH own (pAt p (p.qB[k.toNat]!).qE) (Opens p (p.qB[k.toNat]!).qE) (p.qB[k.toNat]!).qU (p.qB[k.toNat]!).fIn 1 left k_1)[own+k_1]!) - ((((p.qB[k.toNat]!).qU)[k_1]!) * 1)))[(pAt p ((p.qB[k.toNat]!).qE))+k_1]!) - ((((p.qB[k.toNat]!).fIn)[k_1]!) * 1))),uE8,?_,?_,?_,rfl,N,H⟩
      · first | exact jZ (zy qm) | exact Ql qg | exact yc (zZ qm) qg (by first | exact .inl qg | exact .inr ‹p.qL[k_1]! =false› | exact .inr (by simp_all)) qg | exact jY (zZ qm) (by first | assumption | (rintro (h | h);omega;exact absurd ‹p.qL[k_1]! =true› (by rw [h];decide)) | (rintro (h | h);omega;simp_all)) qg
      · first | exact jW (by first | exact .inl qg | exact .inr ‹p.qL[k_1]! =false› | exact .inr (by simp_all)) | exact vG (by first | assumption | (rintro (h | h);omega;exact absurd ‹p.qL[k_1]! =true› (by rw [h];decide)) | (rintro (h | h);omega;simp_all))
      · omega
     ·skip
      replace h65:=of_decide_eq_true h65
      refine qY 96 rfl rfl (sp (.slice (some ⟨b28,0,none⟩) left.length c17) (qY 96 rfl rfl (sp (.int .i64 (pAt p ((p.qB[k.toNat]!).qE))) (qY 96 rfl rfl (sp (.int .i64 k_1) (qY 96 rfl rfl (sw (xX (pAt p ((p.qB[k.toNat]!).qE)) k_1 rfl rfl qg (qY 96 rfl rfl (oI rfl rfl (qY 96 rfl rfl (oL rfl (H.yE 0 rfl (iv:=(pAt p ((p.qB[k.toNat]!).qE))+k_1) (i:=((pAt p ((p.qB[k.toNat]!).qE))+k_1)) qg qg) (qY 96 rfl rfl ?_)))))))))))))
      refine sps [.bool (decide (((((xH own (pAt p (p.qB[k.toNat]!).qE) (Opens p (p.qB[k.toNat]!).qE) (p.qB[k.toNat]!).qU (p.qB[k.toNat]!).fIn 1 left k_1).set (own+k_1) (((xH own (pAt p (p.qB[k.toNat]!).qE) (Opens p (p.qB[k.toNat]!).qE) (p.qB[k.toNat]!).qU (p.qB[k.toNat]!).fIn 1 left k_1)[own+k_1]!) - ((((p.qB[k.toNat]!).qU)[k_1]!) * 1))).set ((pAt p ((p.qB[k.toNat]!).qE))+k_1) ((((xH own (pAt p (p.qB[k.toNat]!).qE) (Opens p (p.qB[k.toNat]!).qE) (p.qB[k.toNat]!).qU (p.qB[k.toNat]!).fIn 1 left k_1).set (own+k_1) (((xH own (pAt p (p.qB[k.toNat]!).qE) (Opens p (p.qB[k.toNat]!).qE) (p.qB[k.toNat]!).qU (p.qB[k.toNat]!).fIn 1 left k_1)[own+k_1]!) - ((((p.qB[k.toNat]!).qU)[k_1]!) * 1)))[(pAt p ((p.qB[k.toNat]!).qE))+k_1]!) - ((((p.qB[k.toNat]!).fIn)[k_1]!) * 1)))[(pAt p ((p.qB[k.toNat]!).qE))+k_1]! :Int)≥0)),.bool (decide (((((xH own (pAt p (p.qB[k.toNat]!).qE) (Opens p (p.qB[k.toNat]!).qE) (p.qB[k.toNat]!).qU (p.qB[k.toNat]!).fIn 1 left k_1).set (own+k_1) (((xH own (pAt p (p.qB[k.toNat]!).qE) (Opens p (p.qB[k.toNat]!).qE) (p.qB[k.toNat]!).qU (p.qB[k.toNat]!).fIn 1 left k_1)[own+k_1]!) - ((((p.qB[k.toNat]!).qU)[k_1]!) * 1))).set ((pAt p ((p.qB[k.toNat]!).qE))+k_1) ((((xH own (pAt p (p.qB[k.toNat]!).qE) (Opens p (p.qB[k.toNat]!).qE) (p.qB[k.toNat]!).qU (p.qB[k.toNat]!).fIn 1 left k_1).set (own+k_1) (((xH own (pAt p (p.qB[k.toNat]!).qE) (Opens p (p.qB[k.toNat]!).qE) (p.qB[k.toNat]!).qU (p.qB[k.toNat]!).fIn 1 left k_1)[own+k_1]!) - ((((p.qB[k.toNat]!).qU)[k_1]!) * 1)))[(pAt p ((p.qB[k.toNat]!).qE))+k_1]!) - ((((p.qB[k.toNat]!).fIn)[k_1]!) * 1)))[(pAt p ((p.qB[k.toNat]!).qE))+k_1]! :Int)≥0)),.bool (decide (((((xH own (pAt p (p.qB[k.toNat]!).qE) (Opens p (p.qB[k.toNat]!).qE) (p.qB[k.toNat]!).qU (p.qB[k.toNat]!).fIn 1 left k_1).set (own+k_1) (((xH own (pAt p (p.qB[k.toNat]!).qE) (Opens p (p.qB[k.toNat]!).qE) (p.qB[k.toNat]!).qU (p.qB[k.toNat]!).fIn 1 left k_1)[own+k_1]!) - ((((p.qB[k.toNat]!).qU)[k_1]!) * 1))).set ((pAt p ((p.qB[k.toNat]!).qE))+k_1) ((((xH own (pAt p (p.qB[k.toNat]!).qE) (Opens p (p.qB[k.toNat]!).qE) (p.qB[k.toNat]!).qU (p.qB[k.toNat]!).fIn 1 left k_1).set (own+k_1) (((xH own (pAt p (p.qB[k.toNat]!).qE) (Opens p (p.qB[k.toNat]!).qE) (p.qB[k.toNat]!).qU (p.qB[k.toNat]!).fIn 1 left k_1)[own+k_1]!) - ((((p.qB[k.toNat]!).qU)[k_1]!) * 1)))[(pAt p ((p.qB[k.toNat]!).qE))+k_1]!) - ((((p.qB[k.toNat]!).fIn)[k_1]!) * 1)))[(pAt p ((p.qB[k.toNat]!).qE))+k_1]! :Int)≥0))] ?_
      refine xN (b_n (t_n (xJ (sp (.int .i64 k_1) (sw (xX k_1 1 rfl rfl qg (sp (.int .i64 (k_1+1)) (xN ?_))))))))
      refine xg (m' :=(p.qJ - ((k_1+1):Int)).toNat) qg ⟨_,decide (((((xH own (pAt p (p.qB[k.toNat]!).qE) (Opens p (p.qB[k.toNat]!).qE) (p.qB[k.toNat]!).qU (p.qB[k.toNat]!).fIn 1 left k_1).set (own+k_1) (((xH own (pAt p (p.qB[k.toNat]!).qE) (Opens p (p.qB[k.toNat]!).qE) (p.qB[k.toNat]!).qU (p.qB[k.toNat]!).fIn 1 left k_1)[own+k_1]!) - ((((p.qB[k.toNat]!).qU)[k_1]!) * 1))).set ((pAt p ((p.qB[k.toNat]!).qE))+k_1) ((((xH own (pAt p (p.qB[k.toNat]!).qE) (Opens p (p.qB[k.toNat]!).qE) (p.qB[k.toNat]!).qU (p.qB[k.toNat]!).fIn 1 left k_1).set (own+k_1) (((xH own (pAt p (p.qB[k.toNat]!).qE) (Opens p (p.qB[k.toNat]!).qE) (p.qB[k.toNat]!).qU (p.qB[k.toNat]!).fIn 1 left k_1)[own+k_1]!) - ((((p.qB[k.toNat]!).qU)[k_1]!) * 1)))[(pAt p ((p.qB[k.toNat]!).qE))+k_1]!) - ((((p.qB[k.toNat]!).fIn)[k_1]!) * 1)))[(pAt p ((p.qB[k.toNat]!).qE))+k_1]! :Int)≥0),k_1+1,(((xH own (pAt p (p.qB[k.toNat]!).qE) (Opens p (p.qB[k.toNat]!).qE) (p.qB[k.toNat]!).qU (p.qB[k.toNat]!).fIn 1 left k_1).set (own+k_1) (((xH own (pAt p (p.qB[k.toNat]!).qE) (Opens p (p.qB[k.toNat]!).qE) (p.qB[k.toNat]!).qU (p.qB[k.toNat]!).fIn 1 left k_1)[own+k_1]!) - ((((p.qB[k.toNat]!).qU)[k_1]!) * 1))).set ((pAt p ((p.qB[k.toNat]!).qE))+k_1) ((((xH own (pAt p (p.qB[k.toNat]!).qE) (Opens p (p.qB[k.toNat]!).qE) (p.qB[k.toNat]!).qU (p.qB[k.toNat]!).fIn 1 left k_1).set (own+k_1) (((xH own (pAt p (p.qB[k.toNat]!).qE) (Opens p (p.qB[k.toNat]!).qE) (p.qB[k.toNat]!).qU (p.qB[k.toNat]!).fIn 1 left k_1)[own+k_1]!) - ((((p.qB[k.toNat]!).qU)[k_1]!) * 1)))[(pAt p ((p.qB[k.toNat]!).qE))+k_1]!) - ((((p.qB[k.toNat]!).fIn)[k_1]!) * 1))),uE8,?_,?_,?_,rfl,N,H⟩
      · first | exact jZ (zy qm) | exact Ql qg | exact yc (zZ qm) qg (by first | exact .inl qg | exact .inr ‹p.qL[k_1]! =false› | exact .inr (by simp_all)) qg | exact jY (zZ qm) (by first | assumption | (rintro (h | h);omega;exact absurd ‹p.qL[k_1]! =true› (by rw [h];decide)) | (rintro (h | h);omega;simp_all)) qg
      · first | exact jW (by first | exact .inl qg | exact .inr ‹p.qL[k_1]! =false› | exact .inr (by simp_all)) | exact vG (by first | assumption | (rintro (h | h);omega;exact absurd ‹p.qL[k_1]! =true› (by rw [h];decide)) | (rintro (h | h);omega;simp_all))
      · omega
  ·skip
   have ek:k_1=pK p:=by omega
   refine zx4 (zcr (sps [.bool (dec (TkOk own (pAt p (p.qB[k.toNat]!).qE) (Opens p (p.qB[k.toNat]!).qE) (p.qB[k.toNat]!).qU (p.qB[k.toNat]!).fIn 1 left k_1)),.bool (dec (TkOk own (pAt p (p.qB[k.toNat]!).qE) (Opens p (p.qB[k.toNat]!).qE) (p.qB[k.toNat]!).qU (p.qB[k.toNat]!).fIn 1 left k_1))] (zjr (ret1 (.bool (dec (TkOk own (pAt p (p.qB[k.toNat]!).qE) (Opens p (p.qB[k.toNat]!).qE) (p.qB[k.toNat]!).qU (p.qB[k.toNat]!).fIn 1 left k_1))) rfl rfl ⟨_,rfl,(⟨H.pick [] [3,4,5,6,7,8],?_⟩)⟩))))
   have S:=H.zq [] [3,4,5,6,7,8]
   refine rtp 16 (.bool (dec (TkOk own (pAt p (p.qB[k.toNat]!).qE) (Opens p (p.qB[k.toNat]!).qE) (p.qB[k.toNat]!).qU (p.qB[k.toNat]!).fIn 1 left k_1))) S ?_
   refine rtp 17 (.bool (dec (TkOk own (pAt p (p.qB[k.toNat]!).qE) (Opens p (p.qB[k.toNat]!).qE) (p.qB[k.toNat]!).qU (p.qB[k.toNat]!).fIn 1 left k_1))) S ?_
   refine xI qi (t_n (c_ret (ret1 (.bool (dec (TkOk own (pAt p (p.qB[k.toNat]!).qE) (Opens p (p.qB[k.toNat]!).qE) (p.qB[k.toNat]!).qU (p.qB[k.toNat]!).fIn 1 left k_1))) rfl rfl ⟨_,rfl,(congrArg Value.bool (dec_congr ?_)),H.base⟩)))
   subst hown
   rw [ek]
   exact ⟨fun h=>⟨by omega,h⟩,fun h=>h.2⟩

theorem l06Chosen_ok (w:World) (p:qW) (left:yLI) (counts:yLI) (mode:Int) {qI:yOA} {xe:yLN} {apFree:yOA} {FpFree:yLN} {qR:yOA} {xx:yLN} {aleft:yOA} {Fleft:yLN} {acounts:yOA} {Fcounts:yLN} (hp:zM w bp op [.int .i64 p.qJ,.slice qI p.qC.length qH,.slice apFree p.qL.length cpFree,.slice qR p.qB.length qM]) (qX:qV.rep w xe [.slice qI p.qC.length qH] p.qC) (hpFree:qV.rep w FpFree [.slice apFree p.qL.length cpFree] p.qL) (xn:qV.rep w xx [.slice qR p.qB.length qM] p.qB) (hleft:qV.rep w Fleft [.slice aleft left.length cleft] left) (hcounts:qV.rep w Fcounts [.slice acounts counts.length ccounts] counts) (p0:zi p) (p1:LeftOk p left) (p2:counts.length=p.qB.length) (p3:Small counts):Calls Tryz.prog 103 #[.pointer (some ⟨bp,op,none⟩),.slice aleft left.length cleft,.slice acounts counts.length ccounts,.int .i64 mode] w (Ret (fun v w' =>v=.bool (dec (ChosenL p left counts mode))) w):=by
 refine en Tryz.func103 Tryz.ntmps103 ?_
 have H:=((((((St.start w).arg hcounts).arg hleft).arg xn).arg hpFree).arg qX).argAt hp
 have zF:=qO qX
 have nhpFree:=qO hpFree
 have vC:=qO xn
 have nhleft:=qO hleft
 have nhcounts:=qO hcounts
 clear hp qX hpFree xn hleft hcounts
 have N:=Fresh.nil w.heap.size
 have p4:=p0.1.2.2.2.1
 refine zcr (sp (.bool false) (zjc (sp (.slice acounts counts.length ccounts) (sw (oq (l06Sum_ok _ counts (H.get 5 rfl).1 (by first | assumption | exact jJ qm | exact Qs qm)) H fun w2 H=>sp (.int .i64 (yM counts)) (zjcc (sps [.int .i64 mode,.bool ((mode:Int) == 3),.bool ((mode:Int) == 3)] ?_)))))))
 cases h4:((mode:Int) == 3)
 ·skip
  replace h4:=ne_of_beq_false h4
  refine qY 15 rfl rfl (sp (.int .i64 (yM counts)) (qY 15 rfl rfl (sps [.bool ((yM counts:Int) == 0),.bool ((yM counts:Int) == 0)] (zjn (cE rfl (fun h5=>?_) (fun h5=>?_))))))
  ·skip
   refine zcr (sps [.int .i64 (yM counts),.bool ((yM counts:Int) == 1),.bool ((yM counts:Int) == 1)] (zjr (t_r (ret1 (.bool ((yM counts:Int) == 1)) rfl rfl ⟨_,rfl,(congrArg Value.bool (dec_eq ?_)),H.base⟩))))
   rw [chosenL_one qg]
   simp
  ·skip
   refine xf (t_n (zcc (sp (.int .i64 0) (zjn (xm ?_)))))
   refine zK (fun m' ρ w6=>∃ (zu:Env) (k:Nat),ρ=upd (upd (upd (upd (upd zu 0 (.pointer (some ⟨bp,op,none⟩))) 1 (.slice aleft left.length cleft)) 2 (.slice acounts counts.length ccounts)) 3 (.int .i64 mode)) 10 (.int .i64 k)∧((k:Int)≤counts.length)∧(FullL p left counts mode k)∧m' =(counts.length - (k:Int)).toNat∧Fresh w.heap.size []∧St w w6 [] [atF bp op [.int .i64 p.qJ,.slice qI p.qC.length qH,.slice apFree p.qL.length cpFree,.slice qR p.qB.length qM],sF false xe qI qH p.qC,sF false FpFree apFree cpFree p.qL,sF false xx qR qM p.qB,sF false Fleft aleft cleft left,sF false Fcounts acounts ccounts counts]) ((counts.length - (0:Int)).toNat) ⟨_,0,uE5,qg,qy,rfl,N,H⟩ ?_
   clear H N
   rintro m' ρ w7 ⟨zu,k,rfl,i0,i1,rfl,N,H⟩
   refine zcc (sps [.int .i64 k,.slice acounts counts.length ccounts] (oN rfl (sp (.bool (decide ((k:Int) < counts.length))) (zjn (cD rfl (fun h8=>?_) (fun h8=>?_))))))
   ·skip
    refine xf (t_n (xP (xm (zcc (sps [.int .i64 mode,.bool ((mode:Int) == 2),.bool ((mode:Int) == 2)] ?_)))))
    cases h9:((mode:Int) == 2)
    ·skip
     replace h9:=ne_of_beq_false h9
     refine zG [30,31,32,33] (sp (.bool false) (zjn (xC false rfl (fun h=>absurd h qj) (fun _=>xf (t_n (zcr (sps [.pointer (some ⟨bp,op,none⟩),.slice aleft left.length cleft,.slice acounts counts.length ccounts,.int .i64 k] (sw (oq (l06Room_ok _ p left counts k (qN (H.get 0 rfl) 0 4) (H.get 1 rfl).1 (H.get 2 rfl).1 (H.get 3 rfl).1 (H.get 4 rfl).1 (H.get 5 rfl).1 (by exact p0) (by exact p1) qg qg) H fun w11 H=>zjn (cP rfl (fun h13=>?_) (fun h13=>?_)))))))))))
     ·skip
      refine zcr (sp (.bool false) (zjr (zr5 (ret1 (.bool false) rfl rfl ⟨_,rfl,?_,H.base⟩))))
      rw [zf (fun h=>by rw [chosenL_full qg] at h;rcases h k qg with h | h;(first | omega | exact absurd h.2 qm);exact h qm)]
     ·skip
      refine xf (b_n (t_n (xJ (sp (.int .i64 k) (sw (xX k 1 rfl rfl qg (sp (.int .i64 (k+1)) (xN (xg (m' :=(counts.length - ((k+1):Int)).toNat) qg ⟨_,k+1,uE5,?_,?_,rfl,N,H⟩)))))))))
      · omega
      · exact i1.succ (by first | exact .inl ⟨by omega,by assumption⟩ | exact .inr qm)
    ·skip
     replace h9:=eq_of_beq h9
     refine qY 29 rfl rfl (sp (.pointer (some ⟨bp,op,none⟩)) (qY 29 rfl rfl (sp (.slice acounts counts.length ccounts) (qY 29 rfl rfl (sp (.int .i64 k) (qY 29 rfl rfl (sw (oq (l06Busy_ok _ p counts k (qN (H.get 0 rfl) 0 4) (H.get 1 rfl).1 (H.get 2 rfl).1 (H.get 3 rfl).1 (H.get 5 rfl).1 qg qg) H fun w15 H=>sp (.bool (dec (BusyI p counts k))) (zjn (cP rfl (fun h17=>?_) (fun h17=>?_)))))))))))
     ·skip
      refine c_exit (t_x (b_x (t_n (xJ (sp (.int .i64 k) (sw (xX k 1 rfl rfl qg (sp (.int .i64 (k+1)) (xN (xg (m' :=(counts.length - ((k+1):Int)).toNat) qg ⟨_,k+1,uE5,?_,?_,rfl,N,H⟩))))))))))
      · omega
      · exact i1.succ (by first | exact .inl ⟨by omega,by assumption⟩ | exact .inr qm)
     ·skip
      refine xf (t_n (zcr (sps [.pointer (some ⟨bp,op,none⟩),.slice aleft left.length cleft,.slice acounts counts.length ccounts,.int .i64 k] (sw (oq (l06Room_ok _ p left counts k (qN (H.get 0 rfl) 0 4) (H.get 1 rfl).1 (H.get 2 rfl).1 (H.get 3 rfl).1 (H.get 4 rfl).1 (H.get 5 rfl).1 (by exact p0) (by exact p1) qg qg) H fun w19 H=>zjn (cP rfl (fun h21=>?_) (fun h21=>?_)))))))
      ·skip
       refine zcr (sp (.bool false) (zjr (zr5 (ret1 (.bool false) rfl rfl ⟨_,rfl,?_,H.base⟩))))
       rw [zf (fun h=>by rw [chosenL_full qg] at h;rcases h k qg with h | h;(first | omega | exact absurd h.2 qm);exact h qm)]
      ·skip
       refine xf (b_n (t_n (xJ (sp (.int .i64 k) (sw (xX k 1 rfl rfl qg (sp (.int .i64 (k+1)) (xN (xg (m' :=(counts.length - ((k+1):Int)).toNat) qg ⟨_,k+1,uE5,?_,?_,rfl,N,H⟩)))))))))
       · omega
       · exact i1.succ (by first | exact .inl ⟨by omega,by assumption⟩ | exact .inr qm)
   ·skip
    refine zx4 (zcr (sp (.bool true) (zjr (ret1 (.bool true) rfl rfl ⟨_,rfl,?_,H.base⟩))))
    rw [yw ((chosenL_full qg).2 ((show counts.length=k by omega)▸i1))]
 ·skip
  replace h4:=eq_of_beq h4
  refine zG [16,17] (sp (.bool true) (zjn (xC true rfl (fun _=>zcr (sps [.int .i64 (yM counts),.bool ((yM counts:Int) == 1),.bool ((yM counts:Int) == 1)] (zjr (t_r (ret1 (.bool ((yM counts:Int) == 1)) rfl rfl ⟨_,rfl,(congrArg Value.bool (dec_eq ?_)),H.base⟩))))) (fun h=>absurd h qj))))
  rw [chosenL_one qg]
  simp
theorem outside_ok (w:World) (p:qW) {qI:yOA} {xe:yLN} {apFree:yOA} {FpFree:yLN} {qR:yOA} {xx:yLN} (qX:qV.rep w xe [.slice qI p.qC.length qH] p.qC) (hpFree:qV.rep w FpFree [.slice apFree p.qL.length cpFree] p.qL) (xn:qV.rep w xx [.slice qR p.qB.length qM] p.qB):Calls Tryz.prog 68 #[.agg #[.int .i64 p.qJ,.slice qI p.qC.length qH,.slice apFree p.qL.length cpFree,.slice qR p.qB.length qM]] w (Ret (fun v w' =>v=.int .i64 p.qC.length) w):=by
 refine en Tryz.func68 Tryz.ntmps68 ?_
 have H:=(((St.start w).arg xn).arg hpFree).arg qX
 have zF:=qO qX
 have nhpFree:=qO hpFree
 have vC:=qO xn
 clear qX hpFree xn
 have N:=Fresh.nil w.heap.size
 refine zcr (sw (jd H [.int .i64 p.qJ,.slice qI p.qC.length qH,.slice apFree p.qL.length cpFree,.slice qR p.qB.length qM] fun b1 w2 H=>sp (.int .i64 0) (zjc (oF rfl (oL rfl (H.cell 0 rfl rfl) (sw (oq (sizeI_ok _ p.qC (H.get 0 rfl).1) H fun w3 H=>sp (.int .i64 (p.qC.length:Int)) (zjr (ret1 (.int .i64 (p.qC.length:Int)) rfl rfl ⟨_,rfl,?_,H.base⟩)))))))))
 rfl

theorem parent_ok (w:World) (p:qW) (c:Int) {qI:yOA} {xe:yLN} {apFree:yOA} {FpFree:yLN} {qR:yOA} {xx:yLN} (qX:qV.rep w xe [.slice qI p.qC.length qH] p.qC) (hpFree:qV.rep w FpFree [.slice apFree p.qL.length cpFree] p.qL) (xn:qV.rep w xx [.slice qR p.qB.length qM] p.qB) (p0:PFrame p) (p1:0≤c∧c≤(p.qC.length:Int) - 1):Calls Tryz.prog 90 #[.agg #[.int .i64 p.qJ,.slice qI p.qC.length qH,.slice apFree p.qL.length cpFree,.slice qR p.qB.length qM],.int .i64 c] w (Ret (fun v w' =>v=.int .i64 (pUp p c)) w):=by
 refine en Tryz.func90 Tryz.ntmps90 ?_
 have H:=(((St.start w).arg xn).arg hpFree).arg qX
 have zF:=qO qX
 have nhpFree:=qO hpFree
 have vC:=qO xn
 clear qX hpFree xn
 have N:=Fresh.nil w.heap.size
 have p2:=p0.2.1
 refine zcr (sw (jd H [.int .i64 p.qJ,.slice qI p.qC.length qH,.slice apFree p.qL.length cpFree,.slice qR p.qB.length qM] fun b1 w2 H=>sp (.int .i64 0) (zjcc (sps [.int .i64 c,.bool ((c:Int) == 0)] (zjn (cE rfl (fun h3=>?_) (fun h3=>?_)))))))
 ·skip
  refine zcr (sw (xZ [.int .i64 p.qJ,.slice qI p.qC.length qH,.slice apFree p.qL.length cpFree,.slice qR p.qB.length qM] Tryz.isAgg37 Tryz.sizeOf37 rfl (qN (H.cells 0 rfl) 0 4) (sw (oq (outside_ok _ p (H.get 0 rfl).1 (H.get 1 rfl).1 (H.get 2 rfl).1) H fun w5 H=>sp (.int .i64 p.qC.length) (zjr (t_r (ret1 (.int .i64 p.qC.length) rfl rfl ⟨_,rfl,?_,H.base⟩)))))))
  rw [par_root p0 qg]
 ·skip
  refine xf (t_n (zcr (oF rfl (oL rfl (H.cell 0 rfl rfl) (sp (.int .i64 c) ?_)))))
  obtain ⟨b7,o8,rfl⟩:=H.addr 0 rfl qg
  refine oI rfl rfl (oL rfl (H.vY 0 rfl c qg qg) (sp (.int .i64 (p.qC[c.toNat]!)) (zjr (ret1 (.int .i64 (p.qC[c.toNat]!)) rfl rfl ⟨_,rfl,?_,H.base⟩))))
  rw [par_other p0 p1 qg]

theorem bound_ok (w:World) (p:qW) (b:yLI) {qI:yOA} {xe:yLN} {apFree:yOA} {FpFree:yLN} {qR:yOA} {xx:yLN} {ab:yOA} {Fb:yLN} (qX:qV.rep w xe [.slice qI p.qC.length qH] p.qC) (hpFree:qV.rep w FpFree [.slice apFree p.qL.length cpFree] p.qL) (xn:qV.rep w xx [.slice qR p.qB.length qM] p.qB) (hb:qV.rep w Fb [.slice ab b.length cb] b) (p0:PFrame p) (p1:jI p.qJ b):Calls Tryz.prog 91 #[.agg #[.int .i64 p.qJ,.slice qI p.qC.length qH,.slice apFree p.qL.length cpFree,.slice qR p.qB.length qM],.slice ab b.length cb] w (Ret (fun v w' =>∃ (ra:yOA) (rn:Nat) (rc:Nat),v=.slice ra rn rc∧Fresh w.heap.size []∧St w w' [rr ra rn rc 2 1 ((bdTo p b p.qL.length).map (Value.int .i64))] []) w):=by
 refine en Tryz.func91 Tryz.ntmps91 ?_
 have H:=((((St.start w).arg hb).arg xn).arg hpFree).arg qX
 have zF:=qO qX
 have nhpFree:=qO hpFree
 have vC:=qO xn
 have nhb:=qO hb
 clear qX hpFree xn hb
 have N:=Fresh.nil w.heap.size
 have p2:=p0.2.2.1
 have p3:=p1.2
 have p4:=p1.1.2
 refine zcr (sw (jd H [.int .i64 p.qJ,.slice qI p.qC.length qH,.slice apFree p.qL.length cpFree,.slice qR p.qB.length qM] fun b1 w2 H=>sp (.slice none 0 0) (zjc (sp (.slice ab b.length cb) ?_))))
 have sz3:=H.base.size
 refine sw (oc (cloneI_ok _ b (H.get 3 rfl).1 qh) ?_)
 rintro v8 w6 r8 x7
 replace H:=H.zg x7 r8
 obtain ⟨a9,c10,rfl,hc11,hm12⟩:=H.vO 0 rfl
 refine sp (.slice a9 b.length c10) (zjcc (oF rfl (oL rfl (H.cell 1 rfl rfl) (oN rfl (sp (.int .i64 0) (zjn (xm ?_)))))))
 refine zK (fun m' ρ w13=>∃ (zu:Env) (k:Nat) (out:yLI),ρ=upd (upd (upd (upd zu 5 (.slice a9 b.length c10)) 11 (.slice apFree p.qL.length cpFree)) 12 (.int .i64 p.qL.length)) 13 (.int .i64 k)∧out=(bdTo p b k)∧((k:Int)≤p.qL.length)∧m' =(p.qL.length - (k:Int)).toNat∧Fresh w.heap.size []∧St w w13 [rr a9 b.length c10 2 1 (out.map (Value.int .i64)),.box b1 [.int .i64 p.qJ,.slice qI p.qC.length qH,.slice apFree p.qL.length cpFree,.slice qR p.qB.length qM] 37] [sF false xe qI qH p.qC,sF false FpFree apFree cpFree p.qL,sF false xx qR qM p.qB]) ((p.qL.length - (0:Int)).toNat) ⟨_,0,b,uE4,(by rfl),qg,rfl,N,H.pick [0,1] [0,1,2]⟩ ?_
 clear H N
 rintro m' ρ w14 ⟨zu,k,out,rfl,rfl,i0,rfl,N,H⟩
 have hn_out:=H.y9 0 rfl
 have bl:=bdTo_len p b k
 refine zcr (sp (.bool (decide ((k:Int) < p.qL.length))) (zjn (xP (cD rfl (fun h15=>?_) (fun h15=>?_)))))
 ·skip
  refine xf (t_n (xP (xm (zcr (sp (.int .i64 k) ?_)))))
  obtain ⟨b16,o17,rfl⟩:=H.addr 1 rfl qg
  refine oI rfl rfl (oL rfl (H.Qn 1 rfl k qg qg) (sps [.int .i64 k,.bool (p.qL[k]!)] (zjc (sp (.bool (p.qL[k]!)) (zjn (xC (p.qL[k]!) rfl (fun h19=>?_) (fun h19=>?_)))))))
  ·skip
   refine xJ (sps [.slice a9 b.length c10,.int .i64 k] ?_)
   obtain ⟨b20,rfl⟩:=H.yg 0 rfl qg
   refine oI rfl rfl (sw (vg H 0 rfl 0 Tryz.sizeOf2 rfl rfl (i:=k) qg qg fun w21 H=>xN (b_n (t_n (xJ (sw (xX k 1 rfl rfl qg (sp (.int .i64 (k+1)) (xN (xg (m' :=(p.qL.length - ((k+1):Int)).toNat) qg ⟨_,k+1,((bdTo p b k).set k 0),uE4,?_,?_,rfl,N,H⟩))))))))))
   · first | exact bdTo_yes qm | exact bdTo_no qm
   · omega
  ·skip
   refine xf (b_n (t_n (xJ (sw (xX k 1 rfl rfl qg (sp (.int .i64 (k+1)) (xN (xg (m' :=(p.qL.length - ((k+1):Int)).toNat) qg ⟨_,k+1,(bdTo p b k),uE4,?_,?_,rfl,N,H⟩))))))))
   · first | exact bdTo_yes qm | exact bdTo_no qm
   · omega
 ·skip
  refine zx4 (zcr (sps [.slice a9 b.length c10,.slice a9 b.length c10] (zjr (ret1 (.slice a9 b.length c10) rfl rfl ⟨_,rfl,?_,H.base⟩))))
  obtain rfl:k=p.qL.length:=by omega
  exact ⟨a9,b.length,c10,rfl,N,H.pick [0] []⟩

theorem minI_ok (w:World) (l:yLI) {al:yOA} {Fl:yLN} (hl:qV.rep w Fl [.slice al l.length cl] l) (p0:1≤l.length):Calls Tryz.prog 98 #[.slice al l.length cl] w (Ret (fun v w' =>v=.int .i64 (minTo l l.length)) w):=by
 refine en Tryz.func98 Tryz.ntmps98 ?_
 have H:=(St.start w).arg hl
 have nhl:=qO hl
 clear hl
 have N:=Fresh.nil w.heap.size
 refine zcr (sp (.int .i64 0) (zjcc (sp (.slice al l.length cl) (oN rfl (sp (.bool (decide ((l.length:Int) < 1))) (zjn (cD rfl (fun h1=>?_) (fun h1=>?_))))))))
 ·skip
  exfalso;omega
 ·skip
  refine xf (t_n (zcr (sp (.slice al l.length cl) ?_)))
  obtain ⟨b2,o3,rfl⟩:=H.addr 0 rfl qg
  refine oI rfl rfl (oL rfl (H.vY 0 rfl 0 qg qg) (sp (.int .i64 (l[0]!)) (zjcc (sp (.int .i64 1) (zjn (xm ?_))))))
  refine zK (fun m' ρ w5=>∃ (zu:Env) (m:Int) (i:Nat),ρ=upd (upd (upd zu 0 (.slice (some ⟨b2,o3,none⟩) l.length cl)) 3 (.int .i64 m)) 4 (.int .i64 i)∧m=minTo l i∧((i:Int)≤l.length)∧(1≤i)∧m' =(l.length - (i:Int)).toNat∧Fresh w.heap.size []∧St w w5 [] [sF false Fl (some ⟨b2,o3,none⟩) cl l]) ((l.length - (1:Int)).toNat) ⟨_,l[0]!,1,uE3,(by exact (minTo_one l).symm),qg,qg,rfl,N,H⟩ ?_
  clear H N
  rintro m' ρ w6 ⟨zu,m,i,rfl,rfl,i0,i1,rfl,N,H⟩
  refine zcc (sps [.int .i64 i,.slice (some ⟨b2,o3,none⟩) l.length cl] (oN rfl (sp (.bool (decide ((i:Int) < l.length))) (zjn (cD rfl (fun h7=>?_) (fun h7=>?_))))))
  ·skip
   refine xf (t_n (xP (xm (xJ (sps [.int .i64 (minTo l i),.slice (some ⟨b2,o3,none⟩) l.length cl,.int .i64 i] (oI rfl rfl (oL rfl (H.vY 0 rfl i qg qg) (sw (o_min (minTo l i) (l[i]!) rfl rfl (sp (.int .i64 (min (minTo l i) (l[i]!))) (xN (b_n (t_n (xJ (sp (.int .i64 i) (sw (xX i 1 rfl rfl qg (sp (.int .i64 (i+1)) (xN (xg (m' :=(l.length - ((i+1):Int)).toNat) qg ⟨_,min (minTo l i) (l[i]!),i+1,uE3,?_,?_,?_,rfl,N,H⟩))))))))))))))))))))
   · rfl
   · omega
   · omega
  ·skip
   refine zx4 (zcr (sps [.int .i64 (minTo l i),.int .i64 (minTo l i)] (zjr (ret1 (.int .i64 (minTo l i)) rfl rfl ⟨_,rfl,?_,H.base⟩))))
   obtain rfl:i=l.length:=by omega
   rfl

theorem cloneSS_ok (w:World) (l:yLL) {al:yOA} {Fl:yLN} (hl:qV.rep w Fl [.slice al l.length cl] l) (p0:l.length≤1000000):Calls Tryz.prog 89 #[.slice al l.length cl] w (Ret (fun v w' =>∃ (ra:yOA) (rn:Nat) (rc:Nat) (rx:List Value) (rF:yLN),v=.slice ra rn rc∧(∀ b∈rF,b∈Fl)∧St w w' [rr ra rn rc 22 1 rx] [xW false rF rx l]) w):=by
 refine en Tryz.func89 Tryz.ntmps89 ?_
 have H:=(St.start w).arg hl
 have nhl:=qO hl
 clear hl
 have N:=Fresh.nil w.heap.size
 refine zcr (sp (.slice none 0 0) (zjcc (sp (.slice al l.length cl) (sw (o_eqnil Tryz.underlying27 al l.length cl rfl (zjn (xC (al.isNone) rfl (fun h1=>?_) (fun h1=>?_))))))))
 ·skip
  refine zcr (sp (.slice none 0 0) (zjr (t_r ?_)))
  replace H:=H.nilRow 22 1
  replace H:=H.jC (α:=yLI)
  refine ret1 (.slice none 0 0) rfl rfl ⟨_,rfl,?_,H.base⟩
  obtain rfl:=H.nilOf 1 rfl ‹_›
  replace H:=H.unfree 0 rfl
  exact ⟨none,0,0,[],[],rfl,(by intro b hb;first | (simp at hb;done) | exact id b (by simpa using hb)),H.pick [0] [0]⟩
 ·skip
  refine xf (t_n (zcr (sw (jH H Tryz.underlying27 ti22 fun b2 w3 H=>sp (.slice al l.length cl) ?_))))
  replace H:=H.boxRow 0 rfl 1 0 rfl qj
  replace H:=H.jC (α:=yLI)
  refine sw (o_appendFR H 0 rfl 1 rfl Tryz.underlying27 ti22 rfl qj rfl rfl qw qg fun a4 c5 w6 us7 G8 H hG9=>?_)
  replace H:=H.repsCat false 1 rfl 0 rfl qo
  refine sp (.slice a4 (0+l.length) c5) (zjr (ret1 (.slice a4 (0+l.length) c5) rfl rfl ⟨_,rfl,(⟨a4,0+l.length,c5,[]++us7,([]++G8),rfl,(by intro b hb;first | (simp at hb;done) | exact hG9 b (by simpa using hb)),H.pick [0] [0]⟩),H.base⟩))
theorem fits_ok (w:World) (p:qW) (s:qZ) (counts:yLI) {qI:yOA} {xe:yLN} {apFree:yOA} {FpFree:yLN} {qR:yOA} {xx:yLN} {asCells:yOA} {FsCells:yLN} {qQ:yOA} {xw:yLN} {acounts:yOA} {Fcounts:yLN} (qX:qV.rep w xe [.slice qI p.qC.length qH] p.qC) (hpFree:qV.rep w FpFree [.slice apFree p.qL.length cpFree] p.qL) (xn:qV.rep w xx [.slice qR p.qB.length qM] p.qB) (hsCells:qV.rep w FsCells [.slice asCells s.qG.length csCells] s.qG) (xu:qV.rep w xw [.slice qQ s.qF.length qP] s.qF) (hcounts:qV.rep w Fcounts [.slice acounts counts.length ccounts] counts) (p0:zi p) (p1:xG p s) (p2:Cnts1 p counts):Calls Tryz.prog 74 #[.agg #[.int .i64 p.qJ,.slice qI p.qC.length qH,.slice apFree p.qL.length cpFree,.slice qR p.qB.length qM],.agg #[.slice asCells s.qG.length csCells,.slice qQ s.qF.length qP],.slice acounts counts.length ccounts] w (Ret (fun v w' =>v=.bool (dec (NNTo p (zD p s false counts counts.length) (p.qC.length+1)))) w):=by
 refine en Tryz.func74 Tryz.ntmps74 ?_
 have H:=((((((St.start w).arg hcounts).arg xu).arg hsCells).arg xn).arg hpFree).arg qX
 have zF:=qO qX
 have nhpFree:=qO hpFree
 have vC:=qO xn
 have nhsCells:=qO hsCells
 have vV:=qO xu
 have nhcounts:=qO hcounts
 clear qX hpFree xn hsCells xu hcounts
 have N:=Fresh.nil w.heap.size
 have p3:=p2.1
 have p4:=p0.1.2.2.2.1
 have p5:=p0.1.2.1
 have p6:=p1.1
 have p7:=p0.1.2.2.1
 refine zcr (sw (jd H [.int .i64 p.qJ,.slice qI p.qC.length qH,.slice apFree p.qL.length cpFree,.slice qR p.qB.length qM] fun b1 w2 H=>sw (jd H [.slice asCells s.qG.length csCells,.slice qQ s.qF.length qP] fun b3 w4 H=>sp (.bool false) (zjc (sw (xZ [.int .i64 p.qJ,.slice qI p.qC.length qH,.slice apFree p.qL.length cpFree,.slice qR p.qB.length qM] Tryz.isAgg37 Tryz.sizeOf37 rfl (qN (H.cells 1 rfl) 0 4) ?_))))))
 refine sw (xZ [.slice asCells s.qG.length csCells,.slice qQ s.qF.length qP] Tryz.isAgg39 Tryz.sizeOf39 rfl (qN (H.cells 0 rfl) 0 2) (sp (.slice acounts counts.length ccounts) (sw (jG #[.agg #[.int .i64 p.qJ,.slice qI p.qC.length qH,.slice apFree p.qL.length cpFree,.slice qR p.qB.length qM],.agg #[.slice asCells s.qG.length csCells,.slice qQ s.qF.length qP],.slice acounts counts.length ccounts,.bool false] rfl rfl Tryz.call67 (en Tryz.func67 Tryz.ntmps67 ?_)))))
 refine zcr (sw (jd H [.int .i64 p.qJ,.slice qI p.qC.length qH,.slice apFree p.qL.length cpFree,.slice qR p.qB.length qM] fun b5 w6 H=>sw (jd H [.slice asCells s.qG.length csCells,.slice qQ s.qF.length qP] fun b7 w8 H=>sp (.slice none 0 0) (zjn (xP ?_)))))
 refine c_cut (fun ρ w13=>∃ (zu:Env) (a9:yOA) (c10:Nat) (rx11:List Value) (rF12:yLN),ρ=upd (upd (upd (upd zu 2 (.slice acounts counts.length ccounts)) 3 (.bool false)) 4 (.pointer (some ⟨b5,0,none⟩))) 9 (.slice a9 (s.qG.length+1) c10)∧Fresh w.heap.size []∧St w w13 [rr a9 (s.qG.length+1) c10 22 1 (rx11++[.slice qQ s.qF.length qP]),.box b7 [.slice asCells s.qG.length csCells,.slice qQ s.qF.length qP] 39,.box b5 [.int .i64 p.qJ,.slice qI p.qC.length qH,.slice apFree p.qL.length cpFree,.slice qR p.qB.length qM] 37,.box b3 [.slice asCells s.qG.length csCells,.slice qQ s.qF.length qP] 39,.box b1 [.int .i64 p.qJ,.slice qI p.qC.length qH,.slice apFree p.qL.length cpFree,.slice qR p.qB.length qM] 37] [xW false (rF12++xw) (rx11++[.slice qQ s.qF.length qP]) (s.qG++[s.qF]),sF false xe qI qH p.qC,sF false FpFree apFree cpFree p.qL,sF false xx qR qM p.qB,sF false FsCells asCells csCells s.qG,sF false xw qQ qP s.qF,sF false Fcounts acounts ccounts counts]) ?_ ?_
 ·skip
  refine vK rfl H fun H=>tF 0 rfl rfl H ?_
  refine tL 1 rfl rfl (fun _ h=>h.cell 0 rfl rfl) H ?_
  refine tF 3 rfl rfl H ?_
  refine tL 4 rfl rfl (fun _ h=>h.cell 0 rfl rfl) H ?_
  refine yz [2,5] qi qo (r_op rfl ?_ (r_op rfl ?_ yA))
  ·skip
   have sz18:=H.base.size
   refine oc (cloneSS_ok _ s.qG (H.get 3 rfl).1 qh) ?_
   rintro _ w16 ⟨ra15,rn15,rc15,rx15,rF15,rfl,hG20,K⟩ _
   replace H:=H.mergeIn K 3 rfl hG20
   obtain rfl:=H.zB (α:=yLI) 0 rfl 0 rfl qj
   refine ⟨H.pick [1,2,3,4] [1,2,3,4,5,6],(ro 5 rfl (zt H Tryz.underlying27 ti22 [.slice qQ s.qF.length qP] fun b21 w22 H=>⟨H.pick [2,3,4,5] [1,2,3,4,5,6],(ro 6 rfl (zA H 1 rfl 0 rfl Tryz.underlying27 ti22 rfl qj rfl rfl rfl qx qw qg fun a23 c24 w25 H=>?_))⟩))⟩
   replace H:=H.jy 0 rfl 5 rfl
   refine ⟨H.pick [2,3,4,5] [2,3,4,5,6,7],(rtp 7 (.slice a23 (s.qG.length+1) c24) (H.pick [2,3,4,5] [2,3,4,5,6,7]) ?_)⟩
   refine xI qi ((meet ⟨_,a23,c24,rx15,rF15,uE4,N,H.pick [1,2,3,4,5] [0,2,3,4,5,6,7]⟩))
  ·skip
   refine zt H Tryz.underlying27 ti22 [.slice qQ s.qF.length qP] fun b26 w27 H=>⟨H.pick [1,2,3,4] [0,1,2,3,4,5],(ro 2 rfl ?_)⟩
   have sz31:=H.base.size
   refine oc (cloneSS_ok _ s.qG (H.get 3 rfl).1 qh) ?_
   rintro _ w29 ⟨ra28,rn28,rc28,rx28,rF28,rfl,hG33,K⟩ _
   replace H:=H.mergeIn K 3 rfl hG33
   obtain rfl:=H.zB (α:=yLI) 0 rfl 0 rfl qj
   refine ⟨H.pick [2,3,4,5] [1,2,3,4,5,6],(ro 6 rfl (zA H 0 rfl 1 rfl Tryz.underlying27 ti22 rfl qj rfl rfl rfl qx qw qg fun a34 c35 w36 H=>?_))⟩
   replace H:=H.jy 0 rfl 5 rfl
   refine ⟨H.pick [2,3,4,5] [2,3,4,5,6,7],(rtp 7 (.slice a34 (s.qG.length+1) c35) (H.pick [2,3,4,5] [2,3,4,5,6,7]) ?_)⟩
   refine xI qi ((meet ⟨_,a34,c35,rx28,rF28,uE4,N,H.pick [0,2,3,4,5] [0,2,3,4,5,6,7]⟩))
 ·skip
  clear H N
  rintro ρ w37 ⟨zu,a9,c10,rx11,rF12,rfl,N,H⟩
  refine t_n (zcc (sp (.slice acounts counts.length ccounts) (oN rfl (sp (.int .i64 0) (zjn (xm ?_))))))
  refine zK (fun m' ρ w38=>∃ (zu:Env) (i:Nat) (bags:yLL) (x_bags:List Value) (F_bags:yLN),ρ=upd (upd (upd (upd (upd (upd zu 3 (.bool false)) 4 (.pointer (some ⟨b5,0,none⟩))) 9 (.slice a9 (s.qG.length+1) c10)) 23 (.slice acounts counts.length ccounts)) 24 (.int .i64 counts.length)) 25 (.int .i64 i)∧bags=(zD p s false counts i)∧((i:Int)≤counts.length)∧m' =(counts.length - (i:Int)).toNat∧Fresh w.heap.size []∧St w w38 [rr a9 (s.qG.length+1) c10 22 1 x_bags,.box b7 [.slice asCells s.qG.length csCells,.slice qQ s.qF.length qP] 39,.box b5 [.int .i64 p.qJ,.slice qI p.qC.length qH,.slice apFree p.qL.length cpFree,.slice qR p.qB.length qM] 37,.box b3 [.slice asCells s.qG.length csCells,.slice qQ s.qF.length qP] 39,.box b1 [.int .i64 p.qJ,.slice qI p.qC.length qH,.slice apFree p.qL.length cpFree,.slice qR p.qB.length qM] 37] [xW false F_bags x_bags bags,sF false xe qI qH p.qC,sF false FpFree apFree cpFree p.qL,sF false xx qR qM p.qB,sF false FsCells asCells csCells s.qG,sF false xw qQ qP s.qF,sF false Fcounts acounts ccounts counts]) ((counts.length - (0:Int)).toNat) ⟨_,0,(s.qG++[s.qF]),rx11++[.slice qQ s.qF.length qP],(rF12++xw),uE6,(by rfl),qg,rfl,N,H⟩ ?_
  clear H N
  rintro m' ρ w39 ⟨zu,i,bags,x_bags,F_bags,rfl,rfl,i0,rfl,N,H⟩
  have hn_bags:=H.zB (α:=yLI) 0 rfl 0 rfl qj
  refine zcr (sp (.bool (decide ((i:Int) < counts.length))) (zjn (xP (cD rfl (fun h40=>?_) (fun h40=>?_)))))
  ·skip
   have cr:=p0.2 i qg
   have c1:=cr.1
   have gq:=geo p0.1 cr
   have gc:=gq.cell
   have gu:=gq.up
   have E:=cg_PB p0 p1 p2 false i qg
   have El:=E.1
   have tb:=p2.2 i qg
   have mo:=MO.bag p0.1 cr.2.1
   have mi:=MO.bag p0.1 cr.2.2.1
   have f0:p.qL.length≤(p.qB[i]!).fIn.length:=by have:=mi.1;have:=pK_eq p0.1;have:=p0.1.2.2.1;omega
   have f1:p.qL.length≤(p.qB[i]!).qU.length:=by have:=mo.1;have:=pK_eq p0.1;have:=p0.1.2.2.1;omega
   refine xf (t_n (xP (xm (zcr (sp (.int .i64 i) ?_)))))
   obtain ⟨b41,o42,rfl⟩:=H.addr 6 rfl qg
   refine oI rfl rfl (oL rfl (H.vY 6 rfl i qg qg) (sps [.int .i64 i,.int .i64 (counts[i]!)] (zjc (oF rfl (oL rfl (H.cell 2 rfl rfl) (sp (.int .i64 i) ?_))))))
   obtain ⟨b44,o45,rfl⟩:=H.addr 3 rfl qg
   obtain ⟨ae47Out,ce47Out,Fe47Out,ae47In,ce47In,Fe47In,H⟩:=H.zW 3 rfl i i qg qg qg
   refine oI rfl rfl (sw (xZ [.int .i64 ((p.qB[i]!).qE),.slice ae47Out (((p.qB[i]!).qU).length) ce47Out,.slice ae47In (((p.qB[i]!).fIn).length) ce47In] Tryz.isAgg93 Tryz.sizeOf93 rfl (qN (H.get 2 rfl) 0 3) (sw (ja H ti93 [.int .i64 0,.slice none 0 0,.slice none 0 0] fun b48 w49 H=>sw (jA H 0 [.int .i64 ((p.qB[i]!).qE),.slice ae47Out (((p.qB[i]!).qU).length) ce47Out,.slice ae47In (((p.qB[i]!).fIn).length) ce47In] Tryz.sizeOf93 fun w50 H=>zjc ?_)))))
   refine sw (xZ [.int .i64 p.qJ,.slice qI p.qC.length qH,.slice apFree p.qL.length cpFree,.slice (some ⟨b44,o45,none⟩) p.qB.length qM] Tryz.isAgg37 Tryz.sizeOf37 rfl (qN (H.cells 3 rfl) 0 4) (oF rfl (oL rfl (H.cell 0 rfl rfl) (sw (oq (parent_ok _ p ((p.qB[i]!).qE) (H.get 4 rfl).1 (H.get 5 rfl).1 (H.get 6 rfl).1 (by exact p0.1) (by exact cr.1)) H fun w52 H=>sp (.int .i64 (pUp p ((p.qB[i]!).qE))) (zjn (xP ?_)))))))
   refine vK rfl H fun H=>tF 0 rfl rfl H ?_
   refine tL 1 rfl rfl (fun _ h=>h.cell 0 rfl rfl) H ?_
   refine tF 2 rfl rfl H ?_
   refine tL 3 rfl rfl (fun _ h=>h.cell 0 rfl rfl) H ?_
   refine rtp 4 (.slice ae47In (((p.qB[i]!).fIn).length) ce47In) H ?_
   refine rtp 5 (.slice ae47Out (((p.qB[i]!).qU).length) ce47Out) H ?_
   refine xI qi (t_n (zcc (sp (.int .i64 (pUp p ((p.qB[i]!).qE))) (sw (xZ [.int .i64 p.qJ,.slice qI p.qC.length qH,.slice apFree p.qL.length cpFree,.slice (some ⟨b44,o45,none⟩) p.qB.length qM] Tryz.isAgg37 Tryz.sizeOf37 rfl (qN (H.cells 3 rfl) 0 4) (sw (oq (outside_ok _ p (H.get 4 rfl).1 (H.get 5 rfl).1 (H.get 6 rfl).1) H fun w56 H=>sp (.bool (((pUp p ((p.qB[i]!).qE)):Int) == p.qC.length)) (zjn (cE rfl (fun h58=>?_) (fun h58=>?_))))))))))
   ·skip
    refine vK rfl H fun H=>rt 0 (.agg #[.int .i64 p.qJ,.slice qI p.qC.length qH,.slice apFree p.qL.length cpFree,.slice (some ⟨b44,o45,none⟩) p.qB.length qM]) (Qc (cs:=[.int .i64 p.qJ,.slice qI p.qC.length qH,.slice apFree p.qL.length cpFree,.slice (some ⟨b44,o45,none⟩) p.qB.length qM]) Tryz.isAgg37 Tryz.sizeOf37 rfl (fun _ h=>qN (h.cells 3 rfl) 0 4)) H ?_
    refine rtp 1 (.slice ae47In (((p.qB[i]!).fIn).length) ce47In) H ?_
    refine rt 3 (.agg #[.int .i64 p.qJ,.slice qI p.qC.length qH,.slice apFree p.qL.length cpFree,.slice (some ⟨b44,o45,none⟩) p.qB.length qM]) (Qc (cs:=[.int .i64 p.qJ,.slice qI p.qC.length qH,.slice apFree p.qL.length cpFree,.slice (some ⟨b44,o45,none⟩) p.qB.length qM]) Tryz.isAgg37 Tryz.sizeOf37 rfl (fun _ h=>qN (h.cells 3 rfl) 0 4)) H ?_
    refine rtp 4 (.slice ae47Out (((p.qB[i]!).qU).length) ce47Out) H ?_
    refine ro 2 rfl ?_
    have sz63:=H.base.size
    refine oc (bound_ok _ p ((p.qB[i]!).fIn) (H.get 4 rfl).1 (H.get 5 rfl).1 (H.get 6 rfl).1 (H.get 1 rfl).1 (by exact p0.1) (by first | assumption | exact cr.2.1 | exact cr.2.2.1)) ?_
    rintro _ w61 ⟨ra60,rn60,rc60,rfl,M,K⟩ _
    replace H:=H.merge K M
    obtain rfl:=H.y9 0 rfl
    refine ⟨H.pick [1,2,3,4,5,6] [0,1,2,3,4,5,6,7,8,9],(ro 5 rfl ?_)⟩
    have sz69:=H.base.size
    refine oc (bound_ok _ p ((p.qB[i]!).qU) (H.get 4 rfl).1 (H.get 5 rfl).1 (H.get 6 rfl).1 (H.get 0 rfl).1 (by exact p0.1) (by first | assumption | exact cr.2.1 | exact cr.2.2.1)) ?_
    rintro _ w67 ⟨ra66,rn66,rc66,rfl,M,K⟩ _
    replace H:=H.merge K M
    obtain rfl:=H.y9 0 rfl
    refine ⟨H.pick [2,3,4,5,6,7] [0,1,2,3,4,5,6,7,8,9],?_⟩
    have S:=H.zq [2,3,4,5,6,7] [0,1,2,3,4,5,6,7,8,9]
    refine rtp 6 (.slice ra60 ((bdTo p ((p.qB[i]!).fIn) p.qL.length).length) rc60) S ?_
    refine rtp 7 (.slice ra66 ((bdTo p ((p.qB[i]!).qU) p.qL.length).length) rc66) S ?_
    refine xI qi (t_n (xP ?_))
    refine jO rfl H [0,1,2,4,5,6,7] fun H=>?_
    have S:=H.zq [0,1,2,4,5,6,7] [0,1,2,3,4,5,6,7,8,9]
    refine rtp 0 (.slice a9 (s.qG.length+1) c10) S ?_
    refine tF 1 rfl rfl S ?_
    refine tL 2 rfl rfl (fun _ h=>h.cell 2 rfl rfl) S ?_
    refine rtp 3 (.slice a9 (s.qG.length+1) c10) S ?_
    refine tF 4 rfl rfl S ?_
    refine tL 5 rfl rfl (fun _ h=>h.cell 2 rfl rfl) S ?_
    obtain ⟨b73,rfl⟩:=H.yg 3 rfl qg
    have S:=H.zq [0,1,2,4,5,6,7] [0,1,2,3,4,5,6,7,8,9]
    refine tI 6 rfl rfl rfl S ?_
    refine tF 8 rfl rfl S ?_
    refine tL 9 rfl rfl (fun _ h=>h.cell 2 rfl rfl) S ?_
    refine rtp 10 (.int .i64 (counts[i]!)) S ?_
    refine rt 11 (.int .i64 (-(counts[i]!))) (y_neg (counts[i]!) rfl qg) S ?_
    refine ro 7 rfl ?_
    obtain ⟨a74,c75,G76,s77,h78,H⟩:=H.jX 3 rfl 3 rfl (iv:=(p.qB[i]!).qE) (((p.qB[i]!).qE).toNat) qg qg
    refine xY (.slice a74 (((zD p s false counts i)[((p.qB[i]!).qE).toNat]!).length) c75) Tryz.isAgg22 rfl (h78) (⟨H.pick [0,1,2,4,5,6,7] [1,2,3,4,5,6,7,8,9,10],(ro 12 rfl ?_)⟩)
    obtain ⟨u1,u2,u3⟩:=E.row p0.1 qg (i:=((p.qB[i]!).qE).toNat) qg
    have u4:=mo.smallT (t:= -(counts[i]!)) qg
    have u5:=mo.1
    have sz79:=H.base.size
    refine oc (plus_ok _ ((zD p s false counts i)[((p.qB[i]!).qE).toNat]!) ((p.qB[i]!).qU) (-(counts[i]!)) (H.get 0 rfl).1 (H.get 1 rfl).1 qh qh qh) ?_
    rintro v84 w82 r84 x83
    replace H:=H.zg x83 r84
    obtain ⟨a85,c86,rfl,hc87,hm88⟩:=H.vO 0 rfl
    refine ⟨H.pick [1,2,3,5,6,7,8] [1,2,3,4,5,6,7,8,9,10],(tI 13 rfl rfl rfl (H.pick [1,2,3,5,6,7,8] [1,2,3,4,5,6,7,8,9,10]) ?_)⟩
    refine ro 14 rfl ?_
    obtain ⟨G90,N,hn91,H⟩:=H.vw 0 rfl N (H.jL [])
    refine jS false H 4 rfl 5 rfl (.slice a85 ((zo ((zD p s false counts i)[((p.qB[i]!).qE).toNat]!) ((p.qB[i]!).qU) (-(counts[i]!))).length) c86) 0 rfl rfl Tryz.sizeOf22 rfl rfl (i:=(((p.qB[i]!).qE).toNat)) qg qg qo fun w89 xs92 F93 hs94 H=>⟨H.pick [1,2,3,5,6,7,8] [3,4,5,6,7,8,9,10,11,12],(xI qi (t_n (xP ?_)))⟩
    have E1:=E.plus (i:=(p.qB[i]!).qE.toNat) qg mo (t:= -(counts[i]!)) qg
    refine xJ (sps [.slice (some ⟨b73,0,none⟩) (s.qG.length+1) c10,.int .i64 (pUp p ((p.qB[i]!).qE)),.slice (some ⟨b73,0,none⟩) (s.qG.length+1) c10,.int .i64 (pUp p ((p.qB[i]!).qE))] (oI rfl rfl ?_))
    obtain ⟨a95,c96,G97,s98,h99,H⟩:=H.jX 4 rfl 0 rfl (iv:=(pUp p ((p.qB[i]!).qE))) (pUp p ((p.qB[i]!).qE)) qg qg
    refine oL rfl (h99) (sps [.slice ra60 ((bdTo p ((p.qB[i]!).fIn) p.qL.length).length) rc60,.int .i64 (counts[i]!)] (sw (o_neg (counts[i]!) rfl qg ?_)))
    obtain ⟨G100,hn101,h102⟩:=H.Qa 2 rfl
    obtain ⟨u1,u2,u3⟩:=E1.row p0.1 qg (i:=(pUp p ((p.qB[i]!).qE))) qg
    have u4:=(mi.bd f0).smallT (t:= -(counts[i]!)) qg
    have u5:=(mi.bd f0).1
    have sz103:=H.base.size
    have lt104:=H.ltN (L:=[G90]) [2]
    refine sw (oc (plus_ok _ (((zD p s false counts i).set (((p.qB[i]!).qE).toNat) (zo ((zD p s false counts i)[((p.qB[i]!).qE).toNat]!) ((p.qB[i]!).qU) (-(counts[i]!))))[(pUp p ((p.qB[i]!).qE))]!) (bdTo p ((p.qB[i]!).fIn) p.qL.length) (-(counts[i]!)) (H.get 0 rfl).1 h102 qh qh qh) ?_)
    rintro v108 w106 r108 x107
    replace H:=H.zg x107 r108
    obtain ⟨a109,c110,rfl,hc111,hm112⟩:=H.vO 0 rfl
    refine oI rfl rfl ?_
    obtain ⟨G114,N,hn115,H⟩:=H.vw 0 rfl N (H.jL [2])
    refine sw (jS false H 5 rfl 2 rfl (.slice a109 ((zo (((zD p s false counts i).set (((p.qB[i]!).qE).toNat) (zo ((zD p s false counts i)[((p.qB[i]!).qE).toNat]!) ((p.qB[i]!).qU) (-(counts[i]!))))[(pUp p ((p.qB[i]!).qE))]!) (bdTo p ((p.qB[i]!).fIn) p.qL.length) (-(counts[i]!))).length) c110) 0 rfl rfl Tryz.sizeOf22 rfl rfl (i:=(pUp p ((p.qB[i]!).qE))) qg qg qo fun w113 xs116 F117 hs118 H=>zjc (sp (.bool false) (zjn (xC false rfl (fun h=>absurd h qj) (fun _=>xf (b_n (t_n (xJ (sw (xX i 1 rfl rfl qg (sp (.int .i64 (i+1)) ?_)))))))))))
    refine xN (xg (m' :=(counts.length - ((i+1):Int)).toNat) qg ⟨_,i+1,(((zD p s false counts i).set (((p.qB[i]!).qE).toNat) (zo ((zD p s false counts i)[((p.qB[i]!).qE).toNat]!) ((p.qB[i]!).qU) (-(counts[i]!)))).set (pUp p ((p.qB[i]!).qE)) (zo (((zD p s false counts i).set (((p.qB[i]!).qE).toNat) (zo ((zD p s false counts i)[((p.qB[i]!).qE).toNat]!) ((p.qB[i]!).qU) (-(counts[i]!))))[(pUp p ((p.qB[i]!).qE))]!) (bdTo p ((p.qB[i]!).fIn) p.qL.length) (-(counts[i]!)))),xs116,F117,uE6,?_,?_,rfl,(N.pick []),H.pick [5,6,7,8,9] [0,10,11,12,13,14,15]⟩)
    · first | exact cg_take_out qg | exact cg_take_in qg
    · omega
   ·skip
    refine xf (t_n (xP ?_))
    refine jO rfl H [0,2,3,4,5] fun H=>?_
    have S:=H.zq [0,2,3,4,5] [0,1,2,3,4,5,6,7,8,9]
    refine rtp 0 (.slice a9 (s.qG.length+1) c10) S ?_
    refine tF 1 rfl rfl S ?_
    refine tL 2 rfl rfl (fun _ h=>h.cell 0 rfl rfl) S ?_
    refine rtp 3 (.slice a9 (s.qG.length+1) c10) S ?_
    refine tF 4 rfl rfl S ?_
    refine tL 5 rfl rfl (fun _ h=>h.cell 0 rfl rfl) S ?_
    obtain ⟨b120,rfl⟩:=H.yg 1 rfl qg
    have S:=H.zq [0,2,3,4,5] [0,1,2,3,4,5,6,7,8,9]
    refine tI 6 rfl rfl rfl S ?_
    refine tF 8 rfl rfl S ?_
    refine tL 9 rfl rfl (fun _ h=>h.cell 0 rfl rfl) S ?_
    refine rtp 10 (.int .i64 (counts[i]!)) S ?_
    refine rt 11 (.int .i64 (-(counts[i]!))) (y_neg (counts[i]!) rfl qg) S ?_
    refine ro 7 rfl ?_
    obtain ⟨a121,c122,G123,s124,h125,H⟩:=H.jX 1 rfl 3 rfl (iv:=(p.qB[i]!).qE) (((p.qB[i]!).qE).toNat) qg qg
    refine xY (.slice a121 (((zD p s false counts i)[((p.qB[i]!).qE).toNat]!).length) c122) Tryz.isAgg22 rfl (h125) (⟨H.pick [0,2,3,4,5] [1,2,3,4,5,6,7,8,9,10],(ro 12 rfl ?_)⟩)
    obtain ⟨u1,u2,u3⟩:=E.row p0.1 qg (i:=((p.qB[i]!).qE).toNat) qg
    have u4:=mo.smallT (t:= -(counts[i]!)) qg
    have u5:=mo.1
    have sz126:=H.base.size
    refine oc (plus_ok _ ((zD p s false counts i)[((p.qB[i]!).qE).toNat]!) ((p.qB[i]!).qU) (-(counts[i]!)) (H.get 0 rfl).1 (H.get 1 rfl).1 qh qh qh) ?_
    rintro v131 w129 r131 x130
    replace H:=H.zg x130 r131
    obtain ⟨a132,c133,rfl,hc134,hm135⟩:=H.vO 0 rfl
    refine ⟨H.pick [1,3,4,5,6] [1,2,3,4,5,6,7,8,9,10],(tI 13 rfl rfl rfl (H.pick [1,3,4,5,6] [1,2,3,4,5,6,7,8,9,10]) ?_)⟩
    refine ro 14 rfl ?_
    obtain ⟨G137,N,hn138,H⟩:=H.vw 0 rfl N (H.jL [])
    refine jS false H 2 rfl 5 rfl (.slice a132 ((zo ((zD p s false counts i)[((p.qB[i]!).qE).toNat]!) ((p.qB[i]!).qU) (-(counts[i]!))).length) c133) 0 rfl rfl Tryz.sizeOf22 rfl rfl (i:=(((p.qB[i]!).qE).toNat)) qg qg qo fun w136 xs139 F140 hs141 H=>⟨H.pick [1,3,4,5,6] [3,4,5,6,7,8,9,10,11,12],(xI qi (t_n (xP ?_)))⟩
    have E1:=E.plus (i:=(p.qB[i]!).qE.toNat) qg mo (t:= -(counts[i]!)) qg
    refine xJ (sps [.slice (some ⟨b120,0,none⟩) (s.qG.length+1) c10,.int .i64 (pUp p ((p.qB[i]!).qE)),.slice (some ⟨b120,0,none⟩) (s.qG.length+1) c10,.int .i64 (pUp p ((p.qB[i]!).qE))] (oI rfl rfl ?_))
    obtain ⟨a142,c143,G144,s145,h146,H⟩:=H.jX 2 rfl 0 rfl (iv:=(pUp p ((p.qB[i]!).qE))) (pUp p ((p.qB[i]!).qE)) qg qg
    refine oL rfl (h146) (sps [.slice ae47In (((p.qB[i]!).fIn).length) ce47In,.int .i64 (counts[i]!)] (sw (o_neg (counts[i]!) rfl qg ?_)))
    obtain ⟨u1,u2,u3⟩:=E1.row p0.1 qg (i:=(pUp p ((p.qB[i]!).qE))) qg
    have u4:=mi.smallT (t:= -(counts[i]!)) qg
    have u5:=mi.1
    have sz147:=H.base.size
    have lt148:=H.ltN (L:=[G137]) [2]
    refine sw (oc (plus_ok _ (((zD p s false counts i).set (((p.qB[i]!).qE).toNat) (zo ((zD p s false counts i)[((p.qB[i]!).qE).toNat]!) ((p.qB[i]!).qU) (-(counts[i]!))))[(pUp p ((p.qB[i]!).qE))]!) ((p.qB[i]!).fIn) (-(counts[i]!)) (H.get 0 rfl).1 (H.get 5 rfl).1 qh qh qh) ?_)
    rintro v152 w150 r152 x151
    replace H:=H.zg x151 r152
    obtain ⟨a153,c154,rfl,hc155,hm156⟩:=H.vO 0 rfl
    refine oI rfl rfl ?_
    obtain ⟨G158,N,hn159,H⟩:=H.vw 0 rfl N (H.jL [2])
    refine sw (jS false H 3 rfl 2 rfl (.slice a153 ((zo (((zD p s false counts i).set (((p.qB[i]!).qE).toNat) (zo ((zD p s false counts i)[((p.qB[i]!).qE).toNat]!) ((p.qB[i]!).qU) (-(counts[i]!))))[(pUp p ((p.qB[i]!).qE))]!) ((p.qB[i]!).fIn) (-(counts[i]!))).length) c154) 0 rfl rfl Tryz.sizeOf22 rfl rfl (i:=(pUp p ((p.qB[i]!).qE))) qg qg qo fun w157 xs160 F161 hs162 H=>zjc (sp (.bool false) (zjn (xC false rfl (fun h=>absurd h qj) (fun _=>xf (b_n (t_n (xJ (sw (xX i 1 rfl rfl qg (sp (.int .i64 (i+1)) (xN ?_))))))))))))
    refine xg (m' :=(counts.length - ((i+1):Int)).toNat) qg ⟨_,i+1,(((zD p s false counts i).set (((p.qB[i]!).qE).toNat) (zo ((zD p s false counts i)[((p.qB[i]!).qE).toNat]!) ((p.qB[i]!).qU) (-(counts[i]!)))).set (pUp p ((p.qB[i]!).qE)) (zo (((zD p s false counts i).set (((p.qB[i]!).qE).toNat) (zo ((zD p s false counts i)[((p.qB[i]!).qE).toNat]!) ((p.qB[i]!).qU) (-(counts[i]!))))[(pUp p ((p.qB[i]!).qE))]!) ((p.qB[i]!).fIn) (-(counts[i]!)))),xs160,F161,uE6,?_,?_,rfl,(N.pick []),H.pick [3,4,5,6,7] [0,10,11,12,13,14,15]⟩
    · first | exact cg_take_out qg | exact cg_take_in qg
    · omega
  ·skip
   have ei:i=counts.length:=by omega
   refine zx4 (zcr (sps [.slice a9 (s.qG.length+1) c10,.slice a9 (s.qG.length+1) c10] (zjr (ret1 (.slice a9 (s.qG.length+1) c10) rfl rfl ⟨_,rfl,?_⟩))))
   replace H:=H.erases [2,1]
   dsimp only [Qg,List.eraseIdx] at H
   refine sw (jG #[.slice a9 (s.qG.length+1) c10,.func (.func 97) #[] #[]] rfl rfl Tryz.call94 (en Tryz.func94 Tryz.ntmps94 ?_))
   refine zcr (sp (.bool false) (zjc (sps [.slice a9 (s.qG.length+1) c10,.func (.func 97) #[] #[]] (sw (jG #[.slice a9 (s.qG.length+1) c10,.func (.func 97) #[] #[]] rfl rfl Tryz.call115 (en Tryz.func115 Tryz.ntmps115 ?_))))))
   refine zcr (sp (.int .i64 0) (zjcc (sp (.slice a9 (s.qG.length+1) c10) (oN rfl (sp (.int .i64 0) (zjn (xm ?_)))))))
   have EN:=cg_PB p0 p1 p2 false i qg
   have qK:=(pK_le p0.1).1
   have EL:=EN.1
   refine zK (fun m' ρ w163=>∃ (zu:Env) (i_1:Nat),ρ=upd (upd (upd (upd zu 0 (.slice a9 (s.qG.length+1) c10)) 1 (.func (.func 97) #[] #[])) 7 (.int .i64 (s.qG.length+1))) 8 (.int .i64 i_1)∧((i_1:Int)≤(s.qG.length+1))∧(NNTo p (zD p s false counts i) i_1)∧m' =((s.qG.length+1) - (i_1:Int)).toNat∧Fresh w.heap.size []∧St w w163 [rr a9 (s.qG.length+1) c10 22 1 x_bags,.box b3 [.slice asCells s.qG.length csCells,.slice qQ s.qF.length qP] 39,.box b1 [.int .i64 p.qJ,.slice qI p.qC.length qH,.slice apFree p.qL.length cpFree,.slice qR p.qB.length qM] 37] [xW false F_bags x_bags (zD p s false counts i),sF false xe qI qH p.qC,sF false FpFree apFree cpFree p.qL,sF false xx qR qM p.qB,sF false FsCells asCells csCells s.qG,sF false xw qQ qP s.qF,sF false Fcounts acounts ccounts counts]) (((s.qG.length+1) - (0:Int)).toNat) ⟨_,0,uE4,qg,qy,rfl,N,H⟩ ?_
   clear H N
   rintro m' ρ w164 ⟨zu,i_1,rfl,i0,i2,rfl,N,H⟩
   refine zcr (sp (.bool (decide ((i_1:Int) < (s.qG.length+1)))) (zjn (xP (cD rfl (fun h165=>?_) (fun h165=>?_)))))
   ·skip
    obtain ⟨v1,v2,v3⟩:=EN.row p0.1 qg (i:=i_1) qg
    refine xf (t_n (xP (xm (zcr (sps [.int .i64 i_1,.int .i64 i_1] (zjc (sps [.func (.func 97) #[] #[],.slice a9 (s.qG.length+1) c10,.int .i64 i_1] ?_)))))))
    obtain ⟨b166,rfl⟩:=H.yg 0 rfl qg
    refine oI rfl rfl ?_
    obtain ⟨a167,c168,G169,s170,h171,H⟩:=H.jX 0 rfl 0 rfl (iv:=i_1) i_1 qg qg
    refine oL rfl (h171) (sw (jG #[.slice a167 (((zD p s false counts i)[i_1]!).length) c168] rfl rfl Tryz.call97 (en Tryz.func97 Tryz.ntmps97 ?_)))
    refine zcr (sp (.bool false) (zjc (sp (.slice a167 (((zD p s false counts i)[i_1]!).length) c168) (sw (oq (minI_ok _ ((zD p s false counts i)[i_1]!) (H.get 0 rfl).1 qh) H fun w173 H=>sps [.bool (decide ((minTo ((zD p s false counts i)[i_1]!) ((zD p s false counts i)[i_1]!).length:Int) < 0)),.bool (decide ((minTo ((zD p s false counts i)[i_1]!) ((zD p s false counts i)[i_1]!).length:Int) < 0))] (zjr (ret1 (.bool (decide ((minTo ((zD p s false counts i)[i_1]!) ((zD p s false counts i)[i_1]!).length:Int) < 0))) rfl rfl ⟨_,rfl,(zjn ?_)⟩)))))))
    refine cD rfl (fun h175=>?_) (fun h175=>?_)
    ·skip
     refine zcr (sps [.int .i64 i_1,.int .i64 i_1] (zjr (zr5 (ret1 (.int .i64 i_1) rfl rfl ⟨_,rfl,(sw (o_pure (.bool true) (by show some (Value.bool (decide ((i_1:Int)≥0)))=some (Value.bool true);rw [decide_eq_true qg]) (sp (.bool true) (zjr (ret1 (.bool true) rfl rfl ⟨_,rfl,(sps [.bool false,.bool false] (zjr (ret1 (.bool false) rfl rfl ⟨_,rfl,?_,H.base⟩)))⟩)))))⟩))))
     rw [← ei,zf (NNTo.not (i:=i_1) qg v1 qK qg)]
    ·skip
     refine xf (b_n (t_n (xJ (sw (xX i_1 1 rfl rfl qg (sp (.int .i64 (i_1+1)) (xN (xg (m' :=((s.qG.length+1) - ((i_1+1):Int)).toNat) qg ⟨_,i_1+1,uE4,?_,?_,rfl,N,H.pick [0,1,2] [1,2,3,4,5,6,7]⟩))))))))
     · omega
     · exact i2.succ v1 qK qg
   ·skip
    refine zx4 (zcr (sp (.int .i64 (-1)) (zjr (ret1 (.int .i64 (-1)) rfl rfl ⟨_,rfl,(sps [.bool false,.bool false] (zjr (ret1 (.bool false) rfl rfl ⟨_,rfl,(sps [.bool true,.bool true] (zjr (ret1 (.bool true) rfl rfl ⟨_,rfl,?_,H.base⟩)))⟩)))⟩))))
    rw [← ei,yw ((show p.qC.length+1=i_1 by omega)▸i2)]
theorem canAdd_ok (w:World) (p:qW) (s:qZ) (counts:yLI) (k:Int) {qI:yOA} {xe:yLN} {apFree:yOA} {FpFree:yLN} {qR:yOA} {xx:yLN} {asCells:yOA} {FsCells:yLN} {qQ:yOA} {xw:yLN} {acounts:yOA} {Fcounts:yLN} (qX:qV.rep w xe [.slice qI p.qC.length qH] p.qC) (hpFree:qV.rep w FpFree [.slice apFree p.qL.length cpFree] p.qL) (xn:qV.rep w xx [.slice qR p.qB.length qM] p.qB) (hsCells:qV.rep w FsCells [.slice asCells s.qG.length csCells] s.qG) (xu:qV.rep w xw [.slice qQ s.qF.length qP] s.qF) (hcounts:qV.rep w Fcounts [.slice acounts counts.length ccounts] counts) (p0:zi p) (p1:xG p s) (p2:Cnts0 p counts) (p3:0≤k∧k < counts.length):Calls Tryz.prog 96 #[.agg #[.int .i64 p.qJ,.slice qI p.qC.length qH,.slice apFree p.qL.length cpFree,.slice qR p.qB.length qM],.agg #[.slice asCells s.qG.length csCells,.slice qQ s.qF.length qP],.slice acounts counts.length ccounts,.int .i64 k] w (Ret (fun v w' =>v=.bool (dec (CanBI p s counts k))) w):=by
 refine en Tryz.func96 Tryz.ntmps96 ?_
 have H:=((((((St.start w).arg hcounts).arg xu).arg hsCells).arg xn).arg hpFree).arg qX
 have zF:=qO qX
 have nhpFree:=qO hpFree
 have vC:=qO xn
 have nhsCells:=qO hsCells
 have vV:=qO xu
 have nhcounts:=qO hcounts
 clear qX hpFree xn hsCells xu hcounts
 have N:=Fresh.nil w.heap.size
 have p4:=p2.1
 have p5:=p0.1.2.2.2.1
 have p6:=p2.2 k.toNat qg
 have p7:=p2.bump (k:=k.toNat) qg
 refine zcr (sw (jd H [.int .i64 p.qJ,.slice qI p.qC.length qH,.slice apFree p.qL.length cpFree,.slice qR p.qB.length qM] fun b1 w2 H=>sw (jd H [.slice asCells s.qG.length csCells,.slice qQ s.qF.length qP] fun b3 w4 H=>sp (.bool false) (zjc (sp (.slice acounts counts.length ccounts) ?_)))))
 have sz5:=H.base.size
 refine sw (oc (cloneI_ok _ counts (H.get 5 rfl).1 qh) ?_)
 rintro v10 w8 r10 x9
 replace H:=H.zg x9 r10
 obtain ⟨a11,c12,rfl,hc13,hm14⟩:=H.vO 0 rfl
 refine sp (.slice a11 counts.length c12) (zjc (sps [.slice a11 counts.length c12,.int .i64 k] ?_))
 obtain ⟨b15,rfl⟩:=H.yg 0 rfl qg
 refine oI rfl rfl (oL rfl (H.yE 0 rfl (iv:=k) (i:=k.toNat) qg qg) (sw (xX (counts[k.toNat]!) 1 rfl rfl qg (oI rfl rfl (sw (vg H 0 rfl ((counts[k.toNat]!)+1) Tryz.sizeOf2 rfl rfl (i:=k.toNat) qg qg fun w16 H=>zjc (sw (xZ [.int .i64 p.qJ,.slice qI p.qC.length qH,.slice apFree p.qL.length cpFree,.slice qR p.qB.length qM] Tryz.isAgg37 Tryz.sizeOf37 rfl (qN (H.cells 2 rfl) 0 4) (sw (xZ [.slice asCells s.qG.length csCells,.slice qQ s.qF.length qP] Tryz.isAgg39 Tryz.sizeOf39 rfl (qN (H.cells 1 rfl) 0 2) ?_))))))))))
 refine sp (.slice (some ⟨b15,0,none⟩) counts.length c12) ?_
 obtain ⟨G17,hn18,h19⟩:=H.Qa 0 rfl
 refine sw (oq (args_eq (by rw [← hn18]) (fits_ok _ p s (counts.set k.toNat ((counts[k.toNat]!)+1)) (H.get 0 rfl).1 (H.get 1 rfl).1 (H.get 2 rfl).1 (H.get 3 rfl).1 (H.get 4 rfl).1 (hn18▸h19) (by exact p0) (by exact p1) qm)) H fun w21 H=>sp (.bool (dec (NNTo p (zD p s false (counts.set k.toNat ((counts[k.toNat]!)+1)) (counts.set k.toNat ((counts[k.toNat]!)+1)).length) (p.qC.length+1)))) (zjr (ret1 (.bool (dec (NNTo p (zD p s false (counts.set k.toNat ((counts[k.toNat]!)+1)) (counts.set k.toNat ((counts[k.toNat]!)+1)).length) (p.qC.length+1)))) rfl rfl ⟨_,rfl,?_,H.base⟩)))
 rfl

theorem isChoice_ok (w:World) (p:qW) (s:qZ) (counts:yLI) (mode:Int) {qI:yOA} {xe:yLN} {apFree:yOA} {FpFree:yLN} {qR:yOA} {xx:yLN} {asCells:yOA} {FsCells:yLN} {qQ:yOA} {xw:yLN} {acounts:yOA} {Fcounts:yLN} (qX:qV.rep w xe [.slice qI p.qC.length qH] p.qC) (hpFree:qV.rep w FpFree [.slice apFree p.qL.length cpFree] p.qL) (xn:qV.rep w xx [.slice qR p.qB.length qM] p.qB) (hsCells:qV.rep w FsCells [.slice asCells s.qG.length csCells] s.qG) (xu:qV.rep w xw [.slice qQ s.qF.length qP] s.qF) (hcounts:qV.rep w Fcounts [.slice acounts counts.length ccounts] counts) (p0:zi p) (p1:xG p s) (p2:Cnts0 p counts):Calls Tryz.prog 72 #[.agg #[.int .i64 p.qJ,.slice qI p.qC.length qH,.slice apFree p.qL.length cpFree,.slice qR p.qB.length qM],.agg #[.slice asCells s.qG.length csCells,.slice qQ s.qF.length qP],.slice acounts counts.length ccounts,.int .i64 mode] w (Ret (fun v w' =>v=.bool (dec (ChosenB p s counts mode))) w):=by
 refine en Tryz.func72 Tryz.ntmps72 ?_
 have H:=((((((St.start w).arg hcounts).arg xu).arg hsCells).arg xn).arg hpFree).arg qX
 have zF:=qO qX
 have nhpFree:=qO hpFree
 have vC:=qO xn
 have nhsCells:=qO hsCells
 have vV:=qO xu
 have nhcounts:=qO hcounts
 clear qX hpFree xn hsCells xu hcounts
 have N:=Fresh.nil w.heap.size
 have p3:=p2.1
 have p4:=p0.1.2.2.2.1
 have p5:=p2.small p0.1
 have p6:=p0.1.2.1
 refine zcr (sw (jd H [.int .i64 p.qJ,.slice qI p.qC.length qH,.slice apFree p.qL.length cpFree,.slice qR p.qB.length qM] fun b1 w2 H=>sw (jd H [.slice asCells s.qG.length csCells,.slice qQ s.qF.length qP] fun b3 w4 H=>sp (.bool false) (zjc (sp (.slice acounts counts.length ccounts) (sw (oq (bagSize_ok _ counts (H.get 5 rfl).1 (by first | assumption | exact jJ qm | exact Qs qm)) H fun w5 H=>sp (.int .i64 (yM counts)) (zjcc ?_))))))))
 refine sps [.int .i64 (yM counts),.bool ((yM counts:Int) == 0),.bool ((yM counts:Int) == 0)] ?_
 cases h7:((yM counts:Int) == 0)
 ·skip
  replace h7:=ne_of_beq_false h7
  refine qY 19 rfl rfl (sp (.int .i64 mode) (qY 19 rfl rfl (sps [.bool ((mode:Int) == 3),.bool ((mode:Int) == 3)] (zjn (cE rfl (fun h8=>?_) (fun h8=>?_))))))
  ·skip
   refine zcr (sps [.int .i64 (yM counts),.bool ((yM counts:Int) == 1),.bool ((yM counts:Int) == 1)] (zjr (t_r (ret1 (.bool ((yM counts:Int) == 1)) rfl rfl ⟨_,rfl,(congrArg Value.bool (dec_eq ?_)),H.base⟩))))
   rw [chosenB_one qg]
   simp
  ·skip
   refine xf (t_n (zcr (oF rfl (oL rfl (H.cell 1 rfl rfl) (oN rfl (sw (o_makeB H Tryz.underlying23 ti4 p.qC.length rfl rfl qg qg qg fun b9 w10 H=>sp (.slice (some ⟨b9,0,none⟩) p.qC.length p.qC.length) (zjcc (sp (.slice acounts counts.length ccounts) (oN rfl (sp (.int .i64 0) (zjn (xm ?_)))))))))))))
   refine zK (fun m' ρ w11=>∃ (zu:Env) (k:Nat) (busy:List Bool),ρ=upd (upd (upd (upd (upd (upd (upd (upd zu 2 (.slice acounts counts.length ccounts)) 3 (.int .i64 mode)) 4 (.pointer (some ⟨b1,0,none⟩))) 5 (.pointer (some ⟨b3,0,none⟩))) 10 (.slice (some ⟨b9,0,none⟩) p.qC.length p.qC.length)) 29 (.slice acounts counts.length ccounts)) 30 (.int .i64 counts.length)) 31 (.int .i64 k)∧busy=(vW p counts mode k)∧((k:Int)≤counts.length)∧m' =(counts.length - (k:Int)).toNat∧Fresh w.heap.size []∧St w w11 [rr (some ⟨b9,0,none⟩) p.qC.length p.qC.length 4 1 (busy.map (Value.bool)),.box b3 [.slice asCells s.qG.length csCells,.slice qQ s.qF.length qP] 39,.box b1 [.int .i64 p.qJ,.slice qI p.qC.length qH,.slice apFree p.qL.length cpFree,.slice qR p.qB.length qM] 37] [sF false xe qI qH p.qC,sF false FpFree apFree cpFree p.qL,sF false xx qR qM p.qB,sF false FsCells asCells csCells s.qG,sF false xw qQ qP s.qF,sF false Fcounts acounts ccounts counts]) ((counts.length - (0:Int)).toNat) ⟨_,0,(List.replicate p.qC.length (false)),uE8,(by exact busyTo_zero _ rfl),qg,rfl,N,H⟩ ?_
   clear H N
   rintro m' ρ w12 ⟨zu,k,busy,rfl,rfl,i0,rfl,N,H⟩
   have hn_busy:=H.rowNB 0 rfl
   have bl:=busyTo_len (p:=p) (cs:=counts) (mode:=mode) k
   refine zcr (sp (.bool (decide ((k:Int) < counts.length))) (zjn (xP (cD rfl (fun h13=>?_) (fun h13=>?_)))))
   ·skip
    have cr:=p0.2 k qg
    have c1:=cr.1
    refine xf (t_n (xP (xm (zcr (sp (.int .i64 k) ?_)))))
    obtain ⟨b14,o15,rfl⟩:=H.addr 5 rfl qg
    refine oI rfl rfl (oL rfl (H.vY 5 rfl k qg qg) (sps [.int .i64 k,.int .i64 (counts[k]!)] (zjn ?_)))
    refine jO rfl H [1,2] fun H=>?_
    have S:=H.zq [1,2] [0,1,2,3,4,5]
    refine rtp 0 (.slice (some ⟨b9,0,none⟩) p.qC.length p.qC.length) S ?_
    refine tF 1 rfl rfl S ?_
    refine tL 2 rfl rfl (fun _ h=>h.cell 1 rfl rfl) S ?_
    refine rtp 3 (.int .i64 k) S ?_
    obtain ⟨b18,o19,rfl⟩:=H.addr 2 rfl qg
    obtain ⟨ae21Out,ce21Out,Fe21Out,ae21In,ce21In,Fe21In,H⟩:=H.zW 2 rfl k k qg qg qg
    have S:=H.zq [1,2] [3,4,5,6,7,8]
    refine tI 4 rfl rfl rfl S ?_
    refine tF 5 rfl rfl S ?_
    refine rtp 7 (.slice (some ⟨b9,0,none⟩) p.qC.length p.qC.length) S ?_
    refine tF 8 rfl rfl S ?_
    refine tL 9 rfl rfl (fun _ h=>h.cell 1 rfl rfl) S ?_
    refine rtp 10 (.int .i64 k) S ?_
    refine tI 11 rfl rfl rfl S ?_
    refine tF 12 rfl rfl S ?_
    refine yz [6,13] qi qo (r_op rfl ?_ (r_op rfl ?_ yA))
    ·skip
     refine xY (.int .i64 ((p.qB[k]!).qE)) Tryz.isAgg2 rfl (H.xU 2 rfl 0 rfl) (⟨H.pick [1,2] [3,4,5,6,7,8],(ro 13 rfl (xY (.int .i64 ((p.qB[k]!).qE)) Tryz.isAgg2 rfl (H.xU 2 rfl 0 rfl) (⟨H.pick [1,2] [3,4,5,6,7,8],(tI 14 rfl rfl rfl (H.pick [1,2] [3,4,5,6,7,8]) ?_)⟩)))⟩)
     refine ro 15 rfl (xY (.bool ((vW p counts mode k)[((p.qB[k]!).qE).toNat]!)) Tryz.isAgg4 rfl (H.rowBool 0 rfl (iv:=(p.qB[k]!).qE) (i:=(((p.qB[k]!).qE).toNat)) qg qg) (⟨H.pick [1,2] [3,4,5,6,7,8],(rtp 16 (.bool ((vW p counts mode k)[((p.qB[k]!).qE).toNat]!)) (H.pick [1,2] [3,4,5,6,7,8]) ?_)⟩))
     cases h22:((vW p counts mode k)[((p.qB[k]!).qE).toNat]!)
     ·skip
      have S:=H.zq [1,2] [3,4,5,6,7,8]
      refine rgp 17 (.int .i64 (counts[k]!)) 52 S ?_
      refine rgp 18 (.bool (decide ((counts[k]! :Int) > 0))) 52 S ?_
      refine rgp 19 (.bool (decide ((counts[k]! :Int) > 0))) 52 S ?_
      cases h23:(decide ((counts[k]! :Int) > 0))
      ·skip
       replace h23:=of_decide_eq_false h23
       refine zL [20,21] 2 (H.pick [1,2] [3,4,5,6,7,8]) ?_
       have S:=H.zq [1,2] [3,4,5,6,7,8]
       refine rgp 22 (.bool false) 52 S ?_
       refine rtp 23 (.bool false) S ?_
       refine tI 24 rfl rfl rfl S ?_
       refine ro 25 rfl (Qd H 0 rfl false Tryz.sizeOf4 rfl rfl (i:=(((p.qB[k]!).qE).toNat)) qg qg fun w24 H=>⟨H.pick [1,2] [3,4,5,6,7,8],(xI qi (b_n (t_n (xJ (sw (xX k 1 rfl rfl qg (sp (.int .i64 (k+1)) (xN (xg (m' :=(counts.length - ((k+1):Int)).toNat) qg ⟨_,k+1,((vW p counts mode k).set (((p.qB[k]!).qE).toNat) false),uE8,?_,?_,rfl,N,H.pick [0,1,2] [3,4,5,6,7,8]⟩)))))))))⟩)
       · first | exact busy_t qg qm | exact busy_n qg qm qg | exact busy_m qg qm qg qo
       · omega
      ·skip
       replace h23:=of_decide_eq_true h23
       have S:=H.zq [1,2] [3,4,5,6,7,8]
       refine rgp 20 (.int .i64 mode) 55 S ?_
       refine rgp 21 (.bool ((mode:Int) == 2)) 55 S ?_
       refine rgp 22 (.bool ((mode:Int) == 2)) 52 S ?_
       refine rtp 23 (.bool ((mode:Int) == 2)) S ?_
       refine tI 24 rfl rfl rfl S ?_
       refine ro 25 rfl (Qd H 0 rfl ((mode:Int) == 2) Tryz.sizeOf4 rfl rfl (i:=(((p.qB[k]!).qE).toNat)) qg qg fun w25 H=>⟨H.pick [1,2] [3,4,5,6,7,8],(xI qi (b_n (t_n (xJ (sw (xX k 1 rfl rfl qg (sp (.int .i64 (k+1)) (xN (xg (m' :=(counts.length - ((k+1):Int)).toNat) qg ⟨_,k+1,((vW p counts mode k).set (((p.qB[k]!).qE).toNat) ((mode:Int) == 2)),uE8,?_,?_,rfl,N,H.pick [0,1,2] [3,4,5,6,7,8]⟩)))))))))⟩)
       · first | exact busy_t qg qm | exact busy_n qg qm qg | exact busy_m qg qm qg qo
       · omega
     ·skip
      refine zL [17,18,19,20,21,22] 6 (H.pick [1,2] [3,4,5,6,7,8]) ?_
      have S:=H.zq [1,2] [3,4,5,6,7,8]
      refine rtp 23 (.bool true) S ?_
      refine tI 24 rfl rfl rfl S ?_
      refine ro 25 rfl (Qd H 0 rfl true Tryz.sizeOf4 rfl rfl (i:=(((p.qB[k]!).qE).toNat)) qg qg fun w26 H=>⟨H.pick [1,2] [3,4,5,6,7,8],(xI qi (b_n (t_n (xJ (sw (xX k 1 rfl rfl qg (sp (.int .i64 (k+1)) (xN (xg (m' :=(counts.length - ((k+1):Int)).toNat) qg ⟨_,k+1,((vW p counts mode k).set (((p.qB[k]!).qE).toNat) true),uE8,?_,?_,rfl,N,H.pick [0,1,2] [3,4,5,6,7,8]⟩)))))))))⟩)
      · first | exact busy_t qg qm | exact busy_n qg qm qg | exact busy_m qg qm qg qo
      · omega
    ·skip
     refine xY (.int .i64 ((p.qB[k]!).qE)) Tryz.isAgg2 rfl (H.xU 2 rfl 0 rfl) (⟨H.pick [1,2] [3,4,5,6,7,8],(tI 14 rfl rfl rfl (H.pick [1,2] [3,4,5,6,7,8]) ?_)⟩)
     refine yz [6,15] qi qo (r_op rfl ?_ (r_op rfl ?_ yA))
     ·skip
      refine xY (.int .i64 ((p.qB[k]!).qE)) Tryz.isAgg2 rfl (H.xU 2 rfl 0 rfl) (⟨H.pick [1,2] [3,4,5,6,7,8],(ro 15 rfl (xY (.bool ((vW p counts mode k)[((p.qB[k]!).qE).toNat]!)) Tryz.isAgg4 rfl (H.rowBool 0 rfl (iv:=(p.qB[k]!).qE) (i:=(((p.qB[k]!).qE).toNat)) qg qg) (⟨H.pick [1,2] [3,4,5,6,7,8],(rtp 16 (.bool ((vW p counts mode k)[((p.qB[k]!).qE).toNat]!)) (H.pick [1,2] [3,4,5,6,7,8]) ?_)⟩)))⟩)
      cases h27:((vW p counts mode k)[((p.qB[k]!).qE).toNat]!)
      ·skip
       have S:=H.zq [1,2] [3,4,5,6,7,8]
       refine rgp 17 (.int .i64 (counts[k]!)) 52 S ?_
       refine rgp 18 (.bool (decide ((counts[k]! :Int) > 0))) 52 S ?_
       refine rgp 19 (.bool (decide ((counts[k]! :Int) > 0))) 52 S ?_
       cases h28:(decide ((counts[k]! :Int) > 0))
       ·skip
        replace h28:=of_decide_eq_false h28
        refine zL [20,21] 2 (H.pick [1,2] [3,4,5,6,7,8]) ?_
        have S:=H.zq [1,2] [3,4,5,6,7,8]
        refine rgp 22 (.bool false) 52 S ?_
        refine rtp 23 (.bool false) S ?_
        refine tI 24 rfl rfl rfl S ?_
        refine ro 25 rfl (Qd H 0 rfl false Tryz.sizeOf4 rfl rfl (i:=(((p.qB[k]!).qE).toNat)) qg qg fun w29 H=>⟨H.pick [1,2] [3,4,5,6,7,8],(xI qi (b_n (t_n (xJ (sw (xX k 1 rfl rfl qg (sp (.int .i64 (k+1)) (xN (xg (m' :=(counts.length - ((k+1):Int)).toNat) qg ⟨_,k+1,((vW p counts mode k).set (((p.qB[k]!).qE).toNat) false),uE8,?_,?_,rfl,N,H.pick [0,1,2] [3,4,5,6,7,8]⟩)))))))))⟩)
        · first | exact busy_t qg qm | exact busy_n qg qm qg | exact busy_m qg qm qg qo
        · omega
       ·skip
        replace h28:=of_decide_eq_true h28
        have S:=H.zq [1,2] [3,4,5,6,7,8]
        refine rgp 20 (.int .i64 mode) 55 S ?_
        refine rgp 21 (.bool ((mode:Int) == 2)) 55 S ?_
        refine rgp 22 (.bool ((mode:Int) == 2)) 52 S ?_
        refine rtp 23 (.bool ((mode:Int) == 2)) S ?_
        refine tI 24 rfl rfl rfl S ?_
        refine ro 25 rfl (Qd H 0 rfl ((mode:Int) == 2) Tryz.sizeOf4 rfl rfl (i:=(((p.qB[k]!).qE).toNat)) qg qg fun w30 H=>⟨H.pick [1,2] [3,4,5,6,7,8],(xI qi (b_n (t_n (xJ (sw (xX k 1 rfl rfl qg (sp (.int .i64 (k+1)) (xN (xg (m' :=(counts.length - ((k+1):Int)).toNat) qg ⟨_,k+1,((vW p counts mode k).set (((p.qB[k]!).qE).toNat) ((mode:Int) == 2)),uE8,?_,?_,rfl,N,H.pick [0,1,2] [3,4,5,6,7,8]⟩)))))))))⟩)
        · first | exact busy_t qg qm | exact busy_n qg qm qg | exact busy_m qg qm qg qo
        · omega
      ·skip
       refine zL [17,18,19,20,21,22] 6 (H.pick [1,2] [3,4,5,6,7,8]) ?_
       have S:=H.zq [1,2] [3,4,5,6,7,8]
       refine rtp 23 (.bool true) S ?_
       refine tI 24 rfl rfl rfl S ?_
       refine ro 25 rfl (Qd H 0 rfl true Tryz.sizeOf4 rfl rfl (i:=(((p.qB[k]!).qE).toNat)) qg qg fun w31 H=>⟨H.pick [1,2] [3,4,5,6,7,8],(xI qi (b_n (t_n (xJ (sw (xX k 1 rfl rfl qg (sp (.int .i64 (k+1)) (xN (xg (m' :=(counts.length - ((k+1):Int)).toNat) qg ⟨_,k+1,((vW p counts mode k).set (((p.qB[k]!).qE).toNat) true),uE8,?_,?_,rfl,N,H.pick [0,1,2] [3,4,5,6,7,8]⟩)))))))))⟩)
       · first | exact busy_t qg qm | exact busy_n qg qm qg | exact busy_m qg qm qg qo
       · omega
     ·skip
      refine xY (.bool ((vW p counts mode k)[((p.qB[k]!).qE).toNat]!)) Tryz.isAgg4 rfl (H.rowBool 0 rfl (iv:=(p.qB[k]!).qE) (i:=(((p.qB[k]!).qE).toNat)) qg qg) (⟨H.pick [1,2] [3,4,5,6,7,8],(rtp 16 (.bool ((vW p counts mode k)[((p.qB[k]!).qE).toNat]!)) (H.pick [1,2] [3,4,5,6,7,8]) ?_)⟩)
      cases h32:((vW p counts mode k)[((p.qB[k]!).qE).toNat]!)
      ·skip
       have S:=H.zq [1,2] [3,4,5,6,7,8]
       refine rgp 17 (.int .i64 (counts[k]!)) 52 S ?_
       refine rgp 18 (.bool (decide ((counts[k]! :Int) > 0))) 52 S ?_
       refine rgp 19 (.bool (decide ((counts[k]! :Int) > 0))) 52 S ?_
       cases h33:(decide ((counts[k]! :Int) > 0))
       ·skip
        replace h33:=of_decide_eq_false h33
        refine zL [20,21] 2 (H.pick [1,2] [3,4,5,6,7,8]) ?_
        have S:=H.zq [1,2] [3,4,5,6,7,8]
        refine rgp 22 (.bool false) 52 S ?_
        refine rtp 23 (.bool false) S ?_
        refine ro 6 rfl (xY (.int .i64 ((p.qB[k]!).qE)) Tryz.isAgg2 rfl (H.xU 2 rfl 0 rfl) (⟨H.pick [1,2] [3,4,5,6,7,8],(tI 24 rfl rfl rfl (H.pick [1,2] [3,4,5,6,7,8]) ?_)⟩))
        refine ro 25 rfl (Qd H 0 rfl false Tryz.sizeOf4 rfl rfl (i:=(((p.qB[k]!).qE).toNat)) qg qg fun w34 H=>⟨H.pick [1,2] [3,4,5,6,7,8],(xI qi (b_n (t_n (xJ (sw (xX k 1 rfl rfl qg (sp (.int .i64 (k+1)) (xN (xg (m' :=(counts.length - ((k+1):Int)).toNat) qg ⟨_,k+1,((vW p counts mode k).set (((p.qB[k]!).qE).toNat) false),uE8,?_,?_,rfl,N,H.pick [0,1,2] [3,4,5,6,7,8]⟩)))))))))⟩)
        · first | exact busy_t qg qm | exact busy_n qg qm qg | exact busy_m qg qm qg qo
        · omega
       ·skip
        replace h33:=of_decide_eq_true h33
        have S:=H.zq [1,2] [3,4,5,6,7,8]
        refine rgp 20 (.int .i64 mode) 55 S ?_
        refine rgp 21 (.bool ((mode:Int) == 2)) 55 S ?_
        refine rgp 22 (.bool ((mode:Int) == 2)) 52 S ?_
        refine rtp 23 (.bool ((mode:Int) == 2)) S ?_
        refine ro 6 rfl (xY (.int .i64 ((p.qB[k]!).qE)) Tryz.isAgg2 rfl (H.xU 2 rfl 0 rfl) (⟨H.pick [1,2] [3,4,5,6,7,8],(tI 24 rfl rfl rfl (H.pick [1,2] [3,4,5,6,7,8]) ?_)⟩))
        refine ro 25 rfl (Qd H 0 rfl ((mode:Int) == 2) Tryz.sizeOf4 rfl rfl (i:=(((p.qB[k]!).qE).toNat)) qg qg fun w35 H=>⟨H.pick [1,2] [3,4,5,6,7,8],(xI qi (b_n (t_n (xJ (sw (xX k 1 rfl rfl qg (sp (.int .i64 (k+1)) (xN (xg (m' :=(counts.length - ((k+1):Int)).toNat) qg ⟨_,k+1,((vW p counts mode k).set (((p.qB[k]!).qE).toNat) ((mode:Int) == 2)),uE8,?_,?_,rfl,N,H.pick [0,1,2] [3,4,5,6,7,8]⟩)))))))))⟩)
        · first | exact busy_t qg qm | exact busy_n qg qm qg | exact busy_m qg qm qg qo
        · omega
      ·skip
       refine zL [17,18,19,20,21,22] 6 (H.pick [1,2] [3,4,5,6,7,8]) (rtp 23 (.bool true) (H.pick [1,2] [3,4,5,6,7,8]) ?_)
       refine ro 6 rfl (xY (.int .i64 ((p.qB[k]!).qE)) Tryz.isAgg2 rfl (H.xU 2 rfl 0 rfl) (⟨H.pick [1,2] [3,4,5,6,7,8],(tI 24 rfl rfl rfl (H.pick [1,2] [3,4,5,6,7,8]) ?_)⟩))
       refine ro 25 rfl (Qd H 0 rfl true Tryz.sizeOf4 rfl rfl (i:=(((p.qB[k]!).qE).toNat)) qg qg fun w36 H=>⟨H.pick [1,2] [3,4,5,6,7,8],(xI qi (b_n (t_n (xJ (sw (xX k 1 rfl rfl qg (sp (.int .i64 (k+1)) (xN (xg (m' :=(counts.length - ((k+1):Int)).toNat) qg ⟨_,k+1,((vW p counts mode k).set (((p.qB[k]!).qE).toNat) true),uE8,?_,?_,rfl,N,H.pick [0,1,2] [3,4,5,6,7,8]⟩)))))))))⟩)
       · first | exact busy_t qg qm | exact busy_n qg qm qg | exact busy_m qg qm qg qo
       · omega
   ·skip
    refine zx4 (zcc (oF rfl (oL rfl (H.cell 2 rfl rfl) (oN rfl (sp (.int .i64 0) (zjn (xm ?_)))))))
    have ek:k=counts.length:=by omega
    refine zK (fun m' ρ w37=>∃ (zu:Env) (k_1:Nat),ρ=upd (upd (upd (upd (upd (upd (upd zu 2 (.slice acounts counts.length ccounts)) 4 (.pointer (some ⟨b1,0,none⟩))) 5 (.pointer (some ⟨b3,0,none⟩))) 10 (.slice (some ⟨b9,0,none⟩) p.qC.length p.qC.length)) 63 (.slice qR p.qB.length qM)) 64 (.int .i64 p.qB.length)) 65 (.int .i64 k_1)∧((k_1:Int)≤p.qB.length)∧(FullB p s counts mode k_1)∧m' =(p.qB.length - (k_1:Int)).toNat∧Fresh w.heap.size []∧St w w37 [rr (some ⟨b9,0,none⟩) p.qC.length p.qC.length 4 1 ((vW p counts mode k).map (Value.bool)),.box b3 [.slice asCells s.qG.length csCells,.slice qQ s.qF.length qP] 39,.box b1 [.int .i64 p.qJ,.slice qI p.qC.length qH,.slice apFree p.qL.length cpFree,.slice qR p.qB.length qM] 37] [sF false xe qI qH p.qC,sF false FpFree apFree cpFree p.qL,sF false xx qR qM p.qB,sF false FsCells asCells csCells s.qG,sF false xw qQ qP s.qF,sF false Fcounts acounts ccounts counts]) ((p.qB.length - (0:Int)).toNat) ⟨_,0,uE7,qg,qy,rfl,N,H⟩ ?_
    clear H N
    rintro m' ρ w38 ⟨zu,k_1,rfl,i0,i1,rfl,N,H⟩
    refine zcr (sp (.bool (decide ((k_1:Int) < p.qB.length))) (zjn (xP (cD rfl (fun h39=>?_) (fun h39=>?_)))))
    ·skip
     have cr:=p0.2 k_1 qg
     have c1:=cr.1
     refine xf (t_n (xP (xm (zcr (sp (.int .i64 k_1) ?_)))))
     obtain ⟨b40,o41,rfl⟩:=H.addr 2 rfl qg
     obtain ⟨ae43Out,ce43Out,Fe43Out,ae43In,ce43In,Fe43In,H⟩:=H.zW 2 rfl k_1 k_1 qg qg qg
     refine oI rfl rfl (sw (xZ [.int .i64 ((p.qB[k_1]!).qE),.slice ae43Out (((p.qB[k_1]!).qU).length) ce43Out,.slice ae43In (((p.qB[k_1]!).fIn).length) ce43In] Tryz.isAgg93 Tryz.sizeOf93 rfl (qN (H.get 2 rfl) 0 3) (sw (ja H ti93 [.int .i64 0,.slice none 0 0,.slice none 0 0] fun b44 w45 H=>sp (.int .i64 k_1) (sw (jA H 0 [.int .i64 ((p.qB[k_1]!).qE),.slice ae43Out (((p.qB[k_1]!).qU).length) ce43Out,.slice ae43In (((p.qB[k_1]!).fIn).length) ce43In] Tryz.sizeOf93 fun w46 H=>zjc (sp (.slice (some ⟨b9,0,none⟩) p.qC.length p.qC.length) (oF rfl (oL rfl (H.cell 0 rfl rfl) ?_)))))))))
     refine oI rfl rfl (oL rfl (H.rowBool 1 rfl (iv:=(p.qB[k_1]!).qE) (i:=(((p.qB[k_1]!).qE).toNat)) qg qg) (sps [.bool (!((vW p counts mode k)[((p.qB[k_1]!).qE).toNat]!)),.bool (!((vW p counts mode k)[((p.qB[k_1]!).qE).toNat]!))] ?_))
     cases h47:(!((vW p counts mode k)[((p.qB[k_1]!).qE).toNat]!))
     ·skip
      replace h47:=xq h47
      refine zG [77,78,79,80,81] (sp (.bool false) (zjn (xC false rfl (fun h=>absurd h qj) (fun _=>xf (b_n (t_n (xJ (sw (xX k_1 1 rfl rfl qg (sp (.int .i64 (k_1+1)) (xN (xg (m' :=(p.qB.length - ((k_1+1):Int)).toNat) qg ⟨_,k_1+1,uE7,?_,?_,rfl,N,H.pick [1,2,3] [3,4,5,6,7,8]⟩))))))))))))
      · omega
      · exact i1.succ (by first | exact .inl (by rw [← ek];assumption) | exact .inr qm)
     ·skip
      replace h47:=xB h47
      refine qY 76 rfl rfl (sw (xZ [.int .i64 p.qJ,.slice qI p.qC.length qH,.slice apFree p.qL.length cpFree,.slice (some ⟨b40,o41,none⟩) p.qB.length qM] Tryz.isAgg37 Tryz.sizeOf37 rfl (qN (H.cells 3 rfl) 0 4) (qY 76 rfl rfl (sw (xZ [.slice asCells s.qG.length csCells,.slice qQ s.qF.length qP] Tryz.isAgg39 Tryz.sizeOf39 rfl (qN (H.cells 2 rfl) 0 2) (qY 76 rfl rfl (sp (.slice acounts counts.length ccounts) (qY 76 rfl rfl (sp (.int .i64 k_1) (qY 76 rfl rfl ?_))))))))))
      refine sw (oq (canAdd_ok _ p s counts k_1 (H.get 3 rfl).1 (H.get 4 rfl).1 (H.get 5 rfl).1 (H.get 6 rfl).1 (H.get 7 rfl).1 (H.get 8 rfl).1 (by exact p0) (by exact p1) (by exact p2) qg) H fun w49 H=>sp (.bool (dec (CanBI p s counts k_1))) (zjn (cP rfl (fun h51=>?_) (fun h51=>?_))))
      ·skip
       refine zcr (sp (.bool false) (zjr (zr5 (ret1 (.bool false) rfl rfl ⟨_,rfl,?_,H.base⟩))))
       rw [zf (fun h=>by rw [chosenB_full qg] at h;rcases h k_1 qg with h | h;(rw [← ek] at h;simp only [(by assumption:(vW p counts mode k)[(p.qB[k_1]!).qE.toNat]! =false)] at h;cases h);exact h qm)]
      ·skip
       refine xf (b_n (t_n (xJ (sw (xX k_1 1 rfl rfl qg (sp (.int .i64 (k_1+1)) (xN (xg (m' :=(p.qB.length - ((k_1+1):Int)).toNat) qg ⟨_,k_1+1,uE7,?_,?_,rfl,N,H.pick [1,2,3] [3,4,5,6,7,8]⟩))))))))
       · omega
       · exact i1.succ (by first | exact .inl (by rw [← ek];assumption) | exact .inr qm)
    ·skip
     refine zx4 (zcr (sp (.bool true) (zjr (ret1 (.bool true) rfl rfl ⟨_,rfl,?_,H.base⟩))))
     rw [yw ((chosenB_full qg).2 ((show p.qB.length=k_1 by omega)▸i1))]
 ·skip
  replace h7:=eq_of_beq h7
  refine zG [20,21] (sp (.bool true) (zjn (xC true rfl (fun _=>zcr (sps [.int .i64 (yM counts),.bool ((yM counts:Int) == 1),.bool ((yM counts:Int) == 1)] (zjr (t_r (ret1 (.bool ((yM counts:Int) == 1)) rfl rfl ⟨_,rfl,(congrArg Value.bool (dec_eq ?_)),H.base⟩))))) (fun h=>absurd h qj))))
  rw [chosenB_one qg]
  simp
end
end Go.Proofs.YtkgdkfkgnodheaaGreat
