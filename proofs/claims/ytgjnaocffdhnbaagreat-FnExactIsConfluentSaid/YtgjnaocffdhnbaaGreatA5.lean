/- Walks and laws, printed by program and by hand: what each function comes to, for all arguments, part 5. -/
import Derived.Test.YtgjnaocffdhnbaaGreatA4
namespace Go.Proofs.YtgjnaocffdhnbaaGreat
set_option linter.unusedVariables false
set_option linter.unusedSimpArgs false
open Go.Proofs.YtgjnaocffdhnbaaGreat.Tot (tot)
open Go.Proofs.YtgjnaocffdhnbaaGreat.Mark (cnt mrk mkd mkd_mark cnt_mark)
section
open Go.Proofs.Tryz
open Go.RowKit
set_option linter.unusedVariables false
set_option linter.unusedSimpArgs false
set_option maxRecDepth 100000
set_option maxHeartbeats 4000000
variable {ca cb caAlive caBags Xr cbAlive cbBags Xq cl cuAlive cuBags cuAround bs os qy qH bt ot qO qZ qI ccs : Nat}
theorem l00Same_ok (w:World) (a:yLI) (b:yLI) {aa:yOA} {Fa:yLN} {ab:yOA} {Fb:yLN} (ha:qP.rep w Fa [.slice aa a.length ca] a) (hb:qP.rep w Fb [.slice ab b.length cb] b):Calls Tryz.prog 128 #[.slice aa a.length ca,.slice ab b.length cb] w (Ret (fun v w' =>v=.bool (decide (a=b))) w):=by
 refine en func128 ntmps128 ?_
 have H:=((St.start w).arg hb).arg ha
 have nha:=qN ha
 have nhb:=qN hb
 clear ha hb
 have N:=Fresh.nil w.heap.size
 refine zcr (sp (.bool false) (zjcc (sp (.slice aa a.length ca) (oN rfl (sp (.slice ab b.length cb) (oN rfl (sp (.bool ((a.length:Int) != b.length)) (zjn (xF ((a.length:Int) != b.length) rfl (fun h1=>?_) (fun h1=>?_))))))))))
 ·skip
  replace h1:=bne_iff_ne.1 h1
  refine zcr (sp (.bool false) (zjr (t_r (ret1 (.bool false) rfl rfl ⟨_,rfl,?_,H.base⟩))))
  first | rw [decide_eq_false (fun e=>by subst e;omega)] | rw [decide_eq_false (vZ (k:=i) ‹_›)] | rw [decide_eq_false (vZ (k:=i) (by simpa using ‹_›))]
 replace h1:=xA h1
 refine qV (t_n (zcc (sp (yI 0) (zjn (qY ?_)))))
 refine zB (fun m' ρ w2=>∃ (xN:Env) (i:Nat),ρ=upd (upd (upd xN 0 (.slice aa a.length ca)) 1 (.slice ab b.length cb)) 5 (yI i)∧((i:Int)≤a.length)∧(a.take i=b.take i)∧m' =(a.length - (i:Int)).toNat∧Fresh w.heap.size []∧St w w2 [] [sF false Fa aa ca a,sF false Fb ab cb b]) ((a.length - (0:Int)).toNat) ⟨_,0,uE3,qf,(by rfl),rfl,N,H⟩ ?_
 clear H N
 rintro m' ρ w3 ⟨xN,i,rfl,i0,i1,rfl,N,H⟩
 refine zcc (sps [yI i,.slice aa a.length ca] (oN rfl (sp (.bool (decide ((i:Int) < a.length))) (zjn (cD rfl (fun h4=>?_) (fun h4=>?_))))))
 ·skip
  refine qV (t_n (xU (qY (xU ?_))))
  refine ja rfl H fun H=>rtp 0 (.slice aa a.length ca) H ?_
  refine rtp 1 (yI i) H ?_
  obtain ⟨b6,o7,rfl⟩:=H.addr 0 rfl qf
  refine tI 2 rfl rfl rfl H ?_
  refine tL 3 rfl rfl (fun _ h=>h.yf 0 rfl i qf) H ?_
  refine rtp 4 (.slice ab b.length cb) H ?_
  refine rtp 5 (yI i) H ?_
  obtain ⟨b9,o10,rfl⟩:=H.addr 1 rfl qf
  refine tI 6 rfl rfl rfl H ?_
  refine tL 7 rfl rfl (fun _ h=>h.yf 1 rfl i qf) H ?_
  refine rtp 8 (.bool ((a[i]! :Int) != (b[i]!))) H ?_
  refine xH qh (t_n (xF ((a[i]! :Int) != (b[i]!)) rfl (fun h12=>?_) (fun h12=>?_)))
  ·skip
   replace h12:=bne_iff_ne.1 h12
   refine zcr (sp (.bool false) (zjr (zr5 (ret1 (.bool false) rfl rfl ⟨_,rfl,?_,H.base⟩))))
   first | rw [decide_eq_false (fun e=>by subst e;omega)] | rw [decide_eq_false (vZ (k:=i) ‹_›)] | rw [decide_eq_false (vZ (k:=i) (by simpa using ‹_›))]
  replace h12:=xA h12
  refine qV (b_n (t_n (xX (sp (yI i) (sw (zD i 1 rfl rfl qf (sp (yI (i+1)) (xY (xg (m' :=(a.length - ((i+1):Int)).toNat) qf ⟨_,i+1,uE3,?_,?_,rfl,N,H⟩)))))))))
  · omega
  · exact QJ qf qf i1 qg
 refine zx4 (zcr (sp (.bool true) (zjr (ret1 (.bool true) rfl rfl ⟨_,rfl,?_,H.base⟩))))
 rw [decide_eq_true (je (k:=i) qf qf i1)]

theorem equalI_ok (w:World) (a:yLI) (b:yLI) {aa:yOA} {Fa:yLN} {ab:yOA} {Fb:yLN} (ha:qP.rep w Fa [.slice aa a.length ca] a) (hb:qP.rep w Fb [.slice ab b.length cb] b):Calls Tryz.prog 96 #[.slice aa a.length ca,.slice ab b.length cb] w (Ret (fun v w' =>v=.bool (decide (a=b))) w):=by
 refine en func96 ntmps96 ?_
 have H:=((St.start w).arg hb).arg ha
 have nha:=qN ha
 have nhb:=qN hb
 clear ha hb
 have N:=Fresh.nil w.heap.size
 refine zcr (sp (.bool false) (zjcc (sp (.slice aa a.length ca) (oN rfl (sp (.slice ab b.length cb) (oN rfl (sp (.bool ((a.length:Int) != b.length)) (zjn (xF ((a.length:Int) != b.length) rfl (fun h1=>?_) (fun h1=>?_))))))))))
 ·skip
  replace h1:=bne_iff_ne.1 h1
  refine zcr (sp (.bool false) (zjr (t_r (ret1 (.bool false) rfl rfl ⟨_,rfl,?_,H.base⟩))))
  first | rw [decide_eq_false (fun e=>by subst e;omega)] | rw [decide_eq_false (vZ (k:=i) ‹_›)] | rw [decide_eq_false (vZ (k:=i) (by simpa using ‹_›))]
 replace h1:=xA h1
 refine qV (t_n (zcc (sp (.slice aa a.length ca) (oN rfl (sp (yI 0) (zjn (qY ?_)))))))
 refine zB (fun m' ρ w2=>∃ (xN:Env) (i:Nat),ρ=upd (upd (upd (upd xN 0 (.slice aa a.length ca)) 1 (.slice ab b.length cb)) 12 (yI a.length)) 13 (yI i)∧((i:Int)≤a.length)∧(a.take i=b.take i)∧m' =(a.length - (i:Int)).toNat∧Fresh w.heap.size []∧St w w2 [] [sF false Fa aa ca a,sF false Fb ab cb b]) ((a.length - (0:Int)).toNat) ⟨_,0,uE4,qf,(by rfl),rfl,N,H⟩ ?_
 clear H N
 rintro m' ρ w3 ⟨xN,i,rfl,i0,i1,rfl,N,H⟩
 refine zcr (sp (.bool (decide ((i:Int) < a.length))) (zjn (xU (cD rfl (fun h4=>?_) (fun h4=>?_)))))
 ·skip
  refine qV (t_n (xU (qY (zcr (sps [yI i,yI i] (zjn (xU ?_)))))))
  refine ja rfl H fun H=>rtp 0 (.slice aa a.length ca) H ?_
  refine rtp 1 (yI i) H ?_
  obtain ⟨b6,o7,rfl⟩:=H.addr 0 rfl qf
  refine tI 2 rfl rfl rfl H ?_
  refine tL 3 rfl rfl (fun _ h=>h.yf 0 rfl i qf) H ?_
  refine rtp 4 (.slice ab b.length cb) H ?_
  refine rtp 5 (yI i) H ?_
  obtain ⟨b9,o10,rfl⟩:=H.addr 1 rfl qf
  refine tI 6 rfl rfl rfl H ?_
  refine tL 7 rfl rfl (fun _ h=>h.yf 1 rfl i qf) H ?_
  refine rtp 8 (.bool ((a[i]! :Int) != (b[i]!))) H ?_
  refine xH qh (t_n (xF ((a[i]! :Int) != (b[i]!)) rfl (fun h12=>?_) (fun h12=>?_)))
  ·skip
   replace h12:=bne_iff_ne.1 h12
   refine zcr (sp (.bool false) (zjr (zr5 (ret1 (.bool false) rfl rfl ⟨_,rfl,?_,H.base⟩))))
   first | rw [decide_eq_false (fun e=>by subst e;omega)] | rw [decide_eq_false (vZ (k:=i) ‹_›)] | rw [decide_eq_false (vZ (k:=i) (by simpa using ‹_›))]
  replace h12:=xA h12
  refine qV (b_n (t_n (xX (sw (zD i 1 rfl rfl qf (sp (yI (i+1)) (xY (xg (m' :=(a.length - ((i+1):Int)).toNat) qf ⟨_,i+1,uE4,?_,?_,rfl,N,H⟩))))))))
  · omega
  · exact QJ qf qf i1 qg
 refine zx4 (zcr (sp (.bool true) (zjr (ret1 (.bool true) rfl rfl ⟨_,rfl,?_,H.base⟩))))
 rw [decide_eq_true (je (k:=i) qf qf i1)]

theorem equalB_ok (w:World) (a:List Bool) (b:List Bool) {aa:yOA} {Fa:yLN} {ab:yOA} {Fb:yLN} (ha:qP.rep w Fa [.slice aa a.length ca] a) (hb:qP.rep w Fb [.slice ab b.length cb] b):Calls Tryz.prog 148 #[.slice aa a.length ca,.slice ab b.length cb] w (Ret (fun v w' =>v=.bool (decide (a=b))) w):=by
 refine en func148 ntmps148 ?_
 have H:=((St.start w).arg hb).arg ha
 have nha:=qN ha
 have nhb:=qN hb
 clear ha hb
 have N:=Fresh.nil w.heap.size
 refine zcr (sp (.bool false) (zjcc (sp (.slice aa a.length ca) (oN rfl (sp (.slice ab b.length cb) (oN rfl (sp (.bool ((a.length:Int) != b.length)) (zjn (xF ((a.length:Int) != b.length) rfl (fun h1=>?_) (fun h1=>?_))))))))))
 ·skip
  replace h1:=bne_iff_ne.1 h1
  refine zcr (sp (.bool false) (zjr (t_r (ret1 (.bool false) rfl rfl ⟨_,rfl,?_,H.base⟩))))
  first | rw [decide_eq_false (fun e=>by subst e;omega)] | rw [decide_eq_false (vZ (k:=i) ‹_›)] | rw [decide_eq_false (vZ (k:=i) (by simpa using ‹_›))]
 replace h1:=xA h1
 refine qV (t_n (zcc (sp (.slice aa a.length ca) (oN rfl (sp (yI 0) (zjn (qY ?_)))))))
 refine zB (fun m' ρ w2=>∃ (xN:Env) (i:Nat),ρ=upd (upd (upd (upd xN 0 (.slice aa a.length ca)) 1 (.slice ab b.length cb)) 12 (yI a.length)) 13 (yI i)∧((i:Int)≤a.length)∧(a.take i=b.take i)∧m' =(a.length - (i:Int)).toNat∧Fresh w.heap.size []∧St w w2 [] [sF false Fa aa ca a,sF false Fb ab cb b]) ((a.length - (0:Int)).toNat) ⟨_,0,uE4,qf,(by rfl),rfl,N,H⟩ ?_
 clear H N
 rintro m' ρ w3 ⟨xN,i,rfl,i0,i1,rfl,N,H⟩
 refine zcr (sp (.bool (decide ((i:Int) < a.length))) (zjn (xU (cD rfl (fun h4=>?_) (fun h4=>?_)))))
 ·skip
  refine qV (t_n (xU (qY (zcr (sps [yI i,yI i] (zjn (xU ?_)))))))
  refine ja rfl H fun H=>rtp 0 (.slice aa a.length ca) H ?_
  refine rtp 1 (yI i) H ?_
  obtain ⟨b6,o7,rfl⟩:=H.addr 0 rfl qf
  refine tI 2 rfl rfl rfl H ?_
  refine tL 3 rfl rfl (fun _ h=>h.elemBoolN 0 rfl i qf) H ?_
  refine rtp 4 (.slice ab b.length cb) H ?_
  refine rtp 5 (yI i) H ?_
  obtain ⟨b9,o10,rfl⟩:=H.addr 1 rfl qf
  refine tI 6 rfl rfl rfl H ?_
  refine tL 7 rfl rfl (fun _ h=>h.elemBoolN 1 rfl i qf) H ?_
  refine rt 8 (.bool ((a[i]!) != (b[i]!))) (y_neB underlying4 (a[i]!) (b[i]!) rfl rfl) H ?_
  refine xH qh (t_n (xF ((a[i]!) != (b[i]!)) rfl (fun h12=>?_) (fun h12=>?_)))
  ·skip
   replace h12:=bne_iff_ne.1 h12
   refine zcr (sp (.bool false) (zjr (zr5 (ret1 (.bool false) rfl rfl ⟨_,rfl,?_,H.base⟩))))
   first | rw [decide_eq_false (fun e=>by subst e;omega)] | rw [decide_eq_false (vZ (k:=i) ‹_›)] | rw [decide_eq_false (vZ (k:=i) (by simpa using ‹_›))]
  replace h12:=xA h12
  refine qV (b_n (t_n (xX (sw (zD i 1 rfl rfl qf (sp (yI (i+1)) (xY (xg (m' :=(a.length - ((i+1):Int)).toNat) qf ⟨_,i+1,uE4,?_,?_,rfl,N,H⟩))))))))
  · omega
  · exact QJ qf qf i1 qg
 refine zx4 (zcr (sp (.bool true) (zjr (ret1 (.bool true) rfl rfl ⟨_,rfl,?_,H.base⟩))))
 rw [decide_eq_true (je (k:=i) qf qf i1)]

theorem l02Same_ok (w:World) (a:qM) (b:qM) {ba oa:Nat} {aaAlive:yOA} {FaAlive:yLN} {aaBags:yOA} {FaBags:yLN} {Xv:yOA} {FaAround:yLN} {bb ob:Nat} {abAlive:yOA} {FbAlive:yLN} {abBags:yOA} {FbBags:yLN} {Xu:yOA} {FbAround:yLN} (ha:vw w ba oa (yT a aaAlive caAlive aaBags caBags Xv Xr)) (haAlive:qP.rep w FaAlive [.slice aaAlive a.qB.length caAlive] a.qB) (haBags:qP.rep w FaBags [.slice aaBags a.qE.length caBags] a.qE) (haAround:qP.rep w FaAround [.slice Xv a.qC.length Xr] a.qC) (hb:vw w bb ob (yT b abAlive cbAlive abBags cbBags Xu Xq)) (hbAlive:qP.rep w FbAlive [.slice abAlive b.qB.length cbAlive] b.qB) (hbBags:qP.rep w FbBags [.slice abBags b.qE.length cbBags] b.qE) (hbAround:qP.rep w FbAround [.slice Xu b.qC.length Xq] b.qC):Calls Tryz.prog 114 #[pp ba oa,pp bb ob] w (Ret (fun v w' =>v=.bool (decide (a=b))) w):=by
 refine en func114 ntmps114 ?_
 have H:=((((((((St.start w).arg hbAround).arg hbBags).arg hbAlive).XU hb).arg haAround).arg haBags).arg haAlive).XU ha
 have nhaAlive:=qN haAlive
 have nhaBags:=qN haBags
 have nhaAround:=qN haAround
 have nhbAlive:=qN hbAlive
 have nhbBags:=qN hbBags
 have nhbAround:=qN hbAround
 clear ha haAlive haBags haAround hb hbAlive hbBags hbAround
 have N:=Fresh.nil w.heap.size
 refine zcr (sp (.bool false) (zjn (xU (xU ?_))))
 refine ja rfl H fun H=>rtp 0 (pp ba oa) H ?_
 refine rtp 1 (pp ba oa) H ?_
 refine tF 2 rfl rfl H ?_
 refine tL 3 rfl rfl (fun _ h=>h.xR 0 rfl 0 rfl) H ?_
 refine tN 4 rfl rfl H ?_
 refine rtp 5 (pp bb ob) H ?_
 refine rtp 6 (pp bb ob) H ?_
 refine tF 7 rfl rfl H ?_
 refine tL 8 rfl rfl (fun _ h=>h.xR 4 rfl 0 rfl) H ?_
 refine tN 9 rfl rfl H ?_
 refine rtp 10 (.bool ((a.qB.length:Int) != b.qB.length)) H ?_
 refine rtp 11 (.bool ((a.qB.length:Int) != b.qB.length)) H ?_
 cases h2:((a.qB.length:Int) != b.qB.length)
 ·skip
  replace h2:=xA h2
  refine rgp 12 (pp ba oa) 18 H ?_
  refine rgp 13 (pp ba oa) 18 H ?_
  refine gF 14 rfl rfl H ?_
  refine gL 15 rfl rfl (fun _ h=>h.xR 0 rfl 1 rfl) H ?_
  refine gN 16 rfl rfl H ?_
  refine rgp 17 (pp bb ob) 18 H ?_
  refine rgp 18 (pp bb ob) 18 H ?_
  refine gF 19 rfl rfl H ?_
  refine gL 20 rfl rfl (fun _ h=>h.xR 4 rfl 1 rfl) H ?_
  refine gN 21 rfl rfl H ?_
  refine rgp 22 (.bool ((a.qE.length:Int) != b.qE.length)) 18 H ?_
  refine rtp 23 (.bool ((a.qE.length:Int) != b.qE.length)) H ?_
  refine rtp 24 (.bool ((a.qE.length:Int) != b.qE.length)) H ?_
  cases h3:((a.qE.length:Int) != b.qE.length)
  ·skip
   replace h3:=xA h3
   refine rgp 25 (pp ba oa) 31 H ?_
   refine rgp 26 (pp ba oa) 31 H ?_
   refine gF 27 rfl rfl H ?_
   refine gL 28 rfl rfl (fun _ h=>h.xR 0 rfl 2 rfl) H ?_
   refine rgp 29 (pp bb ob) 31 H ?_
   refine rgp 30 (pp bb ob) 31 H ?_
   refine gF 31 rfl rfl H ?_
   refine gL 32 rfl rfl (fun _ h=>h.xR 4 rfl 2 rfl) H ?_
   refine vS [33] qh qm (r_opG rfl (e:=31) rfl rfl (oq (l00Same_ok _ a.qC b.qC (H.get 3 rfl).1 (H.get 7 rfl).1) H fun w5 H=>⟨H,(rgp 34 (.bool (!(decide (a.qC=b.qC)))) 31 H ?_)⟩) vT)
   refine rtp 35 (.bool (!(decide (a.qC=b.qC)))) H ?_
   refine xH qh (t_n (xF (!(decide (a.qC=b.qC))) rfl (fun h7=>?_) (fun h7=>?_)))
   ·skip
    replace h7:=xq h7
    replace h7:=of_decide_eq_false h7
    refine zcr (sp (.bool false) (zjr (t_r (ret1 (.bool false) rfl rfl ⟨_,rfl,?_,H.base⟩))))
    rw [decide_eq_false (fun e=>by subst e;first | omega | exact absurd rfl ql | simp_all)]
   replace h7:=xk h7
   replace h7:=of_decide_eq_true h7
   refine qV (t_n (zcc (sp (yI 0) (zjn (qY ?_)))))
   refine zB (fun m' ρ w8=>∃ (xN:Env) (c:Nat),ρ=upd (upd (upd xN 0 (pp ba oa)) 1 (pp bb ob)) 5 (yI c)∧((c:Int)≤a.qB.length)∧(a.qB.take c=b.qB.take c)∧m' =(a.qB.length - (c:Int)).toNat∧Fresh w.heap.size []∧St w w8 [] [atF ba oa (yT a aaAlive caAlive aaBags caBags Xv Xr),sF false FaAlive aaAlive caAlive a.qB,sF false FaBags aaBags caBags a.qE,sF false FaAround Xv Xr a.qC,atF bb ob (yT b abAlive cbAlive abBags cbBags Xu Xq),sF false FbAlive abAlive cbAlive b.qB,sF false FbBags abBags cbBags b.qE,sF false FbAround Xu Xq b.qC]) ((a.qB.length - (0:Int)).toNat) ⟨_,0,uE3,qf,(by rfl),rfl,N,H⟩ ?_
   clear H N
   rintro m' ρ w9 ⟨xN,c,rfl,i0,i1,rfl,N,H⟩
   refine zcc (sps [yI c,pp ba oa,pp ba oa] (oF rfl (oL rfl (H.xR 0 rfl 0 rfl) (oN rfl (sp (.bool (decide ((c:Int) < a.qB.length))) (zjn (cD rfl (fun h10=>?_) (fun h10=>?_))))))))
   ·skip
    refine qV (t_n (xU (qY (xU ?_))))
    refine ja rfl H fun H=>rtp 0 (pp ba oa) H ?_
    refine rtp 1 (pp ba oa) H ?_
    refine tF 2 rfl rfl H ?_
    refine tL 3 rfl rfl (fun _ h=>h.xR 0 rfl 0 rfl) H ?_
    refine rtp 4 (yI c) H ?_
    obtain ⟨b12,o13,rfl⟩:=H.addr 1 rfl qf
    refine tI 5 rfl rfl rfl H ?_
    refine tL 6 rfl rfl (fun _ h=>h.elemBoolN 1 rfl c qf) H ?_
    refine rtp 7 (pp bb ob) H ?_
    refine rtp 8 (pp bb ob) H ?_
    refine tF 9 rfl rfl H ?_
    refine tL 10 rfl rfl (fun _ h=>h.xR 4 rfl 0 rfl) H ?_
    refine rtp 11 (yI c) H ?_
    obtain ⟨b15,o16,rfl⟩:=H.addr 5 rfl qf
    refine tI 12 rfl rfl rfl H ?_
    refine tL 13 rfl rfl (fun _ h=>h.elemBoolN 5 rfl c qf) H ?_
    refine rt 14 (.bool ((a.qB[c]!) != (b.qB[c]!))) (y_neB underlying4 (a.qB[c]!) (b.qB[c]!) rfl rfl) H ?_
    refine xH qh (t_n (xF ((a.qB[c]!) != (b.qB[c]!)) rfl (fun h18=>?_) (fun h18=>?_)))
    ·skip
     replace h18:=bne_iff_ne.1 h18
     refine zcr (sp (.bool false) (zjr (zr5 (ret1 (.bool false) rfl rfl ⟨_,rfl,?_,H.base⟩))))
     rw [decide_eq_false (fun e=>by subst e;first | omega | exact absurd rfl ql | simp_all)]
    replace h18:=xA h18
    refine qV (b_n (t_n (xX (sp (yI c) (sw (zD c 1 rfl rfl qf (sp (yI (c+1)) (xY (xg (m' :=(a.qB.length - ((c+1):Int)).toNat) qf ⟨_,c+1,uE3,?_,?_,rfl,N,H⟩)))))))))
    · omega
    · exact QJ qf qf i1 qg
   refine zx4 (zcc (sp (yI 0) (zjn (qY ?_))))
   refine zB (fun m' ρ w19=>∃ (xN:Env) (c_1:Nat),ρ=upd (upd (upd xN 0 (pp ba oa)) 1 (pp bb ob)) 6 (yI c_1)∧((c_1:Int)≤a.qE.length)∧(a.qE.take c_1=b.qE.take c_1)∧m' =(a.qE.length - (c_1:Int)).toNat∧Fresh w.heap.size []∧St w w19 [] [atF ba oa (yT a aaAlive caAlive aaBags caBags Xv Xr),sF false FaAlive aaAlive caAlive a.qB,sF false FaBags aaBags caBags a.qE,sF false FaAround Xv Xr a.qC,atF bb ob (yT b abAlive cbAlive abBags cbBags Xu Xq),sF false FbAlive abAlive cbAlive b.qB,sF false FbBags abBags cbBags b.qE,sF false FbAround Xu Xq b.qC]) ((a.qE.length - (0:Int)).toNat) ⟨_,0,uE3,qf,(by rfl),rfl,N,H⟩ ?_
   clear H N
   rintro m' ρ w20 ⟨xN,c_1,rfl,i0,i2,rfl,N,H⟩
   refine zcc (sps [yI c_1,pp ba oa,pp ba oa] (oF rfl (oL rfl (H.xR 0 rfl 1 rfl) (oN rfl (sp (.bool (decide ((c_1:Int) < a.qE.length))) (zjn (cD rfl (fun h21=>?_) (fun h21=>?_))))))))
   ·skip
    refine qV (t_n (xU (qY (xU ?_))))
    obtain ⟨b22,o23,rfl⟩:=H.addr 2 rfl qf
    obtain ⟨b25,o26,rfl⟩:=H.addr 6 rfl qf
    refine c_cut (fun ρ w34=>∃ (xN:Env) (F28:yLN) (a29:yOA) (c30:Nat) (F31:yLN) (a32:yOA) (c33:Nat),ρ=upd (upd (upd (upd xN 0 (pp ba oa)) 1 (pp bb ob)) 6 (yI c_1)) 91 (.bool (!(decide ((a.qE[c_1]!)=(b.qE[c_1]!)))))∧Fresh w.heap.size []∧St w w34 [] [sF false F28 a29 c30 (b.qE[c_1]!),atF b25 (o26+(c_1:Int).toNat * 1) [.slice a29 ((b.qE[c_1]!).length) c30],sF false F31 a32 c33 (a.qE[c_1]!),atF b22 (o23+(c_1:Int).toNat * 1) [.slice a32 ((a.qE[c_1]!).length) c33],atF ba oa [.slice aaAlive a.qB.length caAlive,.slice (aa b22 o23) a.qE.length caBags,.slice Xv a.qC.length Xr],sF false FaAlive aaAlive caAlive a.qB,sF false FaBags (aa b22 o23) caBags a.qE,sF false FaAround Xv Xr a.qC,atF bb ob [.slice abAlive b.qB.length cbAlive,.slice (aa b25 o26) b.qE.length cbBags,.slice Xu b.qC.length Xq],sF false FbAlive abAlive cbAlive b.qB,sF false FbBags (aa b25 o26) cbBags b.qE,sF false FbAround Xu Xq b.qC]) ?_ ?_
    ·skip
     refine ja rfl H fun H=>rtp 0 (pp ba oa) H ?_
     refine rtp 1 (pp ba oa) H ?_
     refine tF 2 rfl rfl H ?_
     refine tL 3 rfl rfl (fun _ h=>h.xR 0 rfl 1 rfl) H ?_
     refine rtp 4 (yI c_1) H ?_
     obtain ⟨ae36,ce36,Fe36,H⟩:=H.vH 2 rfl c_1 c_1 qf qf qf
     have S:=H.jY [] [2,3,4,5,6,7,8,9]
     refine tI 5 rfl rfl rfl S ?_
     refine rtp 7 (pp bb ob) S ?_
     refine rtp 8 (pp bb ob) S ?_
     refine tF 9 rfl rfl S ?_
     refine tL 10 rfl rfl (fun _ h=>h.xR 4 rfl 1 rfl) S ?_
     refine rtp 11 (yI c_1) S ?_
     obtain ⟨ae37,ce37,Fe37,H⟩:=H.vH 8 rfl c_1 c_1 qf qf qf
     refine tI 12 rfl rfl rfl (H.pick [] [4,5,6,7,8,9,10,11]) ?_
     refine vS [6,13] qh qm (jA rfl ?_ (jA rfl ?_ vT))
     ·skip
      refine zF (.slice ae36 ((a.qE[c_1]!).length) ce36) isAgg22 rfl (H.xR 3 rfl 0 rfl) (⟨H.pick [] [4,5,6,7,8,9,10,11],(ro 13 rfl (zF (.slice ae37 ((b.qE[c_1]!).length) ce37) isAgg22 rfl (H.xR 1 rfl 0 rfl) (⟨H.pick [] [4,5,6,7,8,9,10,11],(ro 14 rfl (oq (l00Same_ok _ (a.qE[c_1]!) (b.qE[c_1]!) (H.get 2 rfl).1 (H.get 0 rfl).1) H fun w39 H=>⟨H.pick [] [4,5,6,7,8,9,10,11],(rtp 15 (.bool (!(decide ((a.qE[c_1]!)=(b.qE[c_1]!))))) (H.pick [] [4,5,6,7,8,9,10,11]) ?_)⟩))⟩)))⟩)
      refine xH qh ((meet ⟨_,Fe37,ae37,ce37,Fe36,ae36,ce36,uE4,N,H⟩))
     refine zF (.slice ae37 ((b.qE[c_1]!).length) ce37) isAgg22 rfl (H.xR 1 rfl 0 rfl) (⟨H.pick [] [4,5,6,7,8,9,10,11],(ro 6 rfl (zF (.slice ae36 ((a.qE[c_1]!).length) ce36) isAgg22 rfl (H.xR 3 rfl 0 rfl) (⟨H.pick [] [4,5,6,7,8,9,10,11],(ro 14 rfl (oq (l00Same_ok _ (a.qE[c_1]!) (b.qE[c_1]!) (H.get 2 rfl).1 (H.get 0 rfl).1) H fun w42 H=>⟨H.pick [] [4,5,6,7,8,9,10,11],(rtp 15 (.bool (!(decide ((a.qE[c_1]!)=(b.qE[c_1]!))))) (H.pick [] [4,5,6,7,8,9,10,11]) ?_)⟩))⟩)))⟩)
     refine xH qh ((meet ⟨_,Fe37,ae37,ce37,Fe36,ae36,ce36,uE4,N,H⟩))
    clear H N
    rintro ρ w44 ⟨xN,F28,a29,c30,F31,a32,c33,rfl,N,H⟩
    refine t_n (xF (!(decide ((a.qE[c_1]!)=(b.qE[c_1]!)))) rfl (fun h45=>?_) (fun h45=>?_))
    ·skip
     replace h45:=xq h45
     replace h45:=of_decide_eq_false h45
     refine zcr (sp (.bool false) (zjr (zr5 (ret1 (.bool false) rfl rfl ⟨_,rfl,?_,H.base⟩))))
     rw [decide_eq_false (fun e=>by subst e;first | omega | exact absurd rfl ql | simp_all)]
    replace h45:=xk h45
    replace h45:=of_decide_eq_true h45
    refine qV (b_n (t_n (xX (sp (yI c_1) (sw (zD c_1 1 rfl rfl qf (sp (yI (c_1+1)) (xY (xg (m' :=(a.qE.length - ((c_1+1):Int)).toNat) qf ⟨_,c_1+1,uE3,?_,?_,rfl,N,H.pick [] [4,5,6,7,8,9,10,11]⟩)))))))))
    · omega
    · exact QJ qf qf i2 ql
   refine zx4 (zcr (sp (.bool true) (zjr (ret1 (.bool true) rfl rfl ⟨_,rfl,?_,H.base⟩))))
   rw [decide_eq_true (state_eq (je (k:=c) qf qf i1) (je (k:=c_1) qf qf i2) ql)]
  replace h3:=bne_iff_ne.1 h3
  refine zS [25,26,27,28,29,30,31,32,33,34] 10 (H) (rtp 35 (.bool true) H ?_)
  refine xH qh (t_n (xF true rfl (fun _=>zcr (sp (.bool false) (zjr (t_r (ret1 (.bool false) rfl rfl ⟨_,rfl,?_,H.base⟩))))) (fun h=>absurd h qj)))
  rw [decide_eq_false (fun e=>by subst e;first | omega | exact absurd rfl ql | simp_all)]
 replace h2:=bne_iff_ne.1 h2
 refine zS [12,13,14,15,16,17,18,19,20,21,22] 11 (H) (rtp 23 (.bool true) H ?_)
 refine rtp 24 (.bool true) H ?_
 refine zS [25,26,27,28,29,30,31,32,33,34] 10 (H) (rtp 35 (.bool true) H ?_)
 refine xH qh (t_n (xF true rfl (fun _=>zcr (sp (.bool false) (zjr (t_r (ret1 (.bool false) rfl rfl ⟨_,rfl,?_,H.base⟩))))) (fun h=>absurd h qj)))
 rw [decide_eq_false (fun e=>by subst e;first | omega | exact absurd rfl ql | simp_all)]

theorem l03Find_ok (w:World) (l:List qM) (u:qM) {al:yOA} {Fl:yLN} {bu ou:Nat} {auAlive:yOA} {FuAlive:yLN} {auBags:yOA} {FuBags:yLN} {auAround:yOA} {FuAround:yLN} (hl:qP.rep w Fl [.slice al l.length cl] l) (hu:vw w bu ou (yT u auAlive cuAlive auBags cuBags auAround cuAround)) (huAlive:qP.rep w FuAlive [.slice auAlive u.qB.length cuAlive] u.qB) (huBags:qP.rep w FuBags [.slice auBags u.qE.length cuBags] u.qE) (huAround:qP.rep w FuAround [.slice auAround u.qC.length cuAround] u.qC):Calls Tryz.prog 77 #[.slice al l.length cl,pp bu ou] w (Ret (fun v w' =>v=yI (firstIdx (fun zz=>decide (l[zz]! =u)) l.length)) w):=by
 refine en func77 ntmps77 ?_
 have H:=(((((St.start w).arg huAround).arg huBags).arg huAlive).XU hu).arg hl
 have nhl:=qN hl
 have nhuAlive:=qN huAlive
 have nhuBags:=qN huBags
 have nhuAround:=qN huAround
 clear hl hu huAlive huBags huAround
 have N:=Fresh.nil w.heap.size
 refine zcr (sp (yI 0) (zjcc (sp (yI 0) (zjn (qY ?_)))))
 refine zB (fun m' ρ w1=>∃ (xN:Env) (i:Nat),ρ=upd (upd (upd xN 0 (.slice al l.length cl)) 1 (pp bu ou)) 5 (yI i)∧((i:Int)≤l.length)∧(noneTo (fun zz=>decide (l[zz]! =u)) i)∧m' =(l.length - (i:Int)).toNat∧Fresh w.heap.size []∧St w w1 [] [sF false Fl al cl l,atF bu ou (yT u auAlive cuAlive auBags cuBags auAround cuAround),sF false FuAlive auAlive cuAlive u.qB,sF false FuBags auBags cuBags u.qE,sF false FuAround auAround cuAround u.qC]) ((l.length - (0:Int)).toNat) ⟨_,0,uE3,qf,(by exact fun j hj=>by omega),rfl,N,H⟩ ?_
 clear H N
 rintro m' ρ w2 ⟨xN,i,rfl,i0,i1,rfl,N,H⟩
 refine zcc (sps [yI i,.slice al l.length cl] (oN rfl (sp (.bool (decide ((i:Int) < l.length))) (zjn (cD rfl (fun h3=>?_) (fun h3=>?_))))))
 ·skip
  refine qV (t_n (xU (qY (zcr (sps [.slice al l.length cl,yI i] ?_)))))
  obtain ⟨b4,o5,rfl⟩:=H.addr 0 rfl qf
  obtain ⟨ae7Alive,ce7Alive,Fe7Alive,ae7Bags,ce7Bags,Fe7Bags,ae7Around,ce7Around,Fe7Around,H⟩:=H.elem_StateD 0 rfl i i qf qf qf
  refine oI rfl rfl (sp (pp bu ou) (sw (oq (l02Same_ok _ (l[i]!) u (qF (H.get 3 rfl) 0 3) (H.get 0 rfl).1 (H.get 1 rfl).1 (H.get 2 rfl).1 (qF (H.get 5 rfl) 0 3) (H.get 6 rfl).1 (H.get 7 rfl).1 (H.get 8 rfl).1) H fun w9 H=>zjn (cD rfl (fun h11=>?_) (fun h11=>?_)))))
  ·skip
   refine zcr (sps [yI i,yI i] (zjr (zr5 (ret1 (yI i) rfl rfl ⟨_,rfl,?_,H.base⟩))))
   rw [firstIdx_some (k:=i) qf i1 (decide_eq_true ‹_›)]
  refine qV (b_n (t_n (xX (sp (yI i) (sw (zD i 1 rfl rfl qf (sp (yI (i+1)) (xY (xg (m' :=(l.length - ((i+1):Int)).toNat) qf ⟨_,i+1,uE3,?_,?_,rfl,N,H.pick [] [4,5,6,7,8]⟩)))))))))
  · omega
  · exact noneTo_succ i1 (decide_eq_false ‹_›)
 refine zx4 (zcr (sp (yI (-1)) (zjr (ret1 (yI (-1)) rfl rfl ⟨_,rfl,?_,H.base⟩))))
 rw [firstIdx_none (fun j hj=>i1 j qf)]

theorem l03Next_ok (w:World) (s:qL) (t:qM) (cs:yLL) {qA:yOA} {qW:yLN} {qK:yOA} {xy:yLN} {qR:yOA} {xJ:yLN} {xh:yOA} {zn:yLN} {qJ:yOA} {xw:yLN} {acs:yOA} {Fcs:yLN} (hs:vw w bs os (yS s qA qy qK qH)) (xf:qP.rep w qW [.slice qA s.qw.length qy] s.qw) (xG:qP.rep w xy [.slice qK s.qx.length qH] s.qx) (ht:vw w bt ot (yT t qR qO xh qZ qJ qI)) (zh:qP.rep w xJ [.slice qR t.qB.length qO] t.qB) (zJ:qP.rep w zn [.slice xh t.qE.length qZ] t.qE) (xK:qP.rep w xw [.slice qJ t.qC.length qI] t.qC) (hcs:qP.rep w Fcs [.slice acs cs.length ccs] cs) (p0:jZ s) (p1:zK s t) (p2:cs.length≤1000) (p3:∀ q,q < cs.length→CntOk s (cs[q]!)):Calls Tryz.prog 111 #[pp bs os,pp bt ot,.slice acs cs.length ccs] w (Ret (fun v w' =>∃ (ra0:yOA) (rn0:Nat) (rc0:Nat) (rx0:List Value) (rF0:yLN),v=.tuple #[.slice ra0 rn0 rc0,yI ((yX s t cs).2)]∧Fresh w.heap.size [rF0]∧St w w' [rr ra0 rn0 rc0 38 3 rx0] [zk true rF0 rx0 ((yX s t cs).1)]) w):=by
 refine en func111 ntmps111 ?_
 have H:=((((((((St.start w).arg hcs).arg xK).arg zJ).arg zh).XU ht).arg xG).arg xf).XU hs
 have ve:=qN xf
 have jh:=qN xG
 have yM:=qN zh
 have Qr:=qN zJ
 have jF:=qN xK
 have nhcs:=qN hcs
 clear hs xf xG ht zh zJ xK hcs
 have N:=Fresh.nil w.heap.size
 refine zcr (sps [yN,yI 0] (zjc (sw (vU H underlying47 ti38 fun b1 w2 H=>sp (.slice (aa b1 0) 0 0) (zjcc (sp (yI 0) (zjn (qY ?_))))))))
 replace H:=H.boxRow 0 rfl 3 0 rfl qj
 replace H:=H.vN (α:=qM)
 replace H:St _ _ [rr (aa b1 0) 0 0 38 3 []] [zk true [] [] ([]:List qM),atF bs os (yS s qA qy qK qH),sF false qW qA qy s.qw,sF false xy qK qH s.qx,atF bt ot (yT t qR qO xh qZ qJ qI),sF false xJ qR qO t.qB,sF false zn xh qZ t.qE,sF false xw qJ qI t.qC,sF false Fcs acs ccs cs]:=H
 refine zB (fun m' ρ w3=>∃ (xN:Env) (vk:yOA) (zq:Nat) (zT:Nat) (out:List qM) (Ql:List Value) (yG:yLN) (i:Nat),ρ=upd (upd (upd (upd (upd xN 0 (pp bs os)) 1 (pp bt ot)) 2 (.slice acs cs.length ccs)) 8 (.slice vk zq zT)) 9 (yI i)∧out=jG s t cs i∧((i:Int)≤cs.length)∧(NoBad s t cs i)∧m' =(cs.length - (i:Int)).toNat∧Fresh w.heap.size [yG]∧St w w3 [rr vk zq zT 38 3 Ql] [zk true yG Ql out,atF bs os (yS s qA qy qK qH),sF false qW qA qy s.qw,sF false xy qK qH s.qx,atF bt ot (yT t qR qO xh qZ qJ qI),sF false xJ qR qO t.qB,sF false zn xh qZ t.qE,sF false xw qJ qI t.qC,sF false Fcs acs ccs cs]) ((cs.length - (0:Int)).toNat) ⟨_,(aa b1 0),0,0,([]:List qM),[],[],0,uE5,(by rfl),qf,(by exact fun j hj=>by omega),rfl,N.emp,H⟩ ?_
 clear H N
 rintro m' ρ w4 ⟨xN,vk,zq,zT,out,Ql,yG,i,rfl,rfl,i0,i1,rfl,N,H⟩
 have hn_out:=H.zo (α:=qM) 0 rfl 0 rfl qj
 have nl:=nextTo_len (s:=s) (t:=t) (cs:=cs) i
 refine zcc (sps [yI i,.slice acs cs.length ccs] (oN rfl (sp (.bool (decide ((i:Int) < cs.length))) (zjn (cD rfl (fun h5=>?_) (fun h5=>?_))))))
 ·skip
  refine qV (t_n (xU (qY (zcr (sps [pp bs os,pp bt ot,.slice acs cs.length ccs,yI i] ?_)))))
  obtain ⟨b6,o7,rfl⟩:=H.addr 8 rfl qf
  obtain ⟨ae9,ce9,Fe9,H⟩:=H.vH 8 rfl i i qf qf qf
  refine oI rfl rfl (oL rfl (H.xR 1 rfl 0 rfl) ?_)
  have k3:=p3 i qf
  have sz13:=H.base.size
  have lt14:=H.ltN (L:=[yG]) [2]
  refine sw (oc (l03Step_ok _ s t (cs[i]!) (qF (H.get 3 rfl) 0 3) (H.get 4 rfl).1 (H.get 5 rfl).1 (qF (H.get 6 rfl) 0 3) (H.get 7 rfl).1 (H.get 8 rfl).1 (H.get 9 rfl).1 (H.get 0 rfl).1 qg qg qg) ?_)
  rintro _ w11 ⟨ra10aAlive,rn10aAlive,rc10aAlive,ra10aBags,rn10aBags,rc10aBags,rx10aBags,rF10aBags,ra10aAround,rn10aAround,rc10aAround,rfl,M,K⟩ _
  replace N:=N.merge sz13 lt14 M
  replace H:=H.merge K M
  obtain rfl:=H.rowNB 0 rfl
  obtain rfl:=H.zo (α:=yLI) 1 rfl 0 rfl qj
  obtain rfl:=H.Xk 2 rfl
  refine sps [.tuple #[.agg #[.slice ra10aAlive ((((zA s t (cs[i]!)).1).qB).length) rc10aAlive,.slice ra10aBags ((((zA s t (cs[i]!)).1).qE).length) rc10aBags,.slice ra10aAround ((((zA s t (cs[i]!)).1).qC).length) rc10aAround],yI ((zA s t (cs[i]!)).2)],.agg #[.slice ra10aAlive ((((zA s t (cs[i]!)).1).qB).length) rc10aAlive,.slice ra10aBags ((((zA s t (cs[i]!)).1).qE).length) rc10aBags,.slice ra10aAround ((((zA s t (cs[i]!)).1).qC).length) rc10aAround],yI ((zA s t (cs[i]!)).2)] (sw (xI H ti38 [yN,yN,yN] fun b18 w19 H=>?_))
  refine sw (zy H 0 [.slice ra10aAlive ((((zA s t (cs[i]!)).1).qB).length) rc10aAlive,.slice ra10aBags ((((zA s t (cs[i]!)).1).qE).length) rc10aBags,.slice ra10aAround ((((zA s t (cs[i]!)).1).qC).length) rc10aAround] sizeOf38 fun w20 H=>sp (yI ((zA s t (cs[i]!)).2)) (zjcc (sps [yI ((zA s t (cs[i]!)).2),.bool (((zA s t (cs[i]!)).2:Int) != 0)] (zjn (xF (((zA s t (cs[i]!)).2:Int) != 0) rfl (fun h21=>?_) (fun h21=>?_))))))
  ·skip
   replace h21:=bne_iff_ne.1 h21
   refine zcr (sw (vU H underlying47 ti38 fun b22 w23 H=>sps [yI ((zA s t (cs[i]!)).2),.slice (aa b22 0) 0 0,yI ((zA s t (cs[i]!)).2)] (zjr (t_r (zr5 ?_)))))
   replace H:=H.boxRow 0 rfl 3 0 rfl qj
   replace H:=H.vN (α:=qM)
   replace H:St _ _ [rr (aa b22 0) 0 0 38 3 [],.box b18 [.slice ra10aAlive ((((zA s t (cs[i]!)).1).qB).length) rc10aAlive,.slice ra10aBags ((((zA s t (cs[i]!)).1).qE).length) rc10aBags,.slice ra10aAround ((((zA s t (cs[i]!)).1).qC).length) rc10aAround] 38,rr ra10aAlive ((((zA s t (cs[i]!)).1).qB).length) rc10aAlive 4 1 ((((zA s t (cs[i]!)).1).qB).map (Value.bool)),rr ra10aBags ((((zA s t (cs[i]!)).1).qE).length) rc10aBags 22 1 rx10aBags,rr ra10aAround ((((zA s t (cs[i]!)).1).qC).length) rc10aAround 2 1 ((((zA s t (cs[i]!)).1).qC).map (Value.int .i64)),rr vk zq zT 38 3 Ql] [zk true [] [] ([]:List qM),zk true rF10aBags rx10aBags (((zA s t (cs[i]!)).1).qE),sF false Fe9 ae9 ce9 (cs[i]!),atF b6 (o7+(i:Int).toNat * 1) [.slice ae9 ((cs[i]!).length) ce9],zk true yG Ql (jG s t cs i),atF bs os (yS s qA qy qK qH),sF false qW qA qy s.qw,sF false xy qK qH s.qx,atF bt ot (yT t qR qO xh qZ qJ qI),sF false xJ qR qO t.qB,sF false zn xh qZ t.qE,sF false xw qJ qI t.qC,sF false Fcs (aa b6 o7) ccs cs]:=H
   refine ret2 (.slice (aa b22 0) 0 0) (yI ((zA s t (cs[i]!)).2)) rfl rfl rfl ⟨_,rfl,?_,H.base⟩
   rw [next_bad i1 qf ‹_›]
   exact ⟨(aa b22 0),0,0,[],[],rfl,(N.emp.pick [0]),H.pick [0] [0]⟩
  replace h21:=xA h21
  refine qV (t_n (zcr (sp (.slice vk zq zT) ?_)))
  obtain ⟨G24,hn25,h26⟩:=H.rowIsR (α:=qM) 4 rfl 3 rfl qj
  obtain ⟨G27,hn28,h29⟩:=H.rowIsB 1 rfl
  obtain ⟨G30,hn31,h32⟩:=H.rowIsR (α:=yLI) 2 rfl 0 rfl qj
  obtain ⟨G33,hn34,h35⟩:=H.rowIsI 3 rfl
  refine sw (oq (args_eq (by rw [← hn25]) (l03Find_ok _ (jG s t cs i) ((zA s t (cs[i]!)).1) (hn25▸h26) (qF (H.cells 0 rfl) 0 3) h29 h32 h35)) H fun w37 H=>sp (.bool (decide ((firstIdx (fun zz=>decide ((jG s t cs i)[zz]! =((zA s t (cs[i]!)).1))) (jG s t cs i).length:Int) < 0))) (zjn (cD rfl (fun h39=>?_) (fun h39=>?_))))
  ·skip
   refine xX (sp (.slice vk zq zT) (sw (zl [.slice ra10aAlive ((((zA s t (cs[i]!)).1).qB).length) rc10aAlive,.slice ra10aBags ((((zA s t (cs[i]!)).1).qE).length) rc10aBags,.slice ra10aAround ((((zA s t (cs[i]!)).1).qC).length) rc10aAround] isAgg38 sizeOf38 rfl (qF (H.cells 0 rfl) 0 3) (sw (zI H underlying47 ti38 [.slice ra10aAlive ((((zA s t (cs[i]!)).1).qB).length) rc10aAlive,.slice ra10aBags ((((zA s t (cs[i]!)).1).qE).length) rc10aBags,.slice ra10aAround ((((zA s t (cs[i]!)).1).qC).length) rc10aAround] fun b40 w41 H=>?_)))))
   obtain ⟨G45,N,hn46,H⟩:=H.freezeB 2 rfl N (H.yg [0,3])
   have H0:=H
   obtain ⟨G47,hg49,hn48,H⟩:=H.Qz (α:=yLI) 3 rfl 1 rfl qj
   replace N:Fresh w.heap.size [G47,G45,yG]:=Fresh.ice (N.pick [1,0,2]) H0 3 hg49.1 hg49.2 (H0.yg [0,4])
   clear H0
   obtain ⟨G50,N,hn51,H⟩:=H.vP 4 rfl N (H.yg [0,1,5])
   refine sw (zO H 5 rfl 0 rfl underlying47 ti38 rfl qj rfl rfl rfl (by simp [Value.oneCell',Value.cells]) qp qf fun a42 c43 w44 H=>?_)
   replace H:=H.Xy 6 rfl 2 rfl 1 rfl 0 rfl
   replace N:Fresh w.heap.size [(yG++(G45++G47++G50))]:=(N.pick [2,1,0,3]).join.join.swap.join
   refine sp (.slice a42 (zq+1) c43) (xY (b_n (t_n (xX (sp (yI i) (sw (zD i 1 rfl rfl qf (sp (yI (i+1)) (xY ?_)))))))))
   refine xg (m' :=(cs.length - ((i+1):Int)).toNat) qf ⟨_,a42,zq+1,c43,((jG s t cs i)++[⟨((zA s t (cs[i]!)).1).qB,((zA s t (cs[i]!)).1).qE,((zA s t (cs[i]!)).1).qC⟩]),Ql++[.slice ra10aAlive ((((zA s t (cs[i]!)).1).qB).length) rc10aAlive,.slice ra10aBags ((((zA s t (cs[i]!)).1).qE).length) rc10aBags,.slice ra10aAround ((((zA s t (cs[i]!)).1).qC).length) rc10aAround],(yG++(G45++G47++G50)),i+1,uE5,?_,?_,?_,rfl,N,H.pick [5] [0,8,9,10,11,12,13,14,15]⟩
   · first | exact nextTo_new (find_mem.1 ql) | exact nextTo_in (Classical.byContradiction fun h=>absurd (find_mem.2 h) ql)
   · omega
   · exact i1.succ ‹_›
  refine qV (b_n (t_n (xX (sp (yI i) (sw (zD i 1 rfl rfl qf (sp (yI (i+1)) (xY (xg (m' :=(cs.length - ((i+1):Int)).toNat) qf ⟨_,vk,zq,zT,(jG s t cs i),Ql,yG,i+1,uE5,?_,?_,?_,rfl,(N.pick [1]),H.pick [4] [3,4,5,6,7,8,9,10,11]⟩)))))))))
  · first | exact nextTo_new (find_mem.1 ql) | exact nextTo_in (Classical.byContradiction fun h=>absurd (find_mem.2 h) ql)
  · omega
  · exact i1.succ ‹_›
 refine zx4 (zcr (sps [.slice vk zq zT,.slice vk zq zT,yI 0] (zjr (ret2 (.slice vk zq zT) (yI 0) rfl rfl rfl ⟨_,rfl,?_,H.base⟩))))
 rw [next_ok (fun j hj=>i1 j qf),show cs.length=i by omega]
 exact ⟨vk,zq,zT,Ql,yG,rfl,N,H.pick [0] [0]⟩

theorem sameState_ok (w:World) (a:qM) (b:qM) {aaAlive:yOA} {FaAlive:yLN} {aaBags:yOA} {FaBags:yLN} {Xv:yOA} {FaAround:yLN} {abAlive:yOA} {FbAlive:yLN} {abBags:yOA} {FbBags:yLN} {Xu:yOA} {FbAround:yLN} (haAlive:qP.rep w FaAlive [.slice aaAlive a.qB.length caAlive] a.qB) (haBags:qP.rep w FaBags [.slice aaBags a.qE.length caBags] a.qE) (haAround:qP.rep w FaAround [.slice Xv a.qC.length Xr] a.qC) (hbAlive:qP.rep w FbAlive [.slice abAlive b.qB.length cbAlive] b.qB) (hbBags:qP.rep w FbBags [.slice abBags b.qE.length cbBags] b.qE) (hbAround:qP.rep w FbAround [.slice Xu b.qC.length Xq] b.qC):Calls Tryz.prog 118 #[.agg #[.slice aaAlive a.qB.length caAlive,.slice aaBags a.qE.length caBags,.slice Xv a.qC.length Xr],.agg #[.slice abAlive b.qB.length cbAlive,.slice abBags b.qE.length cbBags,.slice Xu b.qC.length Xq]] w (Ret (fun v w' =>v=.bool (decide (a=b))) w):=by
 refine en func118 ntmps118 ?_
 have H:=((((((St.start w).arg hbAround).arg hbBags).arg hbAlive).arg haAround).arg haBags).arg haAlive
 have nhaAlive:=qN haAlive
 have nhaBags:=qN haBags
 have nhaAround:=qN haAround
 have nhbAlive:=qN hbAlive
 have nhbBags:=qN hbBags
 have nhbAround:=qN hbAround
 clear haAlive haBags haAround hbAlive hbBags hbAround
 have N:=Fresh.nil w.heap.size
 refine zcr (sw (vz H (yT a aaAlive caAlive aaBags caBags Xv Xr) fun b1 w2 H=>sw (vz H (yT b abAlive cbAlive abBags cbBags Xu Xq) fun b3 w4 H=>sp (.bool false) (zjc (oF rfl (oL rfl (H.cell 1 rfl rfl) (oF rfl (oL rfl (H.cell 0 rfl rfl) (sw (oq (equalB_ok _ a.qB b.qB (H.get 0 rfl).1 (H.get 3 rfl).1) H fun w6 H=>sp (.bool (decide (a.qB=b.qB))) ?_))))))))))
 cases h8:(decide (a.qB=b.qB))
 ·skip
  replace h8:=of_decide_eq_false h8
  refine xZ [11,12,13,14,15] (sps [.bool false,.bool false] (xZ [18,19,20,21,22] (sps [.bool false,.bool false] (zjr (ret1 (.bool false) rfl rfl ⟨_,rfl,?_,H.base⟩)))))
  rw [decide_eq_false (fun e=>by subst e;first | omega | exact absurd rfl ql | simp_all)]
 replace h8:=of_decide_eq_true h8
 refine qQ 10 rfl rfl (oF rfl (qQ 10 rfl rfl (oL rfl (H.cell 1 rfl rfl) (qQ 10 rfl rfl (oF rfl (qQ 10 rfl rfl (oL rfl (H.cell 0 rfl rfl) (qQ 10 rfl rfl (sw (zZ #[.slice aaBags a.qE.length caBags,.slice abBags b.qE.length cbBags,.func (.func 96) #[] #[]] rfl rfl call149 (en func149 ntmps149 ?_)))))))))))
 refine zcr (sp (.bool false) (zjcc (sp (.slice aaBags a.qE.length caBags) (oN rfl (sp (.slice abBags b.qE.length cbBags) (oN rfl (sp (.bool ((a.qE.length:Int) != b.qE.length)) (zjn (xF ((a.qE.length:Int) != b.qE.length) rfl (fun h9=>?_) (fun h9=>?_))))))))))
 ·skip
  replace h9:=bne_iff_ne.1 h9
  refine zcr (sp (.bool false) (zjr (t_r (ret1 (.bool false) rfl rfl ⟨_,rfl,(sps [.bool false,.bool false] (xZ [18,19,20,21,22] (sps [.bool false,.bool false] (zjr (ret1 (.bool false) rfl rfl ⟨_,rfl,?_,H.base⟩)))))⟩))))
  rw [decide_eq_false (fun e=>by subst e;first | omega | exact absurd rfl ql | simp_all)]
 replace h9:=xA h9
 refine qV (t_n (zcc (sp (.slice aaBags a.qE.length caBags) (oN rfl (sp (yI 0) (zjn (qY ?_)))))))
 refine zB (fun m' ρ w10=>∃ (xN:Env) (i:Nat),ρ=upd (upd (upd (upd (upd xN 1 (.slice abBags b.qE.length cbBags)) 2 (.func (.func 96) #[] #[])) 15 (.slice aaBags a.qE.length caBags)) 16 (yI a.qE.length)) 17 (yI i)∧((i:Int)≤a.qE.length)∧(a.qE.take i=b.qE.take i)∧m' =(a.qE.length - (i:Int)).toNat∧Fresh w.heap.size []∧St w w10 [.box b3 (yT b abAlive cbAlive abBags cbBags Xu Xq) 38,.box b1 (yT a aaAlive caAlive aaBags caBags Xv Xr) 38] [sF false FaAlive aaAlive caAlive a.qB,sF false FaBags aaBags caBags a.qE,sF false FaAround Xv Xr a.qC,sF false FbAlive abAlive cbAlive b.qB,sF false FbBags abBags cbBags b.qE,sF false FbAround Xu Xq b.qC]) ((a.qE.length - (0:Int)).toNat) ⟨_,0,uE5,qf,(by rfl),rfl,N,H⟩ ?_
 clear H N
 rintro m' ρ w11 ⟨xN,i,rfl,i0,i2,rfl,N,H⟩
 refine zcr (sp (.bool (decide ((i:Int) < a.qE.length))) (zjn (xU (cD rfl (fun h12=>?_) (fun h12=>?_)))))
 ·skip
  refine qV (t_n (xU (qY (zcr (sp (yI i) ?_)))))
  obtain ⟨b13,o14,rfl⟩:=H.addr 1 rfl qf
  obtain ⟨ae16,ce16,Fe16,H⟩:=H.vH 1 rfl i i qf qf qf
  refine oI rfl rfl (oL rfl (H.xR 1 rfl 0 rfl) (sps [yI i,.slice ae16 ((a.qE[i]!).length) ce16] (zjc (sps [.slice abBags b.qE.length cbBags,yI i] ?_))))
  obtain ⟨b17,o18,rfl⟩:=H.addr 6 rfl qf
  obtain ⟨ae20,ce20,Fe20,H⟩:=H.vH 6 rfl i i qf qf qf
  refine oI rfl rfl (oL rfl (H.xR 1 rfl 0 rfl) (sp (.slice ae20 ((b.qE[i]!).length) ce20) (zjc (sps [.func (.func 96) #[] #[],.slice ae16 ((a.qE[i]!).length) ce16,.slice ae20 ((b.qE[i]!).length) ce20] (sw (oq (equalI_ok _ (a.qE[i]!) (b.qE[i]!) (H.get 2 rfl).1 (H.get 0 rfl).1) H fun w22 H=>sp (.bool (!(decide ((a.qE[i]!)=(b.qE[i]!))))) (zjn (xF (!(decide ((a.qE[i]!)=(b.qE[i]!)))) rfl (fun h24=>?_) (fun h24=>?_)))))))))
  ·skip
   replace h24:=xq h24
   replace h24:=of_decide_eq_false h24
   refine zcr (sp (.bool false) (zjr (zr5 (ret1 (.bool false) rfl rfl ⟨_,rfl,(sps [.bool false,.bool false] (xZ [18,19,20,21,22] (sps [.bool false,.bool false] (zjr (ret1 (.bool false) rfl rfl ⟨_,rfl,?_,H.base⟩)))))⟩))))
   rw [decide_eq_false (fun e=>by subst e;first | omega | exact absurd rfl ql | simp_all)]
  replace h24:=xk h24
  replace h24:=of_decide_eq_true h24
  refine qV (b_n (t_n (xX (sw (zD i 1 rfl rfl qf (sp (yI (i+1)) (xY (xg (m' :=(a.qE.length - ((i+1):Int)).toNat) qf ⟨_,i+1,uE5,?_,?_,rfl,N,H.pick [0,1] [4,5,6,7,8,9]⟩))))))))
  · omega
  · exact QJ qf qf i2 ql
 refine zx4 (zcr (sp (.bool true) (zjr (ret1 (.bool true) rfl rfl ⟨_,rfl,(sps [.bool true,.bool true] (qQ 17 rfl rfl (oF rfl (qQ 17 rfl rfl (oL rfl (H.cell 1 rfl rfl) (qQ 17 rfl rfl (oF rfl (qQ 17 rfl rfl (oL rfl (H.cell 0 rfl rfl) (qQ 17 rfl rfl (sw (oq (equalI_ok _ a.qC b.qC (H.get 2 rfl).1 (H.get 5 rfl).1) H fun w26 H=>sps [.bool (decide (a.qC=b.qC)),.bool (decide (a.qC=b.qC))] (zjr (ret1 (.bool (decide (a.qC=b.qC))) rfl rfl ⟨_,rfl,?_,H.base⟩))))))))))))))⟩))))
 rw [show decide (a=b)=decide (a.qC=b.qC) from decide_eq_decide.2 ⟨fun e=>by rw [e],fun e=>state_eq ql (je (k:=i) qf qf i2) e⟩]

theorem behind_ok (w:World) (s:qL) (t:qM) (cs:yLL) {qA:yOA} {qW:yLN} {qK:yOA} {xy:yLN} {qR:yOA} {xJ:yLN} {xh:yOA} {zn:yLN} {qJ:yOA} {xw:yLN} {acs:yOA} {Fcs:yLN} (xf:qP.rep w qW [.slice qA s.qw.length qy] s.qw) (xG:qP.rep w xy [.slice qK s.qx.length qH] s.qx) (zh:qP.rep w xJ [.slice qR t.qB.length qO] t.qB) (zJ:qP.rep w zn [.slice xh t.qE.length qZ] t.qE) (xK:qP.rep w xw [.slice qJ t.qC.length qI] t.qC) (hcs:qP.rep w Fcs [.slice acs cs.length ccs] cs) (p0:jZ s) (p1:zK s t) (p2:cs.length≤1000) (p3:∀ q,q < cs.length→CntOk s (cs[q]!)) (p4:∀ q,q < cs.length→IsCh s t (cs[q]!)):Calls Tryz.prog 113 #[.agg #[yI s.xB,.slice qA s.qw.length qy,.slice qK s.qx.length qH],.agg #[.slice qR t.qB.length qO,.slice xh t.qE.length qZ,.slice qJ t.qC.length qI],.slice acs cs.length ccs] w (Ret (fun v w' =>∃ (ra0:yOA) (rn0:Nat) (rc0:Nat) (rx0:List Value) (rF0:yLN),v=.tuple #[.slice ra0 rn0 rc0,yI ((yX s t cs).2)]∧Fresh w.heap.size [rF0]∧St w w' [rr ra0 rn0 rc0 38 3 rx0] [zk true rF0 rx0 ((yX s t cs).1)]) w):=by
 refine en func113 ntmps113 ?_
 have H:=((((((St.start w).arg hcs).arg xK).arg zJ).arg zh).arg xG).arg xf
 have ve:=qN xf
 have jh:=qN xG
 have yM:=qN zh
 have Qr:=qN zJ
 have jF:=qN xK
 have nhcs:=qN hcs
 clear xf xG zh zJ xK hcs
 have N:=Fresh.nil w.heap.size
 refine zcr (sw (vz H (yS s qA qy qK qH) fun b1 w2 H=>sw (vz H (yT t qR qO xh qZ qJ qI) fun b3 w4 H=>sps [yN,yI 0] (zjc (sw (vU H underlying47 ti38 fun b5 w6 H=>sp (.slice (aa b5 0) 0 0) (zjcc (sp (.slice acs cs.length ccs) (oN rfl (sp (yI 0) (zjn (qY ?_))))))))))))
 replace H:=H.boxRow 0 rfl 3 0 rfl qj
 replace H:=H.vN (α:=qM)
 replace H:St _ _ [rr (aa b5 0) 0 0 38 3 [],.box b3 (yT t qR qO xh qZ qJ qI) 38,.box b1 (yS s qA qy qK qH) 36] [zk true [] [] ([]:List qM),sF false qW qA qy s.qw,sF false xy qK qH s.qx,sF false xJ qR qO t.qB,sF false zn xh qZ t.qE,sF false xw qJ qI t.qC,sF false Fcs acs ccs cs]:=H
 refine zB (fun m' ρ w7=>∃ (xN:Env) (vk:yOA) (zq:Nat) (zT:Nat) (out:List qM) (Ql:List Value) (yG:yLN) (k:Nat),ρ=upd (upd (upd (upd (upd (upd xN 3 (pp b1 0)) 4 (pp b3 0)) 8 (.slice vk zq zT)) 14 (.slice acs cs.length ccs)) 15 (yI cs.length)) 16 (yI k)∧out=jG s t cs k∧((k:Int)≤cs.length)∧(NoBad s t cs k)∧m' =(cs.length - (k:Int)).toNat∧Fresh w.heap.size [yG]∧St w w7 [rr vk zq zT 38 3 Ql,.box b3 (yT t qR qO xh qZ qJ qI) 38,.box b1 (yS s qA qy qK qH) 36] [zk true yG Ql out,sF false qW qA qy s.qw,sF false xy qK qH s.qx,sF false xJ qR qO t.qB,sF false zn xh qZ t.qE,sF false xw qJ qI t.qC,sF false Fcs acs ccs cs]) ((cs.length - (0:Int)).toNat) ⟨_,(aa b5 0),0,0,([]:List qM),[],[],0,uE6,(by rfl),qf,(by exact fun j hj=>by omega),rfl,N.emp,H⟩ ?_
 clear H N
 rintro m' ρ w8 ⟨xN,vk,zq,zT,out,Ql,yG,k,rfl,rfl,i0,i1,rfl,N,H⟩
 have hn_out:=H.zo (α:=qM) 0 rfl 0 rfl qj
 have nl:=nextTo_len (s:=s) (t:=t) (cs:=cs) k
 refine zcr (sp (.bool (decide ((k:Int) < cs.length))) (zjn (xU (cD rfl (fun h9=>?_) (fun h9=>?_)))))
 ·skip
  refine qV (t_n (xU (qY (zcr ?_))))
  obtain ⟨b10,o11,rfl⟩:=H.addr 6 rfl qf
  obtain ⟨ae13,ce13,Fe13,H⟩:=H.vH 6 rfl k k qf qf qf
  refine oI rfl rfl (oL rfl (H.xR 1 rfl 0 rfl) (sp (.slice ae13 ((cs[k]!).length) ce13) (zjc (sw (zl (yS s qA qy qK qH) isAgg36 sizeOf36 rfl (qF (H.cells 2 rfl) 0 3) (sw (zl (yT t qR qO xh qZ qJ qI) isAgg38 sizeOf38 rfl (qF (H.cells 1 rfl) 0 3) (sp (.slice ae13 ((cs[k]!).length) ce13) ?_))))))))
  have k3:=p3 k qf
  have k5:=p4 k qf
  have sz17:=H.base.size
  have lt18:=H.ltN (L:=[yG]) [2]
  refine sw (oc (step_ok _ s t (cs[k]!) (H.get 3 rfl).1 (H.get 4 rfl).1 (H.get 5 rfl).1 (H.get 6 rfl).1 (H.get 7 rfl).1 (H.get 0 rfl).1 qg qg qg qg) ?_)
  rintro _ w15 ⟨ra14aAlive,rn14aAlive,rc14aAlive,ra14aBags,rn14aBags,rc14aBags,rx14aBags,rF14aBags,ra14aAround,rn14aAround,rc14aAround,rfl,M,K⟩ _
  replace N:=N.merge sz17 lt18 M
  replace H:=H.merge K M
  obtain rfl:=H.rowNB 0 rfl
  obtain rfl:=H.zo (α:=yLI) 1 rfl 0 rfl qj
  obtain rfl:=H.Xk 2 rfl
  refine sps [.tuple #[.agg #[.slice ra14aAlive ((((zA s t (cs[k]!)).1).qB).length) rc14aAlive,.slice ra14aBags ((((zA s t (cs[k]!)).1).qE).length) rc14aBags,.slice ra14aAround ((((zA s t (cs[k]!)).1).qC).length) rc14aAround],yI ((zA s t (cs[k]!)).2)],.agg #[.slice ra14aAlive ((((zA s t (cs[k]!)).1).qB).length) rc14aAlive,.slice ra14aBags ((((zA s t (cs[k]!)).1).qE).length) rc14aBags,.slice ra14aAround ((((zA s t (cs[k]!)).1).qC).length) rc14aAround],yI ((zA s t (cs[k]!)).2)] (sw (xI H ti38 [yN,yN,yN] fun b22 w23 H=>?_))
  refine sw (zy H 0 [.slice ra14aAlive ((((zA s t (cs[k]!)).1).qB).length) rc14aAlive,.slice ra14aBags ((((zA s t (cs[k]!)).1).qE).length) rc14aBags,.slice ra14aAround ((((zA s t (cs[k]!)).1).qC).length) rc14aAround] sizeOf38 fun w24 H=>sp (yI ((zA s t (cs[k]!)).2)) (zjcc (sps [yI ((zA s t (cs[k]!)).2),.bool (((zA s t (cs[k]!)).2:Int) != 0)] (zjn (xF (((zA s t (cs[k]!)).2:Int) != 0) rfl (fun h25=>?_) (fun h25=>?_))))))
  ·skip
   replace h25:=bne_iff_ne.1 h25
   refine zcr (sps [yI ((zA s t (cs[k]!)).2),yN,yI ((zA s t (cs[k]!)).2)] (zjr (t_r (zr5 ?_))))
   replace H:=H.nilRow 38 3
   replace H:=H.vN (α:=qM)
   refine ret2 yN (yI ((zA s t (cs[k]!)).2)) rfl rfl rfl ⟨_,rfl,?_,H.base⟩
   rw [next_bad i1 qf ‹_›]
   exact ⟨none,0,0,[],[],rfl,(N.emp.pick [0]),H.pick [0] [0]⟩
  replace h25:=xA h25
  refine qV (t_n (zcr (sps [.slice vk zq zT,.func (.func 147) #[] #[pp b22 0]] (sw (zZ #[.slice vk zq zT,.func (.func 147) #[] #[pp b22 0]] rfl rfl call146 (en func146 ntmps146 ?_))))))
  refine zcr (sp (.bool false) (zjc (sps [.slice vk zq zT,.func (.func 147) #[] #[pp b22 0]] (sw (zZ #[.slice vk zq zT,.func (.func 147) #[] #[pp b22 0]] rfl rfl call116 (en func116 ntmps116 ?_))))))
  refine zcr (sp (yI 0) (zjcc (sp (.slice vk zq zT) (oN rfl (sp (yI 0) (zjn (qY ?_)))))))
  refine zB (fun m' ρ w26=>∃ (xN:Env) (i:Nat),ρ=upd (upd (upd (upd xN 0 (.slice vk zq zT)) 1 (.func (.func 147) #[] #[pp b22 0])) 7 (yI zq)) 8 (yI i)∧((i:Int)≤zq)∧(NotIn (jG s t cs k) (zA s t (cs[k]!)).1 i)∧m' =(zq - (i:Int)).toNat∧Fresh w.heap.size [rF14aBags,yG]∧St w w26 [.box b22 [.slice ra14aAlive ((((zA s t (cs[k]!)).1).qB).length) rc14aAlive,.slice ra14aBags ((((zA s t (cs[k]!)).1).qE).length) rc14aBags,.slice ra14aAround ((((zA s t (cs[k]!)).1).qC).length) rc14aAround] 38,rr ra14aAlive ((((zA s t (cs[k]!)).1).qB).length) rc14aAlive 4 1 ((((zA s t (cs[k]!)).1).qB).map (Value.bool)),rr ra14aBags ((((zA s t (cs[k]!)).1).qE).length) rc14aBags 22 1 rx14aBags,rr ra14aAround ((((zA s t (cs[k]!)).1).qC).length) rc14aAround 2 1 ((((zA s t (cs[k]!)).1).qC).map (Value.int .i64)),rr vk zq zT 38 3 Ql,.box b3 (yT t qR qO xh qZ qJ qI) 38,.box b1 (yS s qA qy qK qH) 36] [zk true rF14aBags rx14aBags (((zA s t (cs[k]!)).1).qE),sF false Fe13 ae13 ce13 (cs[k]!),atF b10 (o11+(k:Int).toNat * 1) [.slice ae13 ((cs[k]!).length) ce13],zk true yG Ql (jG s t cs k),sF false qW qA qy s.qw,sF false xy qK qH s.qx,sF false xJ qR qO t.qB,sF false zn xh qZ t.qE,sF false xw qJ qI t.qC,sF false Fcs (aa b10 o11) ccs cs]) ((zq - (0:Int)).toNat) ⟨_,0,uE4,qf,(by exact fun j hj=>by omega),rfl,N,H⟩ ?_
  clear H N
  rintro m' ρ w27 ⟨xN,i,rfl,i0,i2,rfl,N,H⟩
  refine zcr (sp (.bool (decide ((i:Int) < zq))) (zjn (xU (cD rfl (fun h28=>?_) (fun h28=>?_)))))
  ·skip
   refine qV (t_n (xU (qY (zcr (sps [yI i,yI i] (zjc (sps [.func (.func 147) #[] #[pp b22 0],.slice vk zq zT,yI i] ?_)))))))
   obtain ⟨b29,rfl⟩:=H.yP 4 rfl qf
   obtain ⟨ae30Alive,ce30Alive,Fe30Alive,ae30Bags,ce30Bags,Fe30Bags,ae30Around,ce30Around,Fe30Around,hx31,H⟩:=H.rowel_StateD 4 rfl 3 rfl (iv:=i) i qf qf
   refine oI rfl rfl (sw (zl [.slice ae30Alive ((((jG s t cs k)[i]!).qB).length) ce30Alive,.slice ae30Bags ((((jG s t cs k)[i]!).qE).length) ce30Bags,.slice ae30Around ((((jG s t cs k)[i]!).qC).length) ce30Around] isAgg38 sizeOf38 rfl (qF (fun j v hj=>H.rowGet 4 rfl (hx31 j v hj)) 0 3) (sw (zZ #[.agg #[.slice ae30Alive ((((jG s t cs k)[i]!).qB).length) ce30Alive,.slice ae30Bags ((((jG s t cs k)[i]!).qE).length) ce30Bags,.slice ae30Around ((((jG s t cs k)[i]!).qC).length) ce30Around],pp b22 0] rfl rfl call147 (en func147 ntmps147 ?_)))))
   refine zcr (sw (vz H [.slice ae30Alive ((((jG s t cs k)[i]!).qB).length) ce30Alive,.slice ae30Bags ((((jG s t cs k)[i]!).qE).length) ce30Bags,.slice ae30Around ((((jG s t cs k)[i]!).qC).length) ce30Around] fun b32 w33 H=>sp (.bool false) (zjc (sw (zl [.slice ae30Alive ((((jG s t cs k)[i]!).qB).length) ce30Alive,.slice ae30Bags ((((jG s t cs k)[i]!).qE).length) ce30Bags,.slice ae30Around ((((jG s t cs k)[i]!).qC).length) ce30Around] isAgg38 sizeOf38 rfl (qF (H.cells 0 rfl) 0 3) ?_)))))
   refine sw (zl [.slice ra14aAlive ((((zA s t (cs[k]!)).1).qB).length) rc14aAlive,.slice ra14aBags ((((zA s t (cs[k]!)).1).qE).length) rc14aBags,.slice ra14aAround ((((zA s t (cs[k]!)).1).qC).length) rc14aAround] isAgg38 sizeOf38 rfl (qF (H.cells 1 rfl) 0 3) ?_)
   obtain ⟨G34,hn35,h36⟩:=H.rowIsB 2 rfl
   obtain ⟨G37,hn38,h39⟩:=H.rowIsR (α:=yLI) 3 rfl 3 rfl qj
   obtain ⟨G40,hn41,h42⟩:=H.rowIsI 4 rfl
   refine sw (oq (sameState_ok _ ((jG s t cs k)[i]!) ((zA s t (cs[k]!)).1) (H.get 0 rfl).1 (H.get 1 rfl).1 (H.get 2 rfl).1 h36 h39 h42) H fun w44 H=>sp (.bool (decide (((jG s t cs k)[i]!)=((zA s t (cs[k]!)).1)))) (zjr (ret1 (.bool (decide (((jG s t cs k)[i]!)=((zA s t (cs[k]!)).1)))) rfl rfl ⟨_,rfl,?_⟩)))
   replace H:=H.erases [0]
   dsimp only [vJ,List.eraseIdx] at H
   refine zjn (cD rfl (fun h46=>?_) (fun h46=>?_))
   ·skip
    refine zcr (sps [yI i,yI i] (zjr (zr5 (ret1 (yI i) rfl rfl ⟨_,rfl,(sw (o_pure (.bool true) (by show some (Value.bool (decide ((i:Int)≥0)))=some (Value.bool true);rw [decide_eq_true qf]) (sp (.bool true) (zjr (ret1 (.bool true) rfl rfl ⟨_,rfl,(sp (.bool false) (zjn (xF false rfl (fun h=>absurd h qj) (fun _=>qV (b_n (t_n (xX (sw (zD k 1 rfl rfl qf (sp (yI (k+1)) (xY ?_)))))))))))⟩)))))⟩))))
    refine xg (m' :=(cs.length - ((k+1):Int)).toNat) qf ⟨_,(aa b29 0),zq,zT,(jG s t cs k),Ql,yG,k+1,uE6,?_,?_,?_,rfl,(N.pick [1]),H.pick [4,5,6] [6,7,8,9,10,11,12]⟩
    · first | exact nextTo_new (NotIn.out (fun j hj=>i2 j qf)) | exact nextTo_in (mem_at (k:=i) qf ql)
    · omega
    · exact i1.succ ‹_›
   refine qV (b_n (t_n (xX (sw (zD i 1 rfl rfl qf (sp (yI (i+1)) (xY (xg (m' :=(zq - ((i+1):Int)).toNat) qf ⟨_,i+1,uE4,?_,?_,rfl,N,H.pick [0,1,2,3,4,5,6] [3,4,5,6,7,8,9,10,11,12]⟩))))))))
   · omega
   · exact i2.succ ‹_›
  refine zx4 (zcr (sp (yI (-1)) (zjr (ret1 (yI (-1)) rfl rfl ⟨_,rfl,(sps [.bool false,.bool false] (zjr (ret1 (.bool false) rfl rfl ⟨_,rfl,(sp (.bool true) (zjn (xF true rfl (fun _=>xX (sp (.slice vk zq zT) (sw (zl [.slice ra14aAlive ((((zA s t (cs[k]!)).1).qB).length) rc14aAlive,.slice ra14aBags ((((zA s t (cs[k]!)).1).qE).length) rc14aBags,.slice ra14aAround ((((zA s t (cs[k]!)).1).qC).length) rc14aAround] isAgg38 sizeOf38 rfl (qF (H.cells 0 rfl) 0 3) ?_)))) (fun h=>absurd h qj))))⟩)))⟩))))
  refine sw (zI H underlying47 ti38 [.slice ra14aAlive ((((zA s t (cs[k]!)).1).qB).length) rc14aAlive,.slice ra14aBags ((((zA s t (cs[k]!)).1).qE).length) rc14aBags,.slice ra14aAround ((((zA s t (cs[k]!)).1).qC).length) rc14aAround] fun b47 w48 H=>?_)
  obtain ⟨G52,N,hn53,H⟩:=H.freezeB 2 rfl N (H.yg [0,3])
  have H0:=H
  obtain ⟨G54,hg56,hn55,H⟩:=H.Qz (α:=yLI) 3 rfl 1 rfl qj
  replace N:Fresh w.heap.size [G54,G52,yG]:=Fresh.ice (N.pick [1,0,2]) H0 3 hg56.1 hg56.2 (H0.yg [0,4])
  clear H0
  obtain ⟨G57,N,hn58,H⟩:=H.vP 4 rfl N (H.yg [0,1,5])
  refine sw (zO H 5 rfl 0 rfl underlying47 ti38 rfl qj rfl rfl rfl (by simp [Value.oneCell',Value.cells]) qp qf fun a49 c50 w51 H=>?_)
  replace H:=H.Xy 6 rfl 2 rfl 1 rfl 0 rfl
  replace N:Fresh w.heap.size [(yG++(G52++G54++G57))]:=(N.pick [2,1,0,3]).join.join.swap.join
  refine sp (.slice a49 (zq+1) c50) (xY (b_n (t_n (xX (sw (zD k 1 rfl rfl qf (sp (yI (k+1)) (xY ?_))))))))
  refine xg (m' :=(cs.length - ((k+1):Int)).toNat) qf ⟨_,a49,zq+1,c50,((jG s t cs k)++[⟨((zA s t (cs[k]!)).1).qB,((zA s t (cs[k]!)).1).qE,((zA s t (cs[k]!)).1).qC⟩]),Ql++[.slice ra14aAlive ((((zA s t (cs[k]!)).1).qB).length) rc14aAlive,.slice ra14aBags ((((zA s t (cs[k]!)).1).qE).length) rc14aBags,.slice ra14aAround ((((zA s t (cs[k]!)).1).qC).length) rc14aAround],(yG++(G52++G54++G57)),k+1,uE6,?_,?_,?_,rfl,N,H.pick [5,6,7] [0,8,9,10,11,12,13]⟩
  · first | exact nextTo_new (NotIn.out (fun j hj=>i2 j qf)) | exact nextTo_in (mem_at (k:=i) qf ql)
  · omega
  · exact i1.succ ‹_›
 refine zx4 (zcr (sps [.slice vk zq zT,.slice vk zq zT,yI 0] (zjr (ret2 (.slice vk zq zT) (yI 0) rfl rfl rfl ⟨_,rfl,?_,H.base⟩))))
 rw [next_ok (fun j hj=>i1 j qf),show cs.length=k by omega]
 exact ⟨vk,zq,zT,Ql,yG,rfl,N,H.pick [0] [0]⟩
theorem l01Full_ok (w:World) (rest:yLI) (parts:yLL) {arest:yOA} {crest:Nat} {Frest:yLN} {zg:yOA} {xQ:Nat} {Fparts:yLN} (hrest:qP.rep w Frest [.slice arest rest.length crest] rest) (hparts:qP.rep w Fparts [.slice zg parts.length xQ] parts) (p0:Vm parts rest):Calls Tryz.prog 198 #[.slice arest rest.length crest,.slice zg parts.length xQ] w (Ret (fun v w' =>v=.bool (dec (FullOk parts rest))) w):=by
 refine en func198 ntmps198 ?_
 have H:=((St.start w).arg hparts).arg hrest
 have nhrest:=qN hrest
 have nhparts:=qN hparts
 clear hrest hparts
 have N:=Fresh.nil w.heap.size
 refine zcr (sp (.bool false) (zjcc (sp (yI 0) (zjn (qY ?_)))))
 refine zB (fun m' ρ w1=>∃ (xN:Env) (i:Nat),ρ=upd (upd (upd xN 0 (.slice arest rest.length crest)) 1 (.slice zg parts.length xQ)) 5 (yI i)∧((i:Int)≤parts.length)∧(FullTo parts rest i)∧m' =(parts.length - (i:Int)).toNat∧Fresh w.heap.size []∧St w w1 [] [sF false Frest arest crest rest,sF false Fparts zg xQ parts]) ((parts.length - (0:Int)).toNat) ⟨_,0,uE3,qf,(by exact fun j hj=>by omega),rfl,N,H⟩ ?_
 clear H N
 rintro m' ρ w2 ⟨xN,i,rfl,i0,i1,rfl,N,H⟩
 refine zcc (sps [yI i,.slice zg parts.length xQ] (oN rfl (sp (.bool (decide ((i:Int) < parts.length))) (zjn (cD rfl (fun h3=>?_) (fun h3=>?_))))))
 ·skip
  refine qV (t_n (xU (qY (zcr (sps [.slice zg parts.length xQ,yI i] ?_)))))
  obtain ⟨b4,o5,rfl⟩:=H.addr 1 rfl qf
  obtain ⟨ae7,ce7,Fe7,H⟩:=H.vH 1 rfl i i qf qf qf
  refine oI rfl rfl (oL rfl (H.xR 1 rfl 0 rfl) (sp (.slice arest rest.length crest) ?_))
  obtain ⟨t1,t2⟩:=p0.times (k:=i) qf
  refine sw (oq (l01Within_ok _ (parts[i]!) rest (H.get 0 rfl).1 (H.get 2 rfl).1 qg) H fun w9 H=>zjn (xF (within (parts[i]!) rest) rfl (fun h11=>?_) (fun h11=>?_)))
  ·skip
   refine zcr (sp (.bool false) (zjr (zr5 (ret1 (.bool false) rfl rfl ⟨_,rfl,?_,H.base⟩))))
   rw [xn (fun h=>by have:=h i qf;simp_all)]
  refine qV (b_n (t_n (xX (sp (yI i) (sw (zD i 1 rfl rfl qf (sp (yI (i+1)) (xY (xg (m' :=(parts.length - ((i+1):Int)).toNat) qf ⟨_,i+1,uE3,?_,?_,rfl,N,H.pick [] [2,3]⟩)))))))))
  · omega
  · exact i1.succ ‹_›
 refine zx4 (zcr (sp (.bool true) (zjr (ret1 (.bool true) rfl rfl ⟨_,rfl,?_,H.base⟩))))
 rw [jP (show FullOk parts rest from fun j hj=>i1 j qf)]

def l01Pack_ok_S (f:Nat):Prop:=∀ {W0 w:World} {ps:List Prv} {Γ:List Fact} {Ns:List yLN} (rest:yLI) (parts:yLL) (vG:yLI) (out:yLL) (arest:yOA) (crest:Nat) (Frest:yLN) (zg:yOA) (xQ:Nat) (Fparts:yLN) (abegin:yOA) (cbegin:Nat) (Fbegin:yLN) (bout:Nat) (raout:yOA) (rnout:Nat) (rcout:Nat) (rxout:List Value) (rFout:yLN) (H:St W0 w ((.box bout [.slice raout rnout rcout] 27) :: (rr raout rnout rcout 22 1 rxout) :: ps) ((sF false Frest arest crest rest) :: (sF false Fparts zg xQ parts) :: (sF false Fbegin abegin cbegin vG) :: (zk true rFout rxout out) :: Γ)) (N:Fresh W0.heap.size (rFout :: Ns)) (K0:Kept Ns Γ) (p0:vG.length+f=parts.length) (p1:Vm parts rest) (p2:out.length≤2000),Calls Tryz.prog 171 #[.slice arest rest.length crest,.slice zg parts.length xQ,.slice abegin vG.length cbegin,pp bout 0] w (fun e w' =>∃ v,e=.returned v∧∃ (raout_:yOA) (rnout_:Nat) (rcout_:Nat) (rxout_:List Value) (rFout_:yLN),v=.tuple #[]∧Fresh W0.heap.size (rFout_ :: Ns)∧St W0 w' ((.box bout [.slice raout_ rnout_ rcout_] 27) :: (rr raout_ rnout_ rcout_ 22 1 rxout_) :: ps) ((sF false Frest arest crest rest) :: (sF false Fparts zg xQ parts) :: (sF false Fbegin abegin cbegin vG) :: (zk true rFout_ rxout_ (gath out (begins vG (packs parts (parts.length - vG.length) vG.length rest)))) :: Γ))
theorem l01Pack_ok_step (f:Nat) (IH:∀ k,k < f→l01Pack_ok_S k) {W0 w:World} {ps:List Prv} {Γ:List Fact} {Ns:List yLN} (rest:yLI) (parts:yLL) (vG:yLI) (out:yLL) (arest:yOA) (crest:Nat) (Frest:yLN) (zg:yOA) (xQ:Nat) (Fparts:yLN) (abegin:yOA) (cbegin:Nat) (Fbegin:yLN) (bout:Nat) (raout:yOA) (rnout:Nat) (rcout:Nat) (rxout:List Value) (rFout:yLN) (H:St W0 w ((.box bout [.slice raout rnout rcout] 27) :: (rr raout rnout rcout 22 1 rxout) :: ps) ((sF false Frest arest crest rest) :: (sF false Fparts zg xQ parts) :: (sF false Fbegin abegin cbegin vG) :: (zk true rFout rxout out) :: Γ)) (N:Fresh W0.heap.size (rFout :: Ns)) (K0:Kept Ns Γ) (p0:vG.length+f=parts.length) (p1:Vm parts rest) (p2:out.length≤2000):Calls Tryz.prog 171 #[.slice arest rest.length crest,.slice zg parts.length xQ,.slice abegin vG.length cbegin,pp bout 0] w (fun e w' =>∃ v,e=.returned v∧∃ (raout_:yOA) (rnout_:Nat) (rcout_:Nat) (rxout_:List Value) (rFout_:yLN),v=.tuple #[]∧Fresh W0.heap.size (rFout_ :: Ns)∧St W0 w' ((.box bout [.slice raout_ rnout_ rcout_] 27) :: (rr raout_ rnout_ rcout_ 22 1 rxout_) :: ps) ((sF false Frest arest crest rest) :: (sF false Fparts zg xQ parts) :: (sF false Fbegin abegin cbegin vG) :: (zk true rFout_ rxout_ (gath out (begins vG (packs parts (parts.length - vG.length) vG.length rest)))) :: Γ)):=by
 refine en func171 ntmps171 ?_
 have nhrest:=qN (H.get 0 rfl).1
 have nhparts:=qN (H.get 1 rfl).1
 have nhbegin:=qN (H.get 2 rfl).1
 obtain rfl:=H.zo (α:=yLI) 1 rfl 3 rfl qj
 have p3:=p1.small
 refine zcr (sp (.slice abegin vG.length cbegin) (oN rfl (sp (yI vG.length) (zjcc (sps [yI vG.length,.slice zg parts.length xQ] (oN rfl (sp (.bool ((vG.length:Int) == parts.length)) (zjn (cE rfl (fun h1=>?_) (fun h1=>?_))))))))))
 ·skip
  refine zcc (sps [.slice arest rest.length crest,.slice zg parts.length xQ] (sw (oq (l01Full_ok _ rest parts (H.get 0 rfl).1 (H.get 1 rfl).1 qg) H fun w3 H=>zjn (cP rfl (fun h5=>?_) (fun h5=>?_)))))
  ·skip
   refine c_cut (fun ρ w11=>∃ (xN:Env) (a6:yOA) (c7:Nat) (a8:yOA) (c9:Nat) (G10:yLN),ρ=xN∧Fresh W0.heap.size ((rFout++G10) :: Ns)∧St W0 w11 ((.box bout [.slice a6 (out.length+1) c7] 27) :: (rr a6 (out.length+1) c7 22 1 (rxout++[.slice a8 vG.length c9])) :: ps) ((zk true (rFout++G10) (rxout++[.slice a8 vG.length c9]) (out++[vG])) :: (sF true G10 a8 c9 vG) :: (sF false Frest arest crest rest) :: (sF false Fparts zg xQ parts) :: (sF false Fbegin abegin cbegin vG) :: Γ)) ?_ ?_
   ·skip
    refine c_drawK2 rfl H [] [0,1,2,3] fun H=>?_
    have S:=H.jY [] [0,1,2,3]
    refine rtp 0 (pp bout 0) S ?_
    refine rtp 1 (pp bout 0) S ?_
    refine rtp 2 (pp bout 0) S ?_
    refine rtp 4 (.slice abegin vG.length cbegin) S ?_
    refine vS [3,5] qh qm (jA rfl ?_ (jA rfl ?_ vT))
    ·skip
     refine zF (.slice raout out.length rcout) isAgg27 rfl (H.cell 0 rfl rfl) (⟨H.pick [] [0,1,2,3],(ro 5 rfl ?_)⟩)
     have sz13:=H.base.size
     have lt14:=all_two (H.ltN (L:=[rFout]) [3]) (H.ltK (K0.behind 4 rfl))
     refine oc (Xg _ vG (H.get 2 rfl).1 qg) ?_
     rintro v18 w16 r18 x17
     replace H:=H.zC x17 r18
     obtain ⟨a19,c20,rfl,hc21,hm22⟩:=H.ji 0 rfl
     refine ⟨H.pick [] [0,1,2,3],(ro 6 rfl (zI H underlying27 ti22 [.slice a19 vG.length c20] fun b23 w24 H=>⟨H.pick [] [0,1,2,3],(ro 7 rfl ?_)⟩))⟩
     obtain ⟨G28,N,hn29,H⟩:=H.vP 1 rfl N (fun F hF b hb=>(List.mem_append.1 (show F∈[rFout]++Ns from hF)).elim (fun h=>(H.yg (L:=[rFout]) [3]) F h b hb) fun h=>H.awayK (K0.behind 4 rfl) F h b hb)
     try dsimp only [List.set] at H
     refine zO H 3 rfl 0 rfl underlying27 ti22 rfl qj rfl rfl rfl (by simp [Value.oneCell',Value.cells]) qp qf fun a25 c26 w27 H=>?_
     try dsimp only [List.set] at H
     replace H:=H.yj 4 rfl 0 rfl
     replace N:Fresh W0.heap.size ((rFout++G28) :: Ns):=(N.Xz 2 [1,0] qo).join
     refine ⟨H.pick [] [2,3,4,5],(rtp 8 (pp bout 0) (H.pick [] [2,3,4,5]) ?_)⟩
     refine ro 9 rfl (xP H 2 [.slice a25 (out.length+1) c26] sizeOf27 fun w30 H=>?_)
     try dsimp only [List.set] at H
     refine ⟨H.pick [] [2,3,4,5],(xH qh ((meet ⟨_,a25,c26,a19,c20,G28,(by exact rfl),N,H.Xz 4 6 [2,3] [0,1,2,3,4] qo qo⟩)))⟩
    have sz31:=H.base.size
    have lt32:=all_two (H.ltN (L:=[rFout]) [3]) (H.ltK (K0.behind 4 rfl))
    refine oc (Xg _ vG (H.get 2 rfl).1 qg) ?_
    rintro v36 w34 r36 x35
    replace H:=H.zC x35 r36
    obtain ⟨a37,c38,rfl,hc39,hm40⟩:=H.ji 0 rfl
    refine ⟨H.pick [] [0,1,2,3],(vS [3,6] qh qm (jA rfl ?_ (jA rfl ?_ vT)))⟩
    ·skip
     refine zF (.slice raout out.length rcout) isAgg27 rfl (H.cell 1 rfl rfl) (⟨H.pick [] [0,1,2,3],(ro 6 rfl (zI H underlying27 ti22 [.slice a37 vG.length c38] fun b41 w42 H=>⟨H.pick [] [0,1,2,3],(ro 7 rfl ?_)⟩))⟩)
     obtain ⟨G46,N,hn47,H⟩:=H.vP 1 rfl N (fun F hF b hb=>(List.mem_append.1 (show F∈[rFout]++Ns from hF)).elim (fun h=>(H.yg (L:=[rFout]) [3]) F h b hb) fun h=>H.awayK (K0.behind 4 rfl) F h b hb)
     try dsimp only [List.set] at H
     refine zO H 3 rfl 0 rfl underlying27 ti22 rfl qj rfl rfl rfl (by simp [Value.oneCell',Value.cells]) qp qf fun a43 c44 w45 H=>?_
     try dsimp only [List.set] at H
     replace H:=H.yj 4 rfl 0 rfl
     replace N:Fresh W0.heap.size ((rFout++G46) :: Ns):=(N.Xz 2 [1,0] qo).join
     refine ⟨H.pick [] [2,3,4,5],(rtp 8 (pp bout 0) (H.pick [] [2,3,4,5]) ?_)⟩
     refine ro 9 rfl (xP H 2 [.slice a43 (out.length+1) c44] sizeOf27 fun w48 H=>?_)
     try dsimp only [List.set] at H
     refine ⟨H.pick [] [2,3,4,5],(xH qh ((meet ⟨_,a43,c44,a37,c38,G46,(by exact rfl),N,H.Xz 4 6 [2,3] [0,1,2,3,4] qo qo⟩)))⟩
    refine zI H underlying27 ti22 [.slice a37 vG.length c38] fun b49 w50 H=>⟨H.pick [] [0,1,2,3],(ro 3 rfl (zF (.slice raout out.length rcout) isAgg27 rfl (H.cell 2 rfl rfl) (⟨H.pick [] [0,1,2,3],(ro 7 rfl ?_)⟩)))⟩
    obtain ⟨G54,N,hn55,H⟩:=H.vP 1 rfl N (fun F hF b hb=>(List.mem_append.1 (show F∈[rFout]++Ns from hF)).elim (fun h=>(H.yg (L:=[rFout]) [3]) F h b hb) fun h=>H.awayK (K0.behind 4 rfl) F h b hb)
    try dsimp only [List.set] at H
    refine zO H 3 rfl 0 rfl underlying27 ti22 rfl qj rfl rfl rfl (by simp [Value.oneCell',Value.cells]) qp qf fun a51 c52 w53 H=>?_
    try dsimp only [List.set] at H
    replace H:=H.yj 4 rfl 0 rfl
    replace N:Fresh W0.heap.size ((rFout++G54) :: Ns):=(N.Xz 2 [1,0] qo).join
    refine ⟨H.pick [] [2,3,4,5],(rtp 8 (pp bout 0) (H.pick [] [2,3,4,5]) ?_)⟩
    refine ro 9 rfl (xP H 2 [.slice a51 (out.length+1) c52] sizeOf27 fun w56 H=>?_)
    try dsimp only [List.set] at H
    refine ⟨H.pick [] [2,3,4,5],(xH qh ((meet ⟨_,a51,c52,a37,c38,G54,(by exact rfl),N,H.Xz 4 6 [2,3] [0,1,2,3,4] qo qo⟩)))⟩
   clear H N
   rintro ρ w57 ⟨xN,a6,c7,a8,c9,G10,rfl,N,H⟩
   refine t_n (c_ret (t_r (ret0' rfl ⟨_,rfl,?_⟩)))
   rw [pack_full qf ‹_› p2]
   exact ⟨a6,out.length+1,c7,rxout++[Value.slice a8 vG.length c9],(rFout++G10),rfl,N,H.Xz 2 5 [0,1] [2,3,4,0] qo qo⟩
  refine qV (t_n (c_ret (t_r (ret0' rfl ⟨_,rfl,?_⟩))))
  rw [pack_none qf ‹_› p2]
  exact ⟨raout,out.length,rcout,rxout,rFout,rfl,N,H.Xz 2 4 [0,1] [0,1,2,3] qo qo⟩
 refine qV (t_n (zcr (sp (yI 0) (zjn (qY ?_)))))
 obtain ⟨t1,t2,t3,t4,t5,t6⟩:=p1.times (k:=vG.length) qf
 refine zB (fun m' ρ w58=>∃ (xN:Env) (n:Nat) (vk:yOA) (zq:Nat) (zT:Nat) (out_1:yLL) (Ql:List Value) (yG:yLN),ρ=upd (upd (upd (upd (upd (upd xN 0 (.slice arest rest.length crest)) 1 (.slice zg parts.length xQ)) 2 (.slice abegin vG.length cbegin)) 3 (pp bout 0)) 8 (yI vG.length)) 9 (yI n)∧out_1=gath out (begins vG (jm parts (f - 1) vG.length rest n))∧((n:Int)≤jg (parts[vG.length]!) rest+1)∧m' =(jg (parts[vG.length]!) rest+1 - (n:Int)).toNat∧Fresh W0.heap.size (yG :: Ns)∧St W0 w58 ((.box bout [.slice vk zq zT] 27) :: (rr vk zq zT 22 1 Ql) :: ps) ((sF false Frest arest crest rest) :: (sF false Fparts zg xQ parts) :: (sF false Fbegin abegin cbegin vG) :: (zk true yG Ql out_1) :: Γ)) ((jg (parts[vG.length]!) rest+1 - (0:Int)).toNat) ⟨_,0,raout,out.length,rcout,out,rxout,rFout,uE6,(by exact pack_start p2),qf,rfl,N,H⟩ ?_
 clear H N
 rintro m' ρ w59 ⟨xN,n,vk,zq,zT,out_1,Ql,yG,rfl,rfl,i0,rfl,N,H⟩
 have hn_out:=H.zo (α:=yLI) 1 rfl 3 rfl qj
 have gl:=gath_len out (begins vG (jm parts (f - 1) vG.length rest n))
 refine zcc (sps [yI n,.slice zg parts.length xQ,yI vG.length] ?_)
 obtain ⟨b60,o61,rfl⟩:=H.addr 1 rfl qf
 obtain ⟨ae63,ce63,Fe63,H⟩:=H.vH 1 rfl vG.length vG.length qf qf qf
 refine oI rfl rfl (oL rfl (H.xR 1 rfl 0 rfl) (sp (.slice arest rest.length crest) ?_))
 obtain ⟨t1,t2,t3,t4,t5,t6⟩:=p1.times (k:=vG.length) qf
 refine sw (oq (l01Times_ok _ (parts[vG.length]!) rest (H.get 0 rfl).1 (H.get 2 rfl).1 qg qg qg) H fun w65 H=>sps [.bool (decide ((n:Int)≤(jg (parts[vG.length]!) rest))),.bool (decide ((n:Int)≤(jg (parts[vG.length]!) rest)))] ?_)
 cases h67:(decide ((n:Int)≤(jg (parts[vG.length]!) rest)))
 ·skip
  replace h67:=of_decide_eq_false h67
  refine xZ [37,38,39,40,41] (sp (.bool false) (zjn (xF false rfl (fun h=>absurd h qj) (fun _=>c_exit (t_x (t_x (b_x (ret0 rfl ⟨_,rfl,?_⟩))))))))
  rw [pack_end p0 qf qf qf (by first | (left;omega) | (right;omega))]
  exact ⟨vk,zq,zT,Ql,yG,rfl,N,H.Xz 2 6 [0,1] [2,3,4,5] qo qo⟩
 replace h67:=of_decide_eq_true h67
 refine qQ 36 rfl rfl (sp (pp bout 0) (qQ 36 rfl rfl (sp (pp bout 0) (qQ 36 rfl rfl (oL rfl (H.cell 0 rfl rfl) (qQ 36 rfl rfl (oN rfl (qQ 36 rfl rfl (sps [.bool (decide ((zq:Int)≤2000)),.bool (decide ((zq:Int)≤2000))] (zjn (cD rfl (fun h68=>?_) (fun h68=>?_))))))))))))
 ·skip
  refine qV (t_n (xU (qY (xX (sps [.slice arest rest.length crest,.slice (aa b60 o61) parts.length xQ,yI vG.length] (oI rfl rfl (oL rfl (H.xR 1 rfl 0 rfl) (sp (yI n) (sw (o_neg n rfl qf ?_))))))))))
  obtain ⟨u1,u2,u3,u4⟩:=p1.plus (k:=vG.length) qf (n:=(n:Int)) qf qf
  have sz69:=H.base.size
  have lt70:=all_two (H.ltN (L:=[yG]) [5]) (H.ltK (K0.behind 6 rfl))
  refine sw (oc (Xi _ rest (parts[vG.length]!) (-n) (H.get 2 rfl).1 (H.get 0 rfl).1 qg qg qg) ?_)
  rintro v74 w72 r74 x73
  replace H:=H.zC x73 r74
  obtain ⟨a75,c76,rfl,hc77,hm78⟩:=H.ji 0 rfl
  refine sps [.slice (aa b60 o61) parts.length xQ,.slice abegin vG.length cbegin] ?_
  have sz79:=H.base.size
  have lt80:=all_two (H.ltN (L:=[yG]) [5]) (H.ltK (K0.behind 6 rfl))
  refine sw (oc (Xg _ vG (H.get 4 rfl).1 qg) ?_)
  rintro v84 w82 r84 x83
  replace H:=H.zC x83 r84
  obtain ⟨a85,c86,rfl,hc87,hm88⟩:=H.ji 0 rfl
  refine sp (yI n) (sw (zI H underlying22 ti2 [yI n] fun b89 w90 H=>sw (zO H 1 rfl 0 rfl underlying22 ti2 rfl qj rfl rfl rfl (by simp [Value.oneCell',Value.cells]) qp qf fun a91 c92 w93 H=>?_)))
  rw [snocI] at H
  try dsimp only [List.set] at H
  refine sp (pp bout 0) ?_
  obtain ⟨G94,N,hn95,H⟩:=H.vP 2 rfl N (fun F hF b hb=>(List.mem_append.1 (show F∈[yG]++Ns from hF)).elim (fun h=>(H.yg (L:=[yG]) [5]) F h b hb) fun h=>H.awayK (K0.behind 6 rfl) F h b hb)
  try dsimp only [List.set] at H
  replace H:=H.unfreeI 0 rfl
  obtain ⟨G96,N,hn97,H⟩:=H.vP 1 rfl N (fun F hF b hb=>(List.mem_append.1 (show F∈[G94,yG]++Ns from hF)).elim (fun h=>(H.yg (L:=[G94,yG]) [0,7]) F h b hb) fun h=>H.awayK (K0.behind 8 rfl) F h b hb)
  try dsimp only [List.set] at H
  replace H:=H.unfreeI 0 rfl
  have hn98:=H.isLen 0 rfl
  have H1:St W0 w93 ((.box bout [.slice vk zq zT] 27) :: (.row (.slice vk zq zT) 22 1 zq Ql) :: (.box b89 [yI n] 2) :: (.row yN 0 1 0 []) :: (.row yN 0 1 0 []) :: ps) ((isF false G94 (.slice a75 ((vY rest (parts[vG.length]!) (-n)).length) c76) (vY rest (parts[vG.length]!) (-n))) :: (isF false Fparts (.slice (aa b60 o61) parts.length xQ) parts) :: (isF false G96 (.slice a91 ((vG++[(n:Int)]).length) c92) (vG++[(n:Int)])) :: (zk true yG Ql (gath out (begins vG (jm parts (f - 1) vG.length rest n)))) :: (isF false G96 (.slice a91 (vG.length+1) c92) (vG++[(n:Int)])) :: (isF true G96 (.slice a91 (vG.length+1) c92) (vG++[(n:Int)])) :: (isF false G94 (.slice a75 ((vY rest (parts[vG.length]!) (-n)).length) c76) (vY rest (parts[vG.length]!) (-n))) :: (isF true G94 (.slice a75 ((vY rest (parts[vG.length]!) (-n)).length) c76) (vY rest (parts[vG.length]!) (-n))) :: (isF false Fe63 (.slice ae63 ((parts[vG.length]!).length) ce63) (parts[vG.length]!)) :: (atF b60 (o61+(vG.length:Int).toNat * 1) [.slice ae63 ((parts[vG.length]!).length) ce63]) :: (isF false Frest (.slice arest rest.length crest) rest) :: (isF false Fparts (.slice (aa b60 o61) parts.length xQ) parts) :: (isF false Fbegin (.slice abegin vG.length cbegin) vG) :: Γ):=by (try rw [← hn98]);exact H.Xz 5 10 [3,4,0,1,2] [2,7,0,9,0,1,2,3,4,5,6,7,8] qo qo
  have N1:Fresh _ (yG :: G96 :: G94 :: Ns):=(N.Xz 3 [2,0,1] qo)
  have K1:Kept (Ns) ((isF false G96 (.slice a91 (vG.length+1) c92) (vG++[(n:Int)])) :: (isF true G96 (.slice a91 (vG.length+1) c92) (vG++[(n:Int)])) :: (sF false G94 a75 c76 (vY rest (parts[vG.length]!) (-n))) :: (sF true G94 a75 c76 (vY rest (parts[vG.length]!) (-n))) :: (sF false Fe63 ae63 ce63 (parts[vG.length]!)) :: (atF b60 (o61+(vG.length:Int).toNat * 1) [.slice ae63 ((parts[vG.length]!).length) ce63]) :: (sF false Frest arest crest rest) :: (sF false Fparts (aa b60 o61) xQ parts) :: (sF false Fbegin abegin cbegin vG) :: Γ):=K0.behind 9 rfl
  replace K1:=K1.cons (F:=G94) 2 rfl rfl
  replace K1:=K1.cons (F:=G96) 0 rfl rfl
  refine sw (o_callF #[.slice a75 ((vY rest (parts[vG.length]!) (-n)).length) c76,.slice (aa b60 o61) parts.length xQ,.slice a91 (vG.length+1) c92,pp bout 0] rfl rfl call171 (args_eq (by first | rfl | rw [hn98]) (IH (f - 1) qf (vY rest (parts[vG.length]!) (-n)) parts (vG++[(n:Int)]) (gath out (begins vG (jm parts (f - 1) vG.length rest n))) a75 c76 G94 (aa b60 o61) xQ Fparts a91 c92 G96 bout vk zq zT Ql yG H1 N1 K1 (by simp only [List.length_append,List.length_cons,List.length_nil];omega) (by first | assumption | exact u4) (by first | assumption | (simp only [List.length_nil];omega) | omega))) ?_)
  clear H H1 N1 K1
  rintro _ w99 ⟨ra100,rn100,rc100,rx100,rF100,rfl,N,H⟩
  obtain rfl:=H.zo (α:=yLI) 1 rfl 3 rfl qj
  refine xY (b_n (t_n (xX (sp (yI n) (sw (zD n 1 rfl rfl qf (sp (yI (n+1)) (xY ?_))))))))
  refine xg (m' :=(jg (parts[vG.length]!) rest+1 - ((n+1):Int)).toNat) qf ⟨_,n+1,ra100,(gath (gath out (begins vG (jm parts (f - 1) vG.length rest n))) (begins (vG++[(n:Int)]) (packs parts (parts.length - (vG++[(n:Int)]).length) (vG++[(n:Int)]).length (vY rest (parts[vG.length]!) (-n))))).length,rc100,(gath (gath out (begins vG (jm parts (f - 1) vG.length rest n))) (begins (vG++[(n:Int)]) (packs parts (parts.length - (vG++[(n:Int)]).length) (vG++[(n:Int)]).length (vY rest (parts[vG.length]!) (-n))))),rx100,rF100,uE6,?_,?_,rfl,(N.Xz 3 [0] qo),H.Xz 5 13 [0,1] [10,11,12,3] qo qo⟩
  · exact pack_step p0 qf qf
  · omega
 refine c_exit (t_x (t_x (b_x (ret0 rfl ⟨_,rfl,?_⟩))))
 rw [pack_end p0 qf qf qf (by first | (left;omega) | (right;omega))]
 exact ⟨vk,zq,zT,Ql,yG,rfl,N,H.Xz 2 6 [0,1] [2,3,4,5] qo qo⟩

theorem l01Pack_ok (f:Nat):l01Pack_ok_S f:=Nat.strongRecOn (motive:=l01Pack_ok_S) f fun f IH=>by unfold l01Pack_ok_S;intros;apply l01Pack_ok_step f IH <;> assumption

theorem l01All_ok (w:World) (b:yLI) (parts:yLL) {ab:yOA} {Fb:yLN} {zg:yOA} {xQ:Nat} {Fparts:yLN} (hb:qP.rep w Fb [.slice ab b.length cb] b) (hparts:qP.rep w Fparts [.slice zg parts.length xQ] parts) (p0:Vm parts b):Calls Tryz.prog 136 #[.slice ab b.length cb,.slice zg parts.length xQ] w (Ret (fun v w' =>∃ (ra0:yOA) (rn0:Nat) (rc0:Nat) (rx0:List Value) (rF0:yLN),v=.tuple #[.slice ra0 rn0 rc0,yI ((zW b parts).2)]∧Fresh w.heap.size [rF0]∧St w w' [rr ra0 rn0 rc0 22 1 rx0] [zk true rF0 rx0 ((zW b parts).1)]) w):=by
 refine en func136 ntmps136 ?_
 have H:=((St.start w).arg hparts).arg hb
 have nhb:=qN hb
 have nhparts:=qN hparts
 clear hb hparts
 have N:=Fresh.nil w.heap.size
 have p3:=p0.small
 have p4:=p0.smallB
 refine zcr (sps [yN,yI 0] (zjcc (sp (.slice ab b.length cb) (sw (oq (VI _ b (H.get 0 rfl).1 (by first | assumption | exact vF ql | exact yV ql)) H fun w1 H=>sp (.bool (decide ((X0 b:Int) > 16))) (zjn (cD rfl (fun h3=>?_) (fun h3=>?_))))))))
 ·skip
  refine zcr (sw (vU H underlying27 ti22 fun b4 w5 H=>sps [.slice (aa b4 0) 0 0,yI 3] (zjr (t_r ?_))))
  replace H:=H.boxRow 0 rfl 1 0 rfl qj
  replace H:=H.vN (α:=yLI)
  refine ret2 (.slice (aa b4 0) 0 0) (yI 3) rfl rfl rfl ⟨_,rfl,?_,H.base⟩
  first | rw [all_a ql] | rw [all_b ql ql]
  exact ⟨(aa b4 0),0,0,[],[],rfl,N.emp,H.pick [0] [0]⟩
 refine qV (t_n (zcr (sw (vU H underlying27 ti22 fun b6 w7 H=>sw (xI H ti27 [yN] fun b8 w9 H=>sw (xP H 0 [.slice (aa b6 0) 0 0] sizeOf27 fun w10 H=>zjc (sps [.slice ab b.length cb,.slice zg parts.length xQ] (sw (vU H underlying22 ti2 fun b11 w12 H=>?_)))))))))
 replace H:=H.boxRowI 0 [] 0
 obtain ⟨G13,N,hn14,H⟩:=H.vP 0 rfl N (H.yg [])
 replace H:=H.unfreeI 0 rfl
 have hn15:=H.isLen 0 rfl
 replace H:=H.boxRow 2 rfl 1 0 rfl qj
 replace H:=H.vN (α:=yLI)
 have H1:St w w12 [.box b8 [.slice (aa b6 0) 0 0] 27,.row (.slice (aa b6 0) 0 0) 22 1 0 [],.row yN 0 1 0 []] [isF false Fb (.slice ab b.length cb) b,isF false Fparts (.slice zg parts.length xQ) parts,isF false G13 (.slice (aa b11 0) (([]:yLI).length) 0) ([]:yLI),zk true [] [] ([]:yLL),isF false G13 (.slice (aa b11 0) 0 0) ([]:yLI),isF true G13 (.slice (aa b11 0) 0 0) ([]:yLI),isF false Fb (.slice ab b.length cb) b,isF false Fparts (.slice zg parts.length xQ) parts]:=by (try rw [← hn15]);exact H.pick [1,2,0] [3,4,1,0,1,2,3,4]
 have N1:Fresh _ [[],G13]:=N.emp
 have K1:Kept [] [isF false G13 (.slice (aa b11 0) 0 0) ([]:yLI),isF true G13 (.slice (aa b11 0) 0 0) ([]:yLI),sF false Fb ab cb b,sF false Fparts zg xQ parts]:=Kept.nil _
 replace K1:=K1.cons (F:=G13) 0 rfl rfl
 refine sw (o_callF #[.slice ab b.length cb,.slice zg parts.length xQ,.slice (aa b11 0) 0 0,pp b8 0] rfl rfl call171 (args_eq (by first | rfl | rw [hn15]) (l01Pack_ok (parts.length - ([]:yLI).length) b parts ([]:yLI) ([]:yLL) ab cb Fb zg xQ Fparts (aa b11 0) 0 G13 b8 (aa b6 0) 0 0 [] [] H1 N1 K1 (by simp only [List.length_append,List.length_cons,List.length_nil];omega) (by first | assumption | exact u4) (by first | assumption | (simp only [List.length_nil];omega) | omega))) ?_)
 clear H H1 N1 K1
 rintro _ w16 ⟨ra17,rn17,rc17,rx17,rF17,rfl,N,H⟩
 obtain rfl:=H.zo (α:=yLI) 1 rfl 3 rfl qj
 refine zjcc (oL rfl (H.cell 0 rfl rfl) (oN rfl (sp (.bool (decide (((gath ([]:yLL) (begins ([]:yLI) (packs parts (parts.length - ([]:yLI).length) ([]:yLI).length b))).length:Int) > 2000))) (zjn (cD rfl (fun h18=>?_) (fun h18=>?_))))))
 ·skip
  refine zcr (sw (vU H underlying27 ti22 fun b19 w20 H=>sps [.slice (aa b19 0) 0 0,yI 3] (zjr (t_r ?_))))
  replace H:=H.boxRow 0 rfl 1 0 rfl qj
  replace H:=H.vN (α:=yLI)
  refine ret2 (.slice (aa b19 0) 0 0) (yI 3) rfl rfl rfl ⟨_,rfl,?_,H.base⟩
  first | rw [all_a ql] | rw [all_b ql ql]
  exact ⟨(aa b19 0),0,0,[],[],rfl,(N.emp.pick [0]),H.pick [0] [0]⟩
 refine qV (t_n (zcr (oL rfl (H.cell 0 rfl rfl) (sps [.slice ra17 ((gath ([]:yLL) (begins ([]:yLI) (packs parts (parts.length - ([]:yLI).length) ([]:yLI).length b))).length) rc17,yI 0] (zjr (ret2 (.slice ra17 ((gath ([]:yLL) (begins ([]:yLI) (packs parts (parts.length - ([]:yLI).length) ([]:yLI).length b))).length) rc17) (yI 0) rfl rfl rfl ⟨_,rfl,?_,H.base⟩))))))
 rw [all_0 ql ql]
 exact ⟨ra17,(gath ([]:yLL) (begins ([]:yLI) (packs parts (parts.length - ([]:yLI).length) ([]:yLI).length b))).length,rc17,rx17,rF17,rfl,(N.pick [0]),H.pick [1] [3]⟩
theorem l03Before_ok (w:World) (a:yLI) (b:yLI) {aa:yOA} {Fa:yLN} {ab:yOA} {Fb:yLN} (ha:qP.rep w Fa [.slice aa a.length ca] a) (hb:qP.rep w Fb [.slice ab b.length cb] b) (p0:a.length=b.length):Calls Tryz.prog 102 #[.slice aa a.length ca,.slice ab b.length cb] w (Ret (fun v w' =>v=.bool (dec (ahead a b))) w):=by
 refine en func102 ntmps102 ?_
 have H:=((St.start w).arg hb).arg ha
 have nha:=qN ha
 have nhb:=qN hb
 clear ha hb
 have N:=Fresh.nil w.heap.size
 refine zcr (sp (.bool false) (zjcc (sp (yI 0) (zjn (qY ?_)))))
 refine zB (fun m' ρ w1=>∃ (xN:Env) (i:Nat),ρ=upd (upd (upd xN 0 (.slice aa a.length ca)) 1 (.slice ab b.length cb)) 5 (yI i)∧((i:Int)≤a.length)∧(SameTo a b i)∧m' =(a.length - (i:Int)).toNat∧Fresh w.heap.size []∧St w w1 [] [sF false Fa aa ca a,sF false Fb ab cb b]) ((a.length - (0:Int)).toNat) ⟨_,0,uE3,qf,(by exact fun j hj=>by omega),rfl,N,H⟩ ?_
 clear H N
 rintro m' ρ w2 ⟨xN,i,rfl,i0,i1,rfl,N,H⟩
 refine zcc (sps [yI i,.slice aa a.length ca] (oN rfl (sp (.bool (decide ((i:Int) < a.length))) (zjn (cD rfl (fun h3=>?_) (fun h3=>?_))))))
 ·skip
  refine qV (t_n (xU (qY (xU ?_))))
  refine ja rfl H fun H=>rtp 0 (.slice aa a.length ca) H ?_
  refine rtp 1 (yI i) H ?_
  obtain ⟨b5,o6,rfl⟩:=H.addr 0 rfl qf
  refine tI 2 rfl rfl rfl H ?_
  refine tL 3 rfl rfl (fun _ h=>h.yf 0 rfl i qf) H ?_
  refine rtp 4 (.slice ab b.length cb) H ?_
  refine rtp 5 (yI i) H ?_
  obtain ⟨b8,o9,rfl⟩:=H.addr 1 rfl qf
  refine tI 6 rfl rfl rfl H ?_
  refine tL 7 rfl rfl (fun _ h=>h.yf 1 rfl i qf) H ?_
  refine rtp 8 (.bool ((a[i]! :Int) != (b[i]!))) H ?_
  refine xH qh (t_n (xF ((a[i]! :Int) != (b[i]!)) rfl (fun h11=>?_) (fun h11=>?_)))
  ·skip
   replace h11:=bne_iff_ne.1 h11
   refine xU ?_
   refine ja rfl H fun H=>rtp 0 (.slice (aa b5 o6) a.length ca) H ?_
   refine rtp 1 (yI i) H ?_
   refine tI 2 rfl rfl rfl H ?_
   refine tL 3 rfl rfl (fun _ h=>h.yf 0 rfl i qf) H ?_
   refine rtp 4 (.slice (aa b8 o9) b.length cb) H ?_
   refine rtp 5 (yI i) H ?_
   refine tI 6 rfl rfl rfl H ?_
   refine tL 7 rfl rfl (fun _ h=>h.yf 1 rfl i qf) H ?_
   refine rtp 8 (.bool (decide ((a[i]! :Int) < (b[i]!)))) H ?_
   refine rtp 9 (.bool (decide ((a[i]! :Int) < (b[i]!)))) H ?_
   refine xH qh (t_n (c_ret (zr5 (ret1 (.bool (decide ((a[i]! :Int) < (b[i]!)))) rfl rfl ⟨_,rfl,?_,H.base⟩))))
   first | rw [xn (ahead_same (show SameTo a b a.length from fun j hj=>i1 j qf))] | rw [show decide (a[i]! < b[i]!)=dec (ahead a b) from dec_eq ⟨fun h=>ahead_yes i1 qf (of_decide_eq_true h),fun h=>decide_eq_true (Classical.byContradiction fun h1=>ahead_no i1 h1 ‹_› h)⟩]
  replace h11:=xA h11
  refine qV (b_n (t_n (xX (sp (yI i) (sw (zD i 1 rfl rfl qf (sp (yI (i+1)) (xY (xg (m' :=(a.length - ((i+1):Int)).toNat) qf ⟨_,i+1,uE3,?_,?_,rfl,N,H⟩)))))))))
  · omega
  · exact i1.succ qg
 refine zx4 (zcr (sp (.bool false) (zjr (ret1 (.bool false) rfl rfl ⟨_,rfl,?_,H.base⟩))))
 first | rw [xn (ahead_same (show SameTo a b a.length from fun j hj=>i1 j qf))] | rw [show decide (a[i]! < b[i]!)=dec (ahead a b) from dec_eq ⟨fun h=>ahead_yes i1 qf (of_decide_eq_true h),fun h=>decide_eq_true (Classical.byContradiction fun h1=>ahead_no i1 h1 ‹_› h)⟩]

theorem l03Count_ok (w:World) (all:List yLL) {aall:yOA} {call:Nat} {Fall:yLN} (hall:qP.rep w Fall [.slice aall all.length call] all) (p0:∀ j,j≤all.length→((QG all j:Nat):Int)≤2862423051509815793):Calls Tryz.prog 100 #[.slice aall all.length call] w (Ret (fun v w' =>v=yI ((QG all all.length:Nat):Int)) w):=by
 refine en func100 ntmps100 ?_
 have H:=(St.start w).arg hall
 have nhall:=qN hall
 clear hall
 have N:=Fresh.nil w.heap.size
 refine zcr (sp (yI 0) (zjc (sp (yI 1) (zjcc (sp (yI 0) (zjn (qY ?_)))))))
 refine zB (fun m' ρ w1=>∃ (xN:Env) (n:Int) (i:Nat),ρ=upd (upd (upd xN 0 (.slice aall all.length call)) 3 (yI n)) 4 (yI i)∧n=((QG all i:Nat):Int)∧((i:Int)≤all.length)∧m' =(all.length - (i:Int)).toNat∧Fresh w.heap.size []∧St w w1 [] [sF false Fall aall call all]) ((all.length - (0:Int)).toNat) ⟨_,1,0,uE3,(by rfl),qf,rfl,N,H⟩ ?_
 clear H N
 rintro m' ρ w2 ⟨xN,n,i,rfl,rfl,i0,rfl,N,H⟩
 have pm:=prod_mul all i
 have pb:=fun h=>p0 (i+1) h
 have pn:=Int.natCast_nonneg (QG all (i+1))
 refine zcc (sps [yI i,.slice aall all.length call] (oN rfl (sp (.bool (decide ((i:Int) < all.length))) (zjn (cD rfl (fun h3=>?_) (fun h3=>?_))))))
 ·skip
  refine qV (t_n (xU (qY (xX (sps [yI ((QG all i:Nat):Int),.slice aall all.length call,yI i] ?_)))))
  obtain ⟨b4,o5,rfl⟩:=H.addr 0 rfl qf
  obtain ⟨ae7,ce7,Fe7,H⟩:=H.vH 0 rfl i i qf qf qf
  refine oI rfl rfl (oL rfl (H.xR 1 rfl 0 rfl) (oN rfl (sw (o_mul ((QG all i:Nat):Int) ((all[i]!).length) rfl rfl qf (sp (yI (((QG all i:Nat):Int) * ((all[i]!).length))) (xY (b_n (t_n (xX (sp (yI i) (sw (zD i 1 rfl rfl qf (sp (yI (i+1)) (xY (xg (m' :=(all.length - ((i+1):Int)).toNat) qf ⟨_,((QG all i:Nat):Int) * ((all[i]!).length),i+1,uE3,?_,?_,rfl,N,H.pick [] [2]⟩)))))))))))))))
  · exact prod_mul all i
  · omega
 refine zx4 (zcr (sps [yI ((QG all i:Nat):Int),yI ((QG all i:Nat):Int)] (zjr (ret1 (yI ((QG all i:Nat):Int)) rfl rfl ⟨_,rfl,?_,H.base⟩))))
 rw [show i=all.length by omega]

theorem l03Choices_ok (w:World) (s:qL) (t:qM) {qA:yOA} {qW:yLN} {qK:yOA} {xy:yLN} {qR:yOA} {xJ:yLN} {xh:yOA} {zn:yLN} {qJ:yOA} {xw:yLN} (hs:vw w bs os (yS s qA qy qK qH)) (xf:qP.rep w qW [.slice qA s.qw.length qy] s.qw) (xG:qP.rep w xy [.slice qK s.qx.length qH] s.qx) (ht:vw w bt ot (yT t qR qO xh qZ qJ qI)) (zh:qP.rep w xJ [.slice qR t.qB.length qO] t.qB) (zJ:qP.rep w zn [.slice xh t.qE.length qZ] t.qE) (xK:qP.rep w xw [.slice qJ t.qC.length qI] t.qC) (p0:jZ s) (p1:zK s t):Calls Tryz.prog 58 #[pp bs os,pp bt ot] w (Ret (fun v w' =>∃ (ra0:yOA) (rn0:Nat) (rc0:Nat) (rx0:List Value) (rF0:yLN),v=.tuple #[.slice ra0 rn0 rc0,yI ((zX s t).2)]∧Fresh w.heap.size [rF0]∧St w w' [rr ra0 rn0 rc0 22 1 rx0] [zk true rF0 rx0 ((zX s t).1)]) w):=by
 refine en func58 ntmps58 ?_
 have H:=(((((((St.start w).arg xK).arg zJ).arg zh).XU ht).arg xG).arg xf).XU hs
 have ve:=qN xf
 have jh:=qN xG
 have yM:=qN zh
 have Qr:=qN zJ
 have jF:=qN xK
 clear hs xf xG ht zh zJ xK
 have N:=Fresh.nil w.heap.size
 have p2:=p0.2.1
 have p3:=p0.1.2.1
 have p4:=p1.1
 have p5:=p1.2.1
 refine zcr (sps [yN,yI 0] (zjc (sps [pp bs os,pp bt ot] (sw (zZ #[pp bs os,pp bt ot] rfl rfl call99 (en func99 ntmps99 ?_))))))
 refine zcr (sps [yN,yN,yI 0] (zjc (sps [pp bs os,pp bt ot] ?_)))
 have sz4:=H.base.size
 refine sw (oc (l03Applicable_ok _ s t (qF (H.get 0 rfl) 0 3) (H.get 1 rfl).1 (H.get 2 rfl).1 (qF (H.get 3 rfl) 0 3) (H.get 4 rfl).1 (H.get 5 rfl).1 (H.get 6 rfl).1 qg qg) ?_)
 rintro _ w2 ⟨ra1,rn1,rc1,rfl,M,K⟩ _
 replace H:=H.merge K M
 obtain rfl:=H.rowNB 0 rfl
 have al:=appl_len s t
 refine sp (.slice ra1 ((appl s t).length) rc1) (zjc (sw (vU H underlying113 ti118 fun b7 w8 H=>sp (.slice (aa b7 0) 0 0) (zjc (sw (vU H underlying114 ti27 fun b9 w10 H=>sp (.slice (aa b9 0) 0 0) (zjcc (sp (yI 0) (zjn (qY ?_))))))))))
 refine zB (fun m' ρ w11=>∃ (xN:Env) (c:Nat),ρ=upd (upd (upd (upd (upd (upd xN 0 (pp bs os)) 1 (pp bt ot)) 7 (.slice ra1 ((appl s t).length) rc1)) 8 (.slice (aa b7 0) 0 0)) 9 (.slice (aa b9 0) 0 0)) 10 (yI c)∧((c:Int)≤s.qw.length)∧m' =(s.qw.length - (c:Int)).toNat∧Fresh w.heap.size []∧St w w11 [.box b9 [] 27,.box b7 [] 118,rr ra1 ((appl s t).length) rc1 4 1 ((appl s t).map (Value.bool))] [atF bs os (yS s qA qy qK qH),sF false qW qA qy s.qw,sF false xy qK qH s.qx,atF bt ot (yT t qR qO xh qZ qJ qI),sF false xJ qR qO t.qB,sF false zn xh qZ t.qE,sF false xw qJ qI t.qC]) ((s.qw.length - (0:Int)).toNat) ⟨_,0,uE6,qf,rfl,N,H⟩ ?_
 clear H N
 rintro m' ρ w12 ⟨xN,c,rfl,i0,rfl,N,H⟩
 refine zcc (sps [yI c,pp bs os,pp bs os] (oF rfl (oL rfl (H.xR 0 rfl 1 rfl) (oN rfl (sp (.bool (decide ((c:Int) < s.qw.length))) (zjn (cD rfl (fun h13=>?_) (fun h13=>?_))))))))
 ·skip
  refine qV (t_n (xU (qY (zcr (sps [pp bs os,.slice ra1 ((appl s t).length) rc1,yI c] (sw (zZ #[pp bs os,.slice ra1 ((appl s t).length) rc1,yI c] rfl rfl call135 (en func135 ntmps135 ?_))))))))
  refine zcr (sps [yN,yN] (zjc (sw (vU H underlying118 ti3 fun b14 w15 H=>sp (.slice (aa b14 0) 0 0) (zjc (sw (vU H underlying27 ti22 fun b16 w17 H=>sp (.slice (aa b16 0) 0 0) (zjcc (sp (yI 0) (zjn (qY ?_)))))))))))
  replace H:=H.boxRowI 1 [] 0
  replace H:=H.boxRow 0 rfl 1 0 rfl qj
  replace H:=H.vN (α:=yLI)
  replace H:=H.unfree 0 rfl
  refine zB (fun m' ρ w18=>∃ (xN:Env) (jl:yOA) (vK:Nat) (jf:Nat) (rules:yLI) (yF:yOA) (jw:Nat) (yA:Nat) (needs:yLL) (Xj:List Value) (VG:yLN) (i:Nat),ρ=upd (upd (upd (upd (upd (upd xN 0 (pp bs os)) 1 (.slice ra1 ((appl s t).length) rc1)) 2 (yI c)) 8 (.slice jl vK jf)) 9 (.slice yF jw yA)) 10 (yI i)∧rules=(cellT s t i c)∧needs=(zi s (cellT s t i c))∧((i:Int)≤((appl s t).length))∧m' =(((appl s t).length) - (i:Int)).toNat∧Fresh w.heap.size []∧St w w18 [rr yF jw yA 22 1 Xj,rr jl vK jf 3 1 (rules.map (Value.int .i64)),.box b9 [] 27,.box b7 [] 118,rr ra1 ((appl s t).length) rc1 4 1 ((appl s t).map (Value.bool))] [zk false VG Xj needs,atF bs os (yS s qA qy qK qH),sF false qW qA qy s.qw,sF false xy qK qH s.qx,atF bt ot (yT t qR qO xh qZ qJ qI),sF false xJ qR qO t.qB,sF false zn xh qZ t.qE,sF false xw qJ qI t.qC]) ((((appl s t).length) - (0:Int)).toNat) ⟨_,(aa b14 0),0,0,([]:yLI),(aa b16 0),0,0,([]:yLL),[],[],0,uE6,(by rfl),(by rfl),qf,rfl,N,H.pick [0,1,2,3,4] [0,2,3,4,5,6,7,8]⟩ ?_
  clear H N
  rintro m' ρ w19 ⟨xN,jl,vK,jf,rules,yF,jw,yA,needs,Xj,VG,i,rfl,rfl,rfl,i0,rfl,N,H⟩
  have hn_rules:=H.Xk 1 rfl
  have hn_needs:=H.zo (α:=yLI) 0 rfl 0 rfl qj
  have tl:=cellT_le s t i c
  have nl:=XA s (cellT s t i c)
  refine zcc (sps [yI i,.slice ra1 ((appl s t).length) rc1] (oN rfl (sp (.bool (decide ((i:Int) < ((appl s t).length)))) (zjn (cD rfl (fun h20=>?_) (fun h20=>?_))))))
  ·skip
   refine qV (t_n (xU (qY (zcr (sps [.slice ra1 ((appl s t).length) rc1,yI i] ?_)))))
   obtain ⟨b21,rfl⟩:=H.yP 4 rfl qf
   refine oI rfl rfl (oL rfl (H.rowBool 4 rfl (iv:=i) (i:=i) qf qf) (sp (.bool ((appl s t)[i]!)) ?_))
   cases h22:((appl s t)[i]!)
   ·skip
    refine xZ [24,25,26,27,28,29,30,31,32,33] (sp (.bool false) (zjn (xF false rfl (fun h=>absurd h qj) (fun _=>qV (b_n (t_n (xX (sp (yI i) (sw (zD i 1 rfl rfl qf (sp (yI (i+1)) (xY (xg (m' :=(((appl s t).length) - ((i+1):Int)).toNat) qf ⟨_,jl,vK,jf,(cellT s t i c),yF,jw,yA,(zi s (cellT s t i c)),Xj,VG,i+1,uE6,?_,?_,?_,rfl,N,H⟩)))))))))))))
    · first | exact cellT_yes (QA qf ‹_›) ‹_› | exact Xb (Qa qf ‹_›) | exact QK ‹_›
    · first | exact needs_yes (QA qf ‹_›) ‹_› | exact congrArg (zi s) (Xb (Qa qf ‹_›)) | exact congrArg (zi s) (QK ‹_›)
    · omega
   refine qQ 23 rfl rfl (sp (pp bs os) (qQ 23 rfl rfl (sp (pp bs os) (qQ 23 rfl rfl (oF rfl (qQ 23 rfl rfl (oL rfl (H.xR 1 rfl 2 rfl) (qQ 23 rfl rfl (sp (yI i) (qQ 23 rfl rfl ?_))))))))))
   obtain ⟨b23,o24,rfl⟩:=H.addr 3 rfl qf
   obtain ⟨ae26Need,ce26Need,Fe26Need,ae26Have,ce26Have,Fe26Have,ae26Lack,ce26Lack,Fe26Lack,ae26Here,ce26Here,Fe26Here,ae26Out,ce26Out,Fe26Out,ae26Into,ce26Into,Fe26Into,H⟩:=H.yc 3 rfl i i qf qf qf
   refine oI rfl rfl (qQ 23 rfl rfl (oF rfl (qQ 23 rfl rfl (oL rfl (H.xR 6 rfl 0 rfl) (qQ 23 rfl rfl (sp (yI c) (qQ 23 rfl rfl (sps [.bool (((s.qx[i]!).qG:Int) == c),.bool (((s.qx[i]!).qG:Int) == c)] (zjn (cE rfl (fun h27=>?_) (fun h27=>?_)))))))))))
   ·skip
    refine zcr (sps [.slice jl vK jf,yI i] (sw (zI H underlying118 ti3 [yI i] fun b28 w29 H=>sw (zO H 2 rfl 0 rfl underlying118 ti3 rfl qj rfl rfl rfl (by simp [Value.oneCell',Value.cells]) qp qf fun a30 c31 w32 H=>?_))))
    rw [snocI] at H
    refine sp (.slice a30 (vK+1) c31) (zjn (xX (sps [.slice yF jw yA,pp bs os,pp bs os] (oF rfl (oL rfl (H.xR 8 rfl 2 rfl) (sp (yI i) (oI rfl rfl (oF rfl (oL rfl (H.xR 6 rfl 2 rfl) (sw (zI H underlying27 ti22 [.slice ae26Need (((s.qx[i]!).xE).length) ce26Need] fun b33 w34 H=>sw (zO H 2 rfl 0 rfl underlying27 ti22 rfl qj rfl rfl rfl (by simp [Value.oneCell',Value.cells]) qp qf fun a35 c36 w37 H=>?_))))))))))))
    replace H:=H.yj 7 rfl 0 rfl
    refine sp (.slice a35 (jw+1) c36) (xY (b_n (t_n (xX (sp (yI i) (sw (zD i 1 rfl rfl qf (sp (yI (i+1)) (xY (xg (m' :=(((appl s t).length) - ((i+1):Int)).toNat) qf ⟨_,a30,vK+1,c31,((cellT s t i c)++[(i:Int)]),a35,jw+1,c36,((zi s (cellT s t i c))++[(s.qx[i]!).xE]),Xj++[.slice ae26Need (((s.qx[i]!).xE).length) ce26Need],(VG++Fe26Need),i+1,uE6,?_,?_,?_,rfl,N,H.pick [2,3,4,5,6] [0,9,10,11,12,13,14,15]⟩))))))))))
    · first | exact cellT_yes (QA qf ‹_›) ‹_› | exact Xb (Qa qf ‹_›) | exact QK ‹_›
    · first | exact needs_yes (QA qf ‹_›) ‹_› | exact congrArg (zi s) (Xb (Qa qf ‹_›)) | exact congrArg (zi s) (QK ‹_›)
    · omega
   refine qV (b_n (t_n (xX (sp (yI i) (sw (zD i 1 rfl rfl qf (sp (yI (i+1)) (xY (xg (m' :=(((appl s t).length) - ((i+1):Int)).toNat) qf ⟨_,jl,vK,jf,(cellT s t i c),yF,jw,yA,(zi s (cellT s t i c)),Xj,VG,i+1,uE6,?_,?_,?_,rfl,N,H.pick [0,1,2,3,4] [7,8,9,10,11,12,13,14]⟩)))))))))
   · first | exact cellT_yes (QA qf ‹_›) ‹_› | exact Xb (Qa qf ‹_›) | exact QK ‹_›
   · first | exact needs_yes (QA qf ‹_›) ‹_› | exact congrArg (zi s) (Xb (Qa qf ‹_›)) | exact congrArg (zi s) (QK ‹_›)
   · omega
  refine zx4 (zcr (sps [.slice jl vK jf,.slice yF jw yA,.slice jl vK jf,.slice yF jw yA] (zjr (ret2 (.slice jl vK jf) (.slice yF jw yA) rfl rfl rfl ⟨_,rfl,?_⟩))))
  obtain rfl:i=s.qx.length:=by omega
  rw [show cellT s t s.qx.length c=zH s t c from rfl] at H hn_rules hn_needs
  refine sps [.tuple #[.slice jl vK jf,.slice yF jw yA],.slice jl vK jf,.slice yF jw yA,.slice jl vK jf,.slice yF jw yA] (zjc (sp (.slice jl vK jf) (oN rfl (sps [.bool (decide ((vK:Int) > 0)),.bool (decide ((vK:Int) > 0))] ?_))))
  cases h38:(decide ((vK:Int) > 0))
  ·skip
   replace h38:=of_decide_eq_false h38
   refine xZ [43,44,45,46,47,48,49,50,51] (sp (.bool false) (zjn (xF false rfl (fun h=>absurd h qj) (fun _=>qV (b_n (t_n (xX (sp (yI c) (sw (zD c 1 rfl rfl qf (sp (yI (c+1)) (xY (xg (m' :=(s.qw.length - ((c+1):Int)).toNat) qf ⟨_,c+1,uE6,?_,rfl,N,H.pick [2,3,4] [1,2,3,4,5,6,7]⟩)))))))))))))
   · omega
  replace h38:=of_decide_eq_true h38
  refine qQ 42 rfl rfl (sp (pp bt ot) (qQ 42 rfl rfl (sp (pp bt ot) (qQ 42 rfl rfl (oF rfl (qQ 42 rfl rfl (oL rfl (H.xR 4 rfl 1 rfl) (qQ 42 rfl rfl (sp (yI c) (qQ 42 rfl rfl ?_))))))))))
  obtain ⟨b39,o40,rfl⟩:=H.addr 6 rfl qf
  obtain ⟨ae42,ce42,Fe42,H⟩:=H.vH 6 rfl c c qf qf qf
  refine oI rfl rfl (qQ 42 rfl rfl (oL rfl (H.xR 1 rfl 0 rfl) (qQ 42 rfl rfl ?_)))
  have sm:=vF (p1.2.2.2.2 c qf).1
  refine sw (oq (VI _ (t.qE[c]!) (H.get 0 rfl).1 (by first | assumption | exact vF ql | exact yV ql)) H fun w43 H=>qQ 42 rfl rfl (sps [.bool (decide ((X0 (t.qE[c]!):Int) > 16)),.bool (decide ((X0 (t.qE[c]!):Int) > 16))] (zjn (cD rfl (fun h45=>?_) (fun h45=>?_)))))
  ·skip
   refine zcr (sps [.slice (aa b7 0) 0 0,.slice (aa b9 0) 0 0,.slice (aa b7 0) 0 0,.slice (aa b9 0) 0 0,yI 3] (zjr (zr5 (ret3 (.slice (aa b7 0) 0 0) (.slice (aa b9 0) 0 0) (yI 3) rfl rfl rfl rfl ⟨_,rfl,?_⟩))))
   replace H:=H.erases [4,1,0]
   dsimp only [vJ,List.eraseIdx] at H
   refine sps [.tuple #[.slice (aa b7 0) 0 0,.slice (aa b9 0) 0 0,yI 3],.slice (aa b7 0) 0 0,.slice (aa b9 0) 0 0,yI 3,.slice (aa b7 0) 0 0,.slice (aa b9 0) 0 0,yI 3] (zjcc (sps [yI 3,.bool true] (zjn (xF true rfl (fun _=>zcr (sw (vU H underlying27 ti22 fun b46 w47 H=>sps [yI 3,.slice (aa b46 0) 0 0,yI 3] (zjr (t_r ?_))))) (fun h=>absurd h qj)))))
   replace H:=H.boxRow 0 rfl 1 0 rfl qj
   replace H:=H.vN (α:=yLI)
   refine ret2 (.slice (aa b46 0) 0 0) (yI 3) rfl rfl rfl ⟨_,rfl,?_,H.base⟩
   first | rw [cho_3 (.inl (bad_sum (c:=c) qf qf qf))] | rw [cho_3 (.inr qf)]
   exact ⟨(aa b46 0),0,0,[],[],rfl,N.emp,H.pick [0] [0]⟩
  refine qV (b_n (t_n (xX (sp (yI c) (sw (zD c 1 rfl rfl qf (sp (yI (c+1)) (xY (xg (m' :=(s.qw.length - ((c+1):Int)).toNat) qf ⟨_,c+1,uE6,?_,rfl,N,H.pick [2,3,4] [3,4,5,6,7,8,9]⟩)))))))))
  · omega
 refine zx4 (zcc (sp (yI 0) (zjn (qY ?_))))
 replace H:=H.boxRow 1 rfl 1 0 rfl qj
 replace H:=H.vN (α:=yLI)
 replace H:=H.boxRow 0 rfl 1 0 rfl qj
 replace H:=H.vN (α:=yLL)
 refine zB (fun m' ρ w48=>∃ (xN:Env) (jl:yOA) (vK:Nat) (jf:Nat) (rules:yLL) (x_rules:List Value) (F_rules:yLN) (a_all:yOA) (Xl:Nat) (VM:Nat) (all:List yLL) (x_all:List Value) (F_all:yLN) (c_1:Nat),ρ=upd (upd (upd (upd (upd (upd xN 0 (pp bs os)) 1 (pp bt ot)) 7 (.slice ra1 ((appl s t).length) rc1)) 8 (.slice jl vK jf)) 9 (.slice a_all Xl VM)) 13 (yI c_1)∧rules=(xe s t c_1)∧all=(xC s t c_1)∧((c_1:Int)≤s.qw.length)∧(GoodP s t c_1)∧m' =(s.qw.length - (c_1:Int)).toNat∧Fresh w.heap.size [F_rules,F_all]∧St w w48 [rr a_all Xl VM 27 1 x_all,rr jl vK jf 118 1 x_rules,rr ra1 ((appl s t).length) rc1 4 1 ((appl s t).map (Value.bool))] [zk true F_rules x_rules rules,zk true F_all x_all all,atF bs os (yS s qA qy qK qH),sF false qW qA qy s.qw,sF false xy qK qH s.qx,atF bt ot (yT t qR qO xh qZ qJ qI),sF false xJ qR qO t.qB,sF false zn xh qZ t.qE,sF false xw qJ qI t.qC]) ((s.qw.length - (0:Int)).toNat) ⟨_,(aa b7 0),0,0,([]:yLL),[],[],(aa b9 0),0,0,([]:List yLL),[],[],0,uE6,(by rfl),(by rfl),qf,(by exact fun j hj=>by omega),rfl,N.emp.emp,H⟩ ?_
 clear H N
 rintro m' ρ w49 ⟨xN,jl,vK,jf,rules,x_rules,F_rules,a_all,Xl,VM,all,x_all,F_all,c_1,rfl,rfl,rfl,i0,gp,rfl,N,H⟩
 have hn_rules:=H.zo (α:=yLI) 1 rfl 0 rfl qj
 have hn_all:=H.zo (α:=yLL) 0 rfl 1 rfl qj
 have rl:=rules_le s t c_1
 have pl:=packsL_le s t c_1
 refine zcc (sps [yI c_1,pp bs os,pp bs os] (oF rfl (oL rfl (H.xR 2 rfl 1 rfl) (oN rfl (sp (.bool (decide ((c_1:Int) < s.qw.length))) (zjn (cD rfl (fun h50=>?_) (fun h50=>?_))))))))
 ·skip
  refine qV (t_n (xU (qY (zcr (sps [pp bs os,.slice ra1 ((appl s t).length) rc1,yI c_1] (sw (zZ #[pp bs os,.slice ra1 ((appl s t).length) rc1,yI c_1] rfl rfl call135 (en func135 ntmps135 ?_))))))))
  refine zcr (sps [yN,yN] (zjc (sw (vU H underlying118 ti3 fun b51 w52 H=>sp (.slice (aa b51 0) 0 0) (zjc (sw (vU H underlying27 ti22 fun b53 w54 H=>sp (.slice (aa b53 0) 0 0) (zjcc (sp (yI 0) (zjn (qY ?_)))))))))))
  replace H:=H.boxRowI 1 [] 0
  replace H:=H.boxRow 0 rfl 1 0 rfl qj
  replace H:=H.vN (α:=yLI)
  replace H:=H.unfree 0 rfl
  refine zB (fun m' ρ w55=>∃ (xN:Env) (Qq:yOA) (yU:Nat) (Qp:Nat) (rules_1:yLI) (yF:yOA) (jw:Nat) (yA:Nat) (needs:yLL) (Xj:List Value) (VG:yLN) (i:Nat),ρ=upd (upd (upd (upd (upd (upd xN 0 (pp bs os)) 1 (.slice ra1 ((appl s t).length) rc1)) 2 (yI c_1)) 8 (.slice Qq yU Qp)) 9 (.slice yF jw yA)) 10 (yI i)∧rules_1=(cellT s t i c_1)∧needs=(zi s (cellT s t i c_1))∧((i:Int)≤((appl s t).length))∧m' =(((appl s t).length) - (i:Int)).toNat∧Fresh w.heap.size [F_rules,F_all]∧St w w55 [rr yF jw yA 22 1 Xj,rr Qq yU Qp 3 1 (rules_1.map (Value.int .i64)),rr a_all Xl VM 27 1 x_all,rr jl vK jf 118 1 x_rules,rr ra1 ((appl s t).length) rc1 4 1 ((appl s t).map (Value.bool))] [zk false VG Xj needs,zk true F_rules x_rules (xe s t c_1),zk true F_all x_all (xC s t c_1),atF bs os (yS s qA qy qK qH),sF false qW qA qy s.qw,sF false xy qK qH s.qx,atF bt ot (yT t qR qO xh qZ qJ qI),sF false xJ qR qO t.qB,sF false zn xh qZ t.qE,sF false xw qJ qI t.qC]) ((((appl s t).length) - (0:Int)).toNat) ⟨_,(aa b51 0),0,0,([]:yLI),(aa b53 0),0,0,([]:yLL),[],[],0,uE6,(by rfl),(by rfl),qf,rfl,N,H.pick [0,1,2,3,4] [0,2,3,4,5,6,7,8,9,10]⟩ ?_
  clear H N
  rintro m' ρ w56 ⟨xN,Qq,yU,Qp,rules_1,yF,jw,yA,needs,Xj,VG,i,rfl,rfl,rfl,i0,rfl,N,H⟩
  have hn_rules:=H.Xk 1 rfl
  have hn_needs:=H.zo (α:=yLI) 0 rfl 0 rfl qj
  have tl:=cellT_le s t i c_1
  have nl:=XA s (cellT s t i c_1)
  refine zcc (sps [yI i,.slice ra1 ((appl s t).length) rc1] (oN rfl (sp (.bool (decide ((i:Int) < ((appl s t).length)))) (zjn (cD rfl (fun h57=>?_) (fun h57=>?_))))))
  ·skip
   refine qV (t_n (xU (qY (zcr (sps [.slice ra1 ((appl s t).length) rc1,yI i] ?_)))))
   obtain ⟨b58,rfl⟩:=H.yP 4 rfl qf
   refine oI rfl rfl (oL rfl (H.rowBool 4 rfl (iv:=i) (i:=i) qf qf) (sp (.bool ((appl s t)[i]!)) ?_))
   cases h59:((appl s t)[i]!)
   ·skip
    refine xZ [24,25,26,27,28,29,30,31,32,33] (sp (.bool false) (zjn (xF false rfl (fun h=>absurd h qj) (fun _=>qV (b_n (t_n (xX (sp (yI i) (sw (zD i 1 rfl rfl qf (sp (yI (i+1)) (xY (xg (m' :=(((appl s t).length) - ((i+1):Int)).toNat) qf ⟨_,Qq,yU,Qp,(cellT s t i c_1),yF,jw,yA,(zi s (cellT s t i c_1)),Xj,VG,i+1,uE6,?_,?_,?_,rfl,N,H⟩)))))))))))))
    · first | exact cellT_yes (QA qf ‹_›) ‹_› | exact Xb (Qa qf ‹_›) | exact QK ‹_›
    · first | exact needs_yes (QA qf ‹_›) ‹_› | exact congrArg (zi s) (Xb (Qa qf ‹_›)) | exact congrArg (zi s) (QK ‹_›)
    · omega
   refine qQ 23 rfl rfl (sp (pp bs os) (qQ 23 rfl rfl (sp (pp bs os) (qQ 23 rfl rfl (oF rfl (qQ 23 rfl rfl (oL rfl (H.xR 3 rfl 2 rfl) (qQ 23 rfl rfl (sp (yI i) (qQ 23 rfl rfl ?_))))))))))
   obtain ⟨b60,o61,rfl⟩:=H.addr 5 rfl qf
   obtain ⟨ae63Need,ce63Need,Fe63Need,ae63Have,ce63Have,Fe63Have,ae63Lack,ce63Lack,Fe63Lack,ae63Here,ce63Here,Fe63Here,ae63Out,ce63Out,Fe63Out,ae63Into,ce63Into,Fe63Into,H⟩:=H.yc 5 rfl i i qf qf qf
   refine oI rfl rfl (qQ 23 rfl rfl (oF rfl (qQ 23 rfl rfl (oL rfl (H.xR 6 rfl 0 rfl) (qQ 23 rfl rfl (sp (yI c_1) (qQ 23 rfl rfl (sps [.bool (((s.qx[i]!).qG:Int) == c_1),.bool (((s.qx[i]!).qG:Int) == c_1)] (zjn (cE rfl (fun h64=>?_) (fun h64=>?_)))))))))))
   ·skip
    refine zcr (sps [.slice Qq yU Qp,yI i] (sw (zI H underlying118 ti3 [yI i] fun b65 w66 H=>sw (zO H 2 rfl 0 rfl underlying118 ti3 rfl qj rfl rfl rfl (by simp [Value.oneCell',Value.cells]) qp qf fun a67 c68 w69 H=>?_))))
    rw [snocI] at H
    refine sp (.slice a67 (yU+1) c68) (zjn (xX (sps [.slice yF jw yA,pp bs os,pp bs os] (oF rfl (oL rfl (H.xR 10 rfl 2 rfl) (sp (yI i) (oI rfl rfl (oF rfl (oL rfl (H.xR 6 rfl 2 rfl) (sw (zI H underlying27 ti22 [.slice ae63Need (((s.qx[i]!).xE).length) ce63Need] fun b70 w71 H=>sw (zO H 2 rfl 0 rfl underlying27 ti22 rfl qj rfl rfl rfl (by simp [Value.oneCell',Value.cells]) qp qf fun a72 c73 w74 H=>?_))))))))))))
    replace H:=H.yj 7 rfl 0 rfl
    refine sp (.slice a72 (jw+1) c73) (xY (b_n (t_n (xX (sp (yI i) (sw (zD i 1 rfl rfl qf (sp (yI (i+1)) (xY (xg (m' :=(((appl s t).length) - ((i+1):Int)).toNat) qf ⟨_,a67,yU+1,c68,((cellT s t i c_1)++[(i:Int)]),a72,jw+1,c73,((zi s (cellT s t i c_1))++[(s.qx[i]!).xE]),Xj++[.slice ae63Need (((s.qx[i]!).xE).length) ce63Need],(VG++Fe63Need),i+1,uE6,?_,?_,?_,rfl,N,H.pick [2,3,4,5,6] [0,9,10,11,12,13,14,15,16,17]⟩))))))))))
    · first | exact cellT_yes (QA qf ‹_›) ‹_› | exact Xb (Qa qf ‹_›) | exact QK ‹_›
    · first | exact needs_yes (QA qf ‹_›) ‹_› | exact congrArg (zi s) (Xb (Qa qf ‹_›)) | exact congrArg (zi s) (QK ‹_›)
    · omega
   refine qV (b_n (t_n (xX (sp (yI i) (sw (zD i 1 rfl rfl qf (sp (yI (i+1)) (xY (xg (m' :=(((appl s t).length) - ((i+1):Int)).toNat) qf ⟨_,Qq,yU,Qp,(cellT s t i c_1),yF,jw,yA,(zi s (cellT s t i c_1)),Xj,VG,i+1,uE6,?_,?_,?_,rfl,N,H.pick [0,1,2,3,4] [7,8,9,10,11,12,13,14,15,16]⟩)))))))))
   · first | exact cellT_yes (QA qf ‹_›) ‹_› | exact Xb (Qa qf ‹_›) | exact QK ‹_›
   · first | exact needs_yes (QA qf ‹_›) ‹_› | exact congrArg (zi s) (Xb (Qa qf ‹_›)) | exact congrArg (zi s) (QK ‹_›)
   · omega
  refine zx4 (zcr (sps [.slice Qq yU Qp,.slice yF jw yA,.slice Qq yU Qp,.slice yF jw yA] (zjr (ret2 (.slice Qq yU Qp) (.slice yF jw yA) rfl rfl rfl ⟨_,rfl,?_⟩))))
  obtain rfl:i=s.qx.length:=by omega
  rw [show cellT s t s.qx.length c_1=zH s t c_1 from rfl] at H hn_rules hn_needs
  refine sps [.tuple #[.slice Qq yU Qp,.slice yF jw yA],.slice Qq yU Qp,.slice yF jw yA,.slice Qq yU Qp,.slice yF jw yA] (zjcc (sp (.slice Qq yU Qp) (oN rfl (sp (.bool ((yU:Int) == 0)) (zjn (cE rfl (fun h75=>?_) (fun h75=>?_)))))))
  ·skip
   refine c_exit (t_x (b_x (t_n (xX (sp (yI c_1) (sw (zD c_1 1 rfl rfl qf (sp (yI (c_1+1)) (xY (xg (m' :=(s.qw.length - ((c_1+1):Int)).toNat) qf ⟨_,jl,vK,jf,(xe s t c_1),x_rules,F_rules,a_all,Xl,VM,(xC s t c_1),x_all,F_all,c_1+1,uE6,?_,?_,?_,?_,rfl,N,H.pick [2,3,4] [1,2,3,4,5,6,7,8,9]⟩))))))))))
   · first | exact rules_yes qf | exact rules_no qf
   · first | exact packsL_yes qf | exact packsL_no qf
   · omega
   · exact gp.succ (by first | exact .inl qf | exact .inr (show (zW _ _).2=0 from ‹_›))
  refine qV (t_n (zcr (sps [pp bt ot,pp bt ot] (oF rfl (oL rfl (H.xR 6 rfl 1 rfl) (sp (yI c_1) ?_))))))
  obtain ⟨b76,o77,rfl⟩:=H.addr 8 rfl qf
  obtain ⟨ae79,ce79,Fe79,H⟩:=H.vH 8 rfl c_1 c_1 qf qf qf
  refine oI rfl rfl (oL rfl (H.xR 1 rfl 0 rfl) (sp (.slice yF jw yA) ?_))
  obtain ⟨G80,hn81,h82⟩:=H.rowIsR (α:=yLI) 0 rfl 2 rfl qj
  have cp:=cell_pack p0 p1 (c:=c_1) qf
  have sz86:=H.base.size
  have lt87:=H.ltN (L:=[F_rules,F_all]) [3,4]
  refine sw (oc (args_eq (by rw [← hn81]) (l01All_ok _ (t.qE[c_1]!) (zi s (zH s t c_1)) (H.get 0 rfl).1 (hn81▸h82) qg)) ?_)
  rintro _ w84 ⟨ra83a,rn83a,rc83a,rx83a,rF83a,rfl,M,K⟩ _
  replace N:=N.merge sz86 lt87 M
  replace H:=H.merge K M
  obtain rfl:=H.zo (α:=yLI) 0 rfl 0 rfl qj
  refine sps [.tuple #[.slice ra83a (((zW (t.qE[c_1]!) (zi s (zH s t c_1))).1).length) rc83a,yI ((zW (t.qE[c_1]!) (zi s (zH s t c_1))).2)],.slice ra83a (((zW (t.qE[c_1]!) (zi s (zH s t c_1))).1).length) rc83a,yI ((zW (t.qE[c_1]!) (zi s (zH s t c_1))).2),.slice ra83a (((zW (t.qE[c_1]!) (zi s (zH s t c_1))).1).length) rc83a,yI ((zW (t.qE[c_1]!) (zi s (zH s t c_1))).2)] (zjcc (sps [yI ((zW (t.qE[c_1]!) (zi s (zH s t c_1))).2),.bool (((zW (t.qE[c_1]!) (zi s (zH s t c_1))).2:Int) != 0)] (zjn ?_)))
  refine xF (((zW (t.qE[c_1]!) (zi s (zH s t c_1))).2:Int) != 0) rfl (fun h89=>?_) (fun h89=>?_)
  ·skip
   replace h89:=bne_iff_ne.1 h89
   refine zcr (sps [.slice jl vK jf,.slice a_all Xl VM,yI ((zW (t.qE[c_1]!) (zi s (zH s t c_1))).2),.slice jl vK jf,.slice a_all Xl VM,yI ((zW (t.qE[c_1]!) (zi s (zH s t c_1))).2)] (zjr (t_r (zr5 (ret3 (.slice jl vK jf) (.slice a_all Xl VM) (yI ((zW (t.qE[c_1]!) (zi s (zH s t c_1))).2)) rfl rfl rfl rfl ⟨_,rfl,?_⟩)))))
   replace H:=H.erases [5,2,1,0]
   dsimp only [vJ,List.eraseIdx] at H
   refine sps [.tuple #[.slice jl vK jf,.slice a_all Xl VM,yI ((zW (t.qE[c_1]!) (zi s (zH s t c_1))).2)],.slice jl vK jf,.slice a_all Xl VM,yI ((zW (t.qE[c_1]!) (zi s (zH s t c_1))).2),.slice jl vK jf,.slice a_all Xl VM,yI ((zW (t.qE[c_1]!) (zi s (zH s t c_1))).2)] (zjcc (sps [yI ((zW (t.qE[c_1]!) (zi s (zH s t c_1))).2),.bool (((zW (t.qE[c_1]!) (zi s (zH s t c_1))).2:Int) != 0)] (zjn ?_)))
   refine xF (((zW (t.qE[c_1]!) (zi s (zH s t c_1))).2:Int) != 0) rfl (fun h90=>?_) (fun h=>absurd (xA h) h89)
   replace h90:=bne_iff_ne.1 h90
   refine zcr (sw (vU H underlying27 ti22 fun b91 w92 H=>sps [yI ((zW (t.qE[c_1]!) (zi s (zH s t c_1))).2),.slice (aa b91 0) 0 0,yI ((zW (t.qE[c_1]!) (zi s (zH s t c_1))).2)] (zjr (t_r ?_))))
   replace H:=H.boxRow 0 rfl 1 0 rfl qj
   replace H:=H.vN (α:=yLI)
   refine ret2 (.slice (aa b91 0) 0 0) (yI ((zW (t.qE[c_1]!) (zi s (zH s t c_1))).2)) rfl rfl rfl ⟨_,rfl,?_,H.base⟩
   rw [cho_code (bad_code (c:=c_1) qf qf ‹_›) ‹_›]
   exact ⟨(aa b91 0),0,0,[],[],rfl,(N.emp.pick [0]),H.pick [0] [0]⟩
  replace h89:=xA h89
  refine qV (t_n (zcr (sps [.slice jl vK jf,.slice Qq yU Qp] (sw (zI H underlying113 ti118 [.slice Qq yU Qp] fun b93 w94 H=>?_)))))
  obtain ⟨G98,N,hn99,H⟩:=H.vP 3 rfl N (H.yg [0,4,5])
  refine sw (zO H 5 rfl 0 rfl underlying113 ti118 rfl qj rfl rfl rfl (by simp [Value.oneCell',Value.cells]) qp qf fun a95 c96 w97 H=>?_)
  replace H:=H.yj 5 rfl 0 rfl
  replace N:Fresh w.heap.size [(F_rules++G98),rF83a,F_all]:=(N.pick [2,0,1,3]).join
  refine sp (.slice a95 (vK+1) c96) (zjn (xX (sps [.slice a_all Xl VM,.slice ra83a (((zW (t.qE[c_1]!) (zi s (zH s t c_1))).1).length) rc83a] (sw (zI H underlying114 ti27 [.slice ra83a (((zW (t.qE[c_1]!) (zi s (zH s t c_1))).1).length) rc83a] fun b100 w101 H=>?_)))))
  have H0:=H
  obtain ⟨G105,hg107,hn106,H⟩:=H.Qz (α:=yLI) 2 rfl 2 rfl qj
  replace N:Fresh w.heap.size [G105,(F_rules++G98),F_all]:=Fresh.ice (N.pick [1,0,2]) H0 2 hg107.1 hg107.2 (H0.yg [0,7])
  clear H0
  refine sw (zO H 5 rfl 0 rfl underlying114 ti27 rfl qj rfl rfl rfl (by simp [Value.oneCell',Value.cells]) qp qf fun a102 c103 w104 H=>?_)
  replace H:=H.yj 8 rfl 0 rfl
  replace N:Fresh w.heap.size [(F_all++G105),(F_rules++G98)]:=(N.pick [2,0,1]).join
  refine sp (.slice a102 (Xl+1) c103) (xY (b_n (t_n (xX (sp (yI c_1) (sw (zD c_1 1 rfl rfl qf (sp (yI (c_1+1)) (xY ?_)))))))))
  refine xg (m' :=(s.qw.length - ((c_1+1):Int)).toNat) qf ⟨_,a95,vK+1,c96,((xe s t c_1)++[(zH s t c_1)]),x_rules++[.slice Qq yU Qp],(F_rules++G98),a102,Xl+1,c103,((xC s t c_1)++[(zW (t.qE[c_1]!) (zi s (zH s t c_1))).1]),x_all++[.slice ra83a (((zW (t.qE[c_1]!) (zi s (zH s t c_1))).1).length) rc83a],(F_all++G105),c_1+1,uE6,?_,?_,?_,?_,rfl,(N.pick [1,0]),H.pick [5,6,7] [2,0,10,11,12,13,14,15,16]⟩
  · first | exact rules_yes qf | exact rules_no qf
  · first | exact packsL_yes qf | exact packsL_no qf
  · omega
  · exact gp.succ (by first | exact .inl qf | exact .inr (show (zW _ _).2=0 from ‹_›))
 refine zx4 (zcr (sps [.slice jl vK jf,.slice a_all Xl VM,.slice jl vK jf,.slice a_all Xl VM,yI 0] (zjr (ret3 (.slice jl vK jf) (.slice a_all Xl VM) (yI 0) rfl rfl rfl rfl ⟨_,rfl,?_⟩))))
 replace H:=H.erases [2]
 dsimp only [vJ,List.eraseIdx] at H
 obtain rfl:c_1=s.qw.length:=by omega
 have kb:=prod_bd p0 p1 (k:=s.qw.length) qf gp
 have kn:=packsL_ne p0 p1 (k:=s.qw.length) qf gp
 have kr:=rules_le s t s.qw.length
 have kl:=packsL_le s t s.qw.length
 refine sps [.tuple #[.slice jl vK jf,.slice a_all Xl VM,yI 0],.slice jl vK jf,.slice a_all Xl VM,yI 0,.slice jl vK jf,.slice a_all Xl VM,yI 0] (zjcc (sps [yI 0,.bool false] (zjn (xF false rfl (fun h=>absurd h qj) (fun _=>qV (t_n (zcc (sp (.slice a_all Xl VM) ?_))))))))
 obtain ⟨G108,hn109,h110⟩:=H.rowIsR (α:=yLL) 0 rfl 1 rfl qj
 refine sw (oq (args_eq (by rw [← hn109]) (l03Count_ok _ (xC s t s.qw.length) (hn109▸h110) qg)) H fun w112 H=>sp (.bool (decide ((((QG (xC s t s.qw.length) (xC s t s.qw.length).length:Nat):Int):Int) > 300))) (zjn (cD rfl (fun h114=>?_) (fun h114=>?_))))
 ·skip
  refine zcr (sw (vU H underlying27 ti22 fun b115 w116 H=>sps [.slice (aa b115 0) 0 0,yI 3] (zjr (t_r ?_))))
  replace H:=H.boxRow 0 rfl 1 0 rfl qj
  replace H:=H.vN (α:=yLI)
  refine ret2 (.slice (aa b115 0) 0 0) (yI 3) rfl rfl rfl ⟨_,rfl,?_,H.base⟩
  first | rw [cho_3 (.inl (bad_sum (c:=c) qf qf qf))] | rw [cho_3 (.inr qf)]
  exact ⟨(aa b115 0),0,0,[],[],rfl,(N.emp.pick [0]),H.pick [0] [0]⟩
 have kc:¬ QG (xC s t s.qw.length) (xC s t s.qw.length).length > 300:=by omega
 refine qV (t_n (zcr (sps [pp bs os,pp bs os] (oF rfl (oL rfl (H.xR 2 rfl 2 rfl) (oN rfl (sw (jr H underlying22 ti2 s.qx.length rfl rfl qf qf qf fun b117 w118 H=>sw (zI H underlying27 ti22 [.slice (aa b117 0) s.qx.length s.qx.length] fun b119 w120 H=>sp (.slice (aa b119 0) 1 1) (zjcc (sp (yI 0) (zjn (qY ?_)))))))))))))
 have H0:=H
 obtain ⟨G121,hg123,hn122,H⟩:=H.Qz (α:=yLI) 3 rfl 0 rfl qj
 replace N:Fresh w.heap.size [G121,F_all]:=Fresh.ice N H0 3 hg123.1 hg123.2 (H0.yg [1])
 clear H0
 have H0:=H
 obtain ⟨G124,hg126,hn125,H⟩:=H.Qz (α:=yLL) 2 rfl 2 rfl qj
 replace N:Fresh w.heap.size [G124,G121]:=Fresh.ice (N.pick [1,0]) H0 2 hg126.1 hg126.2 (H0.yg [0])
 clear H0
 replace H:=H.boxRow 0 rfl 1 1 rfl qj
 replace H:=H.vN (α:=yLI)
 obtain ⟨G127,N,hn128,H⟩:=H.vP 1 rfl N (H.yg [1,2])
 replace H:=H.Vt true 0 rfl 1 rfl qm
 replace N:Fresh w.heap.size [(G127++[]),G124,G121]:=(N.emp.pick [1,0,2,3]).join
 refine zB (fun m' ρ w129=>∃ (xN:Env) (vk:yOA) (zq:Nat) (zT:Nat) (out:yLL) (Ql:List Value) (yG:yLN) (i:Nat),ρ=upd (upd (upd (upd xN 6 (.slice jl vK jf)) 7 (.slice a_all Xl VM)) 9 (.slice vk zq zT)) 10 (yI i)∧out=(jd s.qx.length (xe s t s.qw.length) (xC s t s.qw.length) i)∧((i:Int)≤Xl)∧m' =(Xl - (i:Int)).toNat∧Fresh w.heap.size [G124,G121,yG]∧St w w129 [rr vk zq zT 22 1 Ql] [zk true yG Ql out,isF true G124 (.slice a_all Xl VM) (xC s t s.qw.length),isF true G121 (.slice jl vK jf) (xe s t s.qw.length)]) ((Xl - (0:Int)).toNat) ⟨_,(aa b119 0),1,1,[(List.replicate s.qx.length (0:Int))],[.slice (aa b117 0) s.qx.length s.qx.length],(G127++[]),0,uE4,(by rfl),qf,rfl,(N.pick [1,2,0]),H.pick [0] [0,3,4]⟩ ?_
 clear H N
 rintro m' ρ w130 ⟨xN,vk,zq,zT,out,Ql,yG,i,rfl,rfl,i0,rfl,N,H⟩
 have hn_out:=H.zo (α:=yLI) 0 rfl 0 rfl qj
 refine zcc (sps [yI i,.slice a_all Xl VM] (oN rfl (sp (.bool (decide ((i:Int) < Xl))) (zjn (cD rfl (fun h131=>?_) (fun h131=>?_))))))
 ·skip
  have ga:=G_le (n:=s.qx.length) (rs:=(xe s t s.qw.length)) (i:=i) kn kc qf
  obtain ⟨gb,gc⟩:=cell_few (s:=s) (t:=t) (n:=s.qw.length) (i:=i) p0 qf
  refine qV (t_n (xU (qY (zcr (sw (vU H underlying27 ti22 fun b132 w133 H=>sp (.slice (aa b132 0) 0 0) (zjcc (sp (yI 0) (zjn (qY ?_))))))))))
  replace H:=H.boxRow 0 rfl 1 0 rfl qj
  replace H:=H.vN (α:=yLI)
  refine zB (fun m' ρ w134=>∃ (xN:Env) (a_next:yOA) (n_next:Nat) (c_next:Nat) (next:yLL) (x_next:List Value) (F_next:yLN) (k:Nat),ρ=upd (upd (upd (upd (upd (upd xN 6 (.slice jl vK jf)) 7 (.slice a_all Xl VM)) 9 (.slice vk zq zT)) 10 (yI i)) 11 (.slice a_next n_next c_next)) 12 (yI k)∧next=(nextK (jd s.qx.length (xe s t s.qw.length) (xC s t s.qw.length) i) ((xe s t s.qw.length)[i]!) ((xC s t s.qw.length)[i]!) k)∧((k:Int)≤zq)∧m' =(zq - (k:Int)).toNat∧Fresh w.heap.size [G124,G121,yG,F_next]∧St w w134 [rr a_next n_next c_next 22 1 x_next,rr vk zq zT 22 1 Ql] [zk true F_next x_next next,zk true yG Ql (jd s.qx.length (xe s t s.qw.length) (xC s t s.qw.length) i),isF true G124 (.slice a_all Xl VM) (xC s t s.qw.length),isF true G121 (.slice jl vK jf) (xe s t s.qw.length)]) ((zq - (0:Int)).toNat) ⟨_,(aa b132 0),0,0,([]:yLL),[],[],0,uE6,(by rfl),qf,rfl,(N.emp.pick [1,2,3,0]),H⟩ ?_
  clear H N
  rintro m' ρ w135 ⟨xN,a_next,n_next,c_next,next,x_next,F_next,k,rfl,rfl,i0,rfl,N,H⟩
  have hn_next:=H.zo (α:=yLI) 0 rfl 0 rfl qj
  refine zcc (sps [yI k,.slice vk zq zT] (oN rfl (sp (.bool (decide ((k:Int) < zq))) (zjn (cD rfl (fun h136=>?_) (fun h136=>?_))))))
  ·skip
   refine qV (t_n (xU (qY (zcr (sp (yI 0) (zjn (qY ?_)))))))
   refine zB (fun m' ρ w137=>∃ (xN:Env) (QS:yOA) (Qd:Nat) (QR:Nat) (next_1:yLL) (Q3:List Value) (Qw:yLN) (x:Nat),ρ=upd (upd (upd (upd (upd (upd (upd xN 6 (.slice jl vK jf)) 7 (.slice a_all Xl VM)) 9 (.slice vk zq zT)) 10 (yI i)) 11 (.slice QS Qd QR)) 12 (yI k)) 13 (yI x)∧next_1=(nextX (jd s.qx.length (xe s t s.qw.length) (xC s t s.qw.length) i) ((xe s t s.qw.length)[i]!) ((xC s t s.qw.length)[i]!) k x)∧((x:Int)≤(((xC s t s.qw.length)[i]!).length))∧m' =((((xC s t s.qw.length)[i]!).length) - (x:Int)).toNat∧Fresh w.heap.size [G124,G121,yG,Qw]∧St w w137 [rr QS Qd QR 22 1 Q3,rr vk zq zT 22 1 Ql] [zk true Qw Q3 next_1,zk true yG Ql (jd s.qx.length (xe s t s.qw.length) (xC s t s.qw.length) i),isF true G124 (.slice a_all Xl VM) (xC s t s.qw.length),isF true G121 (.slice jl vK jf) (xe s t s.qw.length)]) (((((xC s t s.qw.length)[i]!).length) - (0:Int)).toNat) ⟨_,a_next,n_next,c_next,(nextK (jd s.qx.length (xe s t s.qw.length) (xC s t s.qw.length) i) ((xe s t s.qw.length)[i]!) ((xC s t s.qw.length)[i]!) k),x_next,F_next,0,uE7,(by exact nextX_zero _ _ _ _),qf,rfl,N,H⟩ ?_
   clear H N
   rintro m' ρ w138 ⟨xN,QS,Qd,QR,next_1,Q3,Qw,x,rfl,rfl,i0,rfl,N,H⟩
   have hn_next:=H.zo (α:=yLI) 0 rfl 0 rfl qj
   refine zcc (sps [yI x,.slice a_all Xl VM,yI i] ?_)
   have hl141:=H.isLen 2 rfl
   obtain ⟨b139,o140,rfl⟩:=H.addr 2 rfl qf
   obtain ⟨ae142,ce142,Fe142,H⟩:=H.vH 2 rfl i i qf qf qf
   refine oI rfl rfl (oL rfl (H.xR 1 rfl 0 rfl) (oN rfl (sp (.bool (decide ((x:Int) < (((xC s t s.qw.length)[i]!).length)))) (zjn (cD rfl (fun h143=>?_) (fun h143=>?_))))))
   ·skip
    have nx:=next_le (n:=s.qx.length) (rs:=(xe s t s.qw.length)) (i:=i) (k:=k) (x:=x) kn kc qf qf qf
    have g1:=prodG_at (n:=s.qx.length) (rs:=(xe s t s.qw.length)) (all:=(xC s t s.qw.length)) (i:=i) (k:=k) qf
    have g2:=pack_at (s:=s) (t:=t) (n:=s.qw.length) (i:=i) (x:=x) qf qf
    refine qV (t_n (xU (qY (zcr (sps [.slice vk zq zT,yI k] ?_)))))
    obtain ⟨b144,rfl⟩:=H.yP 1 rfl qf
    refine oI rfl rfl ?_
    obtain ⟨a145,c146,G147,s148,h149,hx150,hy151,H⟩:=H.rowElemX 1 rfl 3 rfl (iv:=k) k qf qf
    refine oL rfl (H.rowGet 1 rfl hx150) ?_
    have sz152:=H.base.size
    have lt153:=H.ltN (L:=[G124,G121,yG,Qw]) [5,6,4,3]
    refine sw (oc (Xg _ ((jd s.qx.length (xe s t s.qw.length) (xC s t s.qw.length) i)[k]!) (H.get 0 rfl).1 qg) ?_)
    rintro v157 w155 r157 x156
    replace H:=H.zC x156 r157
    obtain ⟨a158,c159,rfl,hc160,hm161⟩:=H.ji 0 rfl
    refine sp (.slice a158 (((jd s.qx.length (xe s t s.qw.length) (xC s t s.qw.length) i)[k]!).length) c159) (zjcc (sp (yI 0) (zjn (qY ?_))))
    refine zB (fun m' ρ w162=>∃ (xN:Env) (r:Nat) (own:yLI),ρ=upd (upd (upd (upd (upd (upd (upd (upd (upd xN 6 (.slice jl vK jf)) 7 (.slice (aa b139 o140) Xl VM)) 9 (.slice (aa b144 0) zq zT)) 10 (yI i)) 11 (.slice QS Qd QR)) 12 (yI k)) 13 (yI x)) 14 (.slice a158 (((jd s.qx.length (xe s t s.qw.length) (xC s t s.qw.length) i)[k]!).length) c159)) 15 (yI r)∧own=(setTo ((jd s.qx.length (xe s t s.qw.length) (xC s t s.qw.length) i)[k]!) ((xe s t s.qw.length)[i]!) (((xC s t s.qw.length)[i]!)[x]!) r)∧((r:Int)≤(((xe s t s.qw.length)[i]!).length))∧m' =((((xe s t s.qw.length)[i]!).length) - (r:Int)).toNat∧Fresh w.heap.size [G124,G121,yG,Qw]∧St w w162 [rr a158 (((jd s.qx.length (xe s t s.qw.length) (xC s t s.qw.length) i)[k]!).length) c159 2 1 (own.map (Value.int .i64)),rr QS Qd QR 22 1 Q3,rr (aa b144 0) zq zT 22 1 Ql] [sF true Fe142 ae142 ce142 ((xC s t s.qw.length)[i]!),atF b139 (o140+(i:Int).toNat * 1) [.slice ae142 (((xC s t s.qw.length)[i]!).length) ce142],zk true Qw Q3 (nextX (jd s.qx.length (xe s t s.qw.length) (xC s t s.qw.length) i) ((xe s t s.qw.length)[i]!) ((xC s t s.qw.length)[i]!) k x),zk true yG Ql (jd s.qx.length (xe s t s.qw.length) (xC s t s.qw.length) i),isF true G124 (.slice (aa b139 o140) Xl VM) (xC s t s.qw.length),isF true G121 (.slice jl vK jf) (xe s t s.qw.length)]) (((((xe s t s.qw.length)[i]!).length) - (0:Int)).toNat) ⟨_,0,((jd s.qx.length (xe s t s.qw.length) (xC s t s.qw.length) i)[k]!),uE9,(by rfl),qf,rfl,N,H.pick [0,1,2] [1,2,3,4,5,6]⟩ ?_
    clear H N
    rintro m' ρ w163 ⟨xN,r,own,rfl,rfl,i0,rfl,N,H⟩
    have hn_own:=H.Xk 0 rfl
    have sl:=setTo_len ((jd s.qx.length (xe s t s.qw.length) (xC s t s.qw.length) i)[k]!) ((xe s t s.qw.length)[i]!) (((xC s t s.qw.length)[i]!)[x]!) r
    refine zcc (sps [yI r,.slice jl vK jf,yI i] ?_)
    have hl166:=H.isLen 5 rfl
    obtain ⟨b164,o165,rfl⟩:=H.addr 5 rfl qf
    obtain ⟨ae167,ce167,Fe167,H⟩:=H.vH 5 rfl i i qf qf qf
    refine oI rfl rfl (oL rfl (H.xR 1 rfl 0 rfl) (oN rfl (sp (.bool (decide ((r:Int) < (((xe s t s.qw.length)[i]!).length)))) (zjn (cD rfl (fun h168=>?_) (fun h168=>?_))))))
    ·skip
     obtain ⟨g3,g4⟩:=choice_at (s:=s) (t:=t) (n:=s.qw.length) (i:=i) (r:=r) qf qf
     refine qV (t_n (xU (qY ?_)))
     refine yY rfl H [1,2] fun H=>?_
     have S:=H.jY [1,2] [0,1,2,3,4,5,6,7]
     refine rtp 0 (.slice a158 (((jd s.qx.length (xe s t s.qw.length) (xC s t s.qw.length) i)[k]!).length) c159) S ?_
     refine rtp 1 (.slice (aa b164 o165) vK jf) S ?_
     refine rtp 2 (yI i) S ?_
     refine tI 3 rfl rfl rfl S ?_
     refine tL 4 rfl rfl (fun _ h=>h.xR 1 rfl 0 rfl) S ?_
     refine rtp 5 (yI r) S ?_
     obtain ⟨b170,o171,rfl⟩:=H.addr 0 rfl qf
     have S:=H.jY [1,2] [0,1,2,3,4,5,6,7]
     refine tI 6 rfl rfl rfl S ?_
     refine tL 7 rfl rfl (fun _ h=>h.yf 0 rfl r qf) S ?_
     refine rtp 8 (.slice (aa b139 o140) Xl VM) S ?_
     refine rtp 9 (yI i) S ?_
     refine tI 10 rfl rfl rfl S ?_
     refine tL 11 rfl rfl (fun _ h=>h.xR 3 rfl 0 rfl) S ?_
     refine rtp 12 (yI x) S ?_
     obtain ⟨b173,o174,rfl⟩:=H.addr 2 rfl qf
     obtain ⟨ae176,ce176,Fe176,H⟩:=H.vH 2 rfl x x qf qf qf
     have S:=H.jY [1,2] [2,3,4,5,6,7,8,9]
     refine tI 13 rfl rfl rfl S ?_
     refine rtp 15 (yI r) S ?_
     refine ro 14 rfl (zF (.slice ae176 ((((xC s t s.qw.length)[i]!)[x]!).length) ce176) isAgg22 rfl (H.xR 1 rfl 0 rfl) (⟨H.pick [1,2] [2,3,4,5,6,7,8,9],?_⟩))
     obtain ⟨b177,o178,rfl⟩:=H.addr 0 rfl qf
     refine tI 16 rfl rfl rfl (H.pick [1,2] [2,3,4,5,6,7,8,9]) ?_
     refine ro 17 rfl (zF (yI ((((xC s t s.qw.length)[i]!)[x]!)[r]!)) isAgg2 rfl (H.jy 0 rfl r qf qf) (⟨H.pick [1,2] [2,3,4,5,6,7,8,9],?_⟩))
     obtain ⟨b180,rfl⟩:=H.yP 0 rfl qf
     refine tI 18 rfl rfl rfl (H.pick [1,2] [2,3,4,5,6,7,8,9]) ?_
     refine ro 19 rfl (QW H 0 rfl ((((xC s t s.qw.length)[i]!)[x]!)[r]!) sizeOf2 rfl rfl (i:=((((xe s t s.qw.length)[i]!)[r]!).toNat)) qf qf fun w181 H=>⟨H.pick [1,2] [2,3,4,5,6,7,8,9],(xH qh (b_n (t_n (xX (sp (yI r) (sw (zD r 1 rfl rfl qf (sp (yI (r+1)) (xY ?_)))))))))⟩)
     refine xg (m' :=((((xe s t s.qw.length)[i]!).length) - ((r+1):Int)).toNat) qf ⟨_,r+1,((setTo ((jd s.qx.length (xe s t s.qw.length) (xC s t s.qw.length) i)[k]!) ((xe s t s.qw.length)[i]!) (((xC s t s.qw.length)[i]!)[x]!) r).set ((((xe s t s.qw.length)[i]!)[r]!).toNat) ((((xC s t s.qw.length)[i]!)[x]!)[r]!)),uE9,?_,?_,rfl,N,H.pick [0,1,2] [4,5,6,7,8,9]⟩
     · rfl
     · omega
    refine zx4 (xX (sps [.slice QS Qd QR,.slice a158 (((jd s.qx.length (xe s t s.qw.length) (xC s t s.qw.length) i)[k]!).length) c159] (sw (zI H underlying27 ti22 [.slice a158 (((jd s.qx.length (xe s t s.qw.length) (xC s t s.qw.length) i)[k]!).length) c159] fun b182 w183 H=>?_))))
    obtain ⟨G187,N,hn188,H⟩:=H.vP 1 rfl N (H.yg [6,7,5,4])
    refine sw (zO H 2 rfl 0 rfl underlying27 ti22 rfl qj rfl rfl rfl (by simp [Value.oneCell',Value.cells]) qp qf fun a184 c185 w186 H=>?_)
    replace H:=H.yj 5 rfl 0 rfl
    replace N:Fresh w.heap.size [(Qw++G187),G124,G121,yG]:=(N.pick [4,0,1,2,3]).join
    refine sp (.slice a184 (Qd+1) c185) (xY (b_n (t_n (xX (sp (yI x) (sw (zD x 1 rfl rfl qf (sp (yI (x+1)) (xY ?_)))))))))
    refine xg (m' :=((((xC s t s.qw.length)[i]!).length) - ((x+1):Int)).toNat) qf ⟨_,a184,Qd+1,c185,((nextX (jd s.qx.length (xe s t s.qw.length) (xC s t s.qw.length) i) ((xe s t s.qw.length)[i]!) ((xC s t s.qw.length)[i]!) k x)++[(setTo ((jd s.qx.length (xe s t s.qw.length) (xC s t s.qw.length) i)[k]!) ((xe s t s.qw.length)[i]!) (((xC s t s.qw.length)[i]!)[x]!) r)]),Q3++[.slice a158 (((jd s.qx.length (xe s t s.qw.length) (xC s t s.qw.length) i)[k]!).length) c159],(Qw++G187),x+1,uE7,?_,?_,rfl,(N.pick [1,2,3,0]),H.pick [2,3] [0,7,8,9]⟩
    · exact nextX_succ qf (by rw [show r=((xe s t s.qw.length)[i]!).length by omega];rfl)
    · omega
   refine c_exit (t_x (t_x (b_x (b_n (t_n (xX (sp (yI k) (sw (zD k 1 rfl rfl qf (sp (yI (k+1)) (xY (xg (m' :=(zq - ((k+1):Int)).toNat) qf ⟨_,QS,Qd,QR,(nextX (jd s.qx.length (xe s t s.qw.length) (xC s t s.qw.length) i) ((xe s t s.qw.length)[i]!) ((xC s t s.qw.length)[i]!) k x),Q3,Qw,k+1,uE6,?_,?_,rfl,N,H.pick [0,1] [2,3,4,5]⟩))))))))))))
   · exact nextX_end qf qf
   · omega
  refine zx4 (xX (sps [.slice a_next n_next c_next,.slice a_next n_next c_next] (xY (b_n (t_n (xX (sp (yI i) (sw (zD i 1 rfl rfl qf (sp (yI (i+1)) (xY (xg (m' :=(Xl - ((i+1):Int)).toNat) qf ⟨_,a_next,n_next,c_next,(nextK (jd s.qx.length (xe s t s.qw.length) (xC s t s.qw.length) i) ((xe s t s.qw.length)[i]!) ((xC s t s.qw.length)[i]!) k),x_next,F_next,i+1,uE4,?_,?_,rfl,(N.pick [0,1,3]),H.pick [0] [0,2,3]⟩))))))))))))
  · rw [show k=(jd s.qx.length (xe s t s.qw.length) (xC s t s.qw.length) i).length by omega];rfl
  · omega
 refine zx4 (zcc (sp (yI 1) (zjn (qY ?_))))
 have on:0 < (jd s.qx.length (xe s t s.qw.length) (xC s t s.qw.length) i).length:=by rw [QV,show i=(xC s t s.qw.length).length by omega];exact prod_mono kn (Nat.zero_le _) (Nat.le_refl _)
 have on2:=G_le (n:=s.qx.length) (rs:=(xe s t s.qw.length)) (i:=i) kn kc qf
 refine zB (fun m' ρ w189=>∃ (xN:Env) (i_1:Nat) (out_1:yLL) (Vx:List Value) (XH:yLN),ρ=upd (upd xN 9 (.slice vk zq zT)) 16 (yI i_1)∧((i_1:Int)≤zq)∧((jd s.qx.length (xe s t s.qw.length) (xC s t s.qw.length) (xC s t s.qw.length).length).Perm out_1)∧(∀ a b,a < b→b < i_1→¬ ahead (out_1[b]!) (out_1[a]!))∧m' =(zq - (i_1:Int)).toNat∧Fresh w.heap.size [XH]∧St w w189 [rr vk zq zT 22 1 Vx] [zk true XH Vx out_1]) ((zq - (1:Int)).toNat) ⟨_,1,(jd s.qx.length (xe s t s.qw.length) (xC s t s.qw.length) i),Ql,yG,uE2,qf,(by rw [show i=(xC s t s.qw.length).length by omega]),(by exact fun a b h1 h2=>by omega),rfl,(N.pick [2]),H.pick [0] [0]⟩ ?_
 clear H N
 rintro m' ρ w190 ⟨xN,i_1,out_1,Vx,XH,rfl,i0,o1,o2,rfl,N,H⟩
 have hn_out:=H.zo (α:=yLI) 0 rfl 0 rfl qj
 refine zcc (sps [yI i_1,.slice vk zq zT] (oN rfl (sp (.bool (decide ((i_1:Int) < zq))) (zjn (cD rfl (fun h191=>?_) (fun h191=>?_))))))
 ·skip
  refine qV (t_n (xU (qY (zcr (sps [yI i_1,yI i_1] (zjn (qY ?_)))))))
  refine zB (fun m' ρ w192=>∃ (xN:Env) (k:Int) (out_51:yLL) (x_out_51:List Value) (F_out_51:yLN),ρ=upd (upd (upd xN 9 (.slice vk zq zT)) 16 (yI i_1)) 17 (yI k)∧((jd s.qx.length (xe s t s.qw.length) (xC s t s.qw.length) (xC s t s.qw.length).length).Perm out_51)∧(InsTo out_51 i_1 k.toNat)∧(0≤k∧k≤i_1)∧m' =((k:Int)).toNat∧Fresh w.heap.size [F_out_51]∧St w w192 [rr vk zq zT 22 1 x_out_51] [zk true F_out_51 x_out_51 out_51]) (((i_1:Int)).toNat) ⟨_,i_1,out_1,Vx,XH,uE3,ql,(by exact InsTo.start o2),qf,rfl,N,H⟩ ?_
  clear H N
  rintro m' ρ w193 ⟨xN,k,out_51,x_out_51,F_out_51,rfl,o3,o4,o5,rfl,N,H⟩
  have hn_out:=H.zo (α:=yLI) 0 rfl 0 rfl qj
  refine xU (xU ?_)
  refine ja rfl H fun H=>rtp 0 (yI k) H ?_
  refine rtp 1 (.bool (decide ((k:Int) > 0))) H ?_
  refine rtp 2 (.bool (decide ((k:Int) > 0))) H ?_
  cases h195:(decide ((k:Int) > 0))
  ·skip
   replace h195:=of_decide_eq_false h195
   refine zS [3,4,5,6,7,8,9,10,11,12] 10 (H) (rtp 13 (.bool false) H ?_)
   refine xH qh (t_n (xF false rfl (fun h=>absurd h qj) (fun _=>c_exit (t_x (t_x (b_x (b_n (t_n (xX (sp (yI i_1) (sw (zD i_1 1 rfl rfl qf (sp (yI (i_1+1)) (xY (xg (m' :=(zq - ((i_1+1):Int)).toNat) qf ⟨_,i_1+1,out_51,x_out_51,F_out_51,uE2,?_,?_,?_,rfl,N,H⟩)))))))))))))))
   · omega
   · assumption
   · exact o4.stop (perm_rows o3) qf qf (by first | exact .inl qf | exact .inr (by rw [show k.toNat - 1=(k - 1).toNat by omega];assumption))
  replace h195:=of_decide_eq_true h195
  refine rgp 3 (.slice vk zq zT) 110 H ?_
  refine rgp 4 (yI k) 110 H ?_
  obtain ⟨b196,rfl⟩:=H.yP 0 rfl qf
  refine gI 5 rfl rfl rfl H ?_
  obtain ⟨a197,c198,G199,s200,h201,hx202,hy203,H⟩:=H.rowElemX 0 rfl 0 rfl (iv:=k) k.toNat qf qf
  have S:=H.jY [0] [1]
  refine gL 6 rfl rfl (fun _ h=>h.rowGet 0 rfl hx202) S ?_
  refine rgp 7 (.slice (aa b196 0) zq zT) 110 S ?_
  refine rgp 8 (yI k) 110 S ?_
  refine rg 9 (yI (k - 1)) 110 (y_sub k 1 rfl rfl qf) S ?_
  refine gI 10 rfl rfl rfl S ?_
  obtain ⟨a204,c205,G206,s207,h208,hx209,hy210,H⟩:=H.rowElemX 0 rfl 1 rfl (iv:=k - 1) ((k - 1).toNat) qf qf
  refine gL 11 rfl rfl (fun _ h=>h.rowGet 0 rfl hx209) (H.pick [0] [2]) ?_
  refine vS [12] qh qm (r_opG rfl (e:=110) rfl rfl ?_ vT)
  have g5:=perm_rows o3
  have g6:=g5 k.toNat qf
  have g7:=g5 (k - 1).toNat qf
  refine oq (l03Before_ok _ (out_51[k.toNat]!) (out_51[(k - 1).toNat]!) (H.get 1 rfl).1 (H.get 0 rfl).1 qg) H fun w212 H=>⟨H.pick [0] [2],(rtp 13 (.bool (dec (ahead (out_51[k.toNat]!) (out_51[(k - 1).toNat]!)))) (H.pick [0] [2]) ?_)⟩
  refine xH qh (t_n (cP rfl (fun h214=>?_) (fun h214=>?_)))
  ·skip
   refine qV (t_n (xU (qY (zcr (sps [.slice (aa b196 0) zq zT,yI k] (oI rfl rfl ?_))))))
   obtain ⟨a215,c216,G217,s218,h219,hx220,hy221,H⟩:=H.rowElemX 0 rfl 2 rfl (iv:=k) k.toNat qf qf
   refine oL rfl (H.rowGet 0 rfl hx220) (sp (.slice a215 ((out_51[k.toNat]!).length) c216) (zjc (sps [.slice (aa b196 0) zq zT,yI k,.slice (aa b196 0) zq zT,yI k] (sw (o_sub k 1 rfl rfl qf (oI rfl rfl ?_))))))
   obtain ⟨a222,c223,G224,s225,h226,hx227,hy228,H⟩:=H.rowElemX 0 rfl 3 rfl (iv:=k - 1) ((k - 1).toNat) qf qf
   refine oL rfl (H.rowGet 0 rfl hx227) (oI rfl rfl (sw (o_storeRow1 H 0 rfl (.slice a222 ((out_51[(k - 1).toNat]!).length) c223) sizeOf22 rfl rfl rfl qf fun w229 H=>zjn (xX (sps [.slice (aa b196 0) zq zT,yI k] (sw (o_sub k 1 rfl rfl qf (sp (.slice a215 ((out_51[k.toNat]!).length) c216) (oI rfl rfl (sw (o_storeRow1 H 0 rfl (.slice a215 ((out_51[k.toNat]!).length) c216) sizeOf22 rfl rfl rfl qf fun w230 H=>?_)))))))))))
   obtain ⟨F231,hF232,H⟩:=H.swapR 4 rfl (k:=(k:Int).toNat) (i:=(k - 1:Int).toNat) qf qf qf hy228 hy221
   replace N:Fresh w.heap.size [F231]:=Fresh.perm N hF232
   refine xY (b_n (t_n (xX (sp (yI k) (sw (o_sub k 1 rfl rfl qf (sp (yI (k - 1)) (xY (xg (m' :=(((k - 1):Int)).toNat) qf ⟨_,k - 1,(swapAt out_51 k.toNat),((x_out_51.set (k:Int).toNat (.slice a222 ((out_51[(k - 1).toNat]!).length) c223)).set (k - 1:Int).toNat (.slice a215 ((out_51[k.toNat]!).length) c216)),F231,uE3,?_,?_,?_,rfl,N,H.pick [0] [0]⟩)))))))))
   · exact perm_swap o3 qf qf
   · rw [show (k - 1).toNat=k.toNat - 1 by omega];exact o4.down (perm_rows o3) qf qf qf (by rw [show k.toNat - 1=(k - 1).toNat by omega];assumption)
   · omega
  refine c_exit (t_x (t_x (b_x (b_n (t_n (xX (sp (yI i_1) (sw (zD i_1 1 rfl rfl qf (sp (yI (i_1+1)) (xY (xg (m' :=(zq - ((i_1+1):Int)).toNat) qf ⟨_,i_1+1,out_51,x_out_51,F_out_51,uE2,?_,?_,?_,rfl,N,H.pick [0] [2]⟩))))))))))))
  · omega
  · assumption
  · exact o4.stop (perm_rows o3) qf qf (by first | exact .inl qf | exact .inr (by rw [show k.toNat - 1=(k - 1).toNat by omega];assumption))
 refine zx4 (zcr (sps [.slice vk zq zT,.slice vk zq zT,yI 0] (zjr (ret2 (.slice vk zq zT) (yI 0) rfl rfl rfl ⟨_,rfl,?_,H.base⟩))))
 rw [cho_0 gp kc o1 (in_order qf o2)]
 exact ⟨vk,zq,zT,Vx,XH,rfl,N,H.pick [0] [0]⟩
theorem isBag_ok (w:World) (l:yLI) {al:yOA} {Fl:yLN} (hl:qP.rep w Fl [.slice al l.length cl] l):Calls Tryz.prog 209 #[.slice al l.length cl] w (Ret (fun v w' =>v=.bool (dec (X4 l))) w):=by
 refine en func209 ntmps209 ?_
 have H:=(St.start w).arg hl
 have nhl:=qN hl
 clear hl
 have N:=Fresh.nil w.heap.size
 refine zcr (sp (.bool false) (zjc (sp (.slice al l.length cl) (sw (oq (sizeI_ok _ l (H.get 0 rfl).1) H fun w1 H=>sp (.slice al l.length cl) (sw (oq (Vy _ (l.length:Int) l (H.get 0 rfl).1) H fun w3 H=>sp (.bool (dec (zY (l.length:Int) l))) (zjr (ret1 (.bool (dec (zY (l.length:Int) l))) rfl rfl ⟨_,rfl,?_,H.base⟩)))))))))
 rw [dec_congr bagAny_okH]

theorem isFull_ok (w:World) (rest:yLI) (parts:yLL) {arest:yOA} {crest:Nat} {Frest:yLN} {zg:yOA} {xQ:Nat} {Fparts:yLN} (hrest:qP.rep w Frest [.slice arest rest.length crest] rest) (hparts:qP.rep w Fparts [.slice zg parts.length xQ] parts) (p0:Vm parts rest):Calls Tryz.prog 178 #[.slice arest rest.length crest,.slice zg parts.length xQ] w (Ret (fun v w' =>v=.bool (dec (FullOk parts rest))) w):=by
 refine en func178 ntmps178 ?_
 have H:=((St.start w).arg hparts).arg hrest
 have nhrest:=qN hrest
 have nhparts:=qN hparts
 clear hrest hparts
 have N:=Fresh.nil w.heap.size
 refine zcr (sw (vz H [.slice arest rest.length crest] fun b1 w2 H=>sp (.bool false) (zjc (sps [.slice zg parts.length xQ,.func (.func 206) #[] #[pp b1 0]] (sw (zZ #[.slice zg parts.length xQ,.func (.func 206) #[] #[pp b1 0]] rfl rfl call205 (en func205 ntmps205 ?_)))))))
 refine zcr (sp (.bool false) (zjc (sps [.slice zg parts.length xQ,.func (.func 206) #[] #[pp b1 0]] (sw (zZ #[.slice zg parts.length xQ,.func (.func 206) #[] #[pp b1 0]] rfl rfl call211 (en func211 ntmps211 ?_))))))
 refine zcr (sp (yI 0) (zjcc (sp (.slice zg parts.length xQ) (oN rfl (sp (yI 0) (zjn (qY ?_)))))))
 refine zB (fun m' ρ w3=>∃ (xN:Env) (i:Nat),ρ=upd (upd (upd (upd xN 0 (.slice zg parts.length xQ)) 1 (.func (.func 206) #[] #[pp b1 0])) 7 (yI parts.length)) 8 (yI i)∧((i:Int)≤parts.length)∧(FullTo parts rest i)∧m' =(parts.length - (i:Int)).toNat∧Fresh w.heap.size []∧St w w3 [.box b1 [.slice arest rest.length crest] 22] [sF false Frest arest crest rest,sF false Fparts zg xQ parts]) ((parts.length - (0:Int)).toNat) ⟨_,0,uE4,qf,(by first | trivial | exact fun j hj=>by omega),rfl,N,H⟩ ?_
 clear H N
 rintro m' ρ w4 ⟨xN,i,rfl,i0,i1,rfl,N,H⟩
 refine zcr (sp (.bool (decide ((i:Int) < parts.length))) (zjn (xU (cD rfl (fun h5=>?_) (fun h5=>?_)))))
 ·skip
  obtain ⟨t1,t2,t3,t4,t5⟩:=p0.times (k:=i) qf
  refine qV (t_n (xU (qY (zcr (sps [yI i,yI i] (zjc (sps [.func (.func 206) #[] #[pp b1 0],.slice zg parts.length xQ,yI i] ?_)))))))
  obtain ⟨b6,o7,rfl⟩:=H.addr 1 rfl qf
  obtain ⟨ae9,ce9,Fe9,H⟩:=H.vH 1 rfl i i qf qf qf
  refine oI rfl rfl (oL rfl (H.xR 1 rfl 0 rfl) (sw (zZ #[.slice ae9 ((parts[i]!).length) ce9,pp b1 0] rfl rfl call206 (en func206 ntmps206 ?_))))
  refine zcr (sp (.bool false) (zjc (sp (.slice ae9 ((parts[i]!).length) ce9) (oL rfl (H.cell 0 rfl rfl) (sw (oq (isWithin_ok _ (parts[i]!) rest (H.get 0 rfl).1 (H.get 2 rfl).1 qg qg) H fun w10 H=>sp (.bool (within (parts[i]!) rest)) (zjr (ret1 (.bool (within (parts[i]!) rest)) rfl rfl ⟨_,rfl,(zjn (xF (within (parts[i]!) rest) rfl (fun h12=>?_) (fun h12=>?_)))⟩))))))))
  ·skip
   refine zcr (sps [yI i,yI i] (zjr (zr5 (ret1 (yI i) rfl rfl ⟨_,rfl,(sw (o_pure (.bool true) (by show some (Value.bool (decide ((i:Int)≥0)))=some (Value.bool true);rw [decide_eq_true qf]) (sp (.bool true) (zjr (ret1 (.bool true) rfl rfl ⟨_,rfl,(sps [.bool false,.bool false] (zjr (ret1 (.bool false) rfl rfl ⟨_,rfl,?_,H.base⟩)))⟩)))))⟩))))
   rw [xn (fun h=>by have:=h i qf;simp_all)]
  refine qV (b_n (t_n (xX (sw (zD i 1 rfl rfl qf (sp (yI (i+1)) (xY (xg (m' :=(parts.length - ((i+1):Int)).toNat) qf ⟨_,i+1,uE4,?_,?_,rfl,N,H.pick [0] [2,3]⟩))))))))
  · omega
  · first | trivial | exact i1.succ ‹_›
 refine zx4 (zcr (sp (yI (-1)) (zjr (ret1 (yI (-1)) rfl rfl ⟨_,rfl,(sps [.bool false,.bool false] (zjr (ret1 (.bool false) rfl rfl ⟨_,rfl,(sps [.bool true,.bool true] (zjr (ret1 (.bool true) rfl rfl ⟨_,rfl,?_,H.base⟩)))⟩)))⟩))))
 rw [jP (show FullOk parts rest from fun j hj=>i1 j qf)]

theorem bagAndParts_ok (w:World) (b:yLI) (parts:yLL) {ab:yOA} {Fb:yLN} {zg:yOA} {xQ:Nat} {Fparts:yLN} (hb:qP.rep w Fb [.slice ab b.length cb] b) (hparts:qP.rep w Fparts [.slice zg parts.length xQ] parts) (p0:Vm parts b) (p1:1≤parts.length):Calls Tryz.prog 200 #[.slice ab b.length cb,.slice zg parts.length xQ] w (Ret (fun v w' =>v=yI 0) w):=by
 refine en func200 ntmps200 ?_
 have H:=((St.start w).arg hparts).arg hb
 have nhb:=qN hb
 have nhparts:=qN hparts
 clear hb hparts
 have N:=Fresh.nil w.heap.size
 obtain ⟨pb,pl,pk⟩:=p0.bags p1
 refine zcr (sp (yI 0) (zjcc (sp (.slice ab b.length cb) (sw (oq (isBag_ok _ b (H.get 0 rfl).1) H fun w2 H=>sp (.bool (!(dec (X4 b)))) (zjn (cQ rfl (fun h4=>?_) (fun h4=>?_))))))))
 ·skip
  refine zcr (sp (yI 1) (zjr (t_r (ret1 (yI 1) rfl rfl ⟨_,rfl,?_,H.base⟩))))
  exfalso;first | omega | exact ‹¬ X4 _› pb
 refine qV (t_n (zcr (sp (.slice ab b.length cb) (oN rfl (sps [.slice zg parts.length xQ,.slice zg parts.length xQ] (oN rfl (sw (jr H underlying22 ti2 parts.length rfl rfl qf qf qf fun b5 w6 H=>sw (zZ #[yI b.length,.slice zg parts.length xQ,.slice (aa b5 0) parts.length parts.length] rfl rfl call210 (en func210 ntmps210 ?_))))))))))
 refine zcr (sp (yI 0) (zjcc (sp (.slice zg parts.length xQ) (sw (zZ #[.slice zg parts.length xQ,.func (.func 212) #[] #[]] rfl rfl call205 (en func205 ntmps205 ?_))))))
 refine zcr (sp (.bool false) (zjc (sps [.slice zg parts.length xQ,.func (.func 212) #[] #[]] (sw (zZ #[.slice zg parts.length xQ,.func (.func 212) #[] #[]] rfl rfl call211 (en func211 ntmps211 ?_))))))
 refine zcr (sp (yI 0) (zjcc (sp (.slice zg parts.length xQ) (oN rfl (sp (yI 0) (zjn (qY ?_)))))))
 refine zB (fun m' ρ w7=>∃ (xN:Env) (i:Nat),ρ=upd (upd (upd (upd xN 0 (.slice zg parts.length xQ)) 1 (.func (.func 212) #[] #[])) 7 (yI parts.length)) 8 (yI i)∧((i:Int)≤parts.length)∧(True)∧m' =(parts.length - (i:Int)).toNat∧Fresh w.heap.size []∧St w w7 [rr (aa b5 0) parts.length parts.length 2 1 ((List.replicate parts.length (0:Int)).map (Value.int .i64))] [sF false Fb ab cb b,sF false Fparts zg xQ parts]) ((parts.length - (0:Int)).toNat) ⟨_,0,uE4,qf,(by first | trivial | exact fun j hj=>by omega),rfl,N,H⟩ ?_
 clear H N
 rintro m' ρ w8 ⟨xN,i,rfl,i0,i1,rfl,N,H⟩
 refine zcr (sp (.bool (decide ((i:Int) < parts.length))) (zjn (xU (cD rfl (fun h9=>?_) (fun h9=>?_)))))
 ·skip
  refine qV (t_n (xU (qY (zcr (sps [yI i,yI i] (zjc (sps [.func (.func 212) #[] #[],.slice zg parts.length xQ,yI i] ?_)))))))
  obtain ⟨b10,o11,rfl⟩:=H.addr 1 rfl qf
  obtain ⟨ae13,ce13,Fe13,H⟩:=H.vH 1 rfl i i qf qf qf
  refine oI rfl rfl (oL rfl (H.xR 1 rfl 0 rfl) (sw (zZ #[.slice ae13 ((parts[i]!).length) ce13] rfl rfl call212 (en func212 ntmps212 ?_))))
  refine zcr (sp (.bool false) (zjc (sp (.slice ae13 ((parts[i]!).length) ce13) (sw (oq (isBag_ok _ (parts[i]!) (H.get 0 rfl).1) H fun w15 H=>sps [.bool (!(dec (X4 (parts[i]!)))),.bool (!(dec (X4 (parts[i]!))))] (zjr (ret1 (.bool (!(dec (X4 (parts[i]!))))) rfl rfl ⟨_,rfl,(zjn (cQ rfl (fun h17=>?_) (fun h17=>?_)))⟩)))))))
  ·skip
   exact absurd (pk i qf).1 h17
  refine qV (b_n (t_n (xX (sw (zD i 1 rfl rfl qf (sp (yI (i+1)) (xY (xg (m' :=(parts.length - ((i+1):Int)).toNat) qf ⟨_,i+1,uE4,?_,?_,rfl,N,H.pick [0] [2,3]⟩))))))))
  · omega
  · first | trivial | exact i1.succ ‹_›
 refine zx4 (zcr (sp (yI (-1)) (zjr (ret1 (yI (-1)) rfl rfl ⟨_,rfl,(sps [.bool false,.bool false] (zjr (ret1 (.bool false) rfl rfl ⟨_,rfl,(zjn (xF false rfl (fun h=>absurd h qj) (fun _=>qV (t_n (zcc (sp (.slice zg parts.length xQ) (oN rfl (sps [.bool (decide ((parts.length:Int) > 8)),.bool (decide ((parts.length:Int) > 8))] ?_))))))))⟩)))⟩))))
 cases h18:(decide ((parts.length:Int) > 8))
 ·skip
  replace h18:=of_decide_eq_false h18
  refine qQ 14 rfl rfl (sp (.slice (aa b5 0) parts.length parts.length) (qQ 14 rfl rfl (oN rfl (qQ 14 rfl rfl (sp (.slice zg parts.length xQ) (qQ 14 rfl rfl (oN rfl (qQ 14 rfl rfl (sps [.bool ((parts.length:Int) != parts.length),.bool ((parts.length:Int) != parts.length)] (zjn (xF ((parts.length:Int) != parts.length) rfl (fun h=>absurd rfl (bne_iff_ne.1 h)) (fun h19=>?_))))))))))))
  replace h19:=xA h19
  refine qV (t_n (zcc (sp (.slice zg parts.length xQ) (oN rfl (sp (yI 0) (zjn (qY ?_)))))))
  refine zB (fun m' ρ w20=>∃ (xN:Env) (i_1:Nat),ρ=upd (upd (upd (upd (upd xN 0 (yI b.length)) 2 (.slice (aa b5 0) parts.length parts.length)) 21 (.slice zg parts.length xQ)) 22 (yI parts.length)) 23 (yI i_1)∧((i_1:Int)≤parts.length)∧m' =(parts.length - (i_1:Int)).toNat∧Fresh w.heap.size []∧St w w20 [rr (aa b5 0) parts.length parts.length 2 1 ((List.replicate parts.length (0:Int)).map (Value.int .i64))] [sF false Fb ab cb b,sF false Fparts zg xQ parts]) ((parts.length - (0:Int)).toNat) ⟨_,0,uE5,qf,rfl,N,H⟩ ?_
  clear H N
  rintro m' ρ w21 ⟨xN,i_1,rfl,i0,rfl,N,H⟩
  refine zcr (sp (.bool (decide ((i_1:Int) < parts.length))) (zjn (xU (cD rfl (fun h22=>?_) (fun h22=>?_)))))
  ·skip
   obtain ⟨r1,r2,r3⟩:=pk i_1 qf
   have r4:=yV r1
   have r5:(List.replicate parts.length (0:Int))[i_1]! =0:=by rw [getElem!_pos _ i_1 (by simp;omega)];simp
   refine qV (t_n (xU (qY (zcr (sp (yI i_1) ?_)))))
   obtain ⟨b23,o24,rfl⟩:=H.addr 1 rfl qf
   obtain ⟨ae26,ce26,Fe26,H⟩:=H.vH 1 rfl i_1 i_1 qf qf qf
   refine oI rfl rfl (oL rfl (H.xR 1 rfl 0 rfl) (sps [yI i_1,.slice ae26 ((parts[i_1]!).length) ce26] (zjc (sp (.slice ae26 ((parts[i_1]!).length) ce26) (oN rfl (sps [yI b.length,.bool (((parts[i_1]!).length:Int) != b.length),.bool (((parts[i_1]!).length:Int) != b.length)] ?_))))))
   cases h27:(((parts[i_1]!).length:Int) != b.length)
   ·skip
    replace h27:=xA h27
    refine qQ 32 rfl rfl (sp (.slice ae26 ((parts[i_1]!).length) ce26) (qQ 32 rfl rfl (sw (oq (XT _ (parts[i_1]!) (H.get 0 rfl).1 (by first | assumption | exact vF ql | exact yV ql)) H fun w28 H=>qQ 32 rfl rfl (sps [.bool ((X0 (parts[i_1]!):Int) == 0),.bool ((X0 (parts[i_1]!):Int) == 0),.bool ((X0 (parts[i_1]!):Int) == 0)] ?_)))))
    cases h30:((X0 (parts[i_1]!):Int) == 0)
    ·skip
     replace h30:=ne_of_beq_false h30
     refine qQ 37 rfl rfl (sp (.slice (aa b5 0) parts.length parts.length) (qQ 37 rfl rfl (sp (yI i_1) (qQ 37 rfl rfl (oI rfl rfl (qQ 37 rfl rfl (oL rfl (H.rowInt 0 rfl (iv:=i_1) (i:=i_1) qf qf) (qQ 37 rfl rfl (sw (oq (VJ w28 ((List.replicate parts.length (0:Int))[i_1]!) 0 1000) H fun w31 H=>qQ 37 rfl rfl (sps [.bool (!(inR ((List.replicate parts.length (0:Int))[i_1]!) 0 1000)),.bool (!(inR ((List.replicate parts.length (0:Int))[i_1]!) 0 1000))] (zjn (xF (!(inR ((List.replicate parts.length (0:Int))[i_1]!) 0 1000)) rfl (fun h33=>?_) (fun h33=>?_))))))))))))))
     ·skip
      replace h33:=xq h33
      replace h33:=XB h33
      refine zcr (sp (yI 2) (zjr (zr5 (ret1 (yI 2) rfl rfl ⟨_,rfl,(sp (yI 2) (zjr (ret1 (yI 2) rfl rfl ⟨_,rfl,?_,H.base⟩)))⟩))))
      exfalso;first | omega | exact ‹¬ X4 _› pb
     replace h33:=xk h33
     replace h33:=QY.1 h33
     refine qV (b_n (t_n (xX (sw (zD i_1 1 rfl rfl qf (sp (yI (i_1+1)) (xY (xg (m' :=(parts.length - ((i_1+1):Int)).toNat) qf ⟨_,i_1+1,uE5,?_,rfl,N,H.pick [0] [2,3]⟩))))))))
     · omega
    replace h30:=eq_of_beq h30
    refine xZ [38,39,40,41,42,43] (sp (.bool true) (zjn (xF true rfl (fun _=>zcr (sp (yI 2) (zjr (zr5 (ret1 (yI 2) rfl rfl ⟨_,rfl,(sp (yI 2) (zjr (ret1 (yI 2) rfl rfl ⟨_,rfl,?_,H.base⟩)))⟩))))) (fun h=>absurd h qj))))
    exfalso;first | omega | exact ‹¬ X4 _› pb
   replace h27:=bne_iff_ne.1 h27
   refine xZ [33,34,35] (sps [.bool true,.bool true] (xZ [38,39,40,41,42,43] (sp (.bool true) (zjn (xF true rfl (fun _=>zcr (sp (yI 2) (zjr (zr5 (ret1 (yI 2) rfl rfl ⟨_,rfl,(sp (yI 2) (zjr (ret1 (yI 2) rfl rfl ⟨_,rfl,?_,H.base⟩)))⟩))))) (fun h=>absurd h qj))))))
   exfalso;first | omega | exact ‹¬ X4 _› pb
  refine zx4 (zcr (sp (yI 0) (zjr (ret1 (yI 0) rfl rfl ⟨_,rfl,(sp (yI 0) (zjr (ret1 (yI 0) rfl rfl ⟨_,rfl,?_,H.base⟩)))⟩))))
  rfl
 replace h18:=of_decide_eq_true h18
 refine xZ [15,16,17,18,19] (sp (.bool true) (zjn (xF true rfl (fun _=>zcr (sp (yI 2) (zjr (t_r (ret1 (yI 2) rfl rfl ⟨_,rfl,(sp (yI 2) (zjr (ret1 (yI 2) rfl rfl ⟨_,rfl,?_,H.base⟩)))⟩))))) (fun h=>absurd h qj))))
 exfalso;first | omega | exact ‹¬ X4 _› pb

def packFrom_ok_S (f:Nat):Prop:=∀ {W0 w:World} {ps:List Prv} {Γ:List Fact} {Ns:List yLN} (i:Nat) (rest:yLI) (parts:yLL) (out:yLL) (cs:yLI) (arest:yOA) (crest:Nat) (Frest:yLN) (zg:yOA) (xQ:Nat) (Fparts:yLN) (bp:Nat) (bi:Nat) (bq:Nat) (bo:Nat) (bl:Nat) (bc:Nat) (bf:Nat) (raout:yOA) (rnout:Nat) (rcout:Nat) (rxout:List Value) (rFout:yLN) (racs:yOA) (rncs:Nat) (rccs:Nat) (H:St W0 w ((.box bp [.slice zg parts.length xQ] 27) :: (.box bi [.func (.func 177) #[] #[pp bq 0]] 170) :: (.box bq [.slice zg parts.length xQ] 27) :: (.box bo [pp bl 0] 219) :: (.box bl [.slice raout rnout rcout] 221) :: (.box bc [.slice racs rncs rccs] 22) :: (.box bf [.func (.func 201) #[] #[pp bp 0,pp bi 0,pp bo 0,pp bc 0,pp bf 0]] 222) :: (rr raout rnout rcout 22 1 rxout) :: (rr racs rncs rccs 2 1 (cs.map (Value.int .i64))) :: ps) ((sF false Frest arest crest rest) :: (sF false Fparts zg xQ parts) :: (zk true rFout rxout out) :: Γ)) (N:Fresh W0.heap.size (rFout :: Ns)) (K0:Kept Ns Γ) (p0:i+f=parts.length) (p1:Vm parts rest) (p2:out.length≤2000) (p3:cs.length=parts.length),Calls Tryz.prog 201 #[yI i,.slice arest rest.length crest,pp bp 0,pp bi 0,pp bo 0,pp bc 0,pp bf 0] w (fun e w' =>∃ v,e=.returned v∧∃ (cs_:yLI) (raout_:yOA) (rnout_:Nat) (rcout_:Nat) (rxout_:List Value) (rFout_:yLN),(cs_.length=cs.length)∧(cs_.take i=cs.take i)∧v=.bool (dec ((gath out (begins (cs.take i) (packs parts (parts.length - i) i rest))).length≤2000))∧Fresh W0.heap.size (rFout_ :: Ns)∧St W0 w' ((.box bp [.slice zg parts.length xQ] 27) :: (.box bi [.func (.func 177) #[] #[pp bq 0]] 170) :: (.box bq [.slice zg parts.length xQ] 27) :: (.box bo [pp bl 0] 219) :: (.box bl [.slice raout_ rnout_ rcout_] 221) :: (.box bc [.slice racs rncs rccs] 22) :: (.box bf [.func (.func 201) #[] #[pp bp 0,pp bi 0,pp bo 0,pp bc 0,pp bf 0]] 222) :: (rr raout_ rnout_ rcout_ 22 1 rxout_) :: (rr racs rncs rccs 2 1 (cs_.map (Value.int .i64))) :: ps) ((sF false Frest arest crest rest) :: (sF false Fparts zg xQ parts) :: (zk true rFout_ rxout_ (gath out (begins (cs.take i) (packs parts (parts.length - i) i rest)))) :: Γ))
theorem packFrom_ok_step (f:Nat) (IH:∀ k,k < f→packFrom_ok_S k) {W0 w:World} {ps:List Prv} {Γ:List Fact} {Ns:List yLN} (i:Nat) (rest:yLI) (parts:yLL) (out:yLL) (cs:yLI) (arest:yOA) (crest:Nat) (Frest:yLN) (zg:yOA) (xQ:Nat) (Fparts:yLN) (bp:Nat) (bi:Nat) (bq:Nat) (bo:Nat) (bl:Nat) (bc:Nat) (bf:Nat) (raout:yOA) (rnout:Nat) (rcout:Nat) (rxout:List Value) (rFout:yLN) (racs:yOA) (rncs:Nat) (rccs:Nat) (H:St W0 w ((.box bp [.slice zg parts.length xQ] 27) :: (.box bi [.func (.func 177) #[] #[pp bq 0]] 170) :: (.box bq [.slice zg parts.length xQ] 27) :: (.box bo [pp bl 0] 219) :: (.box bl [.slice raout rnout rcout] 221) :: (.box bc [.slice racs rncs rccs] 22) :: (.box bf [.func (.func 201) #[] #[pp bp 0,pp bi 0,pp bo 0,pp bc 0,pp bf 0]] 222) :: (rr raout rnout rcout 22 1 rxout) :: (rr racs rncs rccs 2 1 (cs.map (Value.int .i64))) :: ps) ((sF false Frest arest crest rest) :: (sF false Fparts zg xQ parts) :: (zk true rFout rxout out) :: Γ)) (N:Fresh W0.heap.size (rFout :: Ns)) (K0:Kept Ns Γ) (p0:i+f=parts.length) (p1:Vm parts rest) (p2:out.length≤2000) (p3:cs.length=parts.length):Calls Tryz.prog 201 #[yI i,.slice arest rest.length crest,pp bp 0,pp bi 0,pp bo 0,pp bc 0,pp bf 0] w (fun e w' =>∃ v,e=.returned v∧∃ (cs_:yLI) (raout_:yOA) (rnout_:Nat) (rcout_:Nat) (rxout_:List Value) (rFout_:yLN),(cs_.length=cs.length)∧(cs_.take i=cs.take i)∧v=.bool (dec ((gath out (begins (cs.take i) (packs parts (parts.length - i) i rest))).length≤2000))∧Fresh W0.heap.size (rFout_ :: Ns)∧St W0 w' ((.box bp [.slice zg parts.length xQ] 27) :: (.box bi [.func (.func 177) #[] #[pp bq 0]] 170) :: (.box bq [.slice zg parts.length xQ] 27) :: (.box bo [pp bl 0] 219) :: (.box bl [.slice raout_ rnout_ rcout_] 221) :: (.box bc [.slice racs rncs rccs] 22) :: (.box bf [.func (.func 201) #[] #[pp bp 0,pp bi 0,pp bo 0,pp bc 0,pp bf 0]] 222) :: (rr raout_ rnout_ rcout_ 22 1 rxout_) :: (rr racs rncs rccs 2 1 (cs_.map (Value.int .i64))) :: ps) ((sF false Frest arest crest rest) :: (sF false Fparts zg xQ parts) :: (zk true rFout_ rxout_ (gath out (begins (cs.take i) (packs parts (parts.length - i) i rest)))) :: Γ)):=by
 refine en func201 ntmps201 ?_
 have nrest:=qN (H.get 0 rfl).1
 have nparts:=qN (H.get 1 rfl).1
 obtain rfl:=H.zo (α:=yLI) 7 rfl 2 rfl qj
 obtain rfl:=H.Xk 8 rfl
 have p4:=p1.small
 refine zcr (sp (.bool false) (zjcc (sp (yI i) (oL rfl (H.cell 0 rfl rfl) (oN rfl (sp (.bool ((i:Int) == parts.length)) (zjn (cE rfl (fun h1=>?_) (fun h1=>?_)))))))))
 ·skip
  refine zcr (oL rfl (H.cell 1 rfl rfl) (sp (.slice arest rest.length crest) (sw (zZ #[.slice arest rest.length crest,pp bq 0] rfl rfl call177 (en func177 ntmps177 ?_)))))
  refine zcr (sp (.bool false) (zjc (sp (.slice arest rest.length crest) (oL rfl (H.cell 2 rfl rfl) (sw (oq (isFull_ok _ rest parts (H.get 0 rfl).1 (H.get 1 rfl).1 qg) H fun w3 H=>sp (.bool (dec (FullOk parts rest))) (zjr (ret1 (.bool (dec (FullOk parts rest))) rfl rfl ⟨_,rfl,(sps [.bool (!(dec (FullOk parts rest))),.bool (!(dec (FullOk parts rest)))] ?_)⟩))))))))
  cases h5:(!(dec (FullOk parts rest)))
  ·skip
   replace h5:=xk h5
   replace h5:=Qb h5
   refine qQ 19 rfl rfl (oL rfl (H.cell 3 rfl rfl) (qQ 19 rfl rfl (oL rfl (H.cell 5 rfl rfl) (qQ 19 rfl rfl (sw (zZ #[pp bl 0,.slice racs cs.length rccs] rfl rfl call202 (en func202 ntmps202 ?_)))))))
   refine zcr (sp (.bool false) (zjcc (sps [pp bl 0,pp bl 0] (oF rfl (oL rfl (H.cell 4 rfl rfl) (oN rfl (sp (.bool (decide ((out.length:Int) > 2000))) (zjn (cD rfl (fun h6=>?_) (fun h6=>?_))))))))))
   ·skip
    refine zcr (sp (.bool false) (zjr (t_r (ret1 (.bool false) rfl rfl ⟨_,rfl,(sps [.bool false,.bool false] (zjr (t_r (ret1 (.bool false) rfl rfl ⟨_,rfl,?_⟩))))⟩))))
    exfalso;omega
   refine qV (t_n (xU ?_))
   refine c_cut (fun ρ w12=>∃ (xN:Env) (a7:yOA) (c8:Nat) (a9:yOA) (c10:Nat) (G11:yLN),ρ=upd xN 0 (pp bl 0)∧Fresh W0.heap.size ((rFout++G11) :: Ns)∧St W0 w12 ((.box bp [.slice zg parts.length xQ] 27) :: (.box bi [.func (.func 177) #[] #[pp bq 0]] 170) :: (.box bq [.slice zg parts.length xQ] 27) :: (.box bo [pp bl 0] 219) :: (.box bl [.slice a7 (out.length+1) c8] 221) :: (.box bc [.slice racs cs.length rccs] 22) :: (.box bf [.func (.func 201) #[] #[pp bp 0,pp bi 0,pp bo 0,pp bc 0,pp bf 0]] 222) :: (rr a7 (out.length+1) c8 22 1 (rxout++[.slice a9 cs.length c10])) :: (rr racs cs.length rccs 2 1 (cs.map (Value.int .i64))) :: ps) ((zk true (rFout++G11) (rxout++[.slice a9 cs.length c10]) (out++[cs])) :: (sF true G11 a9 c10 cs) :: (sF false Frest arest crest rest) :: (sF false Fparts zg xQ parts) :: Γ)) ?_ ?_
   ·skip
    refine c_drawK2 rfl H [0,1,2,3,5,6,8] [0,1,2] fun H=>?_
    have S:=H.jY [0,1,2,3,5,6,8] [0,1,2]
    refine rtp 0 (pp bl 0) S ?_
    refine rtp 1 (pp bl 0) S ?_
    refine rtp 2 (pp bl 0) S ?_
    refine tF 3 rfl rfl S ?_
    refine rtp 5 (.slice racs cs.length rccs) S ?_
    refine vS [4,6] qh qm (jA rfl ?_ (jA rfl ?_ vT))
    ·skip
     refine zF (.slice raout out.length rcout) isAgg27 rfl (H.cell 4 rfl rfl) (⟨H.pick [0,1,2,3,5,6,8] [0,1,2],(ro 6 rfl ?_)⟩)
     obtain ⟨G14,hn15,h16⟩:=H.rowIsI 8 rfl
     have sz17:=H.base.size
     have lt18:=all_two (H.ltN (L:=[rFout]) [2]) (H.ltK (K0.behind 3 rfl))
     refine oc (cloneI_ok _ cs h16 qg) ?_
     rintro v22 w20 r22 x21
     replace H:=H.zC x21 r22
     obtain ⟨a23,c24,rfl,hc25,hm26⟩:=H.ji 0 rfl
     refine ⟨H.pick [1,2,3,4,6,7,9] [0,1,2],(ro 7 rfl (zI H underlying27 ti22 [.slice a23 cs.length c24] fun b27 w28 H=>⟨H.pick [2,3,4,5,7,8,10] [0,1,2],(ro 8 rfl ?_)⟩))⟩
     obtain ⟨G32,N,hn33,H⟩:=H.vP 1 rfl N (fun F hF b hb=>(List.mem_append.1 (show F∈[rFout]++Ns from hF)).elim (fun h=>(H.yg (L:=[rFout]) [2]) F h b hb) fun h=>H.awayK (K0.behind 3 rfl) F h b hb)
     try dsimp only [List.set] at H
     refine zO H 9 rfl 0 rfl underlying27 ti22 rfl qj rfl rfl rfl (by simp [Value.oneCell',Value.cells]) qp qf fun a29 c30 w31 H=>?_
     try dsimp only [List.set] at H
     replace H:=H.yj 3 rfl 0 rfl
     replace N:Fresh W0.heap.size ((rFout++G32) :: Ns):=(N.Xz 2 [1,0] qo).join
     refine ⟨H.pick [2,3,4,5,7,8,10] [2,3,4],?_⟩
     have S:=H.jY [2,3,4,5,7,8,10] [2,3,4]
     refine rtp 9 (pp bl 0) S ?_
     refine tF 10 rfl rfl S ?_
     refine ro 11 rfl (xP H 6 [.slice a29 (out.length+1) c30] sizeOf27 fun w34 H=>?_)
     try dsimp only [List.set] at H
     refine ⟨H.pick [2,3,4,5,7,8,10] [2,3,4],(xH qh ((meet ⟨_,a29,c30,a23,c24,G32,uE1,N,H.Xz 11 5 [2,3,4,5,6,7,8,9,10] [0,1,2,3] qo qo⟩)))⟩
    obtain ⟨G35,hn36,h37⟩:=H.rowIsI 8 rfl
    have sz38:=H.base.size
    have lt39:=all_two (H.ltN (L:=[rFout]) [2]) (H.ltK (K0.behind 3 rfl))
    refine oc (cloneI_ok _ cs h37 qg) ?_
    rintro v43 w41 r43 x42
    replace H:=H.zC x42 r43
    obtain ⟨a44,c45,rfl,hc46,hm47⟩:=H.ji 0 rfl
    refine ⟨H.pick [1,2,3,4,6,7,9] [0,1,2],(vS [4,7] qh qm (jA rfl ?_ (jA rfl ?_ vT)))⟩
    ·skip
     refine zF (.slice raout out.length rcout) isAgg27 rfl (H.cell 5 rfl rfl) (⟨H.pick [1,2,3,4,6,7,9] [0,1,2],(ro 7 rfl (zI H underlying27 ti22 [.slice a44 cs.length c45] fun b48 w49 H=>⟨H.pick [2,3,4,5,7,8,10] [0,1,2],(ro 8 rfl ?_)⟩))⟩)
     obtain ⟨G53,N,hn54,H⟩:=H.vP 1 rfl N (fun F hF b hb=>(List.mem_append.1 (show F∈[rFout]++Ns from hF)).elim (fun h=>(H.yg (L:=[rFout]) [2]) F h b hb) fun h=>H.awayK (K0.behind 3 rfl) F h b hb)
     try dsimp only [List.set] at H
     refine zO H 9 rfl 0 rfl underlying27 ti22 rfl qj rfl rfl rfl (by simp [Value.oneCell',Value.cells]) qp qf fun a50 c51 w52 H=>?_
     try dsimp only [List.set] at H
     replace H:=H.yj 3 rfl 0 rfl
     replace N:Fresh W0.heap.size ((rFout++G53) :: Ns):=(N.Xz 2 [1,0] qo).join
     refine ⟨H.pick [2,3,4,5,7,8,10] [2,3,4],?_⟩
     have S:=H.jY [2,3,4,5,7,8,10] [2,3,4]
     refine rtp 9 (pp bl 0) S ?_
     refine tF 10 rfl rfl S ?_
     refine ro 11 rfl (xP H 6 [.slice a50 (out.length+1) c51] sizeOf27 fun w55 H=>?_)
     try dsimp only [List.set] at H
     refine ⟨H.pick [2,3,4,5,7,8,10] [2,3,4],(xH qh ((meet ⟨_,a50,c51,a44,c45,G53,uE1,N,H.Xz 11 5 [2,3,4,5,6,7,8,9,10] [0,1,2,3] qo qo⟩)))⟩
    refine zI H underlying27 ti22 [.slice a44 cs.length c45] fun b56 w57 H=>⟨H.pick [2,3,4,5,7,8,10] [0,1,2],(ro 4 rfl (zF (.slice raout out.length rcout) isAgg27 rfl (H.cell 6 rfl rfl) (⟨H.pick [2,3,4,5,7,8,10] [0,1,2],(ro 8 rfl ?_)⟩)))⟩
    obtain ⟨G61,N,hn62,H⟩:=H.vP 1 rfl N (fun F hF b hb=>(List.mem_append.1 (show F∈[rFout]++Ns from hF)).elim (fun h=>(H.yg (L:=[rFout]) [2]) F h b hb) fun h=>H.awayK (K0.behind 3 rfl) F h b hb)
    try dsimp only [List.set] at H
    refine zO H 9 rfl 0 rfl underlying27 ti22 rfl qj rfl rfl rfl (by simp [Value.oneCell',Value.cells]) qp qf fun a58 c59 w60 H=>?_
    try dsimp only [List.set] at H
    replace H:=H.yj 3 rfl 0 rfl
    replace N:Fresh W0.heap.size ((rFout++G61) :: Ns):=(N.Xz 2 [1,0] qo).join
    refine ⟨H.pick [2,3,4,5,7,8,10] [2,3,4],?_⟩
    have S:=H.jY [2,3,4,5,7,8,10] [2,3,4]
    refine rtp 9 (pp bl 0) S ?_
    refine tF 10 rfl rfl S ?_
    refine ro 11 rfl (xP H 6 [.slice a58 (out.length+1) c59] sizeOf27 fun w63 H=>?_)
    try dsimp only [List.set] at H
    refine ⟨H.pick [2,3,4,5,7,8,10] [2,3,4],(xH qh ((meet ⟨_,a58,c59,a44,c45,G61,uE1,N,H.Xz 11 5 [2,3,4,5,6,7,8,9,10] [0,1,2,3] qo qo⟩)))⟩
   clear H N
   rintro ρ w64 ⟨xN,a7,c8,a9,c10,G11,rfl,N,H⟩
   refine t_n (zcr (sps [pp bl 0,pp bl 0] (oF rfl (oL rfl (H.cell 4 rfl rfl) (oN rfl (sps [.bool (decide ((out.length+1:Int)≤2000)),.bool (decide ((out.length+1:Int)≤2000))] (zjr (ret1 (.bool (decide ((out.length+1:Int)≤2000))) rfl rfl ⟨_,rfl,(sps [.bool (decide ((out.length+1:Int)≤2000)),.bool (decide ((out.length+1:Int)≤2000))] (zjr (t_r (ret1 (.bool (decide ((out.length+1:Int)≤2000))) rfl rfl ⟨_,rfl,?_⟩))))⟩))))))))
   rw [pack_fullI qf p3 ‹FullOk _ _› p2,show decide ((out.length+1:Int)≤2000)=dec ((out++[cs]).length≤2000) from dec_eq (by simp;omega)]
   exact ⟨cs,a7,out.length+1,c8,rxout++[Value.slice a9 cs.length c10],(rFout++G11),(by first | rfl | omega | (have:=‹_=(List.set _ _ _).length›;rw [List.length_set] at this;omega)),(by first | rfl | assumption | exact pack_keep ‹_› j2),rfl,N,H.Xz 9 4 [0,1,2,3,4,5,6,7,8] [2,3,0] qo qo⟩
  replace h5:=xq h5
  replace h5:=zV h5
  refine xZ [20,21,22] (sps [.bool true,.bool true] (zjr (t_r (ret1 (.bool true) rfl rfl ⟨_,rfl,?_⟩))))
  rw [pack_noneI qf ‹_› p2,jP p2]
  exact ⟨cs,raout,out.length,rcout,rxout,rFout,(by first | rfl | omega | (have:=‹_=(List.set _ _ _).length›;rw [List.length_set] at this;omega)),(by first | rfl | assumption | exact pack_keep ‹_› j2),rfl,N,H.Xz 9 3 [0,1,2,3,4,5,6,7,8] [0,1,2] qo qo⟩
 refine qV (t_n (zcc (sp (yI 0) (zjn (qY ?_)))))
 obtain ⟨t1,t2,t3,t4,t5,t6⟩:=p1.times (k:=i) qf
 refine zB (fun m' ρ w65=>∃ (xN:Env) (n:Nat) (VF:yOA) (VA:Nat) (VE:Nat) (out_lists:yLL) (Vw:List Value) (QP:yLN) (cs_1:yLI),ρ=upd (upd (upd (upd (upd (upd xN 0 (yI i)) 1 (.slice arest rest.length crest)) 2 (pp bp 0)) 5 (pp bc 0)) 6 (pp bf 0)) 10 (yI n)∧out_lists=(gath out (begins (cs.take i) (jm parts (f - 1) i rest n)))∧((n:Int)≤jg (parts[i]!) rest+1)∧(cs_1.length=parts.length)∧(cs_1.take i=cs.take i)∧((gath out (begins (cs.take i) (jm parts (f - 1) i rest n))).length≤2000)∧m' =(jg (parts[i]!) rest+1 - (n:Int)).toNat∧Fresh W0.heap.size (QP :: Ns)∧St W0 w65 ((.box bp [.slice zg parts.length xQ] 27) :: (.box bi [.func (.func 177) #[] #[pp bq 0]] 170) :: (.box bq [.slice zg parts.length xQ] 27) :: (.box bo [pp bl 0] 219) :: (.box bl [.slice VF VA VE] 221) :: (.box bc [.slice racs cs.length rccs] 22) :: (.box bf [.func (.func 201) #[] #[pp bp 0,pp bi 0,pp bo 0,pp bc 0,pp bf 0]] 222) :: (rr VF VA VE 22 1 Vw) :: (rr racs cs.length rccs 2 1 (cs_1.map (Value.int .i64))) :: ps) ((sF false Frest arest crest rest) :: (sF false Fparts zg xQ parts) :: (zk true QP Vw out_lists) :: Γ)) ((jg (parts[i]!) rest+1 - (0:Int)).toNat) ⟨_,0,raout,out.length,rcout,out,rxout,rFout,cs,uE6,(by exact pack_startI p2),qf,ql,(by rfl),(by rw [← pack_startI p2];exact p2),rfl,N,H⟩ ?_
 clear H N
 rintro m' ρ w66 ⟨xN,n,VF,VA,VE,out_lists,Vw,QP,cs_1,rfl,rfl,i0,j1,j2,j3,rfl,N,H⟩
 have hn_out_lists:=H.zo (α:=yLI) 7 rfl 2 rfl qj
 have hn_cs:=H.Xk 8 rfl
 refine zcc (sp (yI n) (oL rfl (H.cell 0 rfl rfl) (sp (yI i) ?_)))
 obtain ⟨b67,o68,rfl⟩:=H.addr 1 rfl qf
 obtain ⟨ae70,ce70,Fe70,H⟩:=H.vH 1 rfl i i qf qf qf
 refine oI rfl rfl (oL rfl (H.xR 1 rfl 0 rfl) (sp (.slice arest rest.length crest) ?_))
 obtain ⟨t1,t2,t3,t4,t5,t6⟩:=p1.times (k:=i) qf
 refine sw (oq (timesIn_ok _ (parts[i]!) rest (H.get 0 rfl).1 (H.get 2 rfl).1 qg qg) H fun w72 H=>sp (.bool (decide ((n:Int)≤(jg (parts[i]!) rest)))) (zjn (cD rfl (fun h74=>?_) (fun h74=>?_))))
 ·skip
  refine qV (t_n (xU (qY (zcr (oL rfl (H.cell 5 rfl rfl) (sps [yI i,yI n] ?_))))))
  obtain ⟨b75,rfl⟩:=H.yP 8 rfl qf
  refine oI rfl rfl (sw (QW H 8 rfl n sizeOf2 rfl rfl (i:=i) qf qf fun w76 H=>?_))
  try dsimp only [List.set] at H
  refine zjn (xU ?_)
  refine c_drawK2 rfl H [0,1,2,3,5,6] [0,1,2,3] fun H=>?_
  have S:=H.jY [0,1,2,3,5,6] [0,1,2,3]
  refine tL 0 rfl rfl (fun _ h=>h.cell 5 rfl rfl) S ?_
  refine rtp 1 (yI i) S ?_
  refine rt 2 (yI (i+1)) (y_add i 1 rfl rfl qf) S ?_
  refine rtp 3 (.slice arest rest.length crest) S ?_
  refine tL 4 rfl rfl (fun _ h=>h.cell 0 rfl rfl) S ?_
  refine rtp 5 (yI i) S ?_
  refine tI 6 rfl rfl rfl S ?_
  refine tL 7 rfl rfl (fun _ h=>h.xR 1 rfl 0 rfl) S ?_
  refine rtp 8 (yI n) S ?_
  refine rt 9 (yI (-n)) (y_neg n rfl qf) S ?_
  refine ro 10 rfl ?_
  obtain ⟨u1,u2,u3,u4⟩:=p1.plus (k:=i) qf (n:=(n:Int)) qf qf
  have sz78:=H.base.size
  have lt79:=all_two (H.ltN (L:=[QP]) [4]) (H.ltK (K0.behind 5 rfl))
  refine oc (plus_ok _ rest (parts[i]!) (-n) (H.get 2 rfl).1 (H.get 0 rfl).1 qg qg qg) ?_
  rintro v83 w81 r83 x82
  replace H:=H.zC x82 r83
  obtain ⟨a84,c85,rfl,hc86,hm87⟩:=H.ji 0 rfl
  refine ⟨H.pick [1,2,3,4,6,7] [0,1,2,3],(ro 11 rfl ?_)⟩
  obtain ⟨G88,N,hn89,H⟩:=H.vP 0 rfl N (fun F hF b hb=>(List.mem_append.1 (show F∈[QP]++Ns from hF)).elim (fun h=>(H.yg (L:=[QP]) [4]) F h b hb) fun h=>H.awayK (K0.behind 5 rfl) F h b hb)
  try dsimp only [List.set] at H
  replace H:=H.unfreeI 0 rfl
  have H1:St W0 w81 ((.box bp [.slice (aa b67 o68) parts.length xQ] 27) :: (.box bi [.func (.func 177) #[] #[pp bq 0]] 170) :: (.box bq [.slice (aa b67 o68) parts.length xQ] 27) :: (.box bo [pp bl 0] 219) :: (.box bl [.slice VF VA VE] 221) :: (.box bc [.slice (aa b75 0) cs.length rccs] 22) :: (.box bf [.func (.func 201) #[] #[pp bp 0,pp bi 0,pp bo 0,pp bc 0,pp bf 0]] 222) :: (rr VF VA VE 22 1 Vw) :: (rr (aa b75 0) cs.length rccs 2 1 ((cs_1.set i n).map (Value.int .i64))) :: (rr none 0 0 0 1 []) :: ps) ((sF false G88 a84 c85 (vY rest (parts[i]!) (-n))) :: (sF false Fparts (aa b67 o68) xQ parts) :: (zk true QP Vw (gath out (begins (cs.take i) (jm parts (f - 1) i rest n)))) :: (sF false G88 a84 c85 (vY rest (parts[i]!) (-n))) :: (sF true G88 a84 c85 (vY rest (parts[i]!) (-n))) :: (sF false Fe70 ae70 ce70 (parts[i]!)) :: (atF b67 (o68+(i:Int).toNat * 1) [.slice ae70 ((parts[i]!).length) ce70]) :: (sF false Frest arest crest rest) :: (sF false Fparts (aa b67 o68) xQ parts) :: Γ):=H.Xz 10 7 [1,2,3,4,5,6,7,8,9,0] [0,5,6,0,1,2,3,4,5] qo qo
  have N1:Fresh _ (QP :: G88 :: Ns):=(N.Xz 2 [1,0] qo)
  have K1:Kept (Ns) ((sF false G88 a84 c85 (vY rest (parts[i]!) (-n))) :: (sF true G88 a84 c85 (vY rest (parts[i]!) (-n))) :: (sF false Fe70 ae70 ce70 (parts[i]!)) :: (atF b67 (o68+(i:Int).toNat * 1) [.slice ae70 ((parts[i]!).length) ce70]) :: (sF false Frest arest crest rest) :: (sF false Fparts (aa b67 o68) xQ parts) :: Γ):=K0.behind 6 rfl
  replace K1:=K1.cons (F:=G88) 0 rfl rfl
  refine o_callF #[yI (i+1),.slice a84 ((vY rest (parts[i]!) (-n)).length) c85,pp bp 0,pp bi 0,pp bo 0,pp bc 0,pp bf 0] rfl rfl call201 (IH (f - 1) qf (i+1) (vY rest (parts[i]!) (-n)) parts (gath out (begins (cs.take i) (jm parts (f - 1) i rest n))) (cs_1.set i n) a84 c85 G88 (aa b67 o68) xQ Fparts bp bi bq bo bl bc bf VF VA VE Vw QP (aa b75 0) cs.length rccs H1 N1 K1 qf (by first | assumption | exact u4) (by first | assumption | exact j3 | (simp;done)) (by first | assumption | (rw [List.length_set];exact j1) | (simp;done))) ?_
  clear H H1 N1 K1
  rintro _ w90 ⟨cs91,raout91,rnout91,rcout91,rxout91,rFout91,hx92,hx93,rfl,N,H⟩
  obtain rfl:=H.zo (α:=yLI) 7 rfl 2 rfl qj
  refine ⟨H.pick [0,1,2,3,5,6] [5,6,7,8],(rtp 12 (.bool (!(dec ((gath (gath out (begins (cs.take i) (jm parts (f - 1) i rest n))) (begins ((cs_1.set i n).take (i+1)) (packs parts (parts.length - (i+1)) (i+1) (vY rest (parts[i]!) (-n))))).length≤2000)))) (H.pick [0,1,2,3,5,6] [5,6,7,8]) ?_)⟩
  refine xH qh (t_n (cQ rfl (fun h94=>?_) (fun h94=>?_)))
  ·skip
   refine zcr (sp (.bool false) (zjr (zr5 (ret1 (.bool false) rfl rfl ⟨_,rfl,?_⟩))))
   have e1:=pack_stepI (out:=out) p0 qf j1 j2 j3
   have e2:=‹¬ (gath (gath _ _) _).length≤2000›
   rw [e1] at e2
   rw [pack_endI (n:=n+1) p0 qf qf qf (.inr e2),← e1,xn (by rw [e1];exact e2)]
   exact ⟨cs91,raout91,(gath (gath out (begins (cs.take i) (jm parts (f - 1) i rest n))) (begins ((cs_1.set i n).take (i+1)) (packs parts (parts.length - (i+1)) (i+1) (vY rest (parts[i]!) (-n))))).length,rcout91,rxout91,rFout91,(by first | rfl | omega | (have:=‹_=(List.set _ _ _).length›;rw [List.length_set] at this;omega)),(by first | rfl | assumption | exact pack_keep ‹_› j2),rfl,(N.Xz 2 [0] qo),H.Xz 10 9 [0,1,2,3,4,5,6,7,8] [7,1,2] qo qo⟩
  refine qV (b_n (t_n (xX (sp (yI n) (sw (zD n 1 rfl rfl qf (sp (yI (n+1)) (xY ?_))))))))
  refine xg (m' :=(jg (parts[i]!) rest+1 - ((n+1):Int)).toNat) qf ⟨_,n+1,raout91,(gath (gath out (begins (cs.take i) (jm parts (f - 1) i rest n))) (begins ((cs_1.set i n).take (i+1)) (packs parts (parts.length - (i+1)) (i+1) (vY rest (parts[i]!) (-n))))).length,rcout91,(gath (gath out (begins (cs.take i) (jm parts (f - 1) i rest n))) (begins ((cs_1.set i n).take (i+1)) (packs parts (parts.length - (i+1)) (i+1) (vY rest (parts[i]!) (-n))))),rxout91,rFout91,cs91,uE6,?_,?_,?_,?_,?_,rfl,(N.Xz 2 [0] qo),H.Xz 10 9 [0,1,2,3,4,5,6,7,8] [7,8,2] qo qo⟩
  · exact pack_stepI p0 qf j1 j2 j3
  · omega
  · have:=‹_=(List.set _ _ _).length›;rw [List.length_set] at this;omega
  · exact pack_keep ‹_› j2
  · rw [← pack_stepI p0 qf j1 j2 j3];assumption
 refine zx4 (zcr (sp (.bool true) (zjr (ret1 (.bool true) rfl rfl ⟨_,rfl,?_⟩))))
 rw [pack_endI (f:=f) (n:=n) p0 qf i0 qf (.inl qf),jP j3]
 exact ⟨cs_1,VF,VA,VE,Vw,QP,(by first | rfl | omega | (have:=‹_=(List.set _ _ _).length›;rw [List.length_set] at this;omega)),(by first | rfl | assumption | exact pack_keep ‹_› j2),rfl,N,H.Xz 9 5 [0,1,2,3,4,5,6,7,8] [2,3,4] qo qo⟩

theorem packFrom_ok (f:Nat):packFrom_ok_S f:=Nat.strongRecOn (motive:=packFrom_ok_S) f fun f IH=>by unfold packFrom_ok_S;intros;apply packFrom_ok_step f IH <;> assumption

theorem maxPack_ok (w:World) (b:yLI) (parts:yLL) {ab:yOA} {Fb:yLN} {zg:yOA} {xQ:Nat} {Fparts:yLN} (hb:qP.rep w Fb [.slice ab b.length cb] b) (hparts:qP.rep w Fparts [.slice zg parts.length xQ] parts) (p0:Vm parts b) (p1:1≤parts.length):Calls Tryz.prog 142 #[.slice ab b.length cb,.slice zg parts.length xQ] w (Ret (fun v w' =>∃ (ra0:yOA) (rn0:Nat) (rc0:Nat) (rx0:List Value) (rF0:yLN),v=.tuple #[.slice ra0 rn0 rc0,yI ((zW b parts).2)]∧Fresh w.heap.size [rF0]∧St w w' [rr ra0 rn0 rc0 22 1 rx0] [zk true rF0 rx0 ((zW b parts).1)]) w):=by
 refine en func142 ntmps142 ?_
 have H:=((St.start w).arg hparts).arg hb
 have nhb:=qN hb
 have nhparts:=qN hparts
 clear hb hparts
 have N:=Fresh.nil w.heap.size
 have p3:=p0.small
 have p4:=p0.smallB
 refine zcr (sw (vz H [.slice zg parts.length xQ] fun b1 w2 H=>sps [yN,yI 0] (zjc (sp (.slice ab b.length cb) (oL rfl (H.cell 0 rfl rfl) (sp (.func (.func 177) #[] #[pp b1 0]) (sw (zZ #[.slice ab b.length cb,.slice zg parts.length xQ,.func (.func 177) #[] #[pp b1 0]] rfl rfl call176 (en func176 ntmps176 ?_)))))))))
 refine zcr (sw (vz H [.slice zg parts.length xQ] fun b3 w4 H=>sw (vz H [.func (.func 177) #[] #[pp b1 0]] fun b5 w6 H=>sps [yN,yI 0] (zjcc (sp (.slice ab b.length cb) (oL rfl (H.cell 1 rfl rfl) (sw (oq (bagAndParts_ok _ b parts (H.get 0 rfl).1 (H.get 1 rfl).1 qg qg) H fun w8 H=>sp (yI 0) (zjc (sps [yI 0,.bool false] (zjn (xF false rfl (fun h=>absurd h qj) (fun _=>qV (t_n (zcc (sp (.slice ab b.length cb) ?_))))))))))))))))
 refine sw (oq (XT _ b (H.get 0 rfl).1 (by first | assumption | exact vF ql | exact yV ql)) H fun w10 H=>sp (.bool (decide ((X0 b:Int) > 16))) (zjn (cD rfl (fun h12=>?_) (fun h12=>?_))))
 ·skip
  refine zcr (sps [yN,yI 3] (zjr (t_r (ret2 yN (yI 3) rfl rfl rfl ⟨_,rfl,?_⟩))))
  replace H:=H.erases [1,0]
  dsimp only [vJ,List.eraseIdx] at H
  refine sps [yN,yI 3,yN,yI 3] (zjr ?_)
  replace H:=H.nilRow 22 1
  replace H:=H.vN (α:=yLI)
  refine ret2 yN (yI 3) rfl rfl rfl ⟨_,rfl,?_,H.base⟩
  first | rw [all_a ql] | rw [all_bI (cs:=(List.replicate parts.length (0:Int))) ql qf]
  exact ⟨none,0,0,[],[],rfl,N.emp,H.pick [0] [0]⟩
 refine qV (t_n (xU ?_))
 refine c_cut (fun ρ w17=>∃ (xN:Env) (b13:Nat) (b14:Nat) (b15:Nat) (b16:Nat),ρ=upd (upd (upd (upd (upd xN 0 (.slice ab b.length cb)) 4 (pp b3 0)) 5 (pp b5 0)) 9 (pp b13 0)) 10 (pp b14 0)∧Fresh w.heap.size []∧St w w17 [.box b14 [.slice (aa b15 0) parts.length parts.length] 22,.box b13 [pp b16 0] 219,rr (aa b15 0) parts.length parts.length 2 1 ((List.replicate parts.length (0:Int)).map (Value.int .i64)),.box b16 [yN] 221,.box b5 [.func (.func 177) #[] #[pp b1 0]] 170,.box b3 [.slice zg parts.length xQ] 27,.box b1 [.slice zg parts.length xQ] 27] [sF false Fb ab cb b,sF false Fparts zg xQ parts]) ?_ ?_
 ·skip
  refine ja rfl H fun H=>?_
  refine Xo (fun ρ w23=>∃ (xN:Env) (b19:Nat) (b20:Nat) (b21:Nat),ρ=upd (upd (upd (upd (upd (upd (upd xN 0 (.slice ab b.length cb)) 4 (pp b3 0)) 5 (pp b5 0)) 9 (pp b20 0)) 10 (pp b21 0)) 22 (pp b19 0)) 24 (yI parts.length)∧Fresh w.heap.size []∧St w w23 [.box b21 [yN] 22,.box b20 [.pointer none] 219,.box b19 [yN] 221,.box b5 [.func (.func 177) #[] #[pp b1 0]] 170,.box b3 [.slice zg parts.length xQ] 27,.box b1 [.slice zg parts.length xQ] 27] [sF false Fb ab cb b,sF false Fparts zg xQ parts]) 3 #[true,true,true,true,false,true,true,false,false] ?_ fun L22=>?_
  ·skip
   rintro ρ w24 ⟨xN,b19,b20,b21,rfl,N,H⟩
   refine vS [4,7] qh qm (jA rfl ?_ (jA rfl ?_ vT))
   ·skip
    refine jr H underlying22 ti2 parts.length rfl rfl qf qf qf fun b25 w26 H=>⟨H.pick [4,5,6] [0,1],(ro 7 rfl (xP H 2 [pp b19 0] sizeOf219 fun w27 H=>⟨H.pick [4,5,6] [0,1],(ro 8 rfl (xP H 1 [.slice (aa b25 0) parts.length parts.length] sizeOf22 fun w28 H=>⟨H.pick [4,5,6] [0,1],(xH qh ((meet ⟨_,b20,b21,b25,b19,uE5,N,H.pick [1,2,0,3,4,5,6] [0,1]⟩)))⟩))⟩))⟩
   refine xP H 1 [pp b19 0] sizeOf219 fun w29 H=>⟨H.pick [3,4,5] [0,1],(ro 4 rfl (jr H underlying22 ti2 parts.length rfl rfl qf qf qf fun b30 w31 H=>⟨H.pick [4,5,6] [0,1],(ro 8 rfl (xP H 1 [.slice (aa b30 0) parts.length parts.length] sizeOf22 fun w32 H=>⟨H.pick [4,5,6] [0,1],(xH qh ((meet ⟨_,b20,b21,b30,b19,uE5,N,H.pick [1,2,0,3,4,5,6] [0,1]⟩)))⟩))⟩))⟩
  refine Xo (fun ρ w36=>∃ (xN:Env) (b33:Nat) (b34:Nat),ρ=upd (upd (upd (upd (upd xN 0 (.slice ab b.length cb)) 4 (pp b3 0)) 5 (pp b5 0)) 22 (pp b33 0)) 25 (.slice (aa b34 0) parts.length parts.length)∧Fresh w.heap.size []∧St w w36 [rr (aa b34 0) parts.length parts.length 2 1 ((List.replicate parts.length (0:Int)).map (Value.int .i64)),.box b33 [yN] 221,.box b5 [.func (.func 177) #[] #[pp b1 0]] 170,.box b3 [.slice zg parts.length xQ] 27,.box b1 [.slice zg parts.length xQ] 27] [sF false Fb ab cb b,sF false Fparts zg xQ parts]) 4 #[true,true,true,true,true,false,false,false,false] ?_ fun L35=>?_
  ·skip
   rintro ρ w37 ⟨xN,b33,b34,rfl,N,H⟩
   refine vS [5,6] qh qm (jA rfl ?_ (jA rfl ?_ vT))
   ·skip
    refine xI H ti219 [.pointer none] fun b38 w39 H=>⟨H.pick [3,4,5] [0,1],(ro 6 rfl (xI H ti22 [yN] fun b40 w41 H=>⟨H.pick [4,5,6] [0,1],(ro 7 rfl (xP H 1 [pp b33 0] sizeOf219 fun w42 H=>⟨H.pick [4,5,6] [0,1],(ro 8 rfl (xP H 0 [.slice (aa b34 0) parts.length parts.length] sizeOf22 fun w43 H=>⟨H.pick [4,5,6] [0,1],(xH qh ((meet ⟨_,b38,b40,b34,b33,uE5,N,H⟩)))⟩))⟩))⟩))⟩
   refine xI H ti22 [yN] fun b44 w45 H=>⟨H.pick [3,4,5] [0,1],(ro 5 rfl (xI H ti219 [.pointer none] fun b46 w47 H=>⟨H.pick [4,5,6] [0,1],(ro 7 rfl (xP H 0 [pp b33 0] sizeOf219 fun w48 H=>⟨H.pick [4,5,6] [0,1],(ro 8 rfl (xP H 1 [.slice (aa b34 0) parts.length parts.length] sizeOf22 fun w49 H=>⟨H.pick [4,5,6] [0,1],(xH qh ((meet ⟨_,b46,b44,b34,b33,uE5,N,H.pick [1,0,2,3,4,5,6] [0,1]⟩)))⟩))⟩))⟩))⟩
  refine Xo (fun ρ w53=>∃ (xN:Env) (b50:Nat) (b51:Nat),ρ=upd (upd (upd (upd (upd (upd xN 0 (.slice ab b.length cb)) 4 (pp b3 0)) 5 (pp b5 0)) 9 (pp b51 0)) 22 (pp b50 0)) 24 (yI parts.length)∧Fresh w.heap.size []∧St w w53 [.box b51 [.pointer none] 219,.box b50 [yN] 221,.box b5 [.func (.func 177) #[] #[pp b1 0]] 170,.box b3 [.slice zg parts.length xQ] 27,.box b1 [.slice zg parts.length xQ] 27] [sF false Fb ab cb b,sF false Fparts zg xQ parts]) 4 #[true,true,true,true,false,true,false,false,false] ?_ fun L52=>?_
  ·skip
   rintro ρ w54 ⟨xN,b50,b51,rfl,N,H⟩
   refine vS [4,6] qh qm (jA rfl ?_ (jA rfl ?_ vT))
   ·skip
    refine jr H underlying22 ti2 parts.length rfl rfl qf qf qf fun b55 w56 H=>⟨H.pick [3,4,5] [0,1],(ro 6 rfl (xI H ti22 [yN] fun b57 w58 H=>⟨H.pick [4,5,6] [0,1],(ro 7 rfl (xP H 2 [pp b50 0] sizeOf219 fun w59 H=>⟨H.pick [4,5,6] [0,1],(ro 8 rfl (xP H 0 [.slice (aa b55 0) parts.length parts.length] sizeOf22 fun w60 H=>⟨H.pick [4,5,6] [0,1],(xH qh ((meet ⟨_,b51,b57,b55,b50,uE5,N,H.pick [0,2,1,3,4,5,6] [0,1]⟩)))⟩))⟩))⟩))⟩
   refine xI H ti22 [yN] fun b61 w62 H=>⟨H.pick [3,4,5] [0,1],(Qe L22 ⟨_,b50,b51,b61,uE7,N,H⟩)⟩
  refine Xo (fun ρ w66=>∃ (xN:Env) (b63:Nat) (b64:Nat),ρ=upd (upd (upd (upd (upd (upd xN 0 (.slice ab b.length cb)) 4 (pp b3 0)) 5 (pp b5 0)) 10 (pp b64 0)) 22 (pp b63 0)) 24 (yI parts.length)∧Fresh w.heap.size []∧St w w66 [.box b64 [yN] 22,.box b63 [yN] 221,.box b5 [.func (.func 177) #[] #[pp b1 0]] 170,.box b3 [.slice zg parts.length xQ] 27,.box b1 [.slice zg parts.length xQ] 27] [sF false Fb ab cb b,sF false Fparts zg xQ parts]) 4 #[true,true,true,true,false,false,true,false,false] ?_ fun L65=>?_
  ·skip
   rintro ρ w67 ⟨xN,b63,b64,rfl,N,H⟩
   refine vS [4,5] qh qm (jA rfl ?_ (jA rfl ?_ vT))
   ·skip
    refine jr H underlying22 ti2 parts.length rfl rfl qf qf qf fun b68 w69 H=>⟨H.pick [3,4,5] [0,1],(ro 5 rfl (xI H ti219 [.pointer none] fun b70 w71 H=>⟨H.pick [4,5,6] [0,1],(ro 7 rfl (xP H 0 [pp b63 0] sizeOf219 fun w72 H=>⟨H.pick [4,5,6] [0,1],(ro 8 rfl (xP H 2 [.slice (aa b68 0) parts.length parts.length] sizeOf22 fun w73 H=>⟨H.pick [4,5,6] [0,1],(xH qh ((meet ⟨_,b70,b64,b68,b63,uE5,N,H.pick [2,0,1,3,4,5,6] [0,1]⟩)))⟩))⟩))⟩))⟩
   refine xI H ti219 [.pointer none] fun b74 w75 H=>⟨H.pick [3,4,5] [0,1],(Qe L22 ⟨_,b63,b74,b64,uE7,N,H.pick [1,0,2,3,4,5] [0,1]⟩)⟩
  refine Xo (fun ρ w79=>∃ (xN:Env) (b76:Nat) (b77:Nat),ρ=upd (upd (upd (upd (upd (upd xN 0 (.slice ab b.length cb)) 4 (pp b3 0)) 5 (pp b5 0)) 9 (pp b77 0)) 21 (.agg #[yN])) 25 (.slice (aa b76 0) parts.length parts.length)∧Fresh w.heap.size []∧St w w79 [.box b77 [.pointer none] 219,rr (aa b76 0) parts.length parts.length 2 1 ((List.replicate parts.length (0:Int)).map (Value.int .i64)),.box b5 [.func (.func 177) #[] #[pp b1 0]] 170,.box b3 [.slice zg parts.length xQ] 27,.box b1 [.slice zg parts.length xQ] 27] [sF false Fb ab cb b,sF false Fparts zg xQ parts]) 4 #[true,false,true,true,true,true,false,false,false] ?_ fun L78=>?_
  ·skip
   rintro ρ w80 ⟨xN,b76,b77,rfl,N,H⟩
   refine vS [1,6] qh qm (jA rfl ?_ (jA rfl ?_ vT))
   ·skip
    refine vz H [yN] fun b81 w82 H=>⟨H.pick [3,4,5] [0,1],(ro 6 rfl (xI H ti22 [yN] fun b83 w84 H=>⟨H.pick [4,5,6] [0,1],(ro 7 rfl (xP H 2 [pp b81 0] sizeOf219 fun w85 H=>⟨H.pick [4,5,6] [0,1],(ro 8 rfl (xP H 0 [.slice (aa b76 0) parts.length parts.length] sizeOf22 fun w86 H=>⟨H.pick [4,5,6] [0,1],(xH qh ((meet ⟨_,b77,b83,b76,b81,uE5,N,H.pick [0,2,3,1,4,5,6] [0,1]⟩)))⟩))⟩))⟩))⟩
   refine xI H ti22 [yN] fun b87 w88 H=>⟨H.pick [3,4,5] [0,1],(ro 1 rfl (vz H [yN] fun b89 w90 H=>⟨H.pick [4,5,6] [0,1],(ro 7 rfl (xP H 2 [pp b89 0] sizeOf219 fun w91 H=>⟨H.pick [4,5,6] [0,1],(ro 8 rfl (xP H 1 [.slice (aa b76 0) parts.length parts.length] sizeOf22 fun w92 H=>⟨H.pick [4,5,6] [0,1],(xH qh ((meet ⟨_,b77,b87,b76,b89,uE5,N,H.pick [1,2,3,0,4,5,6] [0,1]⟩)))⟩))⟩))⟩))⟩
  refine Xo (fun ρ w96=>∃ (xN:Env) (b93:Nat) (b94:Nat),ρ=upd (upd (upd (upd (upd (upd xN 0 (.slice ab b.length cb)) 4 (pp b3 0)) 5 (pp b5 0)) 10 (pp b94 0)) 21 (.agg #[yN])) 25 (.slice (aa b93 0) parts.length parts.length)∧Fresh w.heap.size []∧St w w96 [.box b94 [yN] 22,rr (aa b93 0) parts.length parts.length 2 1 ((List.replicate parts.length (0:Int)).map (Value.int .i64)),.box b5 [.func (.func 177) #[] #[pp b1 0]] 170,.box b3 [.slice zg parts.length xQ] 27,.box b1 [.slice zg parts.length xQ] 27] [sF false Fb ab cb b,sF false Fparts zg xQ parts]) 4 #[true,false,true,true,true,false,true,false,false] ?_ fun L95=>?_
  ·skip
   rintro ρ w97 ⟨xN,b93,b94,rfl,N,H⟩
   refine vS [1,5] qh qm (jA rfl ?_ (jA rfl ?_ vT))
   ·skip
    refine vz H [yN] fun b98 w99 H=>⟨H.pick [3,4,5] [0,1],(ro 5 rfl (xI H ti219 [.pointer none] fun b100 w101 H=>⟨H.pick [4,5,6] [0,1],(ro 7 rfl (xP H 0 [pp b98 0] sizeOf219 fun w102 H=>⟨H.pick [4,5,6] [0,1],(ro 8 rfl (xP H 2 [.slice (aa b93 0) parts.length parts.length] sizeOf22 fun w103 H=>⟨H.pick [4,5,6] [0,1],(xH qh ((meet ⟨_,b100,b94,b93,b98,uE5,N,H.pick [2,0,3,1,4,5,6] [0,1]⟩)))⟩))⟩))⟩))⟩
   refine xI H ti219 [.pointer none] fun b104 w105 H=>⟨H.pick [3,4,5] [0,1],(ro 1 rfl (vz H [yN] fun b106 w107 H=>⟨H.pick [4,5,6] [0,1],(ro 7 rfl (xP H 1 [pp b106 0] sizeOf219 fun w108 H=>⟨H.pick [4,5,6] [0,1],(ro 8 rfl (xP H 2 [.slice (aa b93 0) parts.length parts.length] sizeOf22 fun w109 H=>⟨H.pick [4,5,6] [0,1],(xH qh ((meet ⟨_,b104,b94,b93,b106,uE5,N,H.pick [2,1,3,0,4,5,6] [0,1]⟩)))⟩))⟩))⟩))⟩
  refine Xo (fun ρ w113=>∃ (xN:Env) (b110:Nat) (b111:Nat),ρ=upd (upd (upd (upd (upd (upd (upd xN 0 (.slice ab b.length cb)) 4 (pp b3 0)) 5 (pp b5 0)) 9 (pp b110 0)) 10 (pp b111 0)) 21 (.agg #[yN])) 24 (yI parts.length)∧Fresh w.heap.size []∧St w w113 [.box b111 [yN] 22,.box b110 [.pointer none] 219,.box b5 [.func (.func 177) #[] #[pp b1 0]] 170,.box b3 [.slice zg parts.length xQ] 27,.box b1 [.slice zg parts.length xQ] 27] [sF false Fb ab cb b,sF false Fparts zg xQ parts]) 4 #[true,false,true,true,false,true,true,false,false] ?_ fun L112=>?_
  ·skip
   rintro ρ w114 ⟨xN,b110,b111,rfl,N,H⟩
   refine vS [1,4] qh qm (jA rfl ?_ (jA rfl ?_ vT))
   ·skip
    refine vz H [yN] fun b115 w116 H=>⟨H.pick [3,4,5] [0,1],(Qe L22 ⟨_,b115,b110,b111,uE7,N,H.pick [1,2,0,3,4,5] [0,1]⟩)⟩
   refine jr H underlying22 ti2 parts.length rfl rfl qf qf qf fun b117 w118 H=>⟨H.pick [3,4,5] [0,1],(ro 1 rfl (vz H [yN] fun b119 w120 H=>⟨H.pick [4,5,6] [0,1],(ro 7 rfl (xP H 3 [pp b119 0] sizeOf219 fun w121 H=>⟨H.pick [4,5,6] [0,1],(ro 8 rfl (xP H 2 [.slice (aa b117 0) parts.length parts.length] sizeOf22 fun w122 H=>⟨H.pick [4,5,6] [0,1],(xH qh ((meet ⟨_,b110,b111,b117,b119,uE5,N,H.pick [2,3,1,0,4,5,6] [0,1]⟩)))⟩))⟩))⟩))⟩
  refine Xo (fun ρ w125=>∃ (xN:Env) (b123:Nat),ρ=upd (upd (upd (upd (upd xN 0 (.slice ab b.length cb)) 4 (pp b3 0)) 5 (pp b5 0)) 21 (.agg #[yN])) 25 (.slice (aa b123 0) parts.length parts.length)∧Fresh w.heap.size []∧St w w125 [rr (aa b123 0) parts.length parts.length 2 1 ((List.replicate parts.length (0:Int)).map (Value.int .i64)),.box b5 [.func (.func 177) #[] #[pp b1 0]] 170,.box b3 [.slice zg parts.length xQ] 27,.box b1 [.slice zg parts.length xQ] 27] [sF false Fb ab cb b,sF false Fparts zg xQ parts]) 5 #[true,false,true,true,true,false,false,false,false] ?_ fun L124=>?_
  ·skip
   rintro ρ w126 ⟨xN,b123,rfl,N,H⟩
   refine vS [1,5,6] qh qm (jA rfl ?_ (jA rfl ?_ (jA rfl ?_ vT)))
   ·skip
    refine vz H [yN] fun b127 w128 H=>⟨H.pick [2,3,4] [0,1],(Qe L35 ⟨_,b127,b123,uE5,N,H.pick [1,0,2,3,4] [0,1]⟩)⟩
   ·skip
    refine xI H ti219 [.pointer none] fun b129 w130 H=>⟨H.pick [2,3,4] [0,1],(Qe L78 ⟨_,b123,b129,uE6,N,H⟩)⟩
   refine xI H ti22 [yN] fun b131 w132 H=>⟨H.pick [2,3,4] [0,1],(Qe L95 ⟨_,b123,b131,uE6,N,H⟩)⟩
  refine Xo (fun ρ w135=>∃ (xN:Env) (b133:Nat),ρ=upd (upd (upd (upd (upd (upd xN 0 (.slice ab b.length cb)) 4 (pp b3 0)) 5 (pp b5 0)) 9 (pp b133 0)) 21 (.agg #[yN])) 24 (yI parts.length)∧Fresh w.heap.size []∧St w w135 [.box b133 [.pointer none] 219,.box b5 [.func (.func 177) #[] #[pp b1 0]] 170,.box b3 [.slice zg parts.length xQ] 27,.box b1 [.slice zg parts.length xQ] 27] [sF false Fb ab cb b,sF false Fparts zg xQ parts]) 5 #[true,false,true,true,false,true,false,false,false] ?_ fun L134=>?_
  ·skip
   rintro ρ w136 ⟨xN,b133,rfl,N,H⟩
   refine vS [1,4,6] qh qm (jA rfl ?_ (jA rfl ?_ (jA rfl ?_ vT)))
   ·skip
    refine vz H [yN] fun b137 w138 H=>⟨H.pick [2,3,4] [0,1],(Qe L52 ⟨_,b137,b133,uE6,N,H.pick [1,0,2,3,4] [0,1]⟩)⟩
   ·skip
    refine jr H underlying22 ti2 parts.length rfl rfl qf qf qf fun b139 w140 H=>⟨H.pick [2,3,4] [0,1],(Qe L78 ⟨_,b139,b133,uE6,N,H.pick [1,0,2,3,4] [0,1]⟩)⟩
   refine xI H ti22 [yN] fun b141 w142 H=>⟨H.pick [2,3,4] [0,1],(Qe L112 ⟨_,b133,b141,uE7,N,H⟩)⟩
  refine Xo (fun ρ w145=>∃ (xN:Env) (b143:Nat),ρ=upd (upd (upd (upd (upd (upd xN 0 (.slice ab b.length cb)) 4 (pp b3 0)) 5 (pp b5 0)) 10 (pp b143 0)) 21 (.agg #[yN])) 24 (yI parts.length)∧Fresh w.heap.size []∧St w w145 [.box b143 [yN] 22,.box b5 [.func (.func 177) #[] #[pp b1 0]] 170,.box b3 [.slice zg parts.length xQ] 27,.box b1 [.slice zg parts.length xQ] 27] [sF false Fb ab cb b,sF false Fparts zg xQ parts]) 5 #[true,false,true,true,false,false,true,false,false] ?_ fun L144=>?_
  ·skip
   rintro ρ w146 ⟨xN,b143,rfl,N,H⟩
   refine vS [1,4,5] qh qm (jA rfl ?_ (jA rfl ?_ (jA rfl ?_ vT)))
   ·skip
    refine vz H [yN] fun b147 w148 H=>⟨H.pick [2,3,4] [0,1],(Qe L65 ⟨_,b147,b143,uE6,N,H.pick [1,0,2,3,4] [0,1]⟩)⟩
   ·skip
    refine jr H underlying22 ti2 parts.length rfl rfl qf qf qf fun b149 w150 H=>⟨H.pick [2,3,4] [0,1],(Qe L95 ⟨_,b149,b143,uE6,N,H.pick [1,0,2,3,4] [0,1]⟩)⟩
   refine xI H ti219 [.pointer none] fun b151 w152 H=>⟨H.pick [2,3,4] [0,1],(Qe L112 ⟨_,b151,b143,uE7,N,H.pick [1,0,2,3,4] [0,1]⟩)⟩
  refine Xo (fun ρ w156=>∃ (xN:Env) (b153:Nat) (b154:Nat),ρ=upd (upd (upd (upd (upd xN 0 (.slice ab b.length cb)) 4 (pp b3 0)) 5 (pp b5 0)) 9 (pp b154 0)) 25 (.slice (aa b153 0) parts.length parts.length)∧Fresh w.heap.size []∧St w w156 [.box b154 [.pointer none] 219,rr (aa b153 0) parts.length parts.length 2 1 ((List.replicate parts.length (0:Int)).map (Value.int .i64)),.box b5 [.func (.func 177) #[] #[pp b1 0]] 170,.box b3 [.slice zg parts.length xQ] 27,.box b1 [.slice zg parts.length xQ] 27] [sF false Fb ab cb b,sF false Fparts zg xQ parts]) 5 #[false,false,true,true,true,true,false,false,false] ?_ fun L155=>?_
  ·skip
   rintro ρ w157 ⟨xN,b153,b154,rfl,N,H⟩
   refine vS [0,6] qh qm (jA rfl ?_ (jA rfl ?_ vT))
   ·skip
    refine jk [yN] [] (⟨H.pick [2,3,4] [0,1],(Qe L78 ⟨_,b153,b154,uE6,N,H⟩)⟩)
   refine xI H ti22 [yN] fun b158 w159 H=>⟨H.pick [3,4,5] [0,1],(ro 0 rfl (jk [yN] [] (⟨H.pick [3,4,5] [0,1],(ro 1 rfl (vz H [yN] fun b160 w161 H=>⟨H.pick [4,5,6] [0,1],(ro 7 rfl (xP H 2 [pp b160 0] sizeOf219 fun w162 H=>⟨H.pick [4,5,6] [0,1],(ro 8 rfl (xP H 1 [.slice (aa b153 0) parts.length parts.length] sizeOf22 fun w163 H=>⟨H.pick [4,5,6] [0,1],(xH qh ((meet ⟨_,b154,b158,b153,b160,uE5,N,H.pick [1,2,3,0,4,5,6] [0,1]⟩)))⟩))⟩))⟩))⟩)))⟩
  refine Xo (fun ρ w167=>∃ (xN:Env) (b164:Nat) (b165:Nat),ρ=upd (upd (upd (upd (upd xN 0 (.slice ab b.length cb)) 4 (pp b3 0)) 5 (pp b5 0)) 10 (pp b165 0)) 25 (.slice (aa b164 0) parts.length parts.length)∧Fresh w.heap.size []∧St w w167 [.box b165 [yN] 22,rr (aa b164 0) parts.length parts.length 2 1 ((List.replicate parts.length (0:Int)).map (Value.int .i64)),.box b5 [.func (.func 177) #[] #[pp b1 0]] 170,.box b3 [.slice zg parts.length xQ] 27,.box b1 [.slice zg parts.length xQ] 27] [sF false Fb ab cb b,sF false Fparts zg xQ parts]) 5 #[false,false,true,true,true,false,true,false,false] ?_ fun L166=>?_
  ·skip
   rintro ρ w168 ⟨xN,b164,b165,rfl,N,H⟩
   refine vS [0,5] qh qm (jA rfl ?_ (jA rfl ?_ vT))
   ·skip
    refine jk [yN] [] (⟨H.pick [2,3,4] [0,1],(Qe L95 ⟨_,b164,b165,uE6,N,H⟩)⟩)
   refine xI H ti219 [.pointer none] fun b169 w170 H=>⟨H.pick [3,4,5] [0,1],(ro 0 rfl (jk [yN] [] (⟨H.pick [3,4,5] [0,1],(ro 1 rfl (vz H [yN] fun b171 w172 H=>⟨H.pick [4,5,6] [0,1],(ro 7 rfl (xP H 1 [pp b171 0] sizeOf219 fun w173 H=>⟨H.pick [4,5,6] [0,1],(ro 8 rfl (xP H 2 [.slice (aa b164 0) parts.length parts.length] sizeOf22 fun w174 H=>⟨H.pick [4,5,6] [0,1],(xH qh ((meet ⟨_,b169,b165,b164,b171,uE5,N,H.pick [2,1,3,0,4,5,6] [0,1]⟩)))⟩))⟩))⟩))⟩)))⟩
  refine Xo (fun ρ w178=>∃ (xN:Env) (b175:Nat) (b176:Nat),ρ=upd (upd (upd (upd (upd (upd xN 0 (.slice ab b.length cb)) 4 (pp b3 0)) 5 (pp b5 0)) 9 (pp b175 0)) 10 (pp b176 0)) 24 (yI parts.length)∧Fresh w.heap.size []∧St w w178 [.box b176 [yN] 22,.box b175 [.pointer none] 219,.box b5 [.func (.func 177) #[] #[pp b1 0]] 170,.box b3 [.slice zg parts.length xQ] 27,.box b1 [.slice zg parts.length xQ] 27] [sF false Fb ab cb b,sF false Fparts zg xQ parts]) 5 #[false,false,true,true,false,true,true,false,false] ?_ fun L177=>?_
  ·skip
   rintro ρ w179 ⟨xN,b175,b176,rfl,N,H⟩
   refine vS [0,4] qh qm (jA rfl ?_ (jA rfl ?_ vT))
   ·skip
    refine jk [yN] [] (⟨H.pick [2,3,4] [0,1],(Qe L112 ⟨_,b175,b176,uE7,N,H⟩)⟩)
   refine jr H underlying22 ti2 parts.length rfl rfl qf qf qf fun b180 w181 H=>⟨H.pick [3,4,5] [0,1],(ro 0 rfl (jk [yN] [] (⟨H.pick [3,4,5] [0,1],(ro 1 rfl (vz H [yN] fun b182 w183 H=>⟨H.pick [4,5,6] [0,1],(ro 7 rfl (xP H 3 [pp b182 0] sizeOf219 fun w184 H=>⟨H.pick [4,5,6] [0,1],(ro 8 rfl (xP H 2 [.slice (aa b180 0) parts.length parts.length] sizeOf22 fun w185 H=>⟨H.pick [4,5,6] [0,1],(xH qh ((meet ⟨_,b175,b176,b180,b182,uE5,N,H.pick [2,3,1,0,4,5,6] [0,1]⟩)))⟩))⟩))⟩))⟩)))⟩
  refine tL 2 rfl rfl (fun _ h=>h.cell 1 rfl rfl) H ?_
  refine tN 3 rfl rfl H ?_
  refine vS [0,4,5,6] qh qm (jA rfl ?_ (jA rfl ?_ (jA rfl ?_ (jA rfl ?_ vT))))
  ·skip
   refine jk [yN] [] (⟨H,(vS [1,4,5,6] qh qm (jA rfl ?_ (jA rfl ?_ (jA rfl ?_ (jA rfl ?_ vT)))))⟩)
   ·skip
    refine vz H [yN] fun b186 w187 H=>⟨H.pick [1,2,3] [0,1],(vS [4,5,6] qh qm (jA rfl ?_ (jA rfl ?_ (jA rfl ?_ vT))))⟩
    ·skip
     refine jr H underlying22 ti2 parts.length rfl rfl qf qf qf fun b188 w189 H=>⟨H.pick [2,3,4] [0,1],(Qe L35 ⟨_,b186,b188,uE5,N,H⟩)⟩
    ·skip
     refine xI H ti219 [.pointer none] fun b190 w191 H=>⟨H.pick [2,3,4] [0,1],(Qe L52 ⟨_,b186,b190,uE6,N,H⟩)⟩
    refine xI H ti22 [yN] fun b192 w193 H=>⟨H.pick [2,3,4] [0,1],(Qe L65 ⟨_,b186,b192,uE6,N,H⟩)⟩
   ·skip
    refine jr H underlying22 ti2 parts.length rfl rfl qf qf qf fun b194 w195 H=>⟨H.pick [1,2,3] [0,1],(Qe L124 ⟨_,b194,uE5,N,H⟩)⟩
   ·skip
    refine xI H ti219 [.pointer none] fun b196 w197 H=>⟨H.pick [1,2,3] [0,1],(Qe L134 ⟨_,b196,uE6,N,H⟩)⟩
   refine xI H ti22 [yN] fun b198 w199 H=>⟨H.pick [1,2,3] [0,1],(Qe L144 ⟨_,b198,uE6,N,H⟩)⟩
  ·skip
   refine jr H underlying22 ti2 parts.length rfl rfl qf qf qf fun b200 w201 H=>⟨H.pick [1,2,3] [0,1],(vS [0,5,6] qh qm (jA rfl ?_ (jA rfl ?_ (jA rfl ?_ vT))))⟩
   ·skip
    refine jk [yN] [] (⟨H.pick [1,2,3] [0,1],(Qe L124 ⟨_,b200,uE5,N,H⟩)⟩)
   ·skip
    refine xI H ti219 [.pointer none] fun b202 w203 H=>⟨H.pick [2,3,4] [0,1],(Qe L155 ⟨_,b200,b202,uE5,N,H⟩)⟩
   refine xI H ti22 [yN] fun b204 w205 H=>⟨H.pick [2,3,4] [0,1],(Qe L166 ⟨_,b200,b204,uE5,N,H⟩)⟩
  ·skip
   refine xI H ti219 [.pointer none] fun b206 w207 H=>⟨H.pick [1,2,3] [0,1],(vS [0,4,6] qh qm (jA rfl ?_ (jA rfl ?_ (jA rfl ?_ vT))))⟩
   ·skip
    refine jk [yN] [] (⟨H.pick [1,2,3] [0,1],(Qe L134 ⟨_,b206,uE6,N,H⟩)⟩)
   ·skip
    refine jr H underlying22 ti2 parts.length rfl rfl qf qf qf fun b208 w209 H=>⟨H.pick [2,3,4] [0,1],(Qe L155 ⟨_,b208,b206,uE5,N,H.pick [1,0,2,3,4] [0,1]⟩)⟩
   refine xI H ti22 [yN] fun b210 w211 H=>⟨H.pick [2,3,4] [0,1],(Qe L177 ⟨_,b206,b210,uE6,N,H⟩)⟩
  refine xI H ti22 [yN] fun b212 w213 H=>⟨H.pick [1,2,3] [0,1],(vS [0,4,5] qh qm (jA rfl ?_ (jA rfl ?_ (jA rfl ?_ vT))))⟩
  ·skip
   refine jk [yN] [] (⟨H.pick [1,2,3] [0,1],(Qe L144 ⟨_,b212,uE6,N,H⟩)⟩)
  ·skip
   refine jr H underlying22 ti2 parts.length rfl rfl qf qf qf fun b214 w215 H=>⟨H.pick [2,3,4] [0,1],(Qe L166 ⟨_,b214,b212,uE5,N,H.pick [1,0,2,3,4] [0,1]⟩)⟩
  refine xI H ti219 [.pointer none] fun b216 w217 H=>⟨H.pick [2,3,4] [0,1],(Qe L177 ⟨_,b216,b212,uE6,N,H.pick [1,0,2,3,4] [0,1]⟩)⟩
 clear H N
 rintro ρ w218 ⟨xN,b13,b14,b15,b16,rfl,N,H⟩
 refine t_n (zcr (sw (xI H ti222 [.nilFunc] fun b219 w220 H=>zjc (sp (.func (.func 201) #[] #[pp b3 0,pp b5 0,pp b13 0,pp b14 0,pp b219 0]) (sw (xP H 0 [.func (.func 201) #[] #[pp b3 0,pp b5 0,pp b13 0,pp b14 0,pp b219 0]] sizeOf222 fun w221 H=>zjc (oL rfl (H.cell 0 rfl rfl) (sp (.slice ab b.length cb) ?_))))))))
 replace H:=H.nilRow 22 1
 replace H:=H.vN (α:=yLI)
 have H1:St w w221 [.box b3 [.slice zg parts.length xQ] 27,.box b5 [.func (.func 177) #[] #[pp b1 0]] 170,.box b1 [.slice zg parts.length xQ] 27,.box b13 [pp b16 0] 219,.box b16 [yN] 221,.box b14 [.slice (aa b15 0) parts.length parts.length] 22,.box b219 [.func (.func 201) #[] #[pp b3 0,pp b5 0,pp b13 0,pp b14 0,pp b219 0]] 222,rr none 0 0 22 1 [],rr (aa b15 0) parts.length parts.length 2 1 ((List.replicate parts.length (0:Int)).map (Value.int .i64))] [sF false Fb ab cb b,sF false Fparts zg xQ parts,zk true [] [] ([]:yLL),sF false Fb ab cb b,sF false Fparts zg xQ parts]:=H.pick [7,6,8,3,5,2,1,0,4] [1,2,0,1,2]
 have N1:Fresh _ [[]]:=N.emp
 have K1:Kept [] [sF false Fb ab cb b,sF false Fparts zg xQ parts]:=Kept.nil _
 refine sw (o_callF #[yI 0,.slice ab b.length cb,pp b3 0,pp b5 0,pp b13 0,pp b14 0,pp b219 0] rfl rfl call201 (packFrom_ok parts.length 0 b parts ([]:yLL) (List.replicate parts.length (0:Int)) ab cb Fb zg xQ Fparts b3 b5 b1 b13 b16 b14 b219 none 0 0 [] [] (aa b15 0) parts.length parts.length H1 N1 K1 qf (by first | assumption | exact u4) (by first | assumption | exact j3 | (simp;done)) (by first | assumption | (rw [List.length_set];exact j1) | (simp;done))) ?_)
 clear H H1 N1 K1
 rintro _ w222 ⟨cs223,raout223,rnout223,rcout223,rxout223,rFout223,hx224,hx225,rfl,N,H⟩
 obtain rfl:=H.zo (α:=yLI) 7 rfl 2 rfl qj
 refine zjc (oL rfl (H.cell 3 rfl rfl) (sw (zZ #[pp b16 0] rfl rfl call204 (en func204 ntmps204 ?_))))
 refine zcr (sps [yN,yI 0] (zjcc (sps [pp b16 0,pp b16 0] (oF rfl (oL rfl (H.cell 4 rfl rfl) (oN rfl (sp (.bool (decide (((gath ([]:yLL) (begins ((List.replicate parts.length (0:Int)).take 0) (packs parts (parts.length - 0) 0 b))).length:Int) > 2000))) (zjn (cD rfl (fun h226=>?_) (fun h226=>?_))))))))))
 ·skip
  refine zcr (sps [yN,yI 3] (zjr (t_r (ret2 yN (yI 3) rfl rfl rfl ⟨_,rfl,(sps [yN,yI 3,yN,yI 3] (zjr (ret2 yN (yI 3) rfl rfl rfl ⟨_,rfl,?_⟩)))⟩))))
  replace H:=H.erases [8,7,6,5,4,3,1,0]
  dsimp only [vJ,List.eraseIdx] at H
  refine sps [yN,yI 3,yN,yI 3] (zjr ?_)
  replace H:=H.nilRow 22 1
  replace H:=H.vN (α:=yLI)
  refine ret2 yN (yI 3) rfl rfl rfl ⟨_,rfl,?_,H.base⟩
  first | rw [all_a ql] | rw [all_bI (cs:=(List.replicate parts.length (0:Int))) ql qf]
  exact ⟨none,0,0,[],[],rfl,(N.emp.pick [0]),H.pick [0] [0]⟩
 refine qV (t_n (zcr (sps [pp b16 0,pp b16 0] (oF rfl (oL rfl (H.cell 4 rfl rfl) (sps [.slice raout223 ((gath ([]:yLL) (begins ((List.replicate parts.length (0:Int)).take 0) (packs parts (parts.length - 0) 0 b))).length) rcout223,yI 0] (zjr (ret2 (.slice raout223 ((gath ([]:yLL) (begins ((List.replicate parts.length (0:Int)).take 0) (packs parts (parts.length - 0) 0 b))).length) rcout223) (yI 0) rfl rfl rfl ⟨_,rfl,?_⟩))))))))
 refine sps [.slice raout223 ((gath ([]:yLL) (begins ((List.replicate parts.length (0:Int)).take 0) (packs parts (parts.length - 0) 0 b))).length) rcout223,yI 0,.slice raout223 ((gath ([]:yLL) (begins ((List.replicate parts.length (0:Int)).take 0) (packs parts (parts.length - 0) 0 b))).length) rcout223,yI 0] (zjr (ret2 (.slice raout223 ((gath ([]:yLL) (begins ((List.replicate parts.length (0:Int)).take 0) (packs parts (parts.length - 0) 0 b))).length) rcout223) (yI 0) rfl rfl rfl ⟨_,rfl,?_⟩))
 replace H:=H.erases [8,6,5,4,3,1,0]
 dsimp only [vJ,List.eraseIdx] at H
 refine sps [.slice raout223 ((gath ([]:yLL) (begins ((List.replicate parts.length (0:Int)).take 0) (packs parts (parts.length - 0) 0 b))).length) rcout223,yI 0,.slice raout223 ((gath ([]:yLL) (begins ((List.replicate parts.length (0:Int)).take 0) (packs parts (parts.length - 0) 0 b))).length) rcout223,yI 0] (zjr (ret2 (.slice raout223 ((gath ([]:yLL) (begins ((List.replicate parts.length (0:Int)).take 0) (packs parts (parts.length - 0) 0 b))).length) rcout223) (yI 0) rfl rfl rfl ⟨_,rfl,?_,H.base⟩))
 rw [all_0I (cs:=(List.replicate parts.length (0:Int))) ql qf]
 exact ⟨raout223,(gath ([]:yLL) (begins ((List.replicate parts.length (0:Int)).take 0) (packs parts (parts.length - 0) 0 b))).length,rcout223,rxout223,rFout223,rfl,N,H.pick [1] [2]⟩
theorem compareL_ok (w:World) (a:yLI) (b:yLI) (aa:yOA) (ca:Nat) (Fa:yLN) (ab:yOA) (cb:Nat) (Fb:yLN) (ha:qP.rep w Fa [.slice aa a.length ca] a) (hb:qP.rep w Fb [.slice ab b.length cb] b):Calls Tryz.prog 94 #[.slice aa a.length ca,.slice ab b.length cb] w (Ret (fun v w' =>v=yI (cmpL a b)∧w' =w) w):=by
 refine en func94 ntmps94 ?_
 have H:=((St.start w).arg hb).arg ha
 have nha:=qN ha
 have nhb:=qN hb
 clear ha hb
 have N:=Fresh.nil w.heap.size
 refine zcr (sp (yI 0) (zjcc (sp (.slice aa a.length ca) (oN rfl (sp (yI 0) (zjn (qY ?_)))))))
 refine zB (fun m' ρ w1=>∃ (xN:Env) (i:Nat),ρ=upd (upd (upd (upd (upd xN 0 (.slice aa a.length ca)) 1 (.slice ab b.length cb)) 9 (.slice aa a.length ca)) 10 (yI a.length)) 11 (yI i)∧((i:Int)≤a.length)∧(w1=w)∧(cmpL a b=cmpL (a.drop i) (b.drop i))∧(i≤b.length)∧m' =(a.length - (i:Int)).toNat∧Fresh w.heap.size []∧St w w1 [] [sF false Fa aa ca a,sF false Fb ab cb b]) ((a.length - (0:Int)).toNat) ⟨_,0,uE5,qf,(by rfl),(by rfl),qf,rfl,N,H⟩ ?_
 clear H N
 rintro m' ρ w2 ⟨xN,i,rfl,i0,wk,i1,i2,rfl,N,H⟩
 refine zcr (sp (.bool (decide ((i:Int) < a.length))) (zjn (xU (cD rfl (fun h3=>?_) (fun h3=>?_)))))
 ·skip
  refine qV (t_n (xU (qY (zcr (sp (yI i) ?_)))))
  obtain ⟨b4,o5,rfl⟩:=H.addr 0 rfl qf
  refine oI rfl rfl (oL rfl (H.jy 0 rfl i qf qf) (sps [yI i,yI (a[i]!)] (zjcc (sps [yI i,.slice ab b.length cb] (oN rfl (sp (.bool (decide ((i:Int)≥b.length))) (zjn (cD rfl (fun h7=>?_) (fun h7=>?_)))))))))
  ·skip
   refine zcr (sp (yI 1) (zjr (t_r (zr5 (ret1 (yI 1) rfl rfl ⟨_,rfl,(⟨?_,wk⟩),H.base⟩)))))
   rw [i1,show cmpL (a.drop i) (b.drop i)=1 by first | exact cmp_a qf qf | exact cmp_e qf qf ‹_›]
  refine qV (t_n (zcr (sps [.slice ab b.length cb,yI i] ?_)))
  obtain ⟨b8,o9,rfl⟩:=H.addr 1 rfl qf
  refine oI rfl rfl (oL rfl (H.jy 1 rfl i qf qf) (sp (yI (b[i]!)) (zjc (sps [yI (a[i]!),yI (b[i]!)] (sw (zZ #[yI (a[i]!),yI (b[i]!)] rfl rfl call131 (en func131 ntmps131 ?_)))))))
  refine zcr (sp (yI 0) (zjc (sp (yI (a[i]!)) (sw (zZ #[yI (a[i]!)] rfl rfl call168 (en func168 ntmps168 ?_))))))
  refine zcr (sp (.bool false) (zjc (sps [yI (a[i]!),yI (a[i]!),.bool ((a[i]! :Int) != (a[i]!)),.bool ((a[i]! :Int) != (a[i]!))] (zjr (ret1 (.bool ((a[i]! :Int) != (a[i]!))) rfl rfl ⟨_,rfl,(sp (.bool ((a[i]! :Int) != (a[i]!))) (zjc (sp (yI (b[i]!)) (sw (zZ #[yI (b[i]!)] rfl rfl call168 (en func168 ntmps168 ?_))))))⟩)))))
  refine zcr (sp (.bool false) (zjc (sps [yI (b[i]!),yI (b[i]!),.bool ((b[i]! :Int) != (b[i]!)),.bool ((b[i]! :Int) != (b[i]!))] (zjr (ret1 (.bool ((b[i]! :Int) != (b[i]!))) rfl rfl ⟨_,rfl,(sp (.bool ((b[i]! :Int) != (b[i]!))) (zjcc (sp (.bool ((a[i]! :Int) != (a[i]!))) (zjn (xF ((a[i]! :Int) != (a[i]!)) rfl (fun h=>absurd rfl (bne_iff_ne.1 h)) (fun h11=>?_))))))⟩)))))
  replace h11:=xA h11
  refine qV (t_n (zcc (sp (.bool ((b[i]! :Int) != (b[i]!))) (zjn (xF ((b[i]! :Int) != (b[i]!)) rfl (fun h=>absurd rfl (bne_iff_ne.1 h)) (fun h12=>?_))))))
  replace h12:=xA h12
  refine qV (t_n (zcc (sps [yI (a[i]!),yI (b[i]!),.bool (decide ((a[i]! :Int) < (b[i]!)))] (zjn (cD rfl (fun h13=>?_) (fun h13=>?_))))))
  ·skip
   refine zcr (sp (yI (-1)) (zjr (t_r (ret1 (yI (-1)) rfl rfl ⟨_,rfl,(sp (yI (-1)) (zjc (sps [yI (-1),.bool true] (zjn (xF true rfl (fun _=>zcr (sps [yI (-1),yI (-1)] (zjr (zr5 (ret1 (yI (-1)) rfl rfl ⟨_,rfl,(⟨?_,wk⟩),H.base⟩))))) (fun h=>absurd h qj))))))⟩))))
   rw [i1,show cmpL (a.drop i) (b.drop i)= -1 by first | exact cmp_b qf qf | exact cmp_d qf qf ‹_›]
  refine qV (t_n (zcc (sps [yI (a[i]!),yI (b[i]!),.bool (decide ((a[i]! :Int) > (b[i]!)))] (zjn (cD rfl (fun h14=>?_) (fun h14=>?_))))))
  ·skip
   refine zcr (sp (yI 1) (zjr (t_r (ret1 (yI 1) rfl rfl ⟨_,rfl,(sp (yI 1) (zjc (sps [yI 1,.bool true] (zjn (xF true rfl (fun _=>zcr (sps [yI 1,yI 1] (zjr (zr5 (ret1 (yI 1) rfl rfl ⟨_,rfl,(⟨?_,wk⟩),H.base⟩))))) (fun h=>absurd h qj))))))⟩))))
   rw [i1,show cmpL (a.drop i) (b.drop i)=1 by first | exact cmp_a qf qf | exact cmp_e qf qf ‹_›]
  refine qV (t_n (zcr (sp (yI 0) (zjr (ret1 (yI 0) rfl rfl ⟨_,rfl,(sp (yI 0) (zjc (sps [yI 0,.bool false] (zjn (xF false rfl (fun h=>absurd h qj) (fun _=>qV (b_n (t_n (xX (sw (zD i 1 rfl rfl qf (sp (yI (i+1)) (xY (xg (m' :=(a.length - ((i+1):Int)).toNat) qf ⟨_,i+1,uE5,?_,?_,?_,?_,rfl,N,H⟩))))))))))))))⟩)))))
  · omega
  · exact wk
  · exact i1.trans (cmp_f qf qf ‹_› ‹_›)
  · omega
 refine zx4 (zcc (sp (.slice aa a.length ca) (oN rfl (sp (.slice ab b.length cb) (oN rfl (sp (.bool (decide ((a.length:Int) < b.length))) (zjn (cD rfl (fun h15=>?_) (fun h15=>?_)))))))))
 ·skip
  refine zcr (sp (yI (-1)) (zjr (t_r (ret1 (yI (-1)) rfl rfl ⟨_,rfl,(⟨?_,wk⟩),H.base⟩))))
  rw [i1,show cmpL (a.drop i) (b.drop i)= -1 by first | exact cmp_b qf qf | exact cmp_d qf qf ‹_›]
 refine qV (t_n (zcr (sp (yI 0) (zjr (ret1 (yI 0) rfl rfl ⟨_,rfl,(⟨?_,wk⟩),H.base⟩)))))
 rw [i1,cmp_c qf qf]
def sortL_ren:Go.Shelf.Ren:=⟨fun | 6=>93 | 15=>130 | 14=>129 | 28=>166 | 29=>167 | 20=>158 | 21=>159 | 22=>160 | 23=>161 | 24=>162 | 25=>163 | 26=>164 | 27=>165 | 46=>193 | 47=>194 | 48=>195 | 49=>196 | 50=>197 | 57=>208 | n=>n,fun | 22=>27 | 24=>22 | 25=>106 | 3=>3 | 39=>149 | 0=>0 | 53=>186 | 55=>188 | 4=>4 | 46=>179 | 45=>178 | 50=>183 | 5=>5 | 9=>9 | 66=>211 | 70=>215 | 76=>226 | 77=>227 | n=>n,fun | n=>n⟩
theorem sortL:Go.Proofs.SlLaysF.n6 Tryz.prog sortL_ren:={
  mixed:=by kernel_rfl
  f6:=⟨Tryz.f93.name,by decide,Tryz.func93.trans (congrArg some (by kernel_rfl))⟩
  f14:=⟨Tryz.f129.name,by decide,Tryz.func129.trans (congrArg some (by kernel_rfl))⟩
  f15:=Tryz.func130.trans (congrArg some (by kernel_rfl))
  f20:=⟨Tryz.f158.name,by decide,Tryz.func158.trans (congrArg some (by kernel_rfl))⟩
  f21:=⟨Tryz.f159.name,by decide,Tryz.func159.trans (congrArg some (by kernel_rfl))⟩
  f22:=⟨Tryz.f160.name,by decide,Tryz.func160.trans (congrArg some (by kernel_rfl))⟩
  f23:=⟨Tryz.f161.name,by decide,Tryz.func161.trans (congrArg some (by kernel_rfl))⟩
  f24:=⟨Tryz.f162.name,by decide,Tryz.func162.trans (congrArg some (by kernel_rfl))⟩
  f25:=⟨Tryz.f163.name,by decide,Tryz.func163.trans (congrArg some (by kernel_rfl))⟩
  f26:=⟨Tryz.f164.name,by decide,Tryz.func164.trans (congrArg some (by kernel_rfl))⟩
  f27:=⟨Tryz.f165.name,by decide,Tryz.func165.trans (congrArg some (by kernel_rfl))⟩
  f28:=Tryz.func166.trans (congrArg some (by kernel_rfl))
  f29:=Tryz.func167.trans (congrArg some (by kernel_rfl))
  f46:=⟨Tryz.f193.name,by decide,Tryz.func193.trans (congrArg some (by kernel_rfl))⟩
  f47:=Tryz.func194.trans (congrArg some (by kernel_rfl))
  f48:=Tryz.func195.trans (congrArg some (by kernel_rfl))
  f49:=⟨Tryz.f196.name,by decide,Tryz.func196.trans (congrArg some (by kernel_rfl))⟩
  f50:=⟨Tryz.f197.name,by decide,Tryz.func197.trans (congrArg some (by kernel_rfl))⟩
  f57:=⟨Tryz.f208.name,by decide,Tryz.func208.trans (congrArg some (by kernel_rfl))⟩
  t0:=Tryz.underlying0
  a0:=Tryz.isAgg0
  z0:=Tryz.sizeOf0
  v0:=Tryz.zeroValue0
  t3:=Tryz.underlying3
  a3:=Tryz.isAgg3
  z3:=Tryz.sizeOf3
  v3:=Tryz.zeroValue3
  t4:=Tryz.underlying4
  a4:=Tryz.isAgg4
  z4:=Tryz.sizeOf4
  v4:=Tryz.zeroValue4
  t5:=Tryz.underlying5
  a5:=Tryz.isAgg5
  z5:=Tryz.sizeOf5
  v5:=Tryz.zeroValue5
  t9:=Tryz.underlying9
  a9:=Tryz.isAgg9
  z9:=Tryz.sizeOf9
  v9:=Tryz.zeroValue9
  t22:=Tryz.underlying27
  a22:=Tryz.isAgg27
  z22:=Tryz.sizeOf27
  v22:=Tryz.zeroValue27
  a24:=Tryz.isAgg22
  z24:=Tryz.sizeOf22
  t25:=Tryz.underlying106
  a25:=Tryz.isAgg106
  z25:=Tryz.sizeOf106
  v25:=Tryz.zeroValue106
  t39:=Tryz.underlying149
  a39:=Tryz.isAgg149
  z39:=Tryz.sizeOf149
  v39:=Tryz.zeroValue149
  t45:=Tryz.underlying178
  a45:=Tryz.isAgg178
  z45:=Tryz.sizeOf178
  v45:=Tryz.zeroValue178
  t46:=Tryz.underlying179
  a46:=Tryz.isAgg179
  z46:=Tryz.sizeOf179
  v46:=Tryz.zeroValue179
  t50:=Tryz.underlying183
  a50:=Tryz.isAgg183
  z50:=Tryz.sizeOf183
  v50:=Tryz.zeroValue183
  t53:=Tryz.underlying186
  a53:=Tryz.isAgg186
  z53:=Tryz.sizeOf186
  v53:=Tryz.zeroValue186
  t55:=Tryz.underlying188
  a55:=Tryz.isAgg188
  z55:=Tryz.sizeOf188
  v55:=Tryz.zeroValue188
  t66:=Tryz.underlying211
  a66:=Tryz.isAgg211
  z66:=Tryz.sizeOf211
  v66:=Tryz.zeroValue211
  t70:=Tryz.underlying215
  a70:=Tryz.isAgg215
  z70:=Tryz.sizeOf215
  v70:=Tryz.zeroValue215
  t76:=Tryz.underlying226
  a76:=Tryz.isAgg226
  z76:=Tryz.sizeOf226
  v76:=Tryz.zeroValue226
  t77:=Tryz.underlying227
  a77:=Tryz.isAgg227
  z77:=Tryz.sizeOf227
  v77:=Tryz.zeroValue227 }
theorem cmpSort (W:World) (x y:yLI) (a:yOA) (c:Nat) (F:yLN) (a' :yOA) (c' :Nat) (F' :yLN) (hx:qP.rep W F [.slice a x.length c] x) (hy:qP.rep W F' [.slice a' y.length c'] y):
    Calls Tryz.prog 94 #[.slice a x.length c,.slice a' y.length c'] W fun e w' =>e=.returned (yI (cmpL x y))∧w' =W:=
  (compareL_ok W x y a c F a' c' F' hx hy).mono fun _ _ ⟨_,he,⟨hv,hw⟩,_⟩=>⟨he.trans (by rw [hv]),hw⟩

theorem choices_ok (w:World) (s:qL) (t:qM) {qA:yOA} {qW:yLN} {qK:yOA} {xy:yLN} {qR:yOA} {xJ:yLN} {xh:yOA} {zn:yLN} {qJ:yOA} {xw:yLN} (xf:qP.rep w qW [.slice qA s.qw.length qy] s.qw) (xG:qP.rep w xy [.slice qK s.qx.length qH] s.qx) (zh:qP.rep w xJ [.slice qR t.qB.length qO] t.qB) (zJ:qP.rep w zn [.slice xh t.qE.length qZ] t.qE) (xK:qP.rep w xw [.slice qJ t.qC.length qI] t.qC) (p0:jZ s) (p1:zK s t):Calls Tryz.prog 64 #[.agg #[yI s.xB,.slice qA s.qw.length qy,.slice qK s.qx.length qH],.agg #[.slice qR t.qB.length qO,.slice xh t.qE.length qZ,.slice qJ t.qC.length qI]] w (Ret (fun v w' =>∃ (ra0:yOA) (rn0:Nat) (rc0:Nat) (rx0:List Value) (rF0:yLN),v=.tuple #[.slice ra0 rn0 rc0,yI ((zX s t).2)]∧Fresh w.heap.size [rF0]∧St w w' [rr ra0 rn0 rc0 22 1 rx0] [zk true rF0 rx0 ((zX s t).1)]) w):=by
 refine en func64 ntmps64 ?_
 have H:=(((((St.start w).arg xK).arg zJ).arg zh).arg xG).arg xf
 have ve:=qN xf
 have jh:=qN xG
 have yM:=qN zh
 have Qr:=qN zJ
 have jF:=qN xK
 clear xf xG zh zJ xK
 have N:=Fresh.nil w.heap.size
 have A:=H.ltN (L:=[qW,xy,xJ,zn,xw]) [0,1,2,3,4]
 have p2:=p0.2.1
 have p3:=p0.1.2.1
 have p4:=p1.1
 have p5:=p1.2.1
 refine zcr (sw (vz H (yS s qA qy qK qH) fun b1 w2 H=>sw (vz H (yT t qR qO xh qZ qJ qI) fun b3 w4 H=>sps [yN,yI 0] (zjc (sw (zl (yS s qA qy qK qH) isAgg36 sizeOf36 rfl (qF (H.cells 1 rfl) 0 3) ?_))))))
 refine sw (zl (yT t qR qO xh qZ qJ qI) isAgg38 sizeOf38 rfl (qF (H.cells 0 rfl) 0 3) (sw (zZ #[.agg #[yI s.xB,.slice qA s.qw.length qy,.slice qK s.qx.length qH],.agg #[.slice qR t.qB.length qO,.slice xh t.qE.length qZ,.slice qJ t.qC.length qI]] rfl rfl call107 (en func107 ntmps107 ?_))))
 refine zcr (sw (vz H (yS s qA qy qK qH) fun b5 w6 H=>sw (vz H (yT t qR qO xh qZ qJ qI) fun b7 w8 H=>sps [yN,yI 0] (zjc (oF rfl (oL rfl (H.cell 1 rfl rfl) (oN rfl (sw (o_makeZ (⟨[]⟩:OwnI 2) H underlying27 ti22 qj (fun _=>⟨yN,rfl,Or.inl ⟨rfl,rfl,rfl⟩⟩) s.qw.length rfl rfl qf qf qf fun b9 w10 xs11 H=>?_)))))))))
 refine sp (.slice (aa b9 0) s.qw.length s.qw.length) (zjcc (sw (zl (yS s qA qy qK qH) isAgg36 sizeOf36 rfl (qF (H.cells 2 rfl) 0 3) (sw (zl (yT t qR qO xh qZ qJ qI) isAgg38 sizeOf38 rfl (qF (H.cells 1 rfl) 0 3) ?_)))))
 have sz15:=H.base.size
 refine sw (oc (applicable_ok _ s t (H.get 1 rfl).1 (H.get 2 rfl).1 (H.get 3 rfl).1 (H.get 4 rfl).1 (H.get 5 rfl).1 qg qg) ?_)
 rintro _ w13 ⟨ra12,rn12,rc12,rfl,M,K⟩ _
 replace H:=H.merge K M
 obtain rfl:=H.Xk 0 rfl
 have al:(appls s t).length≤s.qx.length:=applL_le s t s.qx.length
 refine oN rfl (sp (yI 0) (zjn (qY ?_)))
 refine zB (fun m' ρ w18=>∃ (xN:Env) (k:Nat) (own:List (OwnI 2)) (x_own:List Value) (F_own:yLN),ρ=upd (upd (upd (upd (upd (upd xN 2 (pp b5 0)) 3 (pp b7 0)) 6 (.slice (aa b9 0) s.qw.length s.qw.length)) 24 (.slice ra12 ((appls s t).length) rc12)) 25 (yI ((appls s t).length))) 26 (yI k)∧own=(ownL 2 s t s.qw.length k)∧((k:Int)≤((appls s t).length))∧m' =(((appls s t).length) - (k:Int)).toNat∧Fresh w.heap.size [F_own]∧St w w18 [rr ra12 ((appls s t).length) rc12 2 1 ((appls s t).map (Value.int .i64)),rr (aa b9 0) s.qw.length s.qw.length 22 1 x_own,.box b7 (yT t qR qO xh qZ qJ qI) 38,.box b5 (yS s qA qy qK qH) 36,.box b3 (yT t qR qO xh qZ qJ qI) 38,.box b1 (yS s qA qy qK qH) 36] [zk true F_own x_own own,sF false qW qA qy s.qw,sF false xy qK qH s.qx,sF false xJ qR qO t.qB,sF false zn xh qZ t.qE,sF false xw qJ qI t.qC]) ((((appls s t).length) - (0:Int)).toNat) ⟨_,0,(List.replicate s.qw.length (⟨[]⟩:OwnI 2)),xs11,[],uE6,(by exact ownL_zero 2 s t _),qf,rfl,N.emp,H⟩ ?_
 clear H N
 rintro m' ρ w19 ⟨xN,k,own,x_own,F_own,rfl,rfl,i0,rfl,N,H⟩
 have hn_own:=H.zo (α:=OwnI 2) 1 rfl 0 rfl qj
 have ol:=ownL_len 2 s t s.qw.length k
 refine zcr (sp (.bool (decide ((k:Int) < ((appls s t).length)))) (zjn (xU (cD rfl (fun h20=>?_) (fun h20=>?_)))))
 ·skip
  obtain ⟨a0,a1,a2⟩:=appls_inH (s:=s) (t:=t) (q:=k) qf
  have q:=p0.rule (i:=((appls s t)[k]!).toNat) qf
  have qc:=q.1
  have qk:(s.qx[((appls s t)[k]!).toNat]!).qG.toNat < s.qw.length:=q.cell
  have le:=ownL_le (e:=2) (s:=s) (t:=t) (n:=s.qw.length) (q:=k) (c:=(s.qx[((appls s t)[k]!).toNat]!).qG.toNat) qf
  have sm:=vF (p1.2.2.2.2 (s.qx[((appls s t)[k]!).toNat]!).qG.toNat qf).1
  refine qV (t_n (xU (qY (zcr ?_))))
  obtain ⟨b21,rfl⟩:=H.yP 0 rfl qf
  refine oI rfl rfl (oL rfl (H.rowInt 0 rfl (iv:=k) (i:=k) qf qf) (sp (yI ((appls s t)[k]!)) (zjc (oF rfl (oL rfl (H.cell 3 rfl rfl) (sp (yI ((appls s t)[k]!)) ?_))))))
  obtain ⟨b22,o23,rfl⟩:=H.addr 2 rfl qf
  obtain ⟨ae25Need,ce25Need,Fe25Need,ae25Have,ce25Have,Fe25Have,ae25Lack,ce25Lack,Fe25Lack,ae25Here,ce25Here,Fe25Here,ae25Out,ce25Out,Fe25Out,ae25Into,ce25Into,Fe25Into,H⟩:=H.yc 2 rfl ((appls s t)[k]!) (((appls s t)[k]!).toNat) qf qf qf
  refine oI rfl rfl (oF rfl (oL rfl (H.xR 6 rfl 0 rfl) (sp (yI ((s.qx[((appls s t)[k]!).toNat]!).qG)) (zjcc (oF rfl (oL rfl (H.cell 2 rfl rfl) (sp (yI ((s.qx[((appls s t)[k]!).toNat]!).qG)) ?_)))))))
  obtain ⟨b26,o27,rfl⟩:=H.addr 11 rfl qf
  obtain ⟨ae29,ce29,Fe29,H⟩:=H.vH 11 rfl ((s.qx[((appls s t)[k]!).toNat]!).qG) (((s.qx[((appls s t)[k]!).toNat]!).qG).toNat) qf qf qf
  refine oI rfl rfl (oL rfl (H.xR 1 rfl 0 rfl) (sw (oq (XT _ (t.qE[((s.qx[((appls s t)[k]!).toNat]!).qG).toNat]!) (H.get 0 rfl).1 (by first | assumption | exact vF ql | exact yV ql)) H fun w30 H=>sp (.bool (decide ((X0 (t.qE[((s.qx[((appls s t)[k]!).toNat]!).qG).toNat]!):Int) > 16))) (zjn (cD rfl (fun h32=>?_) (fun h32=>?_))))))
  ·skip
   refine zcr (sps [yN,yI 3] (zjr (t_r (zr5 (ret2 yN (yI 3) rfl rfl rfl ⟨_,rfl,?_⟩)))))
   replace H:=H.erases [3,2,1,0]
   dsimp only [vJ,List.eraseIdx] at H
   refine sps [.tuple #[yN,yI 3],yN,yI 3,yN,yI 3] (zjcc (sps [yI 3,.bool true] (zjn (xF true rfl (fun _=>zcr (sps [yI 3,yN,yI 3] (zjr (t_r ?_)))) (fun h=>absurd h qj)))))
   replace H:=H.nilRow 22 1
   replace H:=H.vN (α:=yLI)
   refine ret2 yN (yI 3) rfl rfl rfl ⟨_,rfl,?_,H.base⟩
   first | rw [cho_3 (.inl (own_bad p0 (q:=k) qf qf))] | rw [cho_3 (.inr (prod_stop (G:=(jd s.qx.length (xe s t s.qw.length) (xC s t s.qw.length) k_1)) (r:=((xe s t s.qw.length)[k_1]!)) (k:=k_51+1) (i:=k_1) kn qf (QV _) qf (by rw [← nextX_end (x:=k_52) qf qf];omega)))]
   exact ⟨none,0,0,[],[],rfl,(N.emp.pick [0]),H.pick [0] [0]⟩
  refine qV (t_n (xX (sps [.slice (aa b9 0) s.qw.length s.qw.length,yI ((s.qx[((appls s t)[k]!).toNat]!).qG),.slice (aa b9 0) s.qw.length s.qw.length,yI ((s.qx[((appls s t)[k]!).toNat]!).qG)] (oI rfl rfl ?_))))
  replace N:Fresh w.heap.size [F_own]:=N
  obtain ⟨a33,c34,F35,h36,N,H⟩:=H.openI 1 rfl 9 rfl N (iv:=(s.qx[((appls s t)[k]!).toNat]!).qG) (((s.qx[((appls s t)[k]!).toNat]!).qG).toNat) qf qf [sF false qW qA qy s.qw,sF false xy (aa b22 o23) qH s.qx,sF false xJ qR qO t.qB,sF false zn (aa b26 o27) qZ t.qE,sF false xw qJ qI t.qC] (keepA A N [10,11,12,13,14] rfl rfl)
  refine oL rfl h36 (sp (yI ((appls s t)[k]!)) (sw (zI H underlying22 ti2 [yI ((appls s t)[k]!)] fun b37 w38 H=>sw (zO H 1 rfl 0 rfl underlying22 ti2 rfl qj rfl rfl rfl (by simp [Value.oneCell',Value.cells]) qp qf fun a39 c40 w41 H=>?_))))
  rw [snocI] at H
  refine oI rfl rfl (sw (o_closeI H 3 rfl 1 qj rfl 0 rfl (c:=(((s.qx[((appls s t)[k]!).toNat]!).qG).toNat)) (N:Fresh w.heap.size [F35]) (H.yg []) sizeOf22 rfl rfl qf qf fun w42 F43 N H=>xY (b_n (t_n (xX (sw (zD k 1 rfl rfl qf (sp (yI (k+1)) (xY ?_)))))))))
  refine xg (m' :=(((appls s t).length) - ((k+1):Int)).toNat) qf ⟨_,k+1,(((ownL 2 s t s.qw.length k).set (((s.qx[((appls s t)[k]!).toNat]!).qG).toNat) ⟨[]⟩).set (((s.qx[((appls s t)[k]!).toNat]!).qG).toNat) ⟨(((ownL 2 s t s.qw.length k)[((s.qx[((appls s t)[k]!).toNat]!).qG).toNat]!).l++[(appls s t)[k]!])⟩),(x_own.set (((s.qx[((appls s t)[k]!).toNat]!).qG).toNat) (.slice a39 ((((ownL 2 s t s.qw.length k)[((s.qx[((appls s t)[k]!).toNat]!).qG).toNat]!).l.length)+1) c40)),F43,uE6,?_,?_,rfl,N,H.pick [2,3,4,5,6,7] [0,2,3,4,5,6]⟩
  · exact ownL_set qf rfl qf qf (by rw [List.set_set])
  · omega
 refine zx4 (zcr (sw (vU H underlying125 ti129 fun b44 w45 H=>sp (.slice (aa b44 0) 0 0) (zjcc (sp (.slice (aa b9 0) s.qw.length s.qw.length) (oN rfl (sp (yI 0) (zjn (qY ?_)))))))))
 replace H:=H.ofOwn 0 rfl
 rw [ownL_end qf] at H
 have cl:=cellsR_len s t s.qw.length
 replace H:=H.boxRow 0 rfl 2 0 rfl qj
 replace H:=H.vN (α:=inCellD)
 replace H:St _ _ [rr (aa b44 0) 0 0 129 2 [],rr ra12 ((appls s t).length) rc12 2 1 ((appls s t).map (Value.int .i64)),rr (aa b9 0) s.qw.length s.qw.length 22 1 x_own,.box b7 (yT t qR qO xh qZ qJ qI) 38,.box b5 (yS s qA qy qK qH) 36,.box b3 (yT t qR qO xh qZ qJ qI) 38,.box b1 (yS s qA qy qK qH) 36] [zk true [] [] ([]:List inCellD),zk true F_own x_own (cellsR s t s.qw.length),zk true F_own x_own (ownL 2 s t s.qw.length k),sF false qW qA qy s.qw,sF false xy qK qH s.qx,sF false xJ qR qO t.qB,sF false zn xh qZ t.qE,sF false xw qJ qI t.qC]:=H
 refine zB (fun m' ρ w46=>∃ (xN:Env) (vk:yOA) (zq:Nat) (zT:Nat) (out:List inCellD) (Ql:List Value) (yG:yLN) (c:Nat),ρ=upd (upd (upd (upd (upd (upd xN 2 (pp b5 0)) 3 (pp b7 0)) 10 (.slice vk zq zT)) 55 (.slice (aa b9 0) s.qw.length s.qw.length)) 56 (yI s.qw.length)) 57 (yI c)∧out=(Qv s t c)∧((c:Int)≤s.qw.length)∧(GoodP s t c)∧m' =(s.qw.length - (c:Int)).toNat∧Fresh w.heap.size [F_own]∧St w w46 [rr vk zq zT 129 2 Ql,rr ra12 ((appls s t).length) rc12 2 1 ((appls s t).map (Value.int .i64)),rr (aa b9 0) s.qw.length s.qw.length 22 1 x_own,.box b7 (yT t qR qO xh qZ qJ qI) 38,.box b5 (yS s qA qy qK qH) 36,.box b3 (yT t qR qO xh qZ qJ qI) 38,.box b1 (yS s qA qy qK qH) 36] [zk true yG Ql out,zk true F_own x_own (cellsR s t s.qw.length),zk true F_own x_own (ownL 2 s t s.qw.length k),sF false qW qA qy s.qw,sF false xy qK qH s.qx,sF false xJ qR qO t.qB,sF false zn xh qZ t.qE,sF false xw qJ qI t.qC]) ((s.qw.length - (0:Int)).toNat) ⟨_,(aa b44 0),0,0,([]:List inCellD),[],[],0,uE6,(by rfl),qf,(by exact fun j hj=>by omega),rfl,N,H⟩ ?_
 clear H N
 rintro m' ρ w47 ⟨xN,vk,zq,zT,out,Ql,yG,c,rfl,rfl,i0,gp,rfl,N,H⟩
 have hn_out:=H.zo (α:=inCellD) 0 rfl 0 rfl qj
 have ce:=cells_len s t c
 have rl:=rules_le s t c
 refine zcr (sp (.bool (decide ((c:Int) < s.qw.length))) (zjn (xU (cD rfl (fun h48=>?_) (fun h48=>?_)))))
 ·skip
  refine qV (t_n (xU (qY (zcr (sp (yI c) (oI rfl rfl ?_))))))
  obtain ⟨a49,c50,G51,s52,h53,H⟩:=H.jO 2 rfl 1 rfl (iv:=c) c qf qf
  refine oL rfl (h53) (sps [yI c,.slice a49 (((cellsR s t s.qw.length)[c]!).length) c50] (zjcc (sp (.slice a49 (((cellsR s t s.qw.length)[c]!).length) c50) (oN rfl (sp (.bool ((((cellsR s t s.qw.length)[c]!).length:Int) == 0)) (zjn (cE rfl (fun h54=>?_) (fun h54=>?_))))))))
  ·skip
   rw [cellsR_get (s:=s) (t:=t) (n:=s.qw.length) (c:=c) qf] at H h54 ⊢
   refine c_exit (t_x (b_x (t_n (xX (sw (zD c 1 rfl rfl qf (sp (yI (c+1)) (xY (xg (m' :=(s.qw.length - ((c+1):Int)).toNat) qf ⟨_,vk,zq,zT,(Qv s t c),Ql,yG,c+1,uE6,?_,?_,?_,rfl,N,H.pick [0,1,2,3,4,5,6] [1,2,3,4,5,6,7,8]⟩)))))))))
   · first | exact cells_yes qf | exact cells_no qf
   · omega
   · exact gp.succ (by first | exact .inl qf | exact .inr (show (zW _ _).2=0 from ‹_›))
  rw [cellsR_get (s:=s) (t:=t) (n:=s.qw.length) (c:=c) qf] at H h54 ⊢
  refine qV (t_n (zcr (sw (vU H underlying27 ti22 fun b55 w56 H=>sp (.slice (aa b55 0) 0 0) (zjcc (sp (.slice a49 ((zH s t c).length) c50) (oN rfl (sp (yI 0) (zjn (qY ?_))))))))))
  replace H:=H.boxRow 0 rfl 1 0 rfl qj
  replace H:=H.vN (α:=yLI)
  replace H:=H.unfree 0 rfl
  refine zB (fun m' ρ w57=>∃ (xN:Env) (yF:yOA) (jw:Nat) (yA:Nat) (needs:yLL) (Xj:List Value) (VG:yLN) (k_1:Nat),ρ=upd (upd (upd (upd (upd (upd (upd (upd (upd (upd (upd (upd xN 2 (pp b5 0)) 3 (pp b7 0)) 10 (.slice vk zq zT)) 11 (yI c)) 12 (.slice a49 ((zH s t c).length) c50)) 13 (.slice yF jw yA)) 55 (.slice (aa b9 0) s.qw.length s.qw.length)) 56 (yI s.qw.length)) 57 (yI c)) 66 (.slice a49 ((zH s t c).length) c50)) 67 (yI ((zH s t c).length))) 68 (yI k_1)∧needs=(zi s ((zH s t c).take k_1))∧((k_1:Int)≤((zH s t c).length))∧m' =(((zH s t c).length) - (k_1:Int)).toNat∧Fresh w.heap.size [F_own]∧St w w57 [rr yF jw yA 22 1 Xj,rr vk zq zT 129 2 Ql,rr ra12 ((appls s t).length) rc12 2 1 ((appls s t).map (Value.int .i64)),rr (aa b9 0) s.qw.length s.qw.length 22 1 x_own,.box b7 (yT t qR qO xh qZ qJ qI) 38,.box b5 (yS s qA qy qK qH) 36,.box b3 (yT t qR qO xh qZ qJ qI) 38,.box b1 (yS s qA qy qK qH) 36] [zk false VG Xj needs,sF true G51 a49 c50 (zH s t c),zk true yG Ql (Qv s t c),zk true F_own x_own (cellsR s t s.qw.length),zk true F_own x_own (ownL 2 s t s.qw.length k),sF false qW qA qy s.qw,sF false xy qK qH s.qx,sF false xJ qR qO t.qB,sF false zn xh qZ t.qE,sF false xw qJ qI t.qC]) ((((zH s t c).length) - (0:Int)).toNat) ⟨_,(aa b55 0),0,0,([]:yLL),[],[],0,uE12,(by rfl),qf,rfl,N,H.pick [0,1,2,3,4,5,6,7] [0,2,3,4,5,6,7,8,9,10]⟩ ?_
  clear H N
  rintro m' ρ w58 ⟨xN,yF,jw,yA,needs,Xj,VG,k_1,rfl,rfl,i0,rfl,N,H⟩
  have hn_needs:=H.zo (α:=yLI) 0 rfl 0 rfl qj
  have nl:=XA s ((zH s t c).take k_1)
  have tl:=List.length_take_le k_1 (zH s t c)
  have cl8:=cellR_len (t:=t) p0 c
  refine zcr (sp (.bool (decide ((k_1:Int) < ((zH s t c).length)))) (zjn (xU (cD rfl (fun h59=>?_) (fun h59=>?_)))))
  ·skip
   obtain ⟨e1,e2,e3,e4⟩:=cellR_at (s:=s) (t:=t) (c:=c) (j:=k_1) qf
   refine qV (t_n (xU (qY (zcr ?_))))
   obtain ⟨b60,o61,rfl⟩:=H.addr 1 rfl qf
   refine oI rfl rfl (oL rfl (H.jy 1 rfl k_1 qf qf) (sp (yI ((zH s t c)[k_1]!)) (zjn (xX (sp (.slice yF jw yA) (oF rfl (oL rfl (H.cell 5 rfl rfl) (sp (yI ((zH s t c)[k_1]!)) ?_))))))))
   obtain ⟨b63,o64,rfl⟩:=H.addr 6 rfl qf
   obtain ⟨ae66Need,ce66Need,Fe66Need,ae66Have,ce66Have,Fe66Have,ae66Lack,ce66Lack,Fe66Lack,ae66Here,ce66Here,Fe66Here,ae66Out,ce66Out,Fe66Out,ae66Into,ce66Into,Fe66Into,H⟩:=H.yc 6 rfl ((zH s t c)[k_1]!) (((zH s t c)[k_1]!).toNat) qf qf qf
   refine oI rfl rfl (oF rfl (oL rfl (H.xR 6 rfl 2 rfl) (sw (zI H underlying27 ti22 [.slice ae66Need (((s.qx[((zH s t c)[k_1]!).toNat]!).xE).length) ce66Need] fun b67 w68 H=>sw (zO H 1 rfl 0 rfl underlying27 ti22 rfl qj rfl rfl rfl (by simp [Value.oneCell',Value.cells]) qp qf fun a69 c70 w71 H=>?_)))))
   replace H:=H.yj 7 rfl 0 rfl
   refine sp (.slice a69 (jw+1) c70) (xY (b_n (t_n (xX (sw (zD k_1 1 rfl rfl qf (sp (yI (k_1+1)) (xY (xg (m' :=(((zH s t c).length) - ((k_1+1):Int)).toNat) qf ⟨_,a69,jw+1,c70,((zi s ((zH s t c).take k_1))++[(s.qx[((zH s t c)[k_1]!).toNat]!).xE]),Xj++[.slice ae66Need (((s.qx[((zH s t c)[k_1]!).toNat]!).xE).length) ce66Need],(VG++Fe66Need),k_1+1,uE12,?_,?_,rfl,N,H.pick [1,2,3,4,5,6,7,8] [0,9,10,11,12,13,14,15,16,17]⟩)))))))))
   · exact needs_take qf
   · omega
  rw [List.take_of_length_le (l:=zH s t c) (i:=k_1) qf] at H
  refine zx4 (zcr (oF rfl (oL rfl (H.cell 4 rfl rfl) (sp (yI c) ?_))))
  obtain ⟨b72,o73,rfl⟩:=H.addr 8 rfl qf
  obtain ⟨ae75,ce75,Fe75,H⟩:=H.vH 8 rfl c c qf qf qf
  refine oI rfl rfl (oL rfl (H.xR 1 rfl 0 rfl) (sp (.slice yF jw yA) ?_))
  obtain ⟨G76,hn77,h78⟩:=H.rowIsR (α:=yLI) 0 rfl 2 rfl qj
  have cp:=cell_pack p0 p1 (c:=c) qf
  have nl2:=XA s (zH s t c)
  have sz82:=H.base.size
  have lt83:=H.ltN (L:=[F_own]) [5]
  refine sw (oc (args_eq (by rw [← hn77]) (maxPack_ok _ (t.qE[c]!) (zi s (zH s t c)) (H.get 0 rfl).1 (hn77▸h78) qg qg)) ?_)
  rintro _ w80 ⟨ra79a,rn79a,rc79a,rx79a,rF79a,rfl,M,K⟩ _
  replace N:=N.merge sz82 lt83 M
  replace H:=H.merge K M
  obtain rfl:=H.zo (α:=yLI) 0 rfl 0 rfl qj
  refine sps [.tuple #[.slice ra79a (((zW (t.qE[c]!) (zi s (zH s t c))).1).length) rc79a,yI ((zW (t.qE[c]!) (zi s (zH s t c))).2)],.slice ra79a (((zW (t.qE[c]!) (zi s (zH s t c))).1).length) rc79a,yI ((zW (t.qE[c]!) (zi s (zH s t c))).2),.slice ra79a (((zW (t.qE[c]!) (zi s (zH s t c))).1).length) rc79a,yI ((zW (t.qE[c]!) (zi s (zH s t c))).2)] (zjcc (sps [yI ((zW (t.qE[c]!) (zi s (zH s t c))).2),.bool (((zW (t.qE[c]!) (zi s (zH s t c))).2:Int) != 0)] (zjn ?_)))
  refine xF (((zW (t.qE[c]!) (zi s (zH s t c))).2:Int) != 0) rfl (fun h85=>?_) (fun h85=>?_)
  ·skip
   replace h85:=bne_iff_ne.1 h85
   refine zcr (sps [yI ((zW (t.qE[c]!) (zi s (zH s t c))).2),yN,yI ((zW (t.qE[c]!) (zi s (zH s t c))).2)] (zjr (t_r (zr5 (ret2 yN (yI ((zW (t.qE[c]!) (zi s (zH s t c))).2)) rfl rfl rfl ⟨_,rfl,?_⟩)))))
   replace H:=H.erases [6,5,4,3,2,1,0]
   dsimp only [vJ,List.eraseIdx] at H
   refine sps [.tuple #[yN,yI ((zW (t.qE[c]!) (zi s (zH s t c))).2)],yN,yI ((zW (t.qE[c]!) (zi s (zH s t c))).2),yN,yI ((zW (t.qE[c]!) (zi s (zH s t c))).2)] (zjcc (sps [yI ((zW (t.qE[c]!) (zi s (zH s t c))).2),.bool (((zW (t.qE[c]!) (zi s (zH s t c))).2:Int) != 0)] (zjn (xF (((zW (t.qE[c]!) (zi s (zH s t c))).2:Int) != 0) rfl (fun h86=>?_) (fun h=>absurd (xA h) h85)))))
   replace h86:=bne_iff_ne.1 h86
   refine zcr (sps [yI ((zW (t.qE[c]!) (zi s (zH s t c))).2),yN,yI ((zW (t.qE[c]!) (zi s (zH s t c))).2)] (zjr (t_r ?_)))
   replace H:=H.nilRow 22 1
   replace H:=H.vN (α:=yLI)
   refine ret2 yN (yI ((zW (t.qE[c]!) (zi s (zH s t c))).2)) rfl rfl rfl ⟨_,rfl,?_,H.base⟩
   rw [cho_code (bad_code (c:=c) qf qf ‹_›) ‹_›]
   exact ⟨none,0,0,[],[],rfl,(N.emp.pick [0]),H.pick [0] [0]⟩
  replace h85:=xA h85
  refine qV (t_n (xX (sps [.slice vk zq zT,.slice a49 ((zH s t c).length) c50,.slice ra79a (((zW (t.qE[c]!) (zi s (zH s t c))).1).length) rc79a] (sw (jk [.slice a49 ((zH s t c).length) c50,.slice ra79a (((zW (t.qE[c]!) (zi s (zH s t c))).1).length) rc79a] [(0,.slice a49 ((zH s t c).length) c50),(1,.slice ra79a (((zW (t.qE[c]!) (zi s (zH s t c))).1).length) rc79a)] (sw (zI H underlying125 ti129 [.slice a49 ((zH s t c).length) c50,.slice ra79a (((zW (t.qE[c]!) (zi s (zH s t c))).1).length) rc79a] fun b87 w88 H=>?_)))))))
  have H0:=H
  obtain ⟨G92,hg94,hn93,H⟩:=H.Qz (α:=yLI) 1 rfl 0 rfl qj
  replace N:Fresh w.heap.size [G92,F_own]:=Fresh.ice N H0 1 hg94.1 hg94.2 (H0.yg [6])
  clear H0
  refine sw (zO H 3 rfl 0 rfl underlying125 ti129 rfl qj rfl rfl rfl (by simp [Value.oneCell',Value.cells]) qp qf fun a89 c90 w91 H=>?_)
  replace H:=H.snoc_inCellD 6 rfl 5 rfl 0 rfl
  refine sp (.slice a89 (zq+1) c90) (xY (b_n (t_n (xX (sw (zD c 1 rfl rfl qf (sp (yI (c+1)) (xY (xg (m' :=(s.qw.length - ((c+1):Int)).toNat) qf ⟨_,a89,zq+1,c90,((Qv s t c)++[⟨zH s t c,(zW (t.qE[c]!) (zi s (zH s t c))).1⟩]),Ql++[.slice a49 ((zH s t c).length) c50,.slice ra79a (((zW (t.qE[c]!) (zi s (zH s t c))).1).length) rc79a],(yG++(G51++G92)),c+1,uE6,?_,?_,?_,rfl,(N.pick [1]),H.pick [3,4,5,6,7,8,9] [0,8,9,10,11,12,13,14]⟩)))))))))
  · first | exact cells_yes qf | exact cells_no qf
  · omega
  · exact gp.succ (by first | exact .inl qf | exact .inr (show (zW _ _).2=0 from ‹_›))
 refine zx4 (zcr (sps [.slice vk zq zT,.slice vk zq zT,yI 0] (zjr (ret2 (.slice vk zq zT) (yI 0) rfl rfl rfl ⟨_,rfl,?_⟩))))
 replace H:=H.erases [4,3,2,1]
 dsimp only [vJ,List.eraseIdx] at H
 obtain rfl:c=s.qw.length:=by omega
 have kn:=packsL_ne p0 p1 (k:=s.qw.length) qf gp
 have kr:=rules_le s t s.qw.length
 have kl:=packsL_le s t s.qw.length
 have ce:=cells_len s t s.qw.length
 refine sps [.tuple #[.slice vk zq zT,yI 0],.slice vk zq zT,yI 0,.slice vk zq zT,yI 0] (zjcc (sps [yI 0,.bool false] (zjn (xF false rfl (fun h=>absurd h qj) (fun _=>qV (t_n (zcr (oF rfl (oL rfl (H.cell 2 rfl rfl) (oN rfl (sw (jr H underlying22 ti2 s.qx.length rfl rfl qf qf qf fun b95 w96 H=>sw (zI H underlying27 ti22 [.slice (aa b95 0) s.qx.length s.qx.length] fun b97 w98 H=>sp (.slice (aa b97 0) 1 1) (zjcc ?_))))))))))))))
 refine sp (.slice vk zq zT) (oN rfl (sp (yI 0) (zjn (qY ?_))))
 obtain ⟨G99,hg101,hn100,H⟩:=H.Qz (α:=inCellD) 2 rfl 0 rfl qj
 replace H:=H.boxRow 0 rfl 1 1 rfl qj
 replace H:=H.vN (α:=yLI)
 obtain ⟨G102,N,hn103,H⟩:=H.vP 1 rfl N (H.yg [3])
 replace H:=H.Vt true 0 rfl 1 rfl qm
 replace N:Fresh w.heap.size [(G102++[]),F_own]:=(N.emp.pick [1,0,2]).join
 refine zB (fun m' ρ w104=>∃ (xN:Env) (a_out_1:yOA) (Qs:Nat) (X5:Nat) (out_1:yLL) (Vx:List Value) (XH:yLN) (k_1:Nat),ρ=upd (upd (upd (upd xN 8 (.slice a_out_1 Qs X5)) 33 (.slice vk zq zT)) 34 (yI zq)) 35 (yI k_1)∧out_1=(jd s.qx.length (xe s t s.qw.length) (xC s t s.qw.length) k_1)∧((k_1:Int)≤zq)∧((jd s.qx.length (xe s t s.qw.length) (xC s t s.qw.length) k_1).length≤300)∧m' =(zq - (k_1:Int)).toNat∧Fresh w.heap.size [XH]∧St w w104 [rr a_out_1 Qs X5 22 1 Vx,.box b3 (yT t qR qO xh qZ qJ qI) 38,.box b1 (yS s qA qy qK qH) 36] [zk true XH Vx out_1,isF true G99 (.slice vk zq zT) (Qv s t s.qw.length),sF false qW qA qy s.qw,sF false xy qK qH s.qx,sF false xJ qR qO t.qB,sF false zn xh qZ t.qE,sF false xw qJ qI t.qC]) ((zq - (0:Int)).toNat) ⟨_,(aa b97 0),1,1,[(List.replicate s.qx.length (0:Int))],[.slice (aa b95 0) s.qx.length s.qx.length],(G102++[]),0,uE4,(by rfl),qf,(by rw [QV];show 1≤300;omega),rfl,(N.pick [0]),H.pick [0,3,4] [0,3,7,8,9,10,11]⟩ ?_
 clear H N
 rintro m' ρ w105 ⟨xN,a_out_1,Qs,X5,out_1,Vx,XH,k_1,rfl,rfl,i0,g3,rfl,N,H⟩
 have hn_out:=H.zo (α:=yLI) 0 rfl 0 rfl qj
 refine zcr (sp (.bool (decide ((k_1:Int) < zq))) (zjn (xU (cD rfl (fun h106=>?_) (fun h106=>?_)))))
 ·skip
  obtain ⟨gb,gc⟩:=cell_few (s:=s) (t:=t) (n:=s.qw.length) (i:=k_1) p0 qf
  refine qV (t_n (xU (qY (zcr ?_))))
  have hl109:=H.isLen 1 rfl
  obtain ⟨b107,o108,rfl⟩:=H.addr 1 rfl qf
  obtain ⟨ae110rules,ce110rules,Fe110rules,ae110packings,ce110packings,Fe110packings,H⟩:=H.elem_inCellD 1 rfl k_1 k_1 qf qf qf
  refine oI rfl rfl (sw (zl [.slice ae110rules ((((Qv s t s.qw.length)[k_1]!).frules).length) ce110rules,.slice ae110packings ((((Qv s t s.qw.length)[k_1]!).fpackings).length) ce110packings] isAgg129 sizeOf129 rfl (qF (H.get 2 rfl) 0 2) (sw (xI H ti129 [yN,yN] fun b111 w112 H=>sw (zy H 0 [.slice ae110rules ((((Qv s t s.qw.length)[k_1]!).frules).length) ce110rules,.slice ae110packings ((((Qv s t s.qw.length)[k_1]!).fpackings).length) ce110packings] sizeOf129 fun w113 H=>zjc (sw (vU H underlying27 ti22 fun b114 w115 H=>?_)))))))
  refine sp (.slice (aa b114 0) 0 0) (zjcc (sp (.slice a_out_1 Qs X5) (oN rfl (sp (yI 0) (zjn (qY ?_))))))
  obtain ⟨ce1,ce2⟩:=cells_at (s:=s) (t:=t) (k:=s.qw.length) (i:=k_1) qf
  rw [ce1,ce2] at H
  replace H:=H.boxRow 0 rfl 1 0 rfl qj
  replace H:=H.vN (α:=yLI)
  refine zB (fun m' ρ w116=>∃ (xN:Env) (a_next:yOA) (n_next:Nat) (c_next:Nat) (next:yLL) (x_next:List Value) (F_next:yLN) (k_51:Nat),ρ=upd (upd (upd (upd (upd (upd (upd (upd xN 10 (pp b111 0)) 11 (.slice a_next n_next c_next)) 33 (.slice (aa b107 o108) zq zT)) 34 (yI zq)) 35 (yI k_1)) 40 (.slice a_out_1 Qs X5)) 41 (yI Qs)) 42 (yI k_51)∧next=(nextK (jd s.qx.length (xe s t s.qw.length) (xC s t s.qw.length) k_1) ((xe s t s.qw.length)[k_1]!) ((xC s t s.qw.length)[k_1]!) k_51)∧((k_51:Int)≤Qs)∧((nextK (jd s.qx.length (xe s t s.qw.length) (xC s t s.qw.length) k_1) ((xe s t s.qw.length)[k_1]!) ((xC s t s.qw.length)[k_1]!) k_51).length≤300)∧m' =(Qs - (k_51:Int)).toNat∧Fresh w.heap.size [XH,F_next]∧St w w116 [rr a_next n_next c_next 22 1 x_next,.box b111 [.slice ae110rules (((xe s t s.qw.length)[k_1]!).length) ce110rules,.slice ae110packings (((xC s t s.qw.length)[k_1]!).length) ce110packings] 129,rr a_out_1 Qs X5 22 1 Vx,.box b3 (yT t qR qO xh qZ qJ qI) 38,.box b1 (yS s qA qy qK qH) 36] [zk true F_next x_next next,sF true Fe110rules ae110rules ce110rules ((xe s t s.qw.length)[k_1]!),sF true Fe110packings ae110packings ce110packings ((xC s t s.qw.length)[k_1]!),atF b107 (o108+(k_1:Int).toNat * 2) [.slice ae110rules (((xe s t s.qw.length)[k_1]!).length) ce110rules,.slice ae110packings (((xC s t s.qw.length)[k_1]!).length) ce110packings],zk true XH Vx (jd s.qx.length (xe s t s.qw.length) (xC s t s.qw.length) k_1),isF true G99 (.slice (aa b107 o108) zq zT) (Qv s t s.qw.length),sF false qW qA qy s.qw,sF false xy qK qH s.qx,sF false xJ qR qO t.qB,sF false zn xh qZ t.qE,sF false xw qJ qI t.qC]) ((Qs - (0:Int)).toNat) ⟨_,(aa b114 0),0,0,([]:yLL),[],[],0,uE8,(by rfl),qf,(by show 0≤300;omega),rfl,(N.emp.pick [1,0]),H⟩ ?_
  clear H N
  rintro m' ρ w117 ⟨xN,a_next,n_next,c_next,next,x_next,F_next,k_51,rfl,rfl,i0,n3,rfl,N,H⟩
  have hn_next:=H.zo (α:=yLI) 0 rfl 0 rfl qj
  refine zcr (sp (.bool (decide ((k_51:Int) < Qs))) (zjn (xU (cD rfl (fun h118=>?_) (fun h118=>?_)))))
  ·skip
   refine qV (t_n (xU (qY (zcr ?_))))
   obtain ⟨b119,rfl⟩:=H.yP 2 rfl qf
   refine oI rfl rfl ?_
   obtain ⟨a120,c121,G122,s123,h124,H⟩:=H.jO 2 rfl 4 rfl (iv:=k_51) k_51 qf qf
   refine oL rfl (h124) (sp (.slice a120 (((jd s.qx.length (xe s t s.qw.length) (xC s t s.qw.length) k_1)[k_51]!).length) c121) (zjcc (oF rfl (oL rfl (H.cell 1 rfl rfl) (oN rfl (sp (yI 0) (zjn (qY ?_))))))))
   refine zB (fun m' ρ w125=>∃ (xN:Env) (QS:yOA) (Qd:Nat) (QR:Nat) (next_1:yLL) (Q3:List Value) (Qw:yLN) (k_52:Nat),ρ=upd (upd (upd (upd (upd (upd (upd (upd (upd (upd (upd (upd xN 10 (pp b111 0)) 11 (.slice QS Qd QR)) 13 (.slice a120 (((jd s.qx.length (xe s t s.qw.length) (xC s t s.qw.length) k_1)[k_51]!).length) c121)) 33 (.slice (aa b107 o108) zq zT)) 34 (yI zq)) 35 (yI k_1)) 40 (.slice (aa b119 0) Qs X5)) 41 (yI Qs)) 42 (yI k_51)) 47 (.slice ae110packings (((xC s t s.qw.length)[k_1]!).length) ce110packings)) 48 (yI (((xC s t s.qw.length)[k_1]!).length))) 49 (yI k_52)∧next_1=(nextX (jd s.qx.length (xe s t s.qw.length) (xC s t s.qw.length) k_1) ((xe s t s.qw.length)[k_1]!) ((xC s t s.qw.length)[k_1]!) k_51 k_52)∧((k_52:Int)≤(((xC s t s.qw.length)[k_1]!).length))∧m' =((((xC s t s.qw.length)[k_1]!).length) - (k_52:Int)).toNat∧Fresh w.heap.size [XH,Qw]∧St w w125 [rr QS Qd QR 22 1 Q3,.box b111 [.slice ae110rules (((xe s t s.qw.length)[k_1]!).length) ce110rules,.slice ae110packings (((xC s t s.qw.length)[k_1]!).length) ce110packings] 129,rr (aa b119 0) Qs X5 22 1 Vx,.box b3 (yT t qR qO xh qZ qJ qI) 38,.box b1 (yS s qA qy qK qH) 36] [sF true G122 a120 c121 ((jd s.qx.length (xe s t s.qw.length) (xC s t s.qw.length) k_1)[k_51]!),zk true Qw Q3 next_1,sF true Fe110rules ae110rules ce110rules ((xe s t s.qw.length)[k_1]!),sF true Fe110packings ae110packings ce110packings ((xC s t s.qw.length)[k_1]!),atF b107 (o108+(k_1:Int).toNat * 2) [.slice ae110rules (((xe s t s.qw.length)[k_1]!).length) ce110rules,.slice ae110packings (((xC s t s.qw.length)[k_1]!).length) ce110packings],zk true XH Vx (jd s.qx.length (xe s t s.qw.length) (xC s t s.qw.length) k_1),isF true G99 (.slice (aa b107 o108) zq zT) (Qv s t s.qw.length),sF false qW qA qy s.qw,sF false xy qK qH s.qx,sF false xJ qR qO t.qB,sF false zn xh qZ t.qE,sF false xw qJ qI t.qC]) (((((xC s t s.qw.length)[k_1]!).length) - (0:Int)).toNat) ⟨_,a_next,n_next,c_next,(nextK (jd s.qx.length (xe s t s.qw.length) (xC s t s.qw.length) k_1) ((xe s t s.qw.length)[k_1]!) ((xC s t s.qw.length)[k_1]!) k_51),x_next,F_next,0,uE12,(by exact nextX_zero _ _ _ _),qf,rfl,N,H⟩ ?_
   clear H N
   rintro m' ρ w126 ⟨xN,QS,Qd,QR,next_1,Q3,Qw,k_52,rfl,rfl,i0,rfl,N,H⟩
   have hn_next:=H.zo (α:=yLI) 0 rfl 1 rfl qj
   refine zcr (sp (.bool (decide ((k_52:Int) < (((xC s t s.qw.length)[k_1]!).length)))) (zjn (xU (cD rfl (fun h127=>?_) (fun h127=>?_)))))
   ·skip
    have nx:=nextX_len (r:=((xe s t s.qw.length)[k_1]!)) (show k_51 < (jd s.qx.length (xe s t s.qw.length) (xC s t s.qw.length) k_1).length by omega) (show k_52≤((xC s t s.qw.length)[k_1]!).length by omega)
    have nk:=nextK_len (r:=((xe s t s.qw.length)[k_1]!)) (P:=((xC s t s.qw.length)[k_1]!)) (show k_51≤(jd s.qx.length (xe s t s.qw.length) (xC s t s.qw.length) k_1).length by omega)
    have g1:=prodG_at (n:=s.qx.length) (rs:=(xe s t s.qw.length)) (all:=(xC s t s.qw.length)) (i:=k_1) (k:=k_51) qf
    have g2:=pack_at (s:=s) (t:=t) (n:=s.qw.length) (i:=k_1) (x:=k_52) qf qf
    refine qV (t_n (xU (qY (zcr ?_))))
    obtain ⟨b128,o129,rfl⟩:=H.addr 3 rfl qf
    obtain ⟨ae131,ce131,Fe131,H⟩:=H.vH 3 rfl k_52 k_52 qf qf qf
    refine oI rfl rfl (oL rfl (H.xR 1 rfl 0 rfl) (sp (.slice ae131 ((((xC s t s.qw.length)[k_1]!)[k_52]!).length) ce131) (zjc (sp (.slice a120 (((jd s.qx.length (xe s t s.qw.length) (xC s t s.qw.length) k_1)[k_51]!).length) c121) ?_))))
    have sz132:=H.base.size
    have lt133:=H.ltN (L:=[XH,Qw]) [7,3]
    refine sw (oc (cloneI_ok _ ((jd s.qx.length (xe s t s.qw.length) (xC s t s.qw.length) k_1)[k_51]!) (H.get 2 rfl).1 qg) ?_)
    rintro v137 w135 r137 x136
    replace H:=H.zC x136 r137
    obtain ⟨a138,c139,rfl,hc140,hm141⟩:=H.ji 0 rfl
    refine sp (.slice a138 (((jd s.qx.length (xe s t s.qw.length) (xC s t s.qw.length) k_1)[k_51]!).length) c139) (zjcc (oF rfl (oL rfl (H.cell 2 rfl rfl) (oN rfl (sp (yI 0) (zjn (qY ?_)))))))
    refine zB (fun m' ρ w142=>∃ (xN:Env) (k_53:Nat) (own_1:yLI),ρ=upd (upd (upd (upd (upd (upd (upd (upd (upd (upd (upd (upd (upd (upd (upd (upd (upd xN 10 (pp b111 0)) 11 (.slice QS Qd QR)) 13 (.slice a120 (((jd s.qx.length (xe s t s.qw.length) (xC s t s.qw.length) k_1)[k_51]!).length) c121)) 15 (.slice ae131 ((((xC s t s.qw.length)[k_1]!)[k_52]!).length) ce131)) 16 (.slice a138 (((jd s.qx.length (xe s t s.qw.length) (xC s t s.qw.length) k_1)[k_51]!).length) c139)) 33 (.slice (aa b107 o108) zq zT)) 34 (yI zq)) 35 (yI k_1)) 40 (.slice (aa b119 0) Qs X5)) 41 (yI Qs)) 42 (yI k_51)) 47 (.slice (aa b128 o129) (((xC s t s.qw.length)[k_1]!).length) ce110packings)) 48 (yI (((xC s t s.qw.length)[k_1]!).length))) 49 (yI k_52)) 56 (.slice ae110rules (((xe s t s.qw.length)[k_1]!).length) ce110rules)) 57 (yI (((xe s t s.qw.length)[k_1]!).length))) 58 (yI k_53)∧own_1=(setTo ((jd s.qx.length (xe s t s.qw.length) (xC s t s.qw.length) k_1)[k_51]!) ((xe s t s.qw.length)[k_1]!) (((xC s t s.qw.length)[k_1]!)[k_52]!) k_53)∧((k_53:Int)≤(((xe s t s.qw.length)[k_1]!).length))∧m' =((((xe s t s.qw.length)[k_1]!).length) - (k_53:Int)).toNat∧Fresh w.heap.size [XH,Qw]∧St w w142 [rr a138 (((jd s.qx.length (xe s t s.qw.length) (xC s t s.qw.length) k_1)[k_51]!).length) c139 2 1 (own_1.map (Value.int .i64)),rr QS Qd QR 22 1 Q3,.box b111 [.slice ae110rules (((xe s t s.qw.length)[k_1]!).length) ce110rules,.slice (aa b128 o129) (((xC s t s.qw.length)[k_1]!).length) ce110packings] 129,rr (aa b119 0) Qs X5 22 1 Vx,.box b3 (yT t qR qO xh qZ qJ qI) 38,.box b1 (yS s qA qy qK qH) 36] [sF true Fe131 ae131 ce131 (((xC s t s.qw.length)[k_1]!)[k_52]!),atF b128 (o129+(k_52:Int).toNat * 1) [.slice ae131 ((((xC s t s.qw.length)[k_1]!)[k_52]!).length) ce131],sF true G122 a120 c121 ((jd s.qx.length (xe s t s.qw.length) (xC s t s.qw.length) k_1)[k_51]!),zk true Qw Q3 (nextX (jd s.qx.length (xe s t s.qw.length) (xC s t s.qw.length) k_1) ((xe s t s.qw.length)[k_1]!) ((xC s t s.qw.length)[k_1]!) k_51 k_52),sF true Fe110rules ae110rules ce110rules ((xe s t s.qw.length)[k_1]!),sF true Fe110packings (aa b128 o129) ce110packings ((xC s t s.qw.length)[k_1]!),atF b107 (o108+(k_1:Int).toNat * 2) [.slice ae110rules (((xe s t s.qw.length)[k_1]!).length) ce110rules,.slice (aa b128 o129) (((xC s t s.qw.length)[k_1]!).length) ce110packings],zk true XH Vx (jd s.qx.length (xe s t s.qw.length) (xC s t s.qw.length) k_1),isF true G99 (.slice (aa b107 o108) zq zT) (Qv s t s.qw.length),sF false qW qA qy s.qw,sF false xy qK qH s.qx,sF false xJ qR qO t.qB,sF false zn xh qZ t.qE,sF false xw qJ qI t.qC]) (((((xe s t s.qw.length)[k_1]!).length) - (0:Int)).toNat) ⟨_,0,((jd s.qx.length (xe s t s.qw.length) (xC s t s.qw.length) k_1)[k_51]!),uE17,(by rfl),qf,rfl,N,H⟩ ?_
    clear H N
    rintro m' ρ w143 ⟨xN,k_53,own_1,rfl,rfl,i0,rfl,N,H⟩
    have hn_own:=H.Xk 0 rfl
    have sl:=setTo_len ((jd s.qx.length (xe s t s.qw.length) (xC s t s.qw.length) k_1)[k_51]!) ((xe s t s.qw.length)[k_1]!) (((xC s t s.qw.length)[k_1]!)[k_52]!) k_53
    refine zcr (sp (.bool (decide ((k_53:Int) < (((xe s t s.qw.length)[k_1]!).length)))) (zjn (xU (cD rfl (fun h144=>?_) (fun h144=>?_)))))
    ·skip
     obtain ⟨g3',g4⟩:=choice_at (s:=s) (t:=t) (n:=s.qw.length) (i:=k_1) (r:=k_53) qf qf
     refine qV (t_n (xU (qY (zcr (sp (yI k_53) ?_)))))
     obtain ⟨b145,o146,rfl⟩:=H.addr 4 rfl qf
     refine oI rfl rfl (oL rfl (H.jy 4 rfl k_53 qf qf) (sps [yI k_53,yI (((xe s t s.qw.length)[k_1]!)[k_53]!)] (zjn (xX (sps [.slice a138 (((jd s.qx.length (xe s t s.qw.length) (xC s t s.qw.length) k_1)[k_51]!).length) c139,yI (((xe s t s.qw.length)[k_1]!)[k_53]!),.slice ae131 ((((xC s t s.qw.length)[k_1]!)[k_52]!).length) ce131,yI k_53] ?_)))))
     obtain ⟨b148,o149,rfl⟩:=H.addr 0 rfl qf
     refine oI rfl rfl (oL rfl (H.jy 0 rfl k_53 qf qf) ?_)
     obtain ⟨b151,rfl⟩:=H.yP 0 rfl qf
     refine oI rfl rfl (sw (QW H 0 rfl ((((xC s t s.qw.length)[k_1]!)[k_52]!)[k_53]!) sizeOf2 rfl rfl (i:=((((xe s t s.qw.length)[k_1]!)[k_53]!).toNat)) qf qf fun w152 H=>xY (b_n (t_n (xX (sw (zD k_53 1 rfl rfl qf (sp (yI (k_53+1)) (xY ?_)))))))))
     refine xg (m' :=((((xe s t s.qw.length)[k_1]!).length) - ((k_53+1):Int)).toNat) qf ⟨_,k_53+1,((setTo ((jd s.qx.length (xe s t s.qw.length) (xC s t s.qw.length) k_1)[k_51]!) ((xe s t s.qw.length)[k_1]!) (((xC s t s.qw.length)[k_1]!)[k_52]!) k_53).set ((((xe s t s.qw.length)[k_1]!)[k_53]!).toNat) ((((xC s t s.qw.length)[k_1]!)[k_52]!)[k_53]!)),uE17,?_,?_,rfl,N,H⟩
     · rfl
     · omega
    refine zx4 (xX (sps [.slice QS Qd QR,.slice a138 (((jd s.qx.length (xe s t s.qw.length) (xC s t s.qw.length) k_1)[k_51]!).length) c139] (sw (zI H underlying27 ti22 [.slice a138 (((jd s.qx.length (xe s t s.qw.length) (xC s t s.qw.length) k_1)[k_51]!).length) c139] fun b153 w154 H=>?_))))
    obtain ⟨G158,N,hn159,H⟩:=H.vP 1 rfl N (H.yg [7,3])
    refine sw (zO H 2 rfl 0 rfl underlying27 ti22 rfl qj rfl rfl rfl (by simp [Value.oneCell',Value.cells]) qp qf fun a155 c156 w157 H=>?_)
    replace H:=H.yj 4 rfl 0 rfl
    replace N:Fresh w.heap.size [(Qw++G158),XH]:=(N.pick [2,0,1]).join
    refine sp (.slice a155 (Qd+1) c156) (xY (b_n (t_n (xX (sw (zD k_52 1 rfl rfl qf (sp (yI (k_52+1)) (xY ?_))))))))
    refine xg (m' :=((((xC s t s.qw.length)[k_1]!).length) - ((k_52+1):Int)).toNat) qf ⟨_,a155,Qd+1,c156,((nextX (jd s.qx.length (xe s t s.qw.length) (xC s t s.qw.length) k_1) ((xe s t s.qw.length)[k_1]!) ((xC s t s.qw.length)[k_1]!) k_51 k_52)++[(setTo ((jd s.qx.length (xe s t s.qw.length) (xC s t s.qw.length) k_1)[k_51]!) ((xe s t s.qw.length)[k_1]!) (((xC s t s.qw.length)[k_1]!)[k_52]!) k_53)]),Q3++[.slice a138 (((jd s.qx.length (xe s t s.qw.length) (xC s t s.qw.length) k_1)[k_51]!).length) c139],(Qw++G158),k_52+1,uE12,?_,?_,rfl,(N.pick [1,0]),H.pick [2,3,4,5,6] [4,0,6,7,8,9,10,11,12,13,14,15]⟩
    · exact nextX_succ qf (by rw [show k_53=((xe s t s.qw.length)[k_1]!).length by omega];rfl)
    · omega
   refine zx4 (zcr (sp (.slice QS Qd QR) (oN rfl (sp (.bool (decide ((Qd:Int) > 300))) (zjn (cD rfl (fun h160=>?_) (fun h160=>?_)))))))
   ·skip
    refine zcr (sps [yN,yI 3] (zjr (zr5 (zr5 ?_))))
    replace H:=H.nilRow 22 1
    replace H:=H.vN (α:=yLI)
    refine ret2 yN (yI 3) rfl rfl rfl ⟨_,rfl,?_,H.base⟩
    first | rw [cho_3 (.inl (own_bad p0 (q:=k) qf qf))] | rw [cho_3 (.inr (prod_stop (G:=(jd s.qx.length (xe s t s.qw.length) (xC s t s.qw.length) k_1)) (r:=((xe s t s.qw.length)[k_1]!)) (k:=k_51+1) (i:=k_1) kn qf (QV _) qf (by rw [← nextX_end (x:=k_52) qf qf];omega)))]
    exact ⟨none,0,0,[],[],rfl,(N.emp.pick [0]),H.pick [0] [0]⟩
   refine qV (b_n (t_n (xX (sw (zD k_51 1 rfl rfl qf (sp (yI (k_51+1)) (xY (xg (m' :=(Qs - ((k_51+1):Int)).toNat) qf ⟨_,QS,Qd,QR,(nextX (jd s.qx.length (xe s t s.qw.length) (xC s t s.qw.length) k_1) ((xe s t s.qw.length)[k_1]!) ((xC s t s.qw.length)[k_1]!) k_51 k_52),Q3,Qw,k_51+1,uE8,?_,?_,?_,rfl,N,H.pick [0,1,2,3,4] [1,2,3,4,5,6,7,8,9,10,11]⟩))))))))
   · exact nextX_end qf qf
   · omega
   · rw [← nextX_end (x:=k_52) qf qf];omega
  refine zx4 (xX (sps [.slice a_next n_next c_next,.slice a_next n_next c_next] (xY (b_n (t_n (xX (sw (zD k_1 1 rfl rfl qf (sp (yI (k_1+1)) (xY (xg (m' :=(zq - ((k_1+1):Int)).toNat) qf ⟨_,a_next,n_next,c_next,(nextK (jd s.qx.length (xe s t s.qw.length) (xC s t s.qw.length) k_1) ((xe s t s.qw.length)[k_1]!) ((xC s t s.qw.length)[k_1]!) k_51),x_next,F_next,k_1+1,uE4,?_,?_,?_,rfl,(N.pick [1]),H.pick [0,3,4] [0,5,6,7,8,9,10]⟩)))))))))))
  · rw [show k_51=(jd s.qx.length (xe s t s.qw.length) (xC s t s.qw.length) k_1).length by omega];rfl
  · omega
  · show (nextK (jd s.qx.length (xe s t s.qw.length) (xC s t s.qw.length) k_1) ((xe s t s.qw.length)[k_1]!) ((xC s t s.qw.length)[k_1]!) (jd s.qx.length (xe s t s.qw.length) (xC s t s.qw.length) k_1).length).length≤300;rw [← show k_51=(jd s.qx.length (xe s t s.qw.length) (xC s t s.qw.length) k_1).length by omega];exact n3
 obtain rfl:k_1=(xC s t s.qw.length).length:=by omega
 have on:0 < (jd s.qx.length (xe s t s.qw.length) (xC s t s.qw.length) (xC s t s.qw.length).length).length:=by rw [QV];exact prod_mono kn (Nat.zero_le _) (Nat.le_refl _)
 have kc:¬ QG (xC s t s.qw.length) (xC s t s.qw.length).length > 300:=by rw [QV] at g3;omega
 refine zx4 (zcr (sp (.slice a_out_1 Qs X5) ?_))
 obtain ⟨b161,rfl⟩:=H.yP 0 rfl qf
 refine sw (o_callF #[.slice (aa b161 0) Qs X5,.func (.func 94) #[] #[]] rfl rfl call93 (sortRow sortL call94 cmpSort H 0 rfl 0 rfl qf qf) ?_)
 rintro _ w162 ⟨xs163,F164,l165,rfl,hF166,hp167,hs168,H⟩
 replace N:Fresh w.heap.size [F164]:=Fresh.perm N hF166
 refine zjc (sps [.slice (aa b161 0) Qs X5,.slice (aa b161 0) Qs X5,yI 0] (zjr (ret2 (.slice (aa b161 0) Qs X5) (yI 0) rfl rfl rfl ⟨_,rfl,?_,H.base⟩)))
 rw [cho_0 gp kc hp167 (in_order (Nat.le_refl _) fun a b h1 h2 h3=>hs168 a b h1 h2 ((cmpL_ahead ((perm_rows hp167 b qf).trans (perm_rows hp167 a qf).symm)).2 h3))]
 exact ⟨(aa b161 0),Qs,X5,xs163,F164,rfl,N,H.pick [0] [0]⟩
theorem l03Succ_ok (w:World) (s:qL) (t:qM) {qA:yOA} {qW:yLN} {qK:yOA} {xy:yLN} {qR:yOA} {xJ:yLN} {xh:yOA} {zn:yLN} {qJ:yOA} {xw:yLN} (hs:vw w bs os (yS s qA qy qK qH)) (xf:qP.rep w qW [.slice qA s.qw.length qy] s.qw) (xG:qP.rep w xy [.slice qK s.qx.length qH] s.qx) (ht:vw w bt ot (yT t qR qO xh qZ qJ qI)) (zh:qP.rep w xJ [.slice qR t.qB.length qO] t.qB) (zJ:qP.rep w zn [.slice xh t.qE.length qZ] t.qE) (xK:qP.rep w xw [.slice qJ t.qC.length qI] t.qC) (p0:jZ s) (p1:zK s t):Calls Tryz.prog 72 #[pp bs os,pp bt ot] w (Ret (fun v w' =>∃ (ra0:yOA) (rn0:Nat) (rc0:Nat) (rx0:List Value) (rF0:yLN),v=.tuple #[.slice ra0 rn0 rc0,yI ((qX s t).2)]∧Fresh w.heap.size [rF0]∧St w w' [rr ra0 rn0 rc0 38 3 rx0] [zk true rF0 rx0 ((qX s t).1)]) w):=by
 refine en func72 ntmps72 ?_
 have H:=(((((((St.start w).arg xK).arg zJ).arg zh).XU ht).arg xG).arg xf).XU hs
 have ve:=qN xf
 have jh:=qN xG
 have yM:=qN zh
 have Qr:=qN zJ
 have jF:=qN xK
 clear hs xf xG ht zh zJ xK
 have N:=Fresh.nil w.heap.size
 refine zcr (sps [yN,yI 0] (zjcc (sps [pp bs os,pp bt ot] (sw (oq (l03Halted_ok _ s t (qF (H.get 0 rfl) 0 3) (H.get 1 rfl).1 (H.get 2 rfl).1 (qF (H.get 3 rfl) 0 3) (H.get 4 rfl).1 (H.get 5 rfl).1 (H.get 6 rfl).1 qg qg) H fun w2 H=>zjn (cP rfl (fun h4=>?_) (fun h4=>?_)))))))
 ·skip
  refine zcr (sw (vU H underlying47 ti38 fun b5 w6 H=>sps [.slice (aa b5 0) 0 0,yI 0] (zjr (t_r ?_))))
  replace H:=H.boxRow 0 rfl 3 0 rfl qj
  replace H:=H.vN (α:=qM)
  replace H:St _ _ [rr (aa b5 0) 0 0 38 3 []] [zk true [] [] ([]:List qM),atF bs os (yS s qA qy qK qH),sF false qW qA qy s.qw,sF false xy qK qH s.qx,atF bt ot (yT t qR qO xh qZ qJ qI),sF false xJ qR qO t.qB,sF false zn xh qZ t.qE,sF false xw qJ qI t.qC]:=H
  refine ret2 (.slice (aa b5 0) 0 0) (yI 0) rfl rfl rfl ⟨_,rfl,?_,H.base⟩
  rw [succ_h (by first | assumption | exact appls_halt.1 qf)]
  exact ⟨(aa b5 0),0,0,[],[],rfl,N.emp,H.pick [0] [0]⟩
 refine qV (t_n (zcr (sps [pp bs os,pp bt ot] ?_)))
 have sz10:=H.base.size
 refine sw (oc (l03Choices_ok _ s t (qF (H.get 0 rfl) 0 3) (H.get 1 rfl).1 (H.get 2 rfl).1 (qF (H.get 3 rfl) 0 3) (H.get 4 rfl).1 (H.get 5 rfl).1 (H.get 6 rfl).1 qg qg) ?_)
 rintro _ w8 ⟨ra7a,rn7a,rc7a,rx7a,rF7a,rfl,M,K⟩ _
 replace N:=N.merge sz10 qm M
 replace H:=H.merge K M
 obtain rfl:=H.zo (α:=yLI) 0 rfl 0 rfl qj
 refine sps [.tuple #[.slice ra7a (((zX s t).1).length) rc7a,yI ((zX s t).2)],.slice ra7a (((zX s t).1).length) rc7a,yI ((zX s t).2),.slice ra7a (((zX s t).1).length) rc7a,yI ((zX s t).2)] (zjcc (sps [yI ((zX s t).2),.bool (((zX s t).2:Int) != 0)] (zjn (xF (((zX s t).2:Int) != 0) rfl (fun h13=>?_) (fun h13=>?_)))))
 ·skip
  replace h13:=bne_iff_ne.1 h13
  refine zcr (sw (vU H underlying47 ti38 fun b14 w15 H=>sps [yI ((zX s t).2),.slice (aa b14 0) 0 0,yI ((zX s t).2)] (zjr (t_r ?_))))
  replace H:=H.boxRow 0 rfl 3 0 rfl qj
  replace H:=H.vN (α:=qM)
  replace H:St _ _ [rr (aa b14 0) 0 0 38 3 [],rr ra7a (((zX s t).1).length) rc7a 22 1 rx7a] [zk true [] [] ([]:List qM),zk true rF7a rx7a ((zX s t).1),atF bs os (yS s qA qy qK qH),sF false qW qA qy s.qw,sF false xy qK qH s.qx,atF bt ot (yT t qR qO xh qZ qJ qI),sF false xJ qR qO t.qB,sF false zn xh qZ t.qE,sF false xw qJ qI t.qC]:=H
  refine ret2 (.slice (aa b14 0) 0 0) (yI ((zX s t).2)) rfl rfl rfl ⟨_,rfl,?_,H.base⟩
  rw [succ_c ‹_›]
  exact ⟨(aa b14 0),0,0,[],[],rfl,(N.emp.pick [0]),H.pick [0] [0]⟩
 replace h13:=xA h13
 refine qV (t_n (zcr (sps [pp bs os,pp bt ot,.slice ra7a (((zX s t).1).length) rc7a] ?_)))
 obtain ⟨G16,hn17,h18⟩:=H.rowIsR (α:=yLI) 0 rfl 0 rfl qj
 have ln:=cho_len s t
 have cc:=fun q (hq:q < (zX s t).1.length)=>(cho_ok p0 p1 hq).1
 have ci:=fun q (hq:q < (zX s t).1.length)=>(cho_ok p0 p1 hq).2
 have sz22:=H.base.size
 have lt23:=H.ltN (L:=[rF7a]) [0]
 refine sw (oc (l03Next_ok _ s t ((zX s t).1) (qF (H.get 1 rfl) 0 3) (H.get 2 rfl).1 (H.get 3 rfl).1 (qF (H.get 4 rfl) 0 3) (H.get 5 rfl).1 (H.get 6 rfl).1 (H.get 7 rfl).1 h18 qg qg qg qg) ?_)
 rintro _ w20 ⟨ra19a,rn19a,rc19a,rx19a,rF19a,rfl,M,K⟩ _
 replace N:=N.merge sz22 lt23 M
 replace H:=H.merge K M
 obtain rfl:=H.zo (α:=qM) 0 rfl 0 rfl qj
 refine sps [.slice ra19a (((yX s t ((zX s t).1)).1).length) rc19a,yI ((yX s t ((zX s t).1)).2),.slice ra19a (((yX s t ((zX s t).1)).1).length) rc19a,yI ((yX s t ((zX s t).1)).2)] (zjr (ret2 (.slice ra19a (((yX s t ((zX s t).1)).1).length) rc19a) (yI ((yX s t ((zX s t).1)).2)) rfl rfl rfl ⟨_,rfl,?_,H.base⟩))
 rw [succ_0 (by first | assumption | exact fun h=>by have:=appls_halt.2 h;omega) ql]
 exact ⟨ra19a,((yX s t ((zX s t).1)).1).length,rc19a,rx19a,rF19a,rfl,(N.pick [0]),H.pick [0] [0]⟩

theorem nextStates_ok (w:World) (s:qL) (t:qM) {qA:yOA} {qW:yLN} {qK:yOA} {xy:yLN} {qR:yOA} {xJ:yLN} {xh:yOA} {zn:yLN} {qJ:yOA} {xw:yLN} (xf:qP.rep w qW [.slice qA s.qw.length qy] s.qw) (xG:qP.rep w xy [.slice qK s.qx.length qH] s.qx) (zh:qP.rep w xJ [.slice qR t.qB.length qO] t.qB) (zJ:qP.rep w zn [.slice xh t.qE.length qZ] t.qE) (xK:qP.rep w xw [.slice qJ t.qC.length qI] t.qC) (p0:jZ s) (p1:zK s t):Calls Tryz.prog 73 #[.agg #[yI s.xB,.slice qA s.qw.length qy,.slice qK s.qx.length qH],.agg #[.slice qR t.qB.length qO,.slice xh t.qE.length qZ,.slice qJ t.qC.length qI]] w (Ret (fun v w' =>∃ (ra0:yOA) (rn0:Nat) (rc0:Nat) (rx0:List Value) (rF0:yLN),v=.tuple #[.slice ra0 rn0 rc0,yI ((qX s t).2)]∧Fresh w.heap.size [rF0]∧St w w' [rr ra0 rn0 rc0 38 3 rx0] [zk true rF0 rx0 ((qX s t).1)]) w):=by
 refine en func73 ntmps73 ?_
 have H:=(((((St.start w).arg xK).arg zJ).arg zh).arg xG).arg xf
 have ve:=qN xf
 have jh:=qN xG
 have yM:=qN zh
 have Qr:=qN zJ
 have jF:=qN xK
 clear xf xG zh zJ xK
 have N:=Fresh.nil w.heap.size
 refine zcr (sw (vz H (yS s qA qy qK qH) fun b1 w2 H=>sw (vz H (yT t qR qO xh qZ qJ qI) fun b3 w4 H=>sps [yN,yI 0] (zjc (sw (zl (yS s qA qy qK qH) isAgg36 sizeOf36 rfl (qF (H.cells 1 rfl) 0 3) ?_))))))
 refine sw (zl (yT t qR qO xh qZ qJ qI) isAgg38 sizeOf38 rfl (qF (H.cells 0 rfl) 0 3) ?_)
 have sz8:=H.base.size
 refine sw (oc (choices_ok _ s t (H.get 0 rfl).1 (H.get 1 rfl).1 (H.get 2 rfl).1 (H.get 3 rfl).1 (H.get 4 rfl).1 qg qg) ?_)
 rintro _ w6 ⟨ra5a,rn5a,rc5a,rx5a,rF5a,rfl,M,K⟩ _
 replace N:=N.merge sz8 qm M
 replace H:=H.merge K M
 obtain rfl:=H.zo (α:=yLI) 0 rfl 0 rfl qj
 refine sps [.tuple #[.slice ra5a (((zX s t).1).length) rc5a,yI ((zX s t).2)],.slice ra5a (((zX s t).1).length) rc5a,yI ((zX s t).2),.slice ra5a (((zX s t).1).length) rc5a,yI ((zX s t).2)] (zjcc (sps [yI ((zX s t).2),.bool (((zX s t).2:Int) != 0)] (zjn (xF (((zX s t).2:Int) != 0) rfl (fun h11=>?_) (fun h11=>?_)))))
 ·skip
  replace h11:=bne_iff_ne.1 h11
  refine zcr (sps [yI ((zX s t).2),yN,yI ((zX s t).2)] (zjr (t_r ?_)))
  replace H:=H.nilRow 38 3
  replace H:=H.vN (α:=qM)
  refine ret2 yN (yI ((zX s t).2)) rfl rfl rfl ⟨_,rfl,?_,H.base⟩
  rw [succ_c ‹_›]
  exact ⟨none,0,0,[],[],rfl,(N.emp.pick [0]),H.pick [0] [0]⟩
 replace h11:=xA h11
 refine qV (t_n (zcc (sw (zl (yS s qA qy qK qH) isAgg36 sizeOf36 rfl (qF (H.cells 2 rfl) 0 3) (sw (zl (yT t qR qO xh qZ qJ qI) isAgg38 sizeOf38 rfl (qF (H.cells 1 rfl) 0 3) ?_))))))
 have sz15:=H.base.size
 refine sw (oc (applicable_ok _ s t (H.get 1 rfl).1 (H.get 2 rfl).1 (H.get 3 rfl).1 (H.get 4 rfl).1 (H.get 5 rfl).1 qg qg) ?_)
 rintro _ w13 ⟨ra12,rn12,rc12,rfl,M,K⟩ _
 replace H:=H.merge K M
 obtain rfl:=H.Xk 0 rfl
 refine oN rfl (sp (.bool (((appls s t).length:Int) == 0)) (zjn (cE rfl (fun h18=>?_) (fun h18=>?_))))
 ·skip
  refine zcr (sps [yN,yI 0] (zjr (t_r ?_)))
  replace H:=H.nilRow 38 3
  replace H:=H.vN (α:=qM)
  refine ret2 yN (yI 0) rfl rfl rfl ⟨_,rfl,?_,H.base⟩
  rw [succ_h (by first | assumption | exact appls_halt.1 qf)]
  exact ⟨none,0,0,[],[],rfl,(N.emp.pick [0]),H.pick [0] [0]⟩
 refine qV (t_n (zcr (sw (zl (yS s qA qy qK qH) isAgg36 sizeOf36 rfl (qF (H.cells 3 rfl) 0 3) (sw (zl (yT t qR qO xh qZ qJ qI) isAgg38 sizeOf38 rfl (qF (H.cells 2 rfl) 0 3) (sp (.slice ra5a (((zX s t).1).length) rc5a) ?_)))))))
 obtain ⟨G19,hn20,h21⟩:=H.rowIsR (α:=yLI) 1 rfl 0 rfl qj
 have ln:=cho_len s t
 have cc:=fun q (hq:q < (zX s t).1.length)=>(cho_ok p0 p1 hq).1
 have ci:=fun q (hq:q < (zX s t).1.length)=>(cho_ok p0 p1 hq).2
 have sz25:=H.base.size
 have lt26:=H.ltN (L:=[rF5a]) [0]
 refine sw (oc (behind_ok _ s t ((zX s t).1) (H.get 1 rfl).1 (H.get 2 rfl).1 (H.get 3 rfl).1 (H.get 4 rfl).1 (H.get 5 rfl).1 h21 qg qg qg qg qg) ?_)
 rintro _ w23 ⟨ra22a,rn22a,rc22a,rx22a,rF22a,rfl,M,K⟩ _
 replace N:=N.merge sz25 lt26 M
 replace H:=H.merge K M
 obtain rfl:=H.zo (α:=qM) 0 rfl 0 rfl qj
 refine sps [.slice ra22a (((yX s t ((zX s t).1)).1).length) rc22a,yI ((yX s t ((zX s t).1)).2),.slice ra22a (((yX s t ((zX s t).1)).1).length) rc22a,yI ((yX s t ((zX s t).1)).2)] (zjr (ret2 (.slice ra22a (((yX s t ((zX s t).1)).1).length) rc22a) (yI ((yX s t ((zX s t).1)).2)) rfl rfl rfl ⟨_,rfl,?_,H.base⟩))
 rw [succ_0 (by first | assumption | exact fun h=>by have:=appls_halt.2 h;omega) ql]
 exact ⟨ra22a,((yX s t ((zX s t).1)).1).length,rc22a,rx22a,rF22a,rfl,(N.pick [0]),H.pick [0] [0]⟩
theorem find_ok (w:World) (l:List qM) (u:qM) {al:yOA} {Fl:yLN} {auAlive:yOA} {FuAlive:yLN} {auBags:yOA} {FuBags:yLN} {auAround:yOA} {FuAround:yLN} (hl:qP.rep w Fl [.slice al l.length cl] l) (huAlive:qP.rep w FuAlive [.slice auAlive u.qB.length cuAlive] u.qB) (huBags:qP.rep w FuBags [.slice auBags u.qE.length cuBags] u.qE) (huAround:qP.rep w FuAround [.slice auAround u.qC.length cuAround] u.qC):Calls Tryz.prog 80 #[.slice al l.length cl,.agg #[.slice auAlive u.qB.length cuAlive,.slice auBags u.qE.length cuBags,.slice auAround u.qC.length cuAround]] w (Ret (fun v w' =>v=yI (firstIdx (fun zz=>decide (l[zz]! =u)) l.length)) w):=by
 refine en func80 ntmps80 ?_
 have H:=((((St.start w).arg huAround).arg huBags).arg huAlive).arg hl
 have nhl:=qN hl
 have nhuAlive:=qN huAlive
 have nhuBags:=qN huBags
 have nhuAround:=qN huAround
 clear hl huAlive huBags huAround
 have N:=Fresh.nil w.heap.size
 refine zcr (sw (vz H (yT u auAlive cuAlive auBags cuBags auAround cuAround) fun b1 w2 H=>sp (yI 0) (zjc (sps [.slice al l.length cl,.func (.func 117) #[] #[pp b1 0]] (sw (zZ #[.slice al l.length cl,.func (.func 117) #[] #[pp b1 0]] rfl rfl call116 (en func116 ntmps116 ?_)))))))
 refine zcr (sp (yI 0) (zjcc (sp (.slice al l.length cl) (oN rfl (sp (yI 0) (zjn (qY ?_)))))))
 refine zB (fun m' ρ w3=>∃ (xN:Env) (i:Nat),ρ=upd (upd (upd (upd xN 0 (.slice al l.length cl)) 1 (.func (.func 117) #[] #[pp b1 0])) 7 (yI l.length)) 8 (yI i)∧((i:Int)≤l.length)∧(noneTo (fun zz=>decide (l[zz]! =u)) i)∧m' =(l.length - (i:Int)).toNat∧Fresh w.heap.size []∧St w w3 [.box b1 (yT u auAlive cuAlive auBags cuBags auAround cuAround) 38] [sF false Fl al cl l,sF false FuAlive auAlive cuAlive u.qB,sF false FuBags auBags cuBags u.qE,sF false FuAround auAround cuAround u.qC]) ((l.length - (0:Int)).toNat) ⟨_,0,uE4,qf,(by exact fun j hj=>by omega),rfl,N,H⟩ ?_
 clear H N
 rintro m' ρ w4 ⟨xN,i,rfl,i0,i1,rfl,N,H⟩
 refine zcr (sp (.bool (decide ((i:Int) < l.length))) (zjn (xU (cD rfl (fun h5=>?_) (fun h5=>?_)))))
 ·skip
  refine qV (t_n (xU (qY (zcr (sps [yI i,yI i] (zjc (sps [.func (.func 117) #[] #[pp b1 0],.slice al l.length cl,yI i] ?_)))))))
  obtain ⟨b6,o7,rfl⟩:=H.addr 0 rfl qf
  obtain ⟨ae9Alive,ce9Alive,Fe9Alive,ae9Bags,ce9Bags,Fe9Bags,ae9Around,ce9Around,Fe9Around,H⟩:=H.elem_StateD 0 rfl i i qf qf qf
  refine oI rfl rfl (sw (zl [.slice ae9Alive (((l[i]!).qB).length) ce9Alive,.slice ae9Bags (((l[i]!).qE).length) ce9Bags,.slice ae9Around (((l[i]!).qC).length) ce9Around] isAgg38 sizeOf38 rfl (qF (H.get 3 rfl) 0 3) (sw (zZ #[.agg #[.slice ae9Alive (((l[i]!).qB).length) ce9Alive,.slice ae9Bags (((l[i]!).qE).length) ce9Bags,.slice ae9Around (((l[i]!).qC).length) ce9Around],pp b1 0] rfl rfl call117 (en func117 ntmps117 ?_)))))
  refine zcr (sw (vz H [.slice ae9Alive (((l[i]!).qB).length) ce9Alive,.slice ae9Bags (((l[i]!).qE).length) ce9Bags,.slice ae9Around (((l[i]!).qC).length) ce9Around] fun b10 w11 H=>sp (.bool false) (zjc (sw (zl [.slice ae9Alive (((l[i]!).qB).length) ce9Alive,.slice ae9Bags (((l[i]!).qE).length) ce9Bags,.slice ae9Around (((l[i]!).qC).length) ce9Around] isAgg38 sizeOf38 rfl (qF (H.cells 0 rfl) 0 3) ?_)))))
  refine sw (zl (yT u auAlive cuAlive auBags cuBags auAround cuAround) isAgg38 sizeOf38 rfl (qF (H.cells 1 rfl) 0 3) (sw (oq (sameState_ok _ (l[i]!) u (H.get 0 rfl).1 (H.get 1 rfl).1 (H.get 2 rfl).1 (H.get 5 rfl).1 (H.get 6 rfl).1 (H.get 7 rfl).1) H fun w13 H=>sp (.bool (decide ((l[i]!)=u))) (zjr (ret1 (.bool (decide ((l[i]!)=u))) rfl rfl ⟨_,rfl,?_⟩)))))
  replace H:=H.erases [0]
  dsimp only [vJ,List.eraseIdx] at H
  refine zjn (cD rfl (fun h15=>?_) (fun h15=>?_))
  ·skip
   refine zcr (sps [yI i,yI i] (zjr (zr5 (ret1 (yI i) rfl rfl ⟨_,rfl,(sp (yI i) (zjr (ret1 (yI i) rfl rfl ⟨_,rfl,?_,H.base⟩)))⟩))))
   rw [firstIdx_some (k:=i) qf i1 (decide_eq_true ‹_›)]
  refine qV (b_n (t_n (xX (sw (zD i 1 rfl rfl qf (sp (yI (i+1)) (xY (xg (m' :=(l.length - ((i+1):Int)).toNat) qf ⟨_,i+1,uE4,?_,?_,rfl,N,H.pick [0] [4,5,6,7]⟩))))))))
  · omega
  · exact noneTo_succ i1 (decide_eq_false ‹_›)
 refine zx4 (zcr (sp (yI (-1)) (zjr (ret1 (yI (-1)) rfl rfl ⟨_,rfl,(sp (yI (-1)) (zjr (ret1 (yI (-1)) rfl rfl ⟨_,rfl,?_,H.base⟩)))⟩))))
 rw [firstIdx_none (fun j hj=>i1 j qf)]

theorem sizeS_ok (w:World) (l:List qM) {al:yOA} {Fl:yLN} (hl:qP.rep w Fl [.slice al l.length cl] l):Calls Tryz.prog 121 #[.slice al l.length cl] w (Ret (fun v w' =>v=yI l.length) w):=by
 refine en func121 ntmps121 ?_
 have H:=(St.start w).arg hl
 have nhl:=qN hl
 clear hl
 have N:=Fresh.nil w.heap.size
 refine zcr (sp (yI 0) (zjc (sp (.slice al l.length cl) (oN rfl (sp (yI l.length) (zjr (ret1 (yI l.length) rfl rfl ⟨_,rfl,?_,H.base⟩)))))))
 rfl

def visit_ok_S (f:Nat):Prop:=∀ {W0 w:World} {ps:List Prv} {Γ:List Fact} {Ns:List yLN} (z:Int) (marks:yLI) (most:yLI) (R:yLL) (aS:yOA) (nS:Nat) (cS:Nat) (aR:yOA) (cR:Nat) (FR:yLN) (bm:Nat) (bg:Nat) (bv:Nat) (bd:Nat) (ram:yOA) (rnm:Nat) (rcm:Nat) (rad:yOA) (rnd:Nat) (rcd:Nat) (H:St W0 w ((.box bm [.slice ram rnm rcm] 118) :: (.box bg [.slice aS nS cS,.slice aR R.length cR] 59) :: (.box bv [.func (.func 120) #[] #[pp bm 0,pp bg 0,pp bv 0,pp bd 0]] 139) :: (.box bd [.slice rad rnd rcd] 22) :: (rr ram rnm rcm 3 1 (marks.map (Value.int .i64))) :: (rr rad rnd rcd 2 1 (most.map (Value.int .i64))) :: ps) ((sF false FR aR cR R) :: Γ)) (N:Fresh W0.heap.size (Ns)) (K0:Kept Ns Γ) (p0:VisI R marks most) (p1:0≤z∧z.toNat < R.length) (p2:marks[z.toNat]! =0) (p3:RowsIn R) (p4:∀ j:Nat,marks[j]! =1→Rch R j z.toNat) (p5:marks.count 0≤f),Calls Tryz.prog 120 #[yI z,pp bm 0,pp bg 0,pp bv 0,pp bd 0] w (fun e w' =>∃ v,e=.returned v∧∃ (marks_:yLI) (most_:yLI),(marks_.length=marks.length)∧(most_.length=most.length)∧(Halts R z.toNat→VisEnd R marks most marks_ most_ z.toNat)∧v=.bool (dec (Halts R z.toNat))∧Fresh W0.heap.size (Ns)∧St W0 w' ((.box bm [.slice ram rnm rcm] 118) :: (.box bg [.slice aS nS cS,.slice aR R.length cR] 59) :: (.box bv [.func (.func 120) #[] #[pp bm 0,pp bg 0,pp bv 0,pp bd 0]] 139) :: (.box bd [.slice rad rnd rcd] 22) :: (rr ram rnm rcm 3 1 (marks_.map (Value.int .i64))) :: (rr rad rnd rcd 2 1 (most_.map (Value.int .i64))) :: ps) ((sF false FR aR cR R) :: Γ))
theorem visit_ok_step (f:Nat) (IH:∀ k,k < f→visit_ok_S k) {W0 w:World} {ps:List Prv} {Γ:List Fact} {Ns:List yLN} (z:Int) (marks:yLI) (most:yLI) (R:yLL) (aS:yOA) (nS:Nat) (cS:Nat) (aR:yOA) (cR:Nat) (FR:yLN) (bm:Nat) (bg:Nat) (bv:Nat) (bd:Nat) (ram:yOA) (rnm:Nat) (rcm:Nat) (rad:yOA) (rnd:Nat) (rcd:Nat) (H:St W0 w ((.box bm [.slice ram rnm rcm] 118) :: (.box bg [.slice aS nS cS,.slice aR R.length cR] 59) :: (.box bv [.func (.func 120) #[] #[pp bm 0,pp bg 0,pp bv 0,pp bd 0]] 139) :: (.box bd [.slice rad rnd rcd] 22) :: (rr ram rnm rcm 3 1 (marks.map (Value.int .i64))) :: (rr rad rnd rcd 2 1 (most.map (Value.int .i64))) :: ps) ((sF false FR aR cR R) :: Γ)) (N:Fresh W0.heap.size (Ns)) (K0:Kept Ns Γ) (p0:VisI R marks most) (p1:0≤z∧z.toNat < R.length) (p2:marks[z.toNat]! =0) (p3:RowsIn R) (p4:∀ j:Nat,marks[j]! =1→Rch R j z.toNat) (p5:marks.count 0≤f):Calls Tryz.prog 120 #[yI z,pp bm 0,pp bg 0,pp bv 0,pp bd 0] w (fun e w' =>∃ v,e=.returned v∧∃ (marks_:yLI) (most_:yLI),(marks_.length=marks.length)∧(most_.length=most.length)∧(Halts R z.toNat→VisEnd R marks most marks_ most_ z.toNat)∧v=.bool (dec (Halts R z.toNat))∧Fresh W0.heap.size (Ns)∧St W0 w' ((.box bm [.slice ram rnm rcm] 118) :: (.box bg [.slice aS nS cS,.slice aR R.length cR] 59) :: (.box bv [.func (.func 120) #[] #[pp bm 0,pp bg 0,pp bv 0,pp bd 0]] 139) :: (.box bd [.slice rad rnd rcd] 22) :: (rr ram rnm rcm 3 1 (marks_.map (Value.int .i64))) :: (rr rad rnd rcd 2 1 (most_.map (Value.int .i64))) :: ps) ((sF false FR aR cR R) :: Γ)):=by
 refine en func120 ntmps120 ?_
 have nR:=qN (H.get 0 rfl).1
 obtain rfl:=H.Xk 4 rfl
 obtain rfl:=H.Xk 5 rfl
 obtain ⟨p6,p7⟩:=p1
 have ml:=p0.ml
 have dl:=p0.dl
 have p8:=p3.1
 have p9:=(p3.2 z.toNat p7).1
 have v0:=VisL.start p0 p7 p2
 refine zcr (sp (.bool false) (zjc (oL rfl (H.cell 0 rfl rfl) (sp (yI z) ?_))))
 obtain ⟨b1,rfl⟩:=H.yP 4 rfl qf
 refine oI rfl rfl (sw (QW H 4 rfl 1 sizeOf3 rfl rfl (i:=z.toNat) qf qf fun w2 H=>?_))
 try dsimp only [List.set] at H
 refine zjcc (oF rfl (oL rfl (H.cell 1 rfl rfl) (sp (yI z) ?_)))
 obtain ⟨b3,o4,rfl⟩:=H.addr 0 rfl qf
 obtain ⟨ae6,ce6,Fe6,H⟩:=H.vH 0 rfl z z.toNat qf qf qf
 refine oI rfl rfl (oL rfl (H.xR 1 rfl 0 rfl) (oN rfl (sp (yI 0) (zjn (qY ?_)))))
 refine zB (fun m' ρ w7=>∃ (xN:Env) (k_1:Nat) (most_1:yLI) (marks_1:yLI),ρ=upd (upd (upd (upd (upd (upd (upd xN 0 (yI z)) 1 (pp bm 0)) 3 (pp bv 0)) 4 (pp bd 0)) 16 (.slice ae6 ((R[z.toNat]!).length) ce6)) 17 (yI ((R[z.toNat]!).length))) 18 (yI k_1)∧((k_1:Int)≤((R[z.toNat]!).length))∧(VisL R marks most marks_1 most_1 z.toNat k_1)∧(marks_1.length=marks.length)∧(most_1.length=most.length)∧m' =(((R[z.toNat]!).length) - (k_1:Int)).toNat∧Fresh W0.heap.size (Ns)∧St W0 w7 ((.box bm [.slice (aa b1 0) marks.length rcm] 118) :: (.box bg [.slice aS nS cS,.slice (aa b3 o4) R.length cR] 59) :: (.box bv [.func (.func 120) #[] #[pp bm 0,pp bg 0,pp bv 0,pp bd 0]] 139) :: (.box bd [.slice rad most.length rcd] 22) :: (rr (aa b1 0) marks.length rcm 3 1 (marks_1.map (Value.int .i64))) :: (rr rad most.length rcd 2 1 (most_1.map (Value.int .i64))) :: ps) ((sF false Fe6 ae6 ce6 (R[z.toNat]!)) :: (atF b3 (o4+(z:Int).toNat * 1) [.slice ae6 ((R[z.toNat]!).length) ce6]) :: (sF false FR (aa b3 o4) cR R) :: Γ)) ((((R[z.toNat]!).length) - (0:Int)).toNat) ⟨_,0,most,(marks.set z.toNat 1),uE7,qf,(by exact v0),qm,(by rfl),rfl,N,H⟩ ?_
 clear H N
 rintro m' ρ w8 ⟨xN,k_1,most_1,marks_1,rfl,i0,v,ml1,dl1,rfl,N,H⟩
 have hn_most:=H.Xk 5 rfl
 have hn_marks:=H.Xk 4 rfl
 refine zcr (sp (.bool (decide ((k_1:Int) < ((R[z.toNat]!).length)))) (zjn (xU (cD rfl (fun h9=>?_) (fun h9=>?_)))))
 ·skip
  obtain ⟨q1,q2⟩:=(p3.2 z.toNat p7).2 k_1 qf
  have q3:=v.vi.top p3 q2
  refine qV (t_n (xU (qY (zcr ?_))))
  obtain ⟨b10,o11,rfl⟩:=H.addr 0 rfl qf
  refine oI rfl rfl (oL rfl (H.jy 0 rfl k_1 qf qf) (sp (yI ((R[z.toNat]!)[k_1]!)) (zjcc (oL rfl (H.cell 0 rfl rfl) (sp (yI ((R[z.toNat]!)[k_1]!)) (oI rfl rfl (oL rfl (H.rowInt 4 rfl (iv:=(R[z.toNat]!)[k_1]!) (i:=(((R[z.toNat]!)[k_1]!).toNat)) qf qf) (sps [.bool ((marks_1[((R[z.toNat]!)[k_1]!).toNat]! :Int) == 1),.bool ((marks_1[((R[z.toNat]!)[k_1]!).toNat]! :Int) == 1)] ?_))))))))
  cases h13:((marks_1[((R[z.toNat]!)[k_1]!).toNat]! :Int) == 1)
  ·skip
   replace h13:=ne_of_beq_false h13
   refine qQ 27 rfl rfl (oL rfl (H.cell 0 rfl rfl) (qQ 27 rfl rfl (sp (yI ((R[z.toNat]!)[k_1]!)) (qQ 27 rfl rfl (oI rfl rfl (qQ 27 rfl rfl (oL rfl (H.rowInt 4 rfl (iv:=(R[z.toNat]!)[k_1]!) (i:=(((R[z.toNat]!)[k_1]!).toNat)) qf qf) (qQ 27 rfl rfl (sp (.bool ((marks_1[((R[z.toNat]!)[k_1]!).toNat]! :Int) == 0)) (qQ 27 rfl rfl (sp (.bool ((marks_1[((R[z.toNat]!)[k_1]!).toNat]! :Int) == 0)) ?_)))))))))))
   cases h14:((marks_1[((R[z.toNat]!)[k_1]!).toNat]! :Int) == 0)
   ·skip
    replace h14:=ne_of_beq_false h14
    refine xZ [34,35,36,37] (qQ 27 rfl rfl (sps [.bool false,.bool false] (zjn (xF false rfl (fun h=>absurd h qj) (fun _=>qV (t_n ?_))))))
    obtain ⟨b15,rfl⟩:=H.yP 5 rfl qf
    refine c_cut (fun ρ w16=>∃ (xN:Env),ρ=upd (upd (upd (upd (upd (upd (upd (upd (upd (upd (upd (upd (upd (upd xN 0 (yI z)) 1 (pp bm 0)) 3 (pp bv 0)) 4 (pp bd 0)) 16 (.slice (aa b10 o11) ((R[z.toNat]!).length) ce6)) 17 (yI ((R[z.toNat]!).length))) 18 (yI k_1)) 28 (.slice (aa b1 0) marks.length rcm)) 29 (yI ((R[z.toNat]!)[k_1]!))) 30 (pp b1 (0+((R[z.toNat]!)[k_1]! :Int).toNat * 1))) 31 (yI (marks_1[((R[z.toNat]!)[k_1]!).toNat]!))) 32 (.bool false)) 33 (.bool false)) 38 (.bool false)∧Fresh W0.heap.size (Ns)∧St W0 w16 ((.box bm [.slice (aa b1 0) marks.length rcm] 118) :: (.box bg [.slice aS nS cS,.slice (aa b3 o4) R.length cR] 59) :: (.box bv [.func (.func 120) #[] #[pp bm 0,pp bg 0,pp bv 0,pp bd 0]] 139) :: (.box bd [.slice (aa b15 0) most.length rcd] 22) :: (rr (aa b1 0) marks.length rcm 3 1 (marks_1.map (Value.int .i64))) :: (rr (aa b15 0) most.length rcd 2 1 ((most_1.set z.toNat (max (most_1[z.toNat]!) ((most_1[((R[z.toNat]!)[k_1]!).toNat]!)+1))).map (Value.int .i64))) :: ps) ((sF false Fe6 (aa b10 o11) ce6 (R[z.toNat]!)) :: (atF b3 (o4+(z:Int).toNat * 1) [.slice (aa b10 o11) ((R[z.toNat]!).length) ce6]) :: (sF false FR (aa b3 o4) cR R) :: Γ)) ?_ ?_
    ·skip
     refine c_drawK2 rfl H [0,1,2,3,4] [0,1,2] fun H=>?_
     have S:=H.jY [0,1,2,3,4] [0,1,2]
     refine tL 0 rfl rfl (fun _ h=>h.cell 3 rfl rfl) S ?_
     refine rtp 1 (yI z) S ?_
     refine tL 2 rfl rfl (fun _ h=>h.cell 3 rfl rfl) S ?_
     refine rtp 3 (yI z) S ?_
     refine tI 4 rfl rfl rfl S ?_
     refine tL 6 rfl rfl (fun _ h=>h.cell 3 rfl rfl) S ?_
     refine rtp 7 (yI ((R[z.toNat]!)[k_1]!)) S ?_
     refine tI 8 rfl rfl rfl S ?_
     refine vS [5,9] qh qm (jA rfl ?_ (jA rfl ?_ vT))
     ·skip
      refine zF (yI (most_1[z.toNat]!)) isAgg2 rfl (H.rowInt 5 rfl (iv:=z) (i:=z.toNat) qf qf) (⟨H.pick [0,1,2,3,4] [0,1,2],(ro 9 rfl (zF (yI (most_1[((R[z.toNat]!)[k_1]!).toNat]!)) isAgg2 rfl (H.rowInt 5 rfl (iv:=(R[z.toNat]!)[k_1]!) (i:=(((R[z.toNat]!)[k_1]!).toNat)) qf qf) (⟨H.pick [0,1,2,3,4] [0,1,2],?_⟩)))⟩)
      have S:=H.jY [0,1,2,3,4] [0,1,2]
      refine rt 10 (yI ((most_1[((R[z.toNat]!)[k_1]!).toNat]!)+1)) (y_add (most_1[((R[z.toNat]!)[k_1]!).toNat]!) 1 rfl rfl qf) S ?_
      refine rt 11 (yI (max (most_1[z.toNat]!) ((most_1[((R[z.toNat]!)[k_1]!).toNat]!)+1))) (y_max (most_1[z.toNat]!) ((most_1[((R[z.toNat]!)[k_1]!).toNat]!)+1) rfl rfl) S ?_
      refine tI 12 rfl rfl rfl S ?_
      refine ro 13 rfl (QW H 5 rfl (max (most_1[z.toNat]!) ((most_1[((R[z.toNat]!)[k_1]!).toNat]!)+1)) sizeOf2 rfl rfl (i:=z.toNat) qf qf fun w18 H=>?_)
      try dsimp only [List.set] at H
      refine ⟨H.pick [0,1,2,3,4] [0,1,2],(xH qh ((meet ⟨_,uE14,N,H⟩)))⟩
     refine zF (yI (most_1[((R[z.toNat]!)[k_1]!).toNat]!)) isAgg2 rfl (H.rowInt 5 rfl (iv:=(R[z.toNat]!)[k_1]!) (i:=(((R[z.toNat]!)[k_1]!).toNat)) qf qf) (⟨H.pick [0,1,2,3,4] [0,1,2],(rt 10 (yI ((most_1[((R[z.toNat]!)[k_1]!).toNat]!)+1)) (y_add (most_1[((R[z.toNat]!)[k_1]!).toNat]!) 1 rfl rfl qf) (H.pick [0,1,2,3,4] [0,1,2]) ?_)⟩)
     refine ro 5 rfl (zF (yI (most_1[z.toNat]!)) isAgg2 rfl (H.rowInt 5 rfl (iv:=z) (i:=z.toNat) qf qf) (⟨H.pick [0,1,2,3,4] [0,1,2],?_⟩))
     have S:=H.jY [0,1,2,3,4] [0,1,2]
     refine rt 11 (yI (max (most_1[z.toNat]!) ((most_1[((R[z.toNat]!)[k_1]!).toNat]!)+1))) (y_max (most_1[z.toNat]!) ((most_1[((R[z.toNat]!)[k_1]!).toNat]!)+1) rfl rfl) S ?_
     refine tI 12 rfl rfl rfl S ?_
     refine ro 13 rfl (QW H 5 rfl (max (most_1[z.toNat]!) ((most_1[((R[z.toNat]!)[k_1]!).toNat]!)+1)) sizeOf2 rfl rfl (i:=z.toNat) qf qf fun w19 H=>?_)
     try dsimp only [List.set] at H
     refine ⟨H.pick [0,1,2,3,4] [0,1,2],(xH qh ((meet ⟨_,uE14,N,H⟩)))⟩
    clear H N
    rintro ρ w20 ⟨xN,rfl,N,H⟩
    refine b_n (t_n (xX (sw (zD k_1 1 rfl rfl qf (sp (yI (k_1+1)) (xY (xg (m' :=(((R[z.toNat]!).length) - ((k_1+1):Int)).toNat) qf ⟨_,k_1+1,(most_1.set z.toNat (max (most_1[z.toNat]!) ((most_1[((R[z.toNat]!)[k_1]!).toNat]!)+1))),marks_1,uE7,?_,?_,?_,?_,rfl,N,H⟩)))))))
    · omega
    · first | exact v.go qf p7 p3 (by have:=v.vi.mr _ q2;omega) | exact (v.sub (‹Halts R _→VisEnd R _ _ _ _ _› ‹Halts R _›)).go qf p7 p3 (‹Halts R _→VisEnd R _ _ _ _ _› ‹Halts R _›).me
    · omega
    · simp;omega
   replace h14:=eq_of_beq h14
   refine qQ 33 rfl rfl (oL rfl (H.cell 2 rfl rfl) (qQ 33 rfl rfl (sp (yI ((R[z.toNat]!)[k_1]!)) (qQ 33 rfl rfl ?_))))
   have c0:=v.c0
   have H1:St W0 w8 ((.box bm [.slice (aa b1 0) marks.length rcm] 118) :: (.box bg [.slice aS nS cS,.slice (aa b3 o4) R.length cR] 59) :: (.box bv [.func (.func 120) #[] #[pp bm 0,pp bg 0,pp bv 0,pp bd 0]] 139) :: (.box bd [.slice rad most.length rcd] 22) :: (rr (aa b1 0) marks.length rcm 3 1 (marks_1.map (Value.int .i64))) :: (rr rad most.length rcd 2 1 (most_1.map (Value.int .i64))) :: ps) ((sF false FR (aa b3 o4) cR R) :: (sF false Fe6 (aa b10 o11) ce6 (R[z.toNat]!)) :: (atF b3 (o4+(z:Int).toNat * 1) [.slice (aa b10 o11) ((R[z.toNat]!).length) ce6]) :: (sF false FR (aa b3 o4) cR R) :: Γ):=H.Xz 6 3 [0,1,2,3,4,5] [2,0,1,2] qo qo
   have N1:Fresh _ (Ns):=N
   have K1:Kept (Ns) ((sF false Fe6 (aa b10 o11) ce6 (R[z.toNat]!)) :: (atF b3 (o4+(z:Int).toNat * 1) [.slice (aa b10 o11) ((R[z.toNat]!).length) ce6]) :: (sF false FR (aa b3 o4) cR R) :: Γ):=K0.behind 3 rfl
   refine sw (o_callF #[yI ((R[z.toNat]!)[k_1]!),pp bm 0,pp bg 0,pp bv 0,pp bd 0] rfl rfl call120 (IH (f - 1) qf ((R[z.toNat]!)[k_1]!) marks_1 most_1 R aS nS cS (aa b3 o4) cR FR bm bg bv bd (aa b1 0) marks.length rcm rad most.length rcd H1 N1 K1 (by first | assumption | exact vi | exact v.vi) (by first | assumption | exact ⟨by omega,by omega⟩) ql ql (by first | assumption | exact v.open' qf p4 | exact fun j hj=>(rep0 hj).elim) (by first | omega | exact rep_cnt qf)) ?_)
   clear H H1 N1 K1
   rintro _ w21 ⟨marks22,most22,hx23,hx24,hx25,rfl,N,H⟩
   refine qQ 33 rfl rfl (sp (.bool (!(dec (Halts R ((R[z.toNat]!)[k_1]!).toNat)))) (qQ 27 rfl rfl (sps [.bool (!(dec (Halts R ((R[z.toNat]!)[k_1]!).toNat))),.bool (!(dec (Halts R ((R[z.toNat]!)[k_1]!).toNat)))] (zjn (cQ rfl (fun h26=>?_) (fun h26=>?_))))))
   ·skip
    refine zcr (sp (.bool false) (zjr (t_r (zr5 (ret1 (.bool false) rfl rfl ⟨_,rfl,?_⟩)))))
    have nh:¬ Halts R z.toNat:=by first | exact v.cyc qf p4 ql | exact not_go (k:=k_1) qf ql
    rw [xn nh]
    exact ⟨marks22,most22,(by first | rfl | omega | (simp;omega)),(by first | rfl | omega),(by first | exact fun _=>v2.1 | exact fun hh=>absurd hh nh),rfl,N,H.Xz 6 4 [0,1,2,3,4,5] [0] qo qo⟩
   have v1:=v.sub ((‹Halts R _→VisEnd R _ _ _ _ _›) ‹Halts R _›)
   have q4:=v1.vi.top p3 q2
   refine qV (t_n ?_)
   obtain ⟨b27,rfl⟩:=H.yP 5 rfl qf
   refine c_cut (fun ρ w28=>∃ (xN:Env),ρ=upd (upd (upd (upd (upd (upd (upd (upd (upd (upd (upd (upd (upd (upd (upd (upd (upd (upd xN 0 (yI z)) 1 (pp bm 0)) 3 (pp bv 0)) 4 (pp bd 0)) 16 (.slice (aa b10 o11) ((R[z.toNat]!).length) ce6)) 17 (yI ((R[z.toNat]!).length))) 18 (yI k_1)) 28 (.slice (aa b1 0) marks.length rcm)) 29 (yI ((R[z.toNat]!)[k_1]!))) 30 (pp b1 (0+((R[z.toNat]!)[k_1]! :Int).toNat * 1))) 31 (yI (marks_1[((R[z.toNat]!)[k_1]!).toNat]!))) 32 (.bool true)) 33 (.bool true)) 34 (.func (.func 120) #[] #[pp bm 0,pp bg 0,pp bv 0,pp bd 0])) 35 (yI ((R[z.toNat]!)[k_1]!))) 36 (.bool (dec (Halts R ((R[z.toNat]!)[k_1]!).toNat)))) 37 (.bool (!(dec (Halts R ((R[z.toNat]!)[k_1]!).toNat))))) 38 (.bool (!(dec (Halts R ((R[z.toNat]!)[k_1]!).toNat))))∧Fresh W0.heap.size (Ns)∧St W0 w28 ((.box bm [.slice (aa b1 0) marks.length rcm] 118) :: (.box bg [.slice aS nS cS,.slice (aa b3 o4) R.length cR] 59) :: (.box bv [.func (.func 120) #[] #[pp bm 0,pp bg 0,pp bv 0,pp bd 0]] 139) :: (.box bd [.slice (aa b27 0) most.length rcd] 22) :: (rr (aa b1 0) marks.length rcm 3 1 (marks22.map (Value.int .i64))) :: (rr (aa b27 0) most.length rcd 2 1 ((most22.set z.toNat (max (most22[z.toNat]!) ((most22[((R[z.toNat]!)[k_1]!).toNat]!)+1))).map (Value.int .i64))) :: ps) ((sF false FR (aa b3 o4) cR R) :: (sF false Fe6 (aa b10 o11) ce6 (R[z.toNat]!)) :: (atF b3 (o4+(z:Int).toNat * 1) [.slice (aa b10 o11) ((R[z.toNat]!).length) ce6]) :: (sF false FR (aa b3 o4) cR R) :: Γ)) ?_ ?_
   ·skip
    refine c_drawK2 rfl H [0,1,2,3,4] [0,1,2,3] fun H=>?_
    have S:=H.jY [0,1,2,3,4] [0,1,2,3]
    refine tL 0 rfl rfl (fun _ h=>h.cell 3 rfl rfl) S ?_
    refine rtp 1 (yI z) S ?_
    refine tL 2 rfl rfl (fun _ h=>h.cell 3 rfl rfl) S ?_
    refine rtp 3 (yI z) S ?_
    refine tI 4 rfl rfl rfl S ?_
    refine tL 6 rfl rfl (fun _ h=>h.cell 3 rfl rfl) S ?_
    refine rtp 7 (yI ((R[z.toNat]!)[k_1]!)) S ?_
    refine tI 8 rfl rfl rfl S ?_
    refine vS [5,9] qh qm (jA rfl ?_ (jA rfl ?_ vT))
    ·skip
     refine zF (yI (most22[z.toNat]!)) isAgg2 rfl (H.rowInt 5 rfl (iv:=z) (i:=z.toNat) qf qf) (⟨H.pick [0,1,2,3,4] [0,1,2,3],(ro 9 rfl (zF (yI (most22[((R[z.toNat]!)[k_1]!).toNat]!)) isAgg2 rfl (H.rowInt 5 rfl (iv:=(R[z.toNat]!)[k_1]!) (i:=(((R[z.toNat]!)[k_1]!).toNat)) qf qf) (⟨H.pick [0,1,2,3,4] [0,1,2,3],?_⟩)))⟩)
     have S:=H.jY [0,1,2,3,4] [0,1,2,3]
     refine rt 10 (yI ((most22[((R[z.toNat]!)[k_1]!).toNat]!)+1)) (y_add (most22[((R[z.toNat]!)[k_1]!).toNat]!) 1 rfl rfl qf) S ?_
     refine rt 11 (yI (max (most22[z.toNat]!) ((most22[((R[z.toNat]!)[k_1]!).toNat]!)+1))) (y_max (most22[z.toNat]!) ((most22[((R[z.toNat]!)[k_1]!).toNat]!)+1) rfl rfl) S ?_
     refine tI 12 rfl rfl rfl S ?_
     refine ro 13 rfl (QW H 5 rfl (max (most22[z.toNat]!) ((most22[((R[z.toNat]!)[k_1]!).toNat]!)+1)) sizeOf2 rfl rfl (i:=z.toNat) qf qf fun w30 H=>?_)
     try dsimp only [List.set] at H
     refine ⟨H.pick [0,1,2,3,4] [0,1,2,3],(xH qh ((meet ⟨_,uE18,N,H⟩)))⟩
    refine zF (yI (most22[((R[z.toNat]!)[k_1]!).toNat]!)) isAgg2 rfl (H.rowInt 5 rfl (iv:=(R[z.toNat]!)[k_1]!) (i:=(((R[z.toNat]!)[k_1]!).toNat)) qf qf) (⟨H.pick [0,1,2,3,4] [0,1,2,3],(rt 10 (yI ((most22[((R[z.toNat]!)[k_1]!).toNat]!)+1)) (y_add (most22[((R[z.toNat]!)[k_1]!).toNat]!) 1 rfl rfl qf) (H.pick [0,1,2,3,4] [0,1,2,3]) ?_)⟩)
    refine ro 5 rfl (zF (yI (most22[z.toNat]!)) isAgg2 rfl (H.rowInt 5 rfl (iv:=z) (i:=z.toNat) qf qf) (⟨H.pick [0,1,2,3,4] [0,1,2,3],?_⟩))
    have S:=H.jY [0,1,2,3,4] [0,1,2,3]
    refine rt 11 (yI (max (most22[z.toNat]!) ((most22[((R[z.toNat]!)[k_1]!).toNat]!)+1))) (y_max (most22[z.toNat]!) ((most22[((R[z.toNat]!)[k_1]!).toNat]!)+1) rfl rfl) S ?_
    refine tI 12 rfl rfl rfl S ?_
    refine ro 13 rfl (QW H 5 rfl (max (most22[z.toNat]!) ((most22[((R[z.toNat]!)[k_1]!).toNat]!)+1)) sizeOf2 rfl rfl (i:=z.toNat) qf qf fun w31 H=>?_)
    try dsimp only [List.set] at H
    refine ⟨H.pick [0,1,2,3,4] [0,1,2,3],(xH qh ((meet ⟨_,uE18,N,H⟩)))⟩
   clear H N
   rintro ρ w32 ⟨xN,rfl,N,H⟩
   refine b_n (t_n (xX (sw (zD k_1 1 rfl rfl qf (sp (yI (k_1+1)) (xY (xg (m' :=(((R[z.toNat]!).length) - ((k_1+1):Int)).toNat) qf ⟨_,k_1+1,(most22.set z.toNat (max (most22[z.toNat]!) ((most22[((R[z.toNat]!)[k_1]!).toNat]!)+1))),marks22,uE7,?_,?_,?_,?_,rfl,N,H.Xz 6 4 [0,1,2,3,4,5] [1,2,3] qo qo⟩)))))))
   · omega
   · first | exact v.go qf p7 p3 (by have:=v.vi.mr _ q2;omega) | exact (v.sub (‹Halts R _→VisEnd R _ _ _ _ _› ‹Halts R _›)).go qf p7 p3 (‹Halts R _→VisEnd R _ _ _ _ _› ‹Halts R _›).me
   · omega
   · simp;omega
  replace h13:=eq_of_beq h13
  refine xZ [28,29,30,31,32,33,34,35,36,37,38] (sp (.bool true) (zjn (xF true rfl (fun _=>zcr (sp (.bool false) (zjr (t_r (zr5 (ret1 (.bool false) rfl rfl ⟨_,rfl,?_⟩)))))) (fun h=>absurd h qj))))
  have nh:¬ Halts R z.toNat:=by first | exact v.cyc qf p4 ql | exact not_go (k:=k_1) qf ql
  rw [xn nh]
  exact ⟨marks_1,most_1,(by first | rfl | omega | (simp;omega)),(by first | rfl | omega),(by first | exact fun _=>v2.1 | exact fun hh=>absurd hh nh),rfl,N,H.Xz 6 3 [0,1,2,3,4,5] [2] qo qo⟩
 refine zx4 (zcr (oL rfl (H.cell 0 rfl rfl) (sp (yI z) (oI rfl rfl (sw (QW H 4 rfl 2 sizeOf3 rfl rfl (i:=z.toNat) qf qf fun w33 H=>?_))))))
 try dsimp only [List.set] at H
 refine zjc (sp (.bool true) (zjr (ret1 (.bool true) rfl rfl ⟨_,rfl,?_⟩)))
 have v2:=v.fin p7 qf
 rw [jP v2.2]
 exact ⟨(marks_1.set z.toNat 2),most_1,(by first | rfl | omega | (simp;omega)),(by first | rfl | omega),(by first | exact fun _=>v2.1 | exact fun hh=>absurd hh nh),rfl,N,H.Xz 6 3 [0,1,2,3,4,5] [2] qo qo⟩

theorem visit_ok (f:Nat):visit_ok_S f:=Nat.strongRecOn (motive:=visit_ok_S) f fun f IH=>by unfold visit_ok_S;intros;apply visit_ok_step f IH <;> assumption
end
end Go.Proofs.YtgjnaocffdhnbaaGreat
