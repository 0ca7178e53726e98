/- Walks and laws, printed by program and by hand: what each function comes to, for all arguments, part 4. -/
import Derived.Test.YtdhklgjmiamiaaaGreatA3
namespace Go.Proofs.YtdhklgjmiamiaaaGreat
set_option linter.unusedVariables false
set_option linter.unusedSimpArgs false
open Go.Proofs.YtdhklgjmiamiaaaGreat.Tot (tot)
open Go.Proofs.YtdhklgjmiamiaaaGreat.Mark (cnt mrk mkd mkd_mark cnt_mark)
section
open Go.Proofs.Tryz
open Go.RowKit
set_option linter.unusedVariables false
set_option linter.unusedSimpArgs false
set_option maxRecDepth 100000
set_option maxHeartbeats 4000000
variable {ca cb caAlive caBags Va cbAlive cbBags X9 qI qQ xf xA qR ccs : Nat}
theorem l00Same_ok (w:World) (a:yLI) (b:yLI) {aa:yOA} {Fa:yLN} {ab:yOA} {Fb:yLN} (ha:qO.rep w Fa [.slice aa a.length ca] a) (hb:qO.rep w Fb [.slice ab b.length cb] b):Calls Tryz.prog 58 #[.slice aa a.length ca,.slice ab b.length cb] w (Ret (fun v w' =>v=.bool (decide (a=b))) w):=by
 refine en func58 ntmps58 ?_
 have H:=((St.start w).arg hb).arg ha
 have nha:=qM ha
 have nhb:=qM hb
 clear ha hb
 have N:=Fresh.nil w.heap.size
 refine zcr (sp (.bool false) (zjcc (sq 1 (oN rfl (sq 1 (oN rfl (sq 1 (zjn (xE _ rfl (fun h1=>?_) (fun h1=>?_))))))))))
 ·skip
  replace h1:=bne_iff_ne.1 h1
  refine zcr (sp (.bool false) (zjr (t_r (ret1 (.bool false) rfl rfl ⟨_,rfl,?_,H.base⟩))))
  first | rw [decide_eq_false (fun e=>by subst e;omega)] | rw [decide_eq_false (Xb (k:=i) ‹_›)] | rw [decide_eq_false (Xb (k:=i) (by simpa using ‹_›))]
 replace h1:=xm h1
 refine qW (t_n (zcc (sp (yI 0) (zjn (qY ?_)))))
 refine zq ((fun Z0 Z1=>fun m' ρ w2=>∃ (xM:Env) (i:Nat),ρ=upd (upd (upd xM 0 (.slice aa a.length ca)) 1 (.slice ab b.length cb)) 5 (yI i)∧((i:Int)≤a.length)∧(a.take i=b.take i)∧m' =(a.length - (i:Int)).toNat∧Fresh w.heap.size []∧St w w2 [] [Z0,Z1]) _ _) ((a.length - (0:Int)).toNat) ⟨_,0,uE3,qf,(by rfl),rfl,N,H⟩ ?_
 clear H N
 rintro m' ρ w3 ⟨xM,i,rfl,i0,i1,rfl,N,H⟩
 refine zcc (sp (yI i) (sq 1 (oN rfl (sq 1 (zjn (cD rfl (fun h4=>?_) (fun h4=>?_)))))))
 ·skip
  refine qW (t_n (xQ (qY (xQ ?_))))
  refine jf rfl H fun H=>rtl 0 H ?_
  refine rtp 1 (yI i) H ?_
  obtain ⟨b6,o7,rfl⟩:=H.addr 0 rfl qf
  refine tI 2 rfl rfl rfl H ?_
  refine tL 3 rfl rfl (fun _ h=>h.zH 0 rfl i qf) H ?_
  refine rtl 4 H ?_
  refine rtp 5 (yI i) H ?_
  obtain ⟨b9,o10,rfl⟩:=H.addr 1 rfl qf
  refine tI 6 rfl rfl rfl H ?_
  refine tL 7 rfl rfl (fun _ h=>h.zH 1 rfl i qf) H ?_
  refine rtl 8 H ?_
  refine xq qh (t_n (xE _ rfl (fun h12=>?_) (fun h12=>?_)))
  ·skip
   replace h12:=bne_iff_ne.1 h12
   refine zcr (sp (.bool false) (zjr (zr5 (ret1 (.bool false) rfl rfl ⟨_,rfl,?_,H.base⟩))))
   first | rw [decide_eq_false (fun e=>by subst e;omega)] | rw [decide_eq_false (Xb (k:=i) ‹_›)] | rw [decide_eq_false (Xb (k:=i) (by simpa using ‹_›))]
  replace h12:=xm h12
  refine qW (b_n (t_n (xU (sp (yI i) (sw (zA i 1 rfl rfl qf (sq 1 (xY (xe (m' :=(a.length - ((i+1):Int)).toNat) qf ⟨_,i+1,uE3,?_,?_,rfl,N,H⟩)))))))))
  · omega
  · exact eqTo_succ qf qf i1 qg
 refine zx4 (zcr (sp (.bool true) (zjr (ret1 (.bool true) rfl rfl ⟨_,rfl,?_,H.base⟩))))
 rw [decide_eq_true (eq_of_take (k:=i) qf qf i1)]

theorem equalI_ok (w:World) (a:yLI) (b:yLI) {aa:yOA} {Fa:yLN} {ab:yOA} {Fb:yLN} (ha:qO.rep w Fa [.slice aa a.length ca] a) (hb:qO.rep w Fb [.slice ab b.length cb] b):Calls Tryz.prog 81 #[.slice aa a.length ca,.slice ab b.length cb] w (Ret (fun v w' =>v=.bool (decide (a=b))) w):=by
 refine en func81 ntmps81 ?_
 have H:=((St.start w).arg hb).arg ha
 have nha:=qM ha
 have nhb:=qM hb
 clear ha hb
 have N:=Fresh.nil w.heap.size
 refine zcr (sp (.bool false) (zjcc (sq 1 (oN rfl (sq 1 (oN rfl (sq 1 (zjn (xE _ rfl (fun h1=>?_) (fun h1=>?_))))))))))
 ·skip
  replace h1:=bne_iff_ne.1 h1
  refine zcr (sp (.bool false) (zjr (t_r (ret1 (.bool false) rfl rfl ⟨_,rfl,?_,H.base⟩))))
  first | rw [decide_eq_false (fun e=>by subst e;omega)] | rw [decide_eq_false (Xb (k:=i) ‹_›)] | rw [decide_eq_false (Xb (k:=i) (by simpa using ‹_›))]
 replace h1:=xm h1
 refine qW (t_n (zcc (sq 1 (oN rfl (sp (yI 0) (zjn (qY ?_)))))))
 refine zq ((fun Z0 Z1=>fun m' ρ w2=>∃ (xM:Env) (i:Nat),ρ=upd (upd (upd (upd xM 0 (.slice aa a.length ca)) 1 (.slice ab b.length cb)) 12 (yI a.length)) 13 (yI i)∧((i:Int)≤a.length)∧(a.take i=b.take i)∧m' =(a.length - (i:Int)).toNat∧Fresh w.heap.size []∧St w w2 [] [Z0,Z1]) _ _) ((a.length - (0:Int)).toNat) ⟨_,0,uE4,qf,(by rfl),rfl,N,H⟩ ?_
 clear H N
 rintro m' ρ w3 ⟨xM,i,rfl,i0,i1,rfl,N,H⟩
 refine zcr (sq 1 (zjn (xQ (cD rfl (fun h4=>?_) (fun h4=>?_)))))
 ·skip
  refine qW (t_n (xQ (qY (zcr (sp (yI i) (sp (yI i) (zjn (xQ ?_))))))))
  refine jf rfl H fun H=>rtl 0 H ?_
  refine rtp 1 (yI i) H ?_
  obtain ⟨b6,o7,rfl⟩:=H.addr 0 rfl qf
  refine tI 2 rfl rfl rfl H ?_
  refine tL 3 rfl rfl (fun _ h=>h.zH 0 rfl i qf) H ?_
  refine rtl 4 H ?_
  refine rtp 5 (yI i) H ?_
  obtain ⟨b9,o10,rfl⟩:=H.addr 1 rfl qf
  refine tI 6 rfl rfl rfl H ?_
  refine tL 7 rfl rfl (fun _ h=>h.zH 1 rfl i qf) H ?_
  refine rtl 8 H ?_
  refine xq qh (t_n (xE _ rfl (fun h12=>?_) (fun h12=>?_)))
  ·skip
   replace h12:=bne_iff_ne.1 h12
   refine zcr (sp (.bool false) (zjr (zr5 (ret1 (.bool false) rfl rfl ⟨_,rfl,?_,H.base⟩))))
   first | rw [decide_eq_false (fun e=>by subst e;omega)] | rw [decide_eq_false (Xb (k:=i) ‹_›)] | rw [decide_eq_false (Xb (k:=i) (by simpa using ‹_›))]
  replace h12:=xm h12
  refine qW (b_n (t_n (xU (sw (zA i 1 rfl rfl qf (sq 1 (xY (xe (m' :=(a.length - ((i+1):Int)).toNat) qf ⟨_,i+1,uE4,?_,?_,rfl,N,H⟩))))))))
  · omega
  · exact eqTo_succ qf qf i1 qg
 refine zx4 (zcr (sp (.bool true) (zjr (ret1 (.bool true) rfl rfl ⟨_,rfl,?_,H.base⟩))))
 rw [decide_eq_true (eq_of_take (k:=i) qf qf i1)]

theorem equalB_ok (w:World) (a:List Bool) (b:List Bool) {aa:yOA} {Fa:yLN} {ab:yOA} {Fb:yLN} (ha:qO.rep w Fa [.slice aa a.length ca] a) (hb:qO.rep w Fb [.slice ab b.length cb] b):Calls Tryz.prog 161 #[.slice aa a.length ca,.slice ab b.length cb] w (Ret (fun v w' =>v=.bool (decide (a=b))) w):=by
 refine en func161 ntmps161 ?_
 have H:=((St.start w).arg hb).arg ha
 have nha:=qM ha
 have nhb:=qM hb
 clear ha hb
 have N:=Fresh.nil w.heap.size
 refine zcr (sp (.bool false) (zjcc (sq 1 (oN rfl (sq 1 (oN rfl (sq 1 (zjn (xE _ rfl (fun h1=>?_) (fun h1=>?_))))))))))
 ·skip
  replace h1:=bne_iff_ne.1 h1
  refine zcr (sp (.bool false) (zjr (t_r (ret1 (.bool false) rfl rfl ⟨_,rfl,?_,H.base⟩))))
  first | rw [decide_eq_false (fun e=>by subst e;omega)] | rw [decide_eq_false (Xb (k:=i) ‹_›)] | rw [decide_eq_false (Xb (k:=i) (by simpa using ‹_›))]
 replace h1:=xm h1
 refine qW (t_n (zcc (sq 1 (oN rfl (sp (yI 0) (zjn (qY ?_)))))))
 refine zq ((fun Z0 Z1=>fun m' ρ w2=>∃ (xM:Env) (i:Nat),ρ=upd (upd (upd (upd xM 0 (.slice aa a.length ca)) 1 (.slice ab b.length cb)) 12 (yI a.length)) 13 (yI i)∧((i:Int)≤a.length)∧(a.take i=b.take i)∧m' =(a.length - (i:Int)).toNat∧Fresh w.heap.size []∧St w w2 [] [Z0,Z1]) _ _) ((a.length - (0:Int)).toNat) ⟨_,0,uE4,qf,(by rfl),rfl,N,H⟩ ?_
 clear H N
 rintro m' ρ w3 ⟨xM,i,rfl,i0,i1,rfl,N,H⟩
 refine zcr (sq 1 (zjn (xQ (cD rfl (fun h4=>?_) (fun h4=>?_)))))
 ·skip
  refine qW (t_n (xQ (qY (zcr (sp (yI i) (sp (yI i) (zjn (xQ ?_))))))))
  refine jf rfl H fun H=>rtl 0 H ?_
  refine rtp 1 (yI i) H ?_
  obtain ⟨b6,o7,rfl⟩:=H.addr 0 rfl qf
  refine tI 2 rfl rfl rfl H ?_
  refine tL 3 rfl rfl (fun _ h=>h.elemBoolN 0 rfl i qf) H ?_
  refine rtl 4 H ?_
  refine rtp 5 (yI i) H ?_
  obtain ⟨b9,o10,rfl⟩:=H.addr 1 rfl qf
  refine tI 6 rfl rfl rfl H ?_
  refine tL 7 rfl rfl (fun _ h=>h.elemBoolN 1 rfl i qf) H ?_
  refine rt 8 _ (y_neB underlying4 (a[i]!) (b[i]!) rfl rfl) H ?_
  refine xq qh (t_n (xE _ rfl (fun h12=>?_) (fun h12=>?_)))
  ·skip
   replace h12:=bne_iff_ne.1 h12
   refine zcr (sp (.bool false) (zjr (zr5 (ret1 (.bool false) rfl rfl ⟨_,rfl,?_,H.base⟩))))
   first | rw [decide_eq_false (fun e=>by subst e;omega)] | rw [decide_eq_false (Xb (k:=i) ‹_›)] | rw [decide_eq_false (Xb (k:=i) (by simpa using ‹_›))]
  replace h12:=xm h12
  refine qW (b_n (t_n (xU (sw (zA i 1 rfl rfl qf (sq 1 (xY (xe (m' :=(a.length - ((i+1):Int)).toNat) qf ⟨_,i+1,uE4,?_,?_,rfl,N,H⟩))))))))
  · omega
  · exact eqTo_succ qf qf i1 qg
 refine zx4 (zcr (sp (.bool true) (zjr (ret1 (.bool true) rfl rfl ⟨_,rfl,?_,H.base⟩))))
 rw [decide_eq_true (eq_of_take (k:=i) qf qf i1)]

theorem l02Same_ok (w:World) (a:qF) (b:qF) {ba oa:Nat} {aaAlive:yOA} {FaAlive:yLN} {aaBags:yOA} {FaBags:yLN} {Vd:yOA} {FaAround:yLN} {bb ob:Nat} {abAlive:yOA} {FbAlive:yLN} {abBags:yOA} {FbBags:yLN} {Vb:yOA} {FbAround:yLN} (ha:vG w ba oa (yT a aaAlive caAlive aaBags caBags Vd Va)) (haAlive:qO.rep w FaAlive [.slice aaAlive a.qG.length caAlive] a.qG) (haBags:qO.rep w FaBags [.slice aaBags a.qN.length caBags] a.qN) (haAround:qO.rep w FaAround [.slice Vd a.qH.length Va] a.qH) (hb:vG w bb ob (yT b abAlive cbAlive abBags cbBags Vb X9)) (hbAlive:qO.rep w FbAlive [.slice abAlive b.qG.length cbAlive] b.qG) (hbBags:qO.rep w FbBags [.slice abBags b.qN.length cbBags] b.qN) (hbAround:qO.rep w FbAround [.slice Vb b.qH.length X9] b.qH):Calls Tryz.prog 67 #[pp ba oa,pp bb ob] w (Ret (fun v w' =>v=.bool (decide (a=b))) w):=by
 refine en func67 ntmps67 ?_
 have H:=((((((((St.start w).arg hbAround).arg hbBags).arg hbAlive).XO hb).arg haAround).arg haBags).arg haAlive).XO ha
 have nhaAlive:=qM haAlive
 have nhaBags:=qM haBags
 have nhaAround:=qM haAround
 have nhbAlive:=qM hbAlive
 have nhbBags:=qM hbBags
 have nhbAround:=qM hbAround
 clear ha haAlive haBags haAround hb hbAlive hbBags hbAround
 have N:=Fresh.nil w.heap.size
 refine zcr (sp (.bool false) (zjn (xQ (xQ ?_))))
 refine jf rfl H fun H=>rtl 0 H ?_
 refine rtl 1 H ?_
 refine tF 2 rfl rfl H ?_
 refine tL 3 rfl rfl (fun _ h=>h.x8 0 rfl 0 rfl) H ?_
 refine tN 4 rfl rfl H ?_
 refine rtl 5 H ?_
 refine rtl 6 H ?_
 refine tF 7 rfl rfl H ?_
 refine tL 8 rfl rfl (fun _ h=>h.x8 4 rfl 0 rfl) H ?_
 refine tN 9 rfl rfl H ?_
 refine rtp 10 (.bool ((a.qG.length:Int) != b.qG.length)) H ?_
 refine rtp 11 (.bool ((a.qG.length:Int) != b.qG.length)) H ?_
 cases h2:((a.qG.length:Int) != b.qG.length)
 ·skip
  replace h2:=xm h2
  refine rgl 12 18 H ?_
  refine rgl 13 18 H ?_
  refine gF 14 rfl rfl H ?_
  refine gL 15 rfl rfl (fun _ h=>h.x8 0 rfl 1 rfl) H ?_
  refine gN 16 rfl rfl H ?_
  refine rgl 17 18 H ?_
  refine rgl 18 18 H ?_
  refine gF 19 rfl rfl H ?_
  refine gL 20 rfl rfl (fun _ h=>h.x8 4 rfl 1 rfl) H ?_
  refine gN 21 rfl rfl H ?_
  refine rgp 22 (.bool ((a.qN.length:Int) != b.qN.length)) 18 H ?_
  refine rtp 23 (.bool ((a.qN.length:Int) != b.qN.length)) H ?_
  refine rtp 24 (.bool ((a.qN.length:Int) != b.qN.length)) H ?_
  cases h3:((a.qN.length:Int) != b.qN.length)
  ·skip
   replace h3:=xm h3
   refine rgl 25 31 H ?_
   refine rgl 26 31 H ?_
   refine gF 27 rfl rfl H ?_
   refine gL 28 rfl rfl (fun _ h=>h.x8 0 rfl 2 rfl) H ?_
   refine rgl 29 31 H ?_
   refine rgl 30 31 H ?_
   refine gF 31 rfl rfl H ?_
   refine gL 32 rfl rfl (fun _ h=>h.x8 4 rfl 2 rfl) H ?_
   refine zY [33] qh qm (XD rfl (e:=31) rfl rfl (oq (l00Same_ok _ a.qH b.qH (H.get 3 rfl).1 (H.get 7 rfl).1) H fun w5 H=>⟨H,(rgl 34 31 H ?_)⟩) zZ)
   refine rtl 35 H ?_
   refine xq qh (t_n (xE _ rfl (fun h7=>?_) (fun h7=>?_)))
   ·skip
    replace h7:=xJ h7
    replace h7:=of_decide_eq_false h7
    refine zcr (sp (.bool false) (zjr (t_r (ret1 (.bool false) rfl rfl ⟨_,rfl,?_,H.base⟩))))
    rw [decide_eq_false (fun e=>by subst e;first | omega | exact absurd rfl ql | simp_all)]
   replace h7:=xw h7
   replace h7:=of_decide_eq_true h7
   refine qW (t_n (zcc (sp (yI 0) (zjn (qY ?_)))))
   refine zq ((fun Z0 Z1 Z2 Z3 Z4 Z5 Z6 Z7=>fun m' ρ w8=>∃ (xM:Env) (c:Nat),ρ=upd (upd (upd xM 0 (pp ba oa)) 1 (pp bb ob)) 5 (yI c)∧((c:Int)≤a.qG.length)∧(a.qG.take c=b.qG.take c)∧m' =(a.qG.length - (c:Int)).toNat∧Fresh w.heap.size []∧St w w8 [] [Z0,Z1,Z2,Z3,Z4,Z5,Z6,Z7]) _ _ _ _ _ _ _ _) ((a.qG.length - (0:Int)).toNat) ⟨_,0,uE3,qf,(by rfl),rfl,N,H⟩ ?_
   clear H N
   rintro m' ρ w9 ⟨xM,c,rfl,i0,i1,rfl,N,H⟩
   refine zcc (sp (yI c) (sq 2 (oF rfl (oL rfl (H.x8 0 rfl 0 rfl) (oN rfl (sq 1 (zjn (cD rfl (fun h10=>?_) (fun h10=>?_)))))))))
   ·skip
    refine qW (t_n (xQ (qY (xQ ?_))))
    refine jf rfl H fun H=>rtl 0 H ?_
    refine rtl 1 H ?_
    refine tF 2 rfl rfl H ?_
    refine tL 3 rfl rfl (fun _ h=>h.x8 0 rfl 0 rfl) H ?_
    refine rtp 4 (yI c) H ?_
    obtain ⟨b12,o13,rfl⟩:=H.addr 1 rfl qf
    refine tI 5 rfl rfl rfl H ?_
    refine tL 6 rfl rfl (fun _ h=>h.elemBoolN 1 rfl c qf) H ?_
    refine rtl 7 H ?_
    refine rtl 8 H ?_
    refine tF 9 rfl rfl H ?_
    refine tL 10 rfl rfl (fun _ h=>h.x8 4 rfl 0 rfl) H ?_
    refine rtp 11 (yI c) H ?_
    obtain ⟨b15,o16,rfl⟩:=H.addr 5 rfl qf
    refine tI 12 rfl rfl rfl H ?_
    refine tL 13 rfl rfl (fun _ h=>h.elemBoolN 5 rfl c qf) H ?_
    refine rt 14 _ (y_neB underlying4 (a.qG[c]!) (b.qG[c]!) rfl rfl) H ?_
    refine xq qh (t_n (xE _ rfl (fun h18=>?_) (fun h18=>?_)))
    ·skip
     replace h18:=bne_iff_ne.1 h18
     refine zcr (sp (.bool false) (zjr (zr5 (ret1 (.bool false) rfl rfl ⟨_,rfl,?_,H.base⟩))))
     rw [decide_eq_false (fun e=>by subst e;first | omega | exact absurd rfl ql | simp_all)]
    replace h18:=xm h18
    refine qW (b_n (t_n (xU (sp (yI c) (sw (zA c 1 rfl rfl qf (sq 1 (xY (xe (m' :=(a.qG.length - ((c+1):Int)).toNat) qf ⟨_,c+1,uE3,?_,?_,rfl,N,H⟩)))))))))
    · omega
    · exact eqTo_succ qf qf i1 qg
   refine zx4 (zcc (sp (yI 0) (zjn (qY ?_))))
   refine zq ((fun Z0 Z1 Z2 Z3 Z4 Z5 Z6 Z7=>fun m' ρ w19=>∃ (xM:Env) (c_1:Nat),ρ=upd (upd (upd xM 0 (pp ba oa)) 1 (pp bb ob)) 6 (yI c_1)∧((c_1:Int)≤a.qN.length)∧(a.qN.take c_1=b.qN.take c_1)∧m' =(a.qN.length - (c_1:Int)).toNat∧Fresh w.heap.size []∧St w w19 [] [Z0,Z1,Z2,Z3,Z4,Z5,Z6,Z7]) _ _ _ _ _ _ _ _) ((a.qN.length - (0:Int)).toNat) ⟨_,0,uE3,qf,(by rfl),rfl,N,H⟩ ?_
   clear H N
   rintro m' ρ w20 ⟨xM,c_1,rfl,i0,i2,rfl,N,H⟩
   refine zcc (sq 3 (oF rfl (oL rfl (H.x8 0 rfl 1 rfl) (oN rfl (sq 1 (zjn (cD rfl (fun h21=>?_) (fun h21=>?_))))))))
   ·skip
    refine qW (t_n (xQ (qY (xQ ?_))))
    obtain ⟨b22,o23,rfl⟩:=H.addr 2 rfl qf
    obtain ⟨b25,o26,rfl⟩:=H.addr 6 rfl qf
    refine c_cut (fun ρ w34=>∃ (xM:Env) (F28:yLN) (a29:yOA) (c30:Nat) (F31:yLN) (a32:yOA) (c33:Nat),ρ=upd (upd (upd (upd xM 0 (pp ba oa)) 1 (pp bb ob)) 6 (yI c_1)) 91 (.bool (!(decide ((a.qN[c_1]!)=(b.qN[c_1]!)))))∧Fresh w.heap.size []∧St w w34 [] [sF false F28 a29 c30 (b.qN[c_1]!),atF b25 (o26+(c_1:Int).toNat * 1) [.slice a29 ((b.qN[c_1]!).length) c30],sF false F31 a32 c33 (a.qN[c_1]!),atF b22 (o23+(c_1:Int).toNat * 1) [.slice a32 ((a.qN[c_1]!).length) c33],atF ba oa [.slice aaAlive a.qG.length caAlive,.slice (aa b22 o23) a.qN.length caBags,.slice Vd a.qH.length Va],sF false FaAlive aaAlive caAlive a.qG,sF false FaBags (aa b22 o23) caBags a.qN,sF false FaAround Vd Va a.qH,atF bb ob [.slice abAlive b.qG.length cbAlive,.slice (aa b25 o26) b.qN.length cbBags,.slice Vb b.qH.length X9],sF false FbAlive abAlive cbAlive b.qG,sF false FbBags (aa b25 o26) cbBags b.qN,sF false FbAround Vb X9 b.qH]) ?_ ?_
    ·skip
     refine jf rfl H fun H=>rtl 0 H ?_
     refine rtl 1 H ?_
     refine tF 2 rfl rfl H ?_
     refine tL 3 rfl rfl (fun _ h=>h.x8 0 rfl 1 rfl) H ?_
     refine rtl 4 H ?_
     obtain ⟨ae36,ce36,Fe36,H⟩:=H.vX 2 rfl c_1 c_1 qf qf qf
     have S:=H.jo [] [2,3,4,5,6,7,8,9]
     refine tI 5 rfl rfl rfl S ?_
     refine rtl 7 S ?_
     refine rtl 8 S ?_
     refine tF 9 rfl rfl S ?_
     refine tL 10 rfl rfl (fun _ h=>h.x8 4 rfl 1 rfl) S ?_
     refine rtl 11 S ?_
     obtain ⟨ae37,ce37,Fe37,H⟩:=H.vX 8 rfl c_1 c_1 qf qf qf
     refine tI 12 rfl rfl rfl (H.pick [] [4,5,6,7,8,9,10,11]) ?_
     refine zY [6,13] qh qm (jd rfl ?_ (jd rfl ?_ zZ))
     ·skip
      refine zl (.slice ae36 ((a.qN[c_1]!).length) ce36) isAgg24 rfl (H.x8 3 rfl 0 rfl) (⟨H.pick [] [4,5,6,7,8,9,10,11],(ro 13 rfl (zl (.slice ae37 ((b.qN[c_1]!).length) ce37) isAgg24 rfl (H.x8 1 rfl 0 rfl) (⟨H.pick [] [4,5,6,7,8,9,10,11],(ro 14 rfl (oq (l00Same_ok _ (a.qN[c_1]!) (b.qN[c_1]!) (H.get 2 rfl).1 (H.get 0 rfl).1) H fun w39 H=>⟨H.pick [] [4,5,6,7,8,9,10,11],(rtl 15 (H.pick [] [4,5,6,7,8,9,10,11]) ?_)⟩))⟩)))⟩)
      refine xq qh ((meet ⟨_,Fe37,ae37,ce37,Fe36,ae36,ce36,uE4,N,H⟩))
     refine zl (.slice ae37 ((b.qN[c_1]!).length) ce37) isAgg24 rfl (H.x8 1 rfl 0 rfl) (⟨H.pick [] [4,5,6,7,8,9,10,11],(ro 6 rfl (zl (.slice ae36 ((a.qN[c_1]!).length) ce36) isAgg24 rfl (H.x8 3 rfl 0 rfl) (⟨H.pick [] [4,5,6,7,8,9,10,11],(ro 14 rfl (oq (l00Same_ok _ (a.qN[c_1]!) (b.qN[c_1]!) (H.get 2 rfl).1 (H.get 0 rfl).1) H fun w42 H=>⟨H.pick [] [4,5,6,7,8,9,10,11],(rtl 15 (H.pick [] [4,5,6,7,8,9,10,11]) ?_)⟩))⟩)))⟩)
     refine xq qh ((meet ⟨_,Fe37,ae37,ce37,Fe36,ae36,ce36,uE4,N,H⟩))
    clear H N
    rintro ρ w44 ⟨xM,F28,a29,c30,F31,a32,c33,rfl,N,H⟩
    refine t_n (xE _ rfl (fun h45=>?_) (fun h45=>?_))
    ·skip
     replace h45:=xJ h45
     replace h45:=of_decide_eq_false h45
     refine zcr (sp (.bool false) (zjr (zr5 (ret1 (.bool false) rfl rfl ⟨_,rfl,?_,H.base⟩))))
     rw [decide_eq_false (fun e=>by subst e;first | omega | exact absurd rfl ql | simp_all)]
    replace h45:=xw h45
    replace h45:=of_decide_eq_true h45
    refine qW (b_n (t_n (xU (sq 1 (sw (zA c_1 1 rfl rfl qf (sq 1 (xY (xe (m' :=(a.qN.length - ((c_1+1):Int)).toNat) qf ⟨_,c_1+1,uE3,?_,?_,rfl,N,H.pick [] [4,5,6,7,8,9,10,11]⟩)))))))))
    · omega
    · exact eqTo_succ qf qf i2 ql
   refine zx4 (zcr (sp (.bool true) (zjr (ret1 (.bool true) rfl rfl ⟨_,rfl,?_,H.base⟩))))
   rw [decide_eq_true (state_eq (eq_of_take (k:=c) qf qf i1) (eq_of_take (k:=c_1) qf qf i2) ql)]
  replace h3:=bne_iff_ne.1 h3
  refine zI [25,26,27,28,29,30,31,32,33,34] 10 (H) (rtp 35 (.bool true) H ?_)
  refine xq qh (t_n (xE true rfl (fun _=>zcr (sp (.bool false) (zjr (t_r (ret1 (.bool false) rfl rfl ⟨_,rfl,?_,H.base⟩))))) (fun h=>absurd h qj)))
  rw [decide_eq_false (fun e=>by subst e;first | omega | exact absurd rfl ql | simp_all)]
 replace h2:=bne_iff_ne.1 h2
 refine zI [12,13,14,15,16,17,18,19,20,21,22] 11 (H) (rtp 23 (.bool true) H ?_)
 refine rtp 24 (.bool true) H ?_
 refine zI [25,26,27,28,29,30,31,32,33,34] 10 (H) (rtp 35 (.bool true) H ?_)
 refine xq qh (t_n (xE true rfl (fun _=>zcr (sp (.bool false) (zjr (t_r (ret1 (.bool false) rfl rfl ⟨_,rfl,?_,H.base⟩))))) (fun h=>absurd h qj)))
 rw [decide_eq_false (fun e=>by subst e;first | omega | exact absurd rfl ql | simp_all)]

theorem l03Find_ok (w:World) (l:List qF) (u:qF) {al:yOA} {cl:Nat} {Fl:yLN} {bu ou:Nat} {auAlive:yOA} {cuAlive:Nat} {FuAlive:yLN} {auBags:yOA} {cuBags:Nat} {FuBags:yLN} {XN:yOA} {XH:Nat} {FuAround:yLN} (hl:qO.rep w Fl [.slice al l.length cl] l) (hu:vG w bu ou (yT u auAlive cuAlive auBags cuBags XN XH)) (huAlive:qO.rep w FuAlive [.slice auAlive u.qG.length cuAlive] u.qG) (huBags:qO.rep w FuBags [.slice auBags u.qN.length cuBags] u.qN) (huAround:qO.rep w FuAround [.slice XN u.qH.length XH] u.qH):Calls Tryz.prog 113 #[.slice al l.length cl,pp bu ou] w (Ret (fun v w' =>v=yI (firstIdx (fun zz=>decide (l[zz]! =u)) l.length)) w):=by
 refine en func113 ntmps113 ?_
 have H:=(((((St.start w).arg huAround).arg huBags).arg huAlive).XO hu).arg hl
 have nhl:=qM hl
 have nhuAlive:=qM huAlive
 have nhuBags:=qM huBags
 have nhuAround:=qM huAround
 clear hl hu huAlive huBags huAround
 have N:=Fresh.nil w.heap.size
 refine zcr (sp (yI 0) (zjcc (sp (yI 0) (zjn (qY ?_)))))
 refine zq ((fun Z0 Z1 Z2 Z3 Z4=>fun m' ρ w1=>∃ (xM:Env) (i:Nat),ρ=upd (upd (upd xM 0 (.slice al l.length cl)) 1 (pp bu ou)) 5 (yI i)∧((i:Int)≤l.length)∧(noneTo (fun zz=>decide (l[zz]! =u)) i)∧m' =(l.length - (i:Int)).toNat∧Fresh w.heap.size []∧St w w1 [] [Z0,Z1,Z2,Z3,Z4]) _ _ _ _ _) ((l.length - (0:Int)).toNat) ⟨_,0,uE3,qf,qx,rfl,N,H⟩ ?_
 clear H N
 rintro m' ρ w2 ⟨xM,i,rfl,i0,i1,rfl,N,H⟩
 refine zcc (sp (yI i) (sq 1 (oN rfl (sq 1 (zjn (cD rfl (fun h3=>?_) (fun h3=>?_)))))))
 ·skip
  refine qW (t_n (xQ (qY (zcr (sq 1 (sp (yI i) ?_))))))
  obtain ⟨b4,o5,rfl⟩:=H.addr 0 rfl qf
  obtain ⟨ae7Alive,ce7Alive,Fe7Alive,ae7Bags,ce7Bags,Fe7Bags,ae7Around,ce7Around,Fe7Around,H⟩:=H.Vm 0 rfl i i qf qf qf
  refine oI rfl rfl (sq 1 (sw (oq (l02Same_ok _ (l[i]!) u (qC (H.get 3 rfl) 0 3) (H.get 0 rfl).1 (H.get 1 rfl).1 (H.get 2 rfl).1 (qC (H.get 5 rfl) 0 3) (H.get 6 rfl).1 (H.get 7 rfl).1 (H.get 8 rfl).1) H fun w9 H=>zjn (cD rfl (fun h11=>?_) (fun h11=>?_)))))
  ·skip
   refine zcr (sp (yI i) (sp (yI i) (zjr (zr5 (ret1 (yI i) rfl rfl ⟨_,rfl,?_,H.base⟩)))))
   rw [QB (k:=i) qf i1 (decide_eq_true ‹_›)]
  refine qW (b_n (t_n (xU (sp (yI i) (sw (zA i 1 rfl rfl qf (sq 1 (xY (xe (m' :=(l.length - ((i+1):Int)).toNat) qf ⟨_,i+1,uE3,?_,?_,rfl,N,H.pick [] [4,5,6,7,8]⟩)))))))))
  · omega
  · exact noneTo_succ i1 (decide_eq_false ‹_›)
 refine zx4 (zcr (sq 1 (zjr (ret1 (yI (-1)) rfl rfl ⟨_,rfl,?_,H.base⟩))))
 rw [firstIdx_none (fun j hj=>i1 j qf)]

theorem l03Next_ok (w:World) (s:qE) (t:qF) (cs:yLL) {bs os:Nat} {qJ:yOA} {xu:yLN} {qV:yOA} {zh:yLN} {bt ot:Nat} {xg:yOA} {zu:yLN} {xF:yOA} {zU:yLN} {qU:yOA} {x9:yLN} {acs:yOA} {Fcs:yLN} (hs:vG w bs os (yS s qJ qI qV qQ)) (qX:qO.rep w xu [.slice qJ s.qA.length qI] s.qA) (xn:qO.rep w zh [.slice qV s.qB.length qQ] s.qB) (ht:vG w bt ot (yT t xg xf xF xA qU qR)) (xR:qO.rep w zu [.slice xg t.qG.length xf] t.qG) (zn:qO.rep w zU [.slice xF t.qN.length xA] t.qN) (xy:qO.rep w x9 [.slice qU t.qH.length qR] t.qH) (hcs:qO.rep w Fcs [.slice acs cs.length ccs] cs) (p0:vK s) (p1:xX s t) (p2:cs.length≤1000) (p3:∀ q,q < cs.length→CntOk s (cs[q]!)):Calls Tryz.prog 107 #[pp bs os,pp bt ot,.slice acs cs.length ccs] w (Ret (fun v w' =>∃ (ra0:yOA) (rn0:Nat) (rc0:Nat) (rx0:List Value) (rF0:yLN),v=.tuple #[.slice ra0 rn0 rc0,yI ((QH s t cs).2)]∧Fresh w.heap.size [rF0]∧St w w' [rr ra0 rn0 rc0 31 3 rx0] [xB true rF0 rx0 ((QH s t cs).1)]) w):=by
 refine en func107 ntmps107 ?_
 have H:=((((((((St.start w).arg hcs).arg xy).arg zn).arg xR).XO ht).arg xn).arg qX).XO hs
 have zN:=qM qX
 have vW:=qM xn
 have jO:=qM xR
 have yH:=qM zn
 have jg:=qM xy
 have nhcs:=qM hcs
 clear hs qX xn ht xR zn xy hcs
 have N:=Fresh.nil w.heap.size
 refine zcr (sq 1 (sp (yI 0) (zjc (sw (vU H underlying38 ti31 fun b1 w2 H=>sq 1 (zjcc (sp (yI 0) (zjn (qY ?_)))))))))
 replace H:=H.boxRow 0 rfl 3 0 rfl qj
 replace H:=H.zW (α:=qF)
 replace H:St _ _ [rr (aa b1 0) 0 0 31 3 []] [xB true [] [] ([]:List qF),atF bs os (yS s qJ qI qV qQ),sF false xu qJ qI s.qA,sF false zh qV qQ s.qB,atF bt ot (yT t xg xf xF xA qU qR),sF false zu xg xf t.qG,sF false zU xF xA t.qN,sF false x9 qU qR t.qH,sF false Fcs acs ccs cs]:=H
 refine zq ((fun Z0 Z1 Z2 Z3 Z4 Z5 Z6 Z7=>fun m' ρ w3=>∃ (xM:Env) (yf:yOA) (ja:Nat) (jT:Nat) (out:List qF) (Xn:List Value) (y7:yLN) (i:Nat),ρ=upd (upd (upd (upd (upd xM 0 (pp bs os)) 1 (pp bt ot)) 2 (.slice acs cs.length ccs)) 8 (.slice yf ja jT)) 9 (yI i)∧out=jU s t cs i∧((i:Int)≤cs.length)∧(NoBad s t cs i)∧m' =(cs.length - (i:Int)).toNat∧Fresh w.heap.size [y7]∧St w w3 [rr yf ja jT 31 3 Xn] [xB true y7 Xn out,Z0,Z1,Z2,Z3,Z4,Z5,Z6,Z7]) _ _ _ _ _ _ _ _) ((cs.length - (0:Int)).toNat) ⟨_,(aa b1 0),0,0,([]:List qF),[],[],0,uE5,(by rfl),qf,qx,rfl,N.emp,H⟩ ?_
 clear H N
 rintro m' ρ w4 ⟨xM,yf,ja,jT,out,Xn,y7,i,rfl,rfl,i0,i1,rfl,N,H⟩
 have hn_out:=H.xK (α:=qF) 0 rfl 0 rfl qj
 have nl:=nextTo_len (s:=s) (t:=t) (cs:=cs) i
 refine zcc (sp (yI i) (sq 1 (oN rfl (sq 1 (zjn (cD rfl (fun h5=>?_) (fun h5=>?_)))))))
 ·skip
  refine qW (t_n (xQ (qY (zcr (sq 3 (sp (yI i) ?_))))))
  obtain ⟨b6,o7,rfl⟩:=H.addr 8 rfl qf
  obtain ⟨ae9,ce9,Fe9,H⟩:=H.vX 8 rfl i i qf qf qf
  refine oI rfl rfl (oL rfl (H.x8 1 rfl 0 rfl) ?_)
  have k3:=p3 i qf
  have sz13:=H.base.size
  have lt14:=H.ltN (L:=[y7]) [2]
  refine sw (oc (l03Step_ok _ s t (cs[i]!) (qC (H.get 3 rfl) 0 3) (H.get 4 rfl).1 (H.get 5 rfl).1 (qC (H.get 6 rfl) 0 3) (H.get 7 rfl).1 (H.get 8 rfl).1 (H.get 9 rfl).1 (H.get 0 rfl).1 qg qg qg) ?_)
  rintro _ w11 ⟨ra10aAlive,rn10aAlive,rc10aAlive,ra10aBags,rn10aBags,rc10aBags,rx10aBags,rF10aBags,ra10aAround,rn10aAround,rc10aAround,rfl,M,K⟩ _
  replace N:=N.merge sz13 lt14 M
  replace H:=H.merge K M
  obtain rfl:=H.XC 0 rfl
  obtain rfl:=H.xK (α:=yLI) 1 rfl 0 rfl qj
  obtain rfl:=H.jm 2 rfl
  refine sq 3 (sw (xx H ti31 [yN,yN,yN] fun b18 w19 H=>?_))
  refine sw (xG H 0 [.slice ra10aAlive ((((zF s t (cs[i]!)).1).qG).length) rc10aAlive,.slice ra10aBags ((((zF s t (cs[i]!)).1).qN).length) rc10aBags,.slice ra10aAround ((((zF s t (cs[i]!)).1).qH).length) rc10aAround] sizeOf31 fun w20 H=>sq 1 (zjcc (sq 1 (sp (.bool (((zF s t (cs[i]!)).2:Int) != 0)) (zjn (xE (((zF s t (cs[i]!)).2:Int) != 0) rfl (fun h21=>?_) (fun h21=>?_)))))))
  ·skip
   replace h21:=bne_iff_ne.1 h21
   refine zcr (sw (vU H underlying38 ti31 fun b22 w23 H=>sq 3 (zjr (t_r (zr5 ?_)))))
   replace H:=H.boxRow 0 rfl 3 0 rfl qj
   replace H:=H.zW (α:=qF)
   replace H:St _ _ [rr (aa b22 0) 0 0 31 3 [],.box b18 [.slice ra10aAlive ((((zF s t (cs[i]!)).1).qG).length) rc10aAlive,.slice ra10aBags ((((zF s t (cs[i]!)).1).qN).length) rc10aBags,.slice ra10aAround ((((zF s t (cs[i]!)).1).qH).length) rc10aAround] 31,rr ra10aAlive ((((zF s t (cs[i]!)).1).qG).length) rc10aAlive 4 1 ((((zF s t (cs[i]!)).1).qG).map (Value.bool)),rr ra10aBags ((((zF s t (cs[i]!)).1).qN).length) rc10aBags 24 1 rx10aBags,rr ra10aAround ((((zF s t (cs[i]!)).1).qH).length) rc10aAround 2 1 ((((zF s t (cs[i]!)).1).qH).map (Value.int .i64)),rr yf ja jT 31 3 Xn] [xB true [] [] ([]:List qF),xB true rF10aBags rx10aBags (((zF s t (cs[i]!)).1).qN),sF false Fe9 ae9 ce9 (cs[i]!),atF b6 (o7+(i:Int).toNat * 1) [.slice ae9 ((cs[i]!).length) ce9],xB true y7 Xn (jU s t cs i),atF bs os (yS s qJ qI qV qQ),sF false xu qJ qI s.qA,sF false zh qV qQ s.qB,atF bt ot (yT t xg xf xF xA qU qR),sF false zu xg xf t.qG,sF false zU xF xA t.qN,sF false x9 qU qR t.qH,sF false Fcs (aa b6 o7) ccs cs]:=H
   refine ret2 (.slice (aa b22 0) 0 0) (yI ((zF s t (cs[i]!)).2)) rfl rfl rfl ⟨_,rfl,?_,H.base⟩
   rw [next_bad i1 qf ‹_›]
   exact ⟨(aa b22 0),0,0,[],[],rfl,(N.emp.pick [0]),H.pick [0] [0]⟩
  replace h21:=xm h21
  refine qW (t_n (zcr (sq 1 ?_)))
  obtain ⟨G24,hn25,h26⟩:=H.yQ (α:=qF) 4 rfl 3 rfl qj
  obtain ⟨G27,hn28,h29⟩:=H.Vp 1 rfl
  obtain ⟨G30,hn31,h32⟩:=H.yQ (α:=yLI) 2 rfl 0 rfl qj
  obtain ⟨G33,hn34,h35⟩:=H.Qi 3 rfl
  refine sw (oq (XY (by rw [← hn25]) (l03Find_ok _ (jU s t cs i) ((zF s t (cs[i]!)).1) (hn25▸h26) (qC (H.cells 0 rfl) 0 3) h29 h32 h35)) H fun w37 H=>sp (.bool (decide ((firstIdx (fun zz=>decide ((jU s t cs i)[zz]! =((zF s t (cs[i]!)).1))) (jU s t cs i).length:Int) < 0))) (zjn (cD rfl (fun h39=>?_) (fun h39=>?_))))
  ·skip
   refine xU (sq 1 (sw (xI [.slice ra10aAlive ((((zF s t (cs[i]!)).1).qG).length) rc10aAlive,.slice ra10aBags ((((zF s t (cs[i]!)).1).qN).length) rc10aBags,.slice ra10aAround ((((zF s t (cs[i]!)).1).qH).length) rc10aAround] isAgg31 sizeOf31 rfl (qC (H.cells 0 rfl) 0 3) (sw (zf H underlying38 ti31 [.slice ra10aAlive ((((zF s t (cs[i]!)).1).qG).length) rc10aAlive,.slice ra10aBags ((((zF s t (cs[i]!)).1).qN).length) rc10aBags,.slice ra10aAround ((((zF s t (cs[i]!)).1).qH).length) rc10aAround] fun b40 w41 H=>?_)))))
   obtain ⟨G45,N,hn46,H⟩:=H.freezeB 2 rfl N (H.vS [0,3])
   have H0:=H
   obtain ⟨G47,hg49,hn48,H⟩:=H.yj (α:=yLI) 3 rfl 1 rfl qj
   replace N:Fresh w.heap.size [G47,G45,y7]:=Fresh.ice (N.pick [1,0,2]) H0 3 hg49.1 hg49.2 (H0.vS [0,4])
   clear H0
   obtain ⟨G50,N,hn51,H⟩:=H.zG 4 rfl N (H.vS [0,1,5])
   refine sw (zk H 5 rfl 0 rfl underlying38 ti31 rfl qj rfl rfl rfl qw qp qf fun a42 c43 w44 H=>?_)
   replace H:=H.Q3 6 rfl 2 rfl 1 rfl 0 rfl
   replace N:Fresh w.heap.size [(y7++(G45++G47++G50))]:=(N.pick [2,1,0,3]).join.join.swap.join
   refine sq 1 (xY (b_n (t_n (xU (sp (yI i) (sw (zA i 1 rfl rfl qf (sq 1 (xY (xe (m' :=(cs.length - ((i+1):Int)).toNat) qf ⟨_,_,_,_,_,_,_,i+1,uE5,?_,?_,?_,rfl,N,H.pick [5] [0,8,9,10,11,12,13,14,15]⟩))))))))))
   · first | exact nextTo_new (find_mem.1 ql) | exact nextTo_in (Classical.byContradiction fun h=>absurd (find_mem.2 h) ql)
   · omega
   · exact i1.succ ‹_›
  refine qW (b_n (t_n (xU (sp (yI i) (sw (zA i 1 rfl rfl qf (sq 1 (xY (xe (m' :=(cs.length - ((i+1):Int)).toNat) qf ⟨_,_,_,_,_,_,_,i+1,uE5,?_,?_,?_,rfl,(N.pick [1]),H.pick [4] [3,4,5,6,7,8,9,10,11]⟩)))))))))
  · first | exact nextTo_new (find_mem.1 ql) | exact nextTo_in (Classical.byContradiction fun h=>absurd (find_mem.2 h) ql)
  · omega
  · exact i1.succ ‹_›
 refine zx4 (zcr (sq 2 (sp (yI 0) (zjr (ret2 (.slice yf ja jT) (yI 0) rfl rfl rfl ⟨_,rfl,?_,H.base⟩)))))
 rw [next_ok (fun j hj=>i1 j qf),show cs.length=i by omega]
 exact ⟨yf,ja,jT,Xn,y7,rfl,N,H.pick [0] [0]⟩

theorem sameState_ok (w:World) (a:qF) (b:qF) {aaAlive:yOA} {FaAlive:yLN} {aaBags:yOA} {FaBags:yLN} {Vd:yOA} {FaAround:yLN} {abAlive:yOA} {FbAlive:yLN} {abBags:yOA} {FbBags:yLN} {Vb:yOA} {FbAround:yLN} (haAlive:qO.rep w FaAlive [.slice aaAlive a.qG.length caAlive] a.qG) (haBags:qO.rep w FaBags [.slice aaBags a.qN.length caBags] a.qN) (haAround:qO.rep w FaAround [.slice Vd a.qH.length Va] a.qH) (hbAlive:qO.rep w FbAlive [.slice abAlive b.qG.length cbAlive] b.qG) (hbBags:qO.rep w FbBags [.slice abBags b.qN.length cbBags] b.qN) (hbAround:qO.rep w FbAround [.slice Vb b.qH.length X9] b.qH):Calls Tryz.prog 117 #[.agg #[.slice aaAlive a.qG.length caAlive,.slice aaBags a.qN.length caBags,.slice Vd a.qH.length Va],.agg #[.slice abAlive b.qG.length cbAlive,.slice abBags b.qN.length cbBags,.slice Vb b.qH.length X9]] w (Ret (fun v w' =>v=.bool (decide (a=b))) w):=by
 refine en func117 ntmps117 ?_
 have H:=((((((St.start w).arg hbAround).arg hbBags).arg hbAlive).arg haAround).arg haBags).arg haAlive
 have nhaAlive:=qM haAlive
 have nhaBags:=qM haBags
 have nhaAround:=qM haAround
 have nhbAlive:=qM hbAlive
 have nhbBags:=qM hbBags
 have nhbAround:=qM hbAround
 clear haAlive haBags haAround hbAlive hbBags hbAround
 have N:=Fresh.nil w.heap.size
 refine zcr (sw (zS H (yT a aaAlive caAlive aaBags caBags Vd Va) fun b1 w2 H=>sw (zS H (yT b abAlive cbAlive abBags cbBags Vb X9) fun b3 w4 H=>sp (.bool false) (zjc (oF rfl (oL rfl (H.cell 1 rfl rfl) (oF rfl (oL rfl (H.cell 0 rfl rfl) (sw (oq (equalB_ok _ a.qG b.qG (H.get 0 rfl).1 (H.get 3 rfl).1) H fun w6 H=>sp (.bool (decide (a.qG=b.qG))) ?_))))))))))
 cases h8:(decide (a.qG=b.qG))
 ·skip
  replace h8:=of_decide_eq_false h8
  refine xZ [11,12,13,14,15] (sp (.bool false) (sp (.bool false) (xZ [18,19,20,21,22] (sp (.bool false) (sp (.bool false) (zjr (ret1 (.bool false) rfl rfl ⟨_,rfl,?_,H.base⟩)))))))
  rw [decide_eq_false (fun e=>by subst e;first | omega | exact absurd rfl ql | simp_all)]
 replace h8:=of_decide_eq_true h8
 refine qL 10 rfl rfl (oF rfl (qL 10 rfl rfl (oL rfl (H.cell 1 rfl rfl) (qL 10 rfl rfl (oF rfl (qL 10 rfl rfl (oL rfl (H.cell 0 rfl rfl) (qL 10 rfl rfl (sw (zQ #[.slice aaBags a.qN.length caBags,.slice abBags b.qN.length cbBags,.func (.func 81) #[] #[]] rfl rfl call162 (en func162 ntmps162 ?_)))))))))))
 refine zcr (sp (.bool false) (zjcc (sq 1 (oN rfl (sq 1 (oN rfl (sq 1 (zjn (xE _ rfl (fun h9=>?_) (fun h9=>?_))))))))))
 ·skip
  replace h9:=bne_iff_ne.1 h9
  refine zcr (sp (.bool false) (zjr (t_r (ret1 (.bool false) rfl rfl ⟨_,rfl,(sp (.bool false) (sp (.bool false) (xZ [18,19,20,21,22] (sp (.bool false) (sp (.bool false) (zjr (ret1 (.bool false) rfl rfl ⟨_,rfl,?_,H.base⟩)))))))⟩))))
  rw [decide_eq_false (fun e=>by subst e;first | omega | exact absurd rfl ql | simp_all)]
 replace h9:=xm h9
 refine qW (t_n (zcc (sq 1 (oN rfl (sp (yI 0) (zjn (qY ?_)))))))
 refine zq ((fun Z0 Z1 Z2 Z3 Z4 Z5 Z6 Z7=>fun m' ρ w10=>∃ (xM:Env) (i:Nat),ρ=upd (upd (upd (upd (upd xM 1 (.slice abBags b.qN.length cbBags)) 2 (.func (.func 81) #[] #[])) 15 (.slice aaBags a.qN.length caBags)) 16 (yI a.qN.length)) 17 (yI i)∧((i:Int)≤a.qN.length)∧(a.qN.take i=b.qN.take i)∧m' =(a.qN.length - (i:Int)).toNat∧Fresh w.heap.size []∧St w w10 [Z0,Z1] [Z2,Z3,Z4,Z5,Z6,Z7]) _ _ _ _ _ _ _ _) ((a.qN.length - (0:Int)).toNat) ⟨_,0,uE5,qf,(by rfl),rfl,N,H⟩ ?_
 clear H N
 rintro m' ρ w11 ⟨xM,i,rfl,i0,i2,rfl,N,H⟩
 refine zcr (sq 1 (zjn (xQ (cD rfl (fun h12=>?_) (fun h12=>?_)))))
 ·skip
  refine qW (t_n (xQ (qY (zcr (sp (yI i) ?_)))))
  obtain ⟨b13,o14,rfl⟩:=H.addr 1 rfl qf
  obtain ⟨ae16,ce16,Fe16,H⟩:=H.vX 1 rfl i i qf qf qf
  refine oI rfl rfl (oL rfl (H.x8 1 rfl 0 rfl) (sp (yI i) (sq 1 (zjc (sq 1 (sp (yI i) ?_))))))
  obtain ⟨b17,o18,rfl⟩:=H.addr 6 rfl qf
  obtain ⟨ae20,ce20,Fe20,H⟩:=H.vX 6 rfl i i qf qf qf
  refine oI rfl rfl (oL rfl (H.x8 1 rfl 0 rfl) (sq 1 (zjc (sp (.func (.func 81) #[] #[]) (sq 2 (sw (oq (equalI_ok _ (a.qN[i]!) (b.qN[i]!) (H.get 2 rfl).1 (H.get 0 rfl).1) H fun w22 H=>sq 1 (zjn (xE _ rfl (fun h24=>?_) (fun h24=>?_))))))))))
  ·skip
   replace h24:=xJ h24
   replace h24:=of_decide_eq_false h24
   refine zcr (sp (.bool false) (zjr (zr5 (ret1 (.bool false) rfl rfl ⟨_,rfl,(sp (.bool false) (sp (.bool false) (xZ [18,19,20,21,22] (sp (.bool false) (sp (.bool false) (zjr (ret1 (.bool false) rfl rfl ⟨_,rfl,?_,H.base⟩)))))))⟩))))
   rw [decide_eq_false (fun e=>by subst e;first | omega | exact absurd rfl ql | simp_all)]
  replace h24:=xw h24
  replace h24:=of_decide_eq_true h24
  refine qW (b_n (t_n (xU (sw (zA i 1 rfl rfl qf (sq 1 (xY (xe (m' :=(a.qN.length - ((i+1):Int)).toNat) qf ⟨_,i+1,uE5,?_,?_,rfl,N,H.pick [0,1] [4,5,6,7,8,9]⟩))))))))
  · omega
  · exact eqTo_succ qf qf i2 ql
 refine zx4 (zcr (sp (.bool true) (zjr (ret1 (.bool true) rfl rfl ⟨_,rfl,(sp (.bool true) (sp (.bool true) (qL 17 rfl rfl (oF rfl (qL 17 rfl rfl (oL rfl (H.cell 1 rfl rfl) (qL 17 rfl rfl (oF rfl (qL 17 rfl rfl (oL rfl (H.cell 0 rfl rfl) (qL 17 rfl rfl (sw (oq (equalI_ok _ a.qH b.qH (H.get 2 rfl).1 (H.get 5 rfl).1) H fun w26 H=>sq 2 (zjr (ret1 (.bool (decide (a.qH=b.qH))) rfl rfl ⟨_,rfl,?_,H.base⟩)))))))))))))))⟩))))
 rw [show decide (a=b)=decide (a.qH=b.qH) from decide_eq_decide.2 ⟨fun e=>by rw [e],fun e=>state_eq ql (eq_of_take (k:=i) qf qf i2) e⟩]

theorem behind_ok (w:World) (s:qE) (t:qF) (cs:yLL) {qJ:yOA} {xu:yLN} {qV:yOA} {zh:yLN} {xg:yOA} {zu:yLN} {xF:yOA} {zU:yLN} {qU:yOA} {x9:yLN} {acs:yOA} {Fcs:yLN} (qX:qO.rep w xu [.slice qJ s.qA.length qI] s.qA) (xn:qO.rep w zh [.slice qV s.qB.length qQ] s.qB) (xR:qO.rep w zu [.slice xg t.qG.length xf] t.qG) (zn:qO.rep w zU [.slice xF t.qN.length xA] t.qN) (xy:qO.rep w x9 [.slice qU t.qH.length qR] t.qH) (hcs:qO.rep w Fcs [.slice acs cs.length ccs] cs) (p0:vK s) (p1:xX s t) (p2:cs.length≤1000) (p3:∀ q,q < cs.length→CntOk s (cs[q]!)) (p4:∀ q,q < cs.length→IsCh s t (cs[q]!)):Calls Tryz.prog 109 #[.agg #[yI s.xP,.slice qJ s.qA.length qI,.slice qV s.qB.length qQ],.agg #[.slice xg t.qG.length xf,.slice xF t.qN.length xA,.slice qU t.qH.length qR],.slice acs cs.length ccs] w (Ret (fun v w' =>∃ (ra0:yOA) (rn0:Nat) (rc0:Nat) (rx0:List Value) (rF0:yLN),v=.tuple #[.slice ra0 rn0 rc0,yI ((QH s t cs).2)]∧Fresh w.heap.size [rF0]∧St w w' [rr ra0 rn0 rc0 31 3 rx0] [xB true rF0 rx0 ((QH s t cs).1)]) w):=by
 refine en func109 ntmps109 ?_
 have H:=((((((St.start w).arg hcs).arg xy).arg zn).arg xR).arg xn).arg qX
 have zN:=qM qX
 have vW:=qM xn
 have jO:=qM xR
 have yH:=qM zn
 have jg:=qM xy
 have nhcs:=qM hcs
 clear qX xn xR zn xy hcs
 have N:=Fresh.nil w.heap.size
 refine zcr (sw (zS H (yS s qJ qI qV qQ) fun b1 w2 H=>sw (zS H (yT t xg xf xF xA qU qR) fun b3 w4 H=>sq 1 (sp (yI 0) (zjc (sw (vU H underlying38 ti31 fun b5 w6 H=>sq 1 (zjcc (sq 1 (oN rfl (sp (yI 0) (zjn (qY ?_)))))))))))))
 replace H:=H.boxRow 0 rfl 3 0 rfl qj
 replace H:=H.zW (α:=qF)
 replace H:St _ _ [rr (aa b5 0) 0 0 31 3 [],.box b3 (yT t xg xf xF xA qU qR) 31,.box b1 (yS s qJ qI qV qQ) 27] [xB true [] [] ([]:List qF),sF false xu qJ qI s.qA,sF false zh qV qQ s.qB,sF false zu xg xf t.qG,sF false zU xF xA t.qN,sF false x9 qU qR t.qH,sF false Fcs acs ccs cs]:=H
 refine zq ((fun Z0 Z1 Z2 Z3 Z4 Z5 Z6 Z7=>fun m' ρ w7=>∃ (xM:Env) (yf:yOA) (ja:Nat) (jT:Nat) (out:List qF) (Xn:List Value) (y7:yLN) (k:Nat),ρ=upd (upd (upd (upd (upd (upd xM 3 (pp b1 0)) 4 (pp b3 0)) 8 (.slice yf ja jT)) 14 (.slice acs cs.length ccs)) 15 (yI cs.length)) 16 (yI k)∧out=jU s t cs k∧((k:Int)≤cs.length)∧(NoBad s t cs k)∧m' =(cs.length - (k:Int)).toNat∧Fresh w.heap.size [y7]∧St w w7 [rr yf ja jT 31 3 Xn,Z0,Z1] [xB true y7 Xn out,Z2,Z3,Z4,Z5,Z6,Z7]) _ _ _ _ _ _ _ _) ((cs.length - (0:Int)).toNat) ⟨_,(aa b5 0),0,0,([]:List qF),[],[],0,uE6,(by rfl),qf,qx,rfl,N.emp,H⟩ ?_
 clear H N
 rintro m' ρ w8 ⟨xM,yf,ja,jT,out,Xn,y7,k,rfl,rfl,i0,i1,rfl,N,H⟩
 have hn_out:=H.xK (α:=qF) 0 rfl 0 rfl qj
 have nl:=nextTo_len (s:=s) (t:=t) (cs:=cs) k
 refine zcr (sq 1 (zjn (xQ (cD rfl (fun h9=>?_) (fun h9=>?_)))))
 ·skip
  refine qW (t_n (xQ (qY (zcr ?_))))
  obtain ⟨b10,o11,rfl⟩:=H.addr 6 rfl qf
  obtain ⟨ae13,ce13,Fe13,H⟩:=H.vX 6 rfl k k qf qf qf
  refine oI rfl rfl (oL rfl (H.x8 1 rfl 0 rfl) (sq 1 (zjc (sw (xI (yS s qJ qI qV qQ) isAgg27 sizeOf27 rfl (qC (H.cells 2 rfl) 0 3) (sw (xI (yT t xg xf xF xA qU qR) isAgg31 sizeOf31 rfl (qC (H.cells 1 rfl) 0 3) (sq 1 ?_))))))))
  have k3:=p3 k qf
  have k5:=p4 k qf
  have sz17:=H.base.size
  have lt18:=H.ltN (L:=[y7]) [2]
  refine sw (oc (step_ok _ s t (cs[k]!) (H.get 3 rfl).1 (H.get 4 rfl).1 (H.get 5 rfl).1 (H.get 6 rfl).1 (H.get 7 rfl).1 (H.get 0 rfl).1 qg qg qg qg) ?_)
  rintro _ w15 ⟨ra14aAlive,rn14aAlive,rc14aAlive,ra14aBags,rn14aBags,rc14aBags,rx14aBags,rF14aBags,ra14aAround,rn14aAround,rc14aAround,rfl,M,K⟩ _
  replace N:=N.merge sz17 lt18 M
  replace H:=H.merge K M
  obtain rfl:=H.XC 0 rfl
  obtain rfl:=H.xK (α:=yLI) 1 rfl 0 rfl qj
  obtain rfl:=H.jm 2 rfl
  refine sq 3 (sw (xx H ti31 [yN,yN,yN] fun b22 w23 H=>?_))
  refine sw (xG H 0 [.slice ra14aAlive ((((zF s t (cs[k]!)).1).qG).length) rc14aAlive,.slice ra14aBags ((((zF s t (cs[k]!)).1).qN).length) rc14aBags,.slice ra14aAround ((((zF s t (cs[k]!)).1).qH).length) rc14aAround] sizeOf31 fun w24 H=>sq 1 (zjcc (sq 1 (sp (.bool (((zF s t (cs[k]!)).2:Int) != 0)) (zjn (xE (((zF s t (cs[k]!)).2:Int) != 0) rfl (fun h25=>?_) (fun h25=>?_)))))))
  ·skip
   replace h25:=bne_iff_ne.1 h25
   refine zcr (sq 3 (zjr (t_r (zr5 ?_))))
   replace H:=H.nilRow 31 3
   replace H:=H.zW (α:=qF)
   refine ret2 yN (yI ((zF s t (cs[k]!)).2)) rfl rfl rfl ⟨_,rfl,?_,H.base⟩
   rw [next_bad i1 qf ‹_›]
   exact ⟨none,0,0,[],[],rfl,(N.emp.pick [0]),H.pick [0] [0]⟩
  replace h25:=xm h25
  refine qW (t_n (zcr (sq 1 (sp (.func (.func 160) #[] #[pp b22 0]) (sw (zQ #[.slice yf ja jT,.func (.func 160) #[] #[pp b22 0]] rfl rfl call159 (en func159 ntmps159 ?_)))))))
  refine zcr (sp (.bool false) (zjc (sq 1 (sp (.func (.func 160) #[] #[pp b22 0]) (sw (zQ #[.slice yf ja jT,.func (.func 160) #[] #[pp b22 0]] rfl rfl call115 (en func115 ntmps115 ?_)))))))
  refine zcr (sp (yI 0) (zjcc (sq 1 (oN rfl (sp (yI 0) (zjn (qY ?_)))))))
  refine zq ((fun Z0 Z1 Z2 Z3 Z4 Z5 Z6 Z7 Z8 Z9 Z10 Z11 Z12 Z13 Z14 Z15 Z16=>fun m' ρ w26=>∃ (xM:Env) (i:Nat),ρ=upd (upd (upd (upd xM 0 (.slice yf ja jT)) 1 (.func (.func 160) #[] #[pp b22 0])) 7 (yI ja)) 8 (yI i)∧((i:Int)≤ja)∧(NotIn (jU s t cs k) (zF s t (cs[k]!)).1 i)∧m' =(ja - (i:Int)).toNat∧Fresh w.heap.size [rF14aBags,y7]∧St w w26 [Z0,Z1,Z2,Z3,Z4,Z5,Z6] [Z7,Z8,Z9,Z10,Z11,Z12,Z13,Z14,Z15,Z16]) _ _ _ _ _ _ _ _ _ _ _ _ _ _ _ _ _) ((ja - (0:Int)).toNat) ⟨_,0,uE4,qf,qx,rfl,N,H⟩ ?_
  clear H N
  rintro m' ρ w27 ⟨xM,i,rfl,i0,i2,rfl,N,H⟩
  refine zcr (sq 1 (zjn (xQ (cD rfl (fun h28=>?_) (fun h28=>?_)))))
  ·skip
   refine qW (t_n (xQ (qY (zcr (sp (yI i) (sp (yI i) (zjc (sp (.func (.func 160) #[] #[pp b22 0]) (sq 1 (sp (yI i) ?_))))))))))
   obtain ⟨b29,rfl⟩:=H.jW 4 rfl qf
   obtain ⟨ae30Alive,ce30Alive,Fe30Alive,ae30Bags,ce30Bags,Fe30Bags,ae30Around,ce30Around,Fe30Around,hx31,H⟩:=H.rowel_StateD 4 rfl 3 rfl (iv:=i) i qf qf
   refine oI rfl rfl (sw (xI [.slice ae30Alive ((((jU s t cs k)[i]!).qG).length) ce30Alive,.slice ae30Bags ((((jU s t cs k)[i]!).qN).length) ce30Bags,.slice ae30Around ((((jU s t cs k)[i]!).qH).length) ce30Around] isAgg31 sizeOf31 rfl (qC (fun j v hj=>H.rowGet 4 rfl (hx31 j v hj)) 0 3) (sw (zQ #[.agg #[.slice ae30Alive ((((jU s t cs k)[i]!).qG).length) ce30Alive,.slice ae30Bags ((((jU s t cs k)[i]!).qN).length) ce30Bags,.slice ae30Around ((((jU s t cs k)[i]!).qH).length) ce30Around],pp b22 0] rfl rfl call160 (en func160 ntmps160 ?_)))))
   refine zcr (sw (zS H [.slice ae30Alive ((((jU s t cs k)[i]!).qG).length) ce30Alive,.slice ae30Bags ((((jU s t cs k)[i]!).qN).length) ce30Bags,.slice ae30Around ((((jU s t cs k)[i]!).qH).length) ce30Around] fun b32 w33 H=>sp (.bool false) (zjc (sw (xI [.slice ae30Alive ((((jU s t cs k)[i]!).qG).length) ce30Alive,.slice ae30Bags ((((jU s t cs k)[i]!).qN).length) ce30Bags,.slice ae30Around ((((jU s t cs k)[i]!).qH).length) ce30Around] isAgg31 sizeOf31 rfl (qC (H.cells 0 rfl) 0 3) ?_)))))
   refine sw (xI [.slice ra14aAlive ((((zF s t (cs[k]!)).1).qG).length) rc14aAlive,.slice ra14aBags ((((zF s t (cs[k]!)).1).qN).length) rc14aBags,.slice ra14aAround ((((zF s t (cs[k]!)).1).qH).length) rc14aAround] isAgg31 sizeOf31 rfl (qC (H.cells 1 rfl) 0 3) ?_)
   obtain ⟨G34,hn35,h36⟩:=H.Vp 2 rfl
   obtain ⟨G37,hn38,h39⟩:=H.yQ (α:=yLI) 3 rfl 3 rfl qj
   obtain ⟨G40,hn41,h42⟩:=H.Qi 4 rfl
   refine sw (oq (sameState_ok _ ((jU s t cs k)[i]!) ((zF s t (cs[k]!)).1) (H.get 0 rfl).1 (H.get 1 rfl).1 (H.get 2 rfl).1 h36 h39 h42) H fun w44 H=>sq 1 (zjr (ret1 (.bool (decide (((jU s t cs k)[i]!)=((zF s t (cs[k]!)).1)))) rfl rfl ⟨_,rfl,?_⟩)))
   replace H:=H.erases [0]
   dsimp only [vV,List.eraseIdx] at H
   refine zjn (cD rfl (fun h46=>?_) (fun h46=>?_))
   ·skip
    refine zcr (sp (yI i) (sp (yI i) (zjr (zr5 (ret1 (yI i) rfl rfl ⟨_,rfl,(sw (o_pure (.bool true) (by show some (Value.bool (decide ((i:Int)≥0)))=some (Value.bool true);rw [decide_eq_true qf]) (sp (.bool true) (zjr (ret1 (.bool true) rfl rfl ⟨_,rfl,(sp (.bool false) (zjn (xE false rfl (fun h=>absurd h qj) (fun _=>qW (b_n (t_n (xU (sw (zA k 1 rfl rfl qf (sq 1 (xY ?_)))))))))))⟩)))))⟩)))))
    refine xe (m' :=(cs.length - ((k+1):Int)).toNat) qf ⟨_,_,_,_,_,_,_,k+1,uE6,?_,?_,?_,rfl,(N.pick [1]),H.pick [4,5,6] [6,7,8,9,10,11,12]⟩
    · first | exact nextTo_new (NotIn.out (fun j hj=>i2 j qf)) | exact nextTo_in (mem_at (k:=i) qf ql)
    · omega
    · exact i1.succ ‹_›
   refine qW (b_n (t_n (xU (sw (zA i 1 rfl rfl qf (sq 1 (xY (xe (m' :=(ja - ((i+1):Int)).toNat) qf ⟨_,i+1,uE4,?_,?_,rfl,N,H.pick [0,1,2,3,4,5,6] [3,4,5,6,7,8,9,10,11,12]⟩))))))))
   · omega
   · exact i2.succ ‹_›
  refine zx4 (zcr (sq 1 (zjr (ret1 (yI (-1)) rfl rfl ⟨_,rfl,(sp (.bool false) (sp (.bool false) (zjr (ret1 (.bool false) rfl rfl ⟨_,rfl,(sp (.bool true) (zjn (xE true rfl (fun _=>xU (sq 1 (sw (xI [.slice ra14aAlive ((((zF s t (cs[k]!)).1).qG).length) rc14aAlive,.slice ra14aBags ((((zF s t (cs[k]!)).1).qN).length) rc14aBags,.slice ra14aAround ((((zF s t (cs[k]!)).1).qH).length) rc14aAround] isAgg31 sizeOf31 rfl (qC (H.cells 0 rfl) 0 3) ?_)))) (fun h=>absurd h qj))))⟩))))⟩))))
  refine sw (zf H underlying38 ti31 [.slice ra14aAlive ((((zF s t (cs[k]!)).1).qG).length) rc14aAlive,.slice ra14aBags ((((zF s t (cs[k]!)).1).qN).length) rc14aBags,.slice ra14aAround ((((zF s t (cs[k]!)).1).qH).length) rc14aAround] fun b47 w48 H=>?_)
  obtain ⟨G52,N,hn53,H⟩:=H.freezeB 2 rfl N (H.vS [0,3])
  have H0:=H
  obtain ⟨G54,hg56,hn55,H⟩:=H.yj (α:=yLI) 3 rfl 1 rfl qj
  replace N:Fresh w.heap.size [G54,G52,y7]:=Fresh.ice (N.pick [1,0,2]) H0 3 hg56.1 hg56.2 (H0.vS [0,4])
  clear H0
  obtain ⟨G57,N,hn58,H⟩:=H.zG 4 rfl N (H.vS [0,1,5])
  refine sw (zk H 5 rfl 0 rfl underlying38 ti31 rfl qj rfl rfl rfl qw qp qf fun a49 c50 w51 H=>?_)
  replace H:=H.Q3 6 rfl 2 rfl 1 rfl 0 rfl
  replace N:Fresh w.heap.size [(y7++(G52++G54++G57))]:=(N.pick [2,1,0,3]).join.join.swap.join
  refine sq 1 (xY (b_n (t_n (xU (sw (zA k 1 rfl rfl qf (sq 1 (xY (xe (m' :=(cs.length - ((k+1):Int)).toNat) qf ⟨_,_,_,_,_,_,_,k+1,uE6,?_,?_,?_,rfl,N,H.pick [5,6,7] [0,8,9,10,11,12,13]⟩)))))))))
  · first | exact nextTo_new (NotIn.out (fun j hj=>i2 j qf)) | exact nextTo_in (mem_at (k:=i) qf ql)
  · omega
  · exact i1.succ ‹_›
 refine zx4 (zcr (sq 2 (sp (yI 0) (zjr (ret2 (.slice yf ja jT) (yI 0) rfl rfl rfl ⟨_,rfl,?_,H.base⟩)))))
 rw [next_ok (fun j hj=>i1 j qf),show cs.length=k by omega]
 exact ⟨yf,ja,jT,Xn,y7,rfl,N,H.pick [0] [0]⟩
end
section
open Go.RowKit
section
variable {α : Type}
def pickL (l:List α) (n:Nat) (is:yLN):List α:=(is.filterMap fun i=>l[i]?)++l.drop n
def pickI (len n:Nat) (is:yLN):yLN:=is++(List.range (len - n)).map (·+n)
theorem pickI_map (l:List α) (n:Nat) (is:yLN) (h:is.all (fun i=>Nat.blt i n)=true) (hn:n≤l.length):(pickI l.length n is).map (fun i=>l[i]?)=(pickL l n is).map some:=by
  unfold pickI pickL
  rw [List.map_append,List.map_append]
  congr 1
  · refine pick_some l is ?_
    rw [List.all_eq_true] at h ⊢
    intro i hi
    have:=h i hi
    simp only [Nat.blt_eq] at this ⊢
    omega
  · apply List.ext_getElem?
    intro i
    rcases Nat.lt_or_ge i (l.length - n) with h1 | h1
    · simp [h1,Nat.add_comm]
    · simp [h1]
theorem pickI_nodup (len n:Nat) (is:yLN) (h:is.all (fun i=>Nat.blt i n)=true) (hd:is.Nodup):(pickI len n is).Nodup:=by
  unfold pickI
  refine List.nodup_append.2 ⟨hd,?_,?_⟩
  · exact List.Pairwise.map _ (fun a b (hab:a≠b)=>by omega) List.nodup_range
  · intro a ha b hb
    rw [List.all_eq_true] at h
    have:=h a ha
    simp only [Nat.blt_eq] at this
    obtain ⟨c,_,rfl⟩:=List.mem_map.1 hb
    omega
end

section
variable {W0 w : World} {ps : List Prv} {Γ : List Fact}
theorem St.zV (H:St W0 w ps Γ) (n m:Nat) (is js:yLN) (hn:n≤ps.length) (hm:m≤Γ.length) (hi:is.all (fun i=>Nat.blt i n)=true:=by exact rfl) (hj:js.all (fun i=>Nat.blt i m)=true:=by exact rfl) (hd:is.Nodup:=by decide):
    St W0 w (pickL ps n is) (pickL Γ m js):=
  H.pick (pickI ps.length n is) (pickI Γ.length m js) (pickI_map ps n is hi hn) (pickI_map Γ m js hj hm) (pickI_nodup _ _ _ hi hd)
theorem St.yg {ps' :List Prv} {Γ' :List Fact} (H:St W0 w ps Γ) (n m:Nat) (is js:yLN) (hn:n≤ps.length) (hm:m≤Γ.length)
    (hp:pickL ps n is=ps' :=by simp only [pickL,List.filterMap_cons,List.filterMap_nil,List.getElem?_cons_zero,List.getElem?_cons_succ,List.drop_succ_cons,List.drop_zero,List.cons_append,List.nil_append];exact rfl)
    (hg:pickL Γ m js=Γ' :=by simp only [pickL,List.filterMap_cons,List.filterMap_nil,List.getElem?_cons_zero,List.getElem?_cons_succ,List.drop_succ_cons,List.drop_zero,List.cons_append,List.nil_append];exact rfl)
    (hi:is.all (fun i=>Nat.blt i n)=true:=by exact rfl) (hj:js.all (fun i=>Nat.blt i m)=true:=by exact rfl) (hd:is.Nodup:=by decide):St W0 w ps' Γ' :=hp▸hg▸H.zV n m is js hn hm hi hj hd
theorem Fresh.zV {B:Nat} {L:List yLN} (N:Fresh B L) (n:Nat) (is:yLN) (hn:n≤L.length) (hi:is.all (fun i=>Nat.blt i n)=true:=by exact rfl) (hd:is.Nodup:=by decide):Fresh B (pickL L n is):=
  N.pick (pickI L.length n is) (pickI_map L n is hi hn) (pickI_nodup _ _ _ hi hd)
def Kept (Ns:List yLN) (Γ:List Fact):Prop:=∀ F∈Ns,∃ f∈Γ,f.F=F
theorem Kept.up {Ns:List yLN} {Γ:List Fact} (h:Kept Ns Γ) (f:Fact):Kept Ns (f :: Γ):=fun F hF=>by
  obtain ⟨g,h1,h2⟩:=h F hF
  exact ⟨g,List.mem_cons_of_mem _ h1,h2⟩
theorem Kept.behind {Ns:List yLN} {Γ Γ' :List Fact} (h:Kept Ns Γ) (m:Nat) (e:Γ'.drop m=Γ):Kept Ns Γ' :=fun F hF=>by
  obtain ⟨g,h1,h2⟩:=h F hF
  exact ⟨g,List.mem_of_mem_drop (e▸h1),h2⟩
theorem Kept.nil (Γ:List Fact):Kept [] Γ:=fun F hF=>by cases hF
theorem Kept.cons {Ns:List yLN} {Γ:List Fact} (h:Kept Ns Γ) (i:Nat) {f:Fact} {F:yLN} (hf:Γ[i]? =some f) (e:f.F=F):Kept (F :: Ns) Γ:=fun G hG=>by
  rcases List.mem_cons.1 hG with rfl | hG
  · exact ⟨f,List.mem_of_getElem? hf,e⟩
  · exact h G hG
theorem St.ltK (H:St W0 w ps Γ) {Ns:List yLN} (h:Kept Ns Γ):∀ F∈Ns,∀ b∈F,b < w.heap.size:=fun F hF b hb=>by
  obtain ⟨f,h1,h2⟩:=h F hF
  exact ((H.facts f h1).2 b (h2▸hb)).1
theorem St.QW (H:St W0 w ps Γ) {Ns:List yLN} (h:Kept Ns Γ):∀ F∈Ns,∀ b∈F,∀ i,jJ ps i≠some b:=fun F hF b hb=>by
  obtain ⟨f,h1,h2⟩:=h F hF
  exact ((H.facts f h1).2 b (h2▸hb)).2
theorem all_two {L M:List yLN} {p:Nat→Prop} (h1:∀ F∈L,∀ b∈F,p b) (h2:∀ F∈M,∀ b∈F,p b):∀ F∈L++M,∀ b∈F,p b:=fun F hF b hb=>
  (List.mem_append.1 hF).elim (fun h=>h1 F h b hb) fun h=>h2 F h b hb
end

theorem XL [Dfr] {P:Program} {Q:Exit→Act→World→Prop} {n:Nat} {ρ:Env} {W0 w:World} {ps:List Prv} {Γ:List Fact} {l:List Oper} {id:Nat} (hm:P.follows .mixedOrders=true) (H:St W0 w ps Γ) (is js:yLN)
    (k:St W0 w.drew ps Γ→RW P l Q (fun w=>St W0 w (is.filterMap fun i=>ps[i]?) (js.filterMap fun i=>Γ[i]?)) n l.toArray.size (Array.replicate l.toArray.size false) ρ w.drew)
    (hi:is.all (fun i=>Nat.blt i ps.length)=true:=by simp) (hj:js.all (fun i=>Nat.blt i Γ.length)=true:=by simp) (hd:is.Nodup:=by decide):(Code.region id l.toArray true).wp P Q (mk n ρ) w:=by
  have H' :=H.ext (ext_drew _)
  exact c_draw (fun w=>St W0 w (is.filterMap fun i=>ps[i]?) (js.filterMap fun i=>Γ[i]?)) hm (H'.pick is js (pick_some ps is hi) (pick_some Γ js hj) hd) (k H')

theorem zJ [Dfr] {P:Program} {Q:Exit→Act→World→Prop} {n:Nat} {ρ:Env} {w:World} {d:Nat} {ty:TypeId} {pos:String} {af:Array Edge} {K:Env→World→Prop} {x:Operand} {xs:Array Operand} {ts:Array TypeId} {f:FuncId} {fst caps:Array Value} {R:Value→World→Prop} (args:Array Value) (hv:ev n ρ x=.func (.func f) fst caps)
    (hargs:fst.toList++xs.toList.map (ev n ρ)++caps.toList=args.toList) (hf:∀ args w,(callFunc f args).run P w=.ok (.enter f args) w)
    (hc:Calls P f args w fun e w' =>∃ v,e=.returned v∧R v w') (k:∀ v w',R v w' →K (upd ρ d v) w'):OW P Q ⟨some d,.call ⟨.value x,xs,ts⟩,ty,pos,af,none⟩ n ρ w K:=
  zQ args hv hargs hf (hc.mono fun _ w' ⟨v,he,hR⟩=>⟨v,he,k v w' hR⟩)
structure OwnI (e:TypeId) where
  l:yLI
instance (e:TypeId):Inhabited (OwnI e):=⟨⟨[]⟩⟩
def OwnAt (e:TypeId) (w:World) (F:yLN) (v:Value) (l:yLI):Prop:=
  (v=.slice none 0 0∧l=[]∧F=[])∨∃ g cap cur,v=.slice (some ⟨g,0,none⟩) l.length cap∧F=[g]∧w.heap[g]? =some (.cells cur e (0,0))∧l.length≤cap∧cap≤maxLen∧cur.size=cap∧cur.toList.take l.length=l.map (Value.int .i64)
theorem OwnAt.slice {e:TypeId} {w:World} {F:yLN} {v:Value} {l:yLI} (h:OwnAt e w F v l):∃ a c,v=.slice a l.length c:=by
  rcases h with ⟨rfl,rfl,_⟩ | ⟨g,cap,cur,rfl,_⟩
  · exact ⟨none,0,rfl⟩
  · exact ⟨_,_,rfl⟩
instance (e:TypeId):qO (OwnI e) where
  size:=1
  rep:=fun w F cs x=>∃ v,cs=[v]∧OwnAt e w F v x.l
  len:=by rintro w F cs x ⟨v,rfl,_⟩;rfl
  one:=by
    rintro w F cs x ⟨v,rfl,h⟩ u hu
    simp only [List.mem_singleton] at hu
    subst hu
    obtain ⟨a,c,rfl⟩:=h.slice
    rfl
  lt:=by
    rintro w F cs x ⟨v,rfl,h⟩ b hb
    rcases h with ⟨_,_,rfl⟩ | ⟨g,cap,cur,_,rfl,hg,_⟩
    · simp at hb
    · obtain rfl:=List.mem_singleton.1 hb
      exact (Array.getElem?_eq_some_iff.1 hg).1
  stay:=by
    rintro w w' F cs x ⟨v,rfl,h⟩ hs
    refine ⟨v,rfl,?_⟩
    rcases h with h | ⟨g,cap,cur,h1,rfl,hg,h2⟩
    · exact Or.inl h
    · exact Or.inr ⟨g,cap,cur,h1,rfl,(hs g qm).trans hg,h2⟩

theorem OwnAt.rep {e:TypeId} {w:World} {F:yLN} {v:Value} {l:yLI} (h:OwnAt e w F v l):qO.rep w F [v] l:=by
  rcases h with ⟨rfl,rfl,rfl⟩ | ⟨g,cap,cur,rfl,rfl,hg,h1,h2,h3,h4⟩
  · exact ⟨none,0,rfl,by simp,Or.inl ⟨rfl,rfl⟩⟩
  · refine ⟨_,cap,rfl,by unfold maxLen at h2;omega,Or.inr ⟨g,0,[],_,rfl,rfl,(Array.getElem?_eq_some_iff.1 hg).1,reps_of_ints w l,?_⟩⟩
    intro i u hi
    rw [Nat.zero_add,World.cell?,hg]
    rw [← h4,List.getElem?_take] at hi
    split at hi
    · simpa using hi
    · cases hi
theorem reps_ofOwn {e:TypeId} {w:World}:∀ {F:yLN} {xs:List Value} {l:List (OwnI e)},reps w F xs l→reps w F xs (l.map OwnI.l)
  | _,_,[],h=>h
  | _,_,x :: l,⟨F1,F2,c1,c2,hF,hv,⟨v,hc,h1⟩,h2⟩=>⟨F1,F2,c1,c2,hF,hv,hc▸h1.rep,reps_ofOwn h2⟩

section
variable {W0 w : World} {ps : List Prv} {Γ : List Fact}
theorem St.ofOwn {e:TypeId} (H:St W0 w ps Γ) (j:Nat) {fr:Bool} {F:yLN} {xs:List Value} {l:List (OwnI e)} (hf:Γ[j]? =some (xB fr F xs l)):St W0 w ps (xB fr F xs (l.map OwnI.l) :: Γ):=
  H.vZ j hf _ ⟨reps_ofOwn (H.get j hf).1,(H.get j hf).2⟩ fun _ h=>h
theorem St.rowCountO {e e2:TypeId} (H:St W0 w ps Γ) (k:Nat) {v:Value} {nn:Nat} {xs:List Value} (hp:ps[k]? =some (.row v e2 1 nn xs)) (j:Nat) {fr:Bool} {F:yLN} {l:List (OwnI e)} (hf:Γ[j]? =some (xB fr F xs l)):nn=l.length:=
  H.xK (α:=OwnI e) k hp j hf (show 0 < qO.size (OwnI e) from Nat.one_pos)

theorem St.openI {e e2:TypeId} (H:St W0 w ps Γ) (k:Nat) {b c' :Nat} {nn:Nat} {xs:List Value} (hp:ps[k]? =some (.row (.slice (some ⟨b,0,none⟩) nn c') e2 1 nn xs)) (j:Nat) {F:yLN} {l:List (OwnI e)} (hf:Γ[j]? =some (xB true F xs l))
    {L:List yLN} (N:Fresh W0.heap.size (F :: L)) {iv:Int} (c:Nat) (hi:iv.toNat=c) (hc:c < nn) (Γ' :List Fact) (hΓ:∀ f∈Γ',f∈Γ∧∀ x∈f.F,x∉F):
    ∃ a m F',w.cell? ⟨b,0+iv.toNat * 1,none⟩=some (.slice a (l[c]!).l.length m)∧Fresh W0.heap.size (F' :: L)∧
      St W0 w (.row (.slice a (l[c]!).l.length m) e 1 (l[c]!).l.length ((l[c]!).l.map (Value.int .i64)) :: ps) (xB true F' (xs.set c (.slice none 0 0)) (l.set c ⟨[]⟩) :: Γ'):=by
  subst hi
  have hn:nn=l.length:=H.rowCountO k hp j hf
  have hlen:=H.rowLen k hp
  have hF:=(H.facts _ (List.mem_of_getElem? hf)).2
  obtain ⟨F1,Fk,F2,v1,cs,v2,hFe,hxe,hl1,hl2,⟨u,rfl,hu⟩,hr1,hr2⟩:=reps_get (H.get j hf).1 iv.toNat qf
  have hl1' :v1.length=iv.toNat:=by rw [hl1];exact Nat.mul_one _
  obtain ⟨a,m,rfl⟩:=hu.slice
  have el:l[iv.toNat]! =l[iv.toNat]:=getElem!_pos l _ qf
  have hxc:xs[iv.toNat]? =some (.slice a (l[iv.toNat]).l.length m):=by
    refine (congrArg (fun z:List Value=>z[iv.toNat]?) hxe).trans ?_
    show (v1++[_]++v2)[iv.toNat]? =_
    rw [List.append_assoc,List.getElem?_append_right qf]
    simp [hl1']
  have hset:xs.set iv.toNat (.slice none 0 0)=v1++[.slice none 0 0]++v2:=by
    rw [hxe,List.append_assoc,List.set_append_right _ _ qf]
    simp [hl1']
  have hlset:l.set iv.toNat (⟨[]⟩:OwnI e)=l.take iv.toNat++((⟨[]⟩:OwnI e) :: l.drop (iv.toNat+1)):=by
    rw [List.set_eq_take_append_cons_drop,if_pos qf]
  have hreps:reps w (F1++F2) (xs.set iv.toNat (.slice none 0 0)) (l.set iv.toNat ⟨[]⟩):=by
    rw [hset,hlset,List.append_assoc]
    exact yY hr1 ⟨[],F2,[.slice none 0 0],v2,rfl,rfl,⟨_,rfl,Or.inl ⟨rfl,rfl,rfl⟩⟩,hr2⟩
  have hndF:F.Nodup:=N.nd F qm
  have hsub:∀ x∈F1++F2,x∈F:=by
    intro x hx
    rw [hFe]
    simp only [List.mem_append] at hx ⊢
    rcases hx with h | h
    · exact Or.inl (Or.inl h)
    · exact Or.inr h
  have hkF:∀ x∈Fk,x∈F:=fun x hx=>by rw [hFe];simp [hx]
  have hdis:∀ x∈Fk,x∉F1++F2:=by
    intro x hx hx'
    rw [hFe] at hndF
    have h1:=List.nodup_append.1 hndF
    have h2:=List.nodup_append.1 h1.1
    rcases List.mem_append.1 hx' with h | h
    · exact h2.2.2 x h x hx rfl
    · exact h1.2.2 x (List.mem_append_right _ hx) x h rfl
  refine ⟨a,m,F1++F2,?_,N.less hsub (fun _=>?_),?_⟩
  · rw [el]
    have:=H.rowGet k hp hxc
    rw [Nat.zero_add,Nat.mul_one]
    exact this
  · rw [hFe] at hndF
    have h1:=List.nodup_append.1 hndF
    have h2:=List.nodup_append.1 h1.1
    exact List.nodup_append.2 ⟨h2.1,h1.2.1,fun x hx y hy=>h1.2.2 x (List.mem_append_left _ hx) y hy⟩
  · rw [el]
    have hbk:∀ x,(Value.slice a (l[iv.toNat]).l.length m).ownBlock=some x→Fk=[x]:=by
      intro x hx
      rcases hu with ⟨h,_,_⟩ | ⟨g,cap,cur,h,hg,_⟩
      · injection h with h1;subst h1;simp [Value.ownBlock] at hx
      · injection h with h1;subst h1
        simp only [Value.ownBlock,Option.some.injEq] at hx
        rw [hg,hx]
    have hzero:jJ (.row (.slice a (l[iv.toNat]).l.length m) e 1 (l[iv.toNat]).l.length ((l[iv.toNat]).l.map (Value.int .i64)) :: ps) 0=(Value.slice a (l[iv.toNat]).l.length m).ownBlock:=rfl
    refine ⟨H.base,fun p hp' =>?_,fun i i' x h1 h2=>?_,fun f hf' =>?_⟩
    · rcases List.mem_cons.1 hp' with rfl | h
      · refine ⟨by simp,?_⟩
        rcases hu with ⟨h,hl,_⟩ | ⟨g,cap,cur,h,hg,hh,h1,h2,h3,h4⟩
        · exact Or.inl ⟨h,by rw [hl];rfl⟩
        · exact Or.inr ⟨g,cap,cur,h,N.ge F qm g (hkF g (by simp [hg])),hh,h1,h2,by omega,by rw [Nat.mul_one];exact h4⟩
      · exact H.has p h
    · cases i with
      | zero=>
        cases i' with
        | zero=>rfl
        | succ i' =>
          rw [hzero] at h1
          have:=hbk x h1
          exact absurd h2 ((hF x (hkF x (by simp [this]))).2 i')
      | succ i=>
        cases i' with
        | zero=>
          rw [hzero] at h2
          have:=hbk x h2
          exact absurd h1 ((hF x (hkF x (by simp [this]))).2 i)
        | succ i' =>rw [H.dist i i' x h1 h2]
    · have key:∀ x,x < w.heap.size→(∀ i,jJ ps i≠some x)→x∉Fk→∀ i,jJ (.row (.slice a (l[iv.toNat]).l.length m) e 1 (l[iv.toNat]).l.length ((l[iv.toNat]).l.map (Value.int .i64)) :: ps) i≠some x:=by
        intro x _ h2 h3 i
        cases i with
        | zero=>intro h;rw [hzero] at h;exact h3 (by simp [hbk x h])
        | succ i=>exact h2 i
      rcases List.mem_cons.1 hf' with rfl | h
      · refine ⟨⟨hreps,fun _ x hx=>(H.get j hf).2 rfl x (hsub x hx)⟩,fun x hx=>⟨(hF x (hsub x hx)).1,key x (hF x (hsub x hx)).1 (hF x (hsub x hx)).2 fun h=>hdis x h hx⟩⟩
      · obtain ⟨h1,h2⟩:=hΓ f h
        have h3:=H.facts f h1
        exact ⟨h3.1,fun x hx=>⟨(h3.2 x hx).1,key x (h3.2 x hx).1 (h3.2 x hx).2 fun h=>h2 x hx (hkF x h)⟩⟩
end

section
variable {P : Program} {Q : Exit → Act → World → Prop} {n : Nat} {ρ : Env} {W0 w : World} {ps : List Prv} {Γ : List Fact}
  {d:Nat} {ty:TypeId} {pos:String} {af:Array Edge} {K:Env→World→Prop}
theorem o_closeI [Dfr] {t e e2:TypeId} {x y:Operand} {b c' :Nat} {nn:Nat} {xs:List Value} (H:St W0 w ps Γ) (k:Nat) (hp:ps[k]? =some (.row (.slice (some ⟨b,0,none⟩) nn c') e2 1 nn xs)) (i:Nat) (hik:i≠k) {v:Value} {m:Nat} {z:yLI}
    (hq:ps[i]? =some (.row v e 1 m (z.map (Value.int .i64)))) (j:Nat) {F:yLN} {l:List (OwnI e)} {c:Nat} (hf:Γ[j]? =some (xB true F (xs.set c (.slice none 0 0)) l)) {L:List yLN} (N:Fresh W0.heap.size (F :: L))
    (ha:∀ K∈L,∀ b∈K,∀ i,jJ ps i≠some b)
    {iv:Int} (hs:∀ w,(Go.sizeOf t).run P w=.ok 1 w) (hx:ev n ρ x=.pointer (some ⟨b,0+iv.toNat * 1,none⟩)) (hy:ev n ρ y=v) (hi:iv.toNat=c) (h2:c < nn)
    (kk:∀ w' F',Fresh W0.heap.size (F' :: L)→St W0 w' ((ps.set i (.row (.slice none 0 0) 0 1 0 [])).set k (.row (.slice (some ⟨b,0,none⟩) nn c') e2 1 nn (xs.set c v))) (xB true F' (xs.set c v) (l.set c ⟨z⟩) :: Γ)→K ρ w'):
    OW P Q ⟨none,.store t x y,ty,pos,af,none⟩ n ρ w K:=by
  subst hi
  have hxl:=H.rowLen k hp
  have hll:(xs.set iv.toNat (.slice none 0 0)).length=l.length * 1:=X7 (H.get j hf).1
  rw [List.length_set] at hll
  have hF:=(H.facts _ (List.mem_of_getElem? hf)).2
  have ho:=(H.has _ (List.mem_of_getElem? hq):w.ownsRow W0.heap.size e 1 v m (z.map (Value.int .i64)))
  have hm:m=z.length:=by have:=ho.1;simp at this;omega
  subst hm
  obtain ⟨G,hG,hGb,hGf⟩:∃ G,OwnAt e w G v z∧(∀ x∈G,jJ ps i=some x)∧jD w G:=by
    rcases ho.2 with ⟨rfl,h0⟩ | ⟨g,cap,cur,rfl,hb,hg,hnc,hcm,hcs,htake⟩
    · exact ⟨[],Or.inl ⟨rfl,List.eq_nil_of_length_eq_zero h0,rfl⟩,by simp,jD.nil _⟩
    · refine ⟨[g],Or.inr ⟨g,cap,cur,rfl,rfl,hg,hnc,hcm,by omega,by rw [Nat.mul_one] at htake;exact htake⟩,fun x hx=>?_,fun x hx=>?_⟩
      · obtain rfl:=List.mem_singleton.1 hx
        simp [jJ,hq,Prv.blk,Value.ownBlock]
      · obtain rfl:=List.mem_singleton.1 hx
        exact ⟨_,_,hg⟩
  have hgn:G.Nodup:=by
    rcases hG with ⟨_,_,rfl⟩ | ⟨g,cap,cur,_,rfl,_⟩ <;> simp
  have hset:∀ (b' i' :Nat),jJ (ps.set i (.row (.slice none 0 0) 0 1 0 [])) i' =some b' →i' ≠i∧jJ ps i' =some b' :=by
    intro b' i' h
    unfold jJ at h ⊢
    by_cases hi:i' =i
    · subst hi
      rw [set_at hq] at h
      simp [Prv.blk,Value.ownBlock] at h
    · rw [List.getElem?_set_ne (Ne.symm hi)] at h
      exact ⟨hi,h⟩
  obtain ⟨F',hr,hs1,hs2⟩:=reps_set (H.get j hf).1 (show qO.rep w G [v] (⟨z⟩:OwnI e) from ⟨v,rfl,hG⟩) iv.toNat qf
  have e1:(xs.set iv.toNat (.slice none 0 0)).take (iv.toNat * qO.size (OwnI e))++[v]++(xs.set iv.toNat (.slice none 0 0)).drop (iv.toNat * qO.size (OwnI e)+[v].length)=xs.set iv.toNat v:=by
    show (xs.set iv.toNat (.slice none 0 0)).take (iv.toNat * 1)++[v]++(xs.set iv.toNat (.slice none 0 0)).drop (iv.toNat * 1+1)=xs.set iv.toNat v
    rw [Nat.mul_one,List.take_set_of_le (Nat.le_refl _),List.drop_set_of_lt qf,List.set_eq_take_append_cons_drop,if_pos qf]
    simp
  rw [e1] at hr
  have hGF:∀ x∈G,x∉F:=fun x hx h=>(hF x h).2 i (hGb x hx)
  have hGL:∀ K∈L,∀ x∈K,x∉G:=fun K hK x hx h=>ha K hK x hx i (hGb x h)
  have N1:Fresh W0.heap.size (F' :: L):=by
    have hge:∀ x∈G,W0.heap.size≤x:=fun x hx=>(blkAt_has H (hGb x hx)).1
    refine ⟨fun K hK=>?_,fun K hK x hx=>?_,?_⟩
    · rcases List.mem_cons.1 hK with rfl | h
      · exact hs2 (N.nd F qm) hgn fun x hx h=>hGF x h hx
      · exact N.nd K (List.mem_cons_of_mem _ h)
    · rcases List.mem_cons.1 hK with rfl | h
      · rcases hs1 x hx with h | h
        · exact N.ge F qm x h
        · exact hge x h
      · exact N.ge K (List.mem_cons_of_mem _ h) x hx
    · have hd:=List.pairwise_cons.1 N.dj
      refine List.pairwise_cons.2 ⟨fun K hK x hx=>?_,hd.2⟩
      rcases hs1 x hx with h | h
      · exact hd.1 K hK x h
      · exact fun hxK=>hGL K hK x hxK h
  have H1:St W0 w (ps.set i (.row (.slice none 0 0) 0 1 0 [])) (xB true F' (xs.set iv.toNat v) (l.set iv.toNat ⟨z⟩) :: Γ):=by
    refine (H.dead i hq).add _ ⟨hr,fun _ x hx=>?_⟩ fun x hx=>?_
    · rcases hs1 x hx with h | h
      · exact (H.get j hf).2 rfl x h
      · exact hGf x h
    · rcases hs1 x hx with h | h
      · exact ⟨(hF x h).1,fun i' hi' =>(hF x h).2 i' (hset x i' hi').2⟩
      · exact ⟨(blkAt_has H (hGb x h)).2,fun i' hi' =>(hset x i' hi').1 (H.dist i' i x (hset x i' hi').2 (hGb x h))⟩
  have hp1:(ps.set i (.row (.slice none 0 0) 0 1 0 []))[k]? =some (.row (.slice (some ⟨b,0,none⟩) nn c') e2 1 nn xs):=by rw [List.getElem?_set_ne hik];exact hp
  obtain ⟨a,cc,hv⟩:=hG.slice
  exact o_storeRow1 H1 k hp1 v hs hx hy (by rw [hv];rfl) h2 fun w' H' =>kk w' F' N1 H'
end
theorem keepA {B:Nat} {Γ Γ' :List Fact} {LA L:List yLN} {F:yLN} (A:∀ G∈LA,∀ b∈G,b < B) (N:Fresh B (F :: L)) (js:yLN) (he:js.map (fun j=>Γ[j]?)=Γ'.map some) (hF:Γ'.map Fact.F=LA):∀ f∈Γ',f∈Γ∧∀ x∈f.F,x∉F:=fun f hf=>by
  constructor
  · have h1:some f∈js.map (fun j=>Γ[j]?):=by rw [he];exact List.mem_map_of_mem hf
    obtain ⟨j,_,h2⟩:=List.mem_map.1 h1
    exact List.mem_of_getElem? h2
  · intro x hx hxF
    have h1:=A f.F (by rw [← hF];exact List.mem_map_of_mem hf) x hx
    have h2:=N.ge F qm x hxF
    omega
end
section
open Go.RowKit
set_option linter.unusedVariables false
set_option linter.unusedSimpArgs false
instance:qO UInt8 where
  size:=1
  rep:=fun _ F cs x=>F=[]∧cs=[.int .u8 (x.toNat:Int)]
  len:=by rintro w F cs x ⟨_,rfl⟩;rfl
  one:=by rintro w F cs x ⟨_,rfl⟩ u hu;simp only [List.mem_singleton] at hu;subst hu;rfl
  stay:=by rintro w w' F cs x h _;exact h
  lt:=by rintro w F cs x ⟨rfl,_⟩ b hb;simp at hb

section
variable {P : Program} {ops : Array Oper} {Q : Exit → Act → World → Prop} {n : Nat} {ρ : Env} {W0 w : World} {rest : List Oper} {ps : List Prv} {Γ : List Fact}
  {d:Nat} {ty:TypeId} {pos:String} {af:Array Edge} {K:Env→World→Prop}
theorem St.elemByte (H:St W0 w ps Γ) (i:Nat) {fr:Bool} {F:yLN} {b o m c:Nat} {l:List UInt8} (hf:Γ[i]? =some (isF fr F (.slice (some ⟨b,o,none⟩) m c) l)) (iv:Int) (k:Nat) (hk:iv.toNat=k) (h0:0≤iv) (h1:iv < l.length):
    w.cell? ⟨b,o+iv.toNat * 1,none⟩=some (.int .u8 (((l[k]!).toNat:Nat):Int)):=by
  obtain ⟨cs,Fk,hc,hr,_⟩:=H.elem i hf iv h0 h1
  rw [hk] at hr
  obtain ⟨_,rfl⟩:=hr
  have:=hc 0 _ rfl
  simpa [qO.size] using this
theorem byte_lt (x:UInt8):((x.toNat:Nat):Int)≤255:=by have:=x.toNat_lt;omega
theorem o_mulU [Dfr] {x y:Operand} {t u:TypeId} (a b:Int) (hx:ev n ρ x=.int .u64 a) (hy:ev n ρ y=.int .u64 b) (k:∀ r,K (upd ρ d (.int .u64 r)) w):OW P Q ⟨some d,.binOp .mul t x y u,ty,pos,af,none⟩ n ρ w K:=
  Xq (.int .u64 (IntKind.u64.wrap (a * b))) (by simp [execOp,hx,hy,eqGuard,binOp,Op.intArith]) (k _)
theorem o_addU [Dfr] {x y:Operand} {t u:TypeId} (a b:Int) (hx:ev n ρ x=.int .u64 a) (hy:ev n ρ y=.int .u64 b) (k:∀ r,K (upd ρ d (.int .u64 r)) w):OW P Q ⟨some d,.binOp .add t x y u,ty,pos,af,none⟩ n ρ w K:=
  Xq (.int .u64 (IntKind.u64.wrap (a+b))) (by simp [execOp,hx,hy,eqGuard,binOp,Op.intArith]) (k _)
theorem o_shrU [Dfr] {x y:Operand} {t u:TypeId} (a b:Int) (h:0≤b) (hx:ev n ρ x=.int .u64 a) (hy:ev n ρ y=.int .u64 b) (k:∀ r,K (upd ρ d (.int .u64 r)) w):OW P Q ⟨some d,.binOp .shr t x y u,ty,pos,af,none⟩ n ρ w K:=
  Xq (.int .u64 (a.fdiv (2 ^ (min b.toNat IntKind.u64.bits)))) (by simp [execOp,hx,hy,eqGuard,binOp,Op.shift,show ¬ b < 0 by omega]) (k _)
theorem and_bd (a:Int):0≤IntKind.u64.wrap ((BitVec.ofInt IntKind.u64.bits a &&& BitVec.ofInt IntKind.u64.bits 255).toNat:Int)∧IntKind.u64.wrap ((BitVec.ofInt IntKind.u64.bits a &&& BitVec.ofInt IntKind.u64.bits 255).toNat:Int)≤255:=by
  have b6:IntKind.u64.bits=64:=rfl
  have s6:IntKind.u64.signed=false:=rfl
  have h:(BitVec.ofInt IntKind.u64.bits a &&& BitVec.ofInt IntKind.u64.bits 255).toNat≤255:=by
    rw [BitVec.toNat_and]
    exact Nat.le_trans Nat.and_le_right qj
  generalize (BitVec.ofInt IntKind.u64.bits a &&& BitVec.ofInt IntKind.u64.bits 255).toNat=m at h ⊢
  simp only [IntKind.wrap,b6,s6,Bool.false_and,Bool.false_eq_true,if_false]
  omega
theorem o_andU [Dfr] {x y:Operand} {t u:TypeId} (a:Int) (hx:ev n ρ x=.int .u64 a) (hy:ev n ρ y=.int .u64 255) (k:∀ r,0≤r∧r≤255→K (upd ρ d (.int .u64 r)) w):OW P Q ⟨some d,.binOp .and t x y u,ty,pos,af,none⟩ n ρ w K:=
  Xq (.int .u64 (IntKind.u64.wrap ((BitVec.ofInt IntKind.u64.bits a &&& BitVec.ofInt IntKind.u64.bits 255).toNat:Int))) (by simp [execOp,hx,hy,eqGuard,binOp,Op.intBits]) (k _ (and_bd a))
theorem o_conv [Dfr] {x:Operand} {s t:TypeId} {ds:TypeDesc} {k k' :IntKind} (a:Int) (hs:P.underlying s=some ds) (ht:P.underlying t=some (.int k')) (hx:ev n ρ x=.int k a) (h:K (upd ρ d (.int k' (k'.wrap a))) w):
    OW P Q ⟨some d,.convert s t x,ty,pos,af,none⟩ n ρ w K:=
  Xq _ (by simp [execOp,hx,convert,run_underlying hs,run_underlying ht,Conv.intToInt]) h
theorem o_convI [Dfr] {x:Operand} {s t:TypeId} {ds:TypeDesc} {k:IntKind} (a:Int) (hs:P.underlying s=some ds) (ht:P.underlying t=some (.int .i64)) (hx:ev n ρ x=.int k a) (h0:0≤a∧a≤255) (h:K (upd ρ d (.int .i64 a)) w):
    OW P Q ⟨some d,.convert s t x,ty,pos,af,none⟩ n ρ w K:=by
  refine o_conv a hs ht hx ?_
  rw [wrap_in qf]
  exact h
theorem o_convU [Dfr] {x:Operand} {s t:TypeId} {ds:TypeDesc} {k:IntKind} (a:Int) (hs:P.underlying s=some ds) (ht:P.underlying t=some (.int .u64)) (hx:ev n ρ x=.int k a) (h:∀ r,K (upd ρ d (.int .u64 r)) w):
    OW P Q ⟨some d,.convert s t x,ty,pos,af,none⟩ n ρ w K:=o_conv a hs ht hx (h _)
end
section
variable {P : Program} {n : Nat} {ρ : Env} {W0 w : World} {ps : List Prv} {Γ : List Fact}
theorem retCC {fn:Func} {R:Ending→World→Prop} {t u T U b c:Nat} {cs ds:List Value} {tb tc:TypeId} (H:St W0 w ps Γ) (i:Nat) (hp:ps[i]? =some (.box b cs tb)) (j:Nat) (hq:ps[j]? =some (.box c ds tc)) (hr:fn.results=#[.cell t T,.cell u U])
    (ha:∀ w,(isAgg T).run P w=.ok true w) (hs:∀ w,(Go.sizeOf T).run P w=.ok cs.length w) (ha' :∀ w,(isAgg U).run P w=.ok true w) (hs' :∀ w,(Go.sizeOf U).run P w=.ok ds.length w)
    (hv:ev n ρ (.tmp t)=.pointer (some ⟨b,0,none⟩)) (hx:ev n ρ (.tmp u)=.pointer (some ⟨c,0,none⟩)) (h:R (.returned (.tuple #[.agg cs.toArray,.agg ds.toArray])) w):bodyPost P fn R .ret (mk n ρ) w:=by
  have hl:=run_loadCells_list (P:=P) w ⟨b,0,none⟩ cs (fun j v hv=>by rw [Addr.add_mid];exact H.cells i hp j v hv)
  have hl' :=run_loadCells_list (P:=P) w ⟨c,0,none⟩ ds (fun k v hv=>by rw [Addr.add_mid];exact H.cells j hq k v hv)
  have e:=congrFun (QI n ρ) (.tmp t)
  have e' :=congrFun (QI n ρ) (.tmp u)
  simp only [Act.eval,Array.getD_eq_getD_getElem?] at e e'
  rw [hv] at e
  rw [hx] at e'
  exact bodyPost_ret (v:=.tuple #[.agg cs.toArray,.agg ds.toArray]) (by simp [results,hr,e,e',asAddr,loadVar,ha,hs,hl,ha',hs',hl']) rfl h
end
end
section

def zX (kk M:Int) (l:yLI):Prop:=l.length=kk.toNat∧∀ j,j < l.length→0≤l[j]! ∧l[j]! ≤M
theorem zX.len {kk M:Int} {l:yLI} (h:zX kk M l) (h0:0≤kk):(l.length:Int)=kk:=by have:=h.1;omega
theorem zX.zero {kk M:Int} (h0:0≤kk) (hM:0≤M):zX kk M (List.replicate kk.toNat 0):=⟨by simp,fun j hj=>by
  have hj' :j < kk.toNat:=by simpa using hj
  rw [getElem!_pos (List.replicate kk.toNat (0:Int)) j hj,List.getElem_replicate]
  omega⟩
theorem zX.mono {kk M M' :Int} {l:yLI} (h:zX kk M l) (hM:M≤M'):zX kk M' l:=⟨h.1,fun j hj=>by have:=h.2 j hj;omega⟩
theorem zX.put {kk M:Int} {l:yLI} {v:Int} {i:Nat} (h:zX kk M l) (h0:0≤v∧v≤M):zX kk M (l.set i v):=⟨by rw [List.length_set];exact h.1,fun j hj=>by
  rw [List.length_set] at hj
  rw [getElem!_pos (l.set i v) j (by rw [List.length_set];exact hj),List.getElem_set]
  split
  · exact h0
  · have:=h.2 j hj
    rwa [getElem!_pos l j hj] at this⟩
theorem zX.up {kk M M' :Int} {l:yLI} {i:Nat} (h:zX kk M l) (hi:i < l.length) (hM:M+1≤M'):zX kk M' (l.set i (l[i]! +1)):=
  (h.mono (by omega:M≤M')).put (by have:=h.2 i hi;omega)
theorem zX.ok {kk M:Int} {l:yLI} (h:zX kk M l) (hk:1≤kk∧kk≤8) (hM:M≤1000):vw kk l:=
  ⟨⟨fun j hj=>by have:=h.2 j hj;omega,by have:=h.len qf;omega,by have:=h.len qf;omega⟩,h.len qf⟩
theorem zX.small {kk M:Int} {l:yLI} (h:zX kk M l) (hk:1≤kk∧kk≤8) (hM:M≤1000):Small l:=vg (h.ok hk hM)
theorem sumTo_up {l:yLI} (h:∀ j,j < l.length→0≤l[j]!):∀ k,k≤l.length→0≤sumTo l k∧∀ i,i < k→l[i]! ≤sumTo l k
  | 0,_=>⟨Int.le_refl _,fun i hi=>by omega⟩
  | k+1,hk=>by
    obtain ⟨h1,h2⟩:=sumTo_up h k qf
    have h3:=h k qf
    refine ⟨by simp only [sumTo];omega,fun i hi=>?_⟩
    simp only [sumTo]
    rcases Nat.lt_or_eq_of_le (Nat.le_of_lt_succ hi) with h4 | h4
    · have:=h2 i h4;omega
    · subst h4;omega
theorem zX.one {kk M:Int} {l:yLI} {i:Nat} (h:zX kk M l) (hk:1≤kk∧kk≤8) (hM:1≤M) (hs:QM l=0) (hi:i < l.length):QM (l.set i 1)≠0:=by
  have h1:=h.put (i:=i) (v:=1) qf
  have h2:=(sumTo_up (l:=l.set i 1) (fun j hj=>(h1.2 j hj).1) _ (Nat.le_refl _)).2 i (by rw [List.length_set];exact hi)
  rw [getElem!_pos (l.set i 1) i (by rw [List.length_set];exact hi),List.getElem_set_self] at h2
  show sumTo _ _≠0
  omega

def IntoDr (kk:Int) (par:yLI) (cell:Int) (l:List Xy) (c:Int):Prop:=
  ∀ j,j < l.length→(0≤(l[j]!).qP∧(l[j]!).qP < c)∧Lies par cell (l[j]!).qP∧zX kk 1 (l[j]!).QG∧QM (l[j]!).QG≠0∧(0 < j→(l[j - 1]!).qP < (l[j]!).qP)
theorem IntoDr.nil (kk:Int) (par:yLI) (cell c:Int):IntoDr kk par cell [] c:=fun j hj=>by simp at hj
theorem IntoDr.mono {kk:Int} {par:yLI} {cell c c' :Int} {l:List Xy} (h:IntoDr kk par cell l c) (hc:c≤c'):IntoDr kk par cell l c' :=fun j hj=>by
  obtain ⟨h1,h2⟩:=h j hj
  exact ⟨by omega,h2⟩
theorem get_snoc {α:Type} [Inhabited α] {l:List α} {x:α} {j:Nat}:(l++[x])[j]! =if j < l.length then l[j]! else if j=l.length then x else default:=by
  by_cases h:j < l.length
  · rw [if_pos h,getElem!_pos (l++[x]) j qy,getElem!_pos l j h,List.getElem_append_left h]
  · rw [if_neg h]
    by_cases h2:j=l.length
    · subst h2
      rw [if_pos rfl,getElem!_pos (l++[x]) l.length qm]
      simp
    · rw [if_neg h2,getElem!_neg (l++[x]) j qy]
theorem IntoDr.snoc {kk:Int} {par:yLI} {cell c:Int} {l:List Xy} {b:yLI} (h:IntoDr kk par cell l c) (hc:0≤c) (hl:Lies par cell c) (hb:zX kk 1 b) (hs:QM b≠0):IntoDr kk par cell (l++[⟨c,b⟩]) (c+1):=fun j hj=>by
  have hj' :j < l.length∨j=l.length:=by simp at hj;omega
  rcases hj' with hj' | hj'
  · obtain ⟨h1,h2,h3,h4,h5⟩:=h j hj'
    rw [get_snoc,if_pos hj',get_snoc,if_pos qf]
    exact ⟨by omega,h2,h3,h4,h5⟩
  · subst hj'
    rw [get_snoc,if_neg qf,if_pos rfl]
    refine ⟨⟨hc,by show c < c+1;omega⟩,hl,hb,hs,fun h0=>?_⟩
    rw [get_snoc,if_pos qf]
    exact (h (l.length - 1) qf).1.2
structure RuleDr (kk:Int) (par:yLI) (r:jw):Prop where
  cell:0≤r.qP∧r.qP < par.length
  rank:0≤r.jI∧r.jI≤2
  melts:¬ (r.jB=true∧r.qP=0)
  need:zX kk 2 r.zB∧QM r.zB≠0
  hav:zX kk 1 r.vJ
  lack:zX kk 1 r.vP
  here:zX kk 2 r.vT
  out:zX kk 2 r.yP
  many:r.xh.length≤3
  into:IntoDr kk par r.qP r.xh par.length
theorem RuleDr.ok {s:qE} {r:jw} (h:RuleDr s.xP s.qA r) (hk:1≤s.xP∧s.xP≤8):RuleOk s r:=
  ⟨⟨h.cell.1,by have:=h.cell.2;omega⟩,by have:=h.rank;omega,h.melts,h.many,h.need.1.ok hk qf,h.hav.ok hk qf,h.lack.ok hk qf,h.here.ok hk qf,h.out.ok hk qf,h.need.2,
    fun j hj=>by
      obtain ⟨h1,h2,h3,h4,h5⟩:=h.into j hj
      exact ⟨⟨h1.1,by omega⟩,h2,h3.ok hk qf,h4,h5⟩⟩
theorem ruleDr_of {kk:Int} {par:yLI} {cell rank:Int} {need hav lack here out:yLI} {into:List Xy} {melts:Bool} (h1:0≤cell∧cell < (par.length:Int)) (h2:0≤rank∧rank≤2) (h3:melts=true→cell≠0)
    (h4:zX kk 2 need∧QM need≠0) (h5:zX kk 1 hav) (h6:zX kk 1 lack) (h7:zX kk 2 here) (h8:zX kk 1 out) (h9:into.length≤3∧IntoDr kk par cell into par.length):RuleDr kk par ⟨cell,rank,need,hav,lack,here,out,into,melts⟩:=
  ⟨h1,h2,fun h=>h3 h.1 h.2,h4,h5,h6,h7,h8.mono qf,h9.1,h9.2⟩
def jC (kk:Int) (par:yLI) (l:List jw):Prop:=∀ j,j < l.length→RuleDr kk par (l[j]!)
theorem jC.nil (kk:Int) (par:yLI):jC kk par []:=fun j hj=>by simp at hj
theorem jC.snoc {kk:Int} {par:yLI} {l:List jw} {r:jw} (h:jC kk par l) (hr:RuleDr kk par r):jC kk par (l++[r]):=fun j hj=>by
  rw [get_snoc]
  by_cases h1:j < l.length
  · rw [if_pos h1];exact h j h1
  · rw [if_neg h1,if_pos (by simp at hj;omega)];exact hr
theorem jC.set {kk:Int} {par:yLI} {l:List jw} {r:jw} {i:Nat} (h:jC kk par l) (hr:RuleDr kk par r):jC kk par (l.set i r):=fun j hj=>by
  rw [List.length_set] at hj
  rw [getElem!_pos (l.set i r) j (by rw [List.length_set];exact hj),List.getElem_set]
  split
  · exact hr
  · have:=h j hj;rwa [getElem!_pos l j hj] at this
def ParDr (par:yLI):Prop:=1≤par.length∧par[0]! = -1∧∀ c,1≤c→c < par.length→0≤par[c]! ∧par[c]! ≤(c:Int) - 1
theorem ParDr.one:ParDr [-1]:=⟨by simp,rfl,fun c h1 h2=>by simp at h2;omega⟩
theorem ParDr.snoc {par:yLI} {v:Int} (h:ParDr par) (hv:0≤v∧v < par.length):ParDr (par++[v]):=by
  obtain ⟨h1,h2,h3⟩:=h
  refine ⟨by simp,by rw [get_snoc,if_pos qf];exact h2,fun c hc hl=>?_⟩
  rw [get_snoc]
  by_cases h4:c < par.length
  · rw [if_pos h4];exact h3 c hc h4
  · have h5:c=par.length:=by simp at hl;omega
    rw [if_neg h4,if_pos h5];omega
theorem frame_of {kk:Int} {par:yLI} {rules:List jw} (h:ParDr par) (hk:1≤kk∧kk≤3) (hl:par.length≤3):jL ⟨kk,par,rules⟩:=
  ⟨⟨hk.1,by show kk≤8;omega⟩,⟨h.1,by show par.length≤6;omega⟩,h.2.1,h.2.2⟩
structure SysDr (kk:Int) (par:yLI) (rules:List jw):Prop where
  kinds:1≤kk∧kk≤3
  cells:1≤par.length∧par.length≤3
  skin:par[0]! = -1
  up:∀ c,1≤c→c < par.length→0≤par[c]! ∧par[c]! ≤(c:Int) - 1
  few:rules.length≤5
  rules:jC kk par rules
theorem sysDr_of {kk:Int} {par:yLI} {rules:List jw} (h:ParDr par) (hk:1≤kk∧kk≤3) (hl:par.length≤3) (hr:rules.length≤5) (hd:jC kk par rules):SysDr kk par rules:=⟨hk,⟨h.1,hl⟩,h.2.1,h.2.2,hr,hd⟩
theorem SysDr.frame {kk:Int} {par:yLI} {rules:List jw} (h:SysDr kk par rules):jL ⟨kk,par,rules⟩:=by
  have h1:=h.kinds
  have h2:=h.cells
  exact ⟨⟨h1.1,by show kk≤8;omega⟩,⟨h2.1,by show par.length≤6;omega⟩,h.skin,h.up⟩
theorem SysDr.ok {kk:Int} {par:yLI} {rules:List jw} (h:SysDr kk par rules):vK ⟨kk,par,rules⟩:=by
  have h1:=h.kinds
  have h3:=h.few
  refine ⟨h.frame,by show rules.length≤16;omega,fun j hj=>⟨(h.rules j hj).ok (s:=⟨kk,par,rules⟩) ⟨h1.1,by show kk≤8;omega⟩,?_⟩⟩
  have h4:=(ofCell_bd rules (rules[j]!).qP (j+1)).2
  have h5:j < rules.length:=hj
  show XU rules (rules[j]!).qP (j+1)≤8
  omega
structure StDr (kk:Int) (n:Nat) (M:Int) (alive:List Bool) (bags:yLL) (around:yLI):Prop where
  la:alive.length=n
  lb:bags.length=n
  skin:alive[0]! =true
  around:zX kk 2 around
  bags:∀ c,c < bags.length→zX kk M (bags[c]!)∧(alive[c]! =false→QM (bags[c]!)≤0)
theorem StDr.ok {kk M:Int} {par:yLI} {rules:List jw} {alive:List Bool} {bags:yLL} {around:yLI} (h:StDr kk par.length M alive bags around) (hs:SysDr kk par rules) (hM:M≤1000):xX ⟨kk,par,rules⟩ ⟨alive,bags,around⟩:=by
  have h1:=hs.kinds
  exact ⟨h.la,h.lb,h.skin,h.around.ok ⟨h1.1,by omega⟩ qf,fun c hc=>⟨(h.bags c hc).1.ok ⟨h1.1,by show kk≤8;omega⟩ hM,(h.bags c hc).2⟩⟩
theorem sum_zeros (n:Nat):QM (List.replicate n (0:Int))≤0:=by
  have:∀ k,k≤n→sumTo (List.replicate n (0:Int)) k=0:=fun k=>by
    induction k with
    | zero=>intro _;rfl
    | succ k ih=>
      intro hk
      rw [sumTo,ih qf,getElem!_pos (List.replicate n (0:Int)) k qy,List.getElem_replicate]
      rfl
  have h:=this (List.replicate n (0:Int)).length qm
  show sumTo _ _≤0
  omega
structure StTo (kk M:Int) (c:Nat) (alive:List Bool) (bags:yLL):Prop where
  la:alive.length=c
  lb:bags.length=c
  skin:0 < c→alive[0]! =true
  bags:∀ j,j < bags.length→zX kk M (bags[j]!)∧(alive[j]! =false→QM (bags[j]!)≤0)
theorem StTo.nil (kk M:Int):StTo kk M 0 [] []:=⟨rfl,rfl,fun h=>by omega,fun j hj=>by simp at hj⟩
theorem StTo.snoc {kk M:Int} {c:Nat} {alive:List Bool} {bags:yLL} {a:Bool} {b:yLI} (h:StTo kk M c alive bags) (ha:c=0→a=true) (hb:zX kk M b) (hz:a=false→QM b≤0):StTo kk M (c+1) (alive++[a]) (bags++[b]):=by
  have la:=h.la
  have lb:=h.lb
  refine ⟨by simp [la],by simp [lb],fun _=>?_,fun j hj=>?_⟩
  · rw [get_snoc]
    by_cases h0:0 < c
    · rw [if_pos qf];exact h.skin h0
    · rw [if_neg qf,if_pos qf];exact ha qf
  · rw [get_snoc,get_snoc]
    by_cases h1:j < c
    · rw [if_pos qf,if_pos qf];exact h.bags j qf
    · rw [if_neg qf,if_pos (by simp at hj;omega),if_neg qf,if_pos (by simp at hj;omega)];exact ⟨hb,hz⟩
end
section
open Go.RowKit
set_option linter.unusedVariables false
set_option linter.unusedSimpArgs false
set_option maxRecDepth 100000
set_option maxHeartbeats 4000000
theorem dNext_ok {W0 w:World} {ps:List Prv} {Γ:List Fact} {Ns:List yLN} (code:List UInt8) (ip:Int) (sd:Int) (bs:Nat) (ac:yOA) (cc:Nat) (Fc:yLN) (H:St W0 w ((.box bs [.slice ac code.length cc,.int .i64 ip,.int .u64 sd] 115) :: ps) ((sF false Fc ac cc code) :: Γ)) (N:Fresh W0.heap.size (Ns)) (K0:Kept Ns Γ) (q0:0≤ip∧ip≤100000):Calls Tryz.prog 89 #[.pointer (some ⟨bs,0,none⟩)] w (fun e w' =>∃ v,e=.returned v∧∃ (ip_:Int) (sd_:Int) (v_:Int),(ip≤ip_∧ip_≤ip+1)∧(0≤v_∧v_≤255)∧v=.int .i64 v_∧Fresh W0.heap.size (Ns)∧St W0 w' ((.box bs [.slice ac code.length cc,.int .i64 ip_,.int .u64 sd_] 115) :: ps) ((sF false Fc ac cc code) :: Γ)):=by
 refine en Tryz.func89 Tryz.ntmps89 ?_
 have ncode:=qM (H.get 0 rfl).1
 refine zcr (sp (.int .i64 0) (zjc (sp (.int .i64 0) (zjn (xQ (xQ ?_))))))
 refine XL rfl H [0] [0] fun H=>?_
 have S:=H.jo [0] [0]
 refine rtl 0 S ?_
 refine rtl 1 S ?_
 refine tF 2 rfl rfl S ?_
 refine tL 3 rfl rfl (fun _ h=>h.cell 0 rfl rfl) S ?_
 refine rtl 4 S ?_
 refine rtl 5 S ?_
 refine tF 6 rfl rfl S ?_
 refine tL 7 rfl rfl (fun _ h=>h.cell 0 rfl rfl) S ?_
 refine tN 8 rfl rfl S ?_
 refine rtl 9 S ?_
 refine xq qh (t_n (cD rfl (fun h2=>?_) (fun h2=>?_)))
 ·skip
  refine XL rfl H [0] [0] fun H=>?_
  have S:=H.jo [0] [0]
  refine rtl 0 S ?_
  refine rtl 1 S ?_
  refine tF 2 rfl rfl S ?_
  refine tL 3 rfl rfl (fun _ h=>h.cell 0 rfl rfl) S ?_
  refine rtl 4 S ?_
  refine rtl 5 S ?_
  refine tF 6 rfl rfl S ?_
  refine tL 7 rfl rfl (fun _ h=>h.cell 0 rfl rfl) S ?_
  obtain ⟨b4,o5,rfl⟩:=H.addr 0 rfl qf
  refine tI 8 rfl rfl rfl (H.pick [0] [0]) ?_
  refine ro 9 rfl ?_
  have hb7:=byte_lt (code[ip.toNat]!)
  refine zl (.int .u8 (((code[ip.toNat]!).toNat:Nat):Int)) Tryz.isAgg5 rfl (H.elemByte 0 rfl ip ip.toNat qf qf qf) (⟨H.pick [0] [0],(ro 10 rfl (o_convI (((code[ip.toNat]!).toNat:Nat):Int) Tryz.underlying5 Tryz.underlying3 rfl qf (⟨H.pick [0] [0],(rtl 11 (H.pick [0] [0]) ?_)⟩)))⟩)
  refine xq qh (t_n (zcr (sq 2 (oF rfl (oL rfl (H.cell 0 rfl rfl) (sw (zA ip 1 rfl rfl qf (sq 1 (oF rfl (sw (xO H 0 [.slice (some ⟨b4,o5,none⟩) code.length cc,.int .i64 (ip+1),.int .u64 sd] Tryz.sizeOf3 fun w8 H=>?_)))))))))))
  try dsimp only [List.set] at H
  refine zjc (sq 3 (oF rfl (oL rfl (H.cell 0 rfl rfl) (sw (o_mulU sd 6364136223846793005 rfl rfl fun r9=>sq 1 (sw (o_convU (((code[ip.toNat]!).toNat:Nat):Int) Tryz.underlying3 Tryz.underlying113 rfl fun r10=>sw (o_addU r9 r10 rfl rfl fun r11=>sw (o_addU r11 1442695040888963407 rfl rfl fun r12=>sq 1 (oF rfl (sw (xO H 0 [.slice (some ⟨b4,o5,none⟩) code.length cc,.int .i64 (ip+1),.int .u64 r12] Tryz.sizeOf113 fun w13 H=>?_))))))))))))
  try dsimp only [List.set] at H
  refine zjn (xQ (xQ ?_))
  refine XL rfl H [0] [0] fun H=>?_
  have S:=H.jo [0] [0]
  refine rtl 0 S ?_
  refine rtl 1 S ?_
  refine tF 2 rfl rfl S ?_
  refine tL 3 rfl rfl (fun _ h=>h.cell 0 rfl rfl) S ?_
  refine rtl 4 S ?_
  refine rtl 5 S ?_
  refine tF 6 rfl rfl S ?_
  refine tL 7 rfl rfl (fun _ h=>h.cell 0 rfl rfl) S ?_
  refine tN 8 rfl rfl S ?_
  refine rtl 9 S ?_
  refine xq qh (t_n (cD rfl (fun h15=>?_) (fun h15=>?_)))
  ·skip
   refine zcr (sq 2 (zjr (t_r (ret1 (.int .i64 (((code[ip.toNat]!).toNat:Nat):Int)) rfl rfl ⟨_,rfl,(⟨ip+1,r12,(((code[ip.toNat]!).toNat:Nat):Int),qf,qf,rfl,N,H.zV 1 1 [0] [0] qo qo⟩)⟩))))
  ·skip
   refine qW (t_n (zcr (sq 2 (oF rfl (oL rfl (H.cell 0 rfl rfl) (sw (o_shrU r12 40 qj rfl rfl fun r16=>sw (o_andU r16 rfl rfl fun r17 hr17=>sw (o_convI r17 Tryz.underlying113 Tryz.underlying2 rfl qf (sq 1 (zjr (ret1 (.int .i64 r17) rfl rfl ⟨_,rfl,(⟨ip+1,r12,r17,qf,qf,rfl,N,H.zV 1 1 [0] [0] qo qo⟩)⟩))))))))))))
 ·skip
  refine qW (t_n (zcr (sq 2 (oF rfl (oL rfl (H.cell 0 rfl rfl) (sw (zA ip 1 rfl rfl qf (sq 1 (oF rfl (sw (xO H 0 [.slice ac code.length cc,.int .i64 (ip+1),.int .u64 sd] Tryz.sizeOf3 fun w18 H=>?_)))))))))))
  try dsimp only [List.set] at H
  refine zjc (sq 3 (oF rfl (oL rfl (H.cell 0 rfl rfl) (sw (o_mulU sd 6364136223846793005 rfl rfl fun r19=>sp (.int .i64 0) (sw (o_convU 0 Tryz.underlying3 Tryz.underlying113 rfl fun r20=>sw (o_addU r19 r20 rfl rfl fun r21=>sw (o_addU r21 1442695040888963407 rfl rfl fun r22=>sq 1 (oF rfl (sw (xO H 0 [.slice ac code.length cc,.int .i64 (ip+1),.int .u64 r22] Tryz.sizeOf113 fun w23 H=>?_))))))))))))
  try dsimp only [List.set] at H
  refine zjn (xQ (xQ ?_))
  refine XL rfl H [0] [0] fun H=>?_
  have S:=H.jo [0] [0]
  refine rtl 0 S ?_
  refine rtl 1 S ?_
  refine tF 2 rfl rfl S ?_
  refine tL 3 rfl rfl (fun _ h=>h.cell 0 rfl rfl) S ?_
  refine rtl 4 S ?_
  refine rtl 5 S ?_
  refine tF 6 rfl rfl S ?_
  refine tL 7 rfl rfl (fun _ h=>h.cell 0 rfl rfl) S ?_
  refine tN 8 rfl rfl S ?_
  refine rtl 9 S ?_
  refine xq qh (t_n (cD rfl (fun h25=>?_) (fun h25=>?_)))
  ·skip
   refine zcr (sp (.int .i64 0) (sp (.int .i64 0) (zjr (t_r (ret1 (.int .i64 0) rfl rfl ⟨_,rfl,(⟨ip+1,r22,0,qf,qf,rfl,N,H.zV 1 1 [0] [0] qo qo⟩)⟩)))))
  ·skip
   refine qW (t_n (zcr (sq 2 (oF rfl (oL rfl (H.cell 0 rfl rfl) (sw (o_shrU r22 40 qj rfl rfl fun r26=>sw (o_andU r26 rfl rfl fun r27 hr27=>sw (o_convI r27 Tryz.underlying113 Tryz.underlying2 rfl qf (sq 1 (zjr (ret1 (.int .i64 r27) rfl rfl ⟨_,rfl,(⟨ip+1,r22,r27,qf,qf,rfl,N,H.zV 1 1 [0] [0] qo qo⟩)⟩))))))))))))

theorem yJ {W0 w:World} {ps:List Prv} {Γ:List Fact} {Ns:List yLN} (code:List UInt8) (ip:Int) (sd:Int) (bs:Nat) (ac:yOA) (cc:Nat) (Fc:yLN) (nn:Int) (H:St W0 w ((.box bs [.slice ac code.length cc,.int .i64 ip,.int .u64 sd] 115) :: ps) ((sF false Fc ac cc code) :: Γ)) (N:Fresh W0.heap.size (Ns)) (K0:Kept Ns Γ) (q0:0≤ip∧ip≤90000):Calls Tryz.prog 43 #[.pointer (some ⟨bs,0,none⟩),.int .i64 nn] w (fun e w' =>∃ v,e=.returned v∧∃ (ip_:Int) (sd_:Int) (v_:Int),(ip≤ip_∧ip_≤ip+2)∧(0≤v_∧(v_ < nn∨v_=0))∧v=.int .i64 v_∧Fresh W0.heap.size (Ns)∧St W0 w' ((.box bs [.slice ac code.length cc,.int .i64 ip_,.int .u64 sd_] 115) :: ps) ((sF false Fc ac cc code) :: Γ)):=by
 refine en Tryz.func43 Tryz.ntmps43 ?_
 have ncode:=qM (H.get 0 rfl).1
 refine zcr (sp (.int .i64 0) (zjcc (sp (.int .i64 nn) (sp (.bool (decide ((nn:Int)≤1))) (zjn (cD rfl (fun h1=>?_) (fun h1=>?_)))))))
 ·skip
  refine zcr (sp (.int .i64 0) (zjr (t_r (ret1 (.int .i64 0) rfl rfl ⟨_,rfl,(⟨ip,sd,0,qf,(by first | omega | exact ⟨hm _,.inl (hm2 _)⟩),rfl,N,H.zV 1 1 [0] [0] qo qo⟩)⟩))))
 ·skip
  refine qW (t_n (zcr (sq 1 ?_)))
  have H1:=H.yg 1 1 [0] [0] qo qo
  have N1:Fresh _ (Ns):=N
  have K1:Kept (Ns) (Γ):=K0.behind 0 rfl
  refine sw (zJ #[.pointer (some ⟨bs,0,none⟩)] rfl rfl Tryz.call89 (dNext_ok code ip sd bs ac cc Fc H1 N1 K1 qg) ?_)
  clear H H1 N1 K1
  rintro _ w2 ⟨zi6,zi7,zi8,hx4,hx5,rfl,N,H⟩
  refine sq 1 (zjcc (sp (.int .i64 nn) (sp (.bool (decide ((nn:Int) > 200))) (zjn (cD rfl (fun h9=>?_) (fun h9=>?_))))))
  ·skip
   refine xU (sq 1 (sw (o_mul zi8 256 rfl rfl qf (sq 1 ?_))))
   have H1:=H.yg 1 1 [0] [0] qo qo
   have N1:Fresh _ (Ns):=N
   have K1:Kept (Ns) (Γ):=K0.behind 0 rfl
   refine sw (zJ #[.pointer (some ⟨bs,0,none⟩)] rfl rfl Tryz.call89 (dNext_ok code zi6 zi7 bs ac cc Fc H1 N1 K1 qg) ?_)
   clear H H1 N1 K1
   rintro _ w10 ⟨zi14,zi15,zi16,hx12,hx13,rfl,N,H⟩
   refine sw (zA (zi8 * 256) zi16 rfl rfl qf (sq 1 (zjc (sq 1 (sp (.int .i64 nn) (sw (o_rem ((zi8 * 256)+zi16) nn rfl rfl qf qf qf (sq 1 (zjr (ret1 (.int .i64 (((zi8 * 256)+zi16) % nn)) rfl rfl ⟨_,rfl,?_⟩))))))))))
   have hm:=fun (x:Int)=>Int.emod_nonneg x (show nn≠0 by omega)
   have hm2:=fun (x:Int)=>Int.emod_lt_of_pos x (show 0 < nn by omega)
   exact ⟨zi14,zi15,((zi8 * 256)+zi16) % nn,qf,(by first | omega | exact ⟨hm _,.inl (hm2 _)⟩),rfl,N,H.zV 1 1 [0] [0] qo qo⟩
  ·skip
   refine qW (t_n (zcr (sq 1 (sp (.int .i64 nn) (sw (o_rem zi8 nn rfl rfl qf qf qf (sq 1 (zjr (ret1 (.int .i64 (zi8 % nn)) rfl rfl ⟨_,rfl,?_⟩)))))))))
   have hm:=fun (x:Int)=>Int.emod_nonneg x (show nn≠0 by omega)
   have hm2:=fun (x:Int)=>Int.emod_lt_of_pos x (show 0 < nn by omega)
   exact ⟨zi6,zi7,zi8 % nn,qf,(by first | omega | exact ⟨hm _,.inl (hm2 _)⟩),rfl,N,H.zV 1 1 [0] [0] qo qo⟩

theorem dOne_ok {W0 w:World} {ps:List Prv} {Γ:List Fact} {Ns:List yLN} (code:List UInt8) (ip:Int) (sd:Int) (bs:Nat) (ac:yOA) (cc:Nat) (Fc:yLN) (nn:Int) (H:St W0 w ((.box bs [.slice ac code.length cc,.int .i64 ip,.int .u64 sd] 115) :: ps) ((sF false Fc ac cc code) :: Γ)) (N:Fresh W0.heap.size (Ns)) (K0:Kept Ns Γ) (q0:0≤ip∧ip≤90000):Calls Tryz.prog 41 #[.pointer (some ⟨bs,0,none⟩),.int .i64 nn] w (fun e w' =>∃ v,e=.returned v∧∃ (ip_:Int) (sd_:Int) (v_:Bool),(ip≤ip_∧ip_≤ip+2)∧v=.bool v_∧Fresh W0.heap.size (Ns)∧St W0 w' ((.box bs [.slice ac code.length cc,.int .i64 ip_,.int .u64 sd_] 115) :: ps) ((sF false Fc ac cc code) :: Γ)):=by
 refine en Tryz.func41 Tryz.ntmps41 ?_
 have ncode:=qM (H.get 0 rfl).1
 refine zcr (sp (.bool false) (zjc (sq 1 (sp (.int .i64 nn) ?_))))
 have H1:=H.yg 1 1 [0] [0] qo qo
 have N1:Fresh _ (Ns):=N
 have K1:Kept (Ns) (Γ):=K0.behind 0 rfl
 refine sw (zJ #[.pointer (some ⟨bs,0,none⟩),.int .i64 nn] rfl rfl Tryz.call43 (yJ code ip sd bs ac cc Fc nn H1 N1 K1 qg) ?_)
 clear H H1 N1 K1
 rintro _ w1 ⟨zi5,zi6,zi7,hx3,hx4,rfl,N,H⟩
 refine sp (.bool ((zi7:Int) == 0)) (sp (.bool ((zi7:Int) == 0)) (zjr (ret1 (.bool ((zi7:Int) == 0)) rfl rfl ⟨_,rfl,(⟨zi5,zi6,(zi7:Int) == 0,qf,rfl,N,H.zV 1 1 [0] [0] qo qo⟩)⟩)))

theorem dFew_ok {W0 w:World} {ps:List Prv} {Γ:List Fact} {Ns:List yLN} (code:List UInt8) (ip:Int) (sd:Int) (bs:Nat) (ac:yOA) (cc:Nat) (Fc:yLN) (kk:Int) (most:Int) (H:St W0 w ((.box bs [.slice ac code.length cc,.int .i64 ip,.int .u64 sd] 115) :: ps) ((sF false Fc ac cc code) :: Γ)) (N:Fresh W0.heap.size (Ns)) (K0:Kept Ns Γ) (q0:0≤ip∧ip≤80000) (q1:1≤kk∧kk≤8) (q2:1≤most∧most≤6):Calls Tryz.prog 141 #[.pointer (some ⟨bs,0,none⟩),.int .i64 kk,.int .i64 most] w (fun e w' =>∃ v,e=.returned v∧∃ (ip_:Int) (sd_:Int) (out_:yLI) (rao:yOA) (rno:Nat) (rco:Nat),(ip≤ip_∧ip_≤ip+20)∧(zX kk most out_)∧v=.slice rao rno rco∧Fresh W0.heap.size (Ns)∧St W0 w' ((.box bs [.slice ac code.length cc,.int .i64 ip_,.int .u64 sd_] 115) :: (rr rao rno rco 2 1 (out_.map (Value.int .i64))) :: ps) ((sF false Fc ac cc code) :: Γ)):=by
 refine en Tryz.func141 Tryz.ntmps141 ?_
 have ncode:=qM (H.get 0 rfl).1
 refine zcr (sq 1 (zjc (sp (.int .i64 kk) (sw (vM H Tryz.underlying24 ti2 kk.toNat rfl rfl qf qf qf fun b1 w2 H=>sq 1 (zjcc (sq 2 (sw (zA most 1 rfl rfl qf ?_)))))))))
 have H1:=H.yg 2 1 [1,0] [0] qo qo
 have N1:Fresh _ (Ns):=N
 have K1:Kept (Ns) (Γ):=K0.behind 0 rfl
 refine sw (zJ #[.pointer (some ⟨bs,0,none⟩),.int .i64 (most+1)] rfl rfl Tryz.call43 (yJ code ip sd bs ac cc Fc (most+1) H1 N1 K1 qg) ?_)
 clear H H1 N1 K1
 rintro _ w3 ⟨zi7,zi8,zi9,hx5,hx6,rfl,N,H⟩
 refine sq 1 (zjn (qY ?_))
 refine zq (fun m' ρ w10=>∃ (xM:Env) (k:Int) (s_at:Int) (s_seed:Int) (out:yLI),ρ=upd (upd (upd (upd xM 0 (.pointer (some ⟨bs,0,none⟩))) 1 (.int .i64 kk)) 7 (.slice (some ⟨b1,0,none⟩) kk.toNat kk.toNat)) 8 (.int .i64 k)∧(0≤k∧k≤most)∧(ip≤s_at∧s_at+2 * k≤ip+20)∧(zX kk (most - k) out)∧m' =k.toNat∧Fresh W0.heap.size (Ns)∧St W0 w10 ((.box bs [.slice ac code.length cc,.int .i64 s_at,.int .u64 s_seed] 115) :: (rr (some ⟨b1,0,none⟩) kk.toNat kk.toNat 2 1 (out.map (Value.int .i64))) :: ps) ((sF false Fc ac cc code) :: Γ)) (zi9.toNat) ⟨_,zi9,zi7,zi8,(List.replicate kk.toNat (0:Int)),uE4,qf,qf,(by exact zX.zero qf qf),rfl,N,H⟩ ?_
 clear H N
 rintro m' ρ w11 ⟨xM,k,s_at,s_seed,out,rfl,i1,i2,i3,rfl,N,H⟩
 have hn_out:=H.jm 1 rfl
 have i4:=i3.len qf
 refine zcc (sp (.int .i64 k) (sp (.bool (decide ((k:Int) > 0))) (zjn (cD rfl (fun h12=>?_) (fun h12=>?_)))))
 ·skip
  refine qW (t_n (xQ (qY (xU (sq 2 (sp (.int .i64 kk) ?_))))))
  have H1:=H.yg 2 1 [0,1] [0] qo qo
  have N1:Fresh _ (Ns):=N
  have K1:Kept (Ns) (Γ):=K0.behind 0 rfl
  refine sw (zJ #[.pointer (some ⟨bs,0,none⟩),.int .i64 kk] rfl rfl Tryz.call43 (yJ code s_at s_seed bs ac cc Fc kk H1 N1 K1 qg) ?_)
  clear H H1 N1 K1
  rintro _ w13 ⟨zi17,zi18,zi19,hx15,hx16,rfl,N,H⟩
  have i5:=i3.2 zi19.toNat qf
  refine oI rfl rfl (oL rfl (H.rowInt 1 rfl (iv:=zi19) (i:=zi19.toNat) qf qf) (sw (zA (out[zi19.toNat]!) 1 rfl rfl qf (oI rfl rfl (sw (XE H 1 rfl ((out[zi19.toNat]!)+1) Tryz.sizeOf2 rfl rfl (i:=zi19.toNat) qf qf fun w20 H=>?_))))))
  try dsimp only [List.set] at H
  refine xY (b_n (t_n (xU (sp (.int .i64 k) (sw (o_sub k 1 rfl rfl qf (sq 1 (xY (xe (m' :=(k - 1).toNat) qf ⟨_,_,_,_,_,uE4,?_,?_,?_,rfl,N,H⟩)))))))))
  · omega
  · omega
  · exact i3.up qf qf
 ·skip
  refine zx4 (zcr (sq 2 (zjr (ret1 (.slice (some ⟨b1,0,none⟩) kk.toNat kk.toNat) rfl rfl ⟨_,rfl,(⟨s_at,s_seed,out,(some ⟨b1,0,none⟩),kk.toNat,kk.toNat,qf,(by rw [show most=most - k by omega];exact i3),rfl,N,H.zV 2 1 [0,1] [0] qo qo⟩)⟩))))

theorem QC {W0 w:World} {ps:List Prv} {Γ:List Fact} {Ns:List yLN} (code:List UInt8) (ip:Int) (sd:Int) (bs:Nat) (ac:yOA) (cc:Nat) (Fc:yLN) (kk:Int) (most:Int) (H:St W0 w ((.box bs [.slice ac code.length cc,.int .i64 ip,.int .u64 sd] 115) :: ps) ((sF false Fc ac cc code) :: Γ)) (N:Fresh W0.heap.size (Ns)) (K0:Kept Ns Γ) (q0:0≤ip∧ip≤70000) (q1:1≤kk∧kk≤8) (q2:1≤most∧most≤6):Calls Tryz.prog 183 #[.pointer (some ⟨bs,0,none⟩),.int .i64 kk,.int .i64 most] w (fun e w' =>∃ v,e=.returned v∧∃ (ip_:Int) (sd_:Int) (out_:yLI) (rao:yOA) (rno:Nat) (rco:Nat),(ip≤ip_∧ip_≤ip+24)∧(zX kk most out_∧QM out_≠0)∧v=.slice rao rno rco∧Fresh W0.heap.size (Ns)∧St W0 w' ((.box bs [.slice ac code.length cc,.int .i64 ip_,.int .u64 sd_] 115) :: (rr rao rno rco 2 1 (out_.map (Value.int .i64))) :: ps) ((sF false Fc ac cc code) :: Γ)):=by
 refine en Tryz.func183 Tryz.ntmps183 ?_
 have ncode:=qM (H.get 0 rfl).1
 refine zcr (sq 1 (zjc (sq 1 (sp (.int .i64 kk) (sq 1 ?_)))))
 have H1:=H.yg 1 1 [0] [0] qo qo
 have N1:Fresh _ (Ns):=N
 have K1:Kept (Ns) (Γ):=K0.behind 0 rfl
 refine sw (zJ #[.pointer (some ⟨bs,0,none⟩),.int .i64 kk,.int .i64 most] rfl rfl Tryz.call141 (dFew_ok code ip sd bs ac cc Fc kk most H1 N1 K1 qg qg qg) ?_)
 clear H H1 N1 K1
 rintro _ w1 ⟨zi5,zi6,zl7,ra8,rn9,rc10,hx3,hx4,rfl,N,H⟩
 obtain rfl:=H.jm 1 rfl
 have j1:=(‹zX kk most _›:zX kk most zl7)
 have j2:=j1.small q1 qf
 have j3:=j1.len qf
 refine sq 1 (zjcc (sq 1 ?_))
 obtain ⟨G11,hn12,h13⟩:=H.Qi 1 rfl
 refine sw (oq (XG _ zl7 h13 (by first | assumption | exact vg ql | exact yB ql)) H fun w14 H=>sp (.bool ((QM zl7:Int) == 0)) (zjn (cE rfl (fun h16=>?_) (fun h16=>?_))))
 ·skip
  refine xU (sq 2 (sp (.int .i64 kk) ?_))
  have H1:=H.yg 2 1 [0,1] [0] qo qo
  have N1:Fresh _ (Ns):=N
  have K1:Kept (Ns) (Γ):=K0.behind 0 rfl
  refine sw (zJ #[.pointer (some ⟨bs,0,none⟩),.int .i64 kk] rfl rfl Tryz.call43 (yJ code zi5 zi6 bs ac cc Fc kk H1 N1 K1 qg) ?_)
  clear H H1 N1 K1
  rintro _ w17 ⟨zi21,zi22,zi23,hx19,hx20,rfl,N,H⟩
  obtain ⟨b24,rfl⟩:=H.jW 1 rfl qf
  refine oI rfl rfl (sw (XE H 1 rfl 1 Tryz.sizeOf2 rfl rfl (i:=zi23.toNat) qf qf fun w25 H=>?_))
  try dsimp only [List.set] at H
  refine zjc (sq 2 (zjr (ret1 (.slice (some ⟨b24,0,none⟩) zl7.length rc10) rfl rfl ⟨_,rfl,(⟨zi21,zi22,(zl7.set zi23.toNat 1),(some ⟨b24,0,none⟩),zl7.length,rc10,qf,(by first | exact ⟨j1,by assumption⟩ | exact ⟨j1.put qf,j1.one q1 qf ‹_› qf⟩),rfl,N,H.zV 2 1 [0,1] [0] qo qo⟩)⟩)))
 ·skip
  refine qW (t_n (zcr (sq 2 (zjr (ret1 (.slice ra8 zl7.length rc10) rfl rfl ⟨_,rfl,(⟨zi5,zi6,zl7,ra8,zl7.length,rc10,qf,(by first | exact ⟨j1,by assumption⟩ | exact ⟨j1.put qf,j1.one q1 qf ‹_› qf⟩),rfl,N,H.zV 2 1 [0,1] [0] qo qo⟩)⟩)))))
theorem dRule_ok {W0 w:World} {ps:List Prv} {Γ:List Fact} {Ns:List yLN} (code:List UInt8) (ip:Int) (sd:Int) (bs:Nat) (ac:yOA) (cc:Nat) (Fc:yLN) (kk:Int) (par:yLI) (rules:List jw) (bY:Nat) (rap:yOA) (rnp:Nat) (rcp:Nat) (raR:yOA) (rnR:Nat) (rcR:Nat) (rxR:List Value) (rFR:yLN) (H:St W0 w ((.box bs [.slice ac code.length cc,.int .i64 ip,.int .u64 sd] 115) :: (.box bY [.int .i64 kk,.slice rap rnp rcp,.slice raR rnR rcR] 27) :: (rr rap rnp rcp 2 1 (par.map (Value.int .i64))) :: (rr raR rnR rcR 70 9 rxR) :: ps) ((sF false Fc ac cc code) :: (xB true rFR rxR rules) :: Γ)) (N:Fresh W0.heap.size (rFR :: Ns)) (K0:Kept Ns Γ) (q0:0≤ip∧ip≤60000) (f0:jL (⟨kk,par,rules⟩:qE)):Calls Tryz.prog 140 #[.pointer (some ⟨bs,0,none⟩),.pointer (some ⟨bY,0,none⟩)] w (fun e w' =>∃ v,e=.returned v∧∃ (ip_:Int) (sd_:Int) (cell_:Int) (rank_:Int) (need_:yLI) (have_:yLI) (lack_:yLI) (here_:yLI) (out_:yLI) (into_:List Xy) (melts_:Bool) (raN:yOA) (rnN:Nat) (rcN:Nat) (raH:yOA) (rnH:Nat) (rcH:Nat) (raL:yOA) (rnL:Nat) (rcL:Nat) (raE:yOA) (rnE:Nat) (rcE:Nat) (raO:yOA) (rnO:Nat) (rcO:Nat) (raI:yOA) (rnI:Nat) (rcI:Nat) (rxI:List Value) (rFI:yLN),(ip≤ip_∧ip_≤ip+300)∧(RuleDr kk par ⟨cell_,rank_,need_,have_,lack_,here_,out_,into_,melts_⟩)∧v=.agg #[.int .i64 cell_,.int .i64 rank_,.slice raN rnN rcN,.slice raH rnH rcH,.slice raL rnL rcL,.slice raE rnE rcE,.slice raO rnO rcO,.slice raI rnI rcI,.bool melts_]∧Fresh W0.heap.size (rFR :: rFI :: Ns)∧St W0 w' ((.box bs [.slice ac code.length cc,.int .i64 ip_,.int .u64 sd_] 115) :: (.box bY [.int .i64 kk,.slice rap rnp rcp,.slice raR rnR rcR] 27) :: (rr rap rnp rcp 2 1 (par.map (Value.int .i64))) :: (rr raR rnR rcR 70 9 rxR) :: (rr raN rnN rcN 2 1 (need_.map (Value.int .i64))) :: (rr raH rnH rcH 2 1 (have_.map (Value.int .i64))) :: (rr raL rnL rcL 2 1 (lack_.map (Value.int .i64))) :: (rr raE rnE rcE 2 1 (here_.map (Value.int .i64))) :: (rr raO rnO rcO 2 1 (out_.map (Value.int .i64))) :: (rr raI rnI rcI 128 2 rxI) :: ps) ((sF false Fc ac cc code) :: (xB true rFR rxR rules) :: (xB true rFI rxI into_) :: Γ)):=by
 refine en Tryz.func140 Tryz.ntmps140 ?_
 have ncode:=qM (H.get 0 rfl).1
 obtain rfl:=H.jm 2 rfl
 obtain rfl:=H.xK (α:=jw) 3 rfl 1 rfl qj
 have f1:1≤kk∧kk≤8:=f0.1
 have f2:1≤par.length∧par.length≤6:=f0.2.1
 refine zcr (sw (xx H ti70 [.int .i64 0,.int .i64 0,.slice none 0 0,.slice none 0 0,.slice none 0 0,.slice none 0 0,.slice none 0 0,.slice none 0 0,.bool false] fun b1 w2 H=>zjc (sq 2 (oF rfl (oL rfl (H.cell 2 rfl rfl) (oN rfl (sq 1 (zjn (xQ ?_)))))))))
 refine c_cut (fun ρ w13=>∃ (xM:Env) (zi3:Int) (zi4:Int) (zi5:Int) (zl6:yLI) (b7:Nat) (ra8:yOA) (rc9:Nat) (b10:Nat) (b11:Nat) (zi12:Int),ρ=upd (upd (upd (upd (upd xM 0 (.pointer (some ⟨bs,0,none⟩))) 1 (.pointer (some ⟨bY,0,none⟩))) 4 (.pointer (some ⟨b1,0,none⟩))) 5 (.int .i64 par.length)) 6 (.pointer (some ⟨b7,0,none⟩))∧(ip≤zi3∧zi3≤ip+2)∧(0≤zi4∧(zi4 < par.length∨zi4=0))∧(zi3≤zi5∧zi5≤zi3+24)∧(zX kk (2:Int) zl6∧QM zl6≠0)∧Fresh W0.heap.size (rFR :: Ns)∧St W0 w13 ((.box b7 [.int .i64 zi4,.int .i64 0,.slice ra8 zl6.length rc9,.slice (some ⟨b10,0,none⟩) kk.toNat kk.toNat,.slice (some ⟨b11,0,none⟩) kk.toNat kk.toNat,.slice none 0 0,.slice none 0 0,.slice none 0 0,.bool false] 70) :: (rr (some ⟨b11,0,none⟩) kk.toNat kk.toNat 2 1 ((List.replicate kk.toNat (0:Int)).map (Value.int .i64))) :: (rr (some ⟨b10,0,none⟩) kk.toNat kk.toNat 2 1 ((List.replicate kk.toNat (0:Int)).map (Value.int .i64))) :: (.box bs [.slice ac code.length cc,.int .i64 zi5,.int .u64 zi12] 115) :: (rr ra8 zl6.length rc9 2 1 (zl6.map (Value.int .i64))) :: (.box b1 [.int .i64 0,.int .i64 0,.slice none 0 0,.slice none 0 0,.slice none 0 0,.slice none 0 0,.slice none 0 0,.slice none 0 0,.bool false] 70) :: (.box bY [.int .i64 kk,.slice rap par.length rcp,.slice raR rules.length rcR] 27) :: (rr rap par.length rcp 2 1 (par.map (Value.int .i64))) :: (rr raR rules.length rcR 70 9 rxR) :: ps) ((sF false Fc ac cc code) :: (xB true rFR rxR rules) :: Γ)) ?_ ?_
 ·skip
  refine XL rfl H [0,2,3,4] [0,1] fun H=>?_
  refine Qx (fun ρ w25=>∃ (xM:Env) (zi15:Int) (zi16:Int) (zi17:Int) (zl18:yLI) (ra19:yOA) (rc20:Nat) (b21:Nat) (b22:Nat) (zi23:Int),ρ=upd (upd (upd (upd (upd (upd (upd (upd xM 0 (.pointer (some ⟨bs,0,none⟩))) 1 (.pointer (some ⟨bY,0,none⟩))) 4 (.pointer (some ⟨b1,0,none⟩))) 5 (.int .i64 par.length)) 15 (.int .i64 zi16)) 21 (.slice ra19 zl18.length rc20)) 26 (.slice (some ⟨b21,0,none⟩) kk.toNat kk.toNat)) 31 (.slice (some ⟨b22,0,none⟩) kk.toNat kk.toNat)∧(ip≤zi15∧zi15≤ip+2)∧(0≤zi16∧(zi16 < par.length∨zi16=0))∧(zi15≤zi17∧zi17≤zi15+24)∧(zX kk (2:Int) zl18∧QM zl18≠0)∧Fresh W0.heap.size (rFR :: Ns)∧St W0 w25 ((rr (some ⟨b22,0,none⟩) kk.toNat kk.toNat 2 1 ((List.replicate kk.toNat (0:Int)).map (Value.int .i64))) :: (rr (some ⟨b21,0,none⟩) kk.toNat kk.toNat 2 1 ((List.replicate kk.toNat (0:Int)).map (Value.int .i64))) :: (.box bs [.slice ac code.length cc,.int .i64 zi17,.int .u64 zi23] 115) :: (rr ra19 zl18.length rc20 2 1 (zl18.map (Value.int .i64))) :: (.box b1 [.int .i64 0,.int .i64 0,.slice none 0 0,.slice none 0 0,.slice none 0 0,.slice none 0 0,.slice none 0 0,.slice none 0 0,.bool false] 70) :: (.box bY [.int .i64 kk,.slice rap par.length rcp,.slice raR rules.length rcR] 27) :: (rr rap par.length rcp 2 1 (par.map (Value.int .i64))) :: (rr raR rules.length rcR 70 9 rxR) :: ps) ((sF false Fc ac cc code) :: (xB true rFR rxR rules) :: Γ)) 3 #[true,true,true,true,true,true,true,true,true,true,true,true,true,true,true,true,true,true,true,false,false,false] ?_ fun L24=>?_
  ·skip
   rintro ρ w26 ⟨xM,zi15,zi16,zi17,zl18,ra19,rc20,b21,b22,zi23,rfl,hx27,hx28,hx29,hx30,N,H⟩
   refine zY [19,20] qh qm (jd rfl ?_ (jd rfl ?_ zZ))
   ·skip
    refine zO [.int .i64 zi16,.int .i64 0,.slice ra19 zl18.length rc20,.slice (some ⟨b21,0,none⟩) kk.toNat kk.toNat,.slice (some ⟨b22,0,none⟩) kk.toNat kk.toNat,.slice none 0 0,.slice none 0 0,.slice none 0 0,.bool false] [(0,.int .i64 zi16),(2,.slice ra19 zl18.length rc20),(3,.slice (some ⟨b21,0,none⟩) kk.toNat kk.toNat),(4,.slice (some ⟨b22,0,none⟩) kk.toNat kk.toNat)] (⟨H.pick [4,5,6,7] [0,1],(ro 20 rfl (xx H ti70 [.int .i64 0,.int .i64 0,.slice none 0 0,.slice none 0 0,.slice none 0 0,.slice none 0 0,.slice none 0 0,.slice none 0 0,.bool false] fun b31 w32 H=>⟨H.pick [5,6,7,8] [0,1],(ro 21 rfl ?_)⟩))⟩)
    refine xG H 0 [.int .i64 zi16,.int .i64 0,.slice ra19 zl18.length rc20,.slice (some ⟨b21,0,none⟩) kk.toNat kk.toNat,.slice (some ⟨b22,0,none⟩) kk.toNat kk.toNat,.slice none 0 0,.slice none 0 0,.slice none 0 0,.bool false] Tryz.sizeOf70 fun w33 H=>?_
    try dsimp only [List.set] at H
    refine ⟨H.pick [5,6,7,8] [0,1],(xq qh ((meet ⟨_,zi15,zi16,zi17,zl18,b31,ra19,rc20,b21,b22,zi23,uE5,hx27,hx28,hx29,hx30,N,H⟩)))⟩
   ·skip
    refine xx H ti70 [.int .i64 0,.int .i64 0,.slice none 0 0,.slice none 0 0,.slice none 0 0,.slice none 0 0,.slice none 0 0,.slice none 0 0,.bool false] fun b34 w35 H=>⟨H.pick [5,6,7,8] [0,1],(ro 19 rfl (zO [.int .i64 zi16,.int .i64 0,.slice ra19 zl18.length rc20,.slice (some ⟨b21,0,none⟩) kk.toNat kk.toNat,.slice (some ⟨b22,0,none⟩) kk.toNat kk.toNat,.slice none 0 0,.slice none 0 0,.slice none 0 0,.bool false] [(0,.int .i64 zi16),(2,.slice ra19 zl18.length rc20),(3,.slice (some ⟨b21,0,none⟩) kk.toNat kk.toNat),(4,.slice (some ⟨b22,0,none⟩) kk.toNat kk.toNat)] (⟨H.pick [5,6,7,8] [0,1],(ro 21 rfl ?_)⟩)))⟩
    refine xG H 0 [.int .i64 zi16,.int .i64 0,.slice ra19 zl18.length rc20,.slice (some ⟨b21,0,none⟩) kk.toNat kk.toNat,.slice (some ⟨b22,0,none⟩) kk.toNat kk.toNat,.slice none 0 0,.slice none 0 0,.slice none 0 0,.bool false] Tryz.sizeOf70 fun w36 H=>?_
    try dsimp only [List.set] at H
    refine ⟨H.pick [5,6,7,8] [0,1],(xq qh ((meet ⟨_,zi15,zi16,zi17,zl18,b34,ra19,rc20,b21,b22,zi23,uE5,hx27,hx28,hx29,hx30,N,H⟩)))⟩
  refine Qx (fun ρ w46=>∃ (xM:Env) (zi37:Int) (zi38:Int) (zi39:Int) (zl40:yLI) (ra41:yOA) (rc42:Nat) (b43:Nat) (zi44:Int),ρ=upd (upd (upd (upd (upd (upd (upd (upd xM 0 (.pointer (some ⟨bs,0,none⟩))) 1 (.pointer (some ⟨bY,0,none⟩))) 4 (.pointer (some ⟨b1,0,none⟩))) 5 (.int .i64 par.length)) 15 (.int .i64 zi38)) 21 (.slice ra41 zl40.length rc42)) 26 (.slice (some ⟨b43,0,none⟩) kk.toNat kk.toNat)) 30 (.int .i64 kk)∧(ip≤zi37∧zi37≤ip+2)∧(0≤zi38∧(zi38 < par.length∨zi38=0))∧(zi37≤zi39∧zi39≤zi37+24)∧(zX kk (2:Int) zl40∧QM zl40≠0)∧Fresh W0.heap.size (rFR :: Ns)∧St W0 w46 ((rr (some ⟨b43,0,none⟩) kk.toNat kk.toNat 2 1 ((List.replicate kk.toNat (0:Int)).map (Value.int .i64))) :: (.box bs [.slice ac code.length cc,.int .i64 zi39,.int .u64 zi44] 115) :: (rr ra41 zl40.length rc42 2 1 (zl40.map (Value.int .i64))) :: (.box b1 [.int .i64 0,.int .i64 0,.slice none 0 0,.slice none 0 0,.slice none 0 0,.slice none 0 0,.slice none 0 0,.slice none 0 0,.bool false] 70) :: (.box bY [.int .i64 kk,.slice rap par.length rcp,.slice raR rules.length rcR] 27) :: (rr rap par.length rcp 2 1 (par.map (Value.int .i64))) :: (rr raR rules.length rcR 70 9 rxR) :: ps) ((sF false Fc ac cc code) :: (xB true rFR rxR rules) :: Γ)) 4 #[true,true,true,true,true,true,true,true,true,true,true,true,true,true,true,true,true,true,false,false,false,false] ?_ fun L45=>?_
  ·skip
   rintro ρ w47 ⟨xM,zi37,zi38,zi39,zl40,ra41,rc42,b43,zi44,rfl,hx48,hx49,hx50,hx51,N,H⟩
   refine zY [18,20] qh qm (jd rfl ?_ (jd rfl ?_ zZ))
   ·skip
    refine vM H Tryz.underlying24 ti2 kk.toNat rfl rfl qf qf qf fun b52 w53 H=>⟨H.pick [4,5,6,7] [0,1],(yc L24 ⟨_,zi37,zi38,zi39,zl40,ra41,rc42,b43,b52,zi44,uE8,hx48,hx49,hx50,hx51,N,H⟩)⟩
   ·skip
    refine xx H ti70 [.int .i64 0,.int .i64 0,.slice none 0 0,.slice none 0 0,.slice none 0 0,.slice none 0 0,.slice none 0 0,.slice none 0 0,.bool false] fun b54 w55 H=>⟨H.pick [4,5,6,7] [0,1],(ro 18 rfl (vM H Tryz.underlying24 ti2 kk.toNat rfl rfl qf qf qf fun b56 w57 H=>⟨H.pick [5,6,7,8] [0,1],(ro 19 rfl ?_)⟩))⟩
    refine zO [.int .i64 zi38,.int .i64 0,.slice ra41 zl40.length rc42,.slice (some ⟨b43,0,none⟩) kk.toNat kk.toNat,.slice (some ⟨b56,0,none⟩) kk.toNat kk.toNat,.slice none 0 0,.slice none 0 0,.slice none 0 0,.bool false] [(0,.int .i64 zi38),(2,.slice ra41 zl40.length rc42),(3,.slice (some ⟨b43,0,none⟩) kk.toNat kk.toNat),(4,.slice (some ⟨b56,0,none⟩) kk.toNat kk.toNat)] (⟨H.pick [5,6,7,8] [0,1],(ro 21 rfl ?_)⟩)
    refine xG H 1 [.int .i64 zi38,.int .i64 0,.slice ra41 zl40.length rc42,.slice (some ⟨b43,0,none⟩) kk.toNat kk.toNat,.slice (some ⟨b56,0,none⟩) kk.toNat kk.toNat,.slice none 0 0,.slice none 0 0,.slice none 0 0,.bool false] Tryz.sizeOf70 fun w58 H=>?_
    try dsimp only [List.set] at H
    refine ⟨H.pick [5,6,7,8] [0,1],(xq qh ((meet ⟨_,zi37,zi38,zi39,zl40,b54,ra41,rc42,b43,b56,zi44,uE5,hx48,hx49,hx50,hx51,N,H.zV 9 2 [1,0,2,3,4,5,6,7,8] [0,1] qo qo⟩)))⟩
  refine Qx (fun ρ w68=>∃ (xM:Env) (zi59:Int) (zi60:Int) (zi61:Int) (zl62:yLI) (ra63:yOA) (rc64:Nat) (b65:Nat) (zi66:Int),ρ=upd (upd (upd (upd (upd (upd (upd (upd xM 0 (.pointer (some ⟨bs,0,none⟩))) 1 (.pointer (some ⟨bY,0,none⟩))) 4 (.pointer (some ⟨b1,0,none⟩))) 5 (.int .i64 par.length)) 15 (.int .i64 zi60)) 21 (.slice ra63 zl62.length rc64)) 25 (.int .i64 kk)) 31 (.slice (some ⟨b65,0,none⟩) kk.toNat kk.toNat)∧(ip≤zi59∧zi59≤ip+2)∧(0≤zi60∧(zi60 < par.length∨zi60=0))∧(zi59≤zi61∧zi61≤zi59+24)∧(zX kk (2:Int) zl62∧QM zl62≠0)∧Fresh W0.heap.size (rFR :: Ns)∧St W0 w68 ((rr (some ⟨b65,0,none⟩) kk.toNat kk.toNat 2 1 ((List.replicate kk.toNat (0:Int)).map (Value.int .i64))) :: (.box bs [.slice ac code.length cc,.int .i64 zi61,.int .u64 zi66] 115) :: (rr ra63 zl62.length rc64 2 1 (zl62.map (Value.int .i64))) :: (.box b1 [.int .i64 0,.int .i64 0,.slice none 0 0,.slice none 0 0,.slice none 0 0,.slice none 0 0,.slice none 0 0,.slice none 0 0,.bool false] 70) :: (.box bY [.int .i64 kk,.slice rap par.length rcp,.slice raR rules.length rcR] 27) :: (rr rap par.length rcp 2 1 (par.map (Value.int .i64))) :: (rr raR rules.length rcR 70 9 rxR) :: ps) ((sF false Fc ac cc code) :: (xB true rFR rxR rules) :: Γ)) 4 #[true,true,true,true,true,true,true,true,true,true,true,true,true,false,true,true,true,true,true,false,false,false] ?_ fun L67=>?_
  ·skip
   rintro ρ w69 ⟨xM,zi59,zi60,zi61,zl62,ra63,rc64,b65,zi66,rfl,hx70,hx71,hx72,hx73,N,H⟩
   refine zY [13,20] qh qm (jd rfl ?_ (jd rfl ?_ zZ))
   ·skip
    refine vM H Tryz.underlying24 ti2 kk.toNat rfl rfl qf qf qf fun b74 w75 H=>⟨H.pick [4,5,6,7] [0,1],(yc L24 ⟨_,zi59,zi60,zi61,zl62,ra63,rc64,b74,b65,zi66,uE8,hx70,hx71,hx72,hx73,N,H.zV 8 2 [1,0,2,3,4,5,6,7] [0,1] qo qo⟩)⟩
   ·skip
    refine xx H ti70 [.int .i64 0,.int .i64 0,.slice none 0 0,.slice none 0 0,.slice none 0 0,.slice none 0 0,.slice none 0 0,.slice none 0 0,.bool false] fun b76 w77 H=>⟨H.pick [4,5,6,7] [0,1],(ro 13 rfl (vM H Tryz.underlying24 ti2 kk.toNat rfl rfl qf qf qf fun b78 w79 H=>⟨H.pick [5,6,7,8] [0,1],(ro 19 rfl ?_)⟩))⟩
    refine zO [.int .i64 zi60,.int .i64 0,.slice ra63 zl62.length rc64,.slice (some ⟨b78,0,none⟩) kk.toNat kk.toNat,.slice (some ⟨b65,0,none⟩) kk.toNat kk.toNat,.slice none 0 0,.slice none 0 0,.slice none 0 0,.bool false] [(0,.int .i64 zi60),(2,.slice ra63 zl62.length rc64),(3,.slice (some ⟨b78,0,none⟩) kk.toNat kk.toNat),(4,.slice (some ⟨b65,0,none⟩) kk.toNat kk.toNat)] (⟨H.pick [5,6,7,8] [0,1],(ro 21 rfl ?_)⟩)
    refine xG H 1 [.int .i64 zi60,.int .i64 0,.slice ra63 zl62.length rc64,.slice (some ⟨b78,0,none⟩) kk.toNat kk.toNat,.slice (some ⟨b65,0,none⟩) kk.toNat kk.toNat,.slice none 0 0,.slice none 0 0,.slice none 0 0,.bool false] Tryz.sizeOf70 fun w80 H=>?_
    try dsimp only [List.set] at H
    refine ⟨H.pick [5,6,7,8] [0,1],(xq qh ((meet ⟨_,zi59,zi60,zi61,zl62,b76,ra63,rc64,b78,b65,zi66,uE5,hx70,hx71,hx72,hx73,N,H.zV 9 2 [1,2,0,3,4,5,6,7,8] [0,1] qo qo⟩)))⟩
  refine Qx (fun ρ w90=>∃ (xM:Env) (zi81:Int) (zi82:Int) (zi83:Int) (zl84:yLI) (ra85:yOA) (rc86:Nat) (b87:Nat) (zi88:Int),ρ=upd (upd (upd (upd (upd (upd (upd (upd (upd xM 0 (.pointer (some ⟨bs,0,none⟩))) 1 (.pointer (some ⟨bY,0,none⟩))) 4 (.pointer (some ⟨b1,0,none⟩))) 5 (.int .i64 par.length)) 6 (.pointer (some ⟨b87,0,none⟩))) 15 (.int .i64 zi82)) 21 (.slice ra85 zl84.length rc86)) 25 (.int .i64 kk)) 30 (.int .i64 kk)∧(ip≤zi81∧zi81≤ip+2)∧(0≤zi82∧(zi82 < par.length∨zi82=0))∧(zi81≤zi83∧zi83≤zi81+24)∧(zX kk (2:Int) zl84∧QM zl84≠0)∧Fresh W0.heap.size (rFR :: Ns)∧St W0 w90 ((.box b87 [.int .i64 0,.int .i64 0,.slice none 0 0,.slice none 0 0,.slice none 0 0,.slice none 0 0,.slice none 0 0,.slice none 0 0,.bool false] 70) :: (.box bs [.slice ac code.length cc,.int .i64 zi83,.int .u64 zi88] 115) :: (rr ra85 zl84.length rc86 2 1 (zl84.map (Value.int .i64))) :: (.box b1 [.int .i64 0,.int .i64 0,.slice none 0 0,.slice none 0 0,.slice none 0 0,.slice none 0 0,.slice none 0 0,.slice none 0 0,.bool false] 70) :: (.box bY [.int .i64 kk,.slice rap par.length rcp,.slice raR rules.length rcR] 27) :: (rr rap par.length rcp 2 1 (par.map (Value.int .i64))) :: (rr raR rules.length rcR 70 9 rxR) :: ps) ((sF false Fc ac cc code) :: (xB true rFR rxR rules) :: Γ)) 4 #[true,true,true,true,true,true,true,true,true,true,true,true,true,false,true,true,true,true,false,false,true,false] ?_ fun L89=>?_
  ·skip
   rintro ρ w91 ⟨xM,zi81,zi82,zi83,zl84,ra85,rc86,b87,zi88,rfl,hx92,hx93,hx94,hx95,N,H⟩
   refine zY [13,18] qh qm (jd rfl ?_ (jd rfl ?_ zZ))
   ·skip
    refine vM H Tryz.underlying24 ti2 kk.toNat rfl rfl qf qf qf fun b96 w97 H=>⟨H.pick [4,5,6,7] [0,1],(ro 18 rfl (vM H Tryz.underlying24 ti2 kk.toNat rfl rfl qf qf qf fun b98 w99 H=>⟨H.pick [5,6,7,8] [0,1],(ro 19 rfl (zO [.int .i64 zi82,.int .i64 0,.slice ra85 zl84.length rc86,.slice (some ⟨b96,0,none⟩) kk.toNat kk.toNat,.slice (some ⟨b98,0,none⟩) kk.toNat kk.toNat,.slice none 0 0,.slice none 0 0,.slice none 0 0,.bool false] [(0,.int .i64 zi82),(2,.slice ra85 zl84.length rc86),(3,.slice (some ⟨b96,0,none⟩) kk.toNat kk.toNat),(4,.slice (some ⟨b98,0,none⟩) kk.toNat kk.toNat)] ?_))⟩))⟩
    refine ⟨H.pick [5,6,7,8] [0,1],(ro 21 rfl (xG H 2 [.int .i64 zi82,.int .i64 0,.slice ra85 zl84.length rc86,.slice (some ⟨b96,0,none⟩) kk.toNat kk.toNat,.slice (some ⟨b98,0,none⟩) kk.toNat kk.toNat,.slice none 0 0,.slice none 0 0,.slice none 0 0,.bool false] Tryz.sizeOf70 fun w100 H=>?_))⟩
    try dsimp only [List.set] at H
    refine ⟨H.pick [5,6,7,8] [0,1],(xq qh ((meet ⟨_,zi81,zi82,zi83,zl84,b87,ra85,rc86,b96,b98,zi88,uE5,hx92,hx93,hx94,hx95,N,H.zV 9 2 [2,0,1,3,4,5,6,7,8] [0,1] qo qo⟩)))⟩
   ·skip
    refine vM H Tryz.underlying24 ti2 kk.toNat rfl rfl qf qf qf fun b101 w102 H=>⟨H.pick [4,5,6,7] [0,1],(ro 13 rfl (vM H Tryz.underlying24 ti2 kk.toNat rfl rfl qf qf qf fun b103 w104 H=>⟨H.pick [5,6,7,8] [0,1],(ro 19 rfl (zO [.int .i64 zi82,.int .i64 0,.slice ra85 zl84.length rc86,.slice (some ⟨b103,0,none⟩) kk.toNat kk.toNat,.slice (some ⟨b101,0,none⟩) kk.toNat kk.toNat,.slice none 0 0,.slice none 0 0,.slice none 0 0,.bool false] [(0,.int .i64 zi82),(2,.slice ra85 zl84.length rc86),(3,.slice (some ⟨b103,0,none⟩) kk.toNat kk.toNat),(4,.slice (some ⟨b101,0,none⟩) kk.toNat kk.toNat)] ?_))⟩))⟩
    refine ⟨H.pick [5,6,7,8] [0,1],(ro 21 rfl (xG H 2 [.int .i64 zi82,.int .i64 0,.slice ra85 zl84.length rc86,.slice (some ⟨b103,0,none⟩) kk.toNat kk.toNat,.slice (some ⟨b101,0,none⟩) kk.toNat kk.toNat,.slice none 0 0,.slice none 0 0,.slice none 0 0,.bool false] Tryz.sizeOf70 fun w105 H=>?_))⟩
    try dsimp only [List.set] at H
    refine ⟨H.pick [5,6,7,8] [0,1],(xq qh ((meet ⟨_,zi81,zi82,zi83,zl84,b87,ra85,rc86,b103,b101,zi88,uE5,hx92,hx93,hx94,hx95,N,H.zV 9 2 [2,1,0,3,4,5,6,7,8] [0,1] qo qo⟩)))⟩
  refine Qx (fun ρ w112=>∃ (xM:Env) (zi106:Int) (zi107:Int) (b108:Nat) (b109:Nat) (zi110:Int),ρ=upd (upd (upd (upd (upd (upd (upd (upd (upd xM 0 (.pointer (some ⟨bs,0,none⟩))) 1 (.pointer (some ⟨bY,0,none⟩))) 4 (.pointer (some ⟨b1,0,none⟩))) 5 (.int .i64 par.length)) 15 (.int .i64 zi107)) 16 (.pointer (some ⟨bs,0,none⟩))) 20 (.int .i64 kk)) 26 (.slice (some ⟨b108,0,none⟩) kk.toNat kk.toNat)) 31 (.slice (some ⟨b109,0,none⟩) kk.toNat kk.toNat)∧(ip≤zi106∧zi106≤ip+2)∧(0≤zi107∧(zi107 < par.length∨zi107=0))∧Fresh W0.heap.size (rFR :: Ns)∧St W0 w112 ((rr (some ⟨b109,0,none⟩) kk.toNat kk.toNat 2 1 ((List.replicate kk.toNat (0:Int)).map (Value.int .i64))) :: (rr (some ⟨b108,0,none⟩) kk.toNat kk.toNat 2 1 ((List.replicate kk.toNat (0:Int)).map (Value.int .i64))) :: (.box bs [.slice ac code.length cc,.int .i64 zi106,.int .u64 zi110] 115) :: (.box b1 [.int .i64 0,.int .i64 0,.slice none 0 0,.slice none 0 0,.slice none 0 0,.slice none 0 0,.slice none 0 0,.slice none 0 0,.bool false] 70) :: (.box bY [.int .i64 kk,.slice rap par.length rcp,.slice raR rules.length rcR] 27) :: (rr rap par.length rcp 2 1 (par.map (Value.int .i64))) :: (rr raR rules.length rcR 70 9 rxR) :: ps) ((sF false Fc ac cc code) :: (xB true rFR rxR rules) :: Γ)) 4 #[true,true,true,true,true,true,true,true,false,true,true,true,true,true,true,true,true,true,true,false,false,false] ?_ fun L111=>?_
  ·skip
   rintro ρ w113 ⟨xM,zi106,zi107,b108,b109,zi110,rfl,hx114,hx115,N,H⟩
   refine zY [8,20] qh qm (jd rfl ?_ (jd rfl ?_ zZ))
   ·skip
    have H1:=H.yg 7 2 [2,0,1,3,4,5,6] [0,1] qo qo
    have N1:Fresh _ (rFR :: Ns):=N
    have K1:Kept (Ns) ((xB true rFR rxR rules) :: Γ):=K0.behind 1 rfl
    replace K1:=K1.cons (F:=rFR) 0 rfl rfl
    refine zJ #[.pointer (some ⟨bs,0,none⟩),.int .i64 kk,.int .i64 2] rfl rfl Tryz.call183 (QC code zi106 zi110 bs ac cc Fc kk (2:Int) H1 N1 K1 qg qg qg) ?_
    clear H H1 N1 K1
    rintro _ w116 ⟨zi120,zi121,zl122,ra123,rn124,rc125,hx118,hx119,rfl,N,H⟩
    obtain rfl:=H.jm 1 rfl
    refine ⟨H.pick [4,5,6,7] [0,1],(yc L24 ⟨_,zi106,zi107,zi120,zl122,ra123,rc125,b108,b109,zi121,uE8,hx114,hx115,hx118,hx119,N,H.zV 8 2 [2,3,0,1,4,5,6,7] [0,1] qo qo⟩)⟩
   ·skip
    refine xx H ti70 [.int .i64 0,.int .i64 0,.slice none 0 0,.slice none 0 0,.slice none 0 0,.slice none 0 0,.slice none 0 0,.slice none 0 0,.bool false] fun b126 w127 H=>⟨H.pick [4,5,6,7] [0,1],(ro 8 rfl ?_)⟩
    have H1:=H.yg 8 2 [3,0,1,2,4,5,6,7] [0,1] qo qo
    have N1:Fresh _ (rFR :: Ns):=N
    have K1:Kept (Ns) ((xB true rFR rxR rules) :: Γ):=K0.behind 1 rfl
    replace K1:=K1.cons (F:=rFR) 0 rfl rfl
    refine zJ #[.pointer (some ⟨bs,0,none⟩),.int .i64 kk,.int .i64 2] rfl rfl Tryz.call183 (QC code zi106 zi110 bs ac cc Fc kk (2:Int) H1 N1 K1 qg qg qg) ?_
    clear H H1 N1 K1
    rintro _ w128 ⟨zi132,zi133,zl134,ra135,rn136,rc137,hx130,hx131,rfl,N,H⟩
    obtain rfl:=H.jm 1 rfl
    refine ⟨H.pick [5,6,7,8] [0,1],(ro 19 rfl (zO [.int .i64 zi107,.int .i64 0,.slice ra135 zl134.length rc137,.slice (some ⟨b108,0,none⟩) kk.toNat kk.toNat,.slice (some ⟨b109,0,none⟩) kk.toNat kk.toNat,.slice none 0 0,.slice none 0 0,.slice none 0 0,.bool false] [(0,.int .i64 zi107),(2,.slice ra135 zl134.length rc137),(3,.slice (some ⟨b108,0,none⟩) kk.toNat kk.toNat),(4,.slice (some ⟨b109,0,none⟩) kk.toNat kk.toNat)] (⟨H.pick [5,6,7,8] [0,1],(ro 21 rfl ?_)⟩)))⟩
    refine xG H 2 [.int .i64 zi107,.int .i64 0,.slice ra135 zl134.length rc137,.slice (some ⟨b108,0,none⟩) kk.toNat kk.toNat,.slice (some ⟨b109,0,none⟩) kk.toNat kk.toNat,.slice none 0 0,.slice none 0 0,.slice none 0 0,.bool false] Tryz.sizeOf70 fun w138 H=>?_
    try dsimp only [List.set] at H
    refine ⟨H.pick [5,6,7,8] [0,1],(xq qh ((meet ⟨_,zi106,zi107,zi132,zl134,b126,ra135,rc137,b108,b109,zi133,uE5,hx114,hx115,hx130,hx131,N,H.zV 9 2 [2,3,4,0,1,5,6,7,8] [0,1] qo qo⟩)))⟩
  refine Qx (fun ρ w145=>∃ (xM:Env) (zi139:Int) (zi140:Int) (b141:Nat) (b142:Nat) (zi143:Int),ρ=upd (upd (upd (upd (upd (upd (upd (upd (upd (upd xM 0 (.pointer (some ⟨bs,0,none⟩))) 1 (.pointer (some ⟨bY,0,none⟩))) 4 (.pointer (some ⟨b1,0,none⟩))) 5 (.int .i64 par.length)) 6 (.pointer (some ⟨b142,0,none⟩))) 15 (.int .i64 zi140)) 16 (.pointer (some ⟨bs,0,none⟩))) 20 (.int .i64 kk)) 26 (.slice (some ⟨b141,0,none⟩) kk.toNat kk.toNat)) 30 (.int .i64 kk)∧(ip≤zi139∧zi139≤ip+2)∧(0≤zi140∧(zi140 < par.length∨zi140=0))∧Fresh W0.heap.size (rFR :: Ns)∧St W0 w145 ((.box b142 [.int .i64 0,.int .i64 0,.slice none 0 0,.slice none 0 0,.slice none 0 0,.slice none 0 0,.slice none 0 0,.slice none 0 0,.bool false] 70) :: (rr (some ⟨b141,0,none⟩) kk.toNat kk.toNat 2 1 ((List.replicate kk.toNat (0:Int)).map (Value.int .i64))) :: (.box bs [.slice ac code.length cc,.int .i64 zi139,.int .u64 zi143] 115) :: (.box b1 [.int .i64 0,.int .i64 0,.slice none 0 0,.slice none 0 0,.slice none 0 0,.slice none 0 0,.slice none 0 0,.slice none 0 0,.bool false] 70) :: (.box bY [.int .i64 kk,.slice rap par.length rcp,.slice raR rules.length rcR] 27) :: (rr rap par.length rcp 2 1 (par.map (Value.int .i64))) :: (rr raR rules.length rcR 70 9 rxR) :: ps) ((sF false Fc ac cc code) :: (xB true rFR rxR rules) :: Γ)) 4 #[true,true,true,true,true,true,true,true,false,true,true,true,true,true,true,true,true,true,false,false,true,false] ?_ fun L144=>?_
  ·skip
   rintro ρ w146 ⟨xM,zi139,zi140,b141,b142,zi143,rfl,hx147,hx148,N,H⟩
   refine zY [8,18] qh qm (jd rfl ?_ (jd rfl ?_ zZ))
   ·skip
    have H1:=H.yg 7 2 [2,0,1,3,4,5,6] [0,1] qo qo
    have N1:Fresh _ (rFR :: Ns):=N
    have K1:Kept (Ns) ((xB true rFR rxR rules) :: Γ):=K0.behind 1 rfl
    replace K1:=K1.cons (F:=rFR) 0 rfl rfl
    refine zJ #[.pointer (some ⟨bs,0,none⟩),.int .i64 kk,.int .i64 2] rfl rfl Tryz.call183 (QC code zi139 zi143 bs ac cc Fc kk (2:Int) H1 N1 K1 qg qg qg) ?_
    clear H H1 N1 K1
    rintro _ w149 ⟨zi153,zi154,zl155,ra156,rn157,rc158,hx151,hx152,rfl,N,H⟩
    obtain rfl:=H.jm 1 rfl
    refine ⟨H.pick [4,5,6,7] [0,1],(ro 18 rfl (vM H Tryz.underlying24 ti2 kk.toNat rfl rfl qf qf qf fun b159 w160 H=>⟨H.pick [5,6,7,8] [0,1],(ro 19 rfl (zO [.int .i64 zi140,.int .i64 0,.slice ra156 zl155.length rc158,.slice (some ⟨b141,0,none⟩) kk.toNat kk.toNat,.slice (some ⟨b159,0,none⟩) kk.toNat kk.toNat,.slice none 0 0,.slice none 0 0,.slice none 0 0,.bool false] [(0,.int .i64 zi140),(2,.slice ra156 zl155.length rc158),(3,.slice (some ⟨b141,0,none⟩) kk.toNat kk.toNat),(4,.slice (some ⟨b159,0,none⟩) kk.toNat kk.toNat)] (⟨H.pick [5,6,7,8] [0,1],(ro 21 rfl ?_)⟩)))⟩))⟩
    refine xG H 3 [.int .i64 zi140,.int .i64 0,.slice ra156 zl155.length rc158,.slice (some ⟨b141,0,none⟩) kk.toNat kk.toNat,.slice (some ⟨b159,0,none⟩) kk.toNat kk.toNat,.slice none 0 0,.slice none 0 0,.slice none 0 0,.bool false] Tryz.sizeOf70 fun w161 H=>?_
    try dsimp only [List.set] at H
    refine ⟨H.pick [5,6,7,8] [0,1],(xq qh ((meet ⟨_,zi139,zi140,zi153,zl155,b142,ra156,rc158,b141,b159,zi154,uE5,hx147,hx148,hx151,hx152,N,H.zV 9 2 [3,0,4,1,2,5,6,7,8] [0,1] qo qo⟩)))⟩
   ·skip
    refine vM H Tryz.underlying24 ti2 kk.toNat rfl rfl qf qf qf fun b162 w163 H=>⟨H.pick [4,5,6,7] [0,1],(ro 8 rfl ?_)⟩
    have H1:=H.yg 8 2 [3,0,1,2,4,5,6,7] [0,1] qo qo
    have N1:Fresh _ (rFR :: Ns):=N
    have K1:Kept (Ns) ((xB true rFR rxR rules) :: Γ):=K0.behind 1 rfl
    replace K1:=K1.cons (F:=rFR) 0 rfl rfl
    refine zJ #[.pointer (some ⟨bs,0,none⟩),.int .i64 kk,.int .i64 2] rfl rfl Tryz.call183 (QC code zi139 zi143 bs ac cc Fc kk (2:Int) H1 N1 K1 qg qg qg) ?_
    clear H H1 N1 K1
    rintro _ w164 ⟨zi168,zi169,zl170,ra171,rn172,rc173,hx166,hx167,rfl,N,H⟩
    obtain rfl:=H.jm 1 rfl
    refine ⟨H.pick [5,6,7,8] [0,1],(ro 19 rfl (zO [.int .i64 zi140,.int .i64 0,.slice ra171 zl170.length rc173,.slice (some ⟨b141,0,none⟩) kk.toNat kk.toNat,.slice (some ⟨b162,0,none⟩) kk.toNat kk.toNat,.slice none 0 0,.slice none 0 0,.slice none 0 0,.bool false] [(0,.int .i64 zi140),(2,.slice ra171 zl170.length rc173),(3,.slice (some ⟨b141,0,none⟩) kk.toNat kk.toNat),(4,.slice (some ⟨b162,0,none⟩) kk.toNat kk.toNat)] (⟨H.pick [5,6,7,8] [0,1],(ro 21 rfl ?_)⟩)))⟩
    refine xG H 3 [.int .i64 zi140,.int .i64 0,.slice ra171 zl170.length rc173,.slice (some ⟨b141,0,none⟩) kk.toNat kk.toNat,.slice (some ⟨b162,0,none⟩) kk.toNat kk.toNat,.slice none 0 0,.slice none 0 0,.slice none 0 0,.bool false] Tryz.sizeOf70 fun w174 H=>?_
    try dsimp only [List.set] at H
    refine ⟨H.pick [5,6,7,8] [0,1],(xq qh ((meet ⟨_,zi139,zi140,zi168,zl170,b142,ra171,rc173,b141,b162,zi169,uE5,hx147,hx148,hx166,hx167,N,H.zV 9 2 [3,2,4,0,1,5,6,7,8] [0,1] qo qo⟩)))⟩
  refine Qx (fun ρ w181=>∃ (xM:Env) (zi175:Int) (zi176:Int) (b177:Nat) (b178:Nat) (zi179:Int),ρ=upd (upd (upd (upd (upd (upd (upd (upd (upd (upd xM 0 (.pointer (some ⟨bs,0,none⟩))) 1 (.pointer (some ⟨bY,0,none⟩))) 4 (.pointer (some ⟨b1,0,none⟩))) 5 (.int .i64 par.length)) 6 (.pointer (some ⟨b178,0,none⟩))) 15 (.int .i64 zi176)) 16 (.pointer (some ⟨bs,0,none⟩))) 20 (.int .i64 kk)) 25 (.int .i64 kk)) 31 (.slice (some ⟨b177,0,none⟩) kk.toNat kk.toNat)∧(ip≤zi175∧zi175≤ip+2)∧(0≤zi176∧(zi176 < par.length∨zi176=0))∧Fresh W0.heap.size (rFR :: Ns)∧St W0 w181 ((.box b178 [.int .i64 0,.int .i64 0,.slice none 0 0,.slice none 0 0,.slice none 0 0,.slice none 0 0,.slice none 0 0,.slice none 0 0,.bool false] 70) :: (rr (some ⟨b177,0,none⟩) kk.toNat kk.toNat 2 1 ((List.replicate kk.toNat (0:Int)).map (Value.int .i64))) :: (.box bs [.slice ac code.length cc,.int .i64 zi175,.int .u64 zi179] 115) :: (.box b1 [.int .i64 0,.int .i64 0,.slice none 0 0,.slice none 0 0,.slice none 0 0,.slice none 0 0,.slice none 0 0,.slice none 0 0,.bool false] 70) :: (.box bY [.int .i64 kk,.slice rap par.length rcp,.slice raR rules.length rcR] 27) :: (rr rap par.length rcp 2 1 (par.map (Value.int .i64))) :: (rr raR rules.length rcR 70 9 rxR) :: ps) ((sF false Fc ac cc code) :: (xB true rFR rxR rules) :: Γ)) 4 #[true,true,true,true,true,true,true,true,false,true,true,true,true,false,true,true,true,true,true,false,true,false] ?_ fun L180=>?_
  ·skip
   rintro ρ w182 ⟨xM,zi175,zi176,b177,b178,zi179,rfl,hx183,hx184,N,H⟩
   refine zY [8,13] qh qm (jd rfl ?_ (jd rfl ?_ zZ))
   ·skip
    have H1:=H.yg 7 2 [2,0,1,3,4,5,6] [0,1] qo qo
    have N1:Fresh _ (rFR :: Ns):=N
    have K1:Kept (Ns) ((xB true rFR rxR rules) :: Γ):=K0.behind 1 rfl
    replace K1:=K1.cons (F:=rFR) 0 rfl rfl
    refine zJ #[.pointer (some ⟨bs,0,none⟩),.int .i64 kk,.int .i64 2] rfl rfl Tryz.call183 (QC code zi175 zi179 bs ac cc Fc kk (2:Int) H1 N1 K1 qg qg qg) ?_
    clear H H1 N1 K1
    rintro _ w185 ⟨zi189,zi190,zl191,ra192,rn193,rc194,hx187,hx188,rfl,N,H⟩
    obtain rfl:=H.jm 1 rfl
    refine ⟨H.pick [4,5,6,7] [0,1],(ro 13 rfl (vM H Tryz.underlying24 ti2 kk.toNat rfl rfl qf qf qf fun b195 w196 H=>⟨H.pick [5,6,7,8] [0,1],(ro 19 rfl (zO [.int .i64 zi176,.int .i64 0,.slice ra192 zl191.length rc194,.slice (some ⟨b195,0,none⟩) kk.toNat kk.toNat,.slice (some ⟨b177,0,none⟩) kk.toNat kk.toNat,.slice none 0 0,.slice none 0 0,.slice none 0 0,.bool false] [(0,.int .i64 zi176),(2,.slice ra192 zl191.length rc194),(3,.slice (some ⟨b195,0,none⟩) kk.toNat kk.toNat),(4,.slice (some ⟨b177,0,none⟩) kk.toNat kk.toNat)] (⟨H.pick [5,6,7,8] [0,1],(ro 21 rfl ?_)⟩)))⟩))⟩
    refine xG H 3 [.int .i64 zi176,.int .i64 0,.slice ra192 zl191.length rc194,.slice (some ⟨b195,0,none⟩) kk.toNat kk.toNat,.slice (some ⟨b177,0,none⟩) kk.toNat kk.toNat,.slice none 0 0,.slice none 0 0,.slice none 0 0,.bool false] Tryz.sizeOf70 fun w197 H=>?_
    try dsimp only [List.set] at H
    refine ⟨H.pick [5,6,7,8] [0,1],(xq qh ((meet ⟨_,zi175,zi176,zi189,zl191,b178,ra192,rc194,b195,b177,zi190,uE5,hx183,hx184,hx187,hx188,N,H.zV 9 2 [3,4,0,1,2,5,6,7,8] [0,1] qo qo⟩)))⟩
   ·skip
    refine vM H Tryz.underlying24 ti2 kk.toNat rfl rfl qf qf qf fun b198 w199 H=>⟨H.pick [4,5,6,7] [0,1],(ro 8 rfl ?_)⟩
    have H1:=H.yg 8 2 [3,0,1,2,4,5,6,7] [0,1] qo qo
    have N1:Fresh _ (rFR :: Ns):=N
    have K1:Kept (Ns) ((xB true rFR rxR rules) :: Γ):=K0.behind 1 rfl
    replace K1:=K1.cons (F:=rFR) 0 rfl rfl
    refine zJ #[.pointer (some ⟨bs,0,none⟩),.int .i64 kk,.int .i64 2] rfl rfl Tryz.call183 (QC code zi175 zi179 bs ac cc Fc kk (2:Int) H1 N1 K1 qg qg qg) ?_
    clear H H1 N1 K1
    rintro _ w200 ⟨zi204,zi205,zl206,ra207,rn208,rc209,hx202,hx203,rfl,N,H⟩
    obtain rfl:=H.jm 1 rfl
    refine ⟨H.pick [5,6,7,8] [0,1],(ro 19 rfl (zO [.int .i64 zi176,.int .i64 0,.slice ra207 zl206.length rc209,.slice (some ⟨b198,0,none⟩) kk.toNat kk.toNat,.slice (some ⟨b177,0,none⟩) kk.toNat kk.toNat,.slice none 0 0,.slice none 0 0,.slice none 0 0,.bool false] [(0,.int .i64 zi176),(2,.slice ra207 zl206.length rc209),(3,.slice (some ⟨b198,0,none⟩) kk.toNat kk.toNat),(4,.slice (some ⟨b177,0,none⟩) kk.toNat kk.toNat)] (⟨H.pick [5,6,7,8] [0,1],(ro 21 rfl ?_)⟩)))⟩
    refine xG H 3 [.int .i64 zi176,.int .i64 0,.slice ra207 zl206.length rc209,.slice (some ⟨b198,0,none⟩) kk.toNat kk.toNat,.slice (some ⟨b177,0,none⟩) kk.toNat kk.toNat,.slice none 0 0,.slice none 0 0,.slice none 0 0,.bool false] Tryz.sizeOf70 fun w210 H=>?_
    try dsimp only [List.set] at H
    refine ⟨H.pick [5,6,7,8] [0,1],(xq qh ((meet ⟨_,zi175,zi176,zi204,zl206,b178,ra207,rc209,b198,b177,zi205,uE5,hx183,hx184,hx202,hx203,N,H.zV 9 2 [3,4,2,0,1,5,6,7,8] [0,1] qo qo⟩)))⟩
  refine Qx (fun ρ w216=>∃ (xM:Env) (zi211:Int) (zi212:Int) (b213:Nat) (zi214:Int),ρ=upd (upd (upd (upd (upd (upd (upd (upd (upd xM 0 (.pointer (some ⟨bs,0,none⟩))) 1 (.pointer (some ⟨bY,0,none⟩))) 4 (.pointer (some ⟨b1,0,none⟩))) 5 (.int .i64 par.length)) 15 (.int .i64 zi212)) 16 (.pointer (some ⟨bs,0,none⟩))) 20 (.int .i64 kk)) 26 (.slice (some ⟨b213,0,none⟩) kk.toNat kk.toNat)) 30 (.int .i64 kk)∧(ip≤zi211∧zi211≤ip+2)∧(0≤zi212∧(zi212 < par.length∨zi212=0))∧Fresh W0.heap.size (rFR :: Ns)∧St W0 w216 ((rr (some ⟨b213,0,none⟩) kk.toNat kk.toNat 2 1 ((List.replicate kk.toNat (0:Int)).map (Value.int .i64))) :: (.box bs [.slice ac code.length cc,.int .i64 zi211,.int .u64 zi214] 115) :: (.box b1 [.int .i64 0,.int .i64 0,.slice none 0 0,.slice none 0 0,.slice none 0 0,.slice none 0 0,.slice none 0 0,.slice none 0 0,.bool false] 70) :: (.box bY [.int .i64 kk,.slice rap par.length rcp,.slice raR rules.length rcR] 27) :: (rr rap par.length rcp 2 1 (par.map (Value.int .i64))) :: (rr raR rules.length rcR 70 9 rxR) :: ps) ((sF false Fc ac cc code) :: (xB true rFR rxR rules) :: Γ)) 5 #[true,true,true,true,true,true,true,true,false,true,true,true,true,true,true,true,true,true,false,false,false,false] ?_ fun L215=>?_
  ·skip
   rintro ρ w217 ⟨xM,zi211,zi212,b213,zi214,rfl,hx218,hx219,N,H⟩
   refine zY [8,18,20] qh qm (jd rfl ?_ (jd rfl ?_ (jd rfl ?_ zZ)))
   ·skip
    have H1:=H.yg 6 2 [1,0,2,3,4,5] [0,1] qo qo
    have N1:Fresh _ (rFR :: Ns):=N
    have K1:Kept (Ns) ((xB true rFR rxR rules) :: Γ):=K0.behind 1 rfl
    replace K1:=K1.cons (F:=rFR) 0 rfl rfl
    refine zJ #[.pointer (some ⟨bs,0,none⟩),.int .i64 kk,.int .i64 2] rfl rfl Tryz.call183 (QC code zi211 zi214 bs ac cc Fc kk (2:Int) H1 N1 K1 qg qg qg) ?_
    clear H H1 N1 K1
    rintro _ w220 ⟨zi224,zi225,zl226,ra227,rn228,rc229,hx222,hx223,rfl,N,H⟩
    obtain rfl:=H.jm 1 rfl
    refine ⟨H.pick [3,4,5,6] [0,1],(yc L45 ⟨_,zi211,zi212,zi224,zl226,ra227,rc229,b213,zi225,uE8,hx218,hx219,hx222,hx223,N,H.zV 7 2 [2,0,1,3,4,5,6] [0,1] qo qo⟩)⟩
   ·skip
    refine vM H Tryz.underlying24 ti2 kk.toNat rfl rfl qf qf qf fun b230 w231 H=>⟨H.pick [3,4,5,6] [0,1],(yc L111 ⟨_,zi211,zi212,b213,b230,zi214,uE9,hx218,hx219,N,H⟩)⟩
   ·skip
    refine xx H ti70 [.int .i64 0,.int .i64 0,.slice none 0 0,.slice none 0 0,.slice none 0 0,.slice none 0 0,.slice none 0 0,.slice none 0 0,.bool false] fun b232 w233 H=>⟨H.pick [3,4,5,6] [0,1],(yc L144 ⟨_,zi211,zi212,b213,b232,zi214,uE10,hx218,hx219,N,H⟩)⟩
  refine Qx (fun ρ w239=>∃ (xM:Env) (zi234:Int) (zi235:Int) (b236:Nat) (zi237:Int),ρ=upd (upd (upd (upd (upd (upd (upd (upd (upd xM 0 (.pointer (some ⟨bs,0,none⟩))) 1 (.pointer (some ⟨bY,0,none⟩))) 4 (.pointer (some ⟨b1,0,none⟩))) 5 (.int .i64 par.length)) 15 (.int .i64 zi235)) 16 (.pointer (some ⟨bs,0,none⟩))) 20 (.int .i64 kk)) 25 (.int .i64 kk)) 31 (.slice (some ⟨b236,0,none⟩) kk.toNat kk.toNat)∧(ip≤zi234∧zi234≤ip+2)∧(0≤zi235∧(zi235 < par.length∨zi235=0))∧Fresh W0.heap.size (rFR :: Ns)∧St W0 w239 ((rr (some ⟨b236,0,none⟩) kk.toNat kk.toNat 2 1 ((List.replicate kk.toNat (0:Int)).map (Value.int .i64))) :: (.box bs [.slice ac code.length cc,.int .i64 zi234,.int .u64 zi237] 115) :: (.box b1 [.int .i64 0,.int .i64 0,.slice none 0 0,.slice none 0 0,.slice none 0 0,.slice none 0 0,.slice none 0 0,.slice none 0 0,.bool false] 70) :: (.box bY [.int .i64 kk,.slice rap par.length rcp,.slice raR rules.length rcR] 27) :: (rr rap par.length rcp 2 1 (par.map (Value.int .i64))) :: (rr raR rules.length rcR 70 9 rxR) :: ps) ((sF false Fc ac cc code) :: (xB true rFR rxR rules) :: Γ)) 5 #[true,true,true,true,true,true,true,true,false,true,true,true,true,false,true,true,true,true,true,false,false,false] ?_ fun L238=>?_
  ·skip
   rintro ρ w240 ⟨xM,zi234,zi235,b236,zi237,rfl,hx241,hx242,N,H⟩
   refine zY [8,13,20] qh qm (jd rfl ?_ (jd rfl ?_ (jd rfl ?_ zZ)))
   ·skip
    have H1:=H.yg 6 2 [1,0,2,3,4,5] [0,1] qo qo
    have N1:Fresh _ (rFR :: Ns):=N
    have K1:Kept (Ns) ((xB true rFR rxR rules) :: Γ):=K0.behind 1 rfl
    replace K1:=K1.cons (F:=rFR) 0 rfl rfl
    refine zJ #[.pointer (some ⟨bs,0,none⟩),.int .i64 kk,.int .i64 2] rfl rfl Tryz.call183 (QC code zi234 zi237 bs ac cc Fc kk (2:Int) H1 N1 K1 qg qg qg) ?_
    clear H H1 N1 K1
    rintro _ w243 ⟨zi247,zi248,zl249,ra250,rn251,rc252,hx245,hx246,rfl,N,H⟩
    obtain rfl:=H.jm 1 rfl
    refine ⟨H.pick [3,4,5,6] [0,1],(yc L67 ⟨_,zi234,zi235,zi247,zl249,ra250,rc252,b236,zi248,uE8,hx241,hx242,hx245,hx246,N,H.zV 7 2 [2,0,1,3,4,5,6] [0,1] qo qo⟩)⟩
   ·skip
    refine vM H Tryz.underlying24 ti2 kk.toNat rfl rfl qf qf qf fun b253 w254 H=>⟨H.pick [3,4,5,6] [0,1],(yc L111 ⟨_,zi234,zi235,b253,b236,zi237,uE9,hx241,hx242,N,H.zV 7 2 [1,0,2,3,4,5,6] [0,1] qo qo⟩)⟩
   ·skip
    refine xx H ti70 [.int .i64 0,.int .i64 0,.slice none 0 0,.slice none 0 0,.slice none 0 0,.slice none 0 0,.slice none 0 0,.slice none 0 0,.bool false] fun b255 w256 H=>⟨H.pick [3,4,5,6] [0,1],(yc L180 ⟨_,zi234,zi235,b236,b255,zi237,uE10,hx241,hx242,N,H⟩)⟩
  refine Qx (fun ρ w262=>∃ (xM:Env) (zi257:Int) (zi258:Int) (b259:Nat) (zi260:Int),ρ=upd (upd (upd (upd (upd (upd (upd (upd (upd (upd xM 0 (.pointer (some ⟨bs,0,none⟩))) 1 (.pointer (some ⟨bY,0,none⟩))) 4 (.pointer (some ⟨b1,0,none⟩))) 5 (.int .i64 par.length)) 6 (.pointer (some ⟨b259,0,none⟩))) 15 (.int .i64 zi258)) 16 (.pointer (some ⟨bs,0,none⟩))) 20 (.int .i64 kk)) 25 (.int .i64 kk)) 30 (.int .i64 kk)∧(ip≤zi257∧zi257≤ip+2)∧(0≤zi258∧(zi258 < par.length∨zi258=0))∧Fresh W0.heap.size (rFR :: Ns)∧St W0 w262 ((.box b259 [.int .i64 0,.int .i64 0,.slice none 0 0,.slice none 0 0,.slice none 0 0,.slice none 0 0,.slice none 0 0,.slice none 0 0,.bool false] 70) :: (.box bs [.slice ac code.length cc,.int .i64 zi257,.int .u64 zi260] 115) :: (.box b1 [.int .i64 0,.int .i64 0,.slice none 0 0,.slice none 0 0,.slice none 0 0,.slice none 0 0,.slice none 0 0,.slice none 0 0,.bool false] 70) :: (.box bY [.int .i64 kk,.slice rap par.length rcp,.slice raR rules.length rcR] 27) :: (rr rap par.length rcp 2 1 (par.map (Value.int .i64))) :: (rr raR rules.length rcR 70 9 rxR) :: ps) ((sF false Fc ac cc code) :: (xB true rFR rxR rules) :: Γ)) 5 #[true,true,true,true,true,true,true,true,false,true,true,true,true,false,true,true,true,true,false,false,true,false] ?_ fun L261=>?_
  ·skip
   rintro ρ w263 ⟨xM,zi257,zi258,b259,zi260,rfl,hx264,hx265,N,H⟩
   refine zY [8,13,18] qh qm (jd rfl ?_ (jd rfl ?_ (jd rfl ?_ zZ)))
   ·skip
    have H1:=H.yg 6 2 [1,0,2,3,4,5] [0,1] qo qo
    have N1:Fresh _ (rFR :: Ns):=N
    have K1:Kept (Ns) ((xB true rFR rxR rules) :: Γ):=K0.behind 1 rfl
    replace K1:=K1.cons (F:=rFR) 0 rfl rfl
    refine zJ #[.pointer (some ⟨bs,0,none⟩),.int .i64 kk,.int .i64 2] rfl rfl Tryz.call183 (QC code zi257 zi260 bs ac cc Fc kk (2:Int) H1 N1 K1 qg qg qg) ?_
    clear H H1 N1 K1
    rintro _ w266 ⟨zi270,zi271,zl272,ra273,rn274,rc275,hx268,hx269,rfl,N,H⟩
    obtain rfl:=H.jm 1 rfl
    refine ⟨H.pick [3,4,5,6] [0,1],(yc L89 ⟨_,zi257,zi258,zi270,zl272,ra273,rc275,b259,zi271,uE9,hx264,hx265,hx268,hx269,N,H.zV 7 2 [2,0,1,3,4,5,6] [0,1] qo qo⟩)⟩
   ·skip
    refine vM H Tryz.underlying24 ti2 kk.toNat rfl rfl qf qf qf fun b276 w277 H=>⟨H.pick [3,4,5,6] [0,1],(yc L144 ⟨_,zi257,zi258,b276,b259,zi260,uE10,hx264,hx265,N,H.zV 7 2 [1,0,2,3,4,5,6] [0,1] qo qo⟩)⟩
   ·skip
    refine vM H Tryz.underlying24 ti2 kk.toNat rfl rfl qf qf qf fun b278 w279 H=>⟨H.pick [3,4,5,6] [0,1],(yc L180 ⟨_,zi257,zi258,b278,b259,zi260,uE10,hx264,hx265,N,H.zV 7 2 [1,0,2,3,4,5,6] [0,1] qo qo⟩)⟩
  refine Qx (fun ρ w283=>∃ (xM:Env) (b280:Nat) (b281:Nat),ρ=upd (upd (upd (upd (upd (upd (upd (upd (upd (upd xM 0 (.pointer (some ⟨bs,0,none⟩))) 1 (.pointer (some ⟨bY,0,none⟩))) 4 (.pointer (some ⟨b1,0,none⟩))) 5 (.int .i64 par.length)) 13 (.pointer (some ⟨bs,0,none⟩))) 14 (.int .i64 par.length)) 16 (.pointer (some ⟨bs,0,none⟩))) 20 (.int .i64 kk)) 26 (.slice (some ⟨b280,0,none⟩) kk.toNat kk.toNat)) 31 (.slice (some ⟨b281,0,none⟩) kk.toNat kk.toNat)∧Fresh W0.heap.size (rFR :: Ns)∧St W0 w283 ((rr (some ⟨b281,0,none⟩) kk.toNat kk.toNat 2 1 ((List.replicate kk.toNat (0:Int)).map (Value.int .i64))) :: (rr (some ⟨b280,0,none⟩) kk.toNat kk.toNat 2 1 ((List.replicate kk.toNat (0:Int)).map (Value.int .i64))) :: (.box b1 [.int .i64 0,.int .i64 0,.slice none 0 0,.slice none 0 0,.slice none 0 0,.slice none 0 0,.slice none 0 0,.slice none 0 0,.bool false] 70) :: (.box bs [.slice ac code.length cc,.int .i64 ip,.int .u64 sd] 115) :: (.box bY [.int .i64 kk,.slice rap par.length rcp,.slice raR rules.length rcR] 27) :: (rr rap par.length rcp 2 1 (par.map (Value.int .i64))) :: (rr raR rules.length rcR 70 9 rxR) :: ps) ((sF false Fc ac cc code) :: (xB true rFR rxR rules) :: Γ)) 5 #[true,true,false,true,true,true,true,true,false,true,true,true,true,true,true,true,true,true,true,false,false,false] ?_ fun L282=>?_
  ·skip
   rintro ρ w284 ⟨xM,b280,b281,rfl,N,H⟩
   refine zY [2,20] qh qm (jd rfl ?_ (jd rfl ?_ zZ))
   ·skip
    have H1:=H.yg 7 2 [3,0,1,2,4,5,6] [0,1] qo qo
    have N1:Fresh _ (rFR :: Ns):=N
    have K1:Kept (Ns) ((xB true rFR rxR rules) :: Γ):=K0.behind 1 rfl
    replace K1:=K1.cons (F:=rFR) 0 rfl rfl
    refine zJ #[.pointer (some ⟨bs,0,none⟩),.int .i64 par.length] rfl rfl Tryz.call43 (yJ code ip sd bs ac cc Fc par.length H1 N1 K1 qg) ?_
    clear H H1 N1 K1
    rintro _ w285 ⟨zi289,zi290,zi291,hx287,hx288,rfl,N,H⟩
    refine ⟨H.pick [3,4,5,6] [0,1],(yc L111 ⟨_,zi289,zi291,b280,b281,zi290,uE9,hx287,hx288,N,H.zV 7 2 [1,2,0,3,4,5,6] [0,1] qo qo⟩)⟩
   ·skip
    refine xx H ti70 [.int .i64 0,.int .i64 0,.slice none 0 0,.slice none 0 0,.slice none 0 0,.slice none 0 0,.slice none 0 0,.slice none 0 0,.bool false] fun b292 w293 H=>⟨H.pick [3,5,6,7] [0,1],(ro 2 rfl ?_)⟩
    have H1:=H.yg 8 2 [4,0,1,2,3,5,6,7] [0,1] qo qo
    have N1:Fresh _ (rFR :: Ns):=N
    have K1:Kept (Ns) ((xB true rFR rxR rules) :: Γ):=K0.behind 1 rfl
    replace K1:=K1.cons (F:=rFR) 0 rfl rfl
    refine zJ #[.pointer (some ⟨bs,0,none⟩),.int .i64 par.length] rfl rfl Tryz.call43 (yJ code ip sd bs ac cc Fc par.length H1 N1 K1 qg) ?_
    clear H H1 N1 K1
    rintro _ w294 ⟨zi298,zi299,zi300,hx296,hx297,rfl,N,H⟩
    refine ⟨H.pick [4,5,6,7] [0,1],(ro 8 rfl ?_)⟩
    have H1:=H.yg 8 2 [0,1,2,3,4,5,6,7] [0,1] qo qo
    have N1:Fresh _ (rFR :: Ns):=N
    have K1:Kept (Ns) ((xB true rFR rxR rules) :: Γ):=K0.behind 1 rfl
    replace K1:=K1.cons (F:=rFR) 0 rfl rfl
    refine zJ #[.pointer (some ⟨bs,0,none⟩),.int .i64 kk,.int .i64 2] rfl rfl Tryz.call183 (QC code zi298 zi299 bs ac cc Fc kk (2:Int) H1 N1 K1 qg qg qg) ?_
    clear H H1 N1 K1
    rintro _ w301 ⟨zi305,zi306,zl307,ra308,rn309,rc310,hx303,hx304,rfl,N,H⟩
    obtain rfl:=H.jm 1 rfl
    refine ⟨H.pick [5,6,7,8] [0,1],(ro 19 rfl (zO [.int .i64 zi300,.int .i64 0,.slice ra308 zl307.length rc310,.slice (some ⟨b280,0,none⟩) kk.toNat kk.toNat,.slice (some ⟨b281,0,none⟩) kk.toNat kk.toNat,.slice none 0 0,.slice none 0 0,.slice none 0 0,.bool false] [(0,.int .i64 zi300),(2,.slice ra308 zl307.length rc310),(3,.slice (some ⟨b280,0,none⟩) kk.toNat kk.toNat),(4,.slice (some ⟨b281,0,none⟩) kk.toNat kk.toNat)] (⟨H.pick [5,6,7,8] [0,1],(ro 21 rfl ?_)⟩)))⟩
    refine xG H 2 [.int .i64 zi300,.int .i64 0,.slice ra308 zl307.length rc310,.slice (some ⟨b280,0,none⟩) kk.toNat kk.toNat,.slice (some ⟨b281,0,none⟩) kk.toNat kk.toNat,.slice none 0 0,.slice none 0 0,.slice none 0 0,.bool false] Tryz.sizeOf70 fun w311 H=>?_
    try dsimp only [List.set] at H
    refine ⟨H.pick [5,6,7,8] [0,1],(xq qh ((meet ⟨_,zi298,zi300,zi305,zl307,b292,ra308,rc310,b280,b281,zi306,uE5,hx296,hx297,hx303,hx304,N,H.zV 9 2 [2,3,4,0,1,5,6,7,8] [0,1] qo qo⟩)))⟩
  refine Qx (fun ρ w315=>∃ (xM:Env) (b312:Nat) (b313:Nat),ρ=upd (upd (upd (upd (upd (upd (upd (upd (upd (upd (upd xM 0 (.pointer (some ⟨bs,0,none⟩))) 1 (.pointer (some ⟨bY,0,none⟩))) 4 (.pointer (some ⟨b1,0,none⟩))) 5 (.int .i64 par.length)) 6 (.pointer (some ⟨b313,0,none⟩))) 13 (.pointer (some ⟨bs,0,none⟩))) 14 (.int .i64 par.length)) 16 (.pointer (some ⟨bs,0,none⟩))) 20 (.int .i64 kk)) 26 (.slice (some ⟨b312,0,none⟩) kk.toNat kk.toNat)) 30 (.int .i64 kk)∧Fresh W0.heap.size (rFR :: Ns)∧St W0 w315 ((.box b313 [.int .i64 0,.int .i64 0,.slice none 0 0,.slice none 0 0,.slice none 0 0,.slice none 0 0,.slice none 0 0,.slice none 0 0,.bool false] 70) :: (rr (some ⟨b312,0,none⟩) kk.toNat kk.toNat 2 1 ((List.replicate kk.toNat (0:Int)).map (Value.int .i64))) :: (.box b1 [.int .i64 0,.int .i64 0,.slice none 0 0,.slice none 0 0,.slice none 0 0,.slice none 0 0,.slice none 0 0,.slice none 0 0,.bool false] 70) :: (.box bs [.slice ac code.length cc,.int .i64 ip,.int .u64 sd] 115) :: (.box bY [.int .i64 kk,.slice rap par.length rcp,.slice raR rules.length rcR] 27) :: (rr rap par.length rcp 2 1 (par.map (Value.int .i64))) :: (rr raR rules.length rcR 70 9 rxR) :: ps) ((sF false Fc ac cc code) :: (xB true rFR rxR rules) :: Γ)) 5 #[true,true,false,true,true,true,true,true,false,true,true,true,true,true,true,true,true,true,false,false,true,false] ?_ fun L314=>?_
  ·skip
   rintro ρ w316 ⟨xM,b312,b313,rfl,N,H⟩
   refine zY [2,18] qh qm (jd rfl ?_ (jd rfl ?_ zZ))
   ·skip
    have H1:=H.yg 7 2 [3,0,1,2,4,5,6] [0,1] qo qo
    have N1:Fresh _ (rFR :: Ns):=N
    have K1:Kept (Ns) ((xB true rFR rxR rules) :: Γ):=K0.behind 1 rfl
    replace K1:=K1.cons (F:=rFR) 0 rfl rfl
    refine zJ #[.pointer (some ⟨bs,0,none⟩),.int .i64 par.length] rfl rfl Tryz.call43 (yJ code ip sd bs ac cc Fc par.length H1 N1 K1 qg) ?_
    clear H H1 N1 K1
    rintro _ w317 ⟨zi321,zi322,zi323,hx319,hx320,rfl,N,H⟩
    refine ⟨H.pick [3,4,5,6] [0,1],(yc L144 ⟨_,zi321,zi323,b312,b313,zi322,uE10,hx319,hx320,N,H.zV 7 2 [1,2,0,3,4,5,6] [0,1] qo qo⟩)⟩
   ·skip
    refine vM H Tryz.underlying24 ti2 kk.toNat rfl rfl qf qf qf fun b324 w325 H=>⟨H.pick [3,5,6,7] [0,1],(ro 2 rfl ?_)⟩
    have H1:=H.yg 8 2 [4,0,1,2,3,5,6,7] [0,1] qo qo
    have N1:Fresh _ (rFR :: Ns):=N
    have K1:Kept (Ns) ((xB true rFR rxR rules) :: Γ):=K0.behind 1 rfl
    replace K1:=K1.cons (F:=rFR) 0 rfl rfl
    refine zJ #[.pointer (some ⟨bs,0,none⟩),.int .i64 par.length] rfl rfl Tryz.call43 (yJ code ip sd bs ac cc Fc par.length H1 N1 K1 qg) ?_
    clear H H1 N1 K1
    rintro _ w326 ⟨zi330,zi331,zi332,hx328,hx329,rfl,N,H⟩
    refine ⟨H.pick [4,5,6,7] [0,1],(ro 8 rfl ?_)⟩
    have H1:=H.yg 8 2 [0,1,2,3,4,5,6,7] [0,1] qo qo
    have N1:Fresh _ (rFR :: Ns):=N
    have K1:Kept (Ns) ((xB true rFR rxR rules) :: Γ):=K0.behind 1 rfl
    replace K1:=K1.cons (F:=rFR) 0 rfl rfl
    refine zJ #[.pointer (some ⟨bs,0,none⟩),.int .i64 kk,.int .i64 2] rfl rfl Tryz.call183 (QC code zi330 zi331 bs ac cc Fc kk (2:Int) H1 N1 K1 qg qg qg) ?_
    clear H H1 N1 K1
    rintro _ w333 ⟨zi337,zi338,zl339,ra340,rn341,rc342,hx335,hx336,rfl,N,H⟩
    obtain rfl:=H.jm 1 rfl
    refine ⟨H.pick [5,6,7,8] [0,1],(ro 19 rfl (zO [.int .i64 zi332,.int .i64 0,.slice ra340 zl339.length rc342,.slice (some ⟨b312,0,none⟩) kk.toNat kk.toNat,.slice (some ⟨b324,0,none⟩) kk.toNat kk.toNat,.slice none 0 0,.slice none 0 0,.slice none 0 0,.bool false] [(0,.int .i64 zi332),(2,.slice ra340 zl339.length rc342),(3,.slice (some ⟨b312,0,none⟩) kk.toNat kk.toNat),(4,.slice (some ⟨b324,0,none⟩) kk.toNat kk.toNat)] (⟨H.pick [5,6,7,8] [0,1],(ro 21 rfl ?_)⟩)))⟩
    refine xG H 3 [.int .i64 zi332,.int .i64 0,.slice ra340 zl339.length rc342,.slice (some ⟨b312,0,none⟩) kk.toNat kk.toNat,.slice (some ⟨b324,0,none⟩) kk.toNat kk.toNat,.slice none 0 0,.slice none 0 0,.slice none 0 0,.bool false] Tryz.sizeOf70 fun w343 H=>?_
    try dsimp only [List.set] at H
    refine ⟨H.pick [5,6,7,8] [0,1],(xq qh ((meet ⟨_,zi330,zi332,zi337,zl339,b313,ra340,rc342,b312,b324,zi338,uE5,hx328,hx329,hx335,hx336,N,H.zV 9 2 [3,2,4,0,1,5,6,7,8] [0,1] qo qo⟩)))⟩
  refine Qx (fun ρ w347=>∃ (xM:Env) (b344:Nat) (b345:Nat),ρ=upd (upd (upd (upd (upd (upd (upd (upd (upd (upd (upd xM 0 (.pointer (some ⟨bs,0,none⟩))) 1 (.pointer (some ⟨bY,0,none⟩))) 4 (.pointer (some ⟨b1,0,none⟩))) 5 (.int .i64 par.length)) 6 (.pointer (some ⟨b345,0,none⟩))) 13 (.pointer (some ⟨bs,0,none⟩))) 14 (.int .i64 par.length)) 16 (.pointer (some ⟨bs,0,none⟩))) 20 (.int .i64 kk)) 25 (.int .i64 kk)) 31 (.slice (some ⟨b344,0,none⟩) kk.toNat kk.toNat)∧Fresh W0.heap.size (rFR :: Ns)∧St W0 w347 ((.box b345 [.int .i64 0,.int .i64 0,.slice none 0 0,.slice none 0 0,.slice none 0 0,.slice none 0 0,.slice none 0 0,.slice none 0 0,.bool false] 70) :: (rr (some ⟨b344,0,none⟩) kk.toNat kk.toNat 2 1 ((List.replicate kk.toNat (0:Int)).map (Value.int .i64))) :: (.box b1 [.int .i64 0,.int .i64 0,.slice none 0 0,.slice none 0 0,.slice none 0 0,.slice none 0 0,.slice none 0 0,.slice none 0 0,.bool false] 70) :: (.box bs [.slice ac code.length cc,.int .i64 ip,.int .u64 sd] 115) :: (.box bY [.int .i64 kk,.slice rap par.length rcp,.slice raR rules.length rcR] 27) :: (rr rap par.length rcp 2 1 (par.map (Value.int .i64))) :: (rr raR rules.length rcR 70 9 rxR) :: ps) ((sF false Fc ac cc code) :: (xB true rFR rxR rules) :: Γ)) 5 #[true,true,false,true,true,true,true,true,false,true,true,true,true,false,true,true,true,true,true,false,true,false] ?_ fun L346=>?_
  ·skip
   rintro ρ w348 ⟨xM,b344,b345,rfl,N,H⟩
   refine zY [2,13] qh qm (jd rfl ?_ (jd rfl ?_ zZ))
   ·skip
    have H1:=H.yg 7 2 [3,0,1,2,4,5,6] [0,1] qo qo
    have N1:Fresh _ (rFR :: Ns):=N
    have K1:Kept (Ns) ((xB true rFR rxR rules) :: Γ):=K0.behind 1 rfl
    replace K1:=K1.cons (F:=rFR) 0 rfl rfl
    refine zJ #[.pointer (some ⟨bs,0,none⟩),.int .i64 par.length] rfl rfl Tryz.call43 (yJ code ip sd bs ac cc Fc par.length H1 N1 K1 qg) ?_
    clear H H1 N1 K1
    rintro _ w349 ⟨zi353,zi354,zi355,hx351,hx352,rfl,N,H⟩
    refine ⟨H.pick [3,4,5,6] [0,1],(yc L180 ⟨_,zi353,zi355,b344,b345,zi354,uE10,hx351,hx352,N,H.zV 7 2 [1,2,0,3,4,5,6] [0,1] qo qo⟩)⟩
   ·skip
    refine vM H Tryz.underlying24 ti2 kk.toNat rfl rfl qf qf qf fun b356 w357 H=>⟨H.pick [3,5,6,7] [0,1],(ro 2 rfl ?_)⟩
    have H1:=H.yg 8 2 [4,0,1,2,3,5,6,7] [0,1] qo qo
    have N1:Fresh _ (rFR :: Ns):=N
    have K1:Kept (Ns) ((xB true rFR rxR rules) :: Γ):=K0.behind 1 rfl
    replace K1:=K1.cons (F:=rFR) 0 rfl rfl
    refine zJ #[.pointer (some ⟨bs,0,none⟩),.int .i64 par.length] rfl rfl Tryz.call43 (yJ code ip sd bs ac cc Fc par.length H1 N1 K1 qg) ?_
    clear H H1 N1 K1
    rintro _ w358 ⟨zi362,zi363,zi364,hx360,hx361,rfl,N,H⟩
    refine ⟨H.pick [4,5,6,7] [0,1],(ro 8 rfl ?_)⟩
    have H1:=H.yg 8 2 [0,1,2,3,4,5,6,7] [0,1] qo qo
    have N1:Fresh _ (rFR :: Ns):=N
    have K1:Kept (Ns) ((xB true rFR rxR rules) :: Γ):=K0.behind 1 rfl
    replace K1:=K1.cons (F:=rFR) 0 rfl rfl
    refine zJ #[.pointer (some ⟨bs,0,none⟩),.int .i64 kk,.int .i64 2] rfl rfl Tryz.call183 (QC code zi362 zi363 bs ac cc Fc kk (2:Int) H1 N1 K1 qg qg qg) ?_
    clear H H1 N1 K1
    rintro _ w365 ⟨zi369,zi370,zl371,ra372,rn373,rc374,hx367,hx368,rfl,N,H⟩
    obtain rfl:=H.jm 1 rfl
    refine ⟨H.pick [5,6,7,8] [0,1],(ro 19 rfl (zO [.int .i64 zi364,.int .i64 0,.slice ra372 zl371.length rc374,.slice (some ⟨b356,0,none⟩) kk.toNat kk.toNat,.slice (some ⟨b344,0,none⟩) kk.toNat kk.toNat,.slice none 0 0,.slice none 0 0,.slice none 0 0,.bool false] [(0,.int .i64 zi364),(2,.slice ra372 zl371.length rc374),(3,.slice (some ⟨b356,0,none⟩) kk.toNat kk.toNat),(4,.slice (some ⟨b344,0,none⟩) kk.toNat kk.toNat)] (⟨H.pick [5,6,7,8] [0,1],(ro 21 rfl ?_)⟩)))⟩
    refine xG H 3 [.int .i64 zi364,.int .i64 0,.slice ra372 zl371.length rc374,.slice (some ⟨b356,0,none⟩) kk.toNat kk.toNat,.slice (some ⟨b344,0,none⟩) kk.toNat kk.toNat,.slice none 0 0,.slice none 0 0,.slice none 0 0,.bool false] Tryz.sizeOf70 fun w375 H=>?_
    try dsimp only [List.set] at H
    refine ⟨H.pick [5,6,7,8] [0,1],(xq qh ((meet ⟨_,zi362,zi364,zi369,zl371,b345,ra372,rc374,b356,b344,zi370,uE5,hx360,hx361,hx367,hx368,N,H.zV 9 2 [3,4,2,0,1,5,6,7,8] [0,1] qo qo⟩)))⟩
  have S:=H.jo [0,2,3,4] [0,1]
  refine rtl 0 S ?_
  refine rtl 1 S ?_
  refine rtl 3 S ?_
  refine rtl 4 S ?_
  refine rtl 5 S ?_
  refine tF 6 rfl rfl S ?_
  refine tL 7 rfl rfl (fun _ h=>h.cell 1 rfl rfl) S ?_
  refine rtl 9 S ?_
  refine rtl 10 S ?_
  refine tF 11 rfl rfl S ?_
  refine tL 12 rfl rfl (fun _ h=>h.cell 1 rfl rfl) S ?_
  refine rtl 14 S ?_
  refine rtl 15 S ?_
  refine tF 16 rfl rfl S ?_
  refine tL 17 rfl rfl (fun _ h=>h.cell 1 rfl rfl) S ?_
  refine zY [2,13,18,20] qh qm (jd rfl ?_ (jd rfl ?_ (jd rfl ?_ (jd rfl ?_ zZ))))
  ·skip
   have H1:=H.yg 5 2 [1,0,2,3,4] [0,1] qo qo
   have N1:Fresh _ (rFR :: Ns):=N
   have K1:Kept (Ns) ((xB true rFR rxR rules) :: Γ):=K0.behind 1 rfl
   replace K1:=K1.cons (F:=rFR) 0 rfl rfl
   refine zJ #[.pointer (some ⟨bs,0,none⟩),.int .i64 par.length] rfl rfl Tryz.call43 (yJ code ip sd bs ac cc Fc par.length H1 N1 K1 qg) ?_
   clear H H1 N1 K1
   rintro _ w376 ⟨zi380,zi381,zi382,hx378,hx379,rfl,N,H⟩
   refine ⟨H.pick [1,2,3,4] [0,1],(zY [8,13,18,20] qh qm (jd rfl ?_ (jd rfl ?_ (jd rfl ?_ (jd rfl ?_ zZ)))))⟩
   ·skip
    have H1:=H.yg 5 2 [0,1,2,3,4] [0,1] qo qo
    have N1:Fresh _ (rFR :: Ns):=N
    have K1:Kept (Ns) ((xB true rFR rxR rules) :: Γ):=K0.behind 1 rfl
    replace K1:=K1.cons (F:=rFR) 0 rfl rfl
    refine zJ #[.pointer (some ⟨bs,0,none⟩),.int .i64 kk,.int .i64 2] rfl rfl Tryz.call183 (QC code zi380 zi381 bs ac cc Fc kk (2:Int) H1 N1 K1 qg qg qg) ?_
    clear H H1 N1 K1
    rintro _ w383 ⟨zi387,zi388,zl389,ra390,rn391,rc392,hx385,hx386,rfl,N,H⟩
    obtain rfl:=H.jm 1 rfl
    refine ⟨H.pick [2,3,4,5] [0,1],(zY [13,18,20] qh qm (jd rfl ?_ (jd rfl ?_ (jd rfl ?_ zZ))))⟩
    ·skip
     refine vM H Tryz.underlying24 ti2 kk.toNat rfl rfl qf qf qf fun b393 w394 H=>⟨H.pick [3,4,5,6] [0,1],(yc L45 ⟨_,zi380,zi382,zi387,zl389,ra390,rc392,b393,zi388,uE8,hx378,hx379,hx385,hx386,N,H⟩)⟩
    ·skip
     refine vM H Tryz.underlying24 ti2 kk.toNat rfl rfl qf qf qf fun b395 w396 H=>⟨H.pick [3,4,5,6] [0,1],(yc L67 ⟨_,zi380,zi382,zi387,zl389,ra390,rc392,b395,zi388,uE8,hx378,hx379,hx385,hx386,N,H⟩)⟩
    ·skip
     refine xx H ti70 [.int .i64 0,.int .i64 0,.slice none 0 0,.slice none 0 0,.slice none 0 0,.slice none 0 0,.slice none 0 0,.slice none 0 0,.bool false] fun b397 w398 H=>⟨H.pick [3,4,5,6] [0,1],(yc L89 ⟨_,zi380,zi382,zi387,zl389,ra390,rc392,b397,zi388,uE9,hx378,hx379,hx385,hx386,N,H⟩)⟩
   ·skip
    refine vM H Tryz.underlying24 ti2 kk.toNat rfl rfl qf qf qf fun b399 w400 H=>⟨H.pick [2,3,4,5] [0,1],(yc L215 ⟨_,zi380,zi382,b399,zi381,uE9,hx378,hx379,N,H⟩)⟩
   ·skip
    refine vM H Tryz.underlying24 ti2 kk.toNat rfl rfl qf qf qf fun b401 w402 H=>⟨H.pick [2,3,4,5] [0,1],(yc L238 ⟨_,zi380,zi382,b401,zi381,uE9,hx378,hx379,N,H⟩)⟩
   ·skip
    refine xx H ti70 [.int .i64 0,.int .i64 0,.slice none 0 0,.slice none 0 0,.slice none 0 0,.slice none 0 0,.slice none 0 0,.slice none 0 0,.bool false] fun b403 w404 H=>⟨H.pick [2,3,4,5] [0,1],(yc L261 ⟨_,zi380,zi382,b403,zi381,uE10,hx378,hx379,N,H⟩)⟩
  ·skip
   refine vM H Tryz.underlying24 ti2 kk.toNat rfl rfl qf qf qf fun b405 w406 H=>⟨H.pick [1,3,4,5] [0,1],(zY [2,18,20] qh qm (jd rfl ?_ (jd rfl ?_ (jd rfl ?_ zZ))))⟩
   ·skip
    have H1:=H.yg 6 2 [2,0,1,3,4,5] [0,1] qo qo
    have N1:Fresh _ (rFR :: Ns):=N
    have K1:Kept (Ns) ((xB true rFR rxR rules) :: Γ):=K0.behind 1 rfl
    replace K1:=K1.cons (F:=rFR) 0 rfl rfl
    refine zJ #[.pointer (some ⟨bs,0,none⟩),.int .i64 par.length] rfl rfl Tryz.call43 (yJ code ip sd bs ac cc Fc par.length H1 N1 K1 qg) ?_
    clear H H1 N1 K1
    rintro _ w407 ⟨zi411,zi412,zi413,hx409,hx410,rfl,N,H⟩
    refine ⟨H.pick [2,3,4,5] [0,1],(yc L215 ⟨_,zi411,zi413,b405,zi412,uE9,hx409,hx410,N,H.zV 6 2 [1,0,2,3,4,5] [0,1] qo qo⟩)⟩
   ·skip
    refine vM H Tryz.underlying24 ti2 kk.toNat rfl rfl qf qf qf fun b414 w415 H=>⟨H.pick [2,4,5,6] [0,1],(yc L282 ⟨_,b405,b414,uE10,N,H⟩)⟩
   ·skip
    refine xx H ti70 [.int .i64 0,.int .i64 0,.slice none 0 0,.slice none 0 0,.slice none 0 0,.slice none 0 0,.slice none 0 0,.slice none 0 0,.bool false] fun b416 w417 H=>⟨H.pick [2,4,5,6] [0,1],(yc L314 ⟨_,b405,b416,uE11,N,H⟩)⟩
  ·skip
   refine vM H Tryz.underlying24 ti2 kk.toNat rfl rfl qf qf qf fun b418 w419 H=>⟨H.pick [1,3,4,5] [0,1],(zY [2,13,20] qh qm (jd rfl ?_ (jd rfl ?_ (jd rfl ?_ zZ))))⟩
   ·skip
    have H1:=H.yg 6 2 [2,0,1,3,4,5] [0,1] qo qo
    have N1:Fresh _ (rFR :: Ns):=N
    have K1:Kept (Ns) ((xB true rFR rxR rules) :: Γ):=K0.behind 1 rfl
    replace K1:=K1.cons (F:=rFR) 0 rfl rfl
    refine zJ #[.pointer (some ⟨bs,0,none⟩),.int .i64 par.length] rfl rfl Tryz.call43 (yJ code ip sd bs ac cc Fc par.length H1 N1 K1 qg) ?_
    clear H H1 N1 K1
    rintro _ w420 ⟨zi424,zi425,zi426,hx422,hx423,rfl,N,H⟩
    refine ⟨H.pick [2,3,4,5] [0,1],(yc L238 ⟨_,zi424,zi426,b418,zi425,uE9,hx422,hx423,N,H.zV 6 2 [1,0,2,3,4,5] [0,1] qo qo⟩)⟩
   ·skip
    refine vM H Tryz.underlying24 ti2 kk.toNat rfl rfl qf qf qf fun b427 w428 H=>⟨H.pick [2,4,5,6] [0,1],(yc L282 ⟨_,b427,b418,uE10,N,H.zV 7 2 [1,0,2,3,4,5,6] [0,1] qo qo⟩)⟩
   ·skip
    refine xx H ti70 [.int .i64 0,.int .i64 0,.slice none 0 0,.slice none 0 0,.slice none 0 0,.slice none 0 0,.slice none 0 0,.slice none 0 0,.bool false] fun b429 w430 H=>⟨H.pick [2,4,5,6] [0,1],(yc L346 ⟨_,b418,b429,uE11,N,H⟩)⟩
  ·skip
   refine xx H ti70 [.int .i64 0,.int .i64 0,.slice none 0 0,.slice none 0 0,.slice none 0 0,.slice none 0 0,.slice none 0 0,.slice none 0 0,.bool false] fun b431 w432 H=>⟨H.pick [1,3,4,5] [0,1],(zY [2,13,18] qh qm (jd rfl ?_ (jd rfl ?_ (jd rfl ?_ zZ))))⟩
   ·skip
    have H1:=H.yg 6 2 [2,0,1,3,4,5] [0,1] qo qo
    have N1:Fresh _ (rFR :: Ns):=N
    have K1:Kept (Ns) ((xB true rFR rxR rules) :: Γ):=K0.behind 1 rfl
    replace K1:=K1.cons (F:=rFR) 0 rfl rfl
    refine zJ #[.pointer (some ⟨bs,0,none⟩),.int .i64 par.length] rfl rfl Tryz.call43 (yJ code ip sd bs ac cc Fc par.length H1 N1 K1 qg) ?_
    clear H H1 N1 K1
    rintro _ w433 ⟨zi437,zi438,zi439,hx435,hx436,rfl,N,H⟩
    refine ⟨H.pick [2,3,4,5] [0,1],(yc L261 ⟨_,zi437,zi439,b431,zi438,uE10,hx435,hx436,N,H.zV 6 2 [1,0,2,3,4,5] [0,1] qo qo⟩)⟩
   ·skip
    refine vM H Tryz.underlying24 ti2 kk.toNat rfl rfl qf qf qf fun b440 w441 H=>⟨H.pick [2,4,5,6] [0,1],(yc L314 ⟨_,b440,b431,uE11,N,H.zV 7 2 [1,0,2,3,4,5,6] [0,1] qo qo⟩)⟩
   ·skip
    refine vM H Tryz.underlying24 ti2 kk.toNat rfl rfl qf qf qf fun b442 w443 H=>⟨H.pick [2,4,5,6] [0,1],(yc L346 ⟨_,b442,b431,uE11,N,H.zV 7 2 [1,0,2,3,4,5,6] [0,1] qo qo⟩)⟩
 ·skip
  clear H N
  rintro ρ w444 ⟨xM,zi3,zi4,zi5,zl6,b7,ra8,rc9,b10,b11,zi12,rfl,hx445,hx446,hx447,hx448,N,H⟩
  refine t_n (zcr (sq 3 (oF rfl (oL rfl (H.cell 6 rfl rfl) ?_))))
  have H1:=H.yg 9 2 [3,0,1,2,4,5,6,7,8] [0,1] qo qo
  have N1:Fresh _ (rFR :: Ns):=N
  have K1:Kept (Ns) ((xB true rFR rxR rules) :: Γ):=K0.behind 1 rfl
  replace K1:=K1.cons (F:=rFR) 0 rfl rfl
  refine sw (zJ #[.pointer (some ⟨bs,0,none⟩),.int .i64 kk,.int .i64 2] rfl rfl Tryz.call141 (dFew_ok code zi5 zi12 bs ac cc Fc kk (2:Int) H1 N1 K1 qg qg qg) ?_)
  clear H H1 N1 K1
  rintro _ w449 ⟨zi453,zi454,zl455,ra456,rn457,rc458,hx451,hx452,rfl,N,H⟩
  obtain rfl:=H.jm 1 rfl
  refine oF rfl (sw (xO H 2 [.int .i64 zi4,.int .i64 0,.slice ra8 zl6.length rc9,.slice (some ⟨b10,0,none⟩) kk.toNat kk.toNat,.slice (some ⟨b11,0,none⟩) kk.toNat kk.toNat,.slice ra456 zl455.length rc458,.slice none 0 0,.slice none 0 0,.bool false] Tryz.sizeOf24 fun w459 H=>?_))
  try dsimp only [List.set] at H
  refine zjc (sq 3 (oF rfl (oL rfl (H.cell 7 rfl rfl) ?_)))
  have H1:=H.yg 10 2 [0,1,2,3,4,5,6,7,8,9] [0,1] qo qo
  have N1:Fresh _ (rFR :: Ns):=N
  have K1:Kept (Ns) ((xB true rFR rxR rules) :: Γ):=K0.behind 1 rfl
  replace K1:=K1.cons (F:=rFR) 0 rfl rfl
  refine sw (zJ #[.pointer (some ⟨bs,0,none⟩),.int .i64 kk,.int .i64 1] rfl rfl Tryz.call141 (dFew_ok code zi453 zi454 bs ac cc Fc kk (1:Int) H1 N1 K1 qg qg qg) ?_)
  clear H H1 N1 K1
  rintro _ w460 ⟨zi464,zi465,zl466,ra467,rn468,rc469,hx462,hx463,rfl,N,H⟩
  obtain rfl:=H.jm 1 rfl
  refine oF rfl (sw (xO H 3 [.int .i64 zi4,.int .i64 0,.slice ra8 zl6.length rc9,.slice (some ⟨b10,0,none⟩) kk.toNat kk.toNat,.slice (some ⟨b11,0,none⟩) kk.toNat kk.toNat,.slice ra456 zl455.length rc458,.slice ra467 zl466.length rc469,.slice none 0 0,.bool false] Tryz.sizeOf24 fun w470 H=>?_))
  try dsimp only [List.set] at H
  refine zjcc (sq 1 ?_)
  have H1:=H.yg 11 2 [0,1,2,3,4,5,6,7,8,9,10] [0,1] qo qo
  have N1:Fresh _ (rFR :: Ns):=N
  have K1:Kept (Ns) ((xB true rFR rxR rules) :: Γ):=K0.behind 1 rfl
  replace K1:=K1.cons (F:=rFR) 0 rfl rfl
  refine sw (zJ #[.pointer (some ⟨bs,0,none⟩),.int .i64 5] rfl rfl Tryz.call41 (dOne_ok code zi464 zi465 bs ac cc Fc (5:Int) H1 N1 K1 qg) ?_)
  clear H H1 N1 K1
  rintro _ w471 ⟨zi474,zi475,zb476,hx473,rfl,N,H⟩
  refine zjn ?_
  refine c_cut (fun ρ w477=>∃ (xM:Env) (s_at:Int) (s_seed:Int) (yw:yOA) (yt:Nat) (yu:Nat) (r_Have:yLI),ρ=upd (upd (upd (upd (upd xM 0 (.pointer (some ⟨bs,0,none⟩))) 1 (.pointer (some ⟨bY,0,none⟩))) 4 (.pointer (some ⟨b1,0,none⟩))) 5 (.int .i64 par.length)) 6 (.pointer (some ⟨b7,0,none⟩))∧(zX kk 1 r_Have)∧(ip≤s_at∧s_at≤ip+92)∧Fresh W0.heap.size (rFR :: Ns)∧St W0 w477 ((.box bs [.slice ac code.length cc,.int .i64 s_at,.int .u64 s_seed] 115) :: (rr ra467 zl466.length rc469 2 1 (zl466.map (Value.int .i64))) :: (rr ra456 zl455.length rc458 2 1 (zl455.map (Value.int .i64))) :: (.box b7 [.int .i64 zi4,.int .i64 0,.slice ra8 zl6.length rc9,.slice yw yt yu,.slice (some ⟨b11,0,none⟩) kk.toNat kk.toNat,.slice ra456 zl455.length rc458,.slice ra467 zl466.length rc469,.slice none 0 0,.bool false] 70) :: (rr (some ⟨b11,0,none⟩) kk.toNat kk.toNat 2 1 ((List.replicate kk.toNat (0:Int)).map (Value.int .i64))) :: (rr yw yt yu 2 1 (r_Have.map (Value.int .i64))) :: (rr ra8 zl6.length rc9 2 1 (zl6.map (Value.int .i64))) :: (.box b1 [.int .i64 0,.int .i64 0,.slice none 0 0,.slice none 0 0,.slice none 0 0,.slice none 0 0,.slice none 0 0,.slice none 0 0,.bool false] 70) :: (.box bY [.int .i64 kk,.slice rap par.length rcp,.slice raR rules.length rcR] 27) :: (rr rap par.length rcp 2 1 (par.map (Value.int .i64))) :: (rr raR rules.length rcR 70 9 rxR) :: ps) ((sF false Fc ac cc code) :: (xB true rFR rxR rules) :: Γ)) ?_ ?_
  ·skip
   refine xE _ rfl (fun h478=>?_) (fun h478=>?_)
   ·skip
    refine xU (sq 3 (oF rfl (oL rfl (H.cell 8 rfl rfl) ?_)))
    have H1:=H.yg 11 2 [0,1,2,3,4,5,6,7,8,9,10] [0,1] qo qo
    have N1:Fresh _ (rFR :: Ns):=N
    have K1:Kept (Ns) ((xB true rFR rxR rules) :: Γ):=K0.behind 1 rfl
    replace K1:=K1.cons (F:=rFR) 0 rfl rfl
    refine sw (zJ #[.pointer (some ⟨bs,0,none⟩),.int .i64 kk,.int .i64 1] rfl rfl Tryz.call183 (QC code zi474 zi475 bs ac cc Fc kk (1:Int) H1 N1 K1 qg qg qg) ?_)
    clear H H1 N1 K1
    rintro _ w479 ⟨zi483,zi484,zl485,ra486,rn487,rc488,hx481,hx482,rfl,N,H⟩
    obtain rfl:=H.jm 1 rfl
    refine oF rfl (sw (xO H 4 [.int .i64 zi4,.int .i64 0,.slice ra8 zl6.length rc9,.slice ra486 zl485.length rc488,.slice (some ⟨b11,0,none⟩) kk.toNat kk.toNat,.slice ra456 zl455.length rc458,.slice ra467 zl466.length rc469,.slice none 0 0,.bool false] Tryz.sizeOf24 fun w489 H=>?_))
    try dsimp only [List.set] at H
    refine xY (meet ⟨_,zi483,zi484,ra486,zl485.length,rc488,zl485,uE5,?_,?_,N,H.zV 12 2 [0,2,3,4,5,1,7,8,9,10,11] [0,1] qo qo⟩)
    · first | exact (‹zX kk 1 _∧_›).1 | exact zX.zero qf qf
    · first | assumption | omega
   ·skip
    refine qW (meet ⟨_,zi474,zi475,(some ⟨b10,0,none⟩),kk.toNat,kk.toNat,(List.replicate kk.toNat (0:Int)),uE5,?_,?_,N,H⟩)
    · first | exact (‹zX kk 1 _∧_›).1 | exact zX.zero qf qf
    · first | assumption | omega
  ·skip
   clear H N
   rintro ρ w490 ⟨xM,s_at,s_seed,yw,yt,yu,r_Have,rfl,jh,jhp,N,H⟩
   have hn_r_Have:=H.jm 5 rfl
   refine t_n (zcc (sq 1 ?_))
   have H1:=H.yg 11 2 [0,1,2,3,4,5,6,7,8,9,10] [0,1] qo qo
   have N1:Fresh _ (rFR :: Ns):=N
   have K1:Kept (Ns) ((xB true rFR rxR rules) :: Γ):=K0.behind 1 rfl
   replace K1:=K1.cons (F:=rFR) 0 rfl rfl
   refine sw (zJ #[.pointer (some ⟨bs,0,none⟩),.int .i64 5] rfl rfl Tryz.call41 (dOne_ok code s_at s_seed bs ac cc Fc (5:Int) H1 N1 K1 qg) ?_)
   clear H H1 N1 K1
   rintro _ w491 ⟨zi494,zi495,zb496,hx493,rfl,N,H⟩
   refine zjn ?_
   refine c_cut (fun ρ w497=>∃ (xM:Env) (s_at_1:Int) (s_seed_1:Int) (yV:yOA) (yR:Nat) (yU:Nat) (r_Lack:yLI),ρ=upd (upd (upd (upd (upd xM 0 (.pointer (some ⟨bs,0,none⟩))) 1 (.pointer (some ⟨bY,0,none⟩))) 4 (.pointer (some ⟨b1,0,none⟩))) 5 (.int .i64 par.length)) 6 (.pointer (some ⟨b7,0,none⟩))∧(zX kk 1 r_Lack)∧(ip≤s_at_1∧s_at_1≤ip+118)∧Fresh W0.heap.size (rFR :: Ns)∧St W0 w497 ((.box bs [.slice ac code.length cc,.int .i64 s_at_1,.int .u64 s_seed_1] 115) :: (rr ra467 zl466.length rc469 2 1 (zl466.map (Value.int .i64))) :: (rr ra456 zl455.length rc458 2 1 (zl455.map (Value.int .i64))) :: (.box b7 [.int .i64 zi4,.int .i64 0,.slice ra8 zl6.length rc9,.slice yw yt yu,.slice yV yR yU,.slice ra456 zl455.length rc458,.slice ra467 zl466.length rc469,.slice none 0 0,.bool false] 70) :: (rr yV yR yU 2 1 (r_Lack.map (Value.int .i64))) :: (rr yw yt yu 2 1 (r_Have.map (Value.int .i64))) :: (rr ra8 zl6.length rc9 2 1 (zl6.map (Value.int .i64))) :: (.box b1 [.int .i64 0,.int .i64 0,.slice none 0 0,.slice none 0 0,.slice none 0 0,.slice none 0 0,.slice none 0 0,.slice none 0 0,.bool false] 70) :: (.box bY [.int .i64 kk,.slice rap par.length rcp,.slice raR rules.length rcR] 27) :: (rr rap par.length rcp 2 1 (par.map (Value.int .i64))) :: (rr raR rules.length rcR 70 9 rxR) :: ps) ((sF false Fc ac cc code) :: (xB true rFR rxR rules) :: Γ)) ?_ ?_
   ·skip
    refine xE _ rfl (fun h498=>?_) (fun h498=>?_)
    ·skip
     refine xU (sq 3 (oF rfl (oL rfl (H.cell 8 rfl rfl) ?_)))
     have H1:=H.yg 11 2 [0,1,2,3,4,5,6,7,8,9,10] [0,1] qo qo
     have N1:Fresh _ (rFR :: Ns):=N
     have K1:Kept (Ns) ((xB true rFR rxR rules) :: Γ):=K0.behind 1 rfl
     replace K1:=K1.cons (F:=rFR) 0 rfl rfl
     refine sw (zJ #[.pointer (some ⟨bs,0,none⟩),.int .i64 kk,.int .i64 1] rfl rfl Tryz.call183 (QC code zi494 zi495 bs ac cc Fc kk (1:Int) H1 N1 K1 qg qg qg) ?_)
     clear H H1 N1 K1
     rintro _ w499 ⟨zi503,zi504,zl505,ra506,rn507,rc508,hx501,hx502,rfl,N,H⟩
     obtain rfl:=H.jm 1 rfl
     refine oF rfl (sw (xO H 4 [.int .i64 zi4,.int .i64 0,.slice ra8 zl6.length rc9,.slice yw yt yu,.slice ra506 zl505.length rc508,.slice ra456 zl455.length rc458,.slice ra467 zl466.length rc469,.slice none 0 0,.bool false] Tryz.sizeOf24 fun w509 H=>?_))
     try dsimp only [List.set] at H
     refine xY (meet ⟨_,zi503,zi504,ra506,zl505.length,rc508,zl505,uE5,?_,?_,N,H.zV 12 2 [0,2,3,4,1,6,7,8,9,10,11] [0,1] qo qo⟩)
     · first | exact (‹zX kk 1 _∧_›).1 | exact zX.zero qf qf
     · first | assumption | omega
    ·skip
     refine qW (meet ⟨_,zi494,zi495,(some ⟨b11,0,none⟩),kk.toNat,kk.toNat,(List.replicate kk.toNat (0:Int)),uE5,?_,?_,N,H⟩)
     · first | exact (‹zX kk 1 _∧_›).1 | exact zX.zero qf qf
     · first | assumption | omega
   ·skip
    clear H N
    rintro ρ w510 ⟨xM,s_at_1,s_seed_1,yV,yR,yU,r_Lack,rfl,jl,jlp,N,H⟩
    have hn_r_Lack:=H.jm 4 rfl
    refine t_n (zcc (sq 1 ?_))
    have H1:=H.yg 11 2 [0,1,2,3,4,5,6,7,8,9,10] [0,1] qo qo
    have N1:Fresh _ (rFR :: Ns):=N
    have K1:Kept (Ns) ((xB true rFR rxR rules) :: Γ):=K0.behind 1 rfl
    replace K1:=K1.cons (F:=rFR) 0 rfl rfl
    refine sw (zJ #[.pointer (some ⟨bs,0,none⟩),.int .i64 4] rfl rfl Tryz.call41 (dOne_ok code s_at_1 s_seed_1 bs ac cc Fc (4:Int) H1 N1 K1 qg) ?_)
    clear H H1 N1 K1
    rintro _ w511 ⟨zi514,zi515,zb516,hx513,rfl,N,H⟩
    refine zjn ?_
    refine c_cut (fun ρ w517=>∃ (xM:Env) (s_at_51:Int) (s_seed_51:Int) (r_Rank:Int),ρ=upd (upd (upd (upd (upd xM 0 (.pointer (some ⟨bs,0,none⟩))) 1 (.pointer (some ⟨bY,0,none⟩))) 4 (.pointer (some ⟨b1,0,none⟩))) 5 (.int .i64 par.length)) 6 (.pointer (some ⟨b7,0,none⟩))∧(0≤r_Rank∧r_Rank≤2)∧(ip≤s_at_51∧s_at_51≤ip+122)∧Fresh W0.heap.size (rFR :: Ns)∧St W0 w517 ((.box bs [.slice ac code.length cc,.int .i64 s_at_51,.int .u64 s_seed_51] 115) :: (rr ra467 zl466.length rc469 2 1 (zl466.map (Value.int .i64))) :: (rr ra456 zl455.length rc458 2 1 (zl455.map (Value.int .i64))) :: (.box b7 [.int .i64 zi4,.int .i64 r_Rank,.slice ra8 zl6.length rc9,.slice yw yt yu,.slice yV yR yU,.slice ra456 zl455.length rc458,.slice ra467 zl466.length rc469,.slice none 0 0,.bool false] 70) :: (rr yV yR yU 2 1 (r_Lack.map (Value.int .i64))) :: (rr yw yt yu 2 1 (r_Have.map (Value.int .i64))) :: (rr ra8 zl6.length rc9 2 1 (zl6.map (Value.int .i64))) :: (.box b1 [.int .i64 0,.int .i64 0,.slice none 0 0,.slice none 0 0,.slice none 0 0,.slice none 0 0,.slice none 0 0,.slice none 0 0,.bool false] 70) :: (.box bY [.int .i64 kk,.slice rap par.length rcp,.slice raR rules.length rcR] 27) :: (rr rap par.length rcp 2 1 (par.map (Value.int .i64))) :: (rr raR rules.length rcR 70 9 rxR) :: ps) ((sF false Fc ac cc code) :: (xB true rFR rxR rules) :: Γ)) ?_ ?_
    ·skip
     refine xE _ rfl (fun h518=>?_) (fun h518=>?_)
     ·skip
      refine xU (sq 1 ?_)
      have H1:=H.yg 11 2 [0,1,2,3,4,5,6,7,8,9,10] [0,1] qo qo
      have N1:Fresh _ (rFR :: Ns):=N
      have K1:Kept (Ns) ((xB true rFR rxR rules) :: Γ):=K0.behind 1 rfl
      replace K1:=K1.cons (F:=rFR) 0 rfl rfl
      refine sw (zJ #[.pointer (some ⟨bs,0,none⟩),.int .i64 3] rfl rfl Tryz.call43 (yJ code zi514 zi515 bs ac cc Fc (3:Int) H1 N1 K1 qg) ?_)
      clear H H1 N1 K1
      rintro _ w519 ⟨zi523,zi524,zi525,hx521,hx522,rfl,N,H⟩
      refine oF rfl (sw (xO H 3 [.int .i64 zi4,.int .i64 zi525,.slice ra8 zl6.length rc9,.slice yw yt yu,.slice yV yR yU,.slice ra456 zl455.length rc458,.slice ra467 zl466.length rc469,.slice none 0 0,.bool false] Tryz.sizeOf2 fun w526 H=>?_))
      try dsimp only [List.set] at H
      refine xY (meet ⟨_,zi523,zi524,zi525,uE5,?_,?_,N,H⟩)
      · first | assumption | omega
      · first | assumption | omega
     ·skip
      refine qW (meet ⟨_,zi514,zi515,0,uE5,?_,?_,N,H⟩)
      · first | assumption | omega
      · first | assumption | omega
    ·skip
     clear H N
     rintro ρ w527 ⟨xM,s_at_51,s_seed_51,r_Rank,rfl,jr,jrp,N,H⟩
     refine t_n (zcc (sp (.int .i64 1) (zjn (qY ?_))))
     replace H:=H.nilRow 128 2
     replace H:=H.zW (α:=Xy)
     refine zq (fun m' ρ w528=>∃ (xM:Env) (c:Nat) (s_at_52:Int) (s_seed_52:Int) (QR:yOA) (jX:Nat) (QP:Nat) (r_Into:List Xy) (x_r_Into:List Value) (jF:yLN),ρ=upd (upd (upd (upd (upd (upd xM 0 (.pointer (some ⟨bs,0,none⟩))) 1 (.pointer (some ⟨bY,0,none⟩))) 4 (.pointer (some ⟨b1,0,none⟩))) 5 (.int .i64 par.length)) 6 (.pointer (some ⟨b7,0,none⟩))) 7 (.int .i64 c)∧((c:Int)≤par.length)∧(ip≤s_at_52∧s_at_52≤ip+126+26 * c)∧(1≤(c:Int))∧(r_Into.length≤3∧IntoDr kk par zi4 r_Into c)∧m' =(par.length - (c:Int)).toNat∧Fresh W0.heap.size (rFR :: jF :: Ns)∧St W0 w528 ((rr QR jX QP 128 2 x_r_Into) :: (.box bs [.slice ac code.length cc,.int .i64 s_at_52,.int .u64 s_seed_52] 115) :: (rr ra467 zl466.length rc469 2 1 (zl466.map (Value.int .i64))) :: (rr ra456 zl455.length rc458 2 1 (zl455.map (Value.int .i64))) :: (.box b7 [.int .i64 zi4,.int .i64 r_Rank,.slice ra8 zl6.length rc9,.slice yw yt yu,.slice yV yR yU,.slice ra456 zl455.length rc458,.slice ra467 zl466.length rc469,.slice QR jX QP,.bool false] 70) :: (rr yV yR yU 2 1 (r_Lack.map (Value.int .i64))) :: (rr yw yt yu 2 1 (r_Have.map (Value.int .i64))) :: (rr ra8 zl6.length rc9 2 1 (zl6.map (Value.int .i64))) :: (.box b1 [.int .i64 0,.int .i64 0,.slice none 0 0,.slice none 0 0,.slice none 0 0,.slice none 0 0,.slice none 0 0,.slice none 0 0,.bool false] 70) :: (.box bY [.int .i64 kk,.slice rap par.length rcp,.slice raR rules.length rcR] 27) :: (rr rap par.length rcp 2 1 (par.map (Value.int .i64))) :: (rr raR rules.length rcR 70 9 rxR) :: ps) ((xB true jF x_r_Into r_Into) :: (sF false Fc ac cc code) :: (xB true rFR rxR rules) :: Γ)) ((par.length - (1:Int)).toNat) ⟨_,1,s_at_51,s_seed_51,none,0,0,([]:List Xy),[],[],uE6,qf,qf,qf,(by exact ⟨by simp,IntoDr.nil _ _ _ _⟩),rfl,(N.emp.zV 2 [1,0] qo),H⟩ ?_
     clear H N
     rintro m' ρ w529 ⟨xM,c,s_at_52,s_seed_52,QR,jX,QP,r_Into,x_r_Into,jF,rfl,i0,i1,i2,i3,rfl,N,H⟩
     have hn_r_Into:=H.xK (α:=Xy) 0 rfl 0 rfl qj
     refine zcc (sp (.int .i64 c) (sq 2 (zjn (cD rfl (fun h530=>?_) (fun h530=>?_)))))
     ·skip
      refine qW (t_n (xQ (qY (zcr (sq 1 (sp (.int .i64 c) (oF rfl (oL rfl (H.cell 4 rfl rfl) ?_))))))))
      obtain ⟨G531,hn532,h533⟩:=H.Qi 10 rfl
      obtain ⟨G534,hn535,h536⟩:=H.yQ (α:=jw) 11 rfl 2 rfl qj
      have c1:CellIn (⟨kk,par,rules⟩:qE) c:=⟨by show (0:Int)≤c;omega,by show (c:Int)≤(par.length:Int) - 1;omega⟩
      refine sw (oq (l02In_ok _ (⟨kk,par,rules⟩:qE) c zi4 (qC (H.cells 9 rfl) 0 3) h533 h536 ql ql) H fun w537 H=>sp (.bool (dec (Lies (⟨kk,par,rules⟩:qE).qA zi4 c))) ?_)
      cases h539:(dec (Lies (⟨kk,par,rules⟩:qE).qA zi4 c))
      ·skip
       replace h539:=zT h539
       refine xZ [81,82,83,84] (sp (.bool false) (sp (.bool false) (xZ [87,88] (sp (.bool false) (zjn (xE false rfl (fun h=>absurd h qj) (fun _=>qW (b_n (t_n (xU (sp (.int .i64 c) (sw (zA c 1 rfl rfl qf (sq 1 (xY (xe (m' :=(par.length - ((c+1):Int)).toNat) qf ⟨_,c+1,_,_,_,_,_,_,_,_,uE6,?_,?_,?_,?_,rfl,N,H⟩))))))))))))))))
       · omega
       · omega
       · omega
       · first | exact ⟨by omega,i3.2.mono qf⟩ | exact ⟨by simp;omega,i3.2.snoc qf ‹Lies par _ _› (‹zX kk 1 _∧_›).1 (‹zX kk 1 _∧_›).2⟩
      ·skip
       replace h539:=yX h539
       refine qL 80 rfl rfl (oF rfl (qL 80 rfl rfl (oL rfl (H.cell 4 rfl rfl) (qL 80 rfl rfl (oN rfl (qL 80 rfl rfl (sp (.bool (decide ((jX:Int) < 3))) (sp (.bool (decide ((jX:Int) < 3))) (sp (.bool (decide ((jX:Int) < 3))) ?_)))))))))
       cases h540:(decide ((jX:Int) < 3))
       ·skip
        replace h540:=of_decide_eq_false h540
        refine xZ [87,88] (sp (.bool false) (zjn (xE false rfl (fun h=>absurd h qj) (fun _=>qW (b_n (t_n (xU (sp (.int .i64 c) (sw (zA c 1 rfl rfl qf (sq 1 (xY (xe (m' :=(par.length - ((c+1):Int)).toNat) qf ⟨_,c+1,_,_,_,_,_,_,_,_,uE6,?_,?_,?_,?_,rfl,N,H⟩)))))))))))))
        · omega
        · omega
        · omega
        · first | exact ⟨by omega,i3.2.mono qf⟩ | exact ⟨by simp;omega,i3.2.snoc qf ‹Lies par _ _› (‹zX kk 1 _∧_›).1 (‹zX kk 1 _∧_›).2⟩
       ·skip
        replace h540:=of_decide_eq_true h540
        refine qL 86 rfl rfl (sq 1 (qL 86 rfl rfl ?_))
        have H1:=H.yg 12 3 [1,0,2,3,4,5,6,7,8,9,10,11] [1,0,2] qo qo
        have N1:Fresh _ (rFR :: jF :: Ns):=N
        have K1:Kept (Ns) ((xB true jF x_r_Into r_Into) :: (xB true rFR rxR rules) :: Γ):=K0.behind 2 rfl
        replace K1:=K1.cons (F:=jF) 0 rfl rfl
        replace K1:=K1.cons (F:=rFR) 1 rfl rfl
        refine sw (zJ #[.pointer (some ⟨bs,0,none⟩),.int .i64 3] rfl rfl Tryz.call41 (dOne_ok code s_at_52 s_seed_52 bs ac cc Fc (3:Int) H1 N1 K1 qg) ?_)
        clear H H1 N1 K1
        rintro _ w541 ⟨zi544,zi545,zb546,hx543,rfl,N,H⟩
        refine sp (.bool zb546) (zjn (xE _ rfl (fun h547=>?_) (fun h547=>?_)))
        ·skip
         refine c_cut (fun ρ w556=>∃ (xM:Env) (zi548:Int) (zl549:yLI) (zi550:Int) (a551:yOA) (c552:Nat) (ra553:yOA) (rc554:Nat) (G555:yLN),ρ=upd (upd (upd (upd (upd (upd (upd (upd (upd (upd (upd (upd xM 0 (.pointer (some ⟨bs,0,none⟩))) 1 (.pointer (some ⟨bY,0,none⟩))) 4 (.pointer (some ⟨b1,0,none⟩))) 5 (.int .i64 par.length)) 6 (.pointer (some ⟨b7,0,none⟩))) 7 (.int .i64 c)) 81 (.pointer (some ⟨b7,0+7,none⟩))) 82 (.slice QR jX QP)) 83 (.int .i64 jX)) 84 (.bool true)) 87 (.pointer (some ⟨bs,0,none⟩))) 88 (.bool zb546)∧(zi544≤zi548∧zi548≤zi544+24)∧(zX kk (1:Int) zl549∧QM zl549≠0)∧Fresh W0.heap.size ((jF++G555) :: rFR :: Ns)∧St W0 w556 ((.box bs [.slice ac code.length cc,.int .i64 zi548,.int .u64 zi550] 115) :: (rr a551 (jX+1) c552 128 2 (x_r_Into++[.int .i64 c,.slice ra553 zl549.length rc554])) :: (rr ra467 zl466.length rc469 2 1 (zl466.map (Value.int .i64))) :: (rr ra456 zl455.length rc458 2 1 (zl455.map (Value.int .i64))) :: (.box b7 [.int .i64 zi4,.int .i64 r_Rank,.slice ra8 zl6.length rc9,.slice yw yt yu,.slice yV yR yU,.slice ra456 zl455.length rc458,.slice ra467 zl466.length rc469,.slice a551 (jX+1) c552,.bool false] 70) :: (rr yV yR yU 2 1 (r_Lack.map (Value.int .i64))) :: (rr yw yt yu 2 1 (r_Have.map (Value.int .i64))) :: (rr ra8 zl6.length rc9 2 1 (zl6.map (Value.int .i64))) :: (.box b1 [.int .i64 0,.int .i64 0,.slice none 0 0,.slice none 0 0,.slice none 0 0,.slice none 0 0,.slice none 0 0,.slice none 0 0,.bool false] 70) :: (.box bY [.int .i64 kk,.slice rap par.length rcp,.slice raR rules.length rcR] 27) :: (rr rap par.length rcp 2 1 (par.map (Value.int .i64))) :: (rr raR rules.length rcR 70 9 rxR) :: ps) ((xB true (jF++G555) (x_r_Into++[.int .i64 c,.slice ra553 zl549.length rc554]) (r_Into++[(⟨c,zl549⟩:Xy)])) :: (sF true G555 ra553 rc554 zl549) :: (sF false Fc ac cc code) :: (xB true rFR rxR rules) :: Γ)) ?_ ?_
         ·skip
          refine XL rfl H [2,3,5,6,7,8,9,10,11] [0,1,2] fun H=>?_
          have S:=H.jo [2,3,5,6,7,8,9,10,11] [0,1,2]
          refine tF 0 rfl rfl S ?_
          refine rtp 2 (.int .i64 c) S ?_
          refine rtl 3 S ?_
          refine rtl 4 S ?_
          refine rtl 5 S ?_
          refine tF 6 rfl rfl S ?_
          refine tL 7 rfl rfl (fun _ h=>h.cell 6 rfl rfl) S ?_
          refine zY [1,8] qh qm (jd rfl ?_ (jd rfl ?_ zZ))
          ·skip
           refine zl (.slice QR jX QP) Tryz.isAgg68 rfl (H.cell 4 rfl rfl) (⟨H.pick [2,3,5,6,7,8,9,10,11] [0,1,2],(ro 8 rfl ?_)⟩)
           have H1:=H.yg 12 3 [0,1,2,3,4,5,6,7,8,9,10,11] [0,1,2] qo qo
           have N1:Fresh _ (rFR :: jF :: Ns):=N
           have K1:Kept (Ns) ((xB true jF x_r_Into r_Into) :: (xB true rFR rxR rules) :: Γ):=K0.behind 2 rfl
           replace K1:=K1.cons (F:=jF) 0 rfl rfl
           replace K1:=K1.cons (F:=rFR) 1 rfl rfl
           refine zJ #[.pointer (some ⟨bs,0,none⟩),.int .i64 kk,.int .i64 1] rfl rfl Tryz.call183 (QC code zi544 zi545 bs ac cc Fc kk (1:Int) H1 N1 K1 qg qg qg) ?_
           clear H H1 N1 K1
           rintro _ w558 ⟨zi562,zi563,zl564,ra565,rn566,rc567,hx560,hx561,rfl,N,H⟩
           obtain rfl:=H.jm 1 rfl
           refine ⟨H.pick [3,4,6,7,8,9,10,11,12] [0,1,2],(ro 9 rfl (zO [.int .i64 c,.slice ra565 zl564.length rc567] [(0,.int .i64 c),(1,.slice ra565 zl564.length rc567)] (⟨H.pick [3,4,6,7,8,9,10,11,12] [0,1,2],(ro 10 rfl (zf H Tryz.underlying68 ti128 [.int .i64 c,.slice ra565 zl564.length rc567] fun b568 w569 H=>⟨H.pick [4,5,7,8,9,10,11,12,13] [0,1,2],(ro 11 rfl ?_)⟩))⟩)))⟩
           obtain ⟨G573,N,hn574,H⟩:=H.zG 2 rfl N (fun F hF b hb=>(List.mem_append.1 (show F∈[rFR,jF]++Ns from hF)).elim (fun h=>(H.vS (L:=[rFR,jF]) [2,1]) F h b hb) fun h=>H.QW (K0.behind 3 rfl) F h b hb)
           try dsimp only [List.set] at H
           refine zk H 3 rfl 0 rfl Tryz.underlying68 ti128 rfl qj rfl rfl rfl qw qp qf fun a570 c571 w572 H=>?_
           try dsimp only [List.set] at H
           replace H:=H.snoc_IntoD 2 rfl c 0 rfl
           replace N:Fresh W0.heap.size ((jF++G573) :: rFR :: Ns):=(N.zV 3 [2,0,1] qo).join
           refine ⟨H.pick [4,5,7,8,9,10,11,12,13] [2,3,4],(tF 12 rfl rfl (H.pick [4,5,7,8,9,10,11,12,13] [2,3,4]) ?_)⟩
           refine ro 13 rfl (xO H 6 [.int .i64 zi4,.int .i64 r_Rank,.slice ra8 zl6.length rc9,.slice yw yt yu,.slice yV yR yU,.slice ra456 zl455.length rc458,.slice ra467 zl466.length rc469,.slice a570 (jX+1) c571,.bool false] Tryz.sizeOf68 fun w575 H=>?_)
           try dsimp only [List.set] at H
           refine ⟨H.pick [4,5,7,8,9,10,11,12,13] [2,3,4],(xq qh ((meet ⟨_,zi562,zl564,zi563,a570,c571,ra565,rc567,G573,uE12,hx560,hx561,N,H.zV 14 5 [1,3,4,5,6,7,8,9,10,11,12,13] [0,1,2,4] qo qo⟩)))⟩
          ·skip
           have H1:=H.yg 12 3 [0,1,2,3,4,5,6,7,8,9,10,11] [0,1,2] qo qo
           have N1:Fresh _ (rFR :: jF :: Ns):=N
           have K1:Kept (Ns) ((xB true jF x_r_Into r_Into) :: (xB true rFR rxR rules) :: Γ):=K0.behind 2 rfl
           replace K1:=K1.cons (F:=jF) 0 rfl rfl
           replace K1:=K1.cons (F:=rFR) 1 rfl rfl
           refine zJ #[.pointer (some ⟨bs,0,none⟩),.int .i64 kk,.int .i64 1] rfl rfl Tryz.call183 (QC code zi544 zi545 bs ac cc Fc kk (1:Int) H1 N1 K1 qg qg qg) ?_
           clear H H1 N1 K1
           rintro _ w576 ⟨zi580,zi581,zl582,ra583,rn584,rc585,hx578,hx579,rfl,N,H⟩
           obtain rfl:=H.jm 1 rfl
           refine ⟨H.pick [3,4,6,7,8,9,10,11,12] [0,1,2],(zY [1,9] qh qm (jd rfl ?_ (jd rfl ?_ zZ)))⟩
           ·skip
            refine zl (.slice QR jX QP) Tryz.isAgg68 rfl (H.cell 5 rfl rfl) (⟨H.pick [3,4,6,7,8,9,10,11,12] [0,1,2],(ro 9 rfl (zO [.int .i64 c,.slice ra583 zl582.length rc585] [(0,.int .i64 c),(1,.slice ra583 zl582.length rc585)] (⟨H.pick [3,4,6,7,8,9,10,11,12] [0,1,2],(ro 10 rfl (zf H Tryz.underlying68 ti128 [.int .i64 c,.slice ra583 zl582.length rc585] fun b586 w587 H=>⟨H.pick [4,5,7,8,9,10,11,12,13] [0,1,2],(ro 11 rfl ?_)⟩))⟩)))⟩)
            obtain ⟨G591,N,hn592,H⟩:=H.zG 2 rfl N (fun F hF b hb=>(List.mem_append.1 (show F∈[rFR,jF]++Ns from hF)).elim (fun h=>(H.vS (L:=[rFR,jF]) [2,1]) F h b hb) fun h=>H.QW (K0.behind 3 rfl) F h b hb)
            try dsimp only [List.set] at H
            refine zk H 3 rfl 0 rfl Tryz.underlying68 ti128 rfl qj rfl rfl rfl qw qp qf fun a588 c589 w590 H=>?_
            try dsimp only [List.set] at H
            replace H:=H.snoc_IntoD 2 rfl c 0 rfl
            replace N:Fresh W0.heap.size ((jF++G591) :: rFR :: Ns):=(N.zV 3 [2,0,1] qo).join
            refine ⟨H.pick [4,5,7,8,9,10,11,12,13] [2,3,4],(tF 12 rfl rfl (H.pick [4,5,7,8,9,10,11,12,13] [2,3,4]) ?_)⟩
            refine ro 13 rfl (xO H 6 [.int .i64 zi4,.int .i64 r_Rank,.slice ra8 zl6.length rc9,.slice yw yt yu,.slice yV yR yU,.slice ra456 zl455.length rc458,.slice ra467 zl466.length rc469,.slice a588 (jX+1) c589,.bool false] Tryz.sizeOf68 fun w593 H=>?_)
            try dsimp only [List.set] at H
            refine ⟨H.pick [4,5,7,8,9,10,11,12,13] [2,3,4],(xq qh ((meet ⟨_,zi580,zl582,zi581,a588,c589,ra583,rc585,G591,uE12,hx578,hx579,N,H.zV 14 5 [1,3,4,5,6,7,8,9,10,11,12,13] [0,1,2,4] qo qo⟩)))⟩
           ·skip
            refine zO [.int .i64 c,.slice ra583 zl582.length rc585] [(0,.int .i64 c),(1,.slice ra583 zl582.length rc585)] (⟨H.pick [3,4,6,7,8,9,10,11,12] [0,1,2],(zY [1,10] qh qm (jd rfl ?_ (jd rfl ?_ zZ)))⟩)
            ·skip
             refine zl (.slice QR jX QP) Tryz.isAgg68 rfl (H.cell 5 rfl rfl) (⟨H.pick [3,4,6,7,8,9,10,11,12] [0,1,2],(ro 10 rfl (zf H Tryz.underlying68 ti128 [.int .i64 c,.slice ra583 zl582.length rc585] fun b594 w595 H=>⟨H.pick [4,5,7,8,9,10,11,12,13] [0,1,2],(ro 11 rfl ?_)⟩))⟩)
             obtain ⟨G599,N,hn600,H⟩:=H.zG 2 rfl N (fun F hF b hb=>(List.mem_append.1 (show F∈[rFR,jF]++Ns from hF)).elim (fun h=>(H.vS (L:=[rFR,jF]) [2,1]) F h b hb) fun h=>H.QW (K0.behind 3 rfl) F h b hb)
             try dsimp only [List.set] at H
             refine zk H 3 rfl 0 rfl Tryz.underlying68 ti128 rfl qj rfl rfl rfl qw qp qf fun a596 c597 w598 H=>?_
             try dsimp only [List.set] at H
             replace H:=H.snoc_IntoD 2 rfl c 0 rfl
             replace N:Fresh W0.heap.size ((jF++G599) :: rFR :: Ns):=(N.zV 3 [2,0,1] qo).join
             refine ⟨H.pick [4,5,7,8,9,10,11,12,13] [2,3,4],(tF 12 rfl rfl (H.pick [4,5,7,8,9,10,11,12,13] [2,3,4]) ?_)⟩
             refine ro 13 rfl (xO H 6 [.int .i64 zi4,.int .i64 r_Rank,.slice ra8 zl6.length rc9,.slice yw yt yu,.slice yV yR yU,.slice ra456 zl455.length rc458,.slice ra467 zl466.length rc469,.slice a596 (jX+1) c597,.bool false] Tryz.sizeOf68 fun w601 H=>?_)
             try dsimp only [List.set] at H
             refine ⟨H.pick [4,5,7,8,9,10,11,12,13] [2,3,4],(xq qh ((meet ⟨_,zi580,zl582,zi581,a596,c597,ra583,rc585,G599,uE12,hx578,hx579,N,H.zV 14 5 [1,3,4,5,6,7,8,9,10,11,12,13] [0,1,2,4] qo qo⟩)))⟩
            ·skip
             refine zf H Tryz.underlying68 ti128 [.int .i64 c,.slice ra583 zl582.length rc585] fun b602 w603 H=>⟨H.pick [4,5,7,8,9,10,11,12,13] [0,1,2],(ro 1 rfl (zl (.slice QR jX QP) Tryz.isAgg68 rfl (H.cell 6 rfl rfl) (⟨H.pick [4,5,7,8,9,10,11,12,13] [0,1,2],(ro 11 rfl ?_)⟩)))⟩
             obtain ⟨G607,N,hn608,H⟩:=H.zG 2 rfl N (fun F hF b hb=>(List.mem_append.1 (show F∈[rFR,jF]++Ns from hF)).elim (fun h=>(H.vS (L:=[rFR,jF]) [2,1]) F h b hb) fun h=>H.QW (K0.behind 3 rfl) F h b hb)
             try dsimp only [List.set] at H
             refine zk H 3 rfl 0 rfl Tryz.underlying68 ti128 rfl qj rfl rfl rfl qw qp qf fun a604 c605 w606 H=>?_
             try dsimp only [List.set] at H
             replace H:=H.snoc_IntoD 2 rfl c 0 rfl
             replace N:Fresh W0.heap.size ((jF++G607) :: rFR :: Ns):=(N.zV 3 [2,0,1] qo).join
             refine ⟨H.pick [4,5,7,8,9,10,11,12,13] [2,3,4],(tF 12 rfl rfl (H.pick [4,5,7,8,9,10,11,12,13] [2,3,4]) ?_)⟩
             refine ro 13 rfl (xO H 6 [.int .i64 zi4,.int .i64 r_Rank,.slice ra8 zl6.length rc9,.slice yw yt yu,.slice yV yR yU,.slice ra456 zl455.length rc458,.slice ra467 zl466.length rc469,.slice a604 (jX+1) c605,.bool false] Tryz.sizeOf68 fun w609 H=>?_)
             try dsimp only [List.set] at H
             refine ⟨H.pick [4,5,7,8,9,10,11,12,13] [2,3,4],(xq qh ((meet ⟨_,zi580,zl582,zi581,a604,c605,ra583,rc585,G607,uE12,hx578,hx579,N,H.zV 14 5 [1,3,4,5,6,7,8,9,10,11,12,13] [0,1,2,4] qo qo⟩)))⟩
         ·skip
          clear H N
          rintro ρ w610 ⟨xM,zi548,zl549,zi550,a551,c552,ra553,rc554,G555,rfl,hx611,hx612,N,H⟩
          refine b_n (t_n (xU (sp (.int .i64 c) (sw (zA c 1 rfl rfl qf (sq 1 (xY (xe (m' :=(par.length - ((c+1):Int)).toNat) qf ⟨_,c+1,_,_,_,_,_,_,_,_,uE6,?_,?_,?_,?_,rfl,(N.zV 2 [1,0] qo),H.zV 12 4 [1,0,2,3,4,5,6,7,8,9,10,11] [0,2,3] qo qo⟩))))))))
          · omega
          · omega
          · omega
          · first | exact ⟨by omega,i3.2.mono qf⟩ | exact ⟨by simp;omega,i3.2.snoc qf ‹Lies par _ _› (‹zX kk 1 _∧_›).1 (‹zX kk 1 _∧_›).2⟩
        ·skip
         refine qW (b_n (t_n (xU (sp (.int .i64 c) (sw (zA c 1 rfl rfl qf (sq 1 (xY (xe (m' :=(par.length - ((c+1):Int)).toNat) qf ⟨_,c+1,_,_,_,_,_,_,_,_,uE6,?_,?_,?_,?_,rfl,N,H.zV 12 3 [1,0,2,3,4,5,6,7,8,9,10,11] [1,0,2] qo qo⟩)))))))))
         · omega
         · omega
         · omega
         · first | exact ⟨by omega,i3.2.mono qf⟩ | exact ⟨by simp;omega,i3.2.snoc qf ‹Lies par _ _› (‹zX kk 1 _∧_›).1 (‹zX kk 1 _∧_›).2⟩
     ·skip
      refine zx4 (zcr (oF rfl (oL rfl (H.cell 4 rfl rfl) (sp (.bool (decide ((zi4:Int) > 0))) (sp (.bool (decide ((zi4:Int) > 0))) ?_)))))
      cases h613:(decide ((zi4:Int) > 0))
      ·skip
       replace h613:=of_decide_eq_false h613
       refine xZ [107,108] (sp (.bool false) (oF rfl (sw (xO H 4 [.int .i64 zi4,.int .i64 r_Rank,.slice ra8 zl6.length rc9,.slice yw yt yu,.slice yV yR yU,.slice ra456 zl455.length rc458,.slice ra467 zl466.length rc469,.slice QR jX QP,.bool false] Tryz.sizeOf4 fun w614 H=>?_))))
       try dsimp only [List.set] at H
       refine zjc (sw (xI [.int .i64 zi4,.int .i64 r_Rank,.slice ra8 zl6.length rc9,.slice yw yt yu,.slice yV yR yU,.slice ra456 zl455.length rc458,.slice ra467 zl466.length rc469,.slice QR jX QP,.bool false] Tryz.isAgg70 Tryz.sizeOf70 rfl (qC (H.cells 4 rfl) 0 9) (sw (xG H 8 [.int .i64 zi4,.int .i64 r_Rank,.slice ra8 zl6.length rc9,.slice yw yt yu,.slice yV yR yU,.slice ra456 zl455.length rc458,.slice ra467 zl466.length rc469,.slice QR jX QP,.bool false] Tryz.sizeOf70 fun w615 H=>?_))))
       try dsimp only [List.set] at H
       refine zjr (retC H 8 rfl rfl Tryz.isAgg70 Tryz.sizeOf70 rfl ⟨_,rfl,?_⟩)
       have he:(c:Int)=par.length:=by omega
       exact ⟨s_at_52,s_seed_52,zi4,r_Rank,zl6,r_Have,r_Lack,zl455,zl466,r_Into,false,ra8,zl6.length,rc9,yw,yt,yu,yV,yR,yU,ra456,zl455.length,rc458,ra467,zl466.length,rc469,QR,jX,QP,x_r_Into,jF,qf,(by exact ruleDr_of qf qg (by first | exact (fun _=>by omega) | exact (fun h=>by cases h)) ql jh jl ql ql ⟨i3.1,he▸i3.2⟩),rfl,N,H.zV 12 3 [1,9,10,11,7,6,5,3,2,0] [1,2,0] qo qo⟩
      ·skip
       replace h613:=of_decide_eq_true h613
       refine qL 106 rfl rfl (sq 1 (qL 106 rfl rfl ?_))
       have H1:=H.yg 12 3 [1,0,2,3,4,5,6,7,8,9,10,11] [1,0,2] qo qo
       have N1:Fresh _ (rFR :: jF :: Ns):=N
       have K1:Kept (Ns) ((xB true jF x_r_Into r_Into) :: (xB true rFR rxR rules) :: Γ):=K0.behind 2 rfl
       replace K1:=K1.cons (F:=jF) 0 rfl rfl
       replace K1:=K1.cons (F:=rFR) 1 rfl rfl
       refine sw (zJ #[.pointer (some ⟨bs,0,none⟩),.int .i64 6] rfl rfl Tryz.call41 (dOne_ok code s_at_52 s_seed_52 bs ac cc Fc (6:Int) H1 N1 K1 qg) ?_)
       clear H H1 N1 K1
       rintro _ w616 ⟨zi619,zi620,zb621,hx618,rfl,N,H⟩
       refine sp (.bool zb621) (oF rfl (sw (xO H 4 [.int .i64 zi4,.int .i64 r_Rank,.slice ra8 zl6.length rc9,.slice yw yt yu,.slice yV yR yU,.slice ra456 zl455.length rc458,.slice ra467 zl466.length rc469,.slice QR jX QP,.bool zb621] Tryz.sizeOf4 fun w622 H=>?_)))
       try dsimp only [List.set] at H
       refine zjc (sw (xI [.int .i64 zi4,.int .i64 r_Rank,.slice ra8 zl6.length rc9,.slice yw yt yu,.slice yV yR yU,.slice ra456 zl455.length rc458,.slice ra467 zl466.length rc469,.slice QR jX QP,.bool zb621] Tryz.isAgg70 Tryz.sizeOf70 rfl (qC (H.cells 4 rfl) 0 9) (sw (xG H 8 [.int .i64 zi4,.int .i64 r_Rank,.slice ra8 zl6.length rc9,.slice yw yt yu,.slice yV yR yU,.slice ra456 zl455.length rc458,.slice ra467 zl466.length rc469,.slice QR jX QP,.bool zb621] Tryz.sizeOf70 fun w623 H=>?_))))
       try dsimp only [List.set] at H
       refine zjr (retC H 8 rfl rfl Tryz.isAgg70 Tryz.sizeOf70 rfl ⟨_,rfl,?_⟩)
       have he:(c:Int)=par.length:=by omega
       exact ⟨zi619,zi620,zi4,r_Rank,zl6,r_Have,r_Lack,zl455,zl466,r_Into,zb621,ra8,zl6.length,rc9,yw,yt,yu,yV,yR,yU,ra456,zl455.length,rc458,ra467,zl466.length,rc469,QR,jX,QP,x_r_Into,jF,qf,(by exact ruleDr_of qf qg (by first | exact (fun _=>by omega) | exact (fun h=>by cases h)) ql jh jl ql ql ⟨i3.1,he▸i3.2⟩),rfl,N,H.zV 12 3 [0,9,10,11,7,6,5,3,2,1] [0,2,1] qo qo⟩
theorem dSystem_ok {W0 w:World} {ps:List Prv} {Γ:List Fact} {Ns:List yLN} (code:List UInt8) (ip:Int) (sd:Int) (bs:Nat) (ac:yOA) (cc:Nat) (Fc:yLN) (H:St W0 w ((.box bs [.slice ac code.length cc,.int .i64 ip,.int .u64 sd] 115) :: ps) ((sF false Fc ac cc code) :: Γ)) (N:Fresh W0.heap.size (Ns)) (K0:Kept Ns Γ) (q0:0≤ip∧ip≤50000):Calls Tryz.prog 87 #[.pointer (some ⟨bs,0,none⟩)] w (fun e w' =>∃ v,e=.returned v∧∃ (ip_:Int) (sd_:Int) (kk_:Int) (par_:yLI) (rules_:List jw) (raq:yOA) (rnq:Nat) (rcq:Nat) (raS:yOA) (rnS:Nat) (rcS:Nat) (rxS:List Value) (rFS:yLN),(ip≤ip_∧ip_≤ip+2000)∧(SysDr kk_ par_ rules_)∧v=.agg #[.int .i64 kk_,.slice raq rnq rcq,.slice raS rnS rcS]∧Fresh W0.heap.size (rFS :: Ns)∧St W0 w' ((.box bs [.slice ac code.length cc,.int .i64 ip_,.int .u64 sd_] 115) :: (rr raq rnq rcq 2 1 (par_.map (Value.int .i64))) :: (rr raS rnS rcS 70 9 rxS) :: ps) ((sF false Fc ac cc code) :: (xB true rFS rxS rules_) :: Γ)):=by
 refine en Tryz.func87 Tryz.ntmps87 ?_
 have ncode:=qM (H.get 0 rfl).1
 refine zcr (sw (xx H ti27 [.int .i64 0,.slice none 0 0,.slice none 0 0] fun b1 w2 H=>zjc (sq 1 ?_)))
 have H1:=H.yg 2 1 [1,0] [0] qo qo
 have N1:Fresh _ (Ns):=N
 have K1:Kept (Ns) (Γ):=K0.behind 0 rfl
 refine sw (zJ #[.pointer (some ⟨bs,0,none⟩),.int .i64 3] rfl rfl Tryz.call43 (yJ code ip sd bs ac cc Fc (3:Int) H1 N1 K1 qg) ?_)
 clear H H1 N1 K1
 rintro _ w3 ⟨zi7,zi8,zi9,hx5,hx6,rfl,N,H⟩
 refine sw (zA 1 zi9 rfl rfl qf (sw (zf H Tryz.underlying24 ti2 [.int .i64 (-1)] fun b10 w11 H=>sw (zO [.int .i64 (1+zi9),.slice (some ⟨b10,0,none⟩) 1 1,.slice none 0 0] [(0,.int .i64 (1+zi9)),(1,.slice (some ⟨b10,0,none⟩) 1 1)] (sw (xx H ti27 [.int .i64 0,.slice none 0 0,.slice none 0 0] fun b12 w13 H=>sw (xG H 0 [.int .i64 (1+zi9),.slice (some ⟨b10,0,none⟩) 1 1,.slice none 0 0] Tryz.sizeOf27 fun w14 H=>?_)))))))
 try dsimp only [List.set] at H
 refine zjcc (sq 1 ?_)
 have H1:=H.yg 4 1 [2,0,1,3] [0] qo qo
 have N1:Fresh _ (Ns):=N
 have K1:Kept (Ns) (Γ):=K0.behind 0 rfl
 refine sw (zJ #[.pointer (some ⟨bs,0,none⟩),.int .i64 3] rfl rfl Tryz.call43 (yJ code zi7 zi8 bs ac cc Fc (3:Int) H1 N1 K1 qg) ?_)
 clear H H1 N1 K1
 rintro _ w15 ⟨zi19,zi20,zi21,hx17,hx18,rfl,N,H⟩
 refine sq 1 (zjn (qY ?_))
 replace H:=H.boxRowI 2 [(-1)] 1
 try dsimp only [List.set] at H
 refine zq (fun m' ρ w22=>∃ (xM:Env) (c:Int) (s_at:Int) (s_seed:Int) (jk:yOA) (zL:Nat) (ji:Nat) (y_Parents:yLI),ρ=upd (upd (upd (upd xM 0 (.pointer (some ⟨bs,0,none⟩))) 2 (.pointer (some ⟨b1,0,none⟩))) 3 (.pointer (some ⟨b12,0,none⟩))) 4 (.int .i64 c)∧(ip≤s_at∧s_at+2 * c≤ip+8)∧(0≤c∧(y_Parents.length:Int)+c≤3)∧(ParDr y_Parents)∧m' =c.toNat∧Fresh W0.heap.size (Ns)∧St W0 w22 ((.box bs [.slice ac code.length cc,.int .i64 s_at,.int .u64 s_seed] 115) :: (.box b12 [.int .i64 (1+zi9),.slice jk zL ji,.slice none 0 0] 27) :: (rr jk zL ji 2 1 (y_Parents.map (Value.int .i64))) :: (.box b1 [.int .i64 0,.slice none 0 0,.slice none 0 0] 27) :: ps) ((sF false Fc ac cc code) :: Γ)) (zi21.toNat) ⟨_,zi21,zi19,zi20,(some ⟨b10,0,none⟩),1,1,[(-1)],uE4,qf,qy,(by exact ParDr.one),rfl,N,H⟩ ?_
 clear H N
 rintro m' ρ w23 ⟨xM,c,s_at,s_seed,jk,zL,ji,y_Parents,rfl,i1,i2,i3,rfl,N,H⟩
 have hn_y_Parents:=H.jm 2 rfl
 have i4:=i3.1
 refine zcc (sp (.int .i64 c) (sp (.bool (decide ((c:Int) > 0))) (zjn (cD rfl (fun h24=>?_) (fun h24=>?_)))))
 ·skip
  refine qW (t_n (xQ (qY ?_)))
  refine c_cut (fun ρ w30=>∃ (xM:Env) (zi25:Int) (zi26:Int) (zi27:Int) (a28:yOA) (c29:Nat),ρ=upd (upd (upd (upd xM 0 (.pointer (some ⟨bs,0,none⟩))) 2 (.pointer (some ⟨b1,0,none⟩))) 3 (.pointer (some ⟨b12,0,none⟩))) 4 (.int .i64 c)∧(s_at≤zi25∧zi25≤s_at+2)∧(0≤zi26∧(zi26 < zL∨zi26=0))∧Fresh W0.heap.size (Ns)∧St W0 w30 ((.box bs [.slice ac code.length cc,.int .i64 zi25,.int .u64 zi27] 115) :: (.box b12 [.int .i64 (1+zi9),.slice a28 (zL+1) c29,.slice none 0 0] 27) :: (rr a28 (zL+1) c29 2 1 ((y_Parents++[zi26]).map (Value.int .i64))) :: (.box b1 [.int .i64 0,.slice none 0 0,.slice none 0 0] 27) :: ps) ((sF false Fc ac cc code) :: Γ)) ?_ ?_
  ·skip
   refine XL rfl H [3] [0] fun H=>?_
   have S:=H.jo [3] [0]
   refine tF 0 rfl rfl S ?_
   refine rtl 2 S ?_
   refine tF 3 rfl rfl S ?_
   refine zY [1,4] qh qm (jd rfl ?_ (jd rfl ?_ zZ))
   ·skip
    refine zl (.slice jk zL ji) Tryz.isAgg24 rfl (H.cell 1 rfl rfl) (⟨H.pick [3] [0],(ro 4 rfl (zl (.slice jk zL ji) Tryz.isAgg24 rfl (H.cell 1 rfl rfl) (⟨H.pick [3] [0],(tN 5 rfl rfl (H.pick [3] [0]) ?_)⟩)))⟩)
    refine ro 6 rfl ?_
    have H1:=H.yg 4 1 [0,1,2,3] [0] qo qo
    have N1:Fresh _ (Ns):=N
    have K1:Kept (Ns) (Γ):=K0.behind 0 rfl
    refine zJ #[.pointer (some ⟨bs,0,none⟩),.int .i64 zL] rfl rfl Tryz.call43 (yJ code s_at s_seed bs ac cc Fc zL H1 N1 K1 qg) ?_
    clear H H1 N1 K1
    rintro _ w32 ⟨zi36,zi37,zi38,hx34,hx35,rfl,N,H⟩
    refine ⟨H.pick [3] [0],(ro 7 rfl (zf H Tryz.underlying24 ti2 [.int .i64 zi38] fun b39 w40 H=>⟨H.pick [4] [0],(ro 8 rfl (zk H 3 rfl 0 rfl Tryz.underlying24 ti2 rfl qj rfl rfl rfl qw qp qf fun a41 c42 w43 H=>?_))⟩))⟩
    rw [snocI] at H
    try dsimp only [List.set] at H
    refine ⟨H.pick [4] [0],(tF 9 rfl rfl (H.pick [4] [0]) ?_)⟩
    refine ro 10 rfl (xO H 2 [.int .i64 (1+zi9),.slice a41 (zL+1) c42,.slice none 0 0] Tryz.sizeOf24 fun w44 H=>?_)
    try dsimp only [List.set] at H
    refine ⟨H.pick [4] [0],(xq qh ((meet ⟨_,zi36,zi38,zi37,a41,c42,uE4,hx34,hx35,N,H.zV 5 1 [1,2,3,4] [0] qo qo⟩)))⟩
   ·skip
    refine zl (.slice jk zL ji) Tryz.isAgg24 rfl (H.cell 1 rfl rfl) (⟨H.pick [3] [0],(tN 5 rfl rfl (H.pick [3] [0]) ?_)⟩)
    refine zY [1,6] qh qm (jd rfl ?_ (jd rfl ?_ zZ))
    ·skip
     refine zl (.slice jk zL ji) Tryz.isAgg24 rfl (H.cell 1 rfl rfl) (⟨H.pick [3] [0],(ro 6 rfl ?_)⟩)
     have H1:=H.yg 4 1 [0,1,2,3] [0] qo qo
     have N1:Fresh _ (Ns):=N
     have K1:Kept (Ns) (Γ):=K0.behind 0 rfl
     refine zJ #[.pointer (some ⟨bs,0,none⟩),.int .i64 zL] rfl rfl Tryz.call43 (yJ code s_at s_seed bs ac cc Fc zL H1 N1 K1 qg) ?_
     clear H H1 N1 K1
     rintro _ w45 ⟨zi49,zi50,zi51,hx47,hx48,rfl,N,H⟩
     refine ⟨H.pick [3] [0],(ro 7 rfl (zf H Tryz.underlying24 ti2 [.int .i64 zi51] fun b52 w53 H=>⟨H.pick [4] [0],(ro 8 rfl (zk H 3 rfl 0 rfl Tryz.underlying24 ti2 rfl qj rfl rfl rfl qw qp qf fun a54 c55 w56 H=>?_))⟩))⟩
     rw [snocI] at H
     try dsimp only [List.set] at H
     refine ⟨H.pick [4] [0],(tF 9 rfl rfl (H.pick [4] [0]) ?_)⟩
     refine ro 10 rfl (xO H 2 [.int .i64 (1+zi9),.slice a54 (zL+1) c55,.slice none 0 0] Tryz.sizeOf24 fun w57 H=>?_)
     try dsimp only [List.set] at H
     refine ⟨H.pick [4] [0],(xq qh ((meet ⟨_,zi49,zi51,zi50,a54,c55,uE4,hx47,hx48,N,H.zV 5 1 [1,2,3,4] [0] qo qo⟩)))⟩
    ·skip
     have H1:=H.yg 4 1 [0,1,2,3] [0] qo qo
     have N1:Fresh _ (Ns):=N
     have K1:Kept (Ns) (Γ):=K0.behind 0 rfl
     refine zJ #[.pointer (some ⟨bs,0,none⟩),.int .i64 zL] rfl rfl Tryz.call43 (yJ code s_at s_seed bs ac cc Fc zL H1 N1 K1 qg) ?_
     clear H H1 N1 K1
     rintro _ w58 ⟨zi62,zi63,zi64,hx60,hx61,rfl,N,H⟩
     refine ⟨H.pick [3] [0],(zY [1,7] qh qm (jd rfl ?_ (jd rfl ?_ zZ)))⟩
     ·skip
      refine zl (.slice jk zL ji) Tryz.isAgg24 rfl (H.cell 1 rfl rfl) (⟨H.pick [3] [0],(ro 7 rfl (zf H Tryz.underlying24 ti2 [.int .i64 zi64] fun b65 w66 H=>⟨H.pick [4] [0],(ro 8 rfl (zk H 3 rfl 0 rfl Tryz.underlying24 ti2 rfl qj rfl rfl rfl qw qp qf fun a67 c68 w69 H=>?_))⟩))⟩)
      rw [snocI] at H
      try dsimp only [List.set] at H
      refine ⟨H.pick [4] [0],(tF 9 rfl rfl (H.pick [4] [0]) ?_)⟩
      refine ro 10 rfl (xO H 2 [.int .i64 (1+zi9),.slice a67 (zL+1) c68,.slice none 0 0] Tryz.sizeOf24 fun w70 H=>?_)
      try dsimp only [List.set] at H
      refine ⟨H.pick [4] [0],(xq qh ((meet ⟨_,zi62,zi64,zi63,a67,c68,uE4,hx60,hx61,N,H.zV 5 1 [1,2,3,4] [0] qo qo⟩)))⟩
     ·skip
      refine zf H Tryz.underlying24 ti2 [.int .i64 zi64] fun b71 w72 H=>⟨H.pick [4] [0],(ro 1 rfl (zl (.slice jk zL ji) Tryz.isAgg24 rfl (H.cell 2 rfl rfl) (⟨H.pick [4] [0],(ro 8 rfl (zk H 3 rfl 0 rfl Tryz.underlying24 ti2 rfl qj rfl rfl rfl qw qp qf fun a73 c74 w75 H=>?_))⟩)))⟩
      rw [snocI] at H
      try dsimp only [List.set] at H
      refine ⟨H.pick [4] [0],(tF 9 rfl rfl (H.pick [4] [0]) ?_)⟩
      refine ro 10 rfl (xO H 2 [.int .i64 (1+zi9),.slice a73 (zL+1) c74,.slice none 0 0] Tryz.sizeOf24 fun w76 H=>?_)
      try dsimp only [List.set] at H
      refine ⟨H.pick [4] [0],(xq qh ((meet ⟨_,zi62,zi64,zi63,a73,c74,uE4,hx60,hx61,N,H.zV 5 1 [1,2,3,4] [0] qo qo⟩)))⟩
  ·skip
   clear H N
   rintro ρ w77 ⟨xM,zi25,zi26,zi27,a28,c29,rfl,hx78,hx79,N,H⟩
   refine b_n (t_n (xU (sp (.int .i64 c) (sw (o_sub c 1 rfl rfl qf (sq 1 (xY (xe (m' :=(c - 1).toNat) qf ⟨_,_,_,_,_,_,_,_,uE4,?_,?_,?_,rfl,N,H⟩))))))))
   · omega
   · simp;omega
   · exact i3.snoc (by have:=i3.1;omega)
 ·skip
  refine zx4 (zcc (sq 1 ?_))
  have H1:=H.yg 4 1 [0,1,2,3] [0] qo qo
  have N1:Fresh _ (Ns):=N
  have K1:Kept (Ns) (Γ):=K0.behind 0 rfl
  refine sw (zJ #[.pointer (some ⟨bs,0,none⟩),.int .i64 6] rfl rfl Tryz.call43 (yJ code s_at s_seed bs ac cc Fc (6:Int) H1 N1 K1 qg) ?_)
  clear H H1 N1 K1
  rintro _ w80 ⟨zi84,zi85,zi86,hx82,hx83,rfl,N,H⟩
  refine sq 1 (zjn (qY ?_))
  replace H:=H.nilRow 70 9
  replace H:=H.zW (α:=jw)
  refine zq (fun m' ρ w87=>∃ (xM:Env) (k:Int) (s_at_1:Int) (s_seed_1:Int) (Xx:yOA) (Qj:Nat) (Xv:Nat) (y_Rules:List jw) (vz:List Value) (zg:yLN),ρ=upd (upd (upd (upd xM 0 (.pointer (some ⟨bs,0,none⟩))) 2 (.pointer (some ⟨b1,0,none⟩))) 3 (.pointer (some ⟨b12,0,none⟩))) 5 (.int .i64 k)∧(ip≤s_at_1∧s_at_1+300 * k≤ip+1600)∧(0≤k∧(y_Rules.length:Int)+k≤5)∧(jC (1+zi9) y_Parents y_Rules)∧m' =k.toNat∧Fresh W0.heap.size (zg :: Ns)∧St W0 w87 ((rr Xx Qj Xv 70 9 vz) :: (.box bs [.slice ac code.length cc,.int .i64 s_at_1,.int .u64 s_seed_1] 115) :: (.box b12 [.int .i64 (1+zi9),.slice jk zL ji,.slice Xx Qj Xv] 27) :: (rr jk zL ji 2 1 (y_Parents.map (Value.int .i64))) :: (.box b1 [.int .i64 0,.slice none 0 0,.slice none 0 0] 27) :: ps) ((xB true zg vz y_Rules) :: (sF false Fc ac cc code) :: Γ)) (zi86.toNat) ⟨_,zi86,zi84,zi85,none,0,0,([]:List jw),[],[],uE4,qf,qy,(by exact jC.nil _ _),rfl,N.emp,H⟩ ?_
  clear H N
  rintro m' ρ w88 ⟨xM,k,s_at_1,s_seed_1,Xx,Qj,Xv,y_Rules,vz,zg,rfl,j1,j2,j3,rfl,N,H⟩
  have hn_y_Rules:=H.xK (α:=jw) 0 rfl 0 rfl qj
  refine zcc (sp (.int .i64 k) (sp (.bool (decide ((k:Int) > 0))) (zjn (cD rfl (fun h89=>?_) (fun h89=>?_)))))
  ·skip
   refine qW (t_n (xQ (qY ?_)))
   refine c_cut (fun ρ w121=>∃ (xM:Env) (zi90:Int) (zi91:Int) (zi92:Int) (zl93:yLI) (zl94:yLI) (zl95:yLI) (zl96:yLI) (zl97:yLI) (zI98:List Xy) (zb99:Bool) (zi100:Int) (a101:yOA) (c102:Nat) (ra103:yOA) (rc104:Nat) (ra105:yOA) (rc106:Nat) (ra107:yOA) (rc108:Nat) (ra109:yOA) (rc110:Nat) (ra111:yOA) (rc112:Nat) (ra113:yOA) (rc114:Nat) (G115:yLN) (G116:yLN) (G117:yLN) (G118:yLN) (G119:yLN) (G120:yLN),ρ=upd (upd (upd (upd xM 0 (.pointer (some ⟨bs,0,none⟩))) 2 (.pointer (some ⟨b1,0,none⟩))) 3 (.pointer (some ⟨b12,0,none⟩))) 5 (.int .i64 k)∧(s_at_1≤zi90∧zi90≤s_at_1+300)∧(RuleDr (1+zi9) y_Parents ⟨zi91,zi92,zl93,zl94,zl95,zl96,zl97,zI98,zb99⟩)∧Fresh W0.heap.size ((zg++(G115++G116++G117++G118++G119++G120)) :: Ns)∧St W0 w121 ((.box bs [.slice ac code.length cc,.int .i64 zi90,.int .u64 zi100] 115) :: (.box b12 [.int .i64 (1+zi9),.slice jk zL ji,.slice a101 (Qj+1) c102] 27) :: (rr jk zL ji 2 1 (y_Parents.map (Value.int .i64))) :: (rr a101 (Qj+1) c102 70 9 (vz++[.int .i64 zi91,.int .i64 zi92,.slice ra103 zl93.length rc104,.slice ra105 zl94.length rc106,.slice ra107 zl95.length rc108,.slice ra109 zl96.length rc110,.slice ra111 zl97.length rc112,.slice ra113 zI98.length rc114,.bool zb99])) :: (.box b1 [.int .i64 0,.slice none 0 0,.slice none 0 0] 27) :: ps) ((xB true (zg++(G115++G116++G117++G118++G119++G120)) (vz++[.int .i64 zi91,.int .i64 zi92,.slice ra103 zl93.length rc104,.slice ra105 zl94.length rc106,.slice ra107 zl95.length rc108,.slice ra109 zl96.length rc110,.slice ra111 zl97.length rc112,.slice ra113 zI98.length rc114,.bool zb99]) (y_Rules++[(⟨zi91,zi92,zl93,zl94,zl95,zl96,zl97,zI98,zb99⟩:jw)])) :: (sF true G120 ra113 rc114 zI98) :: (sF true G119 ra111 rc112 zl97) :: (sF true G118 ra109 rc110 zl96) :: (sF true G117 ra107 rc108 zl95) :: (sF true G116 ra105 rc106 zl94) :: (sF true G115 ra103 rc104 zl93) :: (sF false Fc ac cc code) :: Γ)) ?_ ?_
   ·skip
    refine XL rfl H [3,4] [0,1] fun H=>?_
    have S:=H.jo [3,4] [0,1]
    refine tF 0 rfl rfl S ?_
    refine rtl 2 S ?_
    refine zY [1,3] qh qm (jd rfl ?_ (jd rfl ?_ zZ))
    ·skip
     refine zl (.slice Xx Qj Xv) Tryz.isAgg25 rfl (H.cell 2 rfl rfl) (⟨H.pick [3,4] [0,1],(ro 3 rfl ?_)⟩)
     have f0:jL (⟨1+zi9,y_Parents,y_Rules⟩:qE):=frame_of i3 qf qf
     have H1:=H.yg 5 2 [1,2,3,0,4] [1,0] qo qo
     have N1:Fresh _ (zg :: Ns):=N
     have K1:Kept (Ns) (Γ):=K0.behind 0 rfl
     refine zJ #[.pointer (some ⟨bs,0,none⟩),.pointer (some ⟨b12,0,none⟩)] rfl rfl Tryz.call140 (dRule_ok code s_at_1 s_seed_1 bs ac cc Fc (1+zi9) y_Parents y_Rules b12 jk zL ji Xx Qj Xv vz zg H1 N1 K1 qg qg) ?_
     clear H H1 N1 K1
     rintro _ w123 ⟨zi127,zi128,zi129,zi130,zl131,zl132,zl133,zl134,zl135,zI136,zb137,ra138,rn139,rc140,ra141,rn142,rc143,ra144,rn145,rc146,ra147,rn148,rc149,ra150,rn151,rc152,ra153,rn154,rc155,rx156,rF157,hx125,hx126,rfl,N,H⟩
     obtain rfl:=H.jm 4 rfl
     obtain rfl:=H.jm 5 rfl
     obtain rfl:=H.jm 6 rfl
     obtain rfl:=H.jm 7 rfl
     obtain rfl:=H.jm 8 rfl
     obtain rfl:=H.xK (α:=Xy) 9 rfl 2 rfl qj
     refine ⟨H.pick [2,10] [1,0],(ro 4 rfl (zf H Tryz.underlying25 ti70 [.int .i64 zi129,.int .i64 zi130,.slice ra138 zl131.length rc140,.slice ra141 zl132.length rc143,.slice ra144 zl133.length rc146,.slice ra147 zl134.length rc149,.slice ra150 zl135.length rc152,.slice ra153 zI136.length rc155,.bool zb137] fun b158 w159 H=>⟨H.pick [3,11] [1,0],(ro 5 rfl ?_)⟩))⟩
     obtain ⟨G163,N,hn164,H⟩:=H.zG 5 rfl N (fun F hF b hb=>(List.mem_append.1 (show F∈[zg,rF157]++Ns from hF)).elim (fun h=>(H.vS (L:=[zg,rF157]) [1,2]) F h b hb) fun h=>H.QW (K0.behind 3 rfl) F h b hb)
     try dsimp only [List.set] at H
     obtain ⟨G165,N,hn166,H⟩:=H.zG 6 rfl N (fun F hF b hb=>(List.mem_append.1 (show F∈[G163,zg,rF157]++Ns from hF)).elim (fun h=>(H.vS (L:=[G163,zg,rF157]) [0,2,3]) F h b hb) fun h=>H.QW (K0.behind 4 rfl) F h b hb)
     try dsimp only [List.set] at H
     obtain ⟨G167,N,hn168,H⟩:=H.zG 7 rfl N (fun F hF b hb=>(List.mem_append.1 (show F∈[G165,G163,zg,rF157]++Ns from hF)).elim (fun h=>(H.vS (L:=[G165,G163,zg,rF157]) [0,1,3,4]) F h b hb) fun h=>H.QW (K0.behind 5 rfl) F h b hb)
     try dsimp only [List.set] at H
     obtain ⟨G169,N,hn170,H⟩:=H.zG 8 rfl N (fun F hF b hb=>(List.mem_append.1 (show F∈[G167,G165,G163,zg,rF157]++Ns from hF)).elim (fun h=>(H.vS (L:=[G167,G165,G163,zg,rF157]) [0,1,2,4,5]) F h b hb) fun h=>H.QW (K0.behind 6 rfl) F h b hb)
     try dsimp only [List.set] at H
     obtain ⟨G171,N,hn172,H⟩:=H.zG 9 rfl N (fun F hF b hb=>(List.mem_append.1 (show F∈[G169,G167,G165,G163,zg,rF157]++Ns from hF)).elim (fun h=>(H.vS (L:=[G169,G167,G165,G163,zg,rF157]) [0,1,2,3,5,6]) F h b hb) fun h=>H.QW (K0.behind 7 rfl) F h b hb)
     try dsimp only [List.set] at H
     have H0:=H
     obtain ⟨G173,hg175,hn174,H⟩:=H.yj (α:=Xy) 10 rfl 7 rfl qj
     replace N:Fresh W0.heap.size (G173 :: G171 :: G169 :: G167 :: G165 :: G163 :: zg :: Ns):=Fresh.ice (N.zV 7 [6,0,1,2,3,4,5] qo) H0 10 hg175.1 hg175.2 (fun F hF b hb=>(List.mem_append.1 (show F∈[G171,G169,G167,G165,G163,zg]++Ns from hF)).elim (fun h=>(H0.vS (L:=[G171,G169,G167,G165,G163,zg]) [0,1,2,3,4,6]) F h b hb) fun h=>H0.QW (K0.behind 8 rfl) F h b hb)
     clear H0
     try dsimp only [List.set] at H
     refine zk H 4 rfl 0 rfl Tryz.underlying25 ti70 rfl qj rfl rfl rfl qw qp qf fun a160 c161 w162 H=>?_
     try dsimp only [List.set] at H
     replace H:=H.snoc_RuleD 7 rfl zi129 zi130 5 rfl 4 rfl 3 rfl 2 rfl 1 rfl 0 rfl zb137
     replace N:Fresh W0.heap.size ((zg++(G163++G165++G167++G169++G171++G173)) :: Ns):=(N.zV 7 [5,4,3,2,1,0,6] qo).join.join.join.join.join.swap.join
     refine ⟨H.pick [3,11] [8,7],(tF 6 rfl rfl (H.pick [3,11] [8,7]) ?_)⟩
     refine ro 7 rfl (xO H 2 [.int .i64 (1+zi9),.slice jk zL ji,.slice a160 (Qj+1) c161] Tryz.sizeOf25 fun w176 H=>?_)
     try dsimp only [List.set] at H
     refine ⟨H.pick [3,11] [8,7],(xq qh ((meet ⟨_,zi127,zi129,zi130,zl131,zl132,zl133,zl134,zl135,zI136,zb137,zi128,a160,c161,ra138,rc140,ra141,rc143,ra144,rc146,ra147,rc149,ra150,rc152,ra153,rc155,G163,G165,G167,G169,G171,G173,uE4,hx125,hx126,N,H.zV 12 10 [1,2,3,4,11] [0,1,2,3,4,5,6,7] qo qo⟩)))⟩
    ·skip
     have f0:jL (⟨1+zi9,y_Parents,y_Rules⟩:qE):=frame_of i3 qf qf
     have H1:=H.yg 5 2 [1,2,3,0,4] [1,0] qo qo
     have N1:Fresh _ (zg :: Ns):=N
     have K1:Kept (Ns) (Γ):=K0.behind 0 rfl
     refine zJ #[.pointer (some ⟨bs,0,none⟩),.pointer (some ⟨b12,0,none⟩)] rfl rfl Tryz.call140 (dRule_ok code s_at_1 s_seed_1 bs ac cc Fc (1+zi9) y_Parents y_Rules b12 jk zL ji Xx Qj Xv vz zg H1 N1 K1 qg qg) ?_
     clear H H1 N1 K1
     rintro _ w177 ⟨zi181,zi182,zi183,zi184,zl185,zl186,zl187,zl188,zl189,zI190,zb191,ra192,rn193,rc194,ra195,rn196,rc197,ra198,rn199,rc200,ra201,rn202,rc203,ra204,rn205,rc206,ra207,rn208,rc209,rx210,rF211,hx179,hx180,rfl,N,H⟩
     obtain rfl:=H.jm 4 rfl
     obtain rfl:=H.jm 5 rfl
     obtain rfl:=H.jm 6 rfl
     obtain rfl:=H.jm 7 rfl
     obtain rfl:=H.jm 8 rfl
     obtain rfl:=H.xK (α:=Xy) 9 rfl 2 rfl qj
     refine ⟨H.pick [2,10] [1,0],(zY [1,4] qh qm (jd rfl ?_ (jd rfl ?_ zZ)))⟩
     ·skip
      refine zl (.slice Xx Qj Xv) Tryz.isAgg25 rfl (H.cell 1 rfl rfl) (⟨H.pick [2,10] [1,0],(ro 4 rfl (zf H Tryz.underlying25 ti70 [.int .i64 zi183,.int .i64 zi184,.slice ra192 zl185.length rc194,.slice ra195 zl186.length rc197,.slice ra198 zl187.length rc200,.slice ra201 zl188.length rc203,.slice ra204 zl189.length rc206,.slice ra207 zI190.length rc209,.bool zb191] fun b212 w213 H=>⟨H.pick [3,11] [1,0],(ro 5 rfl ?_)⟩))⟩)
      obtain ⟨G217,N,hn218,H⟩:=H.zG 5 rfl N (fun F hF b hb=>(List.mem_append.1 (show F∈[zg,rF211]++Ns from hF)).elim (fun h=>(H.vS (L:=[zg,rF211]) [1,2]) F h b hb) fun h=>H.QW (K0.behind 3 rfl) F h b hb)
      try dsimp only [List.set] at H
      obtain ⟨G219,N,hn220,H⟩:=H.zG 6 rfl N (fun F hF b hb=>(List.mem_append.1 (show F∈[G217,zg,rF211]++Ns from hF)).elim (fun h=>(H.vS (L:=[G217,zg,rF211]) [0,2,3]) F h b hb) fun h=>H.QW (K0.behind 4 rfl) F h b hb)
      try dsimp only [List.set] at H
      obtain ⟨G221,N,hn222,H⟩:=H.zG 7 rfl N (fun F hF b hb=>(List.mem_append.1 (show F∈[G219,G217,zg,rF211]++Ns from hF)).elim (fun h=>(H.vS (L:=[G219,G217,zg,rF211]) [0,1,3,4]) F h b hb) fun h=>H.QW (K0.behind 5 rfl) F h b hb)
      try dsimp only [List.set] at H
      obtain ⟨G223,N,hn224,H⟩:=H.zG 8 rfl N (fun F hF b hb=>(List.mem_append.1 (show F∈[G221,G219,G217,zg,rF211]++Ns from hF)).elim (fun h=>(H.vS (L:=[G221,G219,G217,zg,rF211]) [0,1,2,4,5]) F h b hb) fun h=>H.QW (K0.behind 6 rfl) F h b hb)
      try dsimp only [List.set] at H
      obtain ⟨G225,N,hn226,H⟩:=H.zG 9 rfl N (fun F hF b hb=>(List.mem_append.1 (show F∈[G223,G221,G219,G217,zg,rF211]++Ns from hF)).elim (fun h=>(H.vS (L:=[G223,G221,G219,G217,zg,rF211]) [0,1,2,3,5,6]) F h b hb) fun h=>H.QW (K0.behind 7 rfl) F h b hb)
      try dsimp only [List.set] at H
      have H0:=H
      obtain ⟨G227,hg229,hn228,H⟩:=H.yj (α:=Xy) 10 rfl 7 rfl qj
      replace N:Fresh W0.heap.size (G227 :: G225 :: G223 :: G221 :: G219 :: G217 :: zg :: Ns):=Fresh.ice (N.zV 7 [6,0,1,2,3,4,5] qo) H0 10 hg229.1 hg229.2 (fun F hF b hb=>(List.mem_append.1 (show F∈[G225,G223,G221,G219,G217,zg]++Ns from hF)).elim (fun h=>(H0.vS (L:=[G225,G223,G221,G219,G217,zg]) [0,1,2,3,4,6]) F h b hb) fun h=>H0.QW (K0.behind 8 rfl) F h b hb)
      clear H0
      try dsimp only [List.set] at H
      refine zk H 4 rfl 0 rfl Tryz.underlying25 ti70 rfl qj rfl rfl rfl qw qp qf fun a214 c215 w216 H=>?_
      try dsimp only [List.set] at H
      replace H:=H.snoc_RuleD 7 rfl zi183 zi184 5 rfl 4 rfl 3 rfl 2 rfl 1 rfl 0 rfl zb191
      replace N:Fresh W0.heap.size ((zg++(G217++G219++G221++G223++G225++G227)) :: Ns):=(N.zV 7 [5,4,3,2,1,0,6] qo).join.join.join.join.join.swap.join
      refine ⟨H.pick [3,11] [8,7],(tF 6 rfl rfl (H.pick [3,11] [8,7]) ?_)⟩
      refine ro 7 rfl (xO H 2 [.int .i64 (1+zi9),.slice jk zL ji,.slice a214 (Qj+1) c215] Tryz.sizeOf25 fun w230 H=>?_)
      try dsimp only [List.set] at H
      refine ⟨H.pick [3,11] [8,7],(xq qh ((meet ⟨_,zi181,zi183,zi184,zl185,zl186,zl187,zl188,zl189,zI190,zb191,zi182,a214,c215,ra192,rc194,ra195,rc197,ra198,rc200,ra201,rc203,ra204,rc206,ra207,rc209,G217,G219,G221,G223,G225,G227,uE4,hx179,hx180,N,H.zV 12 10 [1,2,3,4,11] [0,1,2,3,4,5,6,7] qo qo⟩)))⟩
     ·skip
      refine zf H Tryz.underlying25 ti70 [.int .i64 zi183,.int .i64 zi184,.slice ra192 zl185.length rc194,.slice ra195 zl186.length rc197,.slice ra198 zl187.length rc200,.slice ra201 zl188.length rc203,.slice ra204 zl189.length rc206,.slice ra207 zI190.length rc209,.bool zb191] fun b231 w232 H=>⟨H.pick [3,11] [1,0],(ro 1 rfl (zl (.slice Xx Qj Xv) Tryz.isAgg25 rfl (H.cell 2 rfl rfl) (⟨H.pick [3,11] [1,0],(ro 5 rfl ?_)⟩)))⟩
      obtain ⟨G236,N,hn237,H⟩:=H.zG 5 rfl N (fun F hF b hb=>(List.mem_append.1 (show F∈[zg,rF211]++Ns from hF)).elim (fun h=>(H.vS (L:=[zg,rF211]) [1,2]) F h b hb) fun h=>H.QW (K0.behind 3 rfl) F h b hb)
      try dsimp only [List.set] at H
      obtain ⟨G238,N,hn239,H⟩:=H.zG 6 rfl N (fun F hF b hb=>(List.mem_append.1 (show F∈[G236,zg,rF211]++Ns from hF)).elim (fun h=>(H.vS (L:=[G236,zg,rF211]) [0,2,3]) F h b hb) fun h=>H.QW (K0.behind 4 rfl) F h b hb)
      try dsimp only [List.set] at H
      obtain ⟨G240,N,hn241,H⟩:=H.zG 7 rfl N (fun F hF b hb=>(List.mem_append.1 (show F∈[G238,G236,zg,rF211]++Ns from hF)).elim (fun h=>(H.vS (L:=[G238,G236,zg,rF211]) [0,1,3,4]) F h b hb) fun h=>H.QW (K0.behind 5 rfl) F h b hb)
      try dsimp only [List.set] at H
      obtain ⟨G242,N,hn243,H⟩:=H.zG 8 rfl N (fun F hF b hb=>(List.mem_append.1 (show F∈[G240,G238,G236,zg,rF211]++Ns from hF)).elim (fun h=>(H.vS (L:=[G240,G238,G236,zg,rF211]) [0,1,2,4,5]) F h b hb) fun h=>H.QW (K0.behind 6 rfl) F h b hb)
      try dsimp only [List.set] at H
      obtain ⟨G244,N,hn245,H⟩:=H.zG 9 rfl N (fun F hF b hb=>(List.mem_append.1 (show F∈[G242,G240,G238,G236,zg,rF211]++Ns from hF)).elim (fun h=>(H.vS (L:=[G242,G240,G238,G236,zg,rF211]) [0,1,2,3,5,6]) F h b hb) fun h=>H.QW (K0.behind 7 rfl) F h b hb)
      try dsimp only [List.set] at H
      have H0:=H
      obtain ⟨G246,hg248,hn247,H⟩:=H.yj (α:=Xy) 10 rfl 7 rfl qj
      replace N:Fresh W0.heap.size (G246 :: G244 :: G242 :: G240 :: G238 :: G236 :: zg :: Ns):=Fresh.ice (N.zV 7 [6,0,1,2,3,4,5] qo) H0 10 hg248.1 hg248.2 (fun F hF b hb=>(List.mem_append.1 (show F∈[G244,G242,G240,G238,G236,zg]++Ns from hF)).elim (fun h=>(H0.vS (L:=[G244,G242,G240,G238,G236,zg]) [0,1,2,3,4,6]) F h b hb) fun h=>H0.QW (K0.behind 8 rfl) F h b hb)
      clear H0
      try dsimp only [List.set] at H
      refine zk H 4 rfl 0 rfl Tryz.underlying25 ti70 rfl qj rfl rfl rfl qw qp qf fun a233 c234 w235 H=>?_
      try dsimp only [List.set] at H
      replace H:=H.snoc_RuleD 7 rfl zi183 zi184 5 rfl 4 rfl 3 rfl 2 rfl 1 rfl 0 rfl zb191
      replace N:Fresh W0.heap.size ((zg++(G236++G238++G240++G242++G244++G246)) :: Ns):=(N.zV 7 [5,4,3,2,1,0,6] qo).join.join.join.join.join.swap.join
      refine ⟨H.pick [3,11] [8,7],(tF 6 rfl rfl (H.pick [3,11] [8,7]) ?_)⟩
      refine ro 7 rfl (xO H 2 [.int .i64 (1+zi9),.slice jk zL ji,.slice a233 (Qj+1) c234] Tryz.sizeOf25 fun w249 H=>?_)
      try dsimp only [List.set] at H
      refine ⟨H.pick [3,11] [8,7],(xq qh ((meet ⟨_,zi181,zi183,zi184,zl185,zl186,zl187,zl188,zl189,zI190,zb191,zi182,a233,c234,ra192,rc194,ra195,rc197,ra198,rc200,ra201,rc203,ra204,rc206,ra207,rc209,G236,G238,G240,G242,G244,G246,uE4,hx179,hx180,N,H.zV 12 10 [1,2,3,4,11] [0,1,2,3,4,5,6,7] qo qo⟩)))⟩
   ·skip
    clear H N
    rintro ρ w250 ⟨xM,zi90,zi91,zi92,zl93,zl94,zl95,zl96,zl97,zI98,zb99,zi100,a101,c102,ra103,rc104,ra105,rc106,ra107,rc108,ra109,rc110,ra111,rc112,ra113,rc114,G115,G116,G117,G118,G119,G120,rfl,hx251,hx252,N,H⟩
    refine b_n (t_n (xU (sp (.int .i64 k) (sw (o_sub k 1 rfl rfl qf (sq 1 (xY (xe (m' :=(k - 1).toNat) qf ⟨_,_,_,_,_,_,_,_,_,_,uE4,?_,?_,?_,rfl,N,H.zV 5 8 [3,0,1,2,4] [0,7] qo qo⟩))))))))
    · omega
    · simp;omega
    · exact j3.snoc ql
  ·skip
   refine zx4 (zcr (sw (xI [.int .i64 (1+zi9),.slice jk zL ji,.slice Xx Qj Xv] Tryz.isAgg27 Tryz.sizeOf27 rfl (qC (H.cells 2 rfl) 0 3) (sw (xG H 4 [.int .i64 (1+zi9),.slice jk zL ji,.slice Xx Qj Xv] Tryz.sizeOf27 fun w253 H=>?_)))))
   try dsimp only [List.set] at H
   refine zjr (retC H 4 rfl rfl Tryz.isAgg27 Tryz.sizeOf27 rfl ⟨_,rfl,(⟨s_at_1,s_seed_1,1+zi9,y_Parents,y_Rules,jk,zL,ji,Xx,Qj,Xv,vz,zg,qf,(by exact sysDr_of i3 qf qf qf j3),rfl,N,H.zV 5 2 [1,3,0] [1,0] qo qo⟩)⟩)

theorem dState_ok {W0 w:World} {ps:List Prv} {Γ:List Fact} {Ns:List yLN} (code:List UInt8) (ip:Int) (sd:Int) (bs:Nat) (ac:yOA) (cc:Nat) (Fc:yLN) (kk:Int) (par:yLI) (rules:List jw) (bY:Nat) (rap:yOA) (rnp:Nat) (rcp:Nat) (raR:yOA) (rnR:Nat) (rcR:Nat) (rxR:List Value) (rFR:yLN) (frR:Bool) (most:Int) (H:St W0 w ((.box bs [.slice ac code.length cc,.int .i64 ip,.int .u64 sd] 115) :: (.box bY [.int .i64 kk,.slice rap rnp rcp,.slice raR rnR rcR] 27) :: (rr rap rnp rcp 2 1 (par.map (Value.int .i64))) :: (rr raR rnR rcR 70 9 rxR) :: ps) ((sF false Fc ac cc code) :: (xB frR rFR rxR rules) :: Γ)) (N:Fresh W0.heap.size (Ns)) (K0:Kept Ns Γ) (q0:0≤ip∧ip≤40000) (f0:jL (⟨kk,par,rules⟩:qE)) (q2:1≤most∧most≤6):Calls Tryz.prog 88 #[.pointer (some ⟨bs,0,none⟩),.pointer (some ⟨bY,0,none⟩),.int .i64 most] w (fun e w' =>∃ v,e=.returned v∧∃ (ip_:Int) (sd_:Int) (alive_:List Bool) (bags_:yLL) (around_:yLI) (raA:yOA) (rnA:Nat) (rcA:Nat) (raB:yOA) (rnB:Nat) (rcB:Nat) (rxB:List Value) (rFB:yLN) (raD:yOA) (rnD:Nat) (rcD:Nat),(ip≤ip_∧ip_≤ip+200)∧(StDr kk par.length most alive_ bags_ around_)∧v=.agg #[.slice raA rnA rcA,.slice raB rnB rcB,.slice raD rnD rcD]∧Fresh W0.heap.size (rFB :: Ns)∧St W0 w' ((.box bs [.slice ac code.length cc,.int .i64 ip_,.int .u64 sd_] 115) :: (.box bY [.int .i64 kk,.slice rap rnp rcp,.slice raR rnR rcR] 27) :: (rr rap rnp rcp 2 1 (par.map (Value.int .i64))) :: (rr raR rnR rcR 70 9 rxR) :: (rr raA rnA rcA 4 1 (alive_.map (Value.bool))) :: (rr raB rnB rcB 24 1 rxB) :: (rr raD rnD rcD 2 1 (around_.map (Value.int .i64))) :: ps) ((sF false Fc ac cc code) :: (xB frR rFR rxR rules) :: (xB true rFB rxB bags_) :: Γ)):=by
 refine en Tryz.func88 Tryz.ntmps88 ?_
 have ncode:=qM (H.get 0 rfl).1
 obtain rfl:=H.jm 2 rfl
 obtain rfl:=H.xK (α:=jw) 3 rfl 1 rfl qj
 have f1:1≤kk∧kk≤8:=f0.1
 have f2:1≤par.length∧par.length≤6:=f0.2.1
 refine zcr (sw (xx H ti31 [.slice none 0 0,.slice none 0 0,.slice none 0 0] fun b1 w2 H=>zjc (sq 2 (oF rfl (oL rfl (H.cell 2 rfl rfl) (sw (vM H Tryz.underlying24 ti2 kk.toNat rfl rfl qf qf qf fun b3 w4 H=>sw (zO [.slice none 0 0,.slice none 0 0,.slice (some ⟨b3,0,none⟩) kk.toNat kk.toNat] [(2,.slice (some ⟨b3,0,none⟩) kk.toNat kk.toNat)] (sw (xx H ti31 [.slice none 0 0,.slice none 0 0,.slice none 0 0] fun b5 w6 H=>?_))))))))))
 refine sw (xG H 0 [.slice none 0 0,.slice none 0 0,.slice (some ⟨b3,0,none⟩) kk.toNat kk.toNat] Tryz.sizeOf31 fun w7 H=>?_)
 try dsimp only [List.set] at H
 refine zjcc (sp (.int .i64 0) (zjn (qY ?_)))
 replace H:=H.nilRowB 4
 replace H:=H.nilRow 24 1
 replace H:=H.zW (α:=yLI)
 refine zq (fun m' ρ w8=>∃ (xM:Env) (c:Nat) (s_at:Int) (s_seed:Int) (X5:yOA) (Qk:Nat) (X3:Nat) (t_Alive:List Bool) (XQ:yOA) (QO:Nat) (XI:Nat) (t_Bags:yLL) (x_t_Bags:List Value) (jP:yLN),ρ=upd (upd (upd (upd (upd (upd xM 0 (.pointer (some ⟨bs,0,none⟩))) 1 (.pointer (some ⟨bY,0,none⟩))) 2 (.int .i64 most)) 6 (.pointer (some ⟨b1,0,none⟩))) 7 (.pointer (some ⟨b5,0,none⟩))) 8 (.int .i64 c)∧((c:Int)≤par.length)∧(ip≤s_at∧s_at≤ip+22 * c)∧(StTo kk most c t_Alive t_Bags)∧m' =(par.length - (c:Int)).toNat∧Fresh W0.heap.size (jP :: Ns)∧St W0 w8 ((rr XQ QO XI 24 1 x_t_Bags) :: (rr X5 Qk X3 4 1 (t_Alive.map (Value.bool))) :: (.box b5 [.slice X5 Qk X3,.slice XQ QO XI,.slice (some ⟨b3,0,none⟩) kk.toNat kk.toNat] 31) :: (rr (some ⟨b3,0,none⟩) kk.toNat kk.toNat 2 1 ((List.replicate kk.toNat (0:Int)).map (Value.int .i64))) :: (.box b1 [.slice none 0 0,.slice none 0 0,.slice none 0 0] 31) :: (.box bs [.slice ac code.length cc,.int .i64 s_at,.int .u64 s_seed] 115) :: (.box bY [.int .i64 kk,.slice rap par.length rcp,.slice raR rules.length rcR] 27) :: (rr rap par.length rcp 2 1 (par.map (Value.int .i64))) :: (rr raR rules.length rcR 70 9 rxR) :: ps) ((xB true jP x_t_Bags t_Bags) :: (sF false Fc ac cc code) :: (xB frR rFR rxR rules) :: Γ)) ((par.length - (0:Int)).toNat) ⟨_,0,ip,sd,none,0,0,[],none,0,0,([]:yLL),[],[],uE6,qf,qf,(by exact StTo.nil _ _),rfl,N.emp,H⟩ ?_
 clear H N
 rintro m' ρ w9 ⟨xM,c,s_at,s_seed,X5,Qk,X3,t_Alive,XQ,QO,XI,t_Bags,x_t_Bags,jP,rfl,i0,i1,i2,rfl,N,H⟩
 have hn_t_Alive:=H.XC 1 rfl
 have hn_t_Bags:=H.xK (α:=yLI) 0 rfl 0 rfl qj
 have i3:=i2.la
 have i4:=i2.lb
 refine zcc (sp (.int .i64 c) (sq 2 (oF rfl (oL rfl (H.cell 6 rfl rfl) (oN rfl (sq 1 (zjn (cD rfl (fun h10=>?_) (fun h10=>?_)))))))))
 ·skip
  refine qW (t_n (xQ (qY (zcr (sp (.int .i64 c) (sp (.bool ((c:Int) == 0)) (sp (.bool ((c:Int) == 0)) ?_)))))))
  cases h11:((c:Int) == 0)
  ·skip
   replace h11:=ne_of_beq_false h11
   refine qL 28 rfl rfl (sq 1 (qL 28 rfl rfl ?_))
   have H1:=H.yg 9 3 [5,0,1,2,3,4,6,7,8] [1,0,2] qo qo
   have N1:Fresh _ (jP :: Ns):=N
   have K1:Kept (Ns) ((xB true jP x_t_Bags t_Bags) :: (xB frR rFR rxR rules) :: Γ):=K0.behind 2 rfl
   replace K1:=K1.cons (F:=jP) 0 rfl rfl
   refine sw (zJ #[.pointer (some ⟨bs,0,none⟩),.int .i64 8] rfl rfl Tryz.call41 (dOne_ok code s_at s_seed bs ac cc Fc (8:Int) H1 N1 K1 qg) ?_)
   clear H H1 N1 K1
   rintro _ w12 ⟨zi15,zi16,zb17,hx14,rfl,N,H⟩
   refine qL 28 rfl rfl (sp (.bool !zb17) (sp (.bool !zb17) (sp (.bool !zb17) (zjc (sq 2 (oF rfl (oL rfl (H.cell 6 rfl rfl) (sw (vM H Tryz.underlying24 ti2 kk.toNat rfl rfl qf qf qf fun b18 w19 H=>sq 1 (zjcc (sp (.bool !zb17) (zjn (xE _ rfl (fun h20=>?_) (fun h20=>?_))))))))))))))
   ·skip
    replace h20:=xJ h20
    refine xU (sq 3 (oF rfl (oL rfl (H.cell 7 rfl rfl) (sq 1 ?_))))
    have H1:=H.yg 10 3 [1,0,2,3,4,5,6,7,8,9] [0,1,2] qo qo
    have N1:Fresh _ (jP :: Ns):=N
    have K1:Kept (Ns) ((xB true jP x_t_Bags t_Bags) :: (xB frR rFR rxR rules) :: Γ):=K0.behind 2 rfl
    replace K1:=K1.cons (F:=jP) 0 rfl rfl
    refine sw (zJ #[.pointer (some ⟨bs,0,none⟩),.int .i64 kk,.int .i64 most] rfl rfl Tryz.call141 (dFew_ok code zi15 zi16 bs ac cc Fc kk most H1 N1 K1 qg qg qg) ?_)
    clear H H1 N1 K1
    rintro _ w21 ⟨zi25,zi26,zl27,ra28,rn29,rc30,hx23,hx24,rfl,N,H⟩
    obtain rfl:=H.jm 1 rfl
    refine sq 1 (zjc (oF rfl (oL rfl (H.cell 5 rfl rfl) (sp (.bool !zb17) (sw (zf H Tryz.underlying28 ti4 [.bool !zb17] fun b31 w32 H=>sw (zk H 5 rfl 0 rfl Tryz.underlying28 ti4 rfl qj rfl rfl rfl qw qp qf fun a33 c34 w35 H=>?_)))))))
    rw [snocB] at H
    try dsimp only [List.set] at H
    refine oF rfl (sw (xO H 6 [.slice a33 (Qk+1) c34,.slice XQ QO XI,.slice (some ⟨b3,0,none⟩) kk.toNat kk.toNat] Tryz.sizeOf28 fun w36 H=>?_))
    try dsimp only [List.set] at H
    refine zjn (xU (oF rfl (oL rfl (H.cell 6 rfl rfl) (sq 1 (sw (zf H Tryz.underlying29 ti24 [.slice ra28 zl27.length rc30] fun b37 w38 H=>?_))))))
    obtain ⟨G42,N,hn43,H⟩:=H.zG 3 rfl N (fun F hF b hb=>(List.mem_append.1 (show F∈[jP]++Ns from hF)).elim (fun h=>(H.vS (L:=[jP]) [1]) F h b hb) fun h=>H.QW (K0.behind 3 rfl) F h b hb)
    try dsimp only [List.set] at H
    refine sw (zk H 5 rfl 0 rfl Tryz.underlying29 ti24 rfl qj rfl rfl rfl qw qp qf fun a39 c40 w41 H=>?_)
    try dsimp only [List.set] at H
    replace H:=H.jM 2 rfl 0 rfl
    replace N:Fresh W0.heap.size ((jP++G42) :: Ns):=(N.zV 2 [1,0] qo).join
    refine oF rfl (sw (xO H 7 [.slice a33 (Qk+1) c34,.slice a39 (QO+1) c40,.slice (some ⟨b3,0,none⟩) kk.toNat kk.toNat] Tryz.sizeOf29 fun w44 H=>?_))
    try dsimp only [List.set] at H
    refine xY (b_n (t_n (xU (sp (.int .i64 c) (sw (zA c 1 rfl rfl qf (sq 1 (xY (xe (m' :=(par.length - ((c+1):Int)).toNat) qf ⟨_,c+1,_,_,_,_,_,_,_,_,_,_,_,_,uE6,?_,?_,?_,rfl,N,H.zV 13 5 [5,6,7,8,9,2,10,11,12] [0,2,4] qo qo⟩)))))))))
    · omega
    · omega
    · first | exact i2.snoc (fun _=>rfl) ql (fun h=>by cases h) | exact i2.snoc (fun h=>by omega) ql (fun h=>by simp_all) | exact i2.snoc (fun h=>by omega) (zX.zero qf qf) (fun _=>sum_zeros _)
   ·skip
    replace h20:=xw h20
    refine qW (t_n (zcr (oF rfl (oL rfl (H.cell 4 rfl rfl) (sp (.bool !zb17) (sw (zf H Tryz.underlying28 ti4 [.bool !zb17] fun b45 w46 H=>sw (zk H 4 rfl 0 rfl Tryz.underlying28 ti4 rfl qj rfl rfl rfl qw qp qf fun a47 c48 w49 H=>?_))))))))
    rw [snocB] at H
    try dsimp only [List.set] at H
    refine oF rfl (sw (xO H 5 [.slice a47 (Qk+1) c48,.slice XQ QO XI,.slice (some ⟨b3,0,none⟩) kk.toNat kk.toNat] Tryz.sizeOf28 fun w50 H=>?_))
    try dsimp only [List.set] at H
    refine zjn (xU (oF rfl (oL rfl (H.cell 5 rfl rfl) (sq 1 (sw (zf H Tryz.underlying29 ti24 [.slice (some ⟨b18,0,none⟩) kk.toNat kk.toNat] fun b51 w52 H=>?_))))))
    obtain ⟨G56,N,hn57,H⟩:=H.zG 2 rfl N (fun F hF b hb=>(List.mem_append.1 (show F∈[jP]++Ns from hF)).elim (fun h=>(H.vS (L:=[jP]) [1]) F h b hb) fun h=>H.QW (K0.behind 3 rfl) F h b hb)
    try dsimp only [List.set] at H
    refine sw (zk H 4 rfl 0 rfl Tryz.underlying29 ti24 rfl qj rfl rfl rfl qw qp qf fun a53 c54 w55 H=>?_)
    try dsimp only [List.set] at H
    replace H:=H.jM 2 rfl 0 rfl
    replace N:Fresh W0.heap.size ((jP++G56) :: Ns):=(N.zV 2 [1,0] qo).join
    refine oF rfl (sw (xO H 6 [.slice a47 (Qk+1) c48,.slice a53 (QO+1) c54,.slice (some ⟨b3,0,none⟩) kk.toNat kk.toNat] Tryz.sizeOf29 fun w58 H=>?_))
    try dsimp only [List.set] at H
    refine xY (b_n (t_n (xU (sp (.int .i64 c) (sw (zA c 1 rfl rfl qf (sq 1 (xY (xe (m' :=(par.length - ((c+1):Int)).toNat) qf ⟨_,c+1,_,_,_,_,_,_,_,_,_,_,_,_,uE6,?_,?_,?_,rfl,N,H.zV 12 5 [4,5,6,7,8,3,9,10,11] [0,2,4] qo qo⟩)))))))))
    · omega
    · omega
    · first | exact i2.snoc (fun _=>rfl) ql (fun h=>by cases h) | exact i2.snoc (fun h=>by omega) ql (fun h=>by simp_all) | exact i2.snoc (fun h=>by omega) (zX.zero qf qf) (fun _=>sum_zeros _)
  ·skip
   replace h11:=eq_of_beq h11
   refine xZ [29,30,31] (sp (.bool true) (sp (.bool true) (zjc (sq 2 (oF rfl (oL rfl (H.cell 6 rfl rfl) (sw (vM H Tryz.underlying24 ti2 kk.toNat rfl rfl qf qf qf fun b59 w60 H=>sq 1 (zjcc (sp (.bool true) (zjn (xE true rfl (fun _=>xU (sq 3 (oF rfl (oL rfl (H.cell 7 rfl rfl) (sq 1 ?_))))) (fun h=>absurd h qj)))))))))))))
   have H1:=H.yg 10 3 [6,0,1,2,3,4,5,7,8,9] [1,0,2] qo qo
   have N1:Fresh _ (jP :: Ns):=N
   have K1:Kept (Ns) ((xB true jP x_t_Bags t_Bags) :: (xB frR rFR rxR rules) :: Γ):=K0.behind 2 rfl
   replace K1:=K1.cons (F:=jP) 0 rfl rfl
   refine sw (zJ #[.pointer (some ⟨bs,0,none⟩),.int .i64 kk,.int .i64 most] rfl rfl Tryz.call141 (dFew_ok code s_at s_seed bs ac cc Fc kk most H1 N1 K1 qg qg qg) ?_)
   clear H H1 N1 K1
   rintro _ w61 ⟨zi65,zi66,zl67,ra68,rn69,rc70,hx63,hx64,rfl,N,H⟩
   obtain rfl:=H.jm 1 rfl
   refine sq 1 (zjc (oF rfl (oL rfl (H.cell 5 rfl rfl) (sp (.bool true) (sw (zf H Tryz.underlying28 ti4 [.bool true] fun b71 w72 H=>sw (zk H 5 rfl 0 rfl Tryz.underlying28 ti4 rfl qj rfl rfl rfl qw qp qf fun a73 c74 w75 H=>?_)))))))
   rw [snocB] at H
   try dsimp only [List.set] at H
   refine oF rfl (sw (xO H 6 [.slice a73 (Qk+1) c74,.slice XQ QO XI,.slice (some ⟨b3,0,none⟩) kk.toNat kk.toNat] Tryz.sizeOf28 fun w76 H=>?_))
   try dsimp only [List.set] at H
   refine zjn (xU (oF rfl (oL rfl (H.cell 6 rfl rfl) (sq 1 (sw (zf H Tryz.underlying29 ti24 [.slice ra68 zl67.length rc70] fun b77 w78 H=>?_))))))
   obtain ⟨G82,N,hn83,H⟩:=H.zG 3 rfl N (fun F hF b hb=>(List.mem_append.1 (show F∈[jP]++Ns from hF)).elim (fun h=>(H.vS (L:=[jP]) [1]) F h b hb) fun h=>H.QW (K0.behind 3 rfl) F h b hb)
   try dsimp only [List.set] at H
   refine sw (zk H 5 rfl 0 rfl Tryz.underlying29 ti24 rfl qj rfl rfl rfl qw qp qf fun a79 c80 w81 H=>?_)
   try dsimp only [List.set] at H
   replace H:=H.jM 2 rfl 0 rfl
   replace N:Fresh W0.heap.size ((jP++G82) :: Ns):=(N.zV 2 [1,0] qo).join
   refine oF rfl (sw (xO H 7 [.slice a73 (Qk+1) c74,.slice a79 (QO+1) c80,.slice (some ⟨b3,0,none⟩) kk.toNat kk.toNat] Tryz.sizeOf29 fun w84 H=>?_))
   try dsimp only [List.set] at H
   refine xY (b_n (t_n (xU (sp (.int .i64 c) (sw (zA c 1 rfl rfl qf (sq 1 (xY (xe (m' :=(par.length - ((c+1):Int)).toNat) qf ⟨_,c+1,_,_,_,_,_,_,_,_,_,_,_,_,uE6,?_,?_,?_,rfl,N,H.zV 13 5 [5,6,7,8,9,2,10,11,12] [0,2,4] qo qo⟩)))))))))
   · omega
   · omega
   · first | exact i2.snoc (fun _=>rfl) ql (fun h=>by cases h) | exact i2.snoc (fun h=>by omega) ql (fun h=>by simp_all) | exact i2.snoc (fun h=>by omega) (zX.zero qf qf) (fun _=>sum_zeros _)
 ·skip
  refine zx4 (zcc (sq 1 ?_))
  have H1:=H.yg 9 3 [5,0,1,2,3,4,6,7,8] [1,0,2] qo qo
  have N1:Fresh _ (jP :: Ns):=N
  have K1:Kept (Ns) ((xB true jP x_t_Bags t_Bags) :: (xB frR rFR rxR rules) :: Γ):=K0.behind 2 rfl
  replace K1:=K1.cons (F:=jP) 0 rfl rfl
  refine sw (zJ #[.pointer (some ⟨bs,0,none⟩),.int .i64 3] rfl rfl Tryz.call41 (dOne_ok code s_at s_seed bs ac cc Fc (3:Int) H1 N1 K1 qg) ?_)
  clear H H1 N1 K1
  rintro _ w85 ⟨zi88,zi89,zb90,hx87,rfl,N,H⟩
  refine zjn (xE _ rfl (fun h91=>?_) (fun h91=>?_))
  ·skip
   refine xU (sq 3 (oF rfl (oL rfl (H.cell 6 rfl rfl) ?_)))
   have H1:=H.yg 9 3 [0,1,2,3,4,5,6,7,8] [0,1,2] qo qo
   have N1:Fresh _ (jP :: Ns):=N
   have K1:Kept (Ns) ((xB true jP x_t_Bags t_Bags) :: (xB frR rFR rxR rules) :: Γ):=K0.behind 2 rfl
   replace K1:=K1.cons (F:=jP) 0 rfl rfl
   refine sw (zJ #[.pointer (some ⟨bs,0,none⟩),.int .i64 kk,.int .i64 2] rfl rfl Tryz.call141 (dFew_ok code zi88 zi89 bs ac cc Fc kk (2:Int) H1 N1 K1 qg qg qg) ?_)
   clear H H1 N1 K1
   rintro _ w92 ⟨zi96,zi97,zl98,ra99,rn100,rc101,hx94,hx95,rfl,N,H⟩
   obtain rfl:=H.jm 1 rfl
   refine oF rfl (sw (xO H 4 [.slice X5 Qk X3,.slice XQ QO XI,.slice ra99 zl98.length rc101] Tryz.sizeOf24 fun w102 H=>?_))
   try dsimp only [List.set] at H
   refine zjc (sw (xI [.slice X5 Qk X3,.slice XQ QO XI,.slice ra99 zl98.length rc101] Tryz.isAgg31 Tryz.sizeOf31 rfl (qC (H.cells 4 rfl) 0 3) (sw (xG H 6 [.slice X5 Qk X3,.slice XQ QO XI,.slice ra99 zl98.length rc101] Tryz.sizeOf31 fun w103 H=>?_))))
   try dsimp only [List.set] at H
   refine zjr (retC H 6 rfl rfl Tryz.isAgg31 Tryz.sizeOf31 rfl ⟨_,rfl,?_⟩)
   obtain rfl:c=par.length:=by omega
   exact ⟨zi96,zi97,t_Alive,t_Bags,zl98,X5,Qk,X3,XQ,QO,XI,x_t_Bags,jP,ra99,zl98.length,rc101,qf,(by first | exact ⟨i2.la,i2.lb,i2.skin qf,by assumption,i2.bags⟩ | exact ⟨i2.la,i2.lb,i2.skin qf,zX.zero qf qf,i2.bags⟩),rfl,N,H.zV 10 3 [0,7,8,9,3,2,1] [0,2,1] qo qo⟩
  ·skip
   refine qW (t_n (zcr (sw (xI [.slice X5 Qk X3,.slice XQ QO XI,.slice (some ⟨b3,0,none⟩) kk.toNat kk.toNat] Tryz.isAgg31 Tryz.sizeOf31 rfl (qC (H.cells 3 rfl) 0 3) (sw (xG H 5 [.slice X5 Qk X3,.slice XQ QO XI,.slice (some ⟨b3,0,none⟩) kk.toNat kk.toNat] Tryz.sizeOf31 fun w104 H=>?_))))))
   try dsimp only [List.set] at H
   refine zjr (retC H 5 rfl rfl Tryz.isAgg31 Tryz.sizeOf31 rfl ⟨_,rfl,?_⟩)
   obtain rfl:c=par.length:=by omega
   exact ⟨zi88,zi89,t_Alive,t_Bags,(List.replicate kk.toNat (0:Int)),X5,Qk,X3,XQ,QO,XI,x_t_Bags,jP,(some ⟨b3,0,none⟩),kk.toNat,kk.toNat,qf,(by first | exact ⟨i2.la,i2.lb,i2.skin qf,by assumption,i2.bags⟩ | exact ⟨i2.la,i2.lb,i2.skin qf,zX.zero qf qf,i2.bags⟩),rfl,N,H.zV 9 3 [0,6,7,8,2,1,4] [0,2,1] qo qo⟩
end
section
open Go.RowKit
set_option linter.unusedVariables false
set_option linter.unusedSimpArgs false
theorem St.rowel_RuleD {W0 w:World} {ps:List Prv} {Γ:List Fact} (H:St W0 w ps Γ) (k:Nat) {b c:Nat} {e:TypeId} {nn:Nat} {xs:List Value} (hp:ps[k]? =some (.row (.slice (some ⟨b,0,none⟩) nn c) e 9 nn xs)) (j:Nat) {fr:Bool} {F:yLN} {l:List jw}
    (hf:Γ[j]? =some (xB fr F xs l)) {iv:Int} (i:Nat) (h:iv.toNat=i) (h1:i < nn):
    ∃ (aN:yOA) (cN:Nat) (FN:yLN) (aH:yOA) (cH:Nat) (FH:yLN) (aL:yOA) (cL:Nat) (FL:yLN) (aE:yOA) (cE:Nat) (FE:yLN) (aO:yOA) (cO:Nat) (FO:yLN) (aI:yOA) (cI:Nat) (FI:yLN),
      (∀ (q:Nat) (v:Value),([.int .i64 (l[i]!).qP,.int .i64 (l[i]!).jI,.slice aN ((l[i]!).zB.length) cN,.slice aH ((l[i]!).vJ.length) cH,.slice aL ((l[i]!).vP.length) cL,.slice aE ((l[i]!).vT.length) cE,.slice aO ((l[i]!).yP.length) cO,.slice aI ((l[i]!).xh.length) cI,.bool (l[i]!).jB]:List Value)[q]? =some v→xs[0+iv.toNat * 9+q]? =some v)∧
      St W0 w ps (isF fr FN (.slice aN ((l[i]!).zB.length) cN) ((l[i]!).zB) :: isF fr FH (.slice aH ((l[i]!).vJ.length) cH) ((l[i]!).vJ) :: isF fr FL (.slice aL ((l[i]!).vP.length) cL) ((l[i]!).vP) ::
        isF fr FE (.slice aE ((l[i]!).vT.length) cE) ((l[i]!).vT) :: isF fr FO (.slice aO ((l[i]!).yP.length) cO) ((l[i]!).yP) :: isF fr FI (.slice aI ((l[i]!).xh.length) cI) ((l[i]!).xh) :: Γ):=by
  obtain ⟨cs,G,hc,hr,hsub,hfr,v1,v2,hv,hv1⟩:=St.rowElem (α:=jw) H k hp j hf qj h h1
  obtain ⟨vN,vH,vL,vE,vO,vI,FN,FH,FL,FE,FO,FI,rfl,hFF,hN,hH,hL,hE,hO,hI⟩:=id hr
  obtain ⟨aN,cN,rfl⟩:=slice_form hN
  obtain ⟨aH,cH,rfl⟩:=slice_form hH
  obtain ⟨aL,cL,rfl⟩:=slice_form hL
  obtain ⟨aE,cE,rfl⟩:=slice_form hE
  obtain ⟨aO,cO,rfl⟩:=slice_form hO
  obtain ⟨aI,cI,rfl⟩:=slice_form hI
  refine ⟨aN,cN,FN,aH,cH,FH,aL,cL,FL,aE,cE,FE,aO,cO,FO,aI,cI,FI,fun q v hq=>?_,?_⟩
  · have hv1:v1.length=i * 9:=hv1
    have hlt:q < 9:=by
      rcases Nat.lt_or_ge q 9 with h | h
      · exact h
      · rw [List.getElem?_eq_none (by simpa using h)] at hq;cases hq
    rw [hv,List.append_assoc,Nat.zero_add,h,← hv1,List.getElem?_append_right qf,Nat.add_sub_cancel_left,List.getElem?_append_left (by simpa using hlt)]
    exact hq
  · have hs:∀ {x:Nat} {X:yLN},x∈X→(∀ y∈X,y∈G)→x∈G:=fun h h' =>h' _ h
    have s6:=H.vZ j hf (isF fr FI (.slice aI ((l[i]!).xh.length) cI) ((l[i]!).xh)) ⟨hI,fun e=>(hfr e).sub (by rw [hFF];intro x hx;simp [hx])⟩ (fun x hx=>hsub x (by rw [hFF];have hx:x∈FI:=hx;simp [hx]))
    have s5:=s6.vZ (j+1) hf (isF fr FO (.slice aO ((l[i]!).yP.length) cO) ((l[i]!).yP)) ⟨hO,fun e=>(hfr e).sub (by rw [hFF];intro x hx;simp [hx])⟩ (fun x hx=>hsub x (by rw [hFF];have hx:x∈FO:=hx;simp [hx]))
    have s4:=s5.vZ (j+2) hf (isF fr FE (.slice aE ((l[i]!).vT.length) cE) ((l[i]!).vT)) ⟨hE,fun e=>(hfr e).sub (by rw [hFF];intro x hx;simp [hx])⟩ (fun x hx=>hsub x (by rw [hFF];have hx:x∈FE:=hx;simp [hx]))
    have s3:=s4.vZ (j+3) hf (isF fr FL (.slice aL ((l[i]!).vP.length) cL) ((l[i]!).vP)) ⟨hL,fun e=>(hfr e).sub (by rw [hFF];intro x hx;simp [hx])⟩ (fun x hx=>hsub x (by rw [hFF];have hx:x∈FL:=hx;simp [hx]))
    have s2:=s3.vZ (j+4) hf (isF fr FH (.slice aH ((l[i]!).vJ.length) cH) ((l[i]!).vJ)) ⟨hH,fun e=>(hfr e).sub (by rw [hFF];intro x hx;simp [hx])⟩ (fun x hx=>hsub x (by rw [hFF];have hx:x∈FH:=hx;simp [hx]))
    exact s2.vZ (j+5) hf (isF fr FN (.slice aN ((l[i]!).zB.length) cN) ((l[i]!).zB)) ⟨hN,fun e=>(hfr e).sub (by rw [hFF];intro x hx;simp [hx])⟩ (fun x hx=>hsub x (by rw [hFF];have hx:x∈FN:=hx;simp [hx]))

theorem part_lt {xs:List Value} {q:Nat} {v:Value} (h:xs[q]? =some v):q < xs.length:=(List.getElem?_eq_some_iff.1 h).1
theorem part_get {cells xs:List Value} {B:Nat} (hx:∀ (q:Nat) (v:Value),cells[q]? =some v→xs[B+q]? =some v) (j:Nat) (u:Value) (hj:j < cells.length):
    ∀ (q:Nat) (v:Value),(cells.set j u)[q]? =some v→(xs.set (B+j) u)[B+q]? =some v:=fun q v h=>by
  have hl:=part_lt (hx j _ (List.getElem?_eq_getElem hj))
  by_cases e:q=j
  · subst e
    rw [List.getElem?_set_self hj] at h
    rw [List.getElem?_set_self hl]
    exact h
  · rw [List.getElem?_set_ne (fun h=>e h.symm)] at h
    rw [List.getElem?_set_ne qf]
    exact hx q v h

section
variable {P : Program} {ops : Array Oper} {Q : Exit → Act → World → Prop} {n : Nat} {ρ : Env} {W0 w : World} {rest : List Oper} {ps : List Prv} {Γ : List Fact}
  {d:Nat} {ty:TypeId} {pos:String} {af:Array Edge} {K:Env→World→Prop}
theorem o_storePart {t:TypeId} {x y:Operand} {b c off:Nat} {e:TypeId} {sz nn:Nat} {xs:List Value} (H:St W0 w ps Γ) (k:Nat) (hp:ps[k]? =some (.row (.slice (some ⟨b,0,none⟩) nn c) e sz nn xs)) (v:Value)
    (hs:∀ w,(Go.sizeOf t).run P w=.ok 1 w) (hx:ev n ρ x=.pointer (some ⟨b,off,none⟩)) (hy:ev n ρ y=v) (h1:v.oneCell' =true) (h2:off < xs.length)
    (kk:∀ w',St W0 w' (ps.set k (.row (.slice (some ⟨b,0,none⟩) nn c) e sz nn (xs.set off v))) Γ→K ρ w'):
    OW P Q ⟨none,.store t x y,ty,pos,af,none⟩ n ρ w K:=by
  have hc:v.cells=#[v]:=by cases v <;> first | rfl | (simp [Value.oneCell'] at h1)
  refine o_storeRow H k hp v (by simpa [hc] using hs) hx hy (by simp [hc,h1]) (by simp [hc];omega) ?_
  simp only [hc,List.size_toArray,List.length_cons,List.length_nil,Nat.zero_add]
  rw [show xs.take off++[v]++xs.drop (off+1)=xs.set off v by rw [List.set_eq_take_append_cons_drop,if_pos qf];simp]
  exact kk
end

theorem reps_part {α:Type} [qO α] [Inhabited α] {w:World} {F G:yLN} {X:List Value} {l:List α} {v:Value} {f:α} (i q:Nat) (hi:i < l.length) (hq:q < qO.size α)
    (hr:∀ Fk ck,qO.rep w Fk ck (l[i]!)→∃ F',qO.rep w F' (ck.set q v) f∧∀ b∈F',b∈Fk∨b∈G) (h:reps w F X l):
    ∃ F',reps w F' (X.set (i * qO.size α+q) v) (l.set i f)∧∀ b∈F',b∈F∨b∈G:=by
  obtain ⟨F1,Fk,F2,v1,cs,v2,hF,hv,hl1,hlc,h1,h2,h3⟩:=reps_get h i hi
  obtain ⟨F',hr',hs⟩:=hr Fk cs (by rw [getElem!_pos l i hi];exact h1)
  refine ⟨F1++F' ++F2,?_,fun b hb=>?_⟩
  · rw [hv,← hl1,List.append_assoc v1,List.set_append_right _ _ qf,Nat.add_sub_cancel_left,List.set_append_left _ _ qf,List.set_eq_take_append_cons_drop (l:=l),if_pos hi,← List.append_assoc]
    have:=yY (yY h2 (reps_one hr')) h3
    simpa using this
  · simp only [List.mem_append] at hb
    rw [hF]
    rcases hb with (hb | hb) | hb
    · exact .inl (by simp [hb])
    · rcases hs b hb with h | h
      · exact .inl (by simp [h])
      · exact .inr h
    · exact .inl (by simp [hb])
section
variable {W0 w : World} {ps : List Prv} {Γ : List Fact}
theorem St.part {β:Type} [qO β] (H:St W0 w ps Γ) (j:Nat) {fr:Bool} {F:yLN} {X:List Value} {l:List jw} (hf:Γ[j]? =some (xB fr F X l)) (m:Nat) {fr' :Bool} {G:yLN} {v:Value} {z:β} (hg:Γ[m]? =some (isF fr' G v z))
    {iv:Int} (i:Nat) (hi:iv.toNat=i) (h1:i < l.length) (q:Nat) (hq:q < 9) (f:jw) (hr:∀ Fk ck,qO.rep w Fk ck (l[i]!)→∃ F',qO.rep w F' (ck.set q v) f∧∀ b∈F',b∈Fk∨b∈G):
    ∃ F',St W0 w ps (xB false F' (X.set (0+iv.toNat * 9+q) v) (l.set i f) :: Γ):=by
  subst hi
  obtain ⟨F',h2,h3⟩:=reps_part (α:=jw) iv.toNat q h1 hq hr (H.get j hf).1
  refine ⟨F',H.add _ ⟨by rw [Nat.zero_add];exact h2,by simp⟩ fun b hb=>?_⟩
  rcases h3 b hb with h | h
  · exact (H.facts _ (List.mem_of_getElem? hf)).2 b h
  · exact (H.facts _ (List.mem_of_getElem? hg)).2 b h
theorem St.part_5 (H:St W0 w ps Γ) (j:Nat) {fr:Bool} {F:yLN} {X:List Value} {l:List jw} (hf:Γ[j]? =some (xB fr F X l)) (m:Nat) {fr' :Bool} {G:yLN} {v:Value} {z:yLI} (hg:Γ[m]? =some (isF fr' G v z)) {iv:Int} (i:Nat) (hi:iv.toNat=i) (h1:i < l.length):
    ∃ F',St W0 w ps (xB false F' (X.set (0+iv.toNat * 9+5) v) (l.set i { l[i]! with vT:=z }) :: Γ):=by
  refine H.part j hf m hg i hi h1 5 qj _ fun Fk ck hk=>?_
  obtain ⟨v1,v2,v3,v4,v5,v6,F1,F2,F3,F4,F5,F6,rfl,rfl,k1,k2,k3,k4,k5,k6⟩:=hk
  refine ⟨_,⟨v1,v2,v3,v,v5,v6,F1,F2,F3,G,F5,F6,rfl,rfl,k1,k2,k3,(H.get m hg).1,k5,k6⟩,fun b hb=>?_⟩
  simp only [List.mem_append] at hb
  rcases hb with ((((hb | hb) | hb) | hb) | hb) | hb <;> simp [hb]
theorem St.part_6 (H:St W0 w ps Γ) (j:Nat) {fr:Bool} {F:yLN} {X:List Value} {l:List jw} (hf:Γ[j]? =some (xB fr F X l)) (m:Nat) {fr' :Bool} {G:yLN} {v:Value} {z:yLI} (hg:Γ[m]? =some (isF fr' G v z)) {iv:Int} (i:Nat) (hi:iv.toNat=i) (h1:i < l.length):
    ∃ F',St W0 w ps (xB false F' (X.set (0+iv.toNat * 9+6) v) (l.set i { l[i]! with yP:=z }) :: Γ):=by
  refine H.part j hf m hg i hi h1 6 qj _ fun Fk ck hk=>?_
  obtain ⟨v1,v2,v3,v4,v5,v6,F1,F2,F3,F4,F5,F6,rfl,rfl,k1,k2,k3,k4,k5,k6⟩:=hk
  refine ⟨_,⟨v1,v2,v3,v4,v,v6,F1,F2,F3,F4,G,F6,rfl,rfl,k1,k2,k3,k4,(H.get m hg).1,k6⟩,fun b hb=>?_⟩
  simp only [List.mem_append] at hb
  rcases hb with ((((hb | hb) | hb) | hb) | hb) | hb <;> simp [hb]
theorem St.part_7 (H:St W0 w ps Γ) (j:Nat) {fr:Bool} {F:yLN} {X:List Value} {l:List jw} (hf:Γ[j]? =some (xB fr F X l)) (m:Nat) {fr' :Bool} {G:yLN} {v:Value} {z:List Xy} (hg:Γ[m]? =some (isF fr' G v z)) {iv:Int} (i:Nat) (hi:iv.toNat=i) (h1:i < l.length):
    ∃ F',St W0 w ps (xB false F' (X.set (0+iv.toNat * 9+7) v) (l.set i { l[i]! with xh:=z }) :: Γ):=by
  refine H.part j hf m hg i hi h1 7 qj _ fun Fk ck hk=>?_
  obtain ⟨v1,v2,v3,v4,v5,v6,F1,F2,F3,F4,F5,F6,rfl,rfl,k1,k2,k3,k4,k5,k6⟩:=hk
  refine ⟨_,⟨v1,v2,v3,v4,v5,v,F1,F2,F3,F4,F5,G,rfl,rfl,k1,k2,k3,k4,k5,(H.get m hg).1⟩,fun b hb=>?_⟩
  simp only [List.mem_append] at hb
  rcases hb with ((((hb | hb) | hb) | hb) | hb) | hb <;> simp [hb]
end

theorem jC.here {kk:Int} {par:yLI} {l:List jw} {i:Nat} {b:yLI} (h:jC kk par l) (hi:i < l.length) (hb:zX kk 2 b):jC kk par (l.set i { l[i]! with vT:=b }):=
  h.set (let r:=h i hi;⟨r.cell,r.rank,r.melts,r.need,r.hav,r.lack,hb,r.out,r.many,r.into⟩)
theorem jC.out {kk:Int} {par:yLI} {l:List jw} {i:Nat} {b:yLI} (h:jC kk par l) (hi:i < l.length) (hb:zX kk 2 b):jC kk par (l.set i { l[i]! with yP:=b }):=
  h.set (let r:=h i hi;⟨r.cell,r.rank,r.melts,r.need,r.hav,r.lack,r.here,hb,r.many,r.into⟩)
theorem jC.into {kk:Int} {par:yLI} {l:List jw} {i:Nat} (h:jC kk par l) (hi:i < l.length):jC kk par (l.set i { l[i]! with xh:=[]}):=
  h.set (let r:=h i hi;⟨r.cell,r.rank,r.melts,r.need,r.hav,r.lack,r.here,r.out,by simp,IntoDr.nil _ _ _ _⟩)
theorem jC.still {kk:Int} {par:yLI} {l:List jw} {i:Nat} (h:jC kk par l) (hi:i < l.length):jC kk par (l.set i { l[i]! with jB:=false }):=
  h.set (let r:=h i hi;⟨r.cell,r.rank,(fun e=>Bool.noConfusion e.1),r.need,r.hav,r.lack,r.here,r.out,r.many,r.into⟩)
theorem SysDr.with {kk:Int} {par:yLI} {rules rules' :List jw} (h:SysDr kk par rules) (h1:rules'.length≤5) (h2:jC kk par rules'):SysDr kk par rules' :=⟨h.kinds,h.cells,h.skin,h.up,h1,h2⟩
def HereTo (kk:Int) (k:Nat) (l:yLI):Prop:=zX kk 2 l∧∀ j,j < l.length→k≤j+1→l[j]! =0
theorem HereTo.zero {kk:Int} (h0:0≤kk):HereTo kk 1 (List.replicate kk.toNat 0):=⟨zX.zero h0 qf,fun j hj _=>by rw [getElem!_pos (List.replicate kk.toNat (0:Int)) j hj,List.getElem_replicate]⟩
theorem HereTo.go {kk:Int} {k:Nat} {l:yLI} (h:HereTo kk k l):HereTo kk (k+1) l:=⟨h.1,fun j hj hk=>h.2 j hj qf⟩
theorem HereTo.put {kk:Int} {k i:Nat} {l:yLI} {v:Int} (h:HereTo kk k l) (hi:i < l.length) (hk:i+1=k) (hv:0≤v∧v≤2):HereTo kk (k+1) (l.set i (l[i]! +v)):=by
  have h0:=h.2 i hi qf
  refine ⟨h.1.put qf,fun j hj hk' =>?_⟩
  rw [List.length_set] at hj
  rw [getElem!_pos (l.set i _) j (by rw [List.length_set];exact hj),List.getElem_set,if_neg qf]
  have:=h.2 j hj qf
  rwa [getElem!_pos l j hj] at this
end
end Go.Proofs.YtdhklgjmiamiaaaGreat
