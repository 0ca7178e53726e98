/- Walks and laws, printed by program and by hand: what each function comes to, for all arguments, part 3. -/
import Derived.Test.YtcpnclokildllaaA2
namespace Go.Proofs.Ytcpnclokildllaa
set_option linter.unusedVariables false
set_option linter.unusedSimpArgs false
open Go.Proofs.Ytcpnclokildllaa.Tot (tot)
open Go.Proofs.Ytcpnclokildllaa.Mark (cnt mrk mkd mkd_mark cnt_mark)
section
open Go.Proofs.Try
open Go.RowKit
set_option linter.unusedVariables false
set_option linter.unusedSimpArgs false
set_option maxRecDepth 100000
set_option maxHeartbeats 4000000
variable {qB qG qQ xu qM cl ccounts : Nat}
theorem validSystem_ok (w:World) (s:qy) {qC:yOA} {xk:yLN} {qJ:yOA} {xN:yLN} (qW:qR.rep w xk [.slice qC s.qx.length qB] s.qx) (xG:qR.rep w xN [.slice qJ s.qw.length qG] s.qw):Calls Try.prog 71 #[.agg #[yI s.qV,.slice qC s.qx.length qB,.slice qJ s.qw.length qG]] w (Ret (fun v w' =>v=.bool (dec (ve s))) w):=by
 refine en func71 ntmps71 ?_
 have H:=((St.start w).arg xG).arg qW
 have zY:=qX qW
 have jw:=qX xG
 clear qW xG
 have N:=Fresh.nil w.heap.size
 have p1:=fun h:jd s=>h.2.1
 refine zcr (sw (vP H (yS s qC qB qJ qG) fun b1 w2 H=>sp (.bool false) (zjcc (sw (zi (yS s qC qB qJ qG) isAgg27 sizeOf27 rfl (qI (H.cells 0 rfl) 0 3) (sw (oq (isShell_ok _ s (H.get 0 rfl).1 (H.get 1 rfl).1) H fun w4 H=>sps [.bool (!(dec (jd s))),.bool (!(dec (jd s)))] ?_)))))))
 cases h6:(!(dec (jd s)))
 ·skip
  replace h6:=xm h6
  replace h6:=yg h6
  refine qO 9 rfl rfl (oF rfl (qO 9 rfl rfl (oL rfl (H.cell 0 rfl rfl) (qO 9 rfl rfl (oN rfl (qO 9 rfl rfl (sps [.bool (decide ((s.qw.length:Int) > 16)),.bool (decide ((s.qw.length:Int) > 16))] (zjn (cD rfl (fun h7=>?_) (fun h7=>?_))))))))))
  ·skip
   refine zcr (sp (.bool false) (zjr (t_r (ret1 (.bool false) rfl rfl ⟨_,rfl,?_,H.base⟩))))
   rw [xg (fun h=>by obtain ⟨h1,h2,h3⟩:=h;first | contradiction | omega | (obtain ⟨r1,r2⟩:=h3 k qf;first | contradiction | (have:=QY (s:=s) (k:=k+1) q1 q2;omega)))]
  refine xB (t_n (zcr (sw (xK [yI 0,yI 0,yI 0,yI 0,yI 0,yI 0] [] (sw (xx H ti129 [yI 0,yI 0,yI 0,yI 0,yI 0,yI 0] fun b8 w9 H=>sw (xf H 0 [yI 0,yI 0,yI 0,yI 0,yI 0,yI 0] sizeOf129 fun w10 H=>zjcc (oF rfl (oL rfl (H.cell 1 rfl rfl) (oN rfl (sp (yI 0) (zjn (xq ?_)))))))))))))
  have p2:=p1 ‹_›
  refine vg (fun m' ρ w11=>∃ (zB:Env) (k:Nat) (many:yLI),ρ=upd (upd (upd (upd (upd zB 1 (pp b1 0)) 3 (pp b8 0)) 17 (.slice qJ s.qw.length qG)) 18 (yI s.qw.length)) 19 (yI k)∧many=counts6 s k∧((k:Int)≤s.qw.length)∧(RulesTo s k)∧m' =(s.qw.length - (k:Int)).toNat∧Fresh w.heap.size []∧St w w11 [.box b8 (many.map (Value.int .i64)) 129,.box b1 (yS s qC qB qJ qG) 27] [sF false xk qC qB s.qx,sF false xN qJ qG s.qw]) ((s.qw.length - (0:Int)).toNat) ⟨_,0,[0,0,0,0,0,0],uE5,(by exact counts6_zero s),qf,(by exact fun j hj=>by omega),rfl,N,H⟩ ?_
  clear H N
  rintro m' ρ w12 ⟨zB,k,many,rfl,rfl,i0,i1,rfl,N,H⟩
  refine zcr (sp (.bool (decide ((k:Int) < s.qw.length))) (zjn (zx (cD rfl (fun h13=>?_) (fun h13=>?_)))))
  ·skip
   refine xB (t_n (zx (xq (zcr ?_))))
   obtain ⟨b14,o15,rfl⟩:=H.addr 1 rfl qf
   obtain ⟨ae17Need,ce17Need,Fe17Need,ae17Have,ce17Have,Fe17Have,ae17Lack,ce17Lack,Fe17Lack,ae17Here,ce17Here,Fe17Here,ae17Out,ce17Out,Fe17Out,ae17Into,ce17Into,Fe17Into,H⟩:=H.Qm 1 rfl k k qf qf qf
   refine oI rfl rfl (sw (zi [yI ((s.qw[k]!).qE),yI ((s.qw[k]!).zS),.slice ae17Need (((s.qw[k]!).xn).length) ce17Need,.slice ae17Have (((s.qw[k]!).zf).length) ce17Have,.slice ae17Lack (((s.qw[k]!).x8).length) ce17Lack,.slice ae17Here (((s.qw[k]!).xW).length) ce17Here,.slice ae17Out (((s.qw[k]!).vC).length) ce17Out,.slice ae17Into (((s.qw[k]!).qK).length) ce17Into,.bool ((s.qw[k]!).xU)] isAgg51 sizeOf51 rfl (qI (H.get 6 rfl) 0 9) ?_))
   refine sw (xx H ti51 [yI 0,yI 0,yN,yN,yN,yN,yN,yN,.bool false] fun b18 w19 H=>sw (xf H 0 [yI ((s.qw[k]!).qE),yI ((s.qw[k]!).zS),.slice ae17Need (((s.qw[k]!).xn).length) ce17Need,.slice ae17Have (((s.qw[k]!).zf).length) ce17Have,.slice ae17Lack (((s.qw[k]!).x8).length) ce17Lack,.slice ae17Here (((s.qw[k]!).xW).length) ce17Here,.slice ae17Out (((s.qw[k]!).vC).length) ce17Out,.slice ae17Into (((s.qw[k]!).qK).length) ce17Into,.bool ((s.qw[k]!).xU)] sizeOf51 fun w20 H=>?_))
   refine zjcc (sw (zi [yI s.qV,.slice qC s.qx.length qB,.slice (aa b14 o15) s.qw.length qG] isAgg27 sizeOf27 rfl (qI (H.cells 2 rfl) 0 3) ?_))
   refine sw (zi [yI ((s.qw[k]!).qE),yI ((s.qw[k]!).zS),.slice ae17Need (((s.qw[k]!).xn).length) ce17Need,.slice ae17Have (((s.qw[k]!).zf).length) ce17Have,.slice ae17Lack (((s.qw[k]!).x8).length) ce17Lack,.slice ae17Here (((s.qw[k]!).xW).length) ce17Here,.slice ae17Out (((s.qw[k]!).vC).length) ce17Out,.slice ae17Into (((s.qw[k]!).qK).length) ce17Into,.bool ((s.qw[k]!).xU)] isAgg51 sizeOf51 rfl (qI (H.cells 0 rfl) 0 9) ?_)
   refine sw (oq (isRule_ok _ s (s.qw[k]!) (H.get 7 rfl).1 (H.get 8 rfl).1 (H.get 0 rfl).1 (H.get 1 rfl).1 (H.get 2 rfl).1 (H.get 3 rfl).1 (H.get 4 rfl).1 (H.get 5 rfl).1 qg) H fun w22 H=>?_)
   have q:=fun h:RuleOk s (s.qw[k]!)=>(show 0≤(s.qw[k]!).qE∧(s.qw[k]!).qE≤5 from ⟨h.1.1,by have:=h.1.2;omega⟩)
   refine sp (.bool (!(dec (RuleOk s (s.qw[k]!))))) (zjn (cQ rfl (fun h24=>?_) (fun h24=>?_)))
   ·skip
    refine zcr (sp (.bool false) (zjr (t_r (zr5 (ret1 (.bool false) rfl rfl ⟨_,rfl,?_,H.base⟩)))))
    rw [xg (fun h=>by obtain ⟨h1,h2,h3⟩:=h;first | contradiction | omega | (obtain ⟨r1,r2⟩:=h3 k qf;first | contradiction | (have:=QY (s:=s) (k:=k+1) q1 q2;omega)))]
   obtain ⟨q1,q2⟩:=q ‹_›
   have q3:=QY (s:=s) (k:=k) q1 q2
   have q4:=ofCell_bd s.qw (s.qw[k]!).qE k
   refine xB (t_n (zcr (oF rfl (oL rfl (H.cell 0 rfl rfl) (sw (o_idxArr ((s.qw[k]!).qE) underlying129 ti3 rfl rfl qf qf (oL rfl (H.cell 1 rfl (ints_at (iv:=(s.qw[k]!).qE) (i:=(((s.qw[k]!).qE).toNat)) qf (by simp only [List.length_set,List.length_cons,List.length_nil,counts6_len];omega))) (sw (vk ((counts6 s k)[((s.qw[k]!).qE).toNat]!) 1 rfl rfl qf (sw (o_idxArr ((s.qw[k]!).qE) underlying129 ti3 rfl rfl qf qf ?_)))))))))))
   refine sw (o_storeArr H 1 rfl (((counts6 s k)[((s.qw[k]!).qE).toNat]!)+1) sizeOf3 rfl rfl (i:=(((s.qw[k]!).qE).toNat)) qf (by simp only [List.length_set,List.length_cons,List.length_nil,counts6_len];omega) fun w25 H=>?_)
   rw [counts6_succ q1 q2] at H
   refine zjc (oF rfl (oL rfl (H.cell 0 rfl rfl) (sw (o_idxArr ((s.qw[k]!).qE) underlying129 ti3 rfl rfl qf qf (oL rfl (H.cell 1 rfl (ints_at (iv:=(s.qw[k]!).qE) (i:=(((s.qw[k]!).qE).toNat)) qf (by simp only [List.length_set,List.length_cons,List.length_nil,counts6_len];omega))) (sp (.bool (decide (((counts6 s (k+1))[((s.qw[k]!).qE).toNat]! :Int) > 8))) (zjn (cD rfl (fun h26=>?_) (fun h26=>?_)))))))))
   ·skip
    refine zcr (sp (.bool false) (zjr (zr5 (ret1 (.bool false) rfl rfl ⟨_,rfl,?_,H.base⟩))))
    rw [xg (fun h=>by obtain ⟨h1,h2,h3⟩:=h;first | contradiction | omega | (obtain ⟨r1,r2⟩:=h3 k qf;first | contradiction | (have:=QY (s:=s) (k:=k+1) q1 q2;omega)))]
   refine xB (b_n (t_n (zJ (sw (vk k 1 rfl rfl qf (sp (yI (k+1)) (zK (xH (m' :=(s.qw.length - ((k+1):Int)).toNat) qf ⟨_,k+1,counts6 s (k+1),uE5,?_,?_,?_,rfl,N,H.pick [1,2] [7,8]⟩))))))))
   · rfl
   · omega
   · exact i1.succ ‹_› (by have:=QY (s:=s) (k:=k+1) q1 q2;omega)
  refine zx4 (zcr (sp (.bool true) (zjr (ret1 (.bool true) rfl rfl ⟨_,rfl,?_,H.base⟩))))
  rw [yz ⟨by assumption,by omega,(show s.qw.length=k by omega)▸i1⟩]
 replace h6:=xF h6
 replace h6:=zD h6
 refine xQ [10,11,12,13] (sp (.bool true) (zjn (xZ true rfl (fun _=>zcr (sp (.bool false) (zjr (t_r (ret1 (.bool false) rfl rfl ⟨_,rfl,?_,H.base⟩))))) (fun h=>absurd h qj))))
 rw [xg (fun h=>by obtain ⟨h1,h2,h3⟩:=h;first | contradiction | omega | (obtain ⟨r1,r2⟩:=h3 k qf;first | contradiction | (have:=QY (s:=s) (k:=k+1) q1 q2;omega)))]

theorem validState_ok (w:World) (s:qy) (t:qA) {qC:yOA} {xk:yLN} {qJ:yOA} {xN:yLN} {qU:yOA} {zF:yLN} {xE:yOA} {vF:yLN} {qN:yOA} {zh:yLN} (qW:qR.rep w xk [.slice qC s.qx.length qB] s.qx) (xG:qR.rep w xN [.slice qJ s.qw.length qG] s.qw) (zC:qR.rep w zF [.slice qU t.qF.length qQ] t.qF) (vz:qR.rep w vF [.slice xE t.qL.length xu] t.qL) (zn:qR.rep w zh [.slice qN t.qH.length qM] t.qH):Calls Try.prog 37 #[.agg #[yI s.qV,.slice qC s.qx.length qB,.slice qJ s.qw.length qG],.agg #[.slice qU t.qF.length qQ,.slice xE t.qL.length xu,.slice qN t.qH.length qM]] w (Ret (fun v w' =>v=.bool (dec (ve s∧xP s t))) w):=by
 refine en func37 ntmps37 ?_
 have H:=(((((St.start w).arg zn).arg vz).arg zC).arg xG).arg qW
 have zY:=qX qW
 have jw:=qX xG
 have Qq:=qX zC
 have nhtBags:=qX vz
 have yM:=qX zn
 clear qW xG zC vz zn
 have N:=Fresh.nil w.heap.size
 refine zcr (sw (vP H (yS s qC qB qJ qG) fun b1 w2 H=>sw (vP H (yT t qU qQ xE xu qN qM) fun b3 w4 H=>sp (.bool false) (zjcc (sw (zi (yS s qC qB qJ qG) isAgg27 sizeOf27 rfl (qI (H.cells 1 rfl) 0 3) (sw (oq (validSystem_ok _ s (H.get 0 rfl).1 (H.get 1 rfl).1) H fun w6 H=>sps [.bool (!(dec (ve s))),.bool (!(dec (ve s)))] ?_))))))))
 cases h8:(!(dec (ve s)))
 ·skip
  replace h8:=xm h8
  replace h8:=yg h8
  have z1:=(‹ve s›:ve s).1.2.1
  refine qO 10 rfl rfl (oF rfl (qO 10 rfl rfl (oL rfl (H.cell 0 rfl rfl) (qO 10 rfl rfl (oN rfl (qO 10 rfl rfl (oF rfl (qO 10 rfl rfl (oL rfl (H.cell 1 rfl rfl) (qO 10 rfl rfl (oN rfl (qO 10 rfl rfl (sps [.bool ((t.qF.length:Int) != s.qx.length),.bool ((t.qF.length:Int) != s.qx.length),.bool ((t.qF.length:Int) != s.qx.length)] ?_)))))))))))))
  cases h9:((t.qF.length:Int) != s.qx.length)
  ·skip
   replace h9:=zT h9
   refine qO 19 rfl rfl (oF rfl (qO 19 rfl rfl (oL rfl (H.cell 0 rfl rfl) (qO 19 rfl rfl (oN rfl (qO 19 rfl rfl (oF rfl (qO 19 rfl rfl (oL rfl (H.cell 1 rfl rfl) (qO 19 rfl rfl (oN rfl (qO 19 rfl rfl (sps [.bool ((t.qL.length:Int) != s.qx.length),.bool ((t.qL.length:Int) != s.qx.length),.bool ((t.qL.length:Int) != s.qx.length)] ?_)))))))))))))
   cases h10:((t.qL.length:Int) != s.qx.length)
   ·skip
    replace h10:=zT h10
    refine qO 28 rfl rfl (oF rfl (qO 28 rfl rfl (oL rfl (H.cell 0 rfl rfl) (qO 28 rfl rfl ?_))))
    obtain ⟨b11,o12,rfl⟩:=H.addr 2 rfl qf
    refine oI rfl rfl (qO 28 rfl rfl (oL rfl (H.elemBool 2 rfl 0 qf qf) (qO 28 rfl rfl (sps [.bool (!(t.qF[0]!)),.bool (!(t.qF[0]!)),.bool (!(t.qF[0]!))] ?_))))
    cases h14:(!(t.qF[0]!))
    ·skip
     replace h14:=xm h14
     refine qO 35 rfl rfl (oF rfl (qO 35 rfl rfl (oL rfl (H.cell 1 rfl rfl) (qO 35 rfl rfl (oF rfl (qO 35 rfl rfl (oL rfl (H.cell 0 rfl rfl) (qO 35 rfl rfl (sw (oq (QV _ s.qV t.qH (H.get 4 rfl).1) H fun w15 H=>qO 35 rfl rfl (sps [.bool (!(dec (zA s.qV t.qH))),.bool (!(dec (zA s.qV t.qH)))] (zjn (cQ rfl (fun h17=>?_) (fun h17=>?_))))))))))))))
     ·skip
      refine zcr (sp (.bool false) (zjr (t_r (ret1 (.bool false) rfl rfl ⟨_,rfl,?_,H.base⟩))))
      rw [xg (fun h=>by obtain ⟨h0,h1,h2,h3,h4,h5⟩:=h;first | contradiction | omega | (simp_all;done) | (obtain ⟨q1,q2⟩:=h5 c qf;first | contradiction | (have:=q2 ql;omega)))]
     refine xB (t_n (zcc (oF rfl (oL rfl (H.cell 0 rfl rfl) (oN rfl (sp (yI 0) (zjn (xq ?_))))))))
     refine vg (fun m' ρ w18=>∃ (zB:Env) (c:Nat),ρ=upd (upd (upd (upd (upd zB 2 (pp b1 0)) 3 (pp b3 0)) 44 (.slice xE t.qL.length xu)) 45 (yI t.qL.length)) 46 (yI c)∧((c:Int)≤t.qL.length)∧(BagsTo s t c)∧m' =(t.qL.length - (c:Int)).toNat∧Fresh w.heap.size []∧St w w18 [.box b3 [.slice (aa b11 o12) t.qF.length qQ,.slice xE t.qL.length xu,.slice qN t.qH.length qM] 31,.box b1 (yS s qC qB qJ qG) 27] [sF false xk qC qB s.qx,sF false xN qJ qG s.qw,sF false zF (aa b11 o12) qQ t.qF,sF false vF xE xu t.qL,sF false zh qN qM t.qH]) ((t.qL.length - (0:Int)).toNat) ⟨_,0,uE5,qf,(by exact fun j hj=>by omega),rfl,N,H⟩ ?_
     clear H N
     rintro m' ρ w19 ⟨zB,c,rfl,i0,i1,rfl,N,H⟩
     refine zcr (sp (.bool (decide ((c:Int) < t.qL.length))) (zjn (zx (cD rfl (fun h20=>?_) (fun h20=>?_)))))
     ·skip
      refine xB (t_n (zx (xq (zcr (sp (yI c) ?_)))))
      obtain ⟨b21,o22,rfl⟩:=H.addr 3 rfl qf
      obtain ⟨ae24,ce24,Fe24,H⟩:=H.QH 3 rfl c c qf qf qf
      refine oI rfl rfl (oL rfl (H.zZ 1 rfl 0 rfl) (sps [yI c,.slice ae24 ((t.qL[c]!).length) ce24] (zjc (oF rfl (oL rfl (H.cell 1 rfl rfl) (sp (.slice ae24 ((t.qL[c]!).length) ce24) (sw (oq (QV _ s.qV (t.qL[c]!) (H.get 0 rfl).1) H fun w25 H=>sps [.bool (!(dec (zA s.qV (t.qL[c]!)))),.bool (!(dec (zA s.qV (t.qL[c]!))))] ?_))))))))
      cases h27:(!(dec (zA s.qV (t.qL[c]!))))
      ·skip
       replace h27:=xm h27
       replace h27:=yg h27
       refine qO 56 rfl rfl (oF rfl (qO 56 rfl rfl (oL rfl (H.cell 0 rfl rfl) (qO 56 rfl rfl (sp (yI c) (qO 56 rfl rfl (oI rfl rfl (qO 56 rfl rfl (oL rfl (H.elemBool 4 rfl c qf qf) (qO 56 rfl rfl (sp (.bool (!(t.qF[c]!))) (qO 56 rfl rfl (sp (.bool (!(t.qF[c]!))) ?_)))))))))))))
       cases h28:(!(t.qF[c]!))
       ·skip
        replace h28:=xm h28
        refine xQ [64,65,66] (qO 56 rfl rfl (sps [.bool false,.bool false] (zjn (xZ false rfl (fun h=>absurd h qj) (fun _=>xB (b_n (t_n (zJ (sw (vk c 1 rfl rfl qf (sp (yI (c+1)) (zK (xH (m' :=(t.qL.length - ((c+1):Int)).toNat) qf ⟨_,c+1,uE5,?_,?_,rfl,N,H.pick [0,1] [2,3,4,5,6]⟩)))))))))))))
        · omega
        · exact i1.succ ‹_› (fun hk=>by first | omega | simp_all)
       replace h28:=xF h28
       refine qO 63 rfl rfl (sp (.slice ae24 ((t.qL[c]!).length) ce24) (qO 63 rfl rfl (sw (oq (bagSize_ok _ (t.qL[c]!) (H.get 0 rfl).1 (by first | assumption | exact vY ql | exact Qa ql)) H fun w29 H=>qO 63 rfl rfl (sp (.bool (decide ((sumL (t.qL[c]!):Int) > 0))) (qO 56 rfl rfl (sps [.bool (decide ((sumL (t.qL[c]!):Int) > 0)),.bool (decide ((sumL (t.qL[c]!):Int) > 0))] (zjn (cD rfl (fun h31=>?_) (fun h31=>?_))))))))))
       ·skip
        refine zcr (sp (.bool false) (zjr (zr5 (ret1 (.bool false) rfl rfl ⟨_,rfl,?_,H.base⟩))))
        rw [xg (fun h=>by obtain ⟨h0,h1,h2,h3,h4,h5⟩:=h;first | contradiction | omega | (simp_all;done) | (obtain ⟨q1,q2⟩:=h5 c qf;first | contradiction | (have:=q2 ql;omega)))]
       refine xB (b_n (t_n (zJ (sw (vk c 1 rfl rfl qf (sp (yI (c+1)) (zK (xH (m' :=(t.qL.length - ((c+1):Int)).toNat) qf ⟨_,c+1,uE5,?_,?_,rfl,N,H.pick [0,1] [2,3,4,5,6]⟩))))))))
       · omega
       · exact i1.succ ‹_› (fun hk=>by first | omega | simp_all)
      replace h27:=xF h27
      replace h27:=zD h27
      refine xQ [57,58,59,60,61,62,63,64,65,66,67] (sp (.bool true) (zjn (xZ true rfl (fun _=>zcr (sp (.bool false) (zjr (zr5 (ret1 (.bool false) rfl rfl ⟨_,rfl,?_,H.base⟩))))) (fun h=>absurd h qj))))
      rw [xg (fun h=>by obtain ⟨h0,h1,h2,h3,h4,h5⟩:=h;first | contradiction | omega | (simp_all;done) | (obtain ⟨q1,q2⟩:=h5 c qf;first | contradiction | (have:=q2 ql;omega)))]
     refine zx4 (zcr (sp (.bool true) (zjr (ret1 (.bool true) rfl rfl ⟨_,rfl,?_,H.base⟩))))
     rw [yz ⟨by assumption,by omega,by omega,by first | assumption | simp_all,by assumption,(show t.qL.length=c by omega)▸i1⟩]
    replace h14:=xF h14
    refine xQ [36,37,38,39,40,41] (sp (.bool true) (zjn (xZ true rfl (fun _=>zcr (sp (.bool false) (zjr (t_r (ret1 (.bool false) rfl rfl ⟨_,rfl,?_,H.base⟩))))) (fun h=>absurd h qj))))
    rw [xg (fun h=>by obtain ⟨h0,h1,h2,h3,h4,h5⟩:=h;first | contradiction | omega | (simp_all;done) | (obtain ⟨q1,q2⟩:=h5 c qf;first | contradiction | (have:=q2 ql;omega)))]
   replace h10:=bne_iff_ne.1 h10
   refine xQ [29,30,31,32,33] (sps [.bool true,.bool true] (xQ [36,37,38,39,40,41] (sp (.bool true) (zjn (xZ true rfl (fun _=>zcr (sp (.bool false) (zjr (t_r (ret1 (.bool false) rfl rfl ⟨_,rfl,?_,H.base⟩))))) (fun h=>absurd h qj))))))
   rw [xg (fun h=>by obtain ⟨h0,h1,h2,h3,h4,h5⟩:=h;first | contradiction | omega | (simp_all;done) | (obtain ⟨q1,q2⟩:=h5 c qf;first | contradiction | (have:=q2 ql;omega)))]
  replace h9:=bne_iff_ne.1 h9
  refine xQ [20,21,22,23,24,25,26] (sps [.bool true,.bool true] (xQ [29,30,31,32,33] (sps [.bool true,.bool true] (xQ [36,37,38,39,40,41] (sp (.bool true) (zjn (xZ true rfl (fun _=>zcr (sp (.bool false) (zjr (t_r (ret1 (.bool false) rfl rfl ⟨_,rfl,?_,H.base⟩))))) (fun h=>absurd h qj))))))))
  rw [xg (fun h=>by obtain ⟨h0,h1,h2,h3,h4,h5⟩:=h;first | contradiction | omega | (simp_all;done) | (obtain ⟨q1,q2⟩:=h5 c qf;first | contradiction | (have:=q2 ql;omega)))]
 replace h8:=xF h8
 replace h8:=zD h8
 refine xQ [11,12,13,14,15,16,17] (sps [.bool true,.bool true] (xQ [20,21,22,23,24,25,26] (sps [.bool true,.bool true] (xQ [29,30,31,32,33] (sps [.bool true,.bool true] (xQ [36,37,38,39,40,41] (sp (.bool true) (zjn (xZ true rfl (fun _=>zcr (sp (.bool false) (zjr (t_r (ret1 (.bool false) rfl rfl ⟨_,rfl,?_,H.base⟩))))) (fun h=>absurd h qj))))))))))
 rw [xg (fun h=>by obtain ⟨h0,h1,h2,h3,h4,h5⟩:=h;first | contradiction | omega | (simp_all;done) | (obtain ⟨q1,q2⟩:=h5 c qf;first | contradiction | (have:=q2 ql;omega)))]

theorem parentNow_ok (w:World) (s:qy) (t:qA) (c:Int) {qC:yOA} {xk:yLN} {qJ:yOA} {xN:yLN} {qU:yOA} {zF:yLN} {xE:yOA} {vF:yLN} {qN:yOA} {zh:yLN} (qW:qR.rep w xk [.slice qC s.qx.length qB] s.qx) (xG:qR.rep w xN [.slice qJ s.qw.length qG] s.qw) (zC:qR.rep w zF [.slice qU t.qF.length qQ] t.qF) (vz:qR.rep w vF [.slice xE t.qL.length xu] t.qL) (zn:qR.rep w zh [.slice qN t.qH.length qM] t.qH) (p0:jd s) (p1:Q5 s c) (p2:t.qF.length=s.qx.length):Calls Try.prog 30 #[.agg #[yI s.qV,.slice qC s.qx.length qB,.slice qJ s.qw.length qG],.agg #[.slice qU t.qF.length qQ,.slice xE t.qL.length xu,.slice qN t.qH.length qM],yI c] w (Ret (fun v w' =>v=yI (qZ s t c)) w):=by
 refine en func30 ntmps30 ?_
 have H:=(((((St.start w).arg zn).arg vz).arg zC).arg xG).arg qW
 have zY:=qX qW
 have jw:=qX xG
 have Qq:=qX zC
 have nhtBags:=qX vz
 have yM:=qX zn
 clear qW xG zC vz zn
 have N:=Fresh.nil w.heap.size
 have p3:=p0.step p1.1 p1.2
 refine zcr (sw (vP H (yS s qC qB qJ qG) fun b1 w2 H=>sw (vP H (yT t qU qQ xE xu qN qM) fun b3 w4 H=>sp (yI 0) (zjc (oF rfl (oL rfl (H.cell 1 rfl rfl) (sp (yI c) ?_)))))))
 obtain ⟨b5,o6,rfl⟩:=H.addr 0 rfl qf
 refine oI rfl rfl (oL rfl (H.jB 0 rfl c qf qf) (sp (yI (s.qx[c.toNat]!)) (zjn (zx (xq ?_)))))
 refine vg (fun m' ρ w8=>∃ (zB:Env) (p:Int) (n:Nat),ρ=upd (upd (upd zB 3 (pp b1 0)) 4 (pp b3 0)) 7 (yI p)∧(-1≤p∧p≤(s.qx.length:Int) - 1)∧(p < n)∧(qZ s t c=climb s.qx t.qF n p)∧m' =(p+1).toNat∧Fresh w.heap.size []∧St w w8 [.box b3 (yT t qU qQ xE xu qN qM) 31,.box b1 [yI s.qV,.slice (aa b5 o6) s.qx.length qB,.slice qJ s.qw.length qG] 27] [sF false xk (aa b5 o6) qB s.qx,sF false xN qJ qG s.qw,sF false zF qU qQ t.qF,sF false vF xE xu t.qL,sF false zh qN qM t.qH]) (((s.qx[c.toNat]!)+1).toNat) ⟨_,s.qx[c.toNat]!,s.qx.length,uE3,qf,qf,(by rfl),rfl,N,H⟩ ?_
 clear H N
 rintro m' ρ w9 ⟨zB,p,n,rfl,i0,i1,i2,rfl,N,H⟩
 have up:=fun h=>p0.step (c:=p) h i0.2
 refine zcc (sps [yI p,.bool (decide ((p:Int)≥0)),.bool (decide ((p:Int)≥0))] ?_)
 cases h10:(decide ((p:Int)≥0))
 ·skip
  replace h10:=of_decide_eq_false h10
  refine xQ [16,17,18,19,20,21] (sp (.bool false) (zjn (xZ false rfl (fun h=>absurd h qj) (fun _=>zx4 (zcr (sps [yI p,yI p] (zjr (ret1 (yI p) rfl rfl ⟨_,rfl,?_,H.base⟩))))))))
  rw [i2,climb_end (by first | omega | simp_all)]
 replace h10:=of_decide_eq_true h10
 refine qO 15 rfl rfl (oF rfl (qO 15 rfl rfl (oL rfl (H.cell 0 rfl rfl) (qO 15 rfl rfl (sp (yI p) (qO 15 rfl rfl ?_))))))
 obtain ⟨b11,o12,rfl⟩:=H.addr 2 rfl qf
 refine oI rfl rfl (qO 15 rfl rfl (oL rfl (H.elemBool 2 rfl p qf qf) (qO 15 rfl rfl (sps [.bool (!(t.qF[p.toNat]!)),.bool (!(t.qF[p.toNat]!))] (zjn (xZ (!(t.qF[p.toNat]!)) rfl (fun h14=>?_) (fun h14=>?_)))))))
 ·skip
  replace h14:=xF h14
  refine xB (t_n (xq (zJ (oF rfl (oL rfl (H.cell 1 rfl rfl) (sp (yI p) (oI rfl rfl (oL rfl (H.jB 0 rfl p qf qf) (sp (yI (s.qx[p.toNat]!)) (zK (b_n ?_)))))))))))
  have up1:=up qf
  refine xH (m' :=((s.qx[p.toNat]!)+1).toNat) qf ⟨_,s.qx[p.toNat]!,n - 1,uE3,?_,?_,?_,rfl,N,H⟩
  · omega
  · omega
  · exact i2.trans (climb_go qf qf ‹_›)
 replace h14:=xm h14
 refine zx4 (zcr (sps [yI p,yI p] (zjr (ret1 (yI p) rfl rfl ⟨_,rfl,?_,H.base⟩))))
 rw [i2,climb_end (by first | omega | simp_all)]

theorem copied_ok (w:World) (t:qA) {qU:yOA} {zF:yLN} {xE:yOA} {vF:yLN} {qN:yOA} {zh:yLN} (zC:qR.rep w zF [.slice qU t.qF.length qQ] t.qF) (vz:qR.rep w vF [.slice xE t.qL.length xu] t.qL) (zn:qR.rep w zh [.slice qN t.qH.length qM] t.qH) (p0:t.qF.length≤1000000) (p1:t.qH.length≤1000000) (p2:t.qL.length≤1000000) (p3:∀ j,j < t.qL.length→(t.qL[j]!).length≤1000000):Calls Try.prog 32 #[.agg #[.slice qU t.qF.length qQ,.slice xE t.qL.length xu,.slice qN t.qH.length qM]] w (Ret (fun v w' =>∃ (raAlive:yOA) (rnAlive:Nat) (rcAlive:Nat) (raBags:yOA) (rnBags:Nat) (rcBags:Nat) (rxBags:List Value) (rFBags:yLN) (raAround:yOA) (rnAround:Nat) (rcAround:Nat),v=.agg #[.slice raAlive rnAlive rcAlive,.slice raBags rnBags rcBags,.slice raAround rnAround rcAround]∧Fresh w.heap.size [rFBags]∧St w w' [rr raAlive rnAlive rcAlive 4 1 (t.qF.map (Value.bool)),rr raBags rnBags rcBags 24 1 rxBags,rr raAround rnAround rcAround 2 1 (t.qH.map (Value.int .i64))] [xe true rFBags rxBags t.qL]) w):=by
 refine en func32 ntmps32 ?_
 have H:=(((St.start w).arg zn).arg vz).arg zC
 have Qq:=qX zC
 have nhtBags:=qX vz
 have yM:=qX zn
 clear zC vz zn
 have N:=Fresh.nil w.heap.size
 refine zcr (sw (vP H (yT t qU qQ xE xu qN qM) fun b1 w2 H=>sw (xx H ti31 [yN,yN,yN] fun b3 w4 H=>zjn (zx ?_))))
 refine c_cut (fun ρ w10=>∃ (zB:Env) (b5:Nat) (ra6:yOA) (rc7:Nat) (a8:yOA) (c9:Nat),ρ=upd (upd (upd zB 1 (pp b1 0)) 2 (pp b3 0)) 3 (pp b5 0)∧Fresh w.heap.size []∧St w w10 [.box b5 [.slice ra6 t.qF.length rc7,yN,.slice a8 t.qH.length c9] 31,rr a8 t.qH.length c9 2 1 (t.qH.map (Value.int .i64)),rr ra6 t.qF.length rc7 4 1 (t.qF.map (Value.bool)),.box b3 [yN,yN,yN] 31,.box b1 (yT t qU qQ xE xu qN qM) 31] [sF false zF qU qQ t.qF,sF false vF xE xu t.qL,sF false zh qN qM t.qH]) ?_ ?_
 ·skip
  refine y9 rfl H fun H=>tF 0 rfl rfl H ?_
  refine tL 1 rfl rfl (fun _ h=>h.cell 1 rfl rfl) H ?_
  refine tF 3 rfl rfl H ?_
  refine tL 4 rfl rfl (fun _ h=>h.cell 1 rfl rfl) H ?_
  refine zH [2,7] qh qm (zW rfl ?_ (zW rfl ?_ zI))
  ·skip
   have sz15:=H.base.size
   refine oc (cloneB_ok _ t.qF (H.get 0 rfl).1 qg) ?_
   rintro _ w13 ⟨ra12,rn12,rc12,rfl,M,K⟩ _
   replace H:=H.merge K M
   obtain rfl:=H.rowNB 0 rfl
   refine ⟨H.pick [1,2] [0,1,2],(zH [5,7] qh qm (zW rfl ?_ (zW rfl ?_ zI)))⟩
   ·skip
    have sz18:=H.base.size
    refine oc (cloneI_ok _ t.qH (H.get 2 rfl).1 qg) ?_
    rintro v23 w21 r23 x22
    replace H:=H.vG x22 r23
    obtain ⟨a24,c25,rfl,hc26,hm27⟩:=H.yB 0 rfl
    refine ⟨H.pick [2,3] [0,1,2],(zH [6,7] qh qm (zW rfl ?_ (zW rfl ?_ zI)))⟩
    ·skip
     refine xK [.slice ra12 t.qF.length rc12,yN,.slice a24 t.qH.length c25] [(0,.slice ra12 t.qF.length rc12),(2,.slice a24 t.qH.length c25)] (⟨H.pick [2,3] [0,1,2],(ro 7 rfl (xx H ti31 [yN,yN,yN] fun b28 w29 H=>⟨H.pick [3,4] [0,1,2],(ro 8 rfl (xf H 0 [.slice ra12 t.qF.length rc12,yN,.slice a24 t.qH.length c25] sizeOf31 fun w30 H=>⟨H.pick [3,4] [0,1,2],(xh qh ((meet ⟨_,b28,ra12,rc12,a24,c25,uE3,N,H⟩)))⟩))⟩))⟩)
    refine xx H ti31 [yN,yN,yN] fun b31 w32 H=>⟨H.pick [3,4] [0,1,2],(ro 6 rfl (xK [.slice ra12 t.qF.length rc12,yN,.slice a24 t.qH.length c25] [(0,.slice ra12 t.qF.length rc12),(2,.slice a24 t.qH.length c25)] (⟨H.pick [3,4] [0,1,2],(ro 8 rfl (xf H 0 [.slice ra12 t.qF.length rc12,yN,.slice a24 t.qH.length c25] sizeOf31 fun w33 H=>⟨H.pick [3,4] [0,1,2],(xh qh ((meet ⟨_,b31,ra12,rc12,a24,c25,uE3,N,H⟩)))⟩))⟩)))⟩
   refine xx H ti31 [yN,yN,yN] fun b34 w35 H=>⟨H.pick [2,3] [0,1,2],(ro 5 rfl ?_)⟩
   have sz36:=H.base.size
   refine oc (cloneI_ok _ t.qH (H.get 2 rfl).1 qg) ?_
   rintro v41 w39 r41 x40
   replace H:=H.vG x40 r41
   obtain ⟨a42,c43,rfl,hc44,hm45⟩:=H.yB 0 rfl
   refine ⟨H.pick [3,4] [0,1,2],(ro 6 rfl (xK [.slice ra12 t.qF.length rc12,yN,.slice a42 t.qH.length c43] [(0,.slice ra12 t.qF.length rc12),(2,.slice a42 t.qH.length c43)] (⟨H.pick [3,4] [0,1,2],(ro 8 rfl (xf H 1 [.slice ra12 t.qF.length rc12,yN,.slice a42 t.qH.length c43] sizeOf31 fun w46 H=>⟨H.pick [3,4] [0,1,2],(xh qh ((meet ⟨_,b34,ra12,rc12,a42,c43,uE3,N,H.pick [1,0,2,3,4] [0,1,2]⟩)))⟩))⟩)))⟩
  refine xx H ti31 [yN,yN,yN] fun b47 w48 H=>⟨H.pick [1,2] [0,1,2],(ro 2 rfl ?_)⟩
  have sz52:=H.base.size
  refine oc (cloneB_ok _ t.qF (H.get 0 rfl).1 qg) ?_
  rintro _ w50 ⟨ra49,rn49,rc49,rfl,M,K⟩ _
  replace H:=H.merge K M
  obtain rfl:=H.rowNB 0 rfl
  refine ⟨H.pick [2,3] [0,1,2],(ro 5 rfl ?_)⟩
  have sz55:=H.base.size
  refine oc (cloneI_ok _ t.qH (H.get 2 rfl).1 qg) ?_
  rintro v60 w58 r60 x59
  replace H:=H.vG x59 r60
  obtain ⟨a61,c62,rfl,hc63,hm64⟩:=H.yB 0 rfl
  refine ⟨H.pick [3,4] [0,1,2],(ro 6 rfl (xK [.slice ra49 t.qF.length rc49,yN,.slice a61 t.qH.length c62] [(0,.slice ra49 t.qF.length rc49),(2,.slice a61 t.qH.length c62)] (⟨H.pick [3,4] [0,1,2],(ro 8 rfl (xf H 2 [.slice ra49 t.qF.length rc49,yN,.slice a61 t.qH.length c62] sizeOf31 fun w65 H=>⟨H.pick [3,4] [0,1,2],(xh qh ((meet ⟨_,b47,ra49,rc49,a61,c62,uE3,N,H.pick [2,0,1,3,4] [0,1,2]⟩)))⟩))⟩)))⟩
 clear H N
 rintro ρ w66 ⟨zB,b5,ra6,rc7,a8,c9,rfl,N,H⟩
 refine t_n (zcc (oF rfl (oL rfl (H.cell 4 rfl rfl) (oN rfl (sp (yI 0) (zjn (xq ?_)))))))
 replace H:=H.nilRow 24 1
 replace H:=H.Qn (α:=yLI)
 refine vg (fun m' ρ w67=>∃ (zB:Env) (k:Nat) (QQ:yOA) (jP:Nat) (QL:Nat) (out_Bags:yLL) (yA:List Value) (ja:yLN),ρ=upd (upd (upd (upd (upd zB 2 (pp b3 0)) 3 (pp b5 0)) 14 (.slice xE t.qL.length xu)) 15 (yI t.qL.length)) 16 (yI k)∧out_Bags=t.qL.take k∧((k:Int)≤t.qL.length)∧m' =(t.qL.length - (k:Int)).toNat∧Fresh w.heap.size [ja]∧St w w67 [rr QQ jP QL 24 1 yA,.box b5 [.slice ra6 t.qF.length rc7,.slice QQ jP QL,.slice a8 t.qH.length c9] 31,rr a8 t.qH.length c9 2 1 (t.qH.map (Value.int .i64)),rr ra6 t.qF.length rc7 4 1 (t.qF.map (Value.bool)),.box b3 [yN,yN,yN] 31,.box b1 (yT t qU qQ xE xu qN qM) 31] [xe true ja yA out_Bags,sF false zF qU qQ t.qF,sF false vF xE xu t.qL,sF false zh qN qM t.qH]) ((t.qL.length - (0:Int)).toNat) ⟨_,0,none,0,0,([]:yLL),[],[],uE5,(by rfl),qf,rfl,N.emp,H⟩ ?_
 clear H N
 rintro m' ρ w68 ⟨zB,k,QQ,jP,QL,out_Bags,yA,ja,rfl,rfl,i0,rfl,N,H⟩
 have hn_out_Bags:=H.zy (α:=yLI) 0 rfl 0 rfl qj
 have p4:=p3 k
 rw [List.length_take_of_le qf] at hn_out_Bags
 refine zcr (sp (.bool (decide ((k:Int) < t.qL.length))) (zjn (zx (cD rfl (fun h69=>?_) (fun h69=>?_)))))
 ·skip
  refine xB (t_n (zx (xq (zcr ?_))))
  obtain ⟨b70,o71,rfl⟩:=H.addr 2 rfl qf
  obtain ⟨ae73,ce73,Fe73,H⟩:=H.QH 2 rfl k k qf qf qf
  refine oI rfl rfl (oL rfl (H.zZ 1 rfl 0 rfl) (sp (.slice ae73 ((t.qL[k]!).length) ce73) (zjn ?_)))
  refine c_cut (fun ρ w79=>∃ (zB:Env) (a74:yOA) (c75:Nat) (a76:yOA) (c77:Nat) (G78:yLN),ρ=upd (upd (upd (upd (upd zB 2 (pp b3 0)) 3 (pp b5 0)) 14 (.slice (aa b70 o71) t.qL.length xu)) 15 (yI t.qL.length)) 16 (yI k)∧Fresh w.heap.size [(ja++G78)]∧St w w79 [rr a74 (jP+1) c75 24 1 (yA++[.slice a76 ((t.qL[k]!).length) c77]),.box b5 [.slice ra6 t.qF.length rc7,.slice a74 (jP+1) c75,.slice a8 t.qH.length c9] 31,rr a8 t.qH.length c9 2 1 (t.qH.map (Value.int .i64)),rr ra6 t.qF.length rc7 4 1 (t.qF.map (Value.bool)),.box b3 [yN,yN,yN] 31,.box b1 [.slice qU t.qF.length qQ,.slice (aa b70 o71) t.qL.length xu,.slice qN t.qH.length qM] 31] [xe true (ja++G78) (yA++[.slice a76 ((t.qL[k]!).length) c77]) ((t.qL.take k)++[(t.qL[k]!)]),sF true G78 a76 c77 (t.qL[k]!),sF false Fe73 ae73 ce73 (t.qL[k]!),atF b70 (o71+(k:Int).toNat * 1) [.slice ae73 ((t.qL[k]!).length) ce73],sF false zF qU qQ t.qF,sF false vF (aa b70 o71) xu t.qL,sF false zh qN qM t.qH]) ?_ ?_
  ·skip
   refine yE rfl H [2,3,4,5] fun H=>?_
   have S:=H.jm [2,3,4,5] [0,1,2,3,4,5]
   refine tF 0 rfl rfl S ?_
   refine rtp 2 (.slice ae73 ((t.qL[k]!).length) ce73) S ?_
   refine zH [1,3] qh qm (zW rfl ?_ (zW rfl ?_ zI))
   ·skip
    refine zk (.slice QQ jP QL) isAgg29 rfl (H.cell 1 rfl rfl) (⟨H.pick [2,3,4,5] [0,1,2,3,4,5],(ro 3 rfl ?_)⟩)
    have sz81:=H.base.size
    have lt82:=H.ltN (L:=[ja]) [2]
    refine oc (cloneI_ok _ (t.qL[k]!) (H.get 0 rfl).1 qg) ?_
    rintro v86 w84 r86 x85
    replace H:=H.vG x85 r86
    obtain ⟨a87,c88,rfl,hc89,hm90⟩:=H.yB 0 rfl
    refine ⟨H.pick [3,4,5,6] [0,1,2,3,4,5],(ro 4 rfl (vV H underlying29 ti24 [.slice a87 ((t.qL[k]!).length) c88] fun b91 w92 H=>⟨H.pick [4,5,6,7] [0,1,2,3,4,5],(ro 5 rfl ?_)⟩))⟩
    obtain ⟨G96,N,hn97,H⟩:=H.zX 1 rfl N (H.jC [2])
    refine vW H 2 rfl 0 rfl underlying29 ti24 rfl qj rfl rfl rfl (by simp [Value.oneCell',Value.cells]) qp qf fun a93 c94 w95 H=>?_
    replace H:=H.repsSnoc 3 rfl 0 rfl
    replace N:Fresh w.heap.size [(ja++G96)]:=(N.pick [1,0]).join
    refine ⟨H.pick [4,5,6,7] [2,3,4,5,6,7],(tF 6 rfl rfl (H.pick [4,5,6,7] [2,3,4,5,6,7]) ?_)⟩
    refine ro 7 rfl (vw H 3 [.slice ra6 t.qF.length rc7,.slice a93 (jP+1) c94,.slice a8 t.qH.length c9] sizeOf29 fun w98 H=>⟨H.pick [4,5,6,7] [2,3,4,5,6,7],(xh qh ((meet ⟨_,a93,c94,a87,c88,G96,uE5,N,H.pick [2,3,4,5,6,7] [0,1,2,3,5,6,7]⟩)))⟩)
   have sz99:=H.base.size
   have lt100:=H.ltN (L:=[ja]) [2]
   refine oc (cloneI_ok _ (t.qL[k]!) (H.get 0 rfl).1 qg) ?_
   rintro v104 w102 r104 x103
   replace H:=H.vG x103 r104
   obtain ⟨a105,c106,rfl,hc107,hm108⟩:=H.yB 0 rfl
   refine ⟨H.pick [3,4,5,6] [0,1,2,3,4,5],(zH [1,4] qh qm (zW rfl ?_ (zW rfl ?_ zI)))⟩
   ·skip
    refine zk (.slice QQ jP QL) isAgg29 rfl (H.cell 2 rfl rfl) (⟨H.pick [3,4,5,6] [0,1,2,3,4,5],(ro 4 rfl (vV H underlying29 ti24 [.slice a105 ((t.qL[k]!).length) c106] fun b109 w110 H=>⟨H.pick [4,5,6,7] [0,1,2,3,4,5],(ro 5 rfl ?_)⟩))⟩)
    obtain ⟨G114,N,hn115,H⟩:=H.zX 1 rfl N (H.jC [2])
    refine vW H 2 rfl 0 rfl underlying29 ti24 rfl qj rfl rfl rfl (by simp [Value.oneCell',Value.cells]) qp qf fun a111 c112 w113 H=>?_
    replace H:=H.repsSnoc 3 rfl 0 rfl
    replace N:Fresh w.heap.size [(ja++G114)]:=(N.pick [1,0]).join
    refine ⟨H.pick [4,5,6,7] [2,3,4,5,6,7],(tF 6 rfl rfl (H.pick [4,5,6,7] [2,3,4,5,6,7]) ?_)⟩
    refine ro 7 rfl (vw H 3 [.slice ra6 t.qF.length rc7,.slice a111 (jP+1) c112,.slice a8 t.qH.length c9] sizeOf29 fun w116 H=>⟨H.pick [4,5,6,7] [2,3,4,5,6,7],(xh qh ((meet ⟨_,a111,c112,a105,c106,G114,uE5,N,H.pick [2,3,4,5,6,7] [0,1,2,3,5,6,7]⟩)))⟩)
   refine vV H underlying29 ti24 [.slice a105 ((t.qL[k]!).length) c106] fun b117 w118 H=>⟨H.pick [4,5,6,7] [0,1,2,3,4,5],(ro 1 rfl (zk (.slice QQ jP QL) isAgg29 rfl (H.cell 3 rfl rfl) (⟨H.pick [4,5,6,7] [0,1,2,3,4,5],(ro 5 rfl ?_)⟩)))⟩
   obtain ⟨G122,N,hn123,H⟩:=H.zX 1 rfl N (H.jC [2])
   refine vW H 2 rfl 0 rfl underlying29 ti24 rfl qj rfl rfl rfl (by simp [Value.oneCell',Value.cells]) qp qf fun a119 c120 w121 H=>?_
   replace H:=H.repsSnoc 3 rfl 0 rfl
   replace N:Fresh w.heap.size [(ja++G122)]:=(N.pick [1,0]).join
   refine ⟨H.pick [4,5,6,7] [2,3,4,5,6,7],(tF 6 rfl rfl (H.pick [4,5,6,7] [2,3,4,5,6,7]) ?_)⟩
   refine ro 7 rfl (vw H 3 [.slice ra6 t.qF.length rc7,.slice a119 (jP+1) c120,.slice a8 t.qH.length c9] sizeOf29 fun w124 H=>⟨H.pick [4,5,6,7] [2,3,4,5,6,7],(xh qh ((meet ⟨_,a119,c120,a105,c106,G122,uE5,N,H.pick [2,3,4,5,6,7] [0,1,2,3,5,6,7]⟩)))⟩)
  clear H N
  rintro ρ w125 ⟨zB,a74,c75,a76,c77,G78,rfl,N,H⟩
  refine b_n (t_n (zJ (sw (vk k 1 rfl rfl qf (sp (yI (k+1)) (zK (xH (m' :=(t.qL.length - ((k+1):Int)).toNat) qf ⟨_,k+1,a74,jP+1,c75,((t.qL.take k)++[(t.qL[k]!)]),yA++[.slice a76 ((t.qL[k]!).length) c77],(ja++G78),uE5,?_,?_,rfl,N,H.pick [0,1,2,3,4,5] [0,4,5,6]⟩)))))))
  · exact take_snoc qf
  · omega
 refine zx4 (zcr (sw (zi [.slice ra6 t.qF.length rc7,.slice QQ jP QL,.slice a8 t.qH.length c9] isAgg31 sizeOf31 rfl (qI (H.cells 1 rfl) 0 3) (sw (xf H 4 [.slice ra6 t.qF.length rc7,.slice QQ jP QL,.slice a8 t.qH.length c9] sizeOf31 fun w126 H=>zjr (retC H 4 rfl rfl isAgg31 sizeOf31 rfl ⟨_,rfl,?_,H.base⟩))))))
 obtain rfl:k=t.qL.length:=by omega
 rw [List.take_length] at H
 exact ⟨ra6,t.qF.length,rc7,QQ,jP,QL,yA,ja,a8,t.qH.length,c9,rfl,N,H.pick [3,0,2] [0]⟩
theorem isEnabled_ok (w:World) (s:qy) (t:qA) (r:vU) {qC:yOA} {xk:yLN} {qJ:yOA} {xN:yLN} {qU:yOA} {zF:yLN} {xE:yOA} {vF:yLN} {qN:yOA} {zh:yLN} {jV:yOA} {jR:Nat} {FrNeed:yLN} {jY:yOA} {jU:Nat} {FrHave:yLN} {jW:yOA} {jS:Nat} {FrLack:yLN} {jX:yOA} {jT:Nat} {FrHere:yLN} {Qu:yOA} {Qs:Nat} {FrOut:yLN} {jI:yOA} {jH:Nat} {FrInto:yLN} (qW:qR.rep w xk [.slice qC s.qx.length qB] s.qx) (xG:qR.rep w xN [.slice qJ s.qw.length qG] s.qw) (zC:qR.rep w zF [.slice qU t.qF.length qQ] t.qF) (vz:qR.rep w vF [.slice xE t.qL.length xu] t.qL) (zn:qR.rep w zh [.slice qN t.qH.length qM] t.qH) (hrNeed:qR.rep w FrNeed [.slice jV r.xn.length jR] r.xn) (hrHave:qR.rep w FrHave [.slice jY r.zf.length jU] r.zf) (hrLack:qR.rep w FrLack [.slice jW r.x8.length jS] r.x8) (hrHere:qR.rep w FrHere [.slice jX r.xW.length jT] r.xW) (hrOut:qR.rep w FrOut [.slice Qu r.vC.length Qs] r.vC) (hrInto:qR.rep w FrInto [.slice jI r.qK.length jH] r.qK) (p0:ve s) (p1:xP s t) (p2:RuleOk s r):Calls Try.prog 101 #[.agg #[yI s.qV,.slice qC s.qx.length qB,.slice qJ s.qw.length qG],.agg #[.slice qU t.qF.length qQ,.slice xE t.qL.length xu,.slice qN t.qH.length qM],.agg #[yI r.qE,yI r.zS,.slice jV r.xn.length jR,.slice jY r.zf.length jU,.slice jW r.x8.length jS,.slice jX r.xW.length jT,.slice Qu r.vC.length Qs,.slice jI r.qK.length jH,.bool r.xU]] w (Ret (fun v w' =>v=.bool (dec (EnOk s t r))) w):=by
 refine en func101 ntmps101 ?_
 have H:=(((((((((((St.start w).arg hrInto).arg hrOut).arg hrHere).arg hrLack).arg hrHave).arg hrNeed).arg zn).arg vz).arg zC).arg xG).arg qW
 have zY:=qX qW
 have jw:=qX xG
 have Qq:=qX zC
 have nhtBags:=qX vz
 have yM:=qX zn
 have nhrNeed:=qX hrNeed
 have nhrHave:=qX hrHave
 have nhrLack:=qX hrLack
 have nhrHere:=qX hrHere
 have nhrOut:=qX hrOut
 have nhrInto:=qX hrInto
 clear qW xG zC vz zn hrNeed hrHave hrLack hrHere hrOut hrInto
 have N:=Fresh.nil w.heap.size
 have p3:=p2.1
 have p4:=p1.1
 have p5:=p1.2.1
 have p6:=(p1.bagLen (k:=r.qE.toNat) qf).len
 have p7:=p2.2.2.2.2.1.len
 have p8:=p2.2.2.2.2.2.1.len
 have p9:=p2.2.2.2.2.2.2.1.len
 have p10:=vY p2.2.2.2.2.2.2.1
 have p11:=p0.1
 have p12:=p2.2.2.2.2.2.2.2.2.2.2
 have p13:=kinds_le p0
 refine zcr (sw (vP H (yS s qC qB qJ qG) fun b1 w2 H=>sw (vP H (yT t qU qQ xE xu qN qM) fun b3 w4 H=>sw (vP H [yI r.qE,yI r.zS,.slice jV r.xn.length jR,.slice jY r.zf.length jU,.slice jW r.x8.length jS,.slice jX r.xW.length jT,.slice Qu r.vC.length Qs,.slice jI r.qK.length jH,.bool r.xU] fun b5 w6 H=>sp (.bool false) (zjcc (oF rfl ?_))))))
 refine oL rfl (H.cell 1 rfl rfl) (oF rfl (oL rfl (H.cell 0 rfl rfl) ?_))
 obtain ⟨b7,o8,rfl⟩:=H.addr 2 rfl qf
 refine oI rfl rfl (oL rfl (H.elemBool 2 rfl r.qE qf qf) (sp (.bool (!(t.qF[r.qE.toNat]!))) (zjn (xZ (!(t.qF[r.qE.toNat]!)) rfl (fun h10=>?_) (fun h10=>?_)))))
 ·skip
  replace h10:=xF h10
  refine zcr (sp (.bool false) (zjr (t_r (ret1 (.bool false) rfl rfl ⟨_,rfl,?_,H.base⟩))))
  rw [xg (fun h=>by obtain ⟨h1,h2,h3,h4,h5⟩:=h;first | exact ft h1 ‹_› | exact ft h2 ‹_› | exact ft h3 ‹_› | exact h4 ⟨‹_›,‹_›⟩ | (obtain ⟨q1,q2⟩:=h5 i qf;first | exact ft q1 ‹_› | exact absurd q2 ‹_›))]
 replace h10:=xm h10
 refine xB (t_n (zcr (oF rfl (oL rfl (H.cell 1 rfl rfl) (oF rfl (oL rfl (H.cell 0 rfl rfl) ?_))))))
 obtain ⟨b11,o12,rfl⟩:=H.addr 3 rfl qf
 obtain ⟨ae14,ce14,Fe14,H⟩:=H.QH 3 rfl r.qE r.qE.toNat qf qf qf
 refine oI rfl rfl (oL rfl (H.zZ 1 rfl 0 rfl) (sp (.slice ae14 ((t.qL[r.qE.toNat]!).length) ce14) (zjcc (oF rfl (oL rfl (H.cell 0 rfl rfl) (sp (.slice ae14 ((t.qL[r.qE.toNat]!).length) ce14) (sw (oq (isWithin_ok _ r.xn (t.qL[r.qE.toNat]!) (H.get 7 rfl).1 (H.get 0 rfl).1 qg qg) H fun w15 H=>sps [.bool (!(within r.xn (t.qL[r.qE.toNat]!))),.bool (!(within r.xn (t.qL[r.qE.toNat]!)))] ?_))))))))
 cases h17:(!(within r.xn (t.qL[r.qE.toNat]!)))
 ·skip
  replace h17:=xm h17
  refine qO 26 rfl rfl (oF rfl (qO 26 rfl rfl (oL rfl (H.cell 0 rfl rfl) (qO 26 rfl rfl (sp (.slice ae14 ((t.qL[r.qE.toNat]!).length) ce14) (qO 26 rfl rfl (sw (oq (isWithin_ok _ r.zf (t.qL[r.qE.toNat]!) (H.get 8 rfl).1 (H.get 0 rfl).1 qg qg) H fun w18 H=>qO 26 rfl rfl (sps [.bool (!(within r.zf (t.qL[r.qE.toNat]!))),.bool (!(within r.zf (t.qL[r.qE.toNat]!))),.bool (!(within r.zf (t.qL[r.qE.toNat]!)))] ?_)))))))))
  cases h20:(!(within r.zf (t.qL[r.qE.toNat]!)))
  ·skip
   replace h20:=xm h20
   refine qO 33 rfl rfl (oF rfl (qO 33 rfl rfl (oL rfl (H.cell 0 rfl rfl) (qO 33 rfl rfl (sw (oq (bagSize_ok _ r.x8 (H.get 9 rfl).1 (by first | assumption | exact vY ql | exact Qa ql)) H fun w21 H=>qO 33 rfl rfl (sp (.bool (decide ((sumL r.x8:Int) > 0))) (qO 33 rfl rfl (sp (.bool (decide ((sumL r.x8:Int) > 0))) ?_)))))))))
   cases h23:(decide ((sumL r.x8:Int) > 0))
   ·skip
    replace h23:=of_decide_eq_false h23
    refine xQ [39,40,41,42] (qO 33 rfl rfl (sps [.bool false,.bool false] (zjn (xZ false rfl (fun h=>absurd h qj) (fun _=>xB (t_n (zcr (oF rfl (oL rfl (H.cell 0 rfl rfl) (sp (.func (.func 120) #[] #[pp b3 0,pp b1 0,pp b5 0]) (sw (vS #[.slice jI r.qK.length jH,.func (.func 120) #[] #[pp b3 0,pp b1 0,pp b5 0]] rfl rfl call119 (en func119 ntmps119 ?_)))))))))))))
    refine zcr (sp (.bool false) (zjc (sps [.slice jI r.qK.length jH,.func (.func 120) #[] #[pp b3 0,pp b1 0,pp b5 0]] (sw (vS #[.slice jI r.qK.length jH,.func (.func 120) #[] #[pp b3 0,pp b1 0,pp b5 0]] rfl rfl call123 (en func123 ntmps123 ?_))))))
    refine zcr (sp (yI 0) (zjcc (sp (.slice jI r.qK.length jH) (oN rfl (sp (yI 0) (zjn (xq ?_)))))))
    refine vg (fun m' ρ w24=>∃ (zB:Env) (i:Nat),ρ=upd (upd (upd (upd zB 0 (.slice jI r.qK.length jH)) 1 (.func (.func 120) #[] #[pp b3 0,pp b1 0,pp b5 0])) 7 (yI r.qK.length)) 8 (yI i)∧((i:Int)≤r.qK.length)∧(IntoUp s t r i)∧m' =(r.qK.length - (i:Int)).toNat∧Fresh w.heap.size []∧St w w24 [.box b5 [yI r.qE,yI r.zS,.slice jV r.xn.length jR,.slice jY r.zf.length jU,.slice jW r.x8.length jS,.slice jX r.xW.length jT,.slice Qu r.vC.length Qs,.slice jI r.qK.length jH,.bool r.xU] 51,.box b3 [.slice (aa b7 o8) t.qF.length qQ,.slice (aa b11 o12) t.qL.length xu,.slice qN t.qH.length qM] 31,.box b1 (yS s qC qB qJ qG) 27] [sF false Fe14 ae14 ce14 (t.qL[r.qE.toNat]!),atF b11 (o12+(r.qE:Int).toNat * 1) [.slice ae14 ((t.qL[r.qE.toNat]!).length) ce14],sF false xk qC qB s.qx,sF false xN qJ qG s.qw,sF false zF (aa b7 o8) qQ t.qF,sF false vF (aa b11 o12) xu t.qL,sF false zh qN qM t.qH,sF false FrNeed jV jR r.xn,sF false FrHave jY jU r.zf,sF false FrLack jW jS r.x8,sF false FrHere jX jT r.xW,sF false FrOut Qu Qs r.vC,sF false FrInto jI jH r.qK]) ((r.qK.length - (0:Int)).toNat) ⟨_,0,uE4,qf,(by exact fun j hj=>by omega),rfl,N,H⟩ ?_
    clear H N
    rintro m' ρ w25 ⟨zB,i,rfl,i0,i1,rfl,N,H⟩
    refine zcr (sp (.bool (decide ((i:Int) < r.qK.length))) (zjn (zx (cD rfl (fun h26=>?_) (fun h26=>?_)))))
    ·skip
     have q:=(p12 i qf).1
     have q1:=q.1
     have q2:=q.2
     refine xB (t_n (zx (xq (zcr (sps [yI i,yI i] (zjc (sps [.func (.func 120) #[] #[pp b3 0,pp b1 0,pp b5 0],.slice jI r.qK.length jH,yI i] ?_)))))))
     obtain ⟨b27,o28,rfl⟩:=H.addr 12 rfl qf
     obtain ⟨ae30Bag,ce30Bag,Fe30Bag,H⟩:=H.yh 12 rfl i i qf qf qf
     refine oI rfl rfl (sw (zi [yI ((r.qK[i]!).qE),.slice ae30Bag (((r.qK[i]!).yx).length) ce30Bag] isAgg121 sizeOf121 rfl (qI (H.get 1 rfl) 0 2) (sw (vS #[.agg #[yI ((r.qK[i]!).qE),.slice ae30Bag (((r.qK[i]!).yx).length) ce30Bag],pp b3 0,pp b1 0,pp b5 0] rfl rfl call120 (en func120 ntmps120 ?_)))))
     refine zcr (sw (vP H [yI ((r.qK[i]!).qE),.slice ae30Bag (((r.qK[i]!).yx).length) ce30Bag] fun b31 w32 H=>sp (.bool false) (zjn (zx ?_))))
     refine y9 rfl H fun H=>tF 0 rfl rfl H ?_
     refine tL 1 rfl rfl (fun _ h=>h.cell 2 rfl rfl) H ?_
     refine tF 2 rfl rfl H ?_
     refine tL 3 rfl rfl (fun _ h=>h.cell 0 rfl rfl) H ?_
     refine tI 4 rfl rfl rfl H ?_
     refine tL 5 rfl rfl (fun _ h=>h.elemBool 6 rfl ((r.qK[i]!).qE) qf qf) H ?_
     refine rtp 6 (.bool (!(t.qF[((r.qK[i]!).qE).toNat]!))) H ?_
     refine rtp 7 (.bool (!(t.qF[((r.qK[i]!).qE).toNat]!))) H ?_
     cases h34:(!(t.qF[((r.qK[i]!).qE).toNat]!))
     ·skip
      replace h34:=xm h34
      refine rg 8 (.agg #[yI s.qV,.slice qC s.qx.length qB,.slice qJ s.qw.length qG]) 13 (yj (cs:=(yS s qC qB qJ qG)) isAgg27 sizeOf27 rfl (fun _ h=>qI (h.cells 3 rfl) 0 3)) H ?_
      refine rg 9 (.agg #[.slice (aa b7 o8) t.qF.length qQ,.slice (aa b11 o12) t.qL.length xu,.slice qN t.qH.length qM]) 13 (yj (cs:=[.slice (aa b7 o8) t.qF.length qQ,.slice (aa b11 o12) t.qL.length xu,.slice qN t.qH.length qM]) isAgg31 sizeOf31 rfl (fun _ h=>qI (h.cells 2 rfl) 0 3)) H ?_
      refine gF 10 rfl rfl H ?_
      refine gL 11 rfl rfl (fun _ h=>h.cell 0 rfl rfl) H ?_
      refine gF 13 rfl rfl H ?_
      refine gL 14 rfl rfl (fun _ h=>h.cell 1 rfl rfl) H ?_
      refine zH [12] qh qm (r_opG rfl (e:=13) rfl rfl (oq (parentNow_ok _ s t ((r.qK[i]!).qE) (H.get 4 rfl).1 (H.get 5 rfl).1 (H.get 6 rfl).1 (H.get 7 rfl).1 (H.get 8 rfl).1 qg qg qg) H fun w36 H=>⟨H,(rgp 15 (.bool ((qZ s t ((r.qK[i]!).qE):Int) != r.qE)) 13 H ?_)⟩) zI)
      refine rtp 16 (.bool ((qZ s t ((r.qK[i]!).qE):Int) != r.qE)) H ?_
      refine rtp 17 (.bool ((qZ s t ((r.qK[i]!).qE):Int) != r.qE)) H ?_
      refine xh qh (t_n (c_ret (ret1 (.bool ((qZ s t ((r.qK[i]!).qE):Int) != r.qE)) rfl rfl ⟨_,rfl,?_⟩)))
      replace H:=H.erases [0]
      dsimp only [jg,List.eraseIdx] at H
      refine zjn (xZ ((qZ s t ((r.qK[i]!).qE):Int) != r.qE) rfl (fun h38=>?_) (fun h38=>?_))
      ·skip
       replace h38:=bne_iff_ne.1 h38
       refine zcr (sps [yI i,yI i] (zjr (zr5 (ret1 (yI i) rfl rfl ⟨_,rfl,(sw (o_pure (.bool true) (by show some (Value.bool (decide ((i:Int)≥0)))=some (Value.bool true);rw [decide_eq_true qf]) (sp (.bool true) (zjr (ret1 (.bool true) rfl rfl ⟨_,rfl,(sps [.bool false,.bool false] (zjr (ret1 (.bool false) rfl rfl ⟨_,rfl,?_,H.base⟩)))⟩)))))⟩))))
       rw [xg (fun h=>by obtain ⟨h1,h2,h3,h4,h5⟩:=h;first | exact ft h1 ‹_› | exact ft h2 ‹_› | exact ft h3 ‹_› | exact h4 ⟨‹_›,‹_›⟩ | (obtain ⟨q1,q2⟩:=h5 i qf;first | exact ft q1 ‹_› | exact absurd q2 ‹_›))]
      replace h38:=zT h38
      refine xB (b_n (t_n (zJ (sw (vk i 1 rfl rfl qf (sp (yI (i+1)) (zK (xH (m' :=(r.qK.length - ((i+1):Int)).toNat) qf ⟨_,i+1,uE4,?_,?_,rfl,N,H.pick [0,1,2] [2,3,4,5,6,7,8,9,10,11,12,13,14]⟩))))))))
      · omega
      · exact i1.succ ‹_› ‹_›
     replace h34:=xF h34
     refine zG [8,9,10,11,12,13,14,15] 8 (H) (rtp 16 (.bool true) H ?_)
     refine rtp 17 (.bool true) H ?_
     refine xh qh (t_n (c_ret (ret1 (.bool true) rfl rfl ⟨_,rfl,?_⟩)))
     replace H:=H.erases [0]
     dsimp only [jg,List.eraseIdx] at H
     refine zjn (xZ true rfl (fun _=>zcr (sps [yI i,yI i] (zjr (zr5 (ret1 (yI i) rfl rfl ⟨_,rfl,(sw (o_pure (.bool true) (by show some (Value.bool (decide ((i:Int)≥0)))=some (Value.bool true);rw [decide_eq_true qf]) (sp (.bool true) (zjr (ret1 (.bool true) rfl rfl ⟨_,rfl,(sps [.bool false,.bool false] (zjr (ret1 (.bool false) rfl rfl ⟨_,rfl,?_,H.base⟩)))⟩)))))⟩))))) (fun h=>absurd h qj))
     rw [xg (fun h=>by obtain ⟨h1,h2,h3,h4,h5⟩:=h;first | exact ft h1 ‹_› | exact ft h2 ‹_› | exact ft h3 ‹_› | exact h4 ⟨‹_›,‹_›⟩ | (obtain ⟨q1,q2⟩:=h5 i qf;first | exact ft q1 ‹_› | exact absurd q2 ‹_›))]
    refine zx4 (zcr (sp (yI (-1)) (zjr (ret1 (yI (-1)) rfl rfl ⟨_,rfl,(sps [.bool false,.bool false] (zjr (ret1 (.bool false) rfl rfl ⟨_,rfl,(sps [.bool true,.bool true] (zjr (ret1 (.bool true) rfl rfl ⟨_,rfl,?_,H.base⟩)))⟩)))⟩))))
    rw [yz ⟨by assumption,by assumption,by assumption,fun ⟨u,v⟩=>by first | omega | exact ft v ‹_›,(show i=r.qK.length by omega)▸i1⟩]
   replace h23:=of_decide_eq_true h23
   refine qO 38 rfl rfl (oF rfl (qO 38 rfl rfl (oL rfl (H.cell 0 rfl rfl) (qO 38 rfl rfl (sp (.slice ae14 ((t.qL[r.qE.toNat]!).length) ce14) (qO 38 rfl rfl (sw (oq (isWithin_ok _ r.x8 (t.qL[r.qE.toNat]!) (H.get 9 rfl).1 (H.get 0 rfl).1 qg qg) H fun w39 H=>qO 33 rfl rfl (sps [.bool (within r.x8 (t.qL[r.qE.toNat]!)),.bool (within r.x8 (t.qL[r.qE.toNat]!))] (zjn (xZ (within r.x8 (t.qL[r.qE.toNat]!)) rfl (fun h41=>?_) (fun h41=>?_))))))))))))
   ·skip
    refine zcr (sp (.bool false) (zjr (t_r (ret1 (.bool false) rfl rfl ⟨_,rfl,?_,H.base⟩))))
    rw [xg (fun h=>by obtain ⟨h1,h2,h3,h4,h5⟩:=h;first | exact ft h1 ‹_› | exact ft h2 ‹_› | exact ft h3 ‹_› | exact h4 ⟨‹_›,‹_›⟩ | (obtain ⟨q1,q2⟩:=h5 i qf;first | exact ft q1 ‹_› | exact absurd q2 ‹_›))]
   refine xB (t_n (zcr (oF rfl (oL rfl (H.cell 0 rfl rfl) (sp (.func (.func 120) #[] #[pp b3 0,pp b1 0,pp b5 0]) (sw (vS #[.slice jI r.qK.length jH,.func (.func 120) #[] #[pp b3 0,pp b1 0,pp b5 0]] rfl rfl call119 (en func119 ntmps119 ?_))))))))
   refine zcr (sp (.bool false) (zjc (sps [.slice jI r.qK.length jH,.func (.func 120) #[] #[pp b3 0,pp b1 0,pp b5 0]] (sw (vS #[.slice jI r.qK.length jH,.func (.func 120) #[] #[pp b3 0,pp b1 0,pp b5 0]] rfl rfl call123 (en func123 ntmps123 ?_))))))
   refine zcr (sp (yI 0) (zjcc (sp (.slice jI r.qK.length jH) (oN rfl (sp (yI 0) (zjn (xq ?_)))))))
   refine vg (fun m' ρ w42=>∃ (zB:Env) (i:Nat),ρ=upd (upd (upd (upd zB 0 (.slice jI r.qK.length jH)) 1 (.func (.func 120) #[] #[pp b3 0,pp b1 0,pp b5 0])) 7 (yI r.qK.length)) 8 (yI i)∧((i:Int)≤r.qK.length)∧(IntoUp s t r i)∧m' =(r.qK.length - (i:Int)).toNat∧Fresh w.heap.size []∧St w w42 [.box b5 [yI r.qE,yI r.zS,.slice jV r.xn.length jR,.slice jY r.zf.length jU,.slice jW r.x8.length jS,.slice jX r.xW.length jT,.slice Qu r.vC.length Qs,.slice jI r.qK.length jH,.bool r.xU] 51,.box b3 [.slice (aa b7 o8) t.qF.length qQ,.slice (aa b11 o12) t.qL.length xu,.slice qN t.qH.length qM] 31,.box b1 (yS s qC qB qJ qG) 27] [sF false Fe14 ae14 ce14 (t.qL[r.qE.toNat]!),atF b11 (o12+(r.qE:Int).toNat * 1) [.slice ae14 ((t.qL[r.qE.toNat]!).length) ce14],sF false xk qC qB s.qx,sF false xN qJ qG s.qw,sF false zF (aa b7 o8) qQ t.qF,sF false vF (aa b11 o12) xu t.qL,sF false zh qN qM t.qH,sF false FrNeed jV jR r.xn,sF false FrHave jY jU r.zf,sF false FrLack jW jS r.x8,sF false FrHere jX jT r.xW,sF false FrOut Qu Qs r.vC,sF false FrInto jI jH r.qK]) ((r.qK.length - (0:Int)).toNat) ⟨_,0,uE4,qf,(by exact fun j hj=>by omega),rfl,N,H⟩ ?_
   clear H N
   rintro m' ρ w43 ⟨zB,i,rfl,i0,i1,rfl,N,H⟩
   refine zcr (sp (.bool (decide ((i:Int) < r.qK.length))) (zjn (zx (cD rfl (fun h44=>?_) (fun h44=>?_)))))
   ·skip
    have q:=(p12 i qf).1
    have q1:=q.1
    have q2:=q.2
    refine xB (t_n (zx (xq (zcr (sps [yI i,yI i] (zjc (sps [.func (.func 120) #[] #[pp b3 0,pp b1 0,pp b5 0],.slice jI r.qK.length jH,yI i] ?_)))))))
    obtain ⟨b45,o46,rfl⟩:=H.addr 12 rfl qf
    obtain ⟨ae48Bag,ce48Bag,Fe48Bag,H⟩:=H.yh 12 rfl i i qf qf qf
    refine oI rfl rfl (sw (zi [yI ((r.qK[i]!).qE),.slice ae48Bag (((r.qK[i]!).yx).length) ce48Bag] isAgg121 sizeOf121 rfl (qI (H.get 1 rfl) 0 2) (sw (vS #[.agg #[yI ((r.qK[i]!).qE),.slice ae48Bag (((r.qK[i]!).yx).length) ce48Bag],pp b3 0,pp b1 0,pp b5 0] rfl rfl call120 (en func120 ntmps120 ?_)))))
    refine zcr (sw (vP H [yI ((r.qK[i]!).qE),.slice ae48Bag (((r.qK[i]!).yx).length) ce48Bag] fun b49 w50 H=>sp (.bool false) (zjn (zx ?_))))
    refine y9 rfl H fun H=>tF 0 rfl rfl H ?_
    refine tL 1 rfl rfl (fun _ h=>h.cell 2 rfl rfl) H ?_
    refine tF 2 rfl rfl H ?_
    refine tL 3 rfl rfl (fun _ h=>h.cell 0 rfl rfl) H ?_
    refine tI 4 rfl rfl rfl H ?_
    refine tL 5 rfl rfl (fun _ h=>h.elemBool 6 rfl ((r.qK[i]!).qE) qf qf) H ?_
    refine rtp 6 (.bool (!(t.qF[((r.qK[i]!).qE).toNat]!))) H ?_
    refine rtp 7 (.bool (!(t.qF[((r.qK[i]!).qE).toNat]!))) H ?_
    cases h52:(!(t.qF[((r.qK[i]!).qE).toNat]!))
    ·skip
     replace h52:=xm h52
     refine rg 8 (.agg #[yI s.qV,.slice qC s.qx.length qB,.slice qJ s.qw.length qG]) 13 (yj (cs:=(yS s qC qB qJ qG)) isAgg27 sizeOf27 rfl (fun _ h=>qI (h.cells 3 rfl) 0 3)) H ?_
     refine rg 9 (.agg #[.slice (aa b7 o8) t.qF.length qQ,.slice (aa b11 o12) t.qL.length xu,.slice qN t.qH.length qM]) 13 (yj (cs:=[.slice (aa b7 o8) t.qF.length qQ,.slice (aa b11 o12) t.qL.length xu,.slice qN t.qH.length qM]) isAgg31 sizeOf31 rfl (fun _ h=>qI (h.cells 2 rfl) 0 3)) H ?_
     refine gF 10 rfl rfl H ?_
     refine gL 11 rfl rfl (fun _ h=>h.cell 0 rfl rfl) H ?_
     refine gF 13 rfl rfl H ?_
     refine gL 14 rfl rfl (fun _ h=>h.cell 1 rfl rfl) H ?_
     refine zH [12] qh qm (r_opG rfl (e:=13) rfl rfl (oq (parentNow_ok _ s t ((r.qK[i]!).qE) (H.get 4 rfl).1 (H.get 5 rfl).1 (H.get 6 rfl).1 (H.get 7 rfl).1 (H.get 8 rfl).1 qg qg qg) H fun w54 H=>⟨H,(rgp 15 (.bool ((qZ s t ((r.qK[i]!).qE):Int) != r.qE)) 13 H ?_)⟩) zI)
     refine rtp 16 (.bool ((qZ s t ((r.qK[i]!).qE):Int) != r.qE)) H ?_
     refine rtp 17 (.bool ((qZ s t ((r.qK[i]!).qE):Int) != r.qE)) H ?_
     refine xh qh (t_n (c_ret (ret1 (.bool ((qZ s t ((r.qK[i]!).qE):Int) != r.qE)) rfl rfl ⟨_,rfl,?_⟩)))
     replace H:=H.erases [0]
     dsimp only [jg,List.eraseIdx] at H
     refine zjn (xZ ((qZ s t ((r.qK[i]!).qE):Int) != r.qE) rfl (fun h56=>?_) (fun h56=>?_))
     ·skip
      replace h56:=bne_iff_ne.1 h56
      refine zcr (sps [yI i,yI i] (zjr (zr5 (ret1 (yI i) rfl rfl ⟨_,rfl,(sw (o_pure (.bool true) (by show some (Value.bool (decide ((i:Int)≥0)))=some (Value.bool true);rw [decide_eq_true qf]) (sp (.bool true) (zjr (ret1 (.bool true) rfl rfl ⟨_,rfl,(sps [.bool false,.bool false] (zjr (ret1 (.bool false) rfl rfl ⟨_,rfl,?_,H.base⟩)))⟩)))))⟩))))
      rw [xg (fun h=>by obtain ⟨h1,h2,h3,h4,h5⟩:=h;first | exact ft h1 ‹_› | exact ft h2 ‹_› | exact ft h3 ‹_› | exact h4 ⟨‹_›,‹_›⟩ | (obtain ⟨q1,q2⟩:=h5 i qf;first | exact ft q1 ‹_› | exact absurd q2 ‹_›))]
     replace h56:=zT h56
     refine xB (b_n (t_n (zJ (sw (vk i 1 rfl rfl qf (sp (yI (i+1)) (zK (xH (m' :=(r.qK.length - ((i+1):Int)).toNat) qf ⟨_,i+1,uE4,?_,?_,rfl,N,H.pick [0,1,2] [2,3,4,5,6,7,8,9,10,11,12,13,14]⟩))))))))
     · omega
     · exact i1.succ ‹_› ‹_›
    replace h52:=xF h52
    refine zG [8,9,10,11,12,13,14,15] 8 (H) (rtp 16 (.bool true) H ?_)
    refine rtp 17 (.bool true) H ?_
    refine xh qh (t_n (c_ret (ret1 (.bool true) rfl rfl ⟨_,rfl,?_⟩)))
    replace H:=H.erases [0]
    dsimp only [jg,List.eraseIdx] at H
    refine zjn (xZ true rfl (fun _=>zcr (sps [yI i,yI i] (zjr (zr5 (ret1 (yI i) rfl rfl ⟨_,rfl,(sw (o_pure (.bool true) (by show some (Value.bool (decide ((i:Int)≥0)))=some (Value.bool true);rw [decide_eq_true qf]) (sp (.bool true) (zjr (ret1 (.bool true) rfl rfl ⟨_,rfl,(sps [.bool false,.bool false] (zjr (ret1 (.bool false) rfl rfl ⟨_,rfl,?_,H.base⟩)))⟩)))))⟩))))) (fun h=>absurd h qj))
    rw [xg (fun h=>by obtain ⟨h1,h2,h3,h4,h5⟩:=h;first | exact ft h1 ‹_› | exact ft h2 ‹_› | exact ft h3 ‹_› | exact h4 ⟨‹_›,‹_›⟩ | (obtain ⟨q1,q2⟩:=h5 i qf;first | exact ft q1 ‹_› | exact absurd q2 ‹_›))]
   refine zx4 (zcr (sp (yI (-1)) (zjr (ret1 (yI (-1)) rfl rfl ⟨_,rfl,(sps [.bool false,.bool false] (zjr (ret1 (.bool false) rfl rfl ⟨_,rfl,(sps [.bool true,.bool true] (zjr (ret1 (.bool true) rfl rfl ⟨_,rfl,?_,H.base⟩)))⟩)))⟩))))
   rw [yz ⟨by assumption,by assumption,by assumption,fun ⟨u,v⟩=>by first | omega | exact ft v ‹_›,(show i=r.qK.length by omega)▸i1⟩]
  replace h20:=xF h20
  refine xQ [34,35,36,37,38,39,40,41,42,43] (sp (.bool true) (zjn (xZ true rfl (fun _=>zcr (sp (.bool false) (zjr (t_r (ret1 (.bool false) rfl rfl ⟨_,rfl,?_,H.base⟩))))) (fun h=>absurd h qj))))
  rw [xg (fun h=>by obtain ⟨h1,h2,h3,h4,h5⟩:=h;first | exact ft h1 ‹_› | exact ft h2 ‹_› | exact ft h3 ‹_› | exact h4 ⟨‹_›,‹_›⟩ | (obtain ⟨q1,q2⟩:=h5 i qf;first | exact ft q1 ‹_› | exact absurd q2 ‹_›))]
 replace h17:=xF h17
 refine xQ [27,28,29,30,31] (sps [.bool true,.bool true] (xQ [34,35,36,37,38,39,40,41,42,43] (sp (.bool true) (zjn (xZ true rfl (fun _=>zcr (sp (.bool false) (zjr (t_r (ret1 (.bool false) rfl rfl ⟨_,rfl,?_,H.base⟩))))) (fun h=>absurd h qj))))))
 rw [xg (fun h=>by obtain ⟨h1,h2,h3,h4,h5⟩:=h;first | exact ft h1 ‹_› | exact ft h2 ‹_› | exact ft h3 ‹_› | exact h4 ⟨‹_›,‹_›⟩ | (obtain ⟨q1,q2⟩:=h5 i qf;first | exact ft q1 ‹_› | exact absurd q2 ‹_›))]

theorem cloneSS_ok (w:World) (l:yLL) {al:yOA} {Fl:yLN} (hl:qR.rep w Fl [.slice al l.length cl] l) (p0:l.length≤1000000):Calls Try.prog 78 #[.slice al l.length cl] w (Ret (fun v w' =>∃ (ra:yOA) (rn:Nat) (rc:Nat) (rx:List Value) (rF:yLN),v=.slice ra rn rc∧(∀ b∈rF,b∈Fl)∧St w w' [rr ra rn rc 24 1 rx] [xe false rF rx l]) w):=by
 refine en func78 ntmps78 ?_
 have H:=(St.start w).arg hl
 have nhl:=qX hl
 clear hl
 have N:=Fresh.nil w.heap.size
 refine zcr (sp yN (zjcc (sp (.slice al l.length cl) (sw (o_eqnil underlying29 al l.length cl rfl (zjn (xZ (al.isNone) rfl (fun h1=>?_) (fun h1=>?_))))))))
 ·skip
  refine zcr (sp yN (zjr (t_r ?_)))
  replace H:=H.nilRow 24 1
  replace H:=H.Qn (α:=yLI)
  refine ret1 yN rfl rfl ⟨_,rfl,?_,H.base⟩
  obtain rfl:=H.nilOf 1 rfl ‹_›
  replace H:=H.unfree 0 rfl
  exact ⟨none,0,0,[],[],rfl,(by intro b hb;first | (simp at hb;done) | exact id b (by simpa using hb)),H.pick [0] [0]⟩
 refine xB (t_n (zcr (sw (o_build0 H underlying29 ti24 fun b2 w3 H=>sp (.slice al l.length cl) ?_))))
 replace H:=H.boxRow 0 rfl 1 0 rfl qj
 replace H:=H.Qn (α:=yLI)
 refine sw (o_appendFR H 0 rfl 1 rfl underlying29 ti24 rfl qj rfl rfl qp qf fun a4 c5 w6 us7 G8 H hG9=>?_)
 replace H:=H.repsCat false 1 rfl 0 rfl qm
 refine sp (.slice a4 (0+l.length) c5) (zjr (ret1 (.slice a4 (0+l.length) c5) rfl rfl ⟨_,rfl,(⟨a4,0+l.length,c5,[]++us7,([]++G8),rfl,(by intro b hb;first | (simp at hb;done) | exact hG9 b (by simpa using hb)),H.pick [0] [0]⟩),H.base⟩))

theorem timesIn_ok (w:World) (l:yLI) (m:yLI) {al:yOA} {Fl:yLN} {am:yOA} {cm:Nat} {Fm:yLN} (hl:qR.rep w Fl [.slice al l.length cl] l) (hm:qR.rep w Fm [.slice am m.length cm] m) (p0:l.length≤m.length) (p2:∀ q,q < l.length→0≤m[q]! ∧m[q]! ≤1000):Calls Try.prog 79 #[.slice al l.length cl,.slice am m.length cm] w (Ret (fun v w' =>v=yI (Qp l m)) w):=by
 refine en func79 ntmps79 ?_
 have H:=((St.start w).arg hm).arg hl
 have nhl:=qX hl
 have nhm:=qX hm
 clear hl hm
 have N:=Fresh.nil w.heap.size
 refine zcr (sp (yI 0) (zjc (sp (yI 1000) (zjcc (sp (.slice al l.length cl) (oN rfl (sp (yI 0) (zjn (xq ?_)))))))))
 refine vg (fun m' ρ w1=>∃ (zB:Env) (most:Int) (k:Nat),ρ=upd (upd (upd (upd (upd zB 1 (.slice am m.length cm)) 5 (yI most)) 8 (.slice al l.length cl)) 9 (yI l.length)) 10 (yI k)∧most=jM l m k∧((k:Int)≤l.length)∧m' =(l.length - (k:Int)).toNat∧Fresh w.heap.size []∧St w w1 [] [sF false Fl al cl l,sF false Fm am cm m]) ((l.length - (0:Int)).toNat) ⟨_,1000,0,uE5,(by rfl),qf,rfl,N,H⟩ ?_
 clear H N
 rintro m' ρ w2 ⟨zB,most,k,rfl,rfl,i0,rfl,N,H⟩
 refine zcr (sp (.bool (decide ((k:Int) < l.length))) (zjn (zx (cD rfl (fun h3=>?_) (fun h3=>?_)))))
 ·skip
  refine xB (t_n (zx (xq (zcr (sp (yI k) ?_)))))
  obtain ⟨b4,o5,rfl⟩:=H.addr 0 rfl qf
  refine oI rfl rfl (oL rfl (H.jB 0 rfl k qf qf) (sps [yI k,yI (l[k]!)] (zjc (sps [yI (l[k]!),.bool (decide ((l[k]! :Int) > 0))] (zjn (cD rfl (fun h7=>?_) (fun h7=>?_)))))))
  ·skip
   refine zJ (sps [yI (jM l m k),.slice am m.length cm,yI k] ?_)
   obtain ⟨b8,o9,rfl⟩:=H.addr 1 rfl qf
   refine oI rfl rfl (oL rfl (H.jB 1 rfl k qf qf) (sp (yI (l[k]!)) (sw (o_quo (m[k]!) (l[k]!) rfl rfl (by (have:=p2 k qf;omega)) (by (have:=p2 k qf;omega)) (sw (o_min (jM l m k) ((m[k]!) / (l[k]!)) rfl rfl (sp (yI (min (jM l m k) ((m[k]!) / (l[k]!)))) (zK (b_n (t_n (zJ (sw (vk k 1 rfl rfl (by (have:=p2 k qf;omega)) (sp (yI (k+1)) (zK (xH (m' :=(l.length - ((k+1):Int)).toNat) qf ⟨_,min (jM l m k) ((m[k]!) / (l[k]!)),k+1,uE5,?_,?_,rfl,N,H⟩))))))))))))))))
   · first | exact (timesTo_pos qf).symm | exact (timesTo_skip qf).symm
   · omega
  refine xB (b_n (t_n (zJ (sw (vk k 1 rfl rfl (by (have:=p2 k qf;omega)) (sp (yI (k+1)) (zK (xH (m' :=(l.length - ((k+1):Int)).toNat) qf ⟨_,(jM l m k),k+1,uE5,?_,?_,rfl,N,H⟩))))))))
  · first | exact (timesTo_pos qf).symm | exact (timesTo_skip qf).symm
  · omega
 refine zx4 (zcr (sps [yI (jM l m k),yI (jM l m k)] (zjr (ret1 (yI (jM l m k)) rfl rfl ⟨_,rfl,?_,H.base⟩))))
 obtain rfl:k=l.length:=by omega
 rfl

theorem applicable_ok (w:World) (s:qy) (t:qA) {qC:yOA} {xk:yLN} {qJ:yOA} {xN:yLN} {qU:yOA} {zF:yLN} {xE:yOA} {vF:yLN} {qN:yOA} {zh:yLN} (qW:qR.rep w xk [.slice qC s.qx.length qB] s.qx) (xG:qR.rep w xN [.slice qJ s.qw.length qG] s.qw) (zC:qR.rep w zF [.slice qU t.qF.length qQ] t.qF) (vz:qR.rep w vF [.slice xE t.qL.length xu] t.qL) (zn:qR.rep w zh [.slice qN t.qH.length qM] t.qH) (p0:ve s) (p1:xP s t):Calls Try.prog 60 #[.agg #[yI s.qV,.slice qC s.qx.length qB,.slice qJ s.qw.length qG],.agg #[.slice qU t.qF.length qQ,.slice xE t.qL.length xu,.slice qN t.qH.length qM]] w (Ret (fun v w' =>∃ (ra:yOA) (rn:Nat) (rc:Nat),v=.slice ra rn rc∧Fresh w.heap.size []∧St w w' [rr ra rn rc 2 1 ((appls s t).map (Value.int .i64))] []) w):=by
 refine en func60 ntmps60 ?_
 have H:=(((((St.start w).arg zn).arg vz).arg zC).arg xG).arg qW
 have zY:=qX qW
 have jw:=qX xG
 have Qq:=qX zC
 have nhtBags:=qX vz
 have yM:=qX zn
 clear qW xG zC vz zn
 have N:=Fresh.nil w.heap.size
 have p2:=p0.2.1
 have p3:=p0.1.2.1
 refine zcr (sw (vP H (yS s qC qB qJ qG) fun b1 w2 H=>sw (vP H (yT t qU qQ xE xu qN qM) fun b3 w4 H=>sp yN (zjc (sw (xK [yI 0,yI 0,yI 0,yI 0,yI 0,yI 0] [] (sw (xx H ti124 [yI 0,yI 0,yI 0,yI 0,yI 0,yI 0] fun b5 w6 H=>?_))))))))
 refine sw (xf H 0 [yI 0,yI 0,yI 0,yI 0,yI 0,yI 0] sizeOf124 fun w7 H=>zjcc (sp (yI 0) (zjn (xq ?_))))
 refine vg (fun m' ρ w8=>∃ (zB:Env) (c:Nat) (top:yLI),ρ=upd (upd (upd (upd zB 2 (pp b1 0)) 3 (pp b3 0)) 5 (pp b5 0)) 13 (yI c)∧top=minus c∧((c:Int)≤6)∧m' =(6 - (c:Int)).toNat∧Fresh w.heap.size []∧St w w8 [.box b5 (top.map (Value.int .i64)) 124,.box b3 (yT t qU qQ xE xu qN qM) 31,.box b1 (yS s qC qB qJ qG) 27] [sF false xk qC qB s.qx,sF false xN qJ qG s.qw,sF false zF qU qQ t.qF,sF false vF xE xu t.qL,sF false zh qN qM t.qH]) ((6 - (0:Int)).toNat) ⟨_,0,[0,0,0,0,0,0],uE4,(by rfl),qf,rfl,N,H⟩ ?_
 clear H N
 rintro m' ρ w9 ⟨zB,c,top,rfl,rfl,i0,rfl,N,H⟩
 refine zcr (sp (.bool (decide ((c:Int) < 6))) (zjn (zx (cD rfl (fun h10=>?_) (fun h10=>?_)))))
 ·skip
  refine xB (t_n (zx (xq (zcr (sps [yI c,yI c] (zjn (zJ (sp (yI c) (sw (o_idxArr c underlying124 ti2 rfl rfl qf qf (sw (o_storeArr H 0 rfl (-1) sizeOf2 rfl rfl (i:=c) qf (by simp only [List.length_set,List.length_cons,List.length_nil,minus_len,QS];omega) fun w11 H=>zK (b_n (t_n (zJ (sw (vk c 1 rfl rfl qf (sp (yI (c+1)) (zK (xH (m' :=(6 - ((c+1):Int)).toNat) qf ⟨_,c+1,((minus c).set c (-1)),uE4,?_,?_,rfl,N,H⟩))))))))))))))))))))
  · exact minus_set qf
  · omega
 refine zx4 (zcc (oF rfl (oL rfl (H.cell 2 rfl rfl) (oN rfl (sp (yI 0) (zjn (xq ?_)))))))
 refine vg (fun m' ρ w12=>∃ (zB:Env) (k:Nat) (top_1:yLI),ρ=upd (upd (upd (upd (upd (upd zB 2 (pp b1 0)) 3 (pp b3 0)) 5 (pp b5 0)) 20 (.slice qJ s.qw.length qG)) 21 (yI s.qw.length)) 22 (yI k)∧top_1=bests s t (-1) 6 k∧((k:Int)≤s.qw.length)∧m' =(s.qw.length - (k:Int)).toNat∧Fresh w.heap.size []∧St w w12 [.box b5 (top_1.map (Value.int .i64)) 124,.box b3 (yT t qU qQ xE xu qN qM) 31,.box b1 (yS s qC qB qJ qG) 27] [sF false xk qC qB s.qx,sF false xN qJ qG s.qw,sF false zF qU qQ t.qF,sF false vF xE xu t.qL,sF false zh qN qM t.qH]) ((s.qw.length - (0:Int)).toNat) ⟨_,0,(minus c),uE6,(by exact minus_six qf s t),qf,rfl,N,H⟩ ?_
 clear H N
 rintro m' ρ w13 ⟨zB,k,top_1,rfl,rfl,i0,rfl,N,H⟩
 refine zcr (sp (.bool (decide ((k:Int) < s.qw.length))) (zjn (zx (cD rfl (fun h14=>?_) (fun h14=>?_)))))
 ·skip
  have q:=p0.rule (i:=k) qf
  have qc:=q.1
  have qk:=q.cell
  have qr:=q.2.1
  have q6:(s.qw[k]!).qE.toNat < 6:=by omega
  refine xB (t_n (zx (xq (zcr ?_))))
  obtain ⟨b15,o16,rfl⟩:=H.addr 1 rfl qf
  obtain ⟨ae18Need,ce18Need,Fe18Need,ae18Have,ce18Have,Fe18Have,ae18Lack,ce18Lack,Fe18Lack,ae18Here,ce18Here,Fe18Here,ae18Out,ce18Out,Fe18Out,ae18Into,ce18Into,Fe18Into,H⟩:=H.Qm 1 rfl k k qf qf qf
  refine oI rfl rfl (sw (zi [yI ((s.qw[k]!).qE),yI ((s.qw[k]!).zS),.slice ae18Need (((s.qw[k]!).xn).length) ce18Need,.slice ae18Have (((s.qw[k]!).zf).length) ce18Have,.slice ae18Lack (((s.qw[k]!).x8).length) ce18Lack,.slice ae18Here (((s.qw[k]!).xW).length) ce18Here,.slice ae18Out (((s.qw[k]!).vC).length) ce18Out,.slice ae18Into (((s.qw[k]!).qK).length) ce18Into,.bool ((s.qw[k]!).xU)] isAgg51 sizeOf51 rfl (qI (H.get 6 rfl) 0 9) ?_))
  refine sw (xx H ti51 [yI 0,yI 0,yN,yN,yN,yN,yN,yN,.bool false] fun b19 w20 H=>sw (xf H 0 [yI ((s.qw[k]!).qE),yI ((s.qw[k]!).zS),.slice ae18Need (((s.qw[k]!).xn).length) ce18Need,.slice ae18Have (((s.qw[k]!).zf).length) ce18Have,.slice ae18Lack (((s.qw[k]!).x8).length) ce18Lack,.slice ae18Here (((s.qw[k]!).xW).length) ce18Here,.slice ae18Out (((s.qw[k]!).vC).length) ce18Out,.slice ae18Into (((s.qw[k]!).qK).length) ce18Into,.bool ((s.qw[k]!).xU)] sizeOf51 fun w21 H=>?_))
  refine zjc (sw (zi [yI s.qV,.slice qC s.qx.length qB,.slice (aa b15 o16) s.qw.length qG] isAgg27 sizeOf27 rfl (qI (H.cells 3 rfl) 0 3) (sw (zi (yT t qU qQ xE xu qN qM) isAgg31 sizeOf31 rfl (qI (H.cells 2 rfl) 0 3) ?_))))
  refine sw (zi [yI ((s.qw[k]!).qE),yI ((s.qw[k]!).zS),.slice ae18Need (((s.qw[k]!).xn).length) ce18Need,.slice ae18Have (((s.qw[k]!).zf).length) ce18Have,.slice ae18Lack (((s.qw[k]!).x8).length) ce18Lack,.slice ae18Here (((s.qw[k]!).xW).length) ce18Here,.slice ae18Out (((s.qw[k]!).vC).length) ce18Out,.slice ae18Into (((s.qw[k]!).qK).length) ce18Into,.bool ((s.qw[k]!).xU)] isAgg51 sizeOf51 rfl (qI (H.cells 0 rfl) 0 9) ?_)
  refine sw (oq (isEnabled_ok _ s t (s.qw[k]!) (H.get 7 rfl).1 (H.get 8 rfl).1 (H.get 9 rfl).1 (H.get 10 rfl).1 (H.get 11 rfl).1 (H.get 0 rfl).1 (H.get 1 rfl).1 (H.get 2 rfl).1 (H.get 3 rfl).1 (H.get 4 rfl).1 (H.get 5 rfl).1 qg qg qg) H fun w23 H=>zjn (cP rfl (fun h25=>?_) (fun h25=>?_)))
  ·skip
   refine yE rfl H [0,2,3] fun H=>?_
   have S:=H.jm [0,2,3] [0,1,2,3,4,5,6,7,8,9,10,11]
   refine tF 0 rfl rfl S ?_
   refine tL 1 rfl rfl (fun _ h=>h.cell 0 rfl rfl) S ?_
   refine tF 2 rfl rfl S ?_
   refine tL 3 rfl rfl (fun _ h=>h.cell 0 rfl rfl) S ?_
   refine rt 4 (pp b5 (0+((s.qw[k]!).qE:Int).toNat * 1)) (y_idxArr b5 (0) 6 ((s.qw[k]!).qE) underlying124 ti2 rfl rfl qf qf) S ?_
   refine tF 6 rfl rfl S ?_
   refine tL 7 rfl rfl (fun _ h=>h.cell 0 rfl rfl) S ?_
   refine ro 5 rfl (zk (yI ((bests s t (-1) 6 k)[((s.qw[k]!).qE).toNat]!)) isAgg2 rfl (H.cell 1 rfl (ints_at (iv:=(s.qw[k]!).qE) (i:=(((s.qw[k]!).qE).toNat)) qf (by simp only [List.length_set,List.length_cons,List.length_nil,minus_len,QS];omega))) (⟨H.pick [0,2,3] [0,1,2,3,4,5,6,7,8,9,10,11],?_⟩))
   have S:=H.jm [0,2,3] [0,1,2,3,4,5,6,7,8,9,10,11]
   refine rt 8 (yI (max ((bests s t (-1) 6 k)[((s.qw[k]!).qE).toNat]!) ((s.qw[k]!).zS))) (y_max ((bests s t (-1) 6 k)[((s.qw[k]!).qE).toNat]!) ((s.qw[k]!).zS) rfl rfl) S ?_
   refine rt 9 (pp b5 (0+((s.qw[k]!).qE:Int).toNat * 1)) (y_idxArr b5 (0) 6 ((s.qw[k]!).qE) underlying124 ti2 rfl rfl qf qf) S ?_
   refine ro 10 rfl (o_storeArr H 1 rfl (max ((bests s t (-1) 6 k)[((s.qw[k]!).qE).toNat]!) ((s.qw[k]!).zS)) sizeOf2 rfl rfl (i:=(((s.qw[k]!).qE).toNat)) qf (by simp only [List.length_set,List.length_cons,List.length_nil,minus_len,QS];omega) fun w27 H=>⟨H.pick [0,2,3] [0,1,2,3,4,5,6,7,8,9,10,11],(xh qh (b_n (t_n (zJ (sw (vk k 1 rfl rfl qf (sp (yI (k+1)) (zK ?_))))))))⟩)
   refine xH (m' :=(s.qw.length - ((k+1):Int)).toNat) qf ⟨_,k+1,((bests s t (-1) 6 k).set (((s.qw[k]!).qE).toNat) (max ((bests s t (-1) 6 k)[((s.qw[k]!).qE).toNat]!) ((s.qw[k]!).zS))),uE6,?_,?_,rfl,N,H.pick [1,2,3] [7,8,9,10,11]⟩
   · first | exact bests_set ‹_› qf | exact bests_skip ‹_›
   · omega
  refine xB (b_n (t_n (zJ (sw (vk k 1 rfl rfl qf (sp (yI (k+1)) (zK (xH (m' :=(s.qw.length - ((k+1):Int)).toNat) qf ⟨_,k+1,(bests s t (-1) 6 k),uE6,?_,?_,rfl,N,H.pick [1,2,3] [7,8,9,10,11]⟩))))))))
  · first | exact bests_set ‹_› qf | exact bests_skip ‹_›
  · omega
 refine zx4 (zcr (sw (o_build0 H underlying24 ti2 fun b28 w29 H=>sp (.slice (aa b28 0) 0 0) (zjcc (oF rfl (oL rfl (H.cell 3 rfl rfl) (oN rfl (sp (yI 0) (zjn (xq ?_))))))))))
 replace H:=H.boxRowI 0 [] 0
 refine vg (fun m' ρ w30=>∃ (zB:Env) (a_out:yOA) (n_out:Nat) (c_out:Nat) (out:yLI) (i:Nat),ρ=upd (upd (upd (upd (upd (upd (upd zB 2 (pp b1 0)) 3 (pp b3 0)) 5 (pp b5 0)) 9 (.slice a_out n_out c_out)) 43 (.slice qJ s.qw.length qG)) 44 (yI s.qw.length)) 45 (yI i)∧out=applL s t i∧((i:Int)≤s.qw.length)∧m' =(s.qw.length - (i:Int)).toNat∧Fresh w.heap.size []∧St w w30 [rr a_out n_out c_out 2 1 (out.map (Value.int .i64)),.box b5 ((bests s t (-1) 6 k).map (Value.int .i64)) 124,.box b3 (yT t qU qQ xE xu qN qM) 31,.box b1 (yS s qC qB qJ qG) 27] [sF false xk qC qB s.qx,sF false xN qJ qG s.qw,sF false zF qU qQ t.qF,sF false vF xE xu t.qL,sF false zh qN qM t.qH]) ((s.qw.length - (0:Int)).toNat) ⟨_,(aa b28 0),0,0,([]:yLI),0,uE7,(by rfl),qf,rfl,N,H⟩ ?_
 clear H N
 rintro m' ρ w31 ⟨zB,a_out,n_out,c_out,out,i,rfl,rfl,i0,rfl,N,H⟩
 have hn_out:=H.zQ 0 rfl
 have ll:=applL_le s t i
 refine zcr (sp (.bool (decide ((i:Int) < s.qw.length))) (zjn (zx (cD rfl (fun h32=>?_) (fun h32=>?_)))))
 ·skip
  have q:=p0.rule (i:=i) qf
  have qc:=q.1
  have qk:=q.cell
  have qr:=q.2.1
  have q6:(s.qw[i]!).qE.toNat < 6:=by omega
  refine xB (t_n (zx (xq (zcr (sp (yI i) ?_)))))
  obtain ⟨b33,o34,rfl⟩:=H.addr 1 rfl qf
  obtain ⟨ae36Need,ce36Need,Fe36Need,ae36Have,ce36Have,Fe36Have,ae36Lack,ce36Lack,Fe36Lack,ae36Here,ce36Here,Fe36Here,ae36Out,ce36Out,Fe36Out,ae36Into,ce36Into,Fe36Into,H⟩:=H.Qm 1 rfl i i qf qf qf
  refine oI rfl rfl (sw (zi [yI ((s.qw[i]!).qE),yI ((s.qw[i]!).zS),.slice ae36Need (((s.qw[i]!).xn).length) ce36Need,.slice ae36Have (((s.qw[i]!).zf).length) ce36Have,.slice ae36Lack (((s.qw[i]!).x8).length) ce36Lack,.slice ae36Here (((s.qw[i]!).xW).length) ce36Here,.slice ae36Out (((s.qw[i]!).vC).length) ce36Out,.slice ae36Into (((s.qw[i]!).qK).length) ce36Into,.bool ((s.qw[i]!).xU)] isAgg51 sizeOf51 rfl (qI (H.get 6 rfl) 0 9) ?_))
  refine sw (xx H ti51 [yI 0,yI 0,yN,yN,yN,yN,yN,yN,.bool false] fun b37 w38 H=>sp (yI i) ?_)
  refine sw (xf H 0 [yI ((s.qw[i]!).qE),yI ((s.qw[i]!).zS),.slice ae36Need (((s.qw[i]!).xn).length) ce36Need,.slice ae36Have (((s.qw[i]!).zf).length) ce36Have,.slice ae36Lack (((s.qw[i]!).x8).length) ce36Lack,.slice ae36Here (((s.qw[i]!).xW).length) ce36Here,.slice ae36Out (((s.qw[i]!).vC).length) ce36Out,.slice ae36Into (((s.qw[i]!).qK).length) ce36Into,.bool ((s.qw[i]!).xU)] sizeOf51 fun w39 H=>zjn (zx ?_))
  refine y9 rfl H fun H=>tF 0 rfl rfl H ?_
  refine tL 1 rfl rfl (fun _ h=>h.cell 0 rfl rfl) H ?_
  refine tF 2 rfl rfl H ?_
  refine tL 3 rfl rfl (fun _ h=>h.cell 0 rfl rfl) H ?_
  refine rt 4 (pp b5 (0+((s.qw[i]!).qE:Int).toNat * 1)) (y_idxArr b5 (0) 6 ((s.qw[i]!).qE) underlying124 ti2 rfl rfl qf qf) H ?_
  refine tL 5 rfl rfl (fun _ h=>h.cell 2 rfl (ints_at (iv:=(s.qw[i]!).qE) (i:=(((s.qw[i]!).qE).toNat)) qf (by simp only [List.length_set,List.length_cons,List.length_nil,minus_len,QS];omega))) H ?_
  refine rtp 6 (.bool (((s.qw[i]!).zS:Int) == ((bests s t (-1) 6 k)[((s.qw[i]!).qE).toNat]!))) H ?_
  refine rtp 7 (.bool (((s.qw[i]!).zS:Int) == ((bests s t (-1) 6 k)[((s.qw[i]!).qE).toNat]!))) H ?_
  cases h41:(((s.qw[i]!).zS:Int) == ((bests s t (-1) 6 k)[((s.qw[i]!).qE).toNat]!))
  ·skip
   replace h41:=ne_of_beq_false h41
   refine zG [8,9,10,11] 4 (H) (rtp 12 (.bool false) H ?_)
   refine xh qh (t_n (xZ false rfl (fun h=>absurd h qj) (fun _=>xB (b_n (t_n (zJ (sw (vk i 1 rfl rfl qf (sp (yI (i+1)) (zK (xH (m' :=(s.qw.length - ((i+1):Int)).toNat) qf ⟨_,a_out,n_out,c_out,(applL s t i),i+1,uE7,?_,?_,rfl,N,H.pick [1,2,3,4] [7,8,9,10,11]⟩)))))))))))
   · first | exact applL_yes (appl_yes (n:=6) (z:= -1) (k:=k) qf qf qf q6 ‹_› ‹_›) | exact applL_no (appl_no (n:=6) (z:= -1) (k:=k) qf qf qf q6 ‹_›) | exact applL_no (fun h=>‹¬ EnOk _ _ _› h.1)
   · omega
  replace h41:=eq_of_beq h41
  refine rg 8 (.agg #[yI s.qV,.slice qC s.qx.length qB,.slice (aa b33 o34) s.qw.length qG]) 57 (yj (cs:=[yI s.qV,.slice qC s.qx.length qB,.slice (aa b33 o34) s.qw.length qG]) isAgg27 sizeOf27 rfl (fun _ h=>qI (h.cells 4 rfl) 0 3)) H ?_
  refine rg 9 (.agg #[.slice qU t.qF.length qQ,.slice xE t.qL.length xu,.slice qN t.qH.length qM]) 57 (yj (cs:=(yT t qU qQ xE xu qN qM)) isAgg31 sizeOf31 rfl (fun _ h=>qI (h.cells 3 rfl) 0 3)) H ?_
  refine rg 10 (.agg #[yI ((s.qw[i]!).qE),yI ((s.qw[i]!).zS),.slice ae36Need (((s.qw[i]!).xn).length) ce36Need,.slice ae36Have (((s.qw[i]!).zf).length) ce36Have,.slice ae36Lack (((s.qw[i]!).x8).length) ce36Lack,.slice ae36Here (((s.qw[i]!).xW).length) ce36Here,.slice ae36Out (((s.qw[i]!).vC).length) ce36Out,.slice ae36Into (((s.qw[i]!).qK).length) ce36Into,.bool ((s.qw[i]!).xU)]) 57 (yj (cs:=[yI ((s.qw[i]!).qE),yI ((s.qw[i]!).zS),.slice ae36Need (((s.qw[i]!).xn).length) ce36Need,.slice ae36Have (((s.qw[i]!).zf).length) ce36Have,.slice ae36Lack (((s.qw[i]!).x8).length) ce36Lack,.slice ae36Here (((s.qw[i]!).xW).length) ce36Here,.slice ae36Out (((s.qw[i]!).vC).length) ce36Out,.slice ae36Into (((s.qw[i]!).qK).length) ce36Into,.bool ((s.qw[i]!).xU)]) isAgg51 sizeOf51 rfl (fun _ h=>qI (h.cells 0 rfl) 0 9)) H ?_
  refine zH [11] qh qm (r_opG rfl (e:=57) rfl rfl (oq (isEnabled_ok _ s t (s.qw[i]!) (H.get 7 rfl).1 (H.get 8 rfl).1 (H.get 9 rfl).1 (H.get 10 rfl).1 (H.get 11 rfl).1 (H.get 0 rfl).1 (H.get 1 rfl).1 (H.get 2 rfl).1 (H.get 3 rfl).1 (H.get 4 rfl).1 (H.get 5 rfl).1 qg qg qg) H fun w43 H=>⟨H,(rtp 12 (.bool (dec (EnOk s t (s.qw[i]!)))) H ?_)⟩) zI)
  refine xh qh (t_n (cP rfl (fun h45=>?_) (fun h45=>?_)))
  ·skip
   refine zJ (sps [.slice a_out n_out c_out,yI i] (sw (vV H underlying24 ti2 [yI i] fun b46 w47 H=>sw (vW H 2 rfl 0 rfl underlying24 ti2 rfl qj rfl rfl rfl (by simp [Value.oneCell',Value.cells]) qp qf fun a48 c49 w50 H=>?_))))
   rw [snocI] at H
   refine sp (.slice a48 (n_out+1) c49) (zK (b_n (t_n (zJ (sw (vk i 1 rfl rfl qf (sp (yI (i+1)) (zK (xH (m' :=(s.qw.length - ((i+1):Int)).toNat) qf ⟨_,a48,n_out+1,c49,((applL s t i)++[(i:Int)]),i+1,uE7,?_,?_,rfl,N,H.pick [2,3,4,5] [7,8,9,10,11]⟩)))))))))
   · first | exact applL_yes (appl_yes (n:=6) (z:= -1) (k:=k) qf qf qf q6 ‹_› ‹_›) | exact applL_no (appl_no (n:=6) (z:= -1) (k:=k) qf qf qf q6 ‹_›) | exact applL_no (fun h=>‹¬ EnOk _ _ _› h.1)
   · omega
  refine xB (b_n (t_n (zJ (sw (vk i 1 rfl rfl qf (sp (yI (i+1)) (zK (xH (m' :=(s.qw.length - ((i+1):Int)).toNat) qf ⟨_,a_out,n_out,c_out,(applL s t i),i+1,uE7,?_,?_,rfl,N,H.pick [1,2,3,4] [7,8,9,10,11]⟩))))))))
  · first | exact applL_yes (appl_yes (n:=6) (z:= -1) (k:=k) qf qf qf q6 ‹_› ‹_›) | exact applL_no (appl_no (n:=6) (z:= -1) (k:=k) qf qf qf q6 ‹_›) | exact applL_no (fun h=>‹¬ EnOk _ _ _› h.1)
  · omega
 refine zx4 (zcr (sps [.slice a_out n_out c_out,.slice a_out n_out c_out] (zjr (ret1 (.slice a_out n_out c_out) rfl rfl ⟨_,rfl,?_,H.base⟩))))
 obtain rfl:i=s.qw.length:=by omega
 exact ⟨a_out,n_out,c_out,rfl,N,H.pick [0] []⟩
theorem firstChoice_ok (w:World) (s:qy) (t:qA) {qC:yOA} {xk:yLN} {qJ:yOA} {xN:yLN} {qU:yOA} {zF:yLN} {xE:yOA} {vF:yLN} {qN:yOA} {zh:yLN} (qW:qR.rep w xk [.slice qC s.qx.length qB] s.qx) (xG:qR.rep w xN [.slice qJ s.qw.length qG] s.qw) (zC:qR.rep w zF [.slice qU t.qF.length qQ] t.qF) (vz:qR.rep w vF [.slice xE t.qL.length xu] t.qL) (zn:qR.rep w zh [.slice qN t.qH.length qM] t.qH) (p0:ve s) (p1:xP s t):Calls Try.prog 43 #[.agg #[yI s.qV,.slice qC s.qx.length qB,.slice qJ s.qw.length qG],.agg #[.slice qU t.qF.length qQ,.slice xE t.qL.length xu,.slice qN t.qH.length qM]] w (Ret (fun v w' =>∃ (ra:yOA) (rn:Nat) (rc:Nat),v=.slice ra rn rc∧Fresh w.heap.size []∧St w w' [rr ra rn rc 2 1 ((qP s t).map (Value.int .i64))] []) w):=by
 refine en func43 ntmps43 ?_
 have H:=(((((St.start w).arg zn).arg vz).arg zC).arg xG).arg qW
 have zY:=qX qW
 have jw:=qX xG
 have Qq:=qX zC
 have nhtBags:=qX vz
 have yM:=qX zn
 clear qW xG zC vz zn
 have N:=Fresh.nil w.heap.size
 have p3:=p0.2.1
 have p7:=p1.2.1
 have p8:=kinds_le p0
 have p9:=p0.1.2.1
 have p11:xJ s=s.qx.length:=rfl
 refine zcr (sw (vP H (yS s qC qB qJ qG) fun b1 w2 H=>sw (vP H (yT t qU qQ xE xu qN qM) fun b3 w4 H=>sp yN (zjn (zx ?_)))))
 refine c_cut (fun ρ w10=>∃ (zB:Env) (b5:Nat) (ra6:yOA) (rc7:Nat) (rx8:List Value) (rF9:yLN),ρ=upd (upd (upd (upd zB 2 (pp b1 0)) 3 (pp b3 0)) 5 (.slice (aa b5 0) s.qw.length s.qw.length)) 6 (.slice ra6 t.qL.length rc7)∧Fresh w.heap.size []∧St w w10 [rr ra6 t.qL.length rc7 24 1 rx8,rr (aa b5 0) s.qw.length s.qw.length 2 1 ((List.replicate s.qw.length (0:Int)).map (Value.int .i64)),.box b3 (yT t qU qQ xE xu qN qM) 31,.box b1 (yS s qC qB qJ qG) 27] [xe false rF9 rx8 t.qL,sF false xk qC qB s.qx,sF false xN qJ qG s.qw,sF false zF qU qQ t.qF,sF false vF xE xu t.qL,sF false zh qN qM t.qH]) ?_ ?_
 ·skip
  refine y9 rfl H fun H=>tF 0 rfl rfl H ?_
  refine tL 1 rfl rfl (fun _ h=>h.cell 1 rfl rfl) H ?_
  refine tN 2 rfl rfl H ?_
  refine tF 4 rfl rfl H ?_
  refine tL 5 rfl rfl (fun _ h=>h.cell 0 rfl rfl) H ?_
  refine zH [3,6] qh qm (zW rfl ?_ (zW rfl ?_ zI))
  ·skip
   refine zg H underlying24 ti2 s.qw.length rfl rfl qf qf qf fun b12 w13 H=>⟨H.pick [1,2] [0,1,2,3,4],(ro 6 rfl ?_)⟩
   have sz17:=H.base.size
   refine oc (cloneSS_ok _ t.qL (H.get 3 rfl).1 qg) ?_
   rintro _ w15 ⟨ra14,rn14,rc14,rx14,rF14,rfl,hG19,K⟩ _
   replace H:=H.mergeIn K 3 rfl hG19
   obtain rfl:=H.zy (α:=yLI) 0 rfl 0 rfl qj
   refine ⟨H.pick [2,3] [1,2,3,4,5],?_⟩
   have S:=H.jm [2,3] [1,2,3,4,5]
   refine rtp 7 (.slice (aa b12 0) s.qw.length s.qw.length) S ?_
   refine rtp 8 (.slice ra14 t.qL.length rc14) S ?_
   refine xh qh ((meet ⟨_,b12,ra14,rc14,rx14,rF14,uE4,N,H⟩))
  have sz23:=H.base.size
  refine oc (cloneSS_ok _ t.qL (H.get 3 rfl).1 qg) ?_
  rintro _ w21 ⟨ra20,rn20,rc20,rx20,rF20,rfl,hG25,K⟩ _
  replace H:=H.mergeIn K 3 rfl hG25
  obtain rfl:=H.zy (α:=yLI) 0 rfl 0 rfl qj
  refine ⟨H.pick [1,2] [1,2,3,4,5],(ro 3 rfl (zg H underlying24 ti2 s.qw.length rfl rfl qf qf qf fun b26 w27 H=>⟨H.pick [2,3] [1,2,3,4,5],?_⟩))⟩
  have S:=H.jm [2,3] [1,2,3,4,5]
  refine rtp 7 (.slice (aa b26 0) s.qw.length s.qw.length) S ?_
  refine rtp 8 (.slice ra20 t.qL.length rc20) S ?_
  refine xh qh ((meet ⟨_,b26,ra20,rc20,rx20,rF20,uE4,N,H.pick [1,0,2,3] [0,1,2,3,4,5]⟩))
 clear H N
 rintro ρ w28 ⟨zB,b5,ra6,rc7,rx8,rF9,rfl,N,H⟩
 refine t_n (zcc (sw (zi (yS s qC qB qJ qG) isAgg27 sizeOf27 rfl (qI (H.cells 3 rfl) 0 3) (sw (zi (yT t qU qQ xE xu qN qM) isAgg31 sizeOf31 rfl (qI (H.cells 2 rfl) 0 3) ?_)))))
 have sz32:=H.base.size
 refine sw (oc (applicable_ok _ s t (H.get 1 rfl).1 (H.get 2 rfl).1 (H.get 3 rfl).1 (H.get 4 rfl).1 (H.get 5 rfl).1 qg qg) ?_)
 rintro _ w30 ⟨ra29,rn29,rc29,rfl,M,K⟩ _
 replace H:=H.merge K M
 obtain rfl:=H.zQ 0 rfl
 have al:(appls s t).length≤s.qw.length:=applL_le s t s.qw.length
 refine oN rfl (sp (yI 0) (zjn (xq ?_)))
 refine vg (fun m' ρ w35=>∃ (zB:Env) (k:Nat) (rest:yLL) (x_rest:List Value) (F_rest:yLN) (out:yLI) (m:Nat),ρ=upd (upd (upd (upd (upd (upd zB 2 (pp b1 0)) 5 (.slice (aa b5 0) s.qw.length s.qw.length)) 6 (.slice ra6 t.qL.length rc7)) 19 (.slice ra29 ((appls s t).length) rc29)) 20 (yI ((appls s t).length))) 21 (yI k)∧rest=vX s t m∧out=firstTo s t m s.qw.length∧((k:Int)≤((appls s t).length))∧((applL s t m).length=k)∧(m≤s.qw.length)∧m' =(((appls s t).length) - (k:Int)).toNat∧Fresh w.heap.size []∧St w w35 [rr ra29 ((appls s t).length) rc29 2 1 ((appls s t).map (Value.int .i64)),rr ra6 t.qL.length rc7 24 1 x_rest,rr (aa b5 0) s.qw.length s.qw.length 2 1 (out.map (Value.int .i64)),.box b3 (yT t qU qQ xE xu qN qM) 31,.box b1 (yS s qC qB qJ qG) 27] [xe false F_rest x_rest rest,sF false xk qC qB s.qx,sF false xN qJ qG s.qw,sF false zF qU qQ t.qF,sF false vF xE xu t.qL,sF false zh qN qM t.qH]) ((((appls s t).length) - (0:Int)).toNat) ⟨_,0,t.qL,rx8,rF9,(List.replicate s.qw.length (0:Int)),0,uE6,(by rfl),(by exact firstTo_zero s t _),qf,(by rfl),qf,rfl,N,H⟩ ?_
 clear H N
 rintro m' ρ w36 ⟨zB,k,rest,x_rest,F_rest,out,m,rfl,rfl,rfl,i0,hm,hn,rfl,N,H⟩
 have hn_rest:=H.zy (α:=yLI) 1 rfl 0 rfl qj
 have hn_out:=H.zQ 2 rfl
 refine zcr (sp (.bool (decide ((k:Int) < ((appls s t).length)))) (zjn (zx (cD rfl (fun h37=>?_) (fun h37=>?_)))))
 ·skip
  obtain ⟨a0,a1,a2,a3,a4,a5⟩:=appls_at' hm hn qf
  have q:=p0.rule (i:=((appls s t)[k]!).toNat) qf
  have qc:=q.1
  have qk:=q.cell
  have qr:=q.2.1
  have bn1:=q.2.2.2.2.1
  have rl:=(firstR_box p0 p1 m qf).1
  have fl:=yt s t m s.qw.length
  have ex:((firstTo s t m s.qw.length).set ((appls s t)[k]!).toNat (Qp (s.qw[((appls s t)[k]!).toNat]!).xn ((vX s t m)[(s.qw[((appls s t)[k]!).toNat]!).qE.toNat]!)))[((appls s t)[k]!).toNat]! =(Qp (s.qw[((appls s t)[k]!).toNat]!).xn ((vX s t m)[(s.qw[((appls s t)[k]!).toNat]!).qE.toNat]!)):=by rw [getset (by rw [yt];omega),if_pos rfl]
  have xb:=firstC_bd p0 p1 (k:=((appls s t)[k]!).toNat) a2
  rw [← firstC_step a1 a3 a4] at xb
  refine xB (t_n (zx (xq (zcr ?_))))
  obtain ⟨b38,rfl⟩:=H.Qv 0 rfl qf
  refine oI rfl rfl (oL rfl (H.rowInt 0 rfl (iv:=k) (i:=k) qf qf) (sp (yI ((appls s t)[k]!)) (zjc (oF rfl (oL rfl (H.cell 4 rfl rfl) (sp (yI ((appls s t)[k]!)) ?_))))))
  obtain ⟨b39,o40,rfl⟩:=H.addr 2 rfl qf
  obtain ⟨ae42Need,ce42Need,Fe42Need,ae42Have,ce42Have,Fe42Have,ae42Lack,ce42Lack,Fe42Lack,ae42Here,ce42Here,Fe42Here,ae42Out,ce42Out,Fe42Out,ae42Into,ce42Into,Fe42Into,H⟩:=H.Qm 2 rfl ((appls s t)[k]!) (((appls s t)[k]!).toNat) qf qf qf
  refine oI rfl rfl ?_
  refine sw (zi [yI ((s.qw[((appls s t)[k]!).toNat]!).qE),yI ((s.qw[((appls s t)[k]!).toNat]!).zS),.slice ae42Need (((s.qw[((appls s t)[k]!).toNat]!).xn).length) ce42Need,.slice ae42Have (((s.qw[((appls s t)[k]!).toNat]!).zf).length) ce42Have,.slice ae42Lack (((s.qw[((appls s t)[k]!).toNat]!).x8).length) ce42Lack,.slice ae42Here (((s.qw[((appls s t)[k]!).toNat]!).xW).length) ce42Here,.slice ae42Out (((s.qw[((appls s t)[k]!).toNat]!).vC).length) ce42Out,.slice ae42Into (((s.qw[((appls s t)[k]!).toNat]!).qK).length) ce42Into,.bool ((s.qw[((appls s t)[k]!).toNat]!).xU)] isAgg51 sizeOf51 rfl (qI (H.get 6 rfl) 0 9) ?_)
  refine sw (xx H ti51 [yI 0,yI 0,yN,yN,yN,yN,yN,yN,.bool false] fun b43 w44 H=>?_)
  refine sw (xf H 0 [yI ((s.qw[((appls s t)[k]!).toNat]!).qE),yI ((s.qw[((appls s t)[k]!).toNat]!).zS),.slice ae42Need (((s.qw[((appls s t)[k]!).toNat]!).xn).length) ce42Need,.slice ae42Have (((s.qw[((appls s t)[k]!).toNat]!).zf).length) ce42Have,.slice ae42Lack (((s.qw[((appls s t)[k]!).toNat]!).x8).length) ce42Lack,.slice ae42Here (((s.qw[((appls s t)[k]!).toNat]!).xW).length) ce42Here,.slice ae42Out (((s.qw[((appls s t)[k]!).toNat]!).vC).length) ce42Out,.slice ae42Into (((s.qw[((appls s t)[k]!).toNat]!).qK).length) ce42Into,.bool ((s.qw[((appls s t)[k]!).toNat]!).xU)] sizeOf51 fun w45 H=>?_)
  refine zjn (zx ?_)
  refine yE rfl H [0,1,2,4,5] fun H=>?_
  have S:=H.jm [0,1,2,4,5] [0,1,2,3,4,5,6,7,8,9,10,11,12]
  refine rtp 0 (.slice (aa b5 0) s.qw.length s.qw.length) S ?_
  refine rtp 1 (yI ((appls s t)[k]!)) S ?_
  refine tF 2 rfl rfl S ?_
  refine tL 3 rfl rfl (fun _ h=>h.cell 0 rfl rfl) S ?_
  refine rtp 4 (.slice ra6 t.qL.length rc7) S ?_
  refine tF 5 rfl rfl S ?_
  refine tL 6 rfl rfl (fun _ h=>h.cell 0 rfl rfl) S ?_
  obtain ⟨b47,rfl⟩:=H.Qv 2 rfl qf
  refine tI 7 rfl rfl rfl (H.pick [0,1,2,4,5] [0,1,2,3,4,5,6,7,8,9,10,11,12]) ?_
  refine ro 8 rfl ?_
  obtain ⟨a48,c49,G50,s51,h52,H⟩:=H.jf 2 rfl 7 rfl (iv:=(s.qw[((appls s t)[k]!).toNat]!).qE) (((s.qw[((appls s t)[k]!).toNat]!).qE).toNat) qf qf
  refine zk (.slice a48 (((vX s t m)[((s.qw[((appls s t)[k]!).toNat]!).qE).toNat]!).length) c49) isAgg24 rfl (h52) (⟨H.pick [0,1,2,4,5] [1,2,3,4,5,6,7,8,9,10,11,12,13],(ro 9 rfl ?_)⟩)
  obtain ⟨u1,u2,u5⟩:=firstR_row (c:=(s.qw[((appls s t)[k]!).toNat]!).qE.toNat) p0 p1 (show m≤_ by omega) qk
  have u3:=bn1.len
  have u6:∀ q,q < ((s.qw[((appls s t)[k]!).toNat]!).xn).length→0≤((vX s t m)[(s.qw[((appls s t)[k]!).toNat]!).qE.toNat]!)[q]! ∧((vX s t m)[(s.qw[((appls s t)[k]!).toNat]!).qE.toNat]!)[q]! ≤1000:=fun q hq=>u5 q qf
  refine oq (timesIn_ok _ ((s.qw[((appls s t)[k]!).toNat]!).xn) ((vX s t m)[((s.qw[((appls s t)[k]!).toNat]!).qE).toNat]!) (H.get 1 rfl).1 (H.get 0 rfl).1 qg qg) H fun w54 H=>⟨H.pick [0,1,2,4,5] [1,2,3,4,5,6,7,8,9,10,11,12,13],(tI 10 rfl rfl rfl (H.pick [0,1,2,4,5] [1,2,3,4,5,6,7,8,9,10,11,12,13]) ?_)⟩
  refine ro 11 rfl (o_storeInt H 3 rfl (Qp ((s.qw[((appls s t)[k]!).toNat]!).xn) ((vX s t m)[((s.qw[((appls s t)[k]!).toNat]!).qE).toNat]!)) sizeOf2 rfl rfl (i:=(((appls s t)[k]!).toNat)) qf qf fun w56 H=>⟨H.pick [0,1,2,4,5] [1,2,3,4,5,6,7,8,9,10,11,12,13],(xh qh (t_n ?_))⟩)
  refine yE rfl H [0,1,3,4,5] fun H=>?_
  have S:=H.jm [0,1,3,4,5] [0,1,2,3,4,5,6,7,8,9,10,11,12,13]
  refine rtp 0 (.slice (aa b47 0) t.qL.length rc7) S ?_
  refine tF 1 rfl rfl S ?_
  refine tL 2 rfl rfl (fun _ h=>h.cell 0 rfl rfl) S ?_
  refine rtp 3 (.slice (aa b47 0) t.qL.length rc7) S ?_
  refine tF 4 rfl rfl S ?_
  refine tL 5 rfl rfl (fun _ h=>h.cell 0 rfl rfl) S ?_
  refine tI 6 rfl rfl rfl S ?_
  refine tF 8 rfl rfl S ?_
  refine tL 9 rfl rfl (fun _ h=>h.cell 0 rfl rfl) S ?_
  refine rtp 10 (.slice (aa b5 0) s.qw.length s.qw.length) S ?_
  refine rtp 11 (yI ((appls s t)[k]!)) S ?_
  refine tI 12 rfl rfl rfl S ?_
  refine tL 13 rfl rfl (fun _ h=>h.rowInt 2 rfl (iv:=(appls s t)[k]!) (i:=(((appls s t)[k]!).toNat)) qf qf) S ?_
  refine rt 14 (yI (-(((firstTo s t m s.qw.length).set (((appls s t)[k]!).toNat) (Qp ((s.qw[((appls s t)[k]!).toNat]!).xn) ((vX s t m)[((s.qw[((appls s t)[k]!).toNat]!).qE).toNat]!)))[((appls s t)[k]!).toNat]!))) (y_neg (((firstTo s t m s.qw.length).set (((appls s t)[k]!).toNat) (Qp ((s.qw[((appls s t)[k]!).toNat]!).xn) ((vX s t m)[((s.qw[((appls s t)[k]!).toNat]!).qE).toNat]!)))[((appls s t)[k]!).toNat]!) rfl qf) S ?_
  refine ro 7 rfl ?_
  obtain ⟨a58,c59,G60,s61,h62,H⟩:=H.jf 2 rfl 8 rfl (iv:=(s.qw[((appls s t)[k]!).toNat]!).qE) (((s.qw[((appls s t)[k]!).toNat]!).qE).toNat) qf qf
  refine zk (.slice a58 (((vX s t m)[((s.qw[((appls s t)[k]!).toNat]!).qE).toNat]!).length) c59) isAgg24 rfl (h62) (⟨H.pick [0,1,3,4,5] [1,2,3,4,5,6,7,8,9,10,11,12,13,14],(ro 15 rfl ?_)⟩)
  obtain ⟨u1,u2,u5⟩:=firstR_row (c:=(s.qw[((appls s t)[k]!).toNat]!).qE.toNat) p0 p1 (show m≤_ by omega) qk
  have u3:=bn1.len
  have u4:=bn1.je (t:= -(((firstTo s t m s.qw.length).set ((appls s t)[k]!).toNat (Qp (s.qw[((appls s t)[k]!).toNat]!).xn ((vX s t m)[(s.qw[((appls s t)[k]!).toNat]!).qE.toNat]!)))[((appls s t)[k]!).toNat]!)) qf
  have sz63:=H.base.size
  refine oc (QW _ ((vX s t m)[((s.qw[((appls s t)[k]!).toNat]!).qE).toNat]!) ((s.qw[((appls s t)[k]!).toNat]!).xn) (-(((firstTo s t m s.qw.length).set (((appls s t)[k]!).toNat) (Qp ((s.qw[((appls s t)[k]!).toNat]!).xn) ((vX s t m)[((s.qw[((appls s t)[k]!).toNat]!).qE).toNat]!)))[((appls s t)[k]!).toNat]!)) (H.get 0 rfl).1 (H.get 2 rfl).1 qg qg qg) ?_
  rintro v68 w66 r68 x67
  replace H:=H.vG x67 r68
  obtain ⟨a69,c70,rfl,hc71,hm72⟩:=H.yB 0 rfl
  refine ⟨H.pick [1,2,4,5,6] [1,2,3,4,5,6,7,8,9,10,11,12,13,14],(tI 16 rfl rfl rfl (H.pick [1,2,4,5,6] [1,2,3,4,5,6,7,8,9,10,11,12,13,14]) ?_)⟩
  refine ro 17 rfl ?_
  obtain ⟨G74,N,hn75,H⟩:=H.zX 0 rfl N (H.jC [])
  refine jq false H 3 rfl 10 rfl (.slice a69 ((yf ((vX s t m)[((s.qw[((appls s t)[k]!).toNat]!).qE).toNat]!) ((s.qw[((appls s t)[k]!).toNat]!).xn) (-(((firstTo s t m s.qw.length).set (((appls s t)[k]!).toNat) (Qp ((s.qw[((appls s t)[k]!).toNat]!).xn) ((vX s t m)[((s.qw[((appls s t)[k]!).toNat]!).qE).toNat]!)))[((appls s t)[k]!).toNat]!))).length) c70) 0 rfl rfl sizeOf24 rfl rfl (i:=(((s.qw[((appls s t)[k]!).toNat]!).qE).toNat)) qf qf qm fun w73 xs76 F77 hs78 H=>⟨H.pick [1,2,4,5,6] [3,4,5,6,7,8,9,10,11,12,13,14,15,16],(xh qh (b_n (t_n (zJ ?_))))⟩
  refine sw (vk k 1 rfl rfl qf (sp (yI (k+1)) (zK ?_)))
  refine xH (m' :=(((appls s t).length) - ((k+1):Int)).toNat) qf ⟨_,k+1,((vX s t m).set (((s.qw[((appls s t)[k]!).toNat]!).qE).toNat) (yf ((vX s t m)[((s.qw[((appls s t)[k]!).toNat]!).qE).toNat]!) ((s.qw[((appls s t)[k]!).toNat]!).xn) (-(((firstTo s t m s.qw.length).set (((appls s t)[k]!).toNat) (Qp ((s.qw[((appls s t)[k]!).toNat]!).xn) ((vX s t m)[((s.qw[((appls s t)[k]!).toNat]!).qE).toNat]!)))[((appls s t)[k]!).toNat]!)))),xs76,F77,((firstTo s t m s.qw.length).set (((appls s t)[k]!).toNat) (Qp ((s.qw[((appls s t)[k]!).toNat]!).xn) ((vX s t m)[((s.qw[((appls s t)[k]!).toNat]!).qE).toNat]!))),((appls s t)[k]!).toNat+1,uE6,?_,?_,?_,?_,?_,rfl,(N.pick []),H.pick [2,3,4,5,6] [0,12,13,14,15,16]⟩
  · exact firstR_step a1 a2 a3 a4 ex
  · exact firstTo_set a1 a2 a4 (firstC_step a1 a3 a4)
  · omega
  · exact a5
  · exact a2
 refine zx4 (zcr (sps [.slice (aa b5 0) s.qw.length s.qw.length,.slice (aa b5 0) s.qw.length s.qw.length] (zjr (ret1 (.slice (aa b5 0) s.qw.length s.qw.length) rfl rfl ⟨_,rfl,?_,H.base⟩))))
 rw [firstTo_end hn (appls_end hm hn qf)] at H
 exact ⟨(aa b5 0),s.qw.length,s.qw.length,rfl,N,H.pick [2] []⟩
theorem QT (w:World) (s:qy) {qC:yOA} {xk:yLN} {qJ:yOA} {xN:yLN} (qW:qR.rep w xk [.slice qC s.qx.length qB] s.qx) (xG:qR.rep w xN [.slice qJ s.qw.length qG] s.qw):Calls Try.prog 87 #[.agg #[yI s.qV,.slice qC s.qx.length qB,.slice qJ s.qw.length qG]] w (Ret (fun v w' =>v=yI s.qx.length) w):=by
 refine en func87 ntmps87 ?_
 have H:=((St.start w).arg xG).arg qW
 have zY:=qX qW
 have jw:=qX xG
 clear qW xG
 have N:=Fresh.nil w.heap.size
 refine zcr (sw (vP H (yS s qC qB qJ qG) fun b1 w2 H=>sp (yI 0) (zjc (oF rfl (oL rfl (H.cell 0 rfl rfl) (oN rfl (sp (yI s.qx.length) (zjr (ret1 (yI s.qx.length) rfl rfl ⟨_,rfl,?_,H.base⟩)))))))))
 rfl

theorem step_ok (w:World) (s:qy) (t:qA) (counts:yLI) {qC:yOA} {xk:yLN} {qJ:yOA} {xN:yLN} {qU:yOA} {zF:yLN} {xE:yOA} {vF:yLN} {qN:yOA} {zh:yLN} {acounts:yOA} {Fcounts:yLN} (qW:qR.rep w xk [.slice qC s.qx.length qB] s.qx) (xG:qR.rep w xN [.slice qJ s.qw.length qG] s.qw) (zC:qR.rep w zF [.slice qU t.qF.length qQ] t.qF) (vz:qR.rep w vF [.slice xE t.qL.length xu] t.qL) (zn:qR.rep w zh [.slice qN t.qH.length qM] t.qH) (hcounts:qR.rep w Fcounts [.slice acounts counts.length ccounts] counts) (p0:ve s) (p1:xP s t) (p2:CntOk s counts) (p3:IsCh s t counts):Calls Try.prog 46 #[.agg #[yI s.qV,.slice qC s.qx.length qB,.slice qJ s.qw.length qG],.agg #[.slice qU t.qF.length qQ,.slice xE t.qL.length xu,.slice qN t.qH.length qM],.slice acounts counts.length ccounts] w (Ret (fun v w' =>∃ (ra0Alive:yOA) (rn0Alive:Nat) (rc0Alive:Nat) (ra0Bags:yOA) (rn0Bags:Nat) (rc0Bags:Nat) (rx0Bags:List Value) (rF0Bags:yLN) (ra0Around:yOA) (rn0Around:Nat) (rc0Around:Nat),v=.tuple #[.agg #[.slice ra0Alive rn0Alive rc0Alive,.slice ra0Bags rn0Bags rc0Bags,.slice ra0Around rn0Around rc0Around],yI ((y5 s t counts).2)]∧Fresh w.heap.size [rF0Bags]∧St w w' [rr ra0Alive rn0Alive rc0Alive 4 1 ((((y5 s t counts).1).qF).map (Value.bool)),rr ra0Bags rn0Bags rc0Bags 24 1 rx0Bags,rr ra0Around rn0Around rc0Around 2 1 ((((y5 s t counts).1).qH).map (Value.int .i64))] [xe true rF0Bags rx0Bags (((y5 s t counts).1).qL)]) w):=by
 refine en func46 ntmps46 ?_
 have H:=((((((St.start w).arg hcounts).arg zn).arg vz).arg zC).arg xG).arg qW
 have zY:=qX qW
 have jw:=qX xG
 have Qq:=qX zC
 have nhtBags:=qX vz
 have yM:=qX zn
 have nhcounts:=qX hcounts
 clear qW xG zC vz zn hcounts
 have N:=Fresh.nil w.heap.size
 have p5:=p0.2.1
 have p6:=p2.1
 have p7:=p1.2.1
 have p8:=kinds_le p0
 have p9:=p0.1.2.1
 have p11:xJ s=s.qx.length:=rfl
 have p12:=p1.1
 have p15:=p0.1
 have p16:=p0.1.1
 have p17:=p1.around.1
 refine zcr (sw (vP H (yS s qC qB qJ qG) fun b1 w2 H=>sw (vP H (yT t qU qQ xE xu qN qM) fun b3 w4 H=>sw (xx H ti31 [yN,yN,yN] fun b5 w6 H=>sp (yI 0) (zjn (zx ?_))))))
 refine c_cut (fun ρ w11=>∃ (zB:Env) (a7:yOA) (c8:Nat) (rx9:List Value) (rF10:yLN),ρ=upd (upd (upd (upd (upd zB 2 (.slice acounts counts.length ccounts)) 3 (pp b1 0)) 4 (pp b3 0)) 6 (pp b5 0)) 8 (.slice a7 (t.qL.length+1) c8)∧Fresh w.heap.size []∧St w w11 [rr a7 (t.qL.length+1) c8 24 1 (rx9++[.slice qN t.qH.length qM]),.box b5 [yN,yN,yN] 31,.box b3 (yT t qU qQ xE xu qN qM) 31,.box b1 (yS s qC qB qJ qG) 27] [xe false (rF10++zh) (rx9++[.slice qN t.qH.length qM]) (t.qL++[t.qH]),sF false xk qC qB s.qx,sF false xN qJ qG s.qw,sF false zF qU qQ t.qF,sF false vF xE xu t.qL,sF false zh qN qM t.qH,sF false Fcounts acounts ccounts counts]) ?_ ?_
 ·skip
  refine y9 rfl H fun H=>tF 0 rfl rfl H ?_
  refine tL 1 rfl rfl (fun _ h=>h.cell 1 rfl rfl) H ?_
  refine tF 3 rfl rfl H ?_
  refine tL 4 rfl rfl (fun _ h=>h.cell 1 rfl rfl) H ?_
  refine zH [2,5] qh qm (zW rfl ?_ (zW rfl ?_ zI))
  ·skip
   have sz16:=H.base.size
   refine oc (cloneSS_ok _ t.qL (H.get 3 rfl).1 qg) ?_
   rintro _ w14 ⟨ra13,rn13,rc13,rx13,rF13,rfl,hG18,K⟩ _
   replace H:=H.mergeIn K 3 rfl hG18
   obtain rfl:=H.zy (α:=yLI) 0 rfl 0 rfl qj
   refine ⟨H.pick [1,2,3] [1,2,3,4,5,6],(ro 5 rfl (vV H underlying29 ti24 [.slice qN t.qH.length qM] fun b19 w20 H=>⟨H.pick [2,3,4] [1,2,3,4,5,6],(ro 6 rfl (vW H 1 rfl 0 rfl underlying29 ti24 rfl qj rfl rfl rfl (by simp [Value.oneCell',Value.cells]) qp qf fun a21 c22 w23 H=>?_))⟩))⟩
   replace H:=H.repsSnoc 0 rfl 5 rfl
   refine ⟨H.pick [2,3,4] [2,3,4,5,6,7],(rtp 7 (.slice a21 (t.qL.length+1) c22) (H.pick [2,3,4] [2,3,4,5,6,7]) ?_)⟩
   refine xh qh ((meet ⟨_,a21,c22,rx13,rF13,uE5,N,H.pick [1,2,3,4] [0,2,3,4,5,6,7]⟩))
  refine vV H underlying29 ti24 [.slice qN t.qH.length qM] fun b24 w25 H=>⟨H.pick [1,2,3] [0,1,2,3,4,5],(ro 2 rfl ?_)⟩
  have sz29:=H.base.size
  refine oc (cloneSS_ok _ t.qL (H.get 3 rfl).1 qg) ?_
  rintro _ w27 ⟨ra26,rn26,rc26,rx26,rF26,rfl,hG31,K⟩ _
  replace H:=H.mergeIn K 3 rfl hG31
  obtain rfl:=H.zy (α:=yLI) 0 rfl 0 rfl qj
  refine ⟨H.pick [2,3,4] [1,2,3,4,5,6],(ro 6 rfl (vW H 0 rfl 1 rfl underlying29 ti24 rfl qj rfl rfl rfl (by simp [Value.oneCell',Value.cells]) qp qf fun a32 c33 w34 H=>?_))⟩
  replace H:=H.repsSnoc 0 rfl 5 rfl
  refine ⟨H.pick [2,3,4] [2,3,4,5,6,7],(rtp 7 (.slice a32 (t.qL.length+1) c33) (H.pick [2,3,4] [2,3,4,5,6,7]) ?_)⟩
  refine xh qh ((meet ⟨_,a32,c33,rx26,rF26,uE5,N,H.pick [0,2,3,4] [0,2,3,4,5,6,7]⟩))
 clear H N
 rintro ρ w35 ⟨zB,a7,c8,rx9,rF10,rfl,N,H⟩
 refine t_n (zcr (oF rfl (oL rfl (H.cell 3 rfl rfl) (oN rfl (sw (o_makeB H underlying28 ti4 s.qx.length rfl rfl qf qf qf fun b36 w37 H=>sp (.slice (aa b36 0) s.qx.length s.qx.length) (zjcc (sp (.slice acounts counts.length ccounts) (oN rfl (sp (yI 0) (zjn (xq ?_))))))))))))
 refine vg (fun m' ρ w38=>∃ (zB:Env) (i:Nat) (melts:List Bool) (bags:yLL) (x_bags:List Value) (F_bags:yLN),ρ=upd (upd (upd (upd (upd (upd (upd (upd zB 3 (pp b1 0)) 4 (pp b3 0)) 6 (pp b5 0)) 8 (.slice a7 (t.qL.length+1) c8)) 9 (.slice (aa b36 0) s.qx.length s.qx.length)) 26 (.slice acounts counts.length ccounts)) 27 (yI counts.length)) 28 (yI i)∧melts=jA s counts s.qx.length i∧((i:Int)≤counts.length)∧(Ent (s.qx.length+1) (xY s) (fun p q=>base0 s t p q+allS s t counts i p q) (20000000+6000000 * i) bags)∧(bags.length=s.qx.length+1)∧m' =(counts.length - (i:Int)).toNat∧Fresh w.heap.size []∧St w w38 [rr (aa b36 0) s.qx.length s.qx.length 4 1 (melts.map (Value.bool)),rr a7 (t.qL.length+1) c8 24 1 x_bags,.box b5 [yN,yN,yN] 31,.box b3 (yT t qU qQ xE xu qN qM) 31,.box b1 (yS s qC qB qJ qG) 27] [xe false F_bags x_bags bags,sF false xk qC qB s.qx,sF false xN qJ qG s.qw,sF false zF qU qQ t.qF,sF false vF xE xu t.qL,sF false zh qN qM t.qH,sF false Fcounts acounts ccounts counts]) ((counts.length - (0:Int)).toNat) ⟨_,0,(List.replicate s.qx.length (false)),(t.qL++[t.qH]),rx9++[.slice qN t.qH.length qM],(rF10++zh),uE8,(by exact meltsL_zero s counts _),qf,(by exact (start_ent p1).to (fun _ _=>rfl) qf),(by simp;omega),rfl,N,H⟩ ?_
 clear H N
 rintro m' ρ w39 ⟨zB,i,melts,bags,x_bags,F_bags,rfl,rfl,i0,E_bags,z_bags,rfl,N,H⟩
 have hn_melts:=H.rowNB 0 rfl
 have hn_bags:=H.zy (α:=yLI) 1 rfl 0 rfl qj
 refine zcr (sp (.bool (decide ((i:Int) < counts.length))) (zjn (zx (cD rfl (fun h40=>?_) (fun h40=>?_)))))
 ·skip
  have q:=p0.rule (i:=i) qf
  have qc:=q.1
  have qk:=q.cell
  have qr:=q.2.1
  have bn1:=q.2.2.2.2.1
  have bn2:=q.2.2.2.2.2.2.2.1
  have bn3:=q.2.2.2.2.2.2.2.2.1
  have ln1:=bn1.len
  have ln2:=bn2.len
  have ln3:=bn3.len
  have p10:=p2.bd (i:=i) qf
  have qn:=q.2.2.2.1
  have ml:=meltsL_len s counts s.qx.length i
  refine xB (t_n (zx (xq (zcr (sp (yI i) ?_)))))
  obtain ⟨b41,o42,rfl⟩:=H.addr 6 rfl qf
  refine oI rfl rfl (oL rfl (H.jB 6 rfl i qf qf) (sps [yI i,yI (counts[i]!)] (zjc (oF rfl (oL rfl (H.cell 4 rfl rfl) (sp (yI i) ?_))))))
  obtain ⟨b44,o45,rfl⟩:=H.addr 2 rfl qf
  obtain ⟨yV,yQ,Fe47Need,yY,yU,Fe47Have,yX,yR,Fe47Lack,yK,yH,Fe47Here,Qb,y8,Fe47Out,yJ,yG,Fe47Into,H⟩:=H.Qm 2 rfl i i qf qf qf
  refine oI rfl rfl (sw (zi [yI ((s.qw[i]!).qE),yI ((s.qw[i]!).zS),.slice yV (((s.qw[i]!).xn).length) yQ,.slice yY (((s.qw[i]!).zf).length) yU,.slice yX (((s.qw[i]!).x8).length) yR,.slice yK (((s.qw[i]!).xW).length) yH,.slice Qb (((s.qw[i]!).vC).length) y8,.slice yJ (((s.qw[i]!).qK).length) yG,.bool ((s.qw[i]!).xU)] isAgg51 sizeOf51 rfl (qI (H.get 6 rfl) 0 9) ?_))
  refine sw (xx H ti51 [yI 0,yI 0,yN,yN,yN,yN,yN,yN,.bool false] fun b48 w49 H=>sw (xf H 0 [yI ((s.qw[i]!).qE),yI ((s.qw[i]!).zS),.slice yV (((s.qw[i]!).xn).length) yQ,.slice yY (((s.qw[i]!).zf).length) yU,.slice yX (((s.qw[i]!).x8).length) yR,.slice yK (((s.qw[i]!).xW).length) yH,.slice Qb (((s.qw[i]!).vC).length) y8,.slice yJ (((s.qw[i]!).qK).length) yG,.bool ((s.qw[i]!).xU)] sizeOf51 fun w50 H=>?_))
  refine zjn (zx ?_)
  refine yE rfl H [0,1,3,4,5] fun H=>?_
  have S:=H.jm [0,1,3,4,5] [0,1,2,3,4,5,6,7,8,9,10,11,12,13]
  refine rtp 0 (.slice a7 (t.qL.length+1) c8) S ?_
  refine tF 1 rfl rfl S ?_
  refine tL 2 rfl rfl (fun _ h=>h.cell 0 rfl rfl) S ?_
  refine rtp 3 (.slice a7 (t.qL.length+1) c8) S ?_
  refine tF 4 rfl rfl S ?_
  refine tL 5 rfl rfl (fun _ h=>h.cell 0 rfl rfl) S ?_
  obtain ⟨b52,rfl⟩:=H.Qv 2 rfl qf
  have S:=H.jm [0,1,3,4,5] [0,1,2,3,4,5,6,7,8,9,10,11,12,13]
  refine tI 6 rfl rfl rfl S ?_
  refine tF 8 rfl rfl S ?_
  refine tL 9 rfl rfl (fun _ h=>h.cell 0 rfl rfl) S ?_
  refine rtp 10 (yI (counts[i]!)) S ?_
  refine rt 11 (yI (-(counts[i]!))) (y_neg (counts[i]!) rfl qf) S ?_
  refine ro 7 rfl ?_
  obtain ⟨a53,c54,G55,s56,h57,H⟩:=H.jf 2 rfl 7 rfl (iv:=(s.qw[i]!).qE) (((s.qw[i]!).qE).toNat) qf qf
  refine zk (.slice a53 ((bags[((s.qw[i]!).qE).toNat]!).length) c54) isAgg24 rfl (h57) (⟨H.pick [0,1,3,4,5] [1,2,3,4,5,6,7,8,9,10,11,12,13,14],(ro 12 rfl ?_)⟩)
  obtain ⟨u1,u2⟩:=E_bags.sh.row (c:=((s.qw[i]!).qE).toNat) qf p8 qf
  have u4:=(by first | exact bn1.je qf | exact bn2.je qf | exact bn3.je qf | exact bn4.je qf:SmallT ((s.qw[i]!).xn) (-(counts[i]!)))
  have sz58:=H.base.size
  refine oc (QW _ (bags[((s.qw[i]!).qE).toNat]!) ((s.qw[i]!).xn) (-(counts[i]!)) (H.get 0 rfl).1 (H.get 1 rfl).1 qg qg qg) ?_
  rintro v63 w61 r63 x62
  replace H:=H.vG x62 r63
  obtain ⟨a64,c65,rfl,hc66,hm67⟩:=H.yB 0 rfl
  refine ⟨H.pick [1,2,4,5,6] [1,2,3,4,5,6,7,8,9,10,11,12,13,14],(tI 13 rfl rfl rfl (H.pick [1,2,4,5,6] [1,2,3,4,5,6,7,8,9,10,11,12,13,14]) ?_)⟩
  refine ro 14 rfl ?_
  obtain ⟨G69,N,hn70,H⟩:=H.zX 0 rfl N (H.jC [])
  refine jq false H 3 rfl 9 rfl (.slice a64 ((yf (bags[((s.qw[i]!).qE).toNat]!) ((s.qw[i]!).xn) (-(counts[i]!))).length) c65) 0 rfl rfl sizeOf24 rfl rfl (i:=(((s.qw[i]!).qE).toNat)) qf qf qm fun w68 xs71 F72 hs73 H=>⟨H.pick [1,2,4,5,6] [3,4,5,6,7,8,9,10,11,12,13,14,15,16],(xh qh (t_n (zcr (sw (zi [yI s.qV,.slice qC s.qx.length qB,.slice (aa b44 o45) s.qw.length qG] isAgg27 sizeOf27 rfl (qI (H.cells 6 rfl) 0 3) ?_)))))⟩
  refine sw (zi (yT t qU qQ xE xu qN qM) isAgg31 sizeOf31 rfl (qI (H.cells 5 rfl) 0 3) (sp (.slice (aa b52 0) (t.qL.length+1) c8) ?_))
  refine sw (zi [yI ((s.qw[i]!).qE),yI ((s.qw[i]!).zS),.slice yV (((s.qw[i]!).xn).length) yQ,.slice yY (((s.qw[i]!).zf).length) yU,.slice yX (((s.qw[i]!).x8).length) yR,.slice yK (((s.qw[i]!).xW).length) yH,.slice Qb (((s.qw[i]!).vC).length) y8,.slice yJ (((s.qw[i]!).qK).length) yG,.bool ((s.qw[i]!).xU)] isAgg51 sizeOf51 rfl (qI (H.cells 1 rfl) 0 9) (sp (yI (counts[i]!)) ?_))
  obtain ⟨bg74,e_bg74⟩:∃ z,z=(bags.set (((s.qw[i]!).qE).toNat) (yf (bags[((s.qw[i]!).qE).toNat]!) ((s.qw[i]!).xn) (-(counts[i]!)))):=⟨_,rfl⟩
  rw [← e_bg74] at H
  have E_bg74:=Ent.add (D:=1000000) E_bags e_bg74 qf (by first | exact bn1.mul qf | exact bn2.mul qf | exact bn3.mul qf | exact bn4.mul qf) qf
  have z_bg74:=E_bg74.sh.1
  have E_cur:=E_bg74
  refine sw (vS #[.agg #[yI s.qV,.slice qC s.qx.length qB,.slice (aa b44 o45) s.qw.length qG],.agg #[.slice qU t.qF.length qQ,.slice xE t.qL.length xu,.slice qN t.qH.length qM],.slice (aa b52 0) (t.qL.length+1) c8,.agg #[yI ((s.qw[i]!).qE),yI ((s.qw[i]!).zS),.slice yV (((s.qw[i]!).xn).length) yQ,.slice yY (((s.qw[i]!).zf).length) yU,.slice yX (((s.qw[i]!).x8).length) yR,.slice yK (((s.qw[i]!).xW).length) yH,.slice Qb (((s.qw[i]!).vC).length) y8,.slice yJ (((s.qw[i]!).qK).length) yG,.bool ((s.qw[i]!).xU)],yI (counts[i]!)] rfl rfl call86 ?_)
  refine en func86 ntmps86 ?_
  refine zcr (sw (vP H [yI s.qV,.slice qC s.qx.length qB,.slice (aa b44 o45) s.qw.length qG] fun b75 w76 H=>sw (vP H (yT t qU qQ xE xu qN qM) fun b77 w78 H=>sw (vP H [.slice (aa b52 0) (t.qL.length+1) c8] fun b79 w80 H=>?_))))
  refine sw (vP H [yI ((s.qw[i]!).qE),yI ((s.qw[i]!).zS),.slice yV (((s.qw[i]!).xn).length) yQ,.slice yY (((s.qw[i]!).zf).length) yU,.slice yX (((s.qw[i]!).x8).length) yR,.slice yK (((s.qw[i]!).xW).length) yH,.slice Qb (((s.qw[i]!).vC).length) y8,.slice yJ (((s.qw[i]!).qK).length) yG,.bool ((s.qw[i]!).xU)] fun b81 w82 H=>sw (vP H [yI (counts[i]!)] fun b83 w84 H=>zjc ?_))
  refine sps [.func (.func 113) #[] #[pp b79 0,pp b83 0],.func (.func 113) #[] #[pp b79 0,pp b83 0]] (zjc (sp (.func (.func 113) #[] #[pp b79 0,pp b83 0]) (oF rfl (oL rfl (H.cell 1 rfl rfl) (oF rfl (oL rfl (H.cell 1 rfl rfl) (sw (vS #[yI ((s.qw[i]!).qE),.slice yK (((s.qw[i]!).xW).length) yH,pp b79 0,pp b83 0] rfl rfl call113 (en func113 ntmps113 ?_)))))))))
  refine yE rfl H [0,1,2,3,4,5,6,7,9,10,11] fun H=>?_
  have S:=H.jm [0,1,2,3,4,5,6,7,9,10,11] [0,1,2,3,4,5,6,7,8,9,10,11,12,13,14,15,16]
  refine tL 0 rfl rfl (fun _ h=>h.cell 2 rfl rfl) S ?_
  refine rtp 1 (yI ((s.qw[i]!).qE)) S ?_
  refine tL 2 rfl rfl (fun _ h=>h.cell 2 rfl rfl) S ?_
  refine rtp 3 (yI ((s.qw[i]!).qE)) S ?_
  refine tI 4 rfl rfl rfl S ?_
  refine rtp 6 (.slice yK (((s.qw[i]!).xW).length) yH) S ?_
  refine tL 7 rfl rfl (fun _ h=>h.cell 0 rfl rfl) S ?_
  refine ro 5 rfl ?_
  obtain ⟨a86,c87,G88,s89,h90,H⟩:=H.jf 8 rfl 0 rfl (iv:=(s.qw[i]!).qE) (((s.qw[i]!).qE).toNat) qf qf
  refine zk (.slice a86 ((bg74[((s.qw[i]!).qE).toNat]!).length) c87) isAgg24 rfl (h90) (⟨H.pick [0,1,2,3,4,5,6,7,9,10,11] [1,2,3,4,5,6,7,8,9,10,11,12,13,14,15,16,17],(ro 8 rfl ?_)⟩)
  obtain ⟨u1,u2⟩:=E_bg74.sh.row (c:=((s.qw[i]!).qE).toNat) qf p8 qf
  have u4:=(by first | exact bn1.je qf | exact bn2.je qf | exact bn3.je qf | exact bn4.je qf:SmallT ((s.qw[i]!).xW) (counts[i]!))
  have sz91:=H.base.size
  have lt92:=H.ltN (L:=[G69]) [2]
  refine oc (QW _ (bg74[((s.qw[i]!).qE).toNat]!) ((s.qw[i]!).xW) (counts[i]!) (H.get 0 rfl).1 (H.get 7 rfl).1 qg qg qg) ?_
  rintro v96 w94 r96 x95
  replace H:=H.vG x95 r96
  obtain ⟨a97,c98,rfl,hc99,hm100⟩:=H.yB 0 rfl
  refine ⟨H.pick [1,2,3,4,5,6,7,8,10,11,12] [1,2,3,4,5,6,7,8,9,10,11,12,13,14,15,16,17],(tI 9 rfl rfl rfl (H.pick [1,2,3,4,5,6,7,8,10,11,12] [1,2,3,4,5,6,7,8,9,10,11,12,13,14,15,16,17]) ?_)⟩
  refine ro 10 rfl ?_
  obtain ⟨G102,N,hn103,H⟩:=H.zX 0 rfl N (H.jC [2])
  refine jq false H 9 rfl 2 rfl (.slice a97 ((yf (bg74[((s.qw[i]!).qE).toNat]!) ((s.qw[i]!).xW) (counts[i]!)).length) c98) 0 rfl rfl sizeOf24 rfl rfl (i:=(((s.qw[i]!).qE).toNat)) qf qf qm fun w101 xs104 F105 hs106 H=>⟨H.pick [1,2,3,4,5,6,7,8,10,11,12] [3,4,5,6,7,8,9,10,11,12,13,14,15,16,17,18,19],(xh qh ((ret0 rfl ⟨_,rfl,?_⟩)))⟩
  replace H:=H.erases [6,0]
  dsimp only [jg,List.eraseIdx] at H
  obtain ⟨bg107,e_bg107⟩:∃ z,z=(bg74.set (((s.qw[i]!).qE).toNat) (yf (bg74[((s.qw[i]!).qE).toNat]!) ((s.qw[i]!).xW) (counts[i]!))):=⟨_,rfl⟩
  rw [← e_bg107] at H
  have E_bg107:=Ent.add (D:=1000000) E_bg74 e_bg107 qf (by first | exact bn1.mul qf | exact bn2.mul qf | exact bn3.mul qf | exact bn4.mul qf) qf
  have z_bg107:=E_bg107.sh.1
  have E_cur:=E_bg107
  refine zjcc (sw (zi [yI s.qV,.slice qC s.qx.length qB,.slice (aa b44 o45) s.qw.length qG] isAgg27 sizeOf27 rfl (qI (H.cells 4 rfl) 0 3) (sw (zi (yT t qU qQ xE xu qN qM) isAgg31 sizeOf31 rfl (qI (H.cells 3 rfl) 0 3) (oF rfl (oL rfl (H.cell 1 rfl rfl) ?_))))))
  have qc' :=qc
  refine sw (oq (parentNow_ok _ s t ((s.qw[i]!).qE) (H.get 14 rfl).1 (H.get 15 rfl).1 (H.get 16 rfl).1 (H.get 17 rfl).1 (H.get 18 rfl).1 qg qg qg) H fun w109 H=>?_)
  have pl:=parentNow_lt p15 p1.2.2.1 qc
  refine sp (yI (qZ s t ((s.qw[i]!).qE))) (zjc (sps [yI (qZ s t ((s.qw[i]!).qE)),.bool (decide ((qZ s t ((s.qw[i]!).qE):Int)≥0))] (zjn (cD rfl (fun h111=>?_) (fun h111=>?_)))))
  ·skip
   have po:=outPl_in (r:=s.qw[i]!) p15 ‹_›
   refine zJ (sps [.func (.func 113) #[] #[pp b79 0,pp b83 0],yI (qZ s t ((s.qw[i]!).qE))] (oF rfl (oL rfl (H.cell 1 rfl rfl) (sw (vS #[yI (qZ s t ((s.qw[i]!).qE)),.slice Qb (((s.qw[i]!).vC).length) y8,pp b79 0,pp b83 0] rfl rfl call113 (en func113 ntmps113 ?_))))))
   refine yE rfl H [0,1,2,3,4,5,6,8,9,10] fun H=>?_
   have S:=H.jm [0,1,2,3,4,5,6,8,9,10] [0,1,2,3,4,5,6,7,8,9,10,11,12,13,14,15,16,17,18,19]
   refine tL 0 rfl rfl (fun _ h=>h.cell 2 rfl rfl) S ?_
   refine rtp 1 (yI (qZ s t ((s.qw[i]!).qE))) S ?_
   refine tL 2 rfl rfl (fun _ h=>h.cell 2 rfl rfl) S ?_
   refine rtp 3 (yI (qZ s t ((s.qw[i]!).qE))) S ?_
   refine tI 4 rfl rfl rfl S ?_
   refine rtp 6 (.slice Qb (((s.qw[i]!).vC).length) y8) S ?_
   refine tL 7 rfl rfl (fun _ h=>h.cell 0 rfl rfl) S ?_
   refine ro 5 rfl ?_
   obtain ⟨a113,c114,G115,s116,h117,H⟩:=H.jf 7 rfl 0 rfl (iv:=qZ s t ((s.qw[i]!).qE)) ((qZ s t ((s.qw[i]!).qE)).toNat) qf qf
   refine zk (.slice a113 ((bg107[(qZ s t ((s.qw[i]!).qE)).toNat]!).length) c114) isAgg24 rfl (h117) (⟨H.pick [0,1,2,3,4,5,6,8,9,10] [1,2,3,4,5,6,7,8,9,10,11,12,13,14,15,16,17,18,19,20],(ro 8 rfl ?_)⟩)
   obtain ⟨u1,u2⟩:=E_bg107.sh.row (c:=(qZ s t ((s.qw[i]!).qE)).toNat) qf p8 qf
   have u4:=(by first | exact bn1.je qf | exact bn2.je qf | exact bn3.je qf | exact bn4.je qf:SmallT ((s.qw[i]!).vC) (counts[i]!))
   have sz118:=H.base.size
   have lt119:=H.ltN (L:=[G102,G69]) [2,5]
   refine oc (QW _ (bg107[(qZ s t ((s.qw[i]!).qE)).toNat]!) ((s.qw[i]!).vC) (counts[i]!) (H.get 0 rfl).1 (H.get 11 rfl).1 qg qg qg) ?_
   rintro v123 w121 r123 x122
   replace H:=H.vG x122 r123
   obtain ⟨a124,c125,rfl,hc126,hm127⟩:=H.yB 0 rfl
   refine ⟨H.pick [1,2,3,4,5,6,7,9,10,11] [1,2,3,4,5,6,7,8,9,10,11,12,13,14,15,16,17,18,19,20],(tI 9 rfl rfl rfl (H.pick [1,2,3,4,5,6,7,9,10,11] [1,2,3,4,5,6,7,8,9,10,11,12,13,14,15,16,17,18,19,20]) ?_)⟩
   refine ro 10 rfl ?_
   obtain ⟨G129,N,hn130,H⟩:=H.zX 0 rfl N (H.jC [2,5])
   refine jq false H 8 rfl 2 rfl (.slice a124 ((yf (bg107[(qZ s t ((s.qw[i]!).qE)).toNat]!) ((s.qw[i]!).vC) (counts[i]!)).length) c125) 0 rfl rfl sizeOf24 rfl rfl (i:=((qZ s t ((s.qw[i]!).qE)).toNat)) qf qf qm fun w128 xs131 F132 hs133 H=>⟨H.pick [1,2,3,4,5,6,7,9,10,11] [3,4,5,6,7,8,9,10,11,12,13,14,15,16,17,18,19,20,21,22],(xh qh ((ret0 rfl ⟨_,rfl,?_⟩)))⟩
   replace H:=H.erases [0]
   dsimp only [jg,List.eraseIdx] at H
   obtain ⟨bg134,e_bg134⟩:∃ z,z=(bg107.set ((qZ s t ((s.qw[i]!).qE)).toNat) (yf (bg107[(qZ s t ((s.qw[i]!).qE)).toNat]!) ((s.qw[i]!).vC) (counts[i]!))):=⟨_,rfl⟩
   rw [← e_bg134] at H
   have E_bg134:=Ent.add (D:=1000000) E_bg107 e_bg134 qf (by first | exact bn1.mul qf | exact bn2.mul qf | exact bn3.mul qf | exact bn4.mul qf) qf
   have z_bg134:=E_bg134.sh.1
   have E_cur:=E_bg134
   refine zjc (oF rfl (oL rfl (H.cell 1 rfl rfl) (oN rfl (sp (yI 0) (zjn (xq ?_))))))
   refine vg (fun m' ρ w135=>∃ (zB:Env) (k:Nat) (bags_1:yLL) (jK:List Value) (jL:yLN),ρ=upd (upd (upd (upd zB 10 (.func (.func 113) #[] #[pp b79 0,pp b83 0])) 40 (.slice yJ (((s.qw[i]!).qK).length) yG)) 41 (yI (((s.qw[i]!).qK).length))) 42 (yI k)∧((k:Int)≤(((s.qw[i]!).qK).length))∧(Ent (s.qx.length+1) (xY s) (fun p q=>base0 s t p q+allS s t counts i p q+at' p (s.qw[i]!).qE.toNat (-(counts[i]!) * ((s.qw[i]!).xn)[q]!)+at' p (s.qw[i]!).qE.toNat ((counts[i]!) * ((s.qw[i]!).xW)[q]!)+at' p (outPl s t (s.qw[i]!)) ((counts[i]!) * ((s.qw[i]!).vC)[q]!)+intoF (s.qw[i]!) (counts[i]!) k p q) (23000000+6000000 * i+1000000 * k) bags_1)∧(bags_1.length=s.qx.length+1)∧m' =((((s.qw[i]!).qK).length) - (k:Int)).toNat∧Fresh w.heap.size [G69]∧St w w135 [.box b83 [yI (counts[i]!)] 2,.box b81 [yI ((s.qw[i]!).qE),yI ((s.qw[i]!).zS),.slice yV (((s.qw[i]!).xn).length) yQ,.slice yY (((s.qw[i]!).zf).length) yU,.slice yX (((s.qw[i]!).x8).length) yR,.slice yK (((s.qw[i]!).xW).length) yH,.slice Qb (((s.qw[i]!).vC).length) y8,.slice yJ (((s.qw[i]!).qK).length) yG,.bool ((s.qw[i]!).xU)] 51,.box b79 [.slice (aa b52 0) (t.qL.length+1) c8] 29,.box b77 (yT t qU qQ xE xu qN qM) 31,.box b75 [yI s.qV,.slice qC s.qx.length qB,.slice (aa b44 o45) s.qw.length qG] 27,.box b48 [yI ((s.qw[i]!).qE),yI ((s.qw[i]!).zS),.slice yV (((s.qw[i]!).xn).length) yQ,.slice yY (((s.qw[i]!).zf).length) yU,.slice yX (((s.qw[i]!).x8).length) yR,.slice yK (((s.qw[i]!).xW).length) yH,.slice Qb (((s.qw[i]!).vC).length) y8,.slice yJ (((s.qw[i]!).qK).length) yG,.bool ((s.qw[i]!).xU)] 51,rr (aa b36 0) s.qx.length s.qx.length 4 1 ((jA s counts s.qx.length i).map (Value.bool)),rr (aa b52 0) (t.qL.length+1) c8 24 1 jK,.box b5 [yN,yN,yN] 31,.box b3 (yT t qU qQ xE xu qN qM) 31,.box b1 [yI s.qV,.slice qC s.qx.length qB,.slice (aa b44 o45) s.qw.length qG] 27] [xe false jL jK bags_1,sF true G69 a64 c65 (yf (bags[((s.qw[i]!).qE).toNat]!) ((s.qw[i]!).xn) (-(counts[i]!))),sF false G55 a53 c54 (bags[((s.qw[i]!).qE).toNat]!),sF false Fe47Need yV yQ ((s.qw[i]!).xn),sF false Fe47Have yY yU ((s.qw[i]!).zf),sF false Fe47Lack yX yR ((s.qw[i]!).x8),sF false Fe47Here yK yH ((s.qw[i]!).xW),sF false Fe47Out Qb y8 ((s.qw[i]!).vC),sF false Fe47Into yJ yG ((s.qw[i]!).qK),atF b44 (o45+(i:Int).toNat * 9) [yI ((s.qw[i]!).qE),yI ((s.qw[i]!).zS),.slice yV (((s.qw[i]!).xn).length) yQ,.slice yY (((s.qw[i]!).zf).length) yU,.slice yX (((s.qw[i]!).x8).length) yR,.slice yK (((s.qw[i]!).xW).length) yH,.slice Qb (((s.qw[i]!).vC).length) y8,.slice yJ (((s.qw[i]!).qK).length) yG,.bool ((s.qw[i]!).xU)],sF false xk qC qB s.qx,sF false xN (aa b44 o45) qG s.qw,sF false zF qU qQ t.qF,sF false vF xE xu t.qL,sF false zh qN qM t.qH,sF false Fcounts (aa b41 o42) ccounts counts]) (((((s.qw[i]!).qK).length) - (0:Int)).toNat) ⟨_,0,bg134,xs131,F132,uE4,qf,(by exact E_cur.to (fun p q=>by rw [po];simp only [intoF];first | omega | (simp only [Int.toNat_natCast];omega)) qf),qf,rfl,(N.pick [2]),H.pick [0,1,2,3,4,5,6,7,8,9,10] [0,7,8,9,10,11,12,13,14,15,17,18,19,20,21,22]⟩ ?_
   clear H N
   rintro m' ρ w136 ⟨zB,k,bags_1,jK,jL,rfl,i0,E_bags_1,z_bags_1,rfl,N,H⟩
   have hn_bags:=H.zy (α:=yLI) 7 rfl 0 rfl qj
   refine zcr (sp (.bool (decide ((k:Int) < (((s.qw[i]!).qK).length)))) (zjn (zx (cD rfl (fun h137=>?_) (fun h137=>?_)))))
   ·skip
    have qi:=q.2.2.2.2.2.2.2.2.2.2 k qf
    have qi1:=qi.1
    have bn4:=qi.2.2.1
    have ln4:=bn4.len
    refine xB (t_n (zx (xq (zcr ?_))))
    obtain ⟨b138,o139,rfl⟩:=H.addr 8 rfl qf
    obtain ⟨ae141Bag,ce141Bag,Fe141Bag,H⟩:=H.yh 8 rfl k k qf qf qf
    refine oI rfl rfl (sw (zi [yI ((((s.qw[i]!).qK)[k]!).qE),.slice ae141Bag (((((s.qw[i]!).qK)[k]!).yx).length) ce141Bag] isAgg121 sizeOf121 rfl (qI (H.get 1 rfl) 0 2) (sw (xx H ti121 [yI 0,yN] fun b142 w143 H=>sw (xf H 0 [yI ((((s.qw[i]!).qK)[k]!).qE),.slice ae141Bag (((((s.qw[i]!).qK)[k]!).yx).length) ce141Bag] sizeOf121 fun w144 H=>zjn (zJ (sp (.func (.func 113) #[] #[pp b79 0,pp b83 0]) (oF rfl (oL rfl (H.cell 0 rfl rfl) (oF rfl (oL rfl (H.cell 0 rfl rfl) ?_)))))))))))
    refine sw (vS #[yI ((((s.qw[i]!).qK)[k]!).qE),.slice ae141Bag (((((s.qw[i]!).qK)[k]!).yx).length) ce141Bag,pp b79 0,pp b83 0] rfl rfl call113 (en func113 ntmps113 ?_))
    refine yE rfl H [0,1,2,3,4,5,6,7,9,10,11] fun H=>?_
    have S:=H.jm [0,1,2,3,4,5,6,7,9,10,11] [0,1,2,3,4,5,6,7,8,9,10,11,12,13,14,15,16,17]
    refine tL 0 rfl rfl (fun _ h=>h.cell 3 rfl rfl) S ?_
    refine rtp 1 (yI ((((s.qw[i]!).qK)[k]!).qE)) S ?_
    refine tL 2 rfl rfl (fun _ h=>h.cell 3 rfl rfl) S ?_
    refine rtp 3 (yI ((((s.qw[i]!).qK)[k]!).qE)) S ?_
    refine tI 4 rfl rfl rfl S ?_
    refine rtp 6 (.slice ae141Bag (((((s.qw[i]!).qK)[k]!).yx).length) ce141Bag) S ?_
    refine tL 7 rfl rfl (fun _ h=>h.cell 1 rfl rfl) S ?_
    refine ro 5 rfl ?_
    obtain ⟨a146,c147,G148,s149,h150,H⟩:=H.jf 8 rfl 2 rfl (iv:=(((s.qw[i]!).qK)[k]!).qE) (((((s.qw[i]!).qK)[k]!).qE).toNat) qf qf
    refine zk (.slice a146 ((bags_1[((((s.qw[i]!).qK)[k]!).qE).toNat]!).length) c147) isAgg24 rfl (h150) (⟨H.pick [0,1,2,3,4,5,6,7,9,10,11] [1,2,3,4,5,6,7,8,9,10,11,12,13,14,15,16,17,18],(ro 8 rfl ?_)⟩)
    obtain ⟨u1,u2⟩:=E_bags_1.sh.row (c:=((((s.qw[i]!).qK)[k]!).qE).toNat) qf p8 qf
    have u4:=(by first | exact bn1.je qf | exact bn2.je qf | exact bn3.je qf | exact bn4.je qf:SmallT ((((s.qw[i]!).qK)[k]!).yx) (counts[i]!))
    have sz151:=H.base.size
    have lt152:=H.ltN (L:=[G69]) [4]
    refine oc (QW _ (bags_1[((((s.qw[i]!).qK)[k]!).qE).toNat]!) ((((s.qw[i]!).qK)[k]!).yx) (counts[i]!) (H.get 0 rfl).1 (H.get 1 rfl).1 qg qg qg) ?_
    rintro v156 w154 r156 x155
    replace H:=H.vG x155 r156
    obtain ⟨a157,c158,rfl,hc159,hm160⟩:=H.yB 0 rfl
    refine ⟨H.pick [1,2,3,4,5,6,7,8,10,11,12] [1,2,3,4,5,6,7,8,9,10,11,12,13,14,15,16,17,18],(tI 9 rfl rfl rfl (H.pick [1,2,3,4,5,6,7,8,10,11,12] [1,2,3,4,5,6,7,8,9,10,11,12,13,14,15,16,17,18]) ?_)⟩
    refine ro 10 rfl ?_
    obtain ⟨G162,N,hn163,H⟩:=H.zX 0 rfl N (H.jC [4])
    refine jq false H 9 rfl 4 rfl (.slice a157 ((yf (bags_1[((((s.qw[i]!).qK)[k]!).qE).toNat]!) ((((s.qw[i]!).qK)[k]!).yx) (counts[i]!)).length) c158) 0 rfl rfl sizeOf24 rfl rfl (i:=(((((s.qw[i]!).qK)[k]!).qE).toNat)) qf qf qm fun w161 xs164 F165 hs166 H=>⟨H.pick [1,2,3,4,5,6,7,8,10,11,12] [3,4,5,6,7,8,9,10,11,12,13,14,15,16,17,18,19,20],(xh qh ((ret0 rfl ⟨_,rfl,?_⟩)))⟩
    replace H:=H.erases [0]
    dsimp only [jg,List.eraseIdx] at H
    obtain ⟨bg167,e_bg167⟩:∃ z,z=(bags_1.set (((((s.qw[i]!).qK)[k]!).qE).toNat) (yf (bags_1[((((s.qw[i]!).qK)[k]!).qE).toNat]!) ((((s.qw[i]!).qK)[k]!).yx) (counts[i]!))):=⟨_,rfl⟩
    rw [← e_bg167] at H
    have E_bg167:=Ent.add (D:=1000000) E_bags_1 e_bg167 qf (by first | exact bn1.mul qf | exact bn2.mul qf | exact bn3.mul qf | exact bn4.mul qf) qf
    have z_bg167:=E_bg167.sh.1
    have E_cur:=E_bg167
    refine zK (b_n (t_n (zJ (sw (vk k 1 rfl rfl qf (sp (yI (k+1)) (zK (xH (m' :=((((s.qw[i]!).qK).length) - ((k+1):Int)).toNat) qf ⟨_,k+1,bg167,xs164,F165,uE4,?_,?_,?_,rfl,(N.pick [1]),H.pick [1,2,3,4,5,6,7,8,9,10,11] [0,6,7,8,9,10,11,12,13,14,15,16,17,18,19,20]⟩))))))))
    · omega
    · exact E_cur.to (fun p q=>by simp only [intoF];omega) qf
    · omega
   refine c_exit (t_x (t_x (b_x (ret0 rfl ⟨_,rfl,?_⟩))))
   replace H:=H.erases [4,3,2,1,0]
   dsimp only [jg,List.eraseIdx] at H
   refine zjn ?_
   refine yE rfl H [0,2,3,4,5] fun H=>?_
   have S:=H.jm [0,2,3,4,5] [0,1,2,3,4,5,6,7,8,9,10,11,12,13,14,15]
   refine rtp 0 (.slice (aa b36 0) s.qx.length s.qx.length) S ?_
   refine tF 1 rfl rfl S ?_
   refine tL 2 rfl rfl (fun _ h=>h.cell 0 rfl rfl) S ?_
   refine rtp 3 (.slice (aa b36 0) s.qx.length s.qx.length) S ?_
   refine tF 4 rfl rfl S ?_
   refine tL 5 rfl rfl (fun _ h=>h.cell 0 rfl rfl) S ?_
   refine tI 6 rfl rfl rfl S ?_
   refine ro 7 rfl (zk (.bool ((jA s counts s.qx.length i)[((s.qw[i]!).qE).toNat]!)) isAgg4 rfl (H.rowBool 1 rfl (iv:=(s.qw[i]!).qE) (i:=(((s.qw[i]!).qE).toNat)) qf qf) (⟨H.pick [0,2,3,4,5] [0,1,2,3,4,5,6,7,8,9,10,11,12,13,14,15],(rtp 8 (.bool ((jA s counts s.qx.length i)[((s.qw[i]!).qE).toNat]!)) (H.pick [0,2,3,4,5] [0,1,2,3,4,5,6,7,8,9,10,11,12,13,14,15]) ?_)⟩))
   cases h169:((jA s counts s.qx.length i)[((s.qw[i]!).qE).toNat]!)
   ·skip
    have S:=H.jm [0,2,3,4,5] [0,1,2,3,4,5,6,7,8,9,10,11,12,13,14,15]
    refine rgp 9 (yI (counts[i]!)) 66 S ?_
    refine rgp 10 (.bool (decide ((counts[i]! :Int) > 0))) 66 S ?_
    refine rgp 11 (.bool (decide ((counts[i]! :Int) > 0))) 66 S ?_
    cases h170:(decide ((counts[i]! :Int) > 0))
    ·skip
     replace h170:=of_decide_eq_false h170
     refine zG [12,13] 2 (H.pick [0,2,3,4,5] [0,1,2,3,4,5,6,7,8,9,10,11,12,13,14,15]) ?_
     have S:=H.jm [0,2,3,4,5] [0,1,2,3,4,5,6,7,8,9,10,11,12,13,14,15]
     refine rgp 14 (.bool false) 66 S ?_
     refine rtp 15 (.bool false) S ?_
     refine tI 16 rfl rfl rfl S ?_
     refine ro 17 rfl (QX H 1 rfl false sizeOf4 rfl rfl (i:=(((s.qw[i]!).qE).toNat)) qf qf fun w171 H=>⟨H.pick [0,2,3,4,5] [0,1,2,3,4,5,6,7,8,9,10,11,12,13,14,15],(xh qh (b_n (t_n (zJ (sw (vk i 1 rfl rfl qf (sp (yI (i+1)) (zK (xH (m' :=(counts.length - ((i+1):Int)).toNat) qf ⟨_,i+1,((jA s counts s.qx.length i).set (((s.qw[i]!).qE).toNat) false),bags_1,jK,jL,uE8,?_,?_,?_,?_,rfl,(N.pick []),H.pick [1,2,3,4,5] [0,10,11,12,13,14,15]⟩)))))))))⟩)
     · first | exact meltsL_1 qf qf ‹_› | exact meltsL_2 qf qf ‹_› qf | exact meltsL_3 qf qf ‹_› qf
     · omega
     · exact E_bags_1.to (fun p q=>by rw [show k=((s.qw[i]!).qK).length by omega];simp only [allS,needF,putF];omega) qf
     · omega
    replace h170:=of_decide_eq_true h170
    have S:=H.jm [0,2,3,4,5] [0,1,2,3,4,5,6,7,8,9,10,11,12,13,14,15]
    refine gF 12 rfl rfl S ?_
    refine gL 13 rfl rfl (fun _ h=>h.cell 0 rfl rfl) S ?_
    refine rgp 14 (.bool ((s.qw[i]!).xU)) 66 S ?_
    refine rtp 15 (.bool ((s.qw[i]!).xU)) S ?_
    refine tI 16 rfl rfl rfl S ?_
    refine ro 17 rfl (QX H 1 rfl ((s.qw[i]!).xU) sizeOf4 rfl rfl (i:=(((s.qw[i]!).qE).toNat)) qf qf fun w172 H=>⟨H.pick [0,2,3,4,5] [0,1,2,3,4,5,6,7,8,9,10,11,12,13,14,15],(xh qh (b_n (t_n (zJ (sw (vk i 1 rfl rfl qf (sp (yI (i+1)) (zK (xH (m' :=(counts.length - ((i+1):Int)).toNat) qf ⟨_,i+1,((jA s counts s.qx.length i).set (((s.qw[i]!).qE).toNat) ((s.qw[i]!).xU)),bags_1,jK,jL,uE8,?_,?_,?_,?_,rfl,(N.pick []),H.pick [1,2,3,4,5] [0,10,11,12,13,14,15]⟩)))))))))⟩)
    · first | exact meltsL_1 qf qf ‹_› | exact meltsL_2 qf qf ‹_› qf | exact meltsL_3 qf qf ‹_› qf
    · omega
    · exact E_bags_1.to (fun p q=>by rw [show k=((s.qw[i]!).qK).length by omega];simp only [allS,needF,putF];omega) qf
    · omega
   refine zG [9,10,11,12,13,14] 6 (H.pick [0,2,3,4,5] [0,1,2,3,4,5,6,7,8,9,10,11,12,13,14,15]) ?_
   have S:=H.jm [0,2,3,4,5] [0,1,2,3,4,5,6,7,8,9,10,11,12,13,14,15]
   refine rtp 15 (.bool true) S ?_
   refine tI 16 rfl rfl rfl S ?_
   refine ro 17 rfl (QX H 1 rfl true sizeOf4 rfl rfl (i:=(((s.qw[i]!).qE).toNat)) qf qf fun w173 H=>⟨H.pick [0,2,3,4,5] [0,1,2,3,4,5,6,7,8,9,10,11,12,13,14,15],(xh qh (b_n (t_n (zJ (sw (vk i 1 rfl rfl qf (sp (yI (i+1)) (zK (xH (m' :=(counts.length - ((i+1):Int)).toNat) qf ⟨_,i+1,((jA s counts s.qx.length i).set (((s.qw[i]!).qE).toNat) true),bags_1,jK,jL,uE8,?_,?_,?_,?_,rfl,(N.pick []),H.pick [1,2,3,4,5] [0,10,11,12,13,14,15]⟩)))))))))⟩)
   · first | exact meltsL_1 qf qf ‹_› | exact meltsL_2 qf qf ‹_› qf | exact meltsL_3 qf qf ‹_› qf
   · omega
   · exact E_bags_1.to (fun p q=>by rw [show k=((s.qw[i]!).qK).length by omega];simp only [allS,needF,putF];omega) qf
   · omega
  have po:=outPl_out (r:=s.qw[i]!) p15 p1.2.2.1 qc qf
  refine yE rfl H [0,1,2,3,4,5,6,8,9,10] fun H=>?_
  have S:=H.jm [0,1,2,3,4,5,6,8,9,10] [0,1,2,3,4,5,6,7,8,9,10,11,12,13,14,15,16,17,18,19]
  refine rtp 0 (.func (.func 113) #[] #[pp b79 0,pp b83 0]) S ?_
  refine rt 1 (.agg #[yI s.qV,.slice qC s.qx.length qB,.slice (aa b44 o45) s.qw.length qG]) (yj (cs:=[yI s.qV,.slice qC s.qx.length qB,.slice (aa b44 o45) s.qw.length qG]) isAgg27 sizeOf27 rfl (fun _ h=>qI (h.cells 4 rfl) 0 3)) S ?_
  refine tF 3 rfl rfl S ?_
  refine tL 4 rfl rfl (fun _ h=>h.cell 1 rfl rfl) S ?_
  refine ro 2 rfl (oq (QT _ s (H.get 14 rfl).1 (H.get 15 rfl).1) H fun w176 H=>⟨H.pick [0,1,2,3,4,5,6,8,9,10] [0,1,2,3,4,5,6,7,8,9,10,11,12,13,14,15,16,17,18,19],(ro 5 rfl (vS #[yI s.qx.length,.slice Qb (((s.qw[i]!).vC).length) y8,pp b79 0,pp b83 0] rfl rfl call113 (en func113 ntmps113 ?_)))⟩)
  refine yE rfl H [0,1,2,3,4,5,6,8,9,10] fun H=>?_
  have S:=H.jm [0,1,2,3,4,5,6,8,9,10] [0,1,2,3,4,5,6,7,8,9,10,11,12,13,14,15,16,17,18,19]
  refine tL 0 rfl rfl (fun _ h=>h.cell 2 rfl rfl) S ?_
  refine rtp 1 (yI s.qx.length) S ?_
  refine tL 2 rfl rfl (fun _ h=>h.cell 2 rfl rfl) S ?_
  refine rtp 3 (yI s.qx.length) S ?_
  refine tI 4 rfl rfl rfl S ?_
  refine rtp 6 (.slice Qb (((s.qw[i]!).vC).length) y8) S ?_
  refine tL 7 rfl rfl (fun _ h=>h.cell 0 rfl rfl) S ?_
  refine ro 5 rfl ?_
  obtain ⟨a179,c180,G181,s182,h183,H⟩:=H.jf 7 rfl 0 rfl (iv:=s.qx.length) s.qx.length qf qf
  refine zk (.slice a179 ((bg107[s.qx.length]!).length) c180) isAgg24 rfl (h183) (⟨H.pick [0,1,2,3,4,5,6,8,9,10] [1,2,3,4,5,6,7,8,9,10,11,12,13,14,15,16,17,18,19,20],(ro 8 rfl ?_)⟩)
  obtain ⟨u1,u2⟩:=E_bg107.sh.row (c:=s.qx.length) qf p8 qf
  have u4:=(by first | exact bn1.je qf | exact bn2.je qf | exact bn3.je qf | exact bn4.je qf:SmallT ((s.qw[i]!).vC) (counts[i]!))
  have sz184:=H.base.size
  have lt185:=H.ltN (L:=[G102,G69]) [2,5]
  refine oc (QW _ (bg107[s.qx.length]!) ((s.qw[i]!).vC) (counts[i]!) (H.get 0 rfl).1 (H.get 11 rfl).1 qg qg qg) ?_
  rintro v189 w187 r189 x188
  replace H:=H.vG x188 r189
  obtain ⟨a190,c191,rfl,hc192,hm193⟩:=H.yB 0 rfl
  refine ⟨H.pick [1,2,3,4,5,6,7,9,10,11] [1,2,3,4,5,6,7,8,9,10,11,12,13,14,15,16,17,18,19,20],(tI 9 rfl rfl rfl (H.pick [1,2,3,4,5,6,7,9,10,11] [1,2,3,4,5,6,7,8,9,10,11,12,13,14,15,16,17,18,19,20]) ?_)⟩
  refine ro 10 rfl ?_
  obtain ⟨G195,N,hn196,H⟩:=H.zX 0 rfl N (H.jC [2,5])
  refine jq false H 8 rfl 2 rfl (.slice a190 ((yf (bg107[s.qx.length]!) ((s.qw[i]!).vC) (counts[i]!)).length) c191) 0 rfl rfl sizeOf24 rfl rfl (i:=s.qx.length) qf qf qm fun w194 xs197 F198 hs199 H=>⟨H.pick [1,2,3,4,5,6,7,9,10,11] [3,4,5,6,7,8,9,10,11,12,13,14,15,16,17,18,19,20,21,22],(xh qh ((ret0 rfl ⟨_,rfl,?_⟩)))⟩
  replace H:=H.erases [0]
  dsimp only [jg,List.eraseIdx] at H
  obtain ⟨bg200,e_bg200⟩:∃ z,z=(bg107.set s.qx.length (yf (bg107[s.qx.length]!) ((s.qw[i]!).vC) (counts[i]!))):=⟨_,rfl⟩
  rw [← e_bg200] at H
  have E_bg200:=Ent.add (D:=1000000) E_bg107 e_bg200 qf (by first | exact bn1.mul qf | exact bn2.mul qf | exact bn3.mul qf | exact bn4.mul qf) qf
  have z_bg200:=E_bg200.sh.1
  have E_cur:=E_bg200
  refine ⟨H.pick [0,1,2,3,4,5,6,8,9,10] [3,4,5,6,7,8,9,10,11,12,13,14,15,16,17,18,19,20,21,22],(xh qh (t_n (zcr (oF rfl (oL rfl (H.cell 1 rfl rfl) (oN rfl (sp (yI 0) (zjn (xq ?_)))))))))⟩
  refine vg (fun m' ρ w201=>∃ (zB:Env) (k:Nat) (bags_1:yLL) (jK:List Value) (jL:yLN),ρ=upd (upd (upd (upd zB 10 (.func (.func 113) #[] #[pp b79 0,pp b83 0])) 40 (.slice yJ (((s.qw[i]!).qK).length) yG)) 41 (yI (((s.qw[i]!).qK).length))) 42 (yI k)∧((k:Int)≤(((s.qw[i]!).qK).length))∧(Ent (s.qx.length+1) (xY s) (fun p q=>base0 s t p q+allS s t counts i p q+at' p (s.qw[i]!).qE.toNat (-(counts[i]!) * ((s.qw[i]!).xn)[q]!)+at' p (s.qw[i]!).qE.toNat ((counts[i]!) * ((s.qw[i]!).xW)[q]!)+at' p (outPl s t (s.qw[i]!)) ((counts[i]!) * ((s.qw[i]!).vC)[q]!)+intoF (s.qw[i]!) (counts[i]!) k p q) (23000000+6000000 * i+1000000 * k) bags_1)∧(bags_1.length=s.qx.length+1)∧m' =((((s.qw[i]!).qK).length) - (k:Int)).toNat∧Fresh w.heap.size [G69]∧St w w201 [.box b83 [yI (counts[i]!)] 2,.box b81 [yI ((s.qw[i]!).qE),yI ((s.qw[i]!).zS),.slice yV (((s.qw[i]!).xn).length) yQ,.slice yY (((s.qw[i]!).zf).length) yU,.slice yX (((s.qw[i]!).x8).length) yR,.slice yK (((s.qw[i]!).xW).length) yH,.slice Qb (((s.qw[i]!).vC).length) y8,.slice yJ (((s.qw[i]!).qK).length) yG,.bool ((s.qw[i]!).xU)] 51,.box b79 [.slice (aa b52 0) (t.qL.length+1) c8] 29,.box b77 (yT t qU qQ xE xu qN qM) 31,.box b75 [yI s.qV,.slice qC s.qx.length qB,.slice (aa b44 o45) s.qw.length qG] 27,.box b48 [yI ((s.qw[i]!).qE),yI ((s.qw[i]!).zS),.slice yV (((s.qw[i]!).xn).length) yQ,.slice yY (((s.qw[i]!).zf).length) yU,.slice yX (((s.qw[i]!).x8).length) yR,.slice yK (((s.qw[i]!).xW).length) yH,.slice Qb (((s.qw[i]!).vC).length) y8,.slice yJ (((s.qw[i]!).qK).length) yG,.bool ((s.qw[i]!).xU)] 51,rr (aa b36 0) s.qx.length s.qx.length 4 1 ((jA s counts s.qx.length i).map (Value.bool)),rr (aa b52 0) (t.qL.length+1) c8 24 1 jK,.box b5 [yN,yN,yN] 31,.box b3 (yT t qU qQ xE xu qN qM) 31,.box b1 [yI s.qV,.slice qC s.qx.length qB,.slice (aa b44 o45) s.qw.length qG] 27] [xe false jL jK bags_1,sF true G69 a64 c65 (yf (bags[((s.qw[i]!).qE).toNat]!) ((s.qw[i]!).xn) (-(counts[i]!))),sF false G55 a53 c54 (bags[((s.qw[i]!).qE).toNat]!),sF false Fe47Need yV yQ ((s.qw[i]!).xn),sF false Fe47Have yY yU ((s.qw[i]!).zf),sF false Fe47Lack yX yR ((s.qw[i]!).x8),sF false Fe47Here yK yH ((s.qw[i]!).xW),sF false Fe47Out Qb y8 ((s.qw[i]!).vC),sF false Fe47Into yJ yG ((s.qw[i]!).qK),atF b44 (o45+(i:Int).toNat * 9) [yI ((s.qw[i]!).qE),yI ((s.qw[i]!).zS),.slice yV (((s.qw[i]!).xn).length) yQ,.slice yY (((s.qw[i]!).zf).length) yU,.slice yX (((s.qw[i]!).x8).length) yR,.slice yK (((s.qw[i]!).xW).length) yH,.slice Qb (((s.qw[i]!).vC).length) y8,.slice yJ (((s.qw[i]!).qK).length) yG,.bool ((s.qw[i]!).xU)],sF false xk qC qB s.qx,sF false xN (aa b44 o45) qG s.qw,sF false zF qU qQ t.qF,sF false vF xE xu t.qL,sF false zh qN qM t.qH,sF false Fcounts (aa b41 o42) ccounts counts]) (((((s.qw[i]!).qK).length) - (0:Int)).toNat) ⟨_,0,bg200,xs197,F198,uE4,qf,(by exact E_cur.to (fun p q=>by rw [po];simp only [intoF];first | omega | (simp only [Int.toNat_natCast];omega)) qf),qf,rfl,(N.pick [2]),H.pick [0,1,2,3,4,5,6,7,8,9,10] [0,7,8,9,10,11,12,13,14,15,17,18,19,20,21,22]⟩ ?_
  clear H N
  rintro m' ρ w202 ⟨zB,k,bags_1,jK,jL,rfl,i0,E_bags_1,z_bags_1,rfl,N,H⟩
  have hn_bags:=H.zy (α:=yLI) 7 rfl 0 rfl qj
  refine zcr (sp (.bool (decide ((k:Int) < (((s.qw[i]!).qK).length)))) (zjn (zx (cD rfl (fun h203=>?_) (fun h203=>?_)))))
  ·skip
   have qi:=q.2.2.2.2.2.2.2.2.2.2 k qf
   have qi1:=qi.1
   have bn4:=qi.2.2.1
   have ln4:=bn4.len
   refine xB (t_n (zx (xq (zcr ?_))))
   obtain ⟨b204,o205,rfl⟩:=H.addr 8 rfl qf
   obtain ⟨ae207Bag,ce207Bag,Fe207Bag,H⟩:=H.yh 8 rfl k k qf qf qf
   refine oI rfl rfl (sw (zi [yI ((((s.qw[i]!).qK)[k]!).qE),.slice ae207Bag (((((s.qw[i]!).qK)[k]!).yx).length) ce207Bag] isAgg121 sizeOf121 rfl (qI (H.get 1 rfl) 0 2) (sw (xx H ti121 [yI 0,yN] fun b208 w209 H=>sw (xf H 0 [yI ((((s.qw[i]!).qK)[k]!).qE),.slice ae207Bag (((((s.qw[i]!).qK)[k]!).yx).length) ce207Bag] sizeOf121 fun w210 H=>zjn (zJ (sp (.func (.func 113) #[] #[pp b79 0,pp b83 0]) (oF rfl (oL rfl (H.cell 0 rfl rfl) (oF rfl (oL rfl (H.cell 0 rfl rfl) ?_)))))))))))
   refine sw (vS #[yI ((((s.qw[i]!).qK)[k]!).qE),.slice ae207Bag (((((s.qw[i]!).qK)[k]!).yx).length) ce207Bag,pp b79 0,pp b83 0] rfl rfl call113 (en func113 ntmps113 ?_))
   refine yE rfl H [0,1,2,3,4,5,6,7,9,10,11] fun H=>?_
   have S:=H.jm [0,1,2,3,4,5,6,7,9,10,11] [0,1,2,3,4,5,6,7,8,9,10,11,12,13,14,15,16,17]
   refine tL 0 rfl rfl (fun _ h=>h.cell 3 rfl rfl) S ?_
   refine rtp 1 (yI ((((s.qw[i]!).qK)[k]!).qE)) S ?_
   refine tL 2 rfl rfl (fun _ h=>h.cell 3 rfl rfl) S ?_
   refine rtp 3 (yI ((((s.qw[i]!).qK)[k]!).qE)) S ?_
   refine tI 4 rfl rfl rfl S ?_
   refine rtp 6 (.slice ae207Bag (((((s.qw[i]!).qK)[k]!).yx).length) ce207Bag) S ?_
   refine tL 7 rfl rfl (fun _ h=>h.cell 1 rfl rfl) S ?_
   refine ro 5 rfl ?_
   obtain ⟨a212,c213,G214,s215,h216,H⟩:=H.jf 8 rfl 2 rfl (iv:=(((s.qw[i]!).qK)[k]!).qE) (((((s.qw[i]!).qK)[k]!).qE).toNat) qf qf
   refine zk (.slice a212 ((bags_1[((((s.qw[i]!).qK)[k]!).qE).toNat]!).length) c213) isAgg24 rfl (h216) (⟨H.pick [0,1,2,3,4,5,6,7,9,10,11] [1,2,3,4,5,6,7,8,9,10,11,12,13,14,15,16,17,18],(ro 8 rfl ?_)⟩)
   obtain ⟨u1,u2⟩:=E_bags_1.sh.row (c:=((((s.qw[i]!).qK)[k]!).qE).toNat) qf p8 qf
   have u4:=(by first | exact bn1.je qf | exact bn2.je qf | exact bn3.je qf | exact bn4.je qf:SmallT ((((s.qw[i]!).qK)[k]!).yx) (counts[i]!))
   have sz217:=H.base.size
   have lt218:=H.ltN (L:=[G69]) [4]
   refine oc (QW _ (bags_1[((((s.qw[i]!).qK)[k]!).qE).toNat]!) ((((s.qw[i]!).qK)[k]!).yx) (counts[i]!) (H.get 0 rfl).1 (H.get 1 rfl).1 qg qg qg) ?_
   rintro v222 w220 r222 x221
   replace H:=H.vG x221 r222
   obtain ⟨a223,c224,rfl,hc225,hm226⟩:=H.yB 0 rfl
   refine ⟨H.pick [1,2,3,4,5,6,7,8,10,11,12] [1,2,3,4,5,6,7,8,9,10,11,12,13,14,15,16,17,18],(tI 9 rfl rfl rfl (H.pick [1,2,3,4,5,6,7,8,10,11,12] [1,2,3,4,5,6,7,8,9,10,11,12,13,14,15,16,17,18]) ?_)⟩
   refine ro 10 rfl ?_
   obtain ⟨G228,N,hn229,H⟩:=H.zX 0 rfl N (H.jC [4])
   refine jq false H 9 rfl 4 rfl (.slice a223 ((yf (bags_1[((((s.qw[i]!).qK)[k]!).qE).toNat]!) ((((s.qw[i]!).qK)[k]!).yx) (counts[i]!)).length) c224) 0 rfl rfl sizeOf24 rfl rfl (i:=(((((s.qw[i]!).qK)[k]!).qE).toNat)) qf qf qm fun w227 xs230 F231 hs232 H=>⟨H.pick [1,2,3,4,5,6,7,8,10,11,12] [3,4,5,6,7,8,9,10,11,12,13,14,15,16,17,18,19,20],(xh qh ((ret0 rfl ⟨_,rfl,?_⟩)))⟩
   replace H:=H.erases [0]
   dsimp only [jg,List.eraseIdx] at H
   obtain ⟨bg233,e_bg233⟩:∃ z,z=(bags_1.set (((((s.qw[i]!).qK)[k]!).qE).toNat) (yf (bags_1[((((s.qw[i]!).qK)[k]!).qE).toNat]!) ((((s.qw[i]!).qK)[k]!).yx) (counts[i]!))):=⟨_,rfl⟩
   rw [← e_bg233] at H
   have E_bg233:=Ent.add (D:=1000000) E_bags_1 e_bg233 qf (by first | exact bn1.mul qf | exact bn2.mul qf | exact bn3.mul qf | exact bn4.mul qf) qf
   have z_bg233:=E_bg233.sh.1
   have E_cur:=E_bg233
   refine zK (b_n (t_n (zJ (sw (vk k 1 rfl rfl qf (sp (yI (k+1)) (zK (xH (m' :=((((s.qw[i]!).qK).length) - ((k+1):Int)).toNat) qf ⟨_,k+1,bg233,xs230,F231,uE4,?_,?_,?_,rfl,(N.pick [1]),H.pick [1,2,3,4,5,6,7,8,9,10,11] [0,6,7,8,9,10,11,12,13,14,15,16,17,18,19,20]⟩))))))))
   · omega
   · exact E_cur.to (fun p q=>by simp only [intoF];omega) qf
   · omega
  refine c_exit (t_x (t_x (b_x (ret0 rfl ⟨_,rfl,?_⟩))))
  replace H:=H.erases [4,3,2,1,0]
  dsimp only [jg,List.eraseIdx] at H
  refine zjn ?_
  refine yE rfl H [0,2,3,4,5] fun H=>?_
  have S:=H.jm [0,2,3,4,5] [0,1,2,3,4,5,6,7,8,9,10,11,12,13,14,15]
  refine rtp 0 (.slice (aa b36 0) s.qx.length s.qx.length) S ?_
  refine tF 1 rfl rfl S ?_
  refine tL 2 rfl rfl (fun _ h=>h.cell 0 rfl rfl) S ?_
  refine rtp 3 (.slice (aa b36 0) s.qx.length s.qx.length) S ?_
  refine tF 4 rfl rfl S ?_
  refine tL 5 rfl rfl (fun _ h=>h.cell 0 rfl rfl) S ?_
  refine tI 6 rfl rfl rfl S ?_
  refine ro 7 rfl (zk (.bool ((jA s counts s.qx.length i)[((s.qw[i]!).qE).toNat]!)) isAgg4 rfl (H.rowBool 1 rfl (iv:=(s.qw[i]!).qE) (i:=(((s.qw[i]!).qE).toNat)) qf qf) (⟨H.pick [0,2,3,4,5] [0,1,2,3,4,5,6,7,8,9,10,11,12,13,14,15],(rtp 8 (.bool ((jA s counts s.qx.length i)[((s.qw[i]!).qE).toNat]!)) (H.pick [0,2,3,4,5] [0,1,2,3,4,5,6,7,8,9,10,11,12,13,14,15]) ?_)⟩))
  cases h235:((jA s counts s.qx.length i)[((s.qw[i]!).qE).toNat]!)
  ·skip
   have S:=H.jm [0,2,3,4,5] [0,1,2,3,4,5,6,7,8,9,10,11,12,13,14,15]
   refine rgp 9 (yI (counts[i]!)) 66 S ?_
   refine rgp 10 (.bool (decide ((counts[i]! :Int) > 0))) 66 S ?_
   refine rgp 11 (.bool (decide ((counts[i]! :Int) > 0))) 66 S ?_
   cases h236:(decide ((counts[i]! :Int) > 0))
   ·skip
    replace h236:=of_decide_eq_false h236
    refine zG [12,13] 2 (H.pick [0,2,3,4,5] [0,1,2,3,4,5,6,7,8,9,10,11,12,13,14,15]) ?_
    have S:=H.jm [0,2,3,4,5] [0,1,2,3,4,5,6,7,8,9,10,11,12,13,14,15]
    refine rgp 14 (.bool false) 66 S ?_
    refine rtp 15 (.bool false) S ?_
    refine tI 16 rfl rfl rfl S ?_
    refine ro 17 rfl (QX H 1 rfl false sizeOf4 rfl rfl (i:=(((s.qw[i]!).qE).toNat)) qf qf fun w237 H=>⟨H.pick [0,2,3,4,5] [0,1,2,3,4,5,6,7,8,9,10,11,12,13,14,15],(xh qh (b_n (t_n (zJ (sw (vk i 1 rfl rfl qf (sp (yI (i+1)) (zK (xH (m' :=(counts.length - ((i+1):Int)).toNat) qf ⟨_,i+1,((jA s counts s.qx.length i).set (((s.qw[i]!).qE).toNat) false),bags_1,jK,jL,uE8,?_,?_,?_,?_,rfl,(N.pick []),H.pick [1,2,3,4,5] [0,10,11,12,13,14,15]⟩)))))))))⟩)
    · first | exact meltsL_1 qf qf ‹_› | exact meltsL_2 qf qf ‹_› qf | exact meltsL_3 qf qf ‹_› qf
    · omega
    · exact E_bags_1.to (fun p q=>by rw [show k=((s.qw[i]!).qK).length by omega];simp only [allS,needF,putF];omega) qf
    · omega
   replace h236:=of_decide_eq_true h236
   have S:=H.jm [0,2,3,4,5] [0,1,2,3,4,5,6,7,8,9,10,11,12,13,14,15]
   refine gF 12 rfl rfl S ?_
   refine gL 13 rfl rfl (fun _ h=>h.cell 0 rfl rfl) S ?_
   refine rgp 14 (.bool ((s.qw[i]!).xU)) 66 S ?_
   refine rtp 15 (.bool ((s.qw[i]!).xU)) S ?_
   refine tI 16 rfl rfl rfl S ?_
   refine ro 17 rfl (QX H 1 rfl ((s.qw[i]!).xU) sizeOf4 rfl rfl (i:=(((s.qw[i]!).qE).toNat)) qf qf fun w238 H=>⟨H.pick [0,2,3,4,5] [0,1,2,3,4,5,6,7,8,9,10,11,12,13,14,15],(xh qh (b_n (t_n (zJ (sw (vk i 1 rfl rfl qf (sp (yI (i+1)) (zK (xH (m' :=(counts.length - ((i+1):Int)).toNat) qf ⟨_,i+1,((jA s counts s.qx.length i).set (((s.qw[i]!).qE).toNat) ((s.qw[i]!).xU)),bags_1,jK,jL,uE8,?_,?_,?_,?_,rfl,(N.pick []),H.pick [1,2,3,4,5] [0,10,11,12,13,14,15]⟩)))))))))⟩)
   · first | exact meltsL_1 qf qf ‹_› | exact meltsL_2 qf qf ‹_› qf | exact meltsL_3 qf qf ‹_› qf
   · omega
   · exact E_bags_1.to (fun p q=>by rw [show k=((s.qw[i]!).qK).length by omega];simp only [allS,needF,putF];omega) qf
   · omega
  refine zG [9,10,11,12,13,14] 6 (H.pick [0,2,3,4,5] [0,1,2,3,4,5,6,7,8,9,10,11,12,13,14,15]) ?_
  have S:=H.jm [0,2,3,4,5] [0,1,2,3,4,5,6,7,8,9,10,11,12,13,14,15]
  refine rtp 15 (.bool true) S ?_
  refine tI 16 rfl rfl rfl S ?_
  refine ro 17 rfl (QX H 1 rfl true sizeOf4 rfl rfl (i:=(((s.qw[i]!).qE).toNat)) qf qf fun w239 H=>⟨H.pick [0,2,3,4,5] [0,1,2,3,4,5,6,7,8,9,10,11,12,13,14,15],(xh qh (b_n (t_n (zJ (sw (vk i 1 rfl rfl qf (sp (yI (i+1)) (zK (xH (m' :=(counts.length - ((i+1):Int)).toNat) qf ⟨_,i+1,((jA s counts s.qx.length i).set (((s.qw[i]!).qE).toNat) true),bags_1,jK,jL,uE8,?_,?_,?_,?_,rfl,(N.pick []),H.pick [1,2,3,4,5] [0,10,11,12,13,14,15]⟩)))))))))⟩)
  · first | exact meltsL_1 qf qf ‹_› | exact meltsL_2 qf qf ‹_› qf | exact meltsL_3 qf qf ‹_› qf
  · omega
  · exact E_bags_1.to (fun p q=>by rw [show k=((s.qw[i]!).qK).length by omega];simp only [allS,needF,putF];omega) qf
  · omega
 refine zx4 (zx ?_)
 obtain ⟨b240,rfl⟩:=H.Qv 1 rfl qf
 refine c_cut (fun ρ w250=>∃ (zB:Env) (b241:Nat) (ra242:yOA) (rc243:Nat) (ra244:yOA) (rc245:Nat) (ra246:yOA) (rc247:Nat) (rx248:List Value) (rF249:yLN),ρ=upd (upd (upd (upd zB 3 (pp b1 0)) 6 (pp b5 0)) 9 (.slice (aa b36 0) s.qx.length s.qx.length)) 13 (pp b241 0)∧Fresh w.heap.size [rF249]∧St w w250 [.box b241 [.slice ra242 (((⟨t.qF,(bags.take s.qx.length),bags[s.qx.length]!⟩:qA).qF).length) rc243,.slice ra244 (((⟨t.qF,(bags.take s.qx.length),bags[s.qx.length]!⟩:qA).qL).length) rc245,.slice ra246 (((⟨t.qF,(bags.take s.qx.length),bags[s.qx.length]!⟩:qA).qH).length) rc247] 31,rr ra242 (((⟨t.qF,(bags.take s.qx.length),bags[s.qx.length]!⟩:qA).qF).length) rc243 4 1 (((⟨t.qF,(bags.take s.qx.length),bags[s.qx.length]!⟩:qA).qF).map (Value.bool)),rr ra244 (((⟨t.qF,(bags.take s.qx.length),bags[s.qx.length]!⟩:qA).qL).length) rc245 24 1 rx248,rr ra246 (((⟨t.qF,(bags.take s.qx.length),bags[s.qx.length]!⟩:qA).qH).length) rc247 2 1 (((⟨t.qF,(bags.take s.qx.length),bags[s.qx.length]!⟩:qA).qH).map (Value.int .i64)),rr (aa b36 0) s.qx.length s.qx.length 4 1 ((jA s counts s.qx.length i).map (Value.bool)),rr none 0 0 0 1 [],.box b5 [yN,yN,yN] 31,.box b3 (yT t qU qQ xE xu qN qM) 31,.box b1 (yS s qC qB qJ qG) 27] [xe true rF249 rx248 ((⟨t.qF,(bags.take s.qx.length),bags[s.qx.length]!⟩:qA).qL),sF false xk qC qB s.qx,sF false xN qJ qG s.qw,sF false zF qU qQ t.qF,sF false vF xE xu t.qL,sF false zh qN qM t.qH]) ?_ ?_
 ·skip
  refine yE rfl H [0,2,3,4] fun H=>?_
  refine r_have (fun ρ w258=>∃ (zB:Env) (a252:yOA) (c253:Nat) (a254:yOA) (G255:yLN) (G256:yLN),ρ=upd (upd (upd (upd (upd (upd zB 3 (pp b1 0)) 6 (pp b5 0)) 9 (.slice (aa b36 0) s.qx.length s.qx.length)) 77 (.slice qU t.qF.length qQ)) 81 (.slice a254 ((bags.take s.qx.length).length) c8)) 86 (.slice a252 ((bags[s.qx.length]!).length) c253)∧Fresh w.heap.size []∧St w w258 [rr (aa b36 0) s.qx.length s.qx.length 4 1 ((jA s counts s.qx.length i).map (Value.bool)),rr none 0 0 0 1 [],.box b5 [yN,yN,yN] 31,.box b3 (yT t qU qQ xE xu qN qM) 31,.box b1 (yS s qC qB qJ qG) 27] [sF false G255 a254 c8 (bags.take s.qx.length),sF false G256 a252 c253 (bags[s.qx.length]!),xe false F_bags x_bags bags,sF false xk qC qB s.qx,sF false xN qJ qG s.qw,sF false zF qU qQ t.qF,sF false vF xE xu t.qL,sF false zh qN qM t.qH,sF false Fcounts acounts ccounts counts]) 4 #[true,true,true,true,true,true,true,true,true,true,true,false,false,false,false] ?_ fun L257=>?_
  ·skip
   rintro ρ w259 ⟨zB,a252,c253,a254,G255,G256,rfl,N,H⟩
   refine zH [11,13] qh qm (zW rfl ?_ (zW rfl ?_ zI))
   ·skip
    refine xK [.slice qU t.qF.length qQ,.slice a254 ((bags.take s.qx.length).length) c8,.slice a252 ((bags[s.qx.length]!).length) c253] [(0,.slice qU t.qF.length qQ),(1,.slice a254 ((bags.take s.qx.length).length) c8),(2,.slice a252 ((bags[s.qx.length]!).length) c253)] (⟨H.pick [0,2,3,4] [2,3,4,5,6,7,8],(zH [12,13] qh qm (zW rfl ?_ (zW rfl ?_ zI)))⟩)
    ·skip
     obtain ⟨cp0,cp1,cp2,cp3⟩:=copy_pre (al:=t.qF) E_bags p8 p9.2 p12
     have sz263:=H.base.size
     refine oc (copied_ok _ (⟨t.qF,(bags.take s.qx.length),bags[s.qx.length]!⟩:qA) (H.get 5 rfl).1 (H.get 0 rfl).1 (H.get 1 rfl).1 qg qg qg qg) ?_
     rintro _ w261 ⟨ra260Alive,rn260Alive,rc260Alive,ra260Bags,rn260Bags,rc260Bags,rx260Bags,rF260Bags,ra260Around,rn260Around,rc260Around,rfl,M,K⟩ _
     replace N:=N.merge sz263 qm M
     replace H:=H.merge K M
     obtain rfl:=H.rowNB 0 rfl
     obtain rfl:=H.zy (α:=yLI) 1 rfl 0 rfl qj
     obtain rfl:=H.zQ 2 rfl
     refine ⟨H.pick [3,5,6,7] [3,4,5,6,7,8,9],(ro 13 rfl (xx H ti31 [yN,yN,yN] fun b268 w269 H=>⟨H.pick [4,6,7,8] [3,4,5,6,7,8,9],(ro 14 rfl (xf H 0 [.slice ra260Alive (((⟨t.qF,(bags.take s.qx.length),bags[s.qx.length]!⟩:qA).qF).length) rc260Alive,.slice ra260Bags (((⟨t.qF,(bags.take s.qx.length),bags[s.qx.length]!⟩:qA).qL).length) rc260Bags,.slice ra260Around (((⟨t.qF,(bags.take s.qx.length),bags[s.qx.length]!⟩:qA).qH).length) rc260Around] sizeOf31 fun w270 H=>⟨H.pick [4,6,7,8] [3,4,5,6,7,8,9],?_⟩))⟩))⟩
     refine xh qh ((meet ⟨_,b268,ra260Alive,rc260Alive,ra260Bags,rc260Bags,ra260Around,rc260Around,rx260Bags,rF260Bags,uE4,N,H.pick [0,1,2,3,4,5,6,7,8] [0,4,5,6,7,8]⟩))
    refine xx H ti31 [yN,yN,yN] fun b271 w272 H=>⟨H.pick [1,3,4,5] [2,3,4,5,6,7,8],(ro 12 rfl ?_)⟩
    obtain ⟨cp0,cp1,cp2,cp3⟩:=copy_pre (al:=t.qF) E_bags p8 p9.2 p12
    have sz276:=H.base.size
    refine oc (copied_ok _ (⟨t.qF,(bags.take s.qx.length),bags[s.qx.length]!⟩:qA) (H.get 5 rfl).1 (H.get 0 rfl).1 (H.get 1 rfl).1 qg qg qg qg) ?_
    rintro _ w274 ⟨ra273Alive,rn273Alive,rc273Alive,ra273Bags,rn273Bags,rc273Bags,rx273Bags,rF273Bags,ra273Around,rn273Around,rc273Around,rfl,M,K⟩ _
    replace N:=N.merge sz276 qm M
    replace H:=H.merge K M
    obtain rfl:=H.rowNB 0 rfl
    obtain rfl:=H.zy (α:=yLI) 1 rfl 0 rfl qj
    obtain rfl:=H.zQ 2 rfl
    refine ⟨H.pick [4,6,7,8] [3,4,5,6,7,8,9],(ro 14 rfl (xf H 3 [.slice ra273Alive (((⟨t.qF,(bags.take s.qx.length),bags[s.qx.length]!⟩:qA).qF).length) rc273Alive,.slice ra273Bags (((⟨t.qF,(bags.take s.qx.length),bags[s.qx.length]!⟩:qA).qL).length) rc273Bags,.slice ra273Around (((⟨t.qF,(bags.take s.qx.length),bags[s.qx.length]!⟩:qA).qH).length) rc273Around] sizeOf31 fun w281 H=>⟨H.pick [4,6,7,8] [3,4,5,6,7,8,9],(xh qh (?_))⟩))⟩
    exact meet ⟨_,b271,ra273Alive,rc273Alive,ra273Bags,rc273Bags,ra273Around,rc273Around,rx273Bags,rF273Bags,uE4,N,H.pick [3,0,1,2,4,5,6,7,8] [0,4,5,6,7,8]⟩
   refine xx H ti31 [yN,yN,yN] fun b282 w283 H=>⟨H.pick [1,3,4,5] [2,3,4,5,6,7,8],(ro 11 rfl (xK [.slice qU t.qF.length qQ,.slice a254 ((bags.take s.qx.length).length) c8,.slice a252 ((bags[s.qx.length]!).length) c253] [(0,.slice qU t.qF.length qQ),(1,.slice a254 ((bags.take s.qx.length).length) c8),(2,.slice a252 ((bags[s.qx.length]!).length) c253)] (⟨H.pick [1,3,4,5] [2,3,4,5,6,7,8],(ro 12 rfl ?_)⟩)))⟩
   obtain ⟨cp0,cp1,cp2,cp3⟩:=copy_pre (al:=t.qF) E_bags p8 p9.2 p12
   have sz287:=H.base.size
   refine oc (copied_ok _ (⟨t.qF,(bags.take s.qx.length),bags[s.qx.length]!⟩:qA) (H.get 5 rfl).1 (H.get 0 rfl).1 (H.get 1 rfl).1 qg qg qg qg) ?_
   rintro _ w285 ⟨ra284Alive,rn284Alive,rc284Alive,ra284Bags,rn284Bags,rc284Bags,rx284Bags,rF284Bags,ra284Around,rn284Around,rc284Around,rfl,M,K⟩ _
   replace N:=N.merge sz287 qm M
   replace H:=H.merge K M
   obtain rfl:=H.rowNB 0 rfl
   obtain rfl:=H.zy (α:=yLI) 1 rfl 0 rfl qj
   obtain rfl:=H.zQ 2 rfl
   refine ⟨H.pick [4,6,7,8] [3,4,5,6,7,8,9],(ro 14 rfl (xf H 3 [.slice ra284Alive (((⟨t.qF,(bags.take s.qx.length),bags[s.qx.length]!⟩:qA).qF).length) rc284Alive,.slice ra284Bags (((⟨t.qF,(bags.take s.qx.length),bags[s.qx.length]!⟩:qA).qL).length) rc284Bags,.slice ra284Around (((⟨t.qF,(bags.take s.qx.length),bags[s.qx.length]!⟩:qA).qH).length) rc284Around] sizeOf31 fun w292 H=>⟨H.pick [4,6,7,8] [3,4,5,6,7,8,9],(xh qh (?_))⟩))⟩
   exact meet ⟨_,b282,ra284Alive,rc284Alive,ra284Bags,rc284Bags,ra284Around,rc284Around,rx284Bags,rF284Bags,uE4,N,H.pick [3,0,1,2,4,5,6,7,8] [0,4,5,6,7,8]⟩
  refine r_have (fun ρ w297=>∃ (zB:Env) (a293:yOA) (G294:yLN) (G295:yLN),ρ=upd (upd (upd (upd (upd (upd zB 3 (pp b1 0)) 6 (pp b5 0)) 9 (.slice (aa b36 0) s.qx.length s.qx.length)) 77 (.slice qU t.qF.length qQ)) 81 (.slice a293 ((bags.take s.qx.length).length) c8)) 85 (pp b240 (0+(s.qx.length:Int).toNat * 1))∧Fresh w.heap.size []∧St w w297 [rr (aa b36 0) s.qx.length s.qx.length 4 1 ((jA s counts s.qx.length i).map (Value.bool)),rr none 0 0 0 1 [],.box b5 [yN,yN,yN] 31,.box b3 (yT t qU qQ xE xu qN qM) 31,.box b1 (yS s qC qB qJ qG) 27] [sF false G294 a293 c8 (bags.take s.qx.length),isF false G295 (.slice (aa b240 0) (t.qL.length+1) c8) bags,xe false F_bags x_bags bags,sF false xk qC qB s.qx,sF false xN qJ qG s.qw,sF false zF qU qQ t.qF,sF false vF xE xu t.qL,sF false zh qN qM t.qH,sF false Fcounts acounts ccounts counts]) 5 #[true,true,true,true,true,true,true,true,true,true,false,false,false,false,false] ?_ fun L296=>?_
  ·skip
   rintro ρ w298 ⟨zB,a293,G294,G295,rfl,N,H⟩
   refine zH [10,13] qh qm (zW rfl ?_ (zW rfl ?_ zI))
   ·skip
    have hl299:=H.isLen 1 rfl
    obtain ⟨ae300,ce300,Fe300,H⟩:=H.QH 1 rfl s.qx.length s.qx.length qf qf qf
    refine zk (.slice ae300 ((bags[s.qx.length]!).length) ce300) isAgg24 rfl (H.zZ 1 rfl 0 rfl) (⟨H.pick [0,2,3,4] [4,5,6,7,8,9,10],(r_use L257 ⟨_,ae300,ce300,a293,G294,Fe300,uE6,N,H.pick [0,1,2,3,4] [2,0,4,5,6,7,8,9,10]⟩)⟩)
   refine xx H ti31 [yN,yN,yN] fun b301 w302 H=>⟨H.pick [1,3,4,5] [2,3,4,5,6,7,8],(ro 10 rfl ?_)⟩
   have hl303:=H.isLen 1 rfl
   obtain ⟨ae304,ce304,Fe304,H⟩:=H.QH 1 rfl s.qx.length s.qx.length qf qf qf
   refine zk (.slice ae304 ((bags[s.qx.length]!).length) ce304) isAgg24 rfl (H.zZ 1 rfl 0 rfl) (⟨H.pick [1,3,4,5] [4,5,6,7,8,9,10],(ro 11 rfl (xK [.slice qU t.qF.length qQ,.slice a293 ((bags.take s.qx.length).length) c8,.slice ae304 ((bags[s.qx.length]!).length) ce304] [(0,.slice qU t.qF.length qQ),(1,.slice a293 ((bags.take s.qx.length).length) c8),(2,.slice ae304 ((bags[s.qx.length]!).length) ce304)] (⟨H.pick [1,3,4,5] [4,5,6,7,8,9,10],(ro 12 rfl ?_)⟩)))⟩)
   obtain ⟨cp0,cp1,cp2,cp3⟩:=copy_pre (al:=t.qF) E_bags p8 p9.2 p12
   have sz308:=H.base.size
   refine oc (copied_ok _ (⟨t.qF,(bags.take s.qx.length),bags[s.qx.length]!⟩:qA) (H.get 7 rfl).1 (H.get 2 rfl).1 (H.get 0 rfl).1 qg qg qg qg) ?_
   rintro _ w306 ⟨ra305Alive,rn305Alive,rc305Alive,ra305Bags,rn305Bags,rc305Bags,rx305Bags,rF305Bags,ra305Around,rn305Around,rc305Around,rfl,M,K⟩ _
   replace N:=N.merge sz308 qm M
   replace H:=H.merge K M
   obtain rfl:=H.rowNB 0 rfl
   obtain rfl:=H.zy (α:=yLI) 1 rfl 0 rfl qj
   obtain rfl:=H.zQ 2 rfl
   refine ⟨H.pick [4,6,7,8] [5,6,7,8,9,10,11],(ro 14 rfl (xf H 3 [.slice ra305Alive (((⟨t.qF,(bags.take s.qx.length),bags[s.qx.length]!⟩:qA).qF).length) rc305Alive,.slice ra305Bags (((⟨t.qF,(bags.take s.qx.length),bags[s.qx.length]!⟩:qA).qL).length) rc305Bags,.slice ra305Around (((⟨t.qF,(bags.take s.qx.length),bags[s.qx.length]!⟩:qA).qH).length) rc305Around] sizeOf31 fun w313 H=>⟨H.pick [4,6,7,8] [5,6,7,8,9,10,11],(xh qh (?_))⟩))⟩
   exact meet ⟨_,b301,ra305Alive,rc305Alive,ra305Bags,rc305Bags,ra305Around,rc305Around,rx305Bags,rF305Bags,uE4,N,H.pick [3,0,1,2,4,5,6,7,8] [0,6,7,8,9,10]⟩
  refine r_have (fun ρ w316=>∃ (zB:Env) (b314:Nat),ρ=upd (upd (upd (upd (upd (upd (upd (upd zB 3 (pp b1 0)) 6 (pp b5 0)) 9 (.slice (aa b36 0) s.qx.length s.qx.length)) 13 (pp b314 0)) 77 (.slice qU t.qF.length qQ)) 78 (.slice (aa b240 0) (t.qL.length+1) c8)) 80 (yI s.qx.length)) 85 (pp b240 (0+(s.qx.length:Int).toNat * 1))∧Fresh w.heap.size []∧St w w316 [.box b314 [yN,yN,yN] 31,rr (aa b36 0) s.qx.length s.qx.length 4 1 ((jA s counts s.qx.length i).map (Value.bool)),rr (aa b240 0) (t.qL.length+1) c8 24 1 x_bags,.box b5 [yN,yN,yN] 31,.box b3 (yT t qU qQ xE xu qN qM) 31,.box b1 (yS s qC qB qJ qG) 27] [xe false F_bags x_bags bags,sF false xk qC qB s.qx,sF false xN qJ qG s.qw,sF false zF qU qQ t.qF,sF false vF xE xu t.qL,sF false zh qN qM t.qH,sF false Fcounts acounts ccounts counts]) 5 #[true,true,true,true,true,false,true,true,true,true,false,false,false,true,false] ?_ fun L315=>?_
  ·skip
   rintro ρ w317 ⟨zB,b314,rfl,N,H⟩
   refine zH [5,10] qh qm (zW rfl ?_ (zW rfl ?_ zI))
   ·skip
    obtain ⟨G318,hg320,hn319,H⟩:=H.freezeR (α:=yLI) 2 rfl 0 rfl qj
    have hl325:=H.isLen 0 rfl
    refine o_head H 0 rfl s.qx.length underlying29 ti24 rfl rfl qf qf fun a321 G322 hG323 H=>?_
    have hl324:(bags.take s.qx.length).length=s.qx.length:=List.length_take_of_le qf
    refine ⟨H.pick [1,3,4,5] [2,3,4,5,6,7,8],(ro 10 rfl ?_)⟩
    have hl326:=H.isLen 1 rfl
    obtain ⟨ae327,ce327,Fe327,H⟩:=H.QH 1 rfl s.qx.length s.qx.length qf qf qf
    refine zk (.slice ae327 ((bags[s.qx.length]!).length) ce327) isAgg24 rfl (H.zZ 1 rfl 0 rfl) (⟨H.pick [1,3,4,5] [4,5,6,7,8,9,10],(ro 11 rfl (xK [.slice qU t.qF.length qQ,.slice a321 ((bags.take s.qx.length).length) c8,.slice ae327 ((bags[s.qx.length]!).length) ce327] [(0,.slice qU t.qF.length qQ),(1,.slice a321 ((bags.take s.qx.length).length) c8),(2,.slice ae327 ((bags[s.qx.length]!).length) ce327)] (⟨H.pick [1,3,4,5] [4,5,6,7,8,9,10],(ro 12 rfl ?_)⟩)))⟩)
    obtain ⟨cp0,cp1,cp2,cp3⟩:=copy_pre (al:=t.qF) E_bags p8 p9.2 p12
    have sz331:=H.base.size
    refine oc (copied_ok _ (⟨t.qF,(bags.take s.qx.length),bags[s.qx.length]!⟩:qA) (H.get 7 rfl).1 (H.get 2 rfl).1 (H.get 0 rfl).1 qg qg qg qg) ?_
    rintro _ w329 ⟨ra328Alive,rn328Alive,rc328Alive,ra328Bags,rn328Bags,rc328Bags,rx328Bags,rF328Bags,ra328Around,rn328Around,rc328Around,rfl,M,K⟩ _
    replace N:=N.merge sz331 qm M
    replace H:=H.merge K M
    obtain rfl:=H.rowNB 0 rfl
    obtain rfl:=H.zy (α:=yLI) 1 rfl 0 rfl qj
    obtain rfl:=H.zQ 2 rfl
    refine ⟨H.pick [4,6,7,8] [5,6,7,8,9,10,11],(ro 14 rfl (xf H 3 [.slice ra328Alive (((⟨t.qF,(bags.take s.qx.length),bags[s.qx.length]!⟩:qA).qF).length) rc328Alive,.slice ra328Bags (((⟨t.qF,(bags.take s.qx.length),bags[s.qx.length]!⟩:qA).qL).length) rc328Bags,.slice ra328Around (((⟨t.qF,(bags.take s.qx.length),bags[s.qx.length]!⟩:qA).qH).length) rc328Around] sizeOf31 fun w336 H=>⟨H.pick [4,6,7,8] [5,6,7,8,9,10,11],(xh qh (?_))⟩))⟩
    exact meet ⟨_,b314,ra328Alive,rc328Alive,ra328Bags,rc328Bags,ra328Around,rc328Around,rx328Bags,rF328Bags,uE4,N,H.pick [3,0,1,2,4,5,6,7,8] [0,6,7,8,9,10]⟩
   obtain ⟨a337,c338,G339,s340,h341,H⟩:=H.jf 2 rfl 0 rfl (iv:=s.qx.length) s.qx.length qf qf
   refine zk (.slice a337 ((bags[s.qx.length]!).length) c338) isAgg24 rfl (h341) (⟨H.pick [1,3,4,5] [1,2,3,4,5,6,7],(ro 5 rfl ?_)⟩)
   obtain ⟨G342,hg344,hn343,H⟩:=H.freezeR (α:=yLI) 2 rfl 1 rfl qj
   have hl349:=H.isLen 0 rfl
   refine o_head H 0 rfl s.qx.length underlying29 ti24 rfl rfl qf qf fun a345 G346 hG347 H=>?_
   have hl348:(bags.take s.qx.length).length=s.qx.length:=List.length_take_of_le qf
   refine ⟨H.pick [1,3,4,5] [3,4,5,6,7,8,9],(ro 11 rfl (xK [.slice qU t.qF.length qQ,.slice a345 ((bags.take s.qx.length).length) c8,.slice a337 ((bags[s.qx.length]!).length) c338] [(0,.slice qU t.qF.length qQ),(1,.slice a345 ((bags.take s.qx.length).length) c8),(2,.slice a337 ((bags[s.qx.length]!).length) c338)] (⟨H.pick [1,3,4,5] [3,4,5,6,7,8,9],(ro 12 rfl ?_)⟩)))⟩
   obtain ⟨cp0,cp1,cp2,cp3⟩:=copy_pre (al:=t.qF) E_bags p8 p9.2 p12
   have sz353:=H.base.size
   refine oc (copied_ok _ (⟨t.qF,(bags.take s.qx.length),bags[s.qx.length]!⟩:qA) (H.get 6 rfl).1 (H.get 0 rfl).1 (H.get 2 rfl).1 qg qg qg qg) ?_
   rintro _ w351 ⟨ra350Alive,rn350Alive,rc350Alive,ra350Bags,rn350Bags,rc350Bags,rx350Bags,rF350Bags,ra350Around,rn350Around,rc350Around,rfl,M,K⟩ _
   replace N:=N.merge sz353 qm M
   replace H:=H.merge K M
   obtain rfl:=H.rowNB 0 rfl
   obtain rfl:=H.zy (α:=yLI) 1 rfl 0 rfl qj
   obtain rfl:=H.zQ 2 rfl
   refine ⟨H.pick [4,6,7,8] [4,5,6,7,8,9,10],(ro 14 rfl (xf H 3 [.slice ra350Alive (((⟨t.qF,(bags.take s.qx.length),bags[s.qx.length]!⟩:qA).qF).length) rc350Alive,.slice ra350Bags (((⟨t.qF,(bags.take s.qx.length),bags[s.qx.length]!⟩:qA).qL).length) rc350Bags,.slice ra350Around (((⟨t.qF,(bags.take s.qx.length),bags[s.qx.length]!⟩:qA).qH).length) rc350Around] sizeOf31 fun w358 H=>⟨H.pick [4,6,7,8] [4,5,6,7,8,9,10],(xh qh (?_))⟩))⟩
   exact meet ⟨_,b314,ra350Alive,rc350Alive,ra350Bags,rc350Bags,ra350Around,rc350Around,rx350Bags,rF350Bags,uE4,N,H.pick [3,0,1,2,4,5,6,7,8] [0,5,6,7,8,9]⟩
  refine r_have (fun ρ w361=>∃ (zB:Env) (b359:Nat),ρ=upd (upd (upd (upd (upd (upd (upd (upd (upd zB 3 (pp b1 0)) 6 (pp b5 0)) 9 (.slice (aa b36 0) s.qx.length s.qx.length)) 13 (pp b359 0)) 77 (.slice qU t.qF.length qQ)) 78 (.slice (aa b240 0) (t.qL.length+1) c8)) 80 (yI s.qx.length)) 82 (.slice (aa b240 0) (t.qL.length+1) c8)) 83 (.agg #[yI s.qV,.slice qC s.qx.length qB,.slice qJ s.qw.length qG])∧Fresh w.heap.size []∧St w w361 [.box b359 [yN,yN,yN] 31,rr (aa b36 0) s.qx.length s.qx.length 4 1 ((jA s counts s.qx.length i).map (Value.bool)),rr (aa b240 0) (t.qL.length+1) c8 24 1 x_bags,.box b5 [yN,yN,yN] 31,.box b3 (yT t qU qQ xE xu qN qM) 31,.box b1 (yS s qC qB qJ qG) 27] [xe false F_bags x_bags bags,sF false xk qC qB s.qx,sF false xN qJ qG s.qw,sF false zF qU qQ t.qF,sF false vF xE xu t.qL,sF false zh qN qM t.qH,sF false Fcounts acounts ccounts counts]) 7 #[true,true,true,true,true,false,true,true,false,false,false,false,false,true,false] ?_ fun L360=>?_
  ·skip
   rintro ρ w362 ⟨zB,b359,rfl,N,H⟩
   refine zH [5,8] qh qm (zW rfl ?_ (zW rfl ?_ zI))
   ·skip
    obtain ⟨G363,hg365,hn364,H⟩:=H.freezeR (α:=yLI) 2 rfl 0 rfl qj
    have hl370:=H.isLen 0 rfl
    refine o_head H 0 rfl s.qx.length underlying29 ti24 rfl rfl qf qf fun a366 G367 hG368 H=>?_
    have hl369:(bags.take s.qx.length).length=s.qx.length:=List.length_take_of_le qf
    refine ⟨H.pick [1,3,4,5] [2,3,4,5,6,7,8],(ro 8 rfl (oq (QT _ s (H.get 3 rfl).1 (H.get 4 rfl).1) H fun w372 H=>⟨H.pick [1,3,4,5] [2,3,4,5,6,7,8],?_⟩))⟩
    obtain ⟨ae374,ce374,Fe374,H⟩:=H.QH 1 rfl s.qx.length s.qx.length qf qf qf
    refine tI 9 rfl rfl rfl (H.pick [1,3,4,5] [4,5,6,7,8,9,10]) ?_
    refine ro 10 rfl (zk (.slice ae374 ((bags[s.qx.length]!).length) ce374) isAgg24 rfl (H.zZ 1 rfl 0 rfl) (⟨H.pick [1,3,4,5] [4,5,6,7,8,9,10],(ro 11 rfl (xK [.slice qU t.qF.length qQ,.slice a366 ((bags.take s.qx.length).length) c8,.slice ae374 ((bags[s.qx.length]!).length) ce374] [(0,.slice qU t.qF.length qQ),(1,.slice a366 ((bags.take s.qx.length).length) c8),(2,.slice ae374 ((bags[s.qx.length]!).length) ce374)] (⟨H.pick [1,3,4,5] [4,5,6,7,8,9,10],(ro 12 rfl ?_)⟩)))⟩))
    obtain ⟨cp0,cp1,cp2,cp3⟩:=copy_pre (al:=t.qF) E_bags p8 p9.2 p12
    have sz378:=H.base.size
    refine oc (copied_ok _ (⟨t.qF,(bags.take s.qx.length),bags[s.qx.length]!⟩:qA) (H.get 7 rfl).1 (H.get 2 rfl).1 (H.get 0 rfl).1 qg qg qg qg) ?_
    rintro _ w376 ⟨ra375Alive,rn375Alive,rc375Alive,ra375Bags,rn375Bags,rc375Bags,rx375Bags,rF375Bags,ra375Around,rn375Around,rc375Around,rfl,M,K⟩ _
    replace N:=N.merge sz378 qm M
    replace H:=H.merge K M
    obtain rfl:=H.rowNB 0 rfl
    obtain rfl:=H.zy (α:=yLI) 1 rfl 0 rfl qj
    obtain rfl:=H.zQ 2 rfl
    refine ⟨H.pick [4,6,7,8] [5,6,7,8,9,10,11],(ro 14 rfl (xf H 3 [.slice ra375Alive (((⟨t.qF,(bags.take s.qx.length),bags[s.qx.length]!⟩:qA).qF).length) rc375Alive,.slice ra375Bags (((⟨t.qF,(bags.take s.qx.length),bags[s.qx.length]!⟩:qA).qL).length) rc375Bags,.slice ra375Around (((⟨t.qF,(bags.take s.qx.length),bags[s.qx.length]!⟩:qA).qH).length) rc375Around] sizeOf31 fun w383 H=>⟨H.pick [4,6,7,8] [5,6,7,8,9,10,11],(xh qh (?_))⟩))⟩
    exact meet ⟨_,b359,ra375Alive,rc375Alive,ra375Bags,rc375Bags,ra375Around,rc375Around,rx375Bags,rF375Bags,uE4,N,H.pick [3,0,1,2,4,5,6,7,8] [0,6,7,8,9,10]⟩
   refine oq (QT _ s (H.get 1 rfl).1 (H.get 2 rfl).1) H fun w385 H=>⟨H.pick [1,3,4,5] [0,1,2,3,4,5,6],(tI 9 rfl rfl rfl (H.pick [1,3,4,5] [0,1,2,3,4,5,6]) ?_)⟩
   exact r_use L315 ⟨_,b359,uE8,N,H⟩
  have S:=H.jm [0,2,3,4] [0,1,2,3,4,5,6]
  refine tF 0 rfl rfl S ?_
  refine tL 1 rfl rfl (fun _ h=>h.cell 2 rfl rfl) S ?_
  refine rtp 2 (.slice (aa b240 0) (t.qL.length+1) c8) S ?_
  refine rt 3 (.agg #[yI s.qV,.slice qC s.qx.length qB,.slice qJ s.qw.length qG]) (yj (cs:=(yS s qC qB qJ qG)) isAgg27 sizeOf27 rfl (fun _ h=>qI (h.cells 3 rfl) 0 3)) S ?_
  refine rtp 6 (.slice (aa b240 0) (t.qL.length+1) c8) S ?_
  refine rt 7 (.agg #[yI s.qV,.slice qC s.qx.length qB,.slice qJ s.qw.length qG]) (yj (cs:=(yS s qC qB qJ qG)) isAgg27 sizeOf27 rfl (fun _ h=>qI (h.cells 3 rfl) 0 3)) S ?_
  refine zH [4,13] qh qm (zW rfl ?_ (zW rfl ?_ zI))
  ·skip
   refine oq (QT _ s (H.get 1 rfl).1 (H.get 2 rfl).1) H fun w388 H=>⟨H.pick [0,2,3,4] [0,1,2,3,4,5,6],(zH [5,8,13] qh qm (zW rfl ?_ (zW rfl ?_ (zW rfl ?_ zI))))⟩
   ·skip
    obtain ⟨G390,hg392,hn391,H⟩:=H.freezeR (α:=yLI) 1 rfl 0 rfl qj
    have hl397:=H.isLen 0 rfl
    refine o_head H 0 rfl s.qx.length underlying29 ti24 rfl rfl qf qf fun a393 G394 hG395 H=>?_
    have hl396:(bags.take s.qx.length).length=s.qx.length:=List.length_take_of_le qf
    refine ⟨H.pick [0,2,3,4] [2,3,4,5,6,7,8],(zH [8,13] qh qm (zW rfl ?_ (zW rfl ?_ zI)))⟩
    ·skip
     refine oq (QT _ s (H.get 3 rfl).1 (H.get 4 rfl).1) H fun w399 H=>⟨H.pick [0,2,3,4] [2,3,4,5,6,7,8],?_⟩
     obtain ⟨ae401,ce401,Fe401,H⟩:=H.QH 1 rfl s.qx.length s.qx.length qf qf qf
     refine tI 9 rfl rfl rfl (H.pick [0,2,3,4] [4,5,6,7,8,9,10]) ?_
     exact r_use L296 ⟨_,a393,G394,G390,uE6,N,H.pick [0,1,2,3,4] [2,3,4,5,6,7,8,9,10]⟩
    refine xx H ti31 [yN,yN,yN] fun b402 w403 H=>⟨H.pick [1,3,4,5] [2,3,4,5,6,7,8],(ro 8 rfl (oq (QT _ s (H.get 3 rfl).1 (H.get 4 rfl).1) H fun w405 H=>⟨H.pick [1,3,4,5] [2,3,4,5,6,7,8],?_⟩))⟩
    obtain ⟨ae407,ce407,Fe407,H⟩:=H.QH 1 rfl s.qx.length s.qx.length qf qf qf
    refine tI 9 rfl rfl rfl (H.pick [1,3,4,5] [4,5,6,7,8,9,10]) ?_
    refine ro 10 rfl (zk (.slice ae407 ((bags[s.qx.length]!).length) ce407) isAgg24 rfl (H.zZ 1 rfl 0 rfl) (⟨H.pick [1,3,4,5] [4,5,6,7,8,9,10],(ro 11 rfl (xK [.slice qU t.qF.length qQ,.slice a393 ((bags.take s.qx.length).length) c8,.slice ae407 ((bags[s.qx.length]!).length) ce407] [(0,.slice qU t.qF.length qQ),(1,.slice a393 ((bags.take s.qx.length).length) c8),(2,.slice ae407 ((bags[s.qx.length]!).length) ce407)] (⟨H.pick [1,3,4,5] [4,5,6,7,8,9,10],(ro 12 rfl ?_)⟩)))⟩))
    obtain ⟨cp0,cp1,cp2,cp3⟩:=copy_pre (al:=t.qF) E_bags p8 p9.2 p12
    have sz411:=H.base.size
    refine oc (copied_ok _ (⟨t.qF,(bags.take s.qx.length),bags[s.qx.length]!⟩:qA) (H.get 7 rfl).1 (H.get 2 rfl).1 (H.get 0 rfl).1 qg qg qg qg) ?_
    rintro _ w409 ⟨ra408Alive,rn408Alive,rc408Alive,ra408Bags,rn408Bags,rc408Bags,rx408Bags,rF408Bags,ra408Around,rn408Around,rc408Around,rfl,M,K⟩ _
    replace N:=N.merge sz411 qm M
    replace H:=H.merge K M
    obtain rfl:=H.rowNB 0 rfl
    obtain rfl:=H.zy (α:=yLI) 1 rfl 0 rfl qj
    obtain rfl:=H.zQ 2 rfl
    refine ⟨H.pick [4,6,7,8] [5,6,7,8,9,10,11],(ro 14 rfl (xf H 3 [.slice ra408Alive (((⟨t.qF,(bags.take s.qx.length),bags[s.qx.length]!⟩:qA).qF).length) rc408Alive,.slice ra408Bags (((⟨t.qF,(bags.take s.qx.length),bags[s.qx.length]!⟩:qA).qL).length) rc408Bags,.slice ra408Around (((⟨t.qF,(bags.take s.qx.length),bags[s.qx.length]!⟩:qA).qH).length) rc408Around] sizeOf31 fun w416 H=>⟨H.pick [4,6,7,8] [5,6,7,8,9,10,11],(xh qh (?_))⟩))⟩
    exact meet ⟨_,b402,ra408Alive,rc408Alive,ra408Bags,rc408Bags,ra408Around,rc408Around,rx408Bags,rF408Bags,uE4,N,H.pick [3,0,1,2,4,5,6,7,8] [0,6,7,8,9,10]⟩
   ·skip
    refine oq (QT _ s (H.get 1 rfl).1 (H.get 2 rfl).1) H fun w418 H=>⟨H.pick [0,2,3,4] [0,1,2,3,4,5,6],(tI 9 rfl rfl rfl (H.pick [0,2,3,4] [0,1,2,3,4,5,6]) ?_)⟩
    refine zH [5,10,13] qh qm (zW rfl ?_ (zW rfl ?_ (zW rfl ?_ zI)))
    ·skip
     obtain ⟨G420,hg422,hn421,H⟩:=H.freezeR (α:=yLI) 1 rfl 0 rfl qj
     have hl427:=H.isLen 0 rfl
     refine o_head H 0 rfl s.qx.length underlying29 ti24 rfl rfl qf qf fun a423 G424 hG425 H=>?_
     have hl426:(bags.take s.qx.length).length=s.qx.length:=List.length_take_of_le qf
     refine ⟨H.pick [0,2,3,4] [2,3,4,5,6,7,8],(r_use L296 ⟨_,a423,G424,G420,uE6,N,H⟩)⟩
    ·skip
     obtain ⟨a428,c429,G430,s431,h432,H⟩:=H.jf 1 rfl 0 rfl (iv:=s.qx.length) s.qx.length qf qf
     refine zk (.slice a428 ((bags[s.qx.length]!).length) c429) isAgg24 rfl (h432) (⟨H.pick [0,2,3,4] [1,2,3,4,5,6,7],(zH [5,13] qh qm (zW rfl ?_ (zW rfl ?_ zI)))⟩)
     ·skip
      obtain ⟨G433,hg435,hn434,H⟩:=H.freezeR (α:=yLI) 1 rfl 1 rfl qj
      have hl440:=H.isLen 0 rfl
      refine o_head H 0 rfl s.qx.length underlying29 ti24 rfl rfl qf qf fun a436 G437 hG438 H=>?_
      have hl439:(bags.take s.qx.length).length=s.qx.length:=List.length_take_of_le qf
      refine ⟨H.pick [0,2,3,4] [3,4,5,6,7,8,9],(r_use L257 ⟨_,a428,c429,a436,G437,G430,uE6,N,H.pick [0,1,2,3,4] [0,2,3,4,5,6,7,8,9]⟩)⟩
     refine xx H ti31 [yN,yN,yN] fun b441 w442 H=>⟨H.pick [1,3,4,5] [1,2,3,4,5,6,7],(ro 5 rfl ?_)⟩
     obtain ⟨G443,hg445,hn444,H⟩:=H.freezeR (α:=yLI) 2 rfl 1 rfl qj
     have hl450:=H.isLen 0 rfl
     refine o_head H 0 rfl s.qx.length underlying29 ti24 rfl rfl qf qf fun a446 G447 hG448 H=>?_
     have hl449:(bags.take s.qx.length).length=s.qx.length:=List.length_take_of_le qf
     refine ⟨H.pick [1,3,4,5] [3,4,5,6,7,8,9],(ro 11 rfl (xK [.slice qU t.qF.length qQ,.slice a446 ((bags.take s.qx.length).length) c8,.slice a428 ((bags[s.qx.length]!).length) c429] [(0,.slice qU t.qF.length qQ),(1,.slice a446 ((bags.take s.qx.length).length) c8),(2,.slice a428 ((bags[s.qx.length]!).length) c429)] (⟨H.pick [1,3,4,5] [3,4,5,6,7,8,9],(ro 12 rfl ?_)⟩)))⟩
     obtain ⟨cp0,cp1,cp2,cp3⟩:=copy_pre (al:=t.qF) E_bags p8 p9.2 p12
     have sz454:=H.base.size
     refine oc (copied_ok _ (⟨t.qF,(bags.take s.qx.length),bags[s.qx.length]!⟩:qA) (H.get 6 rfl).1 (H.get 0 rfl).1 (H.get 2 rfl).1 qg qg qg qg) ?_
     rintro _ w452 ⟨ra451Alive,rn451Alive,rc451Alive,ra451Bags,rn451Bags,rc451Bags,rx451Bags,rF451Bags,ra451Around,rn451Around,rc451Around,rfl,M,K⟩ _
     replace N:=N.merge sz454 qm M
     replace H:=H.merge K M
     obtain rfl:=H.rowNB 0 rfl
     obtain rfl:=H.zy (α:=yLI) 1 rfl 0 rfl qj
     obtain rfl:=H.zQ 2 rfl
     refine ⟨H.pick [4,6,7,8] [4,5,6,7,8,9,10],(ro 14 rfl (xf H 3 [.slice ra451Alive (((⟨t.qF,(bags.take s.qx.length),bags[s.qx.length]!⟩:qA).qF).length) rc451Alive,.slice ra451Bags (((⟨t.qF,(bags.take s.qx.length),bags[s.qx.length]!⟩:qA).qL).length) rc451Bags,.slice ra451Around (((⟨t.qF,(bags.take s.qx.length),bags[s.qx.length]!⟩:qA).qH).length) rc451Around] sizeOf31 fun w459 H=>⟨H.pick [4,6,7,8] [4,5,6,7,8,9,10],(xh qh (?_))⟩))⟩
     exact meet ⟨_,b441,ra451Alive,rc451Alive,ra451Bags,rc451Bags,ra451Around,rc451Around,rx451Bags,rF451Bags,uE4,N,H.pick [3,0,1,2,4,5,6,7,8] [0,5,6,7,8,9]⟩
    refine xx H ti31 [yN,yN,yN] fun b460 w461 H=>⟨H.pick [1,3,4,5] [0,1,2,3,4,5,6],(r_use L315 ⟨_,b460,uE8,N,H⟩)⟩
   refine xx H ti31 [yN,yN,yN] fun b462 w463 H=>⟨H.pick [1,3,4,5] [0,1,2,3,4,5,6],(r_use L360 ⟨_,b462,uE9,N,H⟩)⟩
  refine xx H ti31 [yN,yN,yN] fun b464 w465 H=>⟨H.pick [1,3,4,5] [0,1,2,3,4,5,6],(ro 4 rfl (oq (QT _ s (H.get 1 rfl).1 (H.get 2 rfl).1) H fun w467 H=>⟨H.pick [1,3,4,5] [0,1,2,3,4,5,6],(r_use L360 ⟨_,b464,uE9,N,H⟩)⟩))⟩
 clear H N
 rintro ρ w469 ⟨zB,b241,ra242,rc243,ra244,rc245,ra246,rc247,rx248,rF249,rfl,N,H⟩
 refine t_n (zcc (sp (.slice (aa b36 0) s.qx.length s.qx.length) (oN rfl (sw (o_sub s.qx.length 1 rfl rfl qf (sp (yI (s.qx.length - 1)) (zjn (xq ?_))))))))
 obtain rfl:i=s.qw.length:=by omega
 have hl:=stepped_live p1 E_bags qf
 obtain ⟨s1,s2⟩:=step_tab E_bags
 rw [show (⟨t.qF,(bags.take s.qx.length),bags[s.qx.length]!⟩:qA)=xw s t counts from by rw [show bags.take s.qx.length=_ from s1,show bags[s.qx.length]! =_ from s2];rfl] at H
 refine vg (fun m' ρ w470=>∃ (zB:Env) (c:Int) (out_Alive:List Bool) (out_Bags:yLL) (yA:List Value) (ja:yLN) (j:Nat),ρ=upd (upd (upd (upd (upd zB 3 (pp b1 0)) 6 (pp b5 0)) 9 (.slice (aa b36 0) s.qx.length s.qx.length)) 13 (pp b241 0)) 14 (yI c)∧out_Alive=(xC s counts (xw s t counts) j).qF∧out_Bags=(xC s counts (xw s t counts) j).qL∧(c=(s.qx.length:Int) - 1 - j)∧(j+1≤s.qx.length)∧m' =(c:Int).toNat∧Fresh w.heap.size [ja]∧St w w470 [.box b241 [.slice ra242 (((xw s t counts).qF).length) rc243,.slice ra244 (((xw s t counts).qL).length) rc245,.slice ra246 (((xw s t counts).qH).length) rc247] 31,rr ra242 (((xw s t counts).qF).length) rc243 4 1 (out_Alive.map (Value.bool)),rr ra244 (((xw s t counts).qL).length) rc245 24 1 yA,rr ra246 (((xw s t counts).qH).length) rc247 2 1 (((xw s t counts).qH).map (Value.int .i64)),rr (aa b36 0) s.qx.length s.qx.length 4 1 ((jA s counts s.qx.length s.qw.length).map (Value.bool)),.box b5 [yN,yN,yN] 31,.box b3 (yT t qU qQ xE xu qN qM) 31,.box b1 (yS s qC qB qJ qG) 27] [xe true ja yA out_Bags,sF false xk qC qB s.qx,sF false xN qJ qG s.qw,sF false zF qU qQ t.qF,sF false vF xE xu t.qL,sF false zh qN qM t.qH]) (((s.qx.length - 1):Int).toNat) ⟨_,s.qx.length - 1,(xw s t counts).qF,(xw s t counts).qL,rx248,rF249,0,uE5,(by rfl),(by rfl),qf,qf,rfl,N,H.pick [0,1,2,3,4,6,7,8] [0,1,2,3,4,5]⟩ ?_
 clear H N
 rintro m' ρ w471 ⟨zB,c,out_Alive,out_Bags,yA,ja,j,rfl,rfl,rfl,ic,jc,rfl,N,H⟩
 have hn_out_Alive:=H.rowNB 1 rfl
 have hn_out_Bags:=H.zy (α:=yLI) 2 rfl 0 rfl qj
 have L:=meltDown_live (counts:=counts) p0 hl j qf
 have L1:=L.alive
 have L2:=L.root
 have L3:=L.bags.1
 rw [← Qx s counts (xw s t counts) j] at H
 refine zcc (sps [yI c,.bool (decide ((c:Int) > 0))] (zjn (cD rfl (fun h472=>?_) (fun h472=>?_))))
 ·skip
  refine xB (t_n (zx (xq (zcr (sps [.slice (aa b36 0) s.qx.length s.qx.length,yI c] (oI rfl rfl (oL rfl (H.rowBool 4 rfl (iv:=c) (i:=c.toNat) qf qf) (zjn (xZ ((jA s counts s.qx.length s.qw.length)[c.toNat]!) rfl (fun h473=>?_) (fun h473=>?_))))))))))
  ·skip
   refine zJ (sw (zi (yS s qC qB qJ qG) isAgg27 sizeOf27 rfl (qI (H.cells 7 rfl) 0 3) (sp (yI c) (sw (vS #[.agg #[yI s.qV,.slice qC s.qx.length qB,.slice qJ s.qw.length qG],pp b241 0,yI c] rfl rfl call33 (en func33 ntmps33 ?_))))))
   refine zcr (sw (vP H (yS s qC qB qJ qG) fun b474 w475 H=>zjn (zx ?_)))
   refine y9 rfl H fun H=>rt 0 (.agg #[yI s.qV,.slice qC s.qx.length qB,.slice qJ s.qw.length qG]) (yj (cs:=(yS s qC qB qJ qG)) isAgg27 sizeOf27 rfl (fun _ h=>qI (h.cells 0 rfl) 0 3)) H ?_
   refine rtp 1 (pp b241 0) H ?_
   refine rtp 2 (pp b241 0) H ?_
   refine rt 3 (.agg #[.slice ra242 (((xw s t counts).qF).length) rc243,.slice ra244 (((xw s t counts).qL).length) rc245,.slice ra246 (((xC s counts (xw s t counts) j).qH).length) rc247]) (yj (cs:=[.slice ra242 (((xw s t counts).qF).length) rc243,.slice ra244 (((xw s t counts).qL).length) rc245,.slice ra246 (((xC s counts (xw s t counts) j).qH).length) rc247]) isAgg31 sizeOf31 rfl (fun _ h=>qI (h.cells 1 rfl) 0 3)) H ?_
   refine rtp 4 (yI c) H ?_
   refine ro 5 rfl ?_
   obtain ⟨G477,hn478,h479⟩:=H.rowIsB 2 rfl
   obtain ⟨G480,hn481,h482⟩:=H.rowIsR (α:=yLI) 3 rfl 0 rfl qj
   obtain ⟨G483,hn484,h485⟩:=H.rowIsI 4 rfl
   refine oq (args_eq (by rw [← hn478,← hn481]) (parentNow_ok _ s (xC s counts (xw s t counts) j) c (H.get 1 rfl).1 (H.get 2 rfl).1 (hn478▸h479) (hn481▸h482) h485 qg qg qg)) H fun w487 H=>?_
   have pin:=QZ (s:=s) (t:=(xC s counts (xw s t counts) j)) (c:=c) p0.1 L2 qf qf
   refine ⟨H,(rtp 6 (yI (qZ s (xC s counts (xw s t counts) j) c)) H ?_)⟩
   refine xh qh (t_n (zx ?_))
   obtain ⟨b489,rfl⟩:=H.Qv 3 rfl qf
   refine c_cut (fun ρ w492=>∃ (zB:Env) (xs490:List Value) (F491:yLN),ρ=upd (upd (upd zB 1 (pp b241 0)) 2 (yI c)) 3 (pp b474 0)∧Fresh w.heap.size [F491]∧St w w492 [.box b474 (yS s qC qB qJ qG) 27,.box b241 [.slice ra242 (((xw s t counts).qF).length) rc243,.slice (aa b489 0) (((xw s t counts).qL).length) rc245,.slice ra246 (((xC s counts (xw s t counts) j).qH).length) rc247] 31,rr ra242 (((xw s t counts).qF).length) rc243 4 1 (((xC s counts (xw s t counts) j).qF).map (Value.bool)),rr (aa b489 0) (((xw s t counts).qL).length) rc245 24 1 xs490,rr ra246 (((xC s counts (xw s t counts) j).qH).length) rc247 2 1 (((xC s counts (xw s t counts) j).qH).map (Value.int .i64)),rr (aa b36 0) s.qx.length s.qx.length 4 1 ((jA s counts s.qx.length s.qw.length).map (Value.bool)),.box b5 [yN,yN,yN] 31,.box b3 (yT t qU qQ xE xu qN qM) 31,.box b1 (yS s qC qB qJ qG) 27] [xe true F491 xs490 (((xC s counts (xw s t counts) j).qL).set ((qZ s (xC s counts (xw s t counts) j) c).toNat) (yf (((xC s counts (xw s t counts) j).qL)[(qZ s (xC s counts (xw s t counts) j) c).toNat]!) (((xC s counts (xw s t counts) j).qL)[c.toNat]!) 1)),sF false xk qC qB s.qx,sF false xN qJ qG s.qw,sF false zF qU qQ t.qF,sF false vF xE xu t.qL,sF false zh qN qM t.qH]) ?_ ?_
   ·skip
    refine yE rfl H [0,1,2,4,5,6,7,8] fun H=>?_
    have S:=H.jm [0,1,2,4,5,6,7,8] [0,1,2,3,4,5]
    refine rtp 0 (pp b241 0) S ?_
    refine rtp 1 (pp b241 0) S ?_
    refine tF 2 rfl rfl S ?_
    refine tL 3 rfl rfl (fun _ h=>h.cell 1 rfl rfl) S ?_
    refine rtp 4 (yI (qZ s (xC s counts (xw s t counts) j) c)) S ?_
    refine rtp 5 (pp b241 0) S ?_
    refine rtp 6 (pp b241 0) S ?_
    refine tF 7 rfl rfl S ?_
    refine tL 8 rfl rfl (fun _ h=>h.cell 1 rfl rfl) S ?_
    refine rtp 9 (yI (qZ s (xC s counts (xw s t counts) j) c)) S ?_
    refine tI 10 rfl rfl rfl S ?_
    refine rtp 12 (pp b241 0) S ?_
    refine rtp 13 (pp b241 0) S ?_
    refine tF 14 rfl rfl S ?_
    refine tL 15 rfl rfl (fun _ h=>h.cell 1 rfl rfl) S ?_
    refine rtp 16 (yI c) S ?_
    refine tI 17 rfl rfl rfl S ?_
    refine zH [11,18] qh qm (zW rfl ?_ (zW rfl ?_ zI))
    ·skip
     obtain ⟨a494,c495,G496,s497,h498,H⟩:=H.jf 3 rfl 0 rfl (iv:=qZ s (xC s counts (xw s t counts) j) c) ((qZ s (xC s counts (xw s t counts) j) c).toNat) qf qf
     refine zk (.slice a494 ((((xC s counts (xw s t counts) j).qL)[(qZ s (xC s counts (xw s t counts) j) c).toNat]!).length) c495) isAgg24 rfl (h498) (⟨H.pick [0,1,2,4,5,6,7,8] [1,2,3,4,5,6],(ro 18 rfl ?_)⟩)
     obtain ⟨a499,c500,G501,s502,h503,H⟩:=H.jf 3 rfl 1 rfl (iv:=c) c.toNat qf qf
     refine zk (.slice a499 ((((xC s counts (xw s t counts) j).qL)[c.toNat]!).length) c500) isAgg24 rfl (h503) (⟨H.pick [0,1,2,4,5,6,7,8] [2,3,4,5,6,7],(ro 19 rfl ?_)⟩)
     obtain ⟨u1,u2,u4⟩:=L.rows p0 (bnd_le qf) (p:=(qZ s (xC s counts (xw s t counts) j) c).toNat) (c:=c.toNat) qf qf
     have sz504:=H.base.size
     have lt505:=H.ltN (L:=[ja]) [2]
     refine oc (QW _ (((xC s counts (xw s t counts) j).qL)[(qZ s (xC s counts (xw s t counts) j) c).toNat]!) (((xC s counts (xw s t counts) j).qL)[c.toNat]!) 1 (H.get 1 rfl).1 (H.get 0 rfl).1 qg qg qg) ?_
     rintro v509 w507 r509 x508
     replace H:=H.vG x508 r509
     obtain ⟨a510,c511,rfl,hc512,hm513⟩:=H.yB 0 rfl
     refine ⟨H.pick [1,2,3,5,6,7,8,9] [2,3,4,5,6,7],(tI 20 rfl rfl rfl (H.pick [1,2,3,5,6,7,8,9] [2,3,4,5,6,7]) ?_)⟩
     refine ro 21 rfl ?_
     obtain ⟨G515,N,hn516,H⟩:=H.zX 0 rfl N (H.jC [2])
     refine jq true H 4 rfl 3 rfl (.slice a510 ((yf (((xC s counts (xw s t counts) j).qL)[(qZ s (xC s counts (xw s t counts) j) c).toNat]!) (((xC s counts (xw s t counts) j).qL)[c.toNat]!) 1).length) c511) 0 rfl rfl sizeOf24 rfl rfl (i:=((qZ s (xC s counts (xw s t counts) j) c).toNat)) qf qf qm fun w514 xs517 F518 hs519 H=>?_
     replace N:Fresh w.heap.size [F518]:=(N.pick [1,0]).repl hs519
     refine ⟨H.pick [1,2,3,5,6,7,8,9] [4,5,6,7,8,9],(xh qh ((meet ⟨_,xs517,F518,uE3,N,H.pick [1,2,3,4,5,6,7,8,9] [0,5,6,7,8,9]⟩)))⟩
    obtain ⟨a520,c521,G522,s523,h524,H⟩:=H.jf 3 rfl 0 rfl (iv:=c) c.toNat qf qf
    refine zk (.slice a520 ((((xC s counts (xw s t counts) j).qL)[c.toNat]!).length) c521) isAgg24 rfl (h524) (⟨H.pick [0,1,2,4,5,6,7,8] [1,2,3,4,5,6],(ro 11 rfl ?_)⟩)
    obtain ⟨a525,c526,G527,s528,h529,H⟩:=H.jf 3 rfl 1 rfl (iv:=qZ s (xC s counts (xw s t counts) j) c) ((qZ s (xC s counts (xw s t counts) j) c).toNat) qf qf
    refine zk (.slice a525 ((((xC s counts (xw s t counts) j).qL)[(qZ s (xC s counts (xw s t counts) j) c).toNat]!).length) c526) isAgg24 rfl (h529) (⟨H.pick [0,1,2,4,5,6,7,8] [2,3,4,5,6,7],(ro 19 rfl ?_)⟩)
    obtain ⟨u1,u2,u4⟩:=L.rows p0 (bnd_le qf) (p:=(qZ s (xC s counts (xw s t counts) j) c).toNat) (c:=c.toNat) qf qf
    have sz530:=H.base.size
    have lt531:=H.ltN (L:=[ja]) [2]
    refine oc (QW _ (((xC s counts (xw s t counts) j).qL)[(qZ s (xC s counts (xw s t counts) j) c).toNat]!) (((xC s counts (xw s t counts) j).qL)[c.toNat]!) 1 (H.get 0 rfl).1 (H.get 1 rfl).1 qg qg qg) ?_
    rintro v535 w533 r535 x534
    replace H:=H.vG x534 r535
    obtain ⟨a536,c537,rfl,hc538,hm539⟩:=H.yB 0 rfl
    refine ⟨H.pick [1,2,3,5,6,7,8,9] [2,3,4,5,6,7],(tI 20 rfl rfl rfl (H.pick [1,2,3,5,6,7,8,9] [2,3,4,5,6,7]) ?_)⟩
    refine ro 21 rfl ?_
    obtain ⟨G541,N,hn542,H⟩:=H.zX 0 rfl N (H.jC [2])
    refine jq true H 4 rfl 3 rfl (.slice a536 ((yf (((xC s counts (xw s t counts) j).qL)[(qZ s (xC s counts (xw s t counts) j) c).toNat]!) (((xC s counts (xw s t counts) j).qL)[c.toNat]!) 1).length) c537) 0 rfl rfl sizeOf24 rfl rfl (i:=((qZ s (xC s counts (xw s t counts) j) c).toNat)) qf qf qm fun w540 xs543 F544 hs545 H=>?_
    replace N:Fresh w.heap.size [F544]:=(N.pick [1,0]).repl hs545
    refine ⟨H.pick [1,2,3,5,6,7,8,9] [4,5,6,7,8,9],(xh qh ((meet ⟨_,xs543,F544,uE3,N,H.pick [1,2,3,4,5,6,7,8,9] [0,5,6,7,8,9]⟩)))⟩
   clear H N
   rintro ρ w546 ⟨zB,xs490,F491,rfl,N,H⟩
   refine t_n (zx ?_)
   refine yE rfl H [0,1,2,4,5,6,7,8] fun H=>?_
   have S:=H.jm [0,1,2,4,5,6,7,8] [0,1,2,3,4,5]
   refine rtp 0 (pp b241 0) S ?_
   refine rtp 1 (pp b241 0) S ?_
   refine tF 2 rfl rfl S ?_
   refine tL 3 rfl rfl (fun _ h=>h.cell 1 rfl rfl) S ?_
   refine rtp 4 (yI c) S ?_
   refine tF 5 rfl rfl S ?_
   refine tL 6 rfl rfl (fun _ h=>h.cell 0 rfl rfl) S ?_
   refine ro 7 rfl (zg H underlying24 ti2 s.qV.toNat rfl rfl qf qf qf fun b548 w549 H=>⟨H.pick [1,2,3,5,6,7,8,9] [0,1,2,3,4,5],(tI 8 rfl rfl rfl (H.pick [1,2,3,5,6,7,8,9] [0,1,2,3,4,5]) ?_)⟩)
   refine ro 9 rfl ?_
   obtain ⟨G551,N,hn552,H⟩:=H.zX 0 rfl N (H.jC [0])
   refine jq true H 4 rfl 1 rfl (.slice (aa b548 0) s.qV.toNat s.qV.toNat) 0 rfl rfl sizeOf24 rfl rfl (i:=c.toNat) qf qf qm fun w550 xs553 F554 hs555 H=>?_
   replace N:Fresh w.heap.size [F554]:=(N.pick [1,0]).repl hs555
   refine ⟨H.pick [1,2,3,5,6,7,8,9] [2,3,4,5,6,7],(xh qh (t_n (zJ (sps [pp b241 0,pp b241 0] (oF rfl (oL rfl (H.cell 2 rfl rfl) (sp (yI c) ?_)))))))⟩
   obtain ⟨b556,rfl⟩:=H.Qv 3 rfl qf
   refine oI rfl rfl (sw (QX H 3 rfl false sizeOf4 rfl rfl (i:=c.toNat) qf qf fun w557 H=>zK (ret0 rfl ⟨_,rfl,?_⟩)))
   replace H:=H.erases [1,0]
   dsimp only [jg,List.eraseIdx] at H
   refine zK (b_n (t_n (zJ (sp (yI c) (sw (o_sub c 1 rfl rfl qf (sp (yI (c - 1)) (zK ?_))))))))
   rw [Qx] at H
   refine xH (m' :=((c - 1):Int).toNat) qf ⟨_,c - 1,(((xC s counts (xw s t counts) j).qF).set c.toNat false),((((xC s counts (xw s t counts) j).qL).set ((qZ s (xC s counts (xw s t counts) j) c).toNat) (yf (((xC s counts (xw s t counts) j).qL)[(qZ s (xC s counts (xw s t counts) j) c).toNat]!) (((xC s counts (xw s t counts) j).qL)[c.toNat]!) 1)).set c.toNat (List.replicate s.qV.toNat (0:Int))),xs553,F554,j+1,uE5,?_,?_,?_,?_,rfl,N,H.pick [0,1,2,3,4,5,6,7] [0,3,4,5,6,7]⟩
   · first | (rw [meltDown_yesL (c:=c) ‹_› qf qf rfl ic];rfl) | rw [meltDown_noL (c:=c) ‹_› qf qf rfl ic]
   · first | (rw [meltDown_yesL (c:=c) ‹_› qf qf rfl ic];rfl) | rw [meltDown_noL (c:=c) ‹_› qf qf rfl ic]
   · omega
   · omega
  refine xB (b_n (t_n (zJ (sp (yI c) (sw (o_sub c 1 rfl rfl qf (sp (yI (c - 1)) (zK ?_))))))))
  rw [Qx] at H
  refine xH (m' :=((c - 1):Int).toNat) qf ⟨_,c - 1,((xC s counts (xw s t counts) j).qF),((xC s counts (xw s t counts) j).qL),yA,ja,j+1,uE5,?_,?_,?_,?_,rfl,N,H⟩
  · first | (rw [meltDown_yesL (c:=c) ‹_› qf qf rfl ic];rfl) | rw [meltDown_noL (c:=c) ‹_› qf qf rfl ic]
  · first | (rw [meltDown_yesL (c:=c) ‹_› qf qf rfl ic];rfl) | rw [meltDown_noL (c:=c) ‹_› qf qf rfl ic]
  · omega
  · omega
 refine zx4 (zcr (sw (zi (yS s qC qB qJ qG) isAgg27 sizeOf27 rfl (qI (H.cells 7 rfl) 0 3) (sw (zi [.slice ra242 (((xw s t counts).qF).length) rc243,.slice ra244 (((xw s t counts).qL).length) rc245,.slice ra246 (((xC s counts (xw s t counts) j).qH).length) rc247] isAgg31 sizeOf31 rfl (qI (H.cells 0 rfl) 0 3) ?_)))))
 refine sw (vS #[.agg #[yI s.qV,.slice qC s.qx.length qB,.slice qJ s.qw.length qG],.agg #[.slice ra242 (((xw s t counts).qF).length) rc243,.slice ra244 (((xw s t counts).qL).length) rc245,.slice ra246 (((xC s counts (xw s t counts) j).qH).length) rc247]] rfl rfl call34 (en func34 ntmps34 ?_))
 refine zcr (sw (vP H (yS s qC qB qJ qG) fun b558 w559 H=>sw (vP H [.slice ra242 (((xw s t counts).qF).length) rc243,.slice ra244 (((xw s t counts).qL).length) rc245,.slice ra246 (((xC s counts (xw s t counts) j).qH).length) rc247] fun b560 w561 H=>sw (xx H ti31 [yN,yN,yN] fun b562 w563 H=>sp (yI 0) (zjcc ?_)))))
 refine sw (zi (yS s qC qB qJ qG) isAgg27 sizeOf27 rfl (qI (H.cells 2 rfl) 0 3) (sw (zi [.slice ra242 (((xw s t counts).qF).length) rc243,.slice ra244 (((xw s t counts).qL).length) rc245,.slice ra246 (((xC s counts (xw s t counts) j).qH).length) rc247] isAgg31 sizeOf31 rfl (qI (H.cells 1 rfl) 0 3) ?_)))
 obtain ⟨G564,hn565,h566⟩:=H.rowIsB 4 rfl
 obtain ⟨G567,hn568,h569⟩:=H.rowIsR (α:=yLI) 5 rfl 0 rfl qj
 obtain ⟨G570,hn571,h572⟩:=H.rowIsI 6 rfl
 refine sw (oq (args_eq (by rw [← hn565,← hn568]) (validState_ok _ s (xC s counts (xw s t counts) j) (H.get 1 rfl).1 (H.get 2 rfl).1 (hn565▸h566) (hn568▸h569) h572)) H fun w574 H=>sp (.bool (!(dec (ve s∧xP s (xC s counts (xw s t counts) j))))) (zjn (cQ rfl (fun h576=>?_) (fun h576=>?_))))
 ·skip
  refine zcr (sw (xK [yN,yN,yN] [] (sw (xf H 0 [yN,yN,yN] sizeOf31 fun w577 H=>sp (yI 3) (zjr (t_r (retC2 H 0 rfl (yI 3) rfl isAgg31 sizeOf31 rfl rfl ⟨_,rfl,?_⟩)))))))
  replace H:=H.erases [2,1,0]
  dsimp only [jg,List.eraseIdx] at H
  refine sps [.agg #[yN,yN,yN],yI 3] (sw (xf H 5 [yN,yN,yN] sizeOf31 fun w578 H=>sp (yI 3) (zjr ?_)))
  replace H:=H.nilRowB 4
  replace H:=H.nilRow 24 1
  replace H:=H.Qn (α:=yLI)
  replace H:=H.nilRowI 2
  refine retC2 H 8 rfl (yI 3) rfl isAgg31 sizeOf31 rfl rfl ⟨_,rfl,?_,H.base⟩
  rw [stepBy_yes p3,stepRes,show xJ s - 1=j by omega,told_no (fun h=>‹¬ (ve s∧_)› ⟨p0,h⟩)]
  exact ⟨none,0,0,none,0,0,[],[],none,0,0,rfl,(N.emp.pick [0]),H.pick [2,1,0] [0]⟩
 refine xB (t_n (zcr (sw (zi [.slice ra242 (((xw s t counts).qF).length) rc243,.slice ra244 (((xw s t counts).qL).length) rc245,.slice ra246 (((xC s counts (xw s t counts) j).qH).length) rc247] isAgg31 sizeOf31 rfl (qI (H.cells 1 rfl) 0 3) (sw (xf H 0 [.slice ra242 (((xw s t counts).qF).length) rc243,.slice ra244 (((xw s t counts).qL).length) rc245,.slice ra246 (((xC s counts (xw s t counts) j).qH).length) rc247] sizeOf31 fun w579 H=>sp (yI 0) (zjr (retC2 H 0 rfl (yI 0) rfl isAgg31 sizeOf31 rfl rfl ⟨_,rfl,?_⟩))))))))
 replace H:=H.erases [2,1,0]
 dsimp only [jg,List.eraseIdx] at H
 refine sps [.agg #[.slice ra242 (((xw s t counts).qF).length) rc243,.slice ra244 (((xw s t counts).qL).length) rc245,.slice ra246 (((xC s counts (xw s t counts) j).qH).length) rc247],yI 0] (sw (xf H 5 [.slice ra242 (((xw s t counts).qF).length) rc243,.slice ra244 (((xw s t counts).qL).length) rc245,.slice ra246 (((xC s counts (xw s t counts) j).qH).length) rc247] sizeOf31 fun w580 H=>sp (yI 0) (zjr (retC2 H 5 rfl (yI 0) rfl isAgg31 sizeOf31 rfl rfl ⟨_,rfl,?_,H.base⟩))))
 rw [stepBy_yes p3,stepRes,show xJ s - 1=j by omega,told_yes (‹ve s∧_›:ve s∧_).2]
 exact ⟨ra242,((xw s t counts).qF).length,rc243,ra244,((xw s t counts).qL).length,rc245,yA,ja,ra246,((xC s counts (xw s t counts) j).qH).length,rc247,rfl,N,H.pick [1,2,3] [0]⟩
theorem countsCode1_ok (w:World) (n:Int):Calls Try.prog 81 #[yI n] w (Ret (fun v w' =>v=.bool (!isCnt n)) w):=by
 refine en func81 ntmps81 ?_
 have H:=St.start w
 have N:=Fresh.nil w.heap.size
 refine zcr (sp (.bool false) (zjc (sp (yI n) (sw (oq (Q3 w n 0 1000) H fun w1 H=>sps [.bool (!(inR n 0 1000)),.bool (!(inR n 0 1000))] (zjr (ret1 (.bool (!(inR n 0 1000))) rfl rfl ⟨_,rfl,?_,H.base⟩)))))))
 rfl

theorem countsCode_ok (w:World) (s:qy) (t:qA) (counts:yLI) {qC:yOA} {xk:yLN} {qJ:yOA} {xN:yLN} {qU:yOA} {zF:yLN} {xE:yOA} {vF:yLN} {qN:yOA} {zh:yLN} {acounts:yOA} {Fcounts:yLN} (qW:qR.rep w xk [.slice qC s.qx.length qB] s.qx) (xG:qR.rep w xN [.slice qJ s.qw.length qG] s.qw) (zC:qR.rep w zF [.slice qU t.qF.length qQ] t.qF) (vz:qR.rep w vF [.slice xE t.qL.length xu] t.qL) (zn:qR.rep w zh [.slice qN t.qH.length qM] t.qH) (hcounts:qR.rep w Fcounts [.slice acounts counts.length ccounts] counts):Calls Try.prog 44 #[.agg #[yI s.qV,.slice qC s.qx.length qB,.slice qJ s.qw.length qG],.agg #[.slice qU t.qF.length qQ,.slice xE t.qL.length xu,.slice qN t.qH.length qM],.slice acounts counts.length ccounts] w (Ret (fun v w' =>v=yI (yP s t counts)) w):=by
 refine en func44 ntmps44 ?_
 have H:=((((((St.start w).arg hcounts).arg zn).arg vz).arg zC).arg xG).arg qW
 have zY:=qX qW
 have jw:=qX xG
 have Qq:=qX zC
 have nhtBags:=qX vz
 have yM:=qX zn
 have nhcounts:=qX hcounts
 clear qW xG zC vz zn hcounts
 have N:=Fresh.nil w.heap.size
 refine zcr (sw (vP H (yS s qC qB qJ qG) fun b1 w2 H=>sw (vP H (yT t qU qQ xE xu qN qM) fun b3 w4 H=>sp (yI 0) (zjn (zx (xq (zcr (sw (zi (yS s qC qB qJ qG) isAgg27 sizeOf27 rfl (qI (H.cells 1 rfl) 0 3) ?_)))))))))
 refine sw (zi (yT t qU qQ xE xu qN qM) isAgg31 sizeOf31 rfl (qI (H.cells 0 rfl) 0 3) (sw (oq (validState_ok _ s t (H.get 0 rfl).1 (H.get 1 rfl).1 (H.get 2 rfl).1 (H.get 3 rfl).1 (H.get 4 rfl).1) H fun w6 H=>sps [.bool (!(dec (ve s∧xP s t))),.bool (!(dec (ve s∧xP s t)))] (zjn (cQ rfl (fun h8=>?_) (fun h8=>?_))))))
 ·skip
  refine zcr (sp (yI 1) (zjr (b_r (t_r (ret1 (yI 1) rfl rfl ⟨_,rfl,?_,H.base⟩)))))
  rw [ask_1 ‹_›]
 refine zcr (sp (.slice acounts counts.length ccounts) (oN rfl (oF rfl (oL rfl (H.cell 1 rfl rfl) (oN rfl (sps [.bool ((counts.length:Int) != s.qw.length),.bool ((counts.length:Int) != s.qw.length)] ?_))))))
 cases h9:((counts.length:Int) != s.qw.length)
 ·skip
  replace h9:=zT h9
  refine qO 19 rfl rfl (sp (.slice acounts counts.length ccounts) (qO 19 rfl rfl (sw (oq (containsFuncI_ok _ counts 81 #[] (fun k=> !isCnt (counts[k]!)) (H.get 5 rfl).1 call81 (fun k w' hk e=>countsCode1_ok w' _)) H fun w10 H=>sps [.bool (anyTo (fun k=> !isCnt (counts[k]!)) counts.length),.bool (anyTo (fun k=> !isCnt (counts[k]!)) counts.length)] (zjn (xZ (anyTo (fun k=> !isCnt (counts[k]!)) counts.length) rfl (fun h12=>?_) (fun h12=>?_)))))))
  ·skip
   refine zcr (sp (yI 2) (zjr (b_r (t_r (ret1 (yI 2) rfl rfl ⟨_,rfl,?_,H.base⟩)))))
   rw [ask_2 ‹ve s∧xP s t› (fun h=>by first | (have:=h.1;omega) | (have z:=anyCnt_iff.2 h.2;rw [‹anyTo _ _=true›] at z;cases z))]
  refine xB (b_n (t_n (zcr (sp (yI 0) (zjr (ret1 (yI 0) rfl rfl ⟨_,rfl,?_,H.base⟩))))))
  rw [ask_0 ‹ve s∧xP s t› ⟨by omega,anyCnt_iff.1 (by rw [‹anyTo _ _=false›];rfl)⟩]
 replace h9:=bne_iff_ne.1 h9
 refine xQ [20,21] (sps [.bool true,.bool true] (zjn (xZ true rfl (fun _=>zcr (sp (yI 2) (zjr (b_r (t_r (ret1 (yI 2) rfl rfl ⟨_,rfl,?_,H.base⟩)))))) (fun h=>absurd h qj))))
 rw [ask_2 ‹ve s∧xP s t› (fun h=>by first | (have:=h.1;omega) | (have z:=anyCnt_iff.2 h.2;rw [‹anyTo _ _=true›] at z;cases z))]

theorem indexI_ok (w:World) (l:yLI) (x:Int) {al:yOA} {Fl:yLN} (hl:qR.rep w Fl [.slice al l.length cl] l):Calls Try.prog 111 #[.slice al l.length cl,yI x] w (Ret (fun v w' =>v=yI (firstIdx (fun k=>x == l[k]!) l.length)) w):=by
 refine en func111 ntmps111 ?_
 have H:=(St.start w).arg hl
 have nhl:=qX hl
 clear hl
 have N:=Fresh.nil w.heap.size
 refine zcr (sp (yI 0) (zjcc (sp (.slice al l.length cl) (oN rfl (sp (yI 0) (zjn (xq ?_)))))))
 refine vg (fun m' ρ w1=>∃ (zB:Env) (i:Nat),ρ=upd (upd (upd (upd zB 0 (.slice al l.length cl)) 1 (yI x)) 7 (yI l.length)) 8 (yI i)∧((i:Int)≤l.length)∧(noneTo (fun k=>x == l[k]!) i)∧m' =(l.length - (i:Int)).toNat∧Fresh w.heap.size []∧St w w1 [] [sF false Fl al cl l]) ((l.length - (0:Int)).toNat) ⟨_,0,uE4,qf,(by exact fun j hj=>by omega),rfl,N,H⟩ ?_
 clear H N
 rintro m' ρ w2 ⟨zB,i,rfl,i0,i1,rfl,N,H⟩
 refine zcr (sp (.bool (decide ((i:Int) < l.length))) (zjn (zx (cD rfl (fun h3=>?_) (fun h3=>?_)))))
 ·skip
  refine xB (t_n (zx (xq (zcr (sps [yI i,yI i] (zjc (sps [yI x,.slice al l.length cl,yI i] ?_)))))))
  obtain ⟨b4,o5,rfl⟩:=H.addr 0 rfl qf
  refine oI rfl rfl (oL rfl (H.jB 0 rfl i qf qf) (sp (.bool ((x:Int) == (l[i]!))) (zjn (cE rfl (fun h7=>?_) (fun h7=>?_)))))
  ·skip
   refine zcr (sps [yI i,yI i] (zjr (zr5 (ret1 (yI i) rfl rfl ⟨_,rfl,?_,H.base⟩))))
   rw [firstIdx_some (k:=i) qf i1 (by simpa using ‹x=l[i]!›)]
  refine xB (b_n (t_n (zJ (sw (vk i 1 rfl rfl qf (sp (yI (i+1)) (zK (xH (m' :=(l.length - ((i+1):Int)).toNat) qf ⟨_,i+1,uE4,?_,?_,rfl,N,H⟩))))))))
  · omega
  · exact noneTo_succ ‹_› (by simpa using ‹x≠l[i]!›)
 refine zx4 (zcr (sp (yI (-1)) (zjr (ret1 (yI (-1)) rfl rfl ⟨_,rfl,?_,H.base⟩))))
 rw [firstIdx_none (fun j hj=>i1 j qf)]

theorem containsI_ok (w:World) (l:yLI) (x:Int) {al:yOA} {Fl:yLN} (hl:qR.rep w Fl [.slice al l.length cl] l):Calls Try.prog 82 #[.slice al l.length cl,yI x] w (Ret (fun v w' =>v=.bool (dec ((x:Int)∈l))) w):=by
 refine en func82 ntmps82 ?_
 have H:=(St.start w).arg hl
 have nhl:=qX hl
 clear hl
 have N:=Fresh.nil w.heap.size
 refine zcr (sp (.bool false) (zjc (sps [.slice al l.length cl,yI x] (sw (oq (indexI_ok _ l x (H.get 0 rfl).1) H fun w2 H=>sps [.bool (decide ((firstIdx (fun k=>x == l[k]!) l.length:Int)≥0)),.bool (decide ((firstIdx (fun k=>x == l[k]!) l.length:Int)≥0))] (zjr (ret1 (.bool (decide ((firstIdx (fun k=>x == l[k]!) l.length:Int)≥0))) rfl rfl ⟨_,rfl,?_,H.base⟩)))))))
 rw [anyTo_first,anyTo_mem]

theorem minI_ok (w:World) (l:yLI) {al:yOA} {Fl:yLN} (hl:qR.rep w Fl [.slice al l.length cl] l) (p0:1≤l.length):Calls Try.prog 85 #[.slice al l.length cl] w (Ret (fun v w' =>v=yI (minL l)) w):=by
 refine en func85 ntmps85 ?_
 have H:=(St.start w).arg hl
 have nhl:=qX hl
 clear hl
 have N:=Fresh.nil w.heap.size
 refine zcr (sp (yI 0) (zjcc (sp (.slice al l.length cl) (oN rfl (sp (.bool (decide ((l.length:Int) < 1))) (zjn (cD rfl (fun h1=>?_) (fun h1=>?_))))))))
 ·skip
  exfalso;omega
 refine xB (t_n (zcr (sp (.slice al l.length cl) ?_)))
 obtain ⟨b2,o3,rfl⟩:=H.addr 0 rfl qf
 refine oI rfl rfl (oL rfl (H.jB 0 rfl 0 qf qf) (sp (yI (l[0]!)) (zjcc (sp (yI 1) (zjn (xq ?_))))))
 refine vg (fun m' ρ w5=>∃ (zB:Env) (m:Int) (i:Nat),ρ=upd (upd (upd zB 0 (.slice (aa b2 o3) l.length cl)) 3 (yI m)) 4 (yI i)∧m=minTo l i∧((i:Int)≤l.length)∧(1≤i)∧m' =(l.length - (i:Int)).toNat∧Fresh w.heap.size []∧St w w5 [] [sF false Fl (aa b2 o3) cl l]) ((l.length - (1:Int)).toNat) ⟨_,l[0]!,1,uE3,(by exact (minTo_one l).symm),qf,qf,rfl,N,H⟩ ?_
 clear H N
 rintro m' ρ w6 ⟨zB,m,i,rfl,rfl,i0,i2,rfl,N,H⟩
 refine zcc (sps [yI i,.slice (aa b2 o3) l.length cl] (oN rfl (sp (.bool (decide ((i:Int) < l.length))) (zjn (cD rfl (fun h7=>?_) (fun h7=>?_))))))
 ·skip
  refine xB (t_n (zx (xq (zJ (sps [yI (minTo l i),.slice (aa b2 o3) l.length cl,yI i] (oI rfl rfl (oL rfl (H.jB 0 rfl i qf qf) (sw (o_min (minTo l i) (l[i]!) rfl rfl (sp (yI (min (minTo l i) (l[i]!))) (zK (b_n (t_n (zJ (sp (yI i) (sw (vk i 1 rfl rfl qf (sp (yI (i+1)) (zK (xH (m' :=(l.length - ((i+1):Int)).toNat) qf ⟨_,min (minTo l i) (l[i]!),i+1,uE3,?_,?_,?_,rfl,N,H⟩))))))))))))))))))))
  · exact (minTo_succ qf).symm
  · omega
  · omega
 refine zx4 (zcr (sps [yI (minTo l i),yI (minTo l i)] (zjr (ret1 (yI (minTo l i)) rfl rfl ⟨_,rfl,?_,H.base⟩))))
 obtain rfl:i=l.length:=by omega
 rfl

theorem implBy_ok (w:World) (s:qy) (t:qA) (counts:yLI) {qC:yOA} {xk:yLN} {qJ:yOA} {xN:yLN} {qU:yOA} {zF:yLN} {xE:yOA} {vF:yLN} {qN:yOA} {zh:yLN} {acounts:yOA} {Fcounts:yLN} (qW:qR.rep w xk [.slice qC s.qx.length qB] s.qx) (xG:qR.rep w xN [.slice qJ s.qw.length qG] s.qw) (zC:qR.rep w zF [.slice qU t.qF.length qQ] t.qF) (vz:qR.rep w vF [.slice xE t.qL.length xu] t.qL) (zn:qR.rep w zh [.slice qN t.qH.length qM] t.qH) (hcounts:qR.rep w Fcounts [.slice acounts counts.length ccounts] counts):Calls Try.prog 19 #[.agg #[yI s.qV,.slice qC s.qx.length qB,.slice qJ s.qw.length qG],.agg #[.slice qU t.qF.length qQ,.slice xE t.qL.length xu,.slice qN t.qH.length qM],.slice acounts counts.length ccounts] w (Ret (fun v w' =>∃ (ra0Alive:yOA) (rn0Alive:Nat) (rc0Alive:Nat) (ra0Bags:yOA) (rn0Bags:Nat) (rc0Bags:Nat) (rx0Bags:List Value) (rF0Bags:yLN) (ra0Around:yOA) (rn0Around:Nat) (rc0Around:Nat),v=.tuple #[.agg #[.slice ra0Alive rn0Alive rc0Alive,.slice ra0Bags rn0Bags rc0Bags,.slice ra0Around rn0Around rc0Around],yI ((xX s t counts).2)]∧Fresh w.heap.size [rF0Bags]∧St w w' [rr ra0Alive rn0Alive rc0Alive 4 1 ((((xX s t counts).1).qF).map (Value.bool)),rr ra0Bags rn0Bags rc0Bags 24 1 rx0Bags,rr ra0Around rn0Around rc0Around 2 1 ((((xX s t counts).1).qH).map (Value.int .i64))] [xe true rF0Bags rx0Bags (((xX s t counts).1).qL)]) w):=by
 refine en func19 ntmps19 ?_
 have H:=((((((St.start w).arg hcounts).arg zn).arg vz).arg zC).arg xG).arg qW
 have zY:=qX qW
 have jw:=qX xG
 have Qq:=qX zC
 have nhtBags:=qX vz
 have yM:=qX zn
 have nhcounts:=qX hcounts
 clear qW xG zC vz zn hcounts
 have N:=Fresh.nil w.heap.size
 refine zcr (sw (vP H (yS s qC qB qJ qG) fun b1 w2 H=>sw (vP H (yT t qU qQ xE xu qN qM) fun b3 w4 H=>sw (xx H ti31 [yN,yN,yN] fun b5 w6 H=>sp (yI 0) (zjcc (sw (zi (yS s qC qB qJ qG) isAgg27 sizeOf27 rfl (qI (H.cells 2 rfl) 0 3) ?_)))))))
 refine sw (zi (yT t qU qQ xE xu qN qM) isAgg31 sizeOf31 rfl (qI (H.cells 1 rfl) 0 3) (sp (.slice acounts counts.length ccounts) (sw (oq (countsCode_ok _ s t counts (H.get 0 rfl).1 (H.get 1 rfl).1 (H.get 2 rfl).1 (H.get 3 rfl).1 (H.get 4 rfl).1 (H.get 5 rfl).1) H fun w8 H=>sp (yI (yP s t counts)) (zjc (sps [yI (yP s t counts),.bool ((yP s t counts:Int) != 0)] (zjn (xZ ((yP s t counts:Int) != 0) rfl (fun h10=>?_) (fun h10=>?_)))))))))
 ·skip
  replace h10:=bne_iff_ne.1 h10
  refine zcr (sw (xK [yN,yN,yN] [] (sp (yI (yP s t counts)) (sw (xf H 0 [yN,yN,yN] sizeOf31 fun w11 H=>sp (yI (yP s t counts)) (zjr (t_r ?_)))))))
  replace H:=H.nilRowB 4
  replace H:=H.nilRow 24 1
  replace H:=H.Qn (α:=yLI)
  replace H:=H.nilRowI 2
  refine retC2 H 3 rfl (yI (yP s t counts)) rfl isAgg31 sizeOf31 rfl rfl ⟨_,rfl,?_,H.base⟩
  rw [by_bad ‹_›]
  exact ⟨none,0,0,none,0,0,[],[],none,0,0,rfl,N.emp,H.pick [2,1,0] [0]⟩
 replace h10:=zT h10
 refine xB (t_n (zcc (sw (zi (yS s qC qB qJ qG) isAgg27 sizeOf27 rfl (qI (H.cells 2 rfl) 0 3) (sw (zi (yT t qU qQ xE xu qN qM) isAgg31 sizeOf31 rfl (qI (H.cells 1 rfl) 0 3) (sp (.slice acounts counts.length ccounts) ?_)))))))
 obtain ⟨k1,k2,k3⟩:=ask_ok ‹yP s t counts=0›
 have kn:1≤xY s:=by have:=k1.1.1.1;unfold xY;omega
 have k7:=k2.2.1
 have k8:=k1.2.1
 have k9:=k3.1
 have k10:=k1.1.2.1
 have k11:xJ s=s.qx.length:=rfl
 refine sw (vS #[.agg #[yI s.qV,.slice qC s.qx.length qB,.slice qJ s.qw.length qG],.agg #[.slice qU t.qF.length qQ,.slice xE t.qL.length xu,.slice qN t.qH.length qM],.slice acounts counts.length ccounts] rfl rfl call45 (en func45 ntmps45 ?_))
 refine zcr (sw (vP H (yS s qC qB qJ qG) fun b12 w13 H=>sw (vP H (yT t qU qQ xE xu qN qM) fun b14 w15 H=>sps [yN,.bool false] (zjn (zx ?_)))))
 refine y9 rfl H fun H=>tF 0 rfl rfl H ?_
 refine tL 1 rfl rfl (fun _ h=>h.cell 0 rfl rfl) H ?_
 refine rt 3 (.agg #[yI s.qV,.slice qC s.qx.length qB,.slice qJ s.qw.length qG]) (yj (cs:=(yS s qC qB qJ qG)) isAgg27 sizeOf27 rfl (fun _ h=>qI (h.cells 1 rfl) 0 3)) H ?_
 refine rt 4 (.agg #[.slice qU t.qF.length qQ,.slice xE t.qL.length xu,.slice qN t.qH.length qM]) (yj (cs:=(yT t qU qQ xE xu qN qM)) isAgg31 sizeOf31 rfl (fun _ h=>qI (h.cells 0 rfl) 0 3)) H ?_
 refine ro 2 rfl ?_
 have sz20:=H.base.size
 refine oc (cloneSS_ok _ t.qL (H.get 3 rfl).1 qg) ?_
 rintro _ w18 ⟨ra17,rn17,rc17,rx17,rF17,rfl,hG22,K⟩ _
 replace H:=H.mergeIn K 3 rfl hG22
 obtain rfl:=H.zy (α:=yLI) 0 rfl 0 rfl qj
 refine ⟨H.pick [1,2,3,4,5] [1,2,3,4,5,6],(ro 5 rfl ?_)⟩
 have sz26:=H.base.size
 refine oc (applicable_ok _ s t (H.get 1 rfl).1 (H.get 2 rfl).1 (H.get 3 rfl).1 (H.get 4 rfl).1 (H.get 5 rfl).1 qg qg) ?_
 rintro _ w24 ⟨ra23,rn23,rc23,rfl,M,K⟩ _
 replace H:=H.merge K M
 obtain rfl:=H.zQ 0 rfl
 have al:(appls s t).length≤s.qw.length:=applL_le s t s.qw.length
 refine ⟨H.pick [2,3,4,5,6] [1,2,3,4,5,6],?_⟩
 have S:=H.jm [2,3,4,5,6] [1,2,3,4,5,6]
 refine rtp 6 (.slice ra17 t.qL.length rc17) S ?_
 refine rtp 7 (.slice ra23 ((appls s t).length) rc23) S ?_
 refine xh qh (t_n (zcc (sp (.slice acounts counts.length ccounts) (oN rfl (sp (yI 0) (zjn (xq ?_)))))))
 refine vg (fun m' ρ w29=>∃ (zB:Env) (i:Nat) (rest:yLL) (x_rest:List Value) (F_rest:yLN),ρ=upd (upd (upd (upd (upd (upd zB 3 (pp b12 0)) 8 (.slice ra17 t.qL.length rc17)) 9 (.slice ra23 ((appls s t).length) rc23)) 19 (.slice acounts counts.length ccounts)) 20 (yI counts.length)) 21 (yI i)∧rest=Qd s t counts i∧((i:Int)≤counts.length)∧(GoodTo s t counts i)∧m' =(counts.length - (i:Int)).toNat∧Fresh w.heap.size []∧St w w29 [rr ra23 ((appls s t).length) rc23 2 1 ((appls s t).map (Value.int .i64)),rr ra17 t.qL.length rc17 24 1 x_rest,.box b14 (yT t qU qQ xE xu qN qM) 31,.box b12 (yS s qC qB qJ qG) 27,.box b5 [yN,yN,yN] 31,.box b3 (yT t qU qQ xE xu qN qM) 31,.box b1 (yS s qC qB qJ qG) 27] [xe false F_rest x_rest rest,sF false xk qC qB s.qx,sF false xN qJ qG s.qw,sF false zF qU qQ t.qF,sF false vF xE xu t.qL,sF false zh qN qM t.qH,sF false Fcounts acounts ccounts counts]) ((counts.length - (0:Int)).toNat) ⟨_,0,t.qL,rx17,rF17,uE6,(by rfl),qf,(by exact fun j hj=>by omega),rfl,N,H⟩ ?_
 clear H N
 rintro m' ρ w30 ⟨zB,i,rest,x_rest,F_rest,rfl,rfl,i0,i1,rfl,N,H⟩
 have hn_rest:=H.zy (α:=yLI) 1 rfl 0 rfl qj
 have rl:=restR_len (s:=s) (t:=t) (counts:=counts) i
 refine zcr (sp (.bool (decide ((i:Int) < counts.length))) (zjn (zx (cD rfl (fun h31=>?_) (fun h31=>?_)))))
 ·skip
  have q:=k1.rule (i:=i) qf
  have qc:=q.1
  have qk:=q.cell
  have b1:=q.2.2.2.2.1
  have p10:=k3.bd (i:=i) qf
  refine xB (t_n (zx (xq (zcr (sp (yI i) ?_)))))
  obtain ⟨b32,o33,rfl⟩:=H.addr 6 rfl qf
  refine oI rfl rfl (oL rfl (H.jB 6 rfl i qf qf) (sps [yI i,yI (counts[i]!)] (zjcc (sps [yI (counts[i]!),.bool ((counts[i]! :Int) == 0)] (zjn (cE rfl (fun h35=>?_) (fun h35=>?_)))))))
  ·skip
   refine c_exit (t_x (b_x (t_n (zJ (sw (vk i 1 rfl rfl qf (sp (yI (i+1)) (zK (xH (m' :=(counts.length - ((i+1):Int)).toNat) qf ⟨_,i+1,(Qd s t counts i),x_rest,F_rest,uE6,?_,?_,?_,rfl,N,H⟩)))))))))
   · first | rfl | exact (restR_skip k1 k2 qf ‹_›).symm
   · omega
   · exact i1.succ (fun h=>by obtain ⟨u,v⟩:=h;first | omega | exact v ((mem_appls qf).1 ‹_›))
  refine xB (t_n (zcc (sps [.slice ra23 ((appls s t).length) rc23,yI i] ?_)))
  obtain ⟨G36,hn37,h38⟩:=H.rowIsI 0 rfl
  refine sw (oq (containsI_ok _ (appls s t) i h38) H fun w40 H=>sp (.bool (!(dec ((i:Int)∈(appls s t))))) (zjn (cQ rfl (fun h42=>?_) (fun h42=>?_))))
  ·skip
   refine zcr (sps [yN,.bool false] (zjr (t_r (zr5 (ret2 yN (.bool false) rfl rfl rfl ⟨_,rfl,?_⟩)))))
   replace H:=H.erases [3,2,1,0]
   dsimp only [jg,List.eraseIdx] at H
   refine sps [.tuple #[yN,.bool false],yN,.bool false,yN,.bool false] (zjc (sps [.bool false,.bool true] (zjn (xZ true rfl (fun _=>zcr (sw (xK [yN,yN,yN] [] (sw (xf H 0 [yN,yN,yN] sizeOf31 fun w43 H=>sp (yI 4) (zjr (t_r ?_))))))) (fun h=>absurd h qj)))))
   replace H:=H.nilRowB 4
   replace H:=H.nilRow 24 1
   replace H:=H.Qn (α:=yLI)
   replace H:=H.nilRowI 2
   refine retC2 H 3 rfl (yI 4) rfl isAgg31 sizeOf31 rfl rfl ⟨_,rfl,?_,H.base⟩
   rw [by_ok ‹_›,stepBy_no (fun h=>by first | exact h.1 i qf ⟨by omega,fun a=>‹¬ (i:Int)∈appls s t› ((mem_appls qf).2 a)⟩ | (have e:i=counts.length:=qf;have h2:=h.2;rw [← e] at h2;exact (minL_neg qf).1 ‹minL ((Qd s t counts i)[i_1]!) < 0› (h2 i_1 qf)))]
   exact ⟨none,0,0,none,0,0,[],[],none,0,0,rfl,N.emp,H.pick [2,1,0] [0]⟩
  refine xB (t_n (zcr (oF rfl (oL rfl (H.cell 3 rfl rfl) (sp (yI i) ?_)))))
  obtain ⟨b44,o45,rfl⟩:=H.addr 2 rfl qf
  obtain ⟨yV,yQ,Fe47Need,yY,yU,Fe47Have,yX,yR,Fe47Lack,yK,yH,Fe47Here,Qb,y8,Fe47Out,yJ,yG,Fe47Into,H⟩:=H.Qm 2 rfl i i qf qf qf
  refine oI rfl rfl (sw (zi [yI ((s.qw[i]!).qE),yI ((s.qw[i]!).zS),.slice yV (((s.qw[i]!).xn).length) yQ,.slice yY (((s.qw[i]!).zf).length) yU,.slice yX (((s.qw[i]!).x8).length) yR,.slice yK (((s.qw[i]!).xW).length) yH,.slice Qb (((s.qw[i]!).vC).length) y8,.slice yJ (((s.qw[i]!).qK).length) yG,.bool ((s.qw[i]!).xU)] isAgg51 sizeOf51 rfl (qI (H.get 6 rfl) 0 9) ?_))
  refine sw (xx H ti51 [yI 0,yI 0,yN,yN,yN,yN,yN,yN,.bool false] fun b48 w49 H=>sw (xf H 0 [yI ((s.qw[i]!).qE),yI ((s.qw[i]!).zS),.slice yV (((s.qw[i]!).xn).length) yQ,.slice yY (((s.qw[i]!).zf).length) yU,.slice yX (((s.qw[i]!).x8).length) yR,.slice yK (((s.qw[i]!).xW).length) yH,.slice Qb (((s.qw[i]!).vC).length) y8,.slice yJ (((s.qw[i]!).qK).length) yG,.bool ((s.qw[i]!).xU)] sizeOf51 fun w50 H=>zjn ?_))
  refine yE rfl H [0,1,3,4,5,6,7] fun H=>?_
  have S:=H.jm [0,1,3,4,5,6,7] [0,1,2,3,4,5,6,7,8,9,10,11,12,13]
  refine rtp 0 (.slice ra17 t.qL.length rc17) S ?_
  refine tF 1 rfl rfl S ?_
  refine tL 2 rfl rfl (fun _ h=>h.cell 0 rfl rfl) S ?_
  refine rtp 3 (.slice ra17 t.qL.length rc17) S ?_
  refine tF 4 rfl rfl S ?_
  refine tL 5 rfl rfl (fun _ h=>h.cell 0 rfl rfl) S ?_
  obtain ⟨b52,rfl⟩:=H.Qv 2 rfl qf
  have S:=H.jm [0,1,3,4,5,6,7] [0,1,2,3,4,5,6,7,8,9,10,11,12,13]
  refine tI 6 rfl rfl rfl S ?_
  refine tF 8 rfl rfl S ?_
  refine tL 9 rfl rfl (fun _ h=>h.cell 0 rfl rfl) S ?_
  refine rtp 10 (yI (counts[i]!)) S ?_
  refine rt 11 (yI (-(counts[i]!))) (y_neg (counts[i]!) rfl qf) S ?_
  refine ro 7 rfl ?_
  obtain ⟨a53,c54,G55,s56,h57,H⟩:=H.jf 2 rfl 7 rfl (iv:=(s.qw[i]!).qE) (((s.qw[i]!).qE).toNat) qf qf
  refine zk (.slice a53 (((Qd s t counts i)[((s.qw[i]!).qE).toNat]!).length) c54) isAgg24 rfl (h57) (⟨H.pick [0,1,3,4,5,6,7] [1,2,3,4,5,6,7,8,9,10,11,12,13,14],(ro 12 rfl ?_)⟩)
  obtain ⟨u1,u2⟩:=restR_row (c:=(s.qw[i]!).qE.toNat) k1 k2 k3 (show i≤_ by omega) qk
  have u3:=b1.len
  have u4:=b1.je (t:= -(counts[i]!)) qf
  have sz58:=H.base.size
  refine oc (QW _ ((Qd s t counts i)[((s.qw[i]!).qE).toNat]!) ((s.qw[i]!).xn) (-(counts[i]!)) (H.get 0 rfl).1 (H.get 1 rfl).1 qg qg qg) ?_
  rintro v63 w61 r63 x62
  replace H:=H.vG x62 r63
  obtain ⟨a64,c65,rfl,hc66,hm67⟩:=H.yB 0 rfl
  refine ⟨H.pick [1,2,4,5,6,7,8] [1,2,3,4,5,6,7,8,9,10,11,12,13,14],(tI 13 rfl rfl rfl (H.pick [1,2,4,5,6,7,8] [1,2,3,4,5,6,7,8,9,10,11,12,13,14]) ?_)⟩
  refine ro 14 rfl ?_
  obtain ⟨G69,N,hn70,H⟩:=H.zX 0 rfl N (H.jC [])
  refine jq false H 3 rfl 9 rfl (.slice a64 ((yf ((Qd s t counts i)[((s.qw[i]!).qE).toNat]!) ((s.qw[i]!).xn) (-(counts[i]!))).length) c65) 0 rfl rfl sizeOf24 rfl rfl (i:=(((s.qw[i]!).qE).toNat)) qf qf qm fun w68 xs71 F72 hs73 H=>⟨H.pick [1,2,4,5,6,7,8] [3,4,5,6,7,8,9,10,11,12,13,14,15,16],(xh qh (b_n (t_n (zJ (sw (vk i 1 rfl rfl qf (sp (yI (i+1)) (zK ?_))))))))⟩
  refine xH (m' :=(counts.length - ((i+1):Int)).toNat) qf ⟨_,i+1,((Qd s t counts i).set (((s.qw[i]!).qE).toNat) (yf ((Qd s t counts i)[((s.qw[i]!).qE).toNat]!) ((s.qw[i]!).xn) (-(counts[i]!)))),xs71,F72,uE6,?_,?_,?_,rfl,(N.pick []),H.pick [2,3,4,5,6,7,8] [0,11,12,13,14,15,16]⟩
  · first | rfl | exact (restR_skip k1 k2 qf ‹_›).symm
  · omega
  · exact i1.succ (fun h=>by obtain ⟨u,v⟩:=h;first | omega | exact v ((mem_appls qf).1 ‹_›))
 refine zx4 (zcr (sps [.slice ra17 t.qL.length rc17,.slice ra17 t.qL.length rc17] (sw (vS #[.slice ra17 t.qL.length rc17,.func (.func 84) #[] #[]] rfl rfl call83 (en func83 ntmps83 ?_)))))
 refine zcr (sp (.bool false) (zjc (sps [.slice ra17 t.qL.length rc17,.func (.func 84) #[] #[]] (sw (vS #[.slice ra17 t.qL.length rc17,.func (.func 84) #[] #[]] rfl rfl call112 (en func112 ntmps112 ?_))))))
 refine zcr (sp (yI 0) (zjcc (sp (.slice ra17 t.qL.length rc17) (oN rfl (sp (yI 0) (zjn (xq ?_)))))))
 refine vg (fun m' ρ w74=>∃ (zB:Env) (i_1:Nat),ρ=upd (upd (upd (upd zB 0 (.slice ra17 t.qL.length rc17)) 1 (.func (.func 84) #[] #[])) 7 (yI t.qL.length)) 8 (yI i_1)∧((i_1:Int)≤t.qL.length)∧(NonNeg (Qd s t counts i) i_1)∧m' =(t.qL.length - (i_1:Int)).toNat∧Fresh w.heap.size []∧St w w74 [rr ra23 ((appls s t).length) rc23 2 1 ((appls s t).map (Value.int .i64)),rr ra17 t.qL.length rc17 24 1 x_rest,.box b14 (yT t qU qQ xE xu qN qM) 31,.box b12 (yS s qC qB qJ qG) 27,.box b5 [yN,yN,yN] 31,.box b3 (yT t qU qQ xE xu qN qM) 31,.box b1 (yS s qC qB qJ qG) 27] [xe false F_rest x_rest (Qd s t counts i),sF false xk qC qB s.qx,sF false xN qJ qG s.qw,sF false zF qU qQ t.qF,sF false vF xE xu t.qL,sF false zh qN qM t.qH,sF false Fcounts acounts ccounts counts]) ((t.qL.length - (0:Int)).toNat) ⟨_,0,uE4,qf,(by exact fun j hj=>by omega),rfl,N,H⟩ ?_
 clear H N
 rintro m' ρ w75 ⟨zB,i_1,rfl,i0,i2,rfl,N,H⟩
 refine zcr (sp (.bool (decide ((i_1:Int) < t.qL.length))) (zjn (zx (cD rfl (fun h76=>?_) (fun h76=>?_)))))
 ·skip
  refine xB (t_n (zx (xq (zcr (sps [yI i_1,yI i_1] (zjc (sps [.func (.func 84) #[] #[],.slice ra17 t.qL.length rc17,yI i_1] ?_)))))))
  obtain ⟨b77,rfl⟩:=H.Qv 1 rfl qf
  refine oI rfl rfl ?_
  obtain ⟨a78,c79,G80,s81,h82,H⟩:=H.jf 1 rfl 0 rfl (iv:=i_1) i_1 qf qf
  refine oL rfl (h82) (sw (vS #[.slice a78 (((Qd s t counts i)[i_1]!).length) c79] rfl rfl call84 (en func84 ntmps84 ?_)))
  refine zcr (sp (.bool false) (zjc (sp (.slice a78 (((Qd s t counts i)[i_1]!).length) c79) ?_)))
  obtain ⟨u1,u2⟩:=restR_row (c:=i_1) k1 k2 k3 (show i≤_ by omega) qf
  refine sw (oq (minI_ok _ ((Qd s t counts i)[i_1]!) (H.get 0 rfl).1 qg) H fun w84 H=>sps [.bool (decide ((minL ((Qd s t counts i)[i_1]!):Int) < 0)),.bool (decide ((minL ((Qd s t counts i)[i_1]!):Int) < 0))] (zjr (ret1 (.bool (decide ((minL ((Qd s t counts i)[i_1]!):Int) < 0))) rfl rfl ⟨_,rfl,(zjn (cD rfl (fun h86=>?_) (fun h86=>?_)))⟩)))
  ·skip
   refine zcr (sps [yI i_1,yI i_1] (zjr (zr5 (ret1 (yI i_1) rfl rfl ⟨_,rfl,(sw (o_pure (.bool true) (by show some (Value.bool (decide ((i_1:Int)≥0)))=some (Value.bool true);rw [decide_eq_true qf]) (sp (.bool true) (zjr (ret1 (.bool true) rfl rfl ⟨_,rfl,(sps [.bool false,.slice (aa b77 0) t.qL.length rc17,.bool false] (zjr (ret2 (.slice (aa b77 0) t.qL.length rc17) (.bool false) rfl rfl rfl ⟨_,rfl,?_⟩)))⟩)))))⟩))))
   replace H:=H.erases [3,2,0]
   dsimp only [jg,List.eraseIdx] at H
   refine sps [.tuple #[.slice (aa b77 0) t.qL.length rc17,.bool false],.slice (aa b77 0) t.qL.length rc17,.bool false,.slice (aa b77 0) t.qL.length rc17,.bool false] (zjc (sps [.bool false,.bool true] (zjn (xZ true rfl (fun _=>zcr (sw (xK [yN,yN,yN] [] (sw (xf H 1 [yN,yN,yN] sizeOf31 fun w87 H=>sp (yI 4) (zjr (t_r ?_))))))) (fun h=>absurd h qj)))))
   replace H:=H.nilRowB 4
   replace H:=H.nilRow 24 1
   replace H:=H.Qn (α:=yLI)
   replace H:=H.nilRowI 2
   refine retC2 H 4 rfl (yI 4) rfl isAgg31 sizeOf31 rfl rfl ⟨_,rfl,?_,H.base⟩
   rw [by_ok ‹_›,stepBy_no (fun h=>by first | exact h.1 i qf ⟨by omega,fun a=>‹¬ (i:Int)∈appls s t› ((mem_appls qf).2 a)⟩ | (have e:i=counts.length:=qf;have h2:=h.2;rw [← e] at h2;exact (minL_neg qf).1 ‹minL ((Qd s t counts i)[i_1]!) < 0› (h2 i_1 qf)))]
   exact ⟨none,0,0,none,0,0,[],[],none,0,0,rfl,N.emp,H.pick [2,1,0] [0]⟩
  refine xB (b_n (t_n (zJ (sw (vk i_1 1 rfl rfl qf (sp (yI (i_1+1)) (zK (xH (m' :=(t.qL.length - ((i_1+1):Int)).toNat) qf ⟨_,i_1+1,uE4,?_,?_,rfl,N,H.pick [0,1,2,3,4,5,6] [1,2,3,4,5,6,7]⟩))))))))
  · omega
  · exact i2.succ (Classical.byContradiction fun h=>‹¬ minL ((Qd s t counts i)[i_1]!) < 0› ((minL_neg qf).2 h))
 refine zx4 (zcr (sp (yI (-1)) (zjr (ret1 (yI (-1)) rfl rfl ⟨_,rfl,(sps [.bool false,.bool false] (zjr (ret1 (.bool false) rfl rfl ⟨_,rfl,(sps [.bool true,.slice ra17 t.qL.length rc17,.bool true] (zjr (ret2 (.slice ra17 t.qL.length rc17) (.bool true) rfl rfl rfl ⟨_,rfl,?_⟩)))⟩)))⟩))))
 replace H:=H.erases [3,2,0]
 dsimp only [jg,List.eraseIdx] at H
 refine sps [.tuple #[.slice ra17 t.qL.length rc17,.bool true],.slice ra17 t.qL.length rc17,.bool true,.slice ra17 t.qL.length rc17,.bool true] (zjc (sps [.bool true,.bool false] (zjn (xZ false rfl (fun h=>absurd h qj) (fun _=>xB (t_n (zcr (sw (zi (yS s qC qB qJ qG) isAgg27 sizeOf27 rfl (qI (H.cells 3 rfl) 0 3) ?_)))))))))
 refine sw (zi (yT t qU qQ xE xu qN qM) isAgg31 sizeOf31 rfl (qI (H.cells 2 rfl) 0 3) (sp (.slice acounts counts.length ccounts) ?_))
 have k5:IsCh s t counts:=⟨fun j hj=>i1 j qf,by have e:i=counts.length:=qf;rw [← e];exact fun p hp=>i2 p qf⟩
 have sz91:=H.base.size
 refine sw (oc (step_ok _ s t counts (H.get 1 rfl).1 (H.get 2 rfl).1 (H.get 3 rfl).1 (H.get 4 rfl).1 (H.get 5 rfl).1 (H.get 6 rfl).1 qg qg qg qg) ?_)
 rintro _ w89 ⟨ra88aAlive,rn88aAlive,rc88aAlive,ra88aBags,rn88aBags,rc88aBags,rx88aBags,rF88aBags,ra88aAround,rn88aAround,rc88aAround,rfl,M,K⟩ _
 replace N:=N.merge sz91 qm M
 replace H:=H.merge K M
 obtain rfl:=H.rowNB 0 rfl
 obtain rfl:=H.zy (α:=yLI) 1 rfl 0 rfl qj
 obtain rfl:=H.zQ 2 rfl
 refine sps [.agg #[.slice ra88aAlive ((((y5 s t counts).1).qF).length) rc88aAlive,.slice ra88aBags ((((y5 s t counts).1).qL).length) rc88aBags,.slice ra88aAround ((((y5 s t counts).1).qH).length) rc88aAround],yI ((y5 s t counts).2)] (sw (xf H 4 [.slice ra88aAlive ((((y5 s t counts).1).qF).length) rc88aAlive,.slice ra88aBags ((((y5 s t counts).1).qL).length) rc88aBags,.slice ra88aAround ((((y5 s t counts).1).qH).length) rc88aAround] sizeOf31 fun w96 H=>sp (yI ((y5 s t counts).2)) (zjr ?_)))
 refine retC2 H 4 rfl (yI ((y5 s t counts).2)) rfl isAgg31 sizeOf31 rfl rfl ⟨_,rfl,?_,H.base⟩
 rw [by_ok ‹_›]
 exact ⟨ra88aAlive,(((y5 s t counts).1).qF).length,rc88aAlive,ra88aBags,(((y5 s t counts).1).qL).length,rc88aBags,rx88aBags,rF88aBags,ra88aAround,(((y5 s t counts).1).qH).length,rc88aAround,rfl,N,H.pick [0,1,2] [0]⟩
theorem indexB_ok (w:World) (l:List Bool) (x:Bool) {al:yOA} {Fl:yLN} (hl:qR.rep w Fl [.slice al l.length cl] l):Calls Try.prog 114 #[.slice al l.length cl,.bool x] w (Ret (fun v w' =>v=yI (firstIdx (fun k=>x == l[k]!) l.length)) w):=by
 refine en func114 ntmps114 ?_
 have H:=(St.start w).arg hl
 have nhl:=qX hl
 clear hl
 have N:=Fresh.nil w.heap.size
 refine zcr (sp (yI 0) (zjcc (sp (.slice al l.length cl) (oN rfl (sp (yI 0) (zjn (xq ?_)))))))
 refine vg (fun m' ρ w1=>∃ (zB:Env) (i:Nat),ρ=upd (upd (upd (upd zB 0 (.slice al l.length cl)) 1 (.bool x)) 7 (yI l.length)) 8 (yI i)∧((i:Int)≤l.length)∧(noneTo (fun k=>x == l[k]!) i)∧m' =(l.length - (i:Int)).toNat∧Fresh w.heap.size []∧St w w1 [] [sF false Fl al cl l]) ((l.length - (0:Int)).toNat) ⟨_,0,uE4,qf,(by exact fun j hj=>by omega),rfl,N,H⟩ ?_
 clear H N
 rintro m' ρ w2 ⟨zB,i,rfl,i0,i1,rfl,N,H⟩
 refine zcr (sp (.bool (decide ((i:Int) < l.length))) (zjn (zx (cD rfl (fun h3=>?_) (fun h3=>?_)))))
 ·skip
  refine xB (t_n (zx (xq (zcr (sps [yI i,yI i] (zjc (sps [.bool x,.slice al l.length cl,yI i] ?_)))))))
  obtain ⟨b4,o5,rfl⟩:=H.addr 0 rfl qf
  refine oI rfl rfl (oL rfl (H.elemBool 0 rfl i qf qf) (sw (o_eqB underlying4 x (l[i]!) rfl rfl (zjn (xZ (x == (l[i]!)) rfl (fun h7=>?_) (fun h7=>?_))))))
  ·skip
   replace h7:=(eq_of_beq h7)
   refine zcr (sps [yI i,yI i] (zjr (zr5 (ret1 (yI i) rfl rfl ⟨_,rfl,?_,H.base⟩))))
   rw [firstIdx_some (k:=i) qf i1 (by first | assumption | simpa using ‹x=l[i]!›)]
  replace h7:=(ne_of_beq_false h7)
  refine xB (b_n (t_n (zJ (sw (vk i 1 rfl rfl qf (sp (yI (i+1)) (zK (xH (m' :=(l.length - ((i+1):Int)).toNat) qf ⟨_,i+1,uE4,?_,?_,rfl,N,H⟩))))))))
  · omega
  · exact noneTo_succ i1 (by first | assumption | simpa using ‹x≠l[i]!›)
 refine zx4 (zcr (sp (yI (-1)) (zjr (ret1 (yI (-1)) rfl rfl ⟨_,rfl,?_,H.base⟩))))
 rw [firstIdx_none (fun j hj=>i1 j qf)]

theorem containsB_ok (w:World) (l:List Bool) (x:Bool) {al:yOA} {Fl:yLN} (hl:qR.rep w Fl [.slice al l.length cl] l):Calls Try.prog 88 #[.slice al l.length cl,.bool x] w (Ret (fun v w' =>v=.bool (anyTo (fun k=>x == l[k]!) l.length)) w):=by
 refine en func88 ntmps88 ?_
 have H:=(St.start w).arg hl
 have nhl:=qX hl
 clear hl
 have N:=Fresh.nil w.heap.size
 refine zcr (sp (.bool false) (zjc (sps [.slice al l.length cl,.bool x] (sw (oq (indexB_ok _ l x (H.get 0 rfl).1) H fun w2 H=>sps [.bool (decide ((firstIdx (fun k=>x == l[k]!) l.length:Int)≥0)),.bool (decide ((firstIdx (fun k=>x == l[k]!) l.length:Int)≥0))] (zjr (ret1 (.bool (decide ((firstIdx (fun k=>x == l[k]!) l.length:Int)≥0))) rfl rfl ⟨_,rfl,?_,H.base⟩)))))))
 rw [anyTo_first]

theorem isWhole_ok (w:World) (s:qy) (t:qA) {qC:yOA} {xk:yLN} {qJ:yOA} {xN:yLN} {qU:yOA} {zF:yLN} {xE:yOA} {vF:yLN} {qN:yOA} {zh:yLN} (qW:qR.rep w xk [.slice qC s.qx.length qB] s.qx) (xG:qR.rep w xN [.slice qJ s.qw.length qG] s.qw) (zC:qR.rep w zF [.slice qU t.qF.length qQ] t.qF) (vz:qR.rep w vF [.slice xE t.qL.length xu] t.qL) (zn:qR.rep w zh [.slice qN t.qH.length qM] t.qH):Calls Try.prog 47 #[.agg #[yI s.qV,.slice qC s.qx.length qB,.slice qJ s.qw.length qG],.agg #[.slice qU t.qF.length qQ,.slice xE t.qL.length xu,.slice qN t.qH.length qM]] w (Ret (fun v w' =>v=.bool (dec ((ve s∧xP s t)∧Whole t))) w):=by
 refine en func47 ntmps47 ?_
 have H:=(((((St.start w).arg zn).arg vz).arg zC).arg xG).arg qW
 have zY:=qX qW
 have jw:=qX xG
 have Qq:=qX zC
 have nhtBags:=qX vz
 have yM:=qX zn
 clear qW xG zC vz zn
 have N:=Fresh.nil w.heap.size
 refine zcr (sw (vP H (yS s qC qB qJ qG) fun b1 w2 H=>sw (vP H (yT t qU qQ xE xu qN qM) fun b3 w4 H=>sp (.bool false) (zjc (sw (zi (yS s qC qB qJ qG) isAgg27 sizeOf27 rfl (qI (H.cells 1 rfl) 0 3) ?_))))))
 refine sw (zi (yT t qU qQ xE xu qN qM) isAgg31 sizeOf31 rfl (qI (H.cells 0 rfl) 0 3) (sw (oq (validState_ok _ s t (H.get 0 rfl).1 (H.get 1 rfl).1 (H.get 2 rfl).1 (H.get 3 rfl).1 (H.get 4 rfl).1) H fun w6 H=>sp (.bool (dec (ve s∧xP s t))) ?_)))
 cases h8:(dec (ve s∧xP s t))
 ·skip
  replace h8:=zD h8
  refine xQ [9,10,11,12] (sps [.bool false,.bool false] (zjr (ret1 (.bool false) rfl rfl ⟨_,rfl,?_,H.base⟩)))
  rw [xg (fun h=>absurd h.1 ql)]
 replace h8:=yg h8
 refine qO 8 rfl rfl (oF rfl (qO 8 rfl rfl (oL rfl (H.cell 0 rfl rfl) (qO 8 rfl rfl (sw (oq (containsB_ok _ t.qF false (H.get 2 rfl).1) H fun w10 H=>qO 8 rfl rfl (sps [.bool (!(anyTo (fun k=>false == t.qF[k]!) t.qF.length)),.bool (!(anyTo (fun k=>false == t.qF[k]!) t.qF.length)),.bool (!(anyTo (fun k=>false == t.qF[k]!) t.qF.length))] (zjr (ret1 (.bool (!(anyTo (fun k=>false == t.qF[k]!) t.qF.length))) rfl rfl ⟨_,rfl,?_,H.base⟩)))))))))
 rw [whole_any]
 refine congrArg Value.bool (dec_eq ?_)
 rw [Bool.not_eq_true']
 exact ⟨fun h=>⟨by assumption,Classical.byContradiction fun x=>by rw [yz x] at h;cases h⟩,fun h=>xg fun x=>x h.2⟩

theorem canMeltAny_ok (w:World) (s:qy) {qC:yOA} {xk:yLN} {qJ:yOA} {xN:yLN} (qW:qR.rep w xk [.slice qC s.qx.length qB] s.qx) (xG:qR.rep w xN [.slice qJ s.qw.length qG] s.qw):Calls Try.prog 48 #[.agg #[yI s.qV,.slice qC s.qx.length qB,.slice qJ s.qw.length qG]] w (Ret (fun v w' =>v=.bool (dec (¬ Still s))) w):=by
 refine en func48 ntmps48 ?_
 have H:=((St.start w).arg xG).arg qW
 have zY:=qX qW
 have jw:=qX xG
 clear qW xG
 have N:=Fresh.nil w.heap.size
 refine zcr (sw (vP H (yS s qC qB qJ qG) fun b1 w2 H=>sp (.bool false) (zjc (oF rfl (oL rfl (H.cell 0 rfl rfl) (sw (vS #[.slice qJ s.qw.length qG,.func (.func 90) #[] #[]] rfl rfl call89 (en func89 ntmps89 ?_))))))))
 refine zcr (sp (.bool false) (zjc (sps [.slice qJ s.qw.length qG,.func (.func 90) #[] #[]] (sw (vS #[.slice qJ s.qw.length qG,.func (.func 90) #[] #[]] rfl rfl call115 (en func115 ntmps115 ?_))))))
 refine zcr (sp (yI 0) (zjcc (sp (.slice qJ s.qw.length qG) (oN rfl (sp (yI 0) (zjn (xq ?_)))))))
 refine vg (fun m' ρ w3=>∃ (zB:Env) (i:Nat),ρ=upd (upd (upd (upd zB 0 (.slice qJ s.qw.length qG)) 1 (.func (.func 90) #[] #[])) 7 (yI s.qw.length)) 8 (yI i)∧((i:Int)≤s.qw.length)∧(StillTo s i)∧m' =(s.qw.length - (i:Int)).toNat∧Fresh w.heap.size []∧St w w3 [.box b1 (yS s qC qB qJ qG) 27] [sF false xk qC qB s.qx,sF false xN qJ qG s.qw]) ((s.qw.length - (0:Int)).toNat) ⟨_,0,uE4,qf,(by exact fun j hj=>by omega),rfl,N,H⟩ ?_
 clear H N
 rintro m' ρ w4 ⟨zB,i,rfl,i0,i1,rfl,N,H⟩
 refine zcr (sp (.bool (decide ((i:Int) < s.qw.length))) (zjn (zx (cD rfl (fun h5=>?_) (fun h5=>?_)))))
 ·skip
  refine xB (t_n (zx (xq (zcr (sps [yI i,yI i] (zjc (sps [.func (.func 90) #[] #[],.slice qJ s.qw.length qG,yI i] ?_)))))))
  obtain ⟨b6,o7,rfl⟩:=H.addr 1 rfl qf
  obtain ⟨ae9Need,ce9Need,Fe9Need,ae9Have,ce9Have,Fe9Have,ae9Lack,ce9Lack,Fe9Lack,ae9Here,ce9Here,Fe9Here,ae9Out,ce9Out,Fe9Out,ae9Into,ce9Into,Fe9Into,H⟩:=H.Qm 1 rfl i i qf qf qf
  refine oI rfl rfl (sw (zi [yI ((s.qw[i]!).qE),yI ((s.qw[i]!).zS),.slice ae9Need (((s.qw[i]!).xn).length) ce9Need,.slice ae9Have (((s.qw[i]!).zf).length) ce9Have,.slice ae9Lack (((s.qw[i]!).x8).length) ce9Lack,.slice ae9Here (((s.qw[i]!).xW).length) ce9Here,.slice ae9Out (((s.qw[i]!).vC).length) ce9Out,.slice ae9Into (((s.qw[i]!).qK).length) ce9Into,.bool ((s.qw[i]!).xU)] isAgg51 sizeOf51 rfl (qI (H.get 6 rfl) 0 9) ?_))
  refine sw (vS #[.agg #[yI ((s.qw[i]!).qE),yI ((s.qw[i]!).zS),.slice ae9Need (((s.qw[i]!).xn).length) ce9Need,.slice ae9Have (((s.qw[i]!).zf).length) ce9Have,.slice ae9Lack (((s.qw[i]!).x8).length) ce9Lack,.slice ae9Here (((s.qw[i]!).xW).length) ce9Here,.slice ae9Out (((s.qw[i]!).vC).length) ce9Out,.slice ae9Into (((s.qw[i]!).qK).length) ce9Into,.bool ((s.qw[i]!).xU)]] rfl rfl call90 (en func90 ntmps90 ?_))
  refine zcr (sw (vP H [yI ((s.qw[i]!).qE),yI ((s.qw[i]!).zS),.slice ae9Need (((s.qw[i]!).xn).length) ce9Need,.slice ae9Have (((s.qw[i]!).zf).length) ce9Have,.slice ae9Lack (((s.qw[i]!).x8).length) ce9Lack,.slice ae9Here (((s.qw[i]!).xW).length) ce9Here,.slice ae9Out (((s.qw[i]!).vC).length) ce9Out,.slice ae9Into (((s.qw[i]!).qK).length) ce9Into,.bool ((s.qw[i]!).xU)] fun b10 w11 H=>sp (.bool false) (zjc (oF rfl (oL rfl (H.cell 0 rfl rfl) (sp (.bool ((s.qw[i]!).xU)) (zjr (ret1 (.bool ((s.qw[i]!).xU)) rfl rfl ⟨_,rfl,?_⟩))))))))
  replace H:=H.erases [0]
  dsimp only [jg,List.eraseIdx] at H
  refine zjn (xZ ((s.qw[i]!).xU) rfl (fun h12=>?_) (fun h12=>?_))
  ·skip
   refine zcr (sps [yI i,yI i] (zjr (zr5 (ret1 (yI i) rfl rfl ⟨_,rfl,(sw (o_pure (.bool true) (by show some (Value.bool (decide ((i:Int)≥0)))=some (Value.bool true);rw [decide_eq_true qf]) (sp (.bool true) (zjr (ret1 (.bool true) rfl rfl ⟨_,rfl,(sp (.bool true) (zjr (ret1 (.bool true) rfl rfl ⟨_,rfl,?_,H.base⟩)))⟩)))))⟩))))
   rw [yz (fun h=>ft (by assumption:(s.qw[i]!).xU=true) (h i qf))]
  refine xB (b_n (t_n (zJ (sw (vk i 1 rfl rfl qf (sp (yI (i+1)) (zK (xH (m' :=(s.qw.length - ((i+1):Int)).toNat) qf ⟨_,i+1,uE4,?_,?_,rfl,N,H.pick [0] [7,8]⟩))))))))
  · omega
  · exact i1.succ ql
 refine zx4 (zcr (sp (yI (-1)) (zjr (ret1 (yI (-1)) rfl rfl ⟨_,rfl,(sps [.bool false,.bool false] (zjr (ret1 (.bool false) rfl rfl ⟨_,rfl,(sp (.bool false) (zjr (ret1 (.bool false) rfl rfl ⟨_,rfl,?_,H.base⟩)))⟩)))⟩))))
 rw [xg (fun x=>x (fun j hj=>i1 j qf))]

theorem noBags_ok (w:World) (s:qy) {qC:yOA} {xk:yLN} {qJ:yOA} {xN:yLN} (qW:qR.rep w xk [.slice qC s.qx.length qB] s.qx) (xG:qR.rep w xN [.slice qJ s.qw.length qG] s.qw) (p0:jd s):Calls Try.prog 91 #[.agg #[yI s.qV,.slice qC s.qx.length qB,.slice qJ s.qw.length qG]] w (Ret (fun v w' =>∃ (ra:yOA) (rn:Nat) (rc:Nat) (rx:List Value) (rF:yLN),v=.slice ra rn rc∧Fresh w.heap.size [rF]∧St w w' [rr ra rn rc 24 1 rx] [xe true rF rx (yZ s (s.qx.length+1))]) w):=by
 refine en func91 ntmps91 ?_
 have H:=((St.start w).arg xG).arg qW
 have zY:=qX qW
 have jw:=qX xG
 clear qW xG
 have N:=Fresh.nil w.heap.size
 have p1:=p0.1
 have p2:=p0.2.1
 refine zcr (sw (vP H (yS s qC qB qJ qG) fun b1 w2 H=>sp yN (zjc (sw (o_build0 H underlying29 ti24 fun b3 w4 H=>sp (.slice (aa b3 0) 0 0) (zjcc (sw (zi (yS s qC qB qJ qG) isAgg27 sizeOf27 rfl (qI (H.cells 1 rfl) 0 3) (sw (oq (QT _ s (H.get 0 rfl).1 (H.get 1 rfl).1) H fun w6 H=>sw (vk s.qx.length 1 rfl rfl qf (sp (yI 0) (zjn (xq ?_))))))))))))))
 replace H:=H.boxRow 0 rfl 1 0 rfl qj
 replace H:=H.Qn (α:=yLI)
 refine vg (fun m' ρ w8=>∃ (zB:Env) (a_out:yOA) (n_out:Nat) (c_out:Nat) (out:yLL) (x_out:List Value) (F_out:yLN) (k:Nat),ρ=upd (upd (upd (upd zB 1 (pp b1 0)) 3 (.slice a_out n_out c_out)) 7 (yI (s.qx.length+1))) 8 (yI k)∧out=yZ s k∧((k:Int)≤(s.qx.length+1))∧m' =((s.qx.length+1) - (k:Int)).toNat∧Fresh w.heap.size [F_out]∧St w w8 [rr a_out n_out c_out 24 1 x_out,.box b1 (yS s qC qB qJ qG) 27] [xe true F_out x_out out,sF false xk qC qB s.qx,sF false xN qJ qG s.qw]) (((s.qx.length+1) - (0:Int)).toNat) ⟨_,(aa b3 0),0,0,([]:yLL),[],[],0,uE4,(by rfl),qf,rfl,N.emp,H⟩ ?_
 clear H N
 rintro m' ρ w9 ⟨zB,a_out,n_out,c_out,out,x_out,F_out,k,rfl,rfl,i0,rfl,N,H⟩
 have hn_out:=H.zy (α:=yLI) 0 rfl 0 rfl qj
 have zl:=zeros_len s k
 refine zcr (sp (.bool (decide ((k:Int) < (s.qx.length+1)))) (zjn (zx (cD rfl (fun h10=>?_) (fun h10=>?_)))))
 ·skip
  refine xB (t_n (zx (xq (zJ (sp (.slice a_out n_out c_out) (oF rfl (oL rfl (H.cell 1 rfl rfl) (sw (zg H underlying24 ti2 s.qV.toNat rfl rfl qf qf qf fun b11 w12 H=>sw (vV H underlying29 ti24 [.slice (aa b11 0) s.qV.toNat s.qV.toNat] fun b13 w14 H=>?_))))))))))
  obtain ⟨G18,N,hn19,H⟩:=H.zX 1 rfl N (H.jC [0])
  refine sw (vW H 2 rfl 0 rfl underlying29 ti24 rfl qj rfl rfl rfl (by simp [Value.oneCell',Value.cells]) qp qf fun a15 c16 w17 H=>?_)
  replace H:=H.repsSnoc 1 rfl 0 rfl
  replace N:Fresh w.heap.size [(F_out++G18)]:=(N.pick [1,0]).join
  refine sp (.slice a15 (n_out+1) c16) (zK (b_n (t_n (zJ (sw (vk k 1 rfl rfl qf (sp (yI (k+1)) (zK (xH (m' :=((s.qx.length+1) - ((k+1):Int)).toNat) qf ⟨_,a15,n_out+1,c16,((yZ s k)++[(List.replicate s.qV.toNat (0:Int))]),x_out++[.slice (aa b11 0) s.qV.toNat s.qV.toNat],(F_out++G18),k+1,uE4,?_,?_,rfl,N,H.pick [2,3] [0,3,4]⟩)))))))))
  · exact zeros_snoc s k
  · omega
 refine zx4 (zcr (sps [.slice a_out n_out c_out,.slice a_out n_out c_out] (zjr (ret1 (.slice a_out n_out c_out) rfl rfl ⟨_,rfl,?_,H.base⟩))))
 obtain rfl:k=s.qx.length+1:=by omega
 exact ⟨a_out,n_out,c_out,x_out,F_out,rfl,N,H.pick [0] [0]⟩

theorem isBag_ok (w:World) (l:yLI) {al:yOA} {Fl:yLN} (hl:qR.rep w Fl [.slice al l.length cl] l):Calls Try.prog 76 #[.slice al l.length cl] w (Ret (fun v w' =>v=.bool (dec (BagAny l))) w):=by
 refine en func76 ntmps76 ?_
 have H:=(St.start w).arg hl
 have nhl:=qX hl
 clear hl
 have N:=Fresh.nil w.heap.size
 refine zcr (sp (.bool false) (zjc (sp (.slice al l.length cl) (sw (oq (sizeI_ok _ l (H.get 0 rfl).1) H fun w1 H=>sp (.slice al l.length cl) (sw (oq (QV _ (l.length:Int) l (H.get 0 rfl).1) H fun w3 H=>sp (.bool (dec (zA (l.length:Int) l))) (zjr (ret1 (.bool (dec (zA (l.length:Int) l))) rfl rfl ⟨_,rfl,?_,H.base⟩)))))))))
 rw [dec_congr bagAny_ok]

theorem areBags_ok (w:World) (l:yLL) {al:yOA} {Fl:yLN} (hl:qR.rep w Fl [.slice al l.length cl] l):Calls Try.prog 51 #[.slice al l.length cl] w (Ret (fun v w' =>v=.bool (dec (AllBags l l.length))) w):=by
 refine en func51 ntmps51 ?_
 have H:=(St.start w).arg hl
 have nhl:=qX hl
 clear hl
 have N:=Fresh.nil w.heap.size
 refine zcr (sp (.bool false) (zjc (sp (.slice al l.length cl) (sw (vS #[.slice al l.length cl,.func (.func 92) #[] #[]] rfl rfl call83 (en func83 ntmps83 ?_))))))
 refine zcr (sp (.bool false) (zjc (sps [.slice al l.length cl,.func (.func 92) #[] #[]] (sw (vS #[.slice al l.length cl,.func (.func 92) #[] #[]] rfl rfl call112 (en func112 ntmps112 ?_))))))
 refine zcr (sp (yI 0) (zjcc (sp (.slice al l.length cl) (oN rfl (sp (yI 0) (zjn (xq ?_)))))))
 refine vg (fun m' ρ w1=>∃ (zB:Env) (i:Nat),ρ=upd (upd (upd (upd zB 0 (.slice al l.length cl)) 1 (.func (.func 92) #[] #[])) 7 (yI l.length)) 8 (yI i)∧((i:Int)≤l.length)∧(AllBags l i)∧m' =(l.length - (i:Int)).toNat∧Fresh w.heap.size []∧St w w1 [] [sF false Fl al cl l]) ((l.length - (0:Int)).toNat) ⟨_,0,uE4,qf,(by exact fun j hj=>by omega),rfl,N,H⟩ ?_
 clear H N
 rintro m' ρ w2 ⟨zB,i,rfl,i0,i1,rfl,N,H⟩
 refine zcr (sp (.bool (decide ((i:Int) < l.length))) (zjn (zx (cD rfl (fun h3=>?_) (fun h3=>?_)))))
 ·skip
  refine xB (t_n (zx (xq (zcr (sps [yI i,yI i] (zjc (sps [.func (.func 92) #[] #[],.slice al l.length cl,yI i] ?_)))))))
  obtain ⟨b4,o5,rfl⟩:=H.addr 0 rfl qf
  obtain ⟨ae7,ce7,Fe7,H⟩:=H.QH 0 rfl i i qf qf qf
  refine oI rfl rfl (oL rfl (H.zZ 1 rfl 0 rfl) (sw (vS #[.slice ae7 ((l[i]!).length) ce7] rfl rfl call92 (en func92 ntmps92 ?_))))
  refine zcr (sp (.bool false) (zjc (sp (.slice ae7 ((l[i]!).length) ce7) (sw (oq (isBag_ok _ (l[i]!) (H.get 0 rfl).1) H fun w9 H=>sps [.bool (!(dec (BagAny (l[i]!)))),.bool (!(dec (BagAny (l[i]!))))] (zjr (ret1 (.bool (!(dec (BagAny (l[i]!))))) rfl rfl ⟨_,rfl,(zjn (cQ rfl (fun h11=>?_) (fun h11=>?_)))⟩)))))))
  ·skip
   refine zcr (sps [yI i,yI i] (zjr (zr5 (ret1 (yI i) rfl rfl ⟨_,rfl,(sw (o_pure (.bool true) (by show some (Value.bool (decide ((i:Int)≥0)))=some (Value.bool true);rw [decide_eq_true qf]) (sp (.bool true) (zjr (ret1 (.bool true) rfl rfl ⟨_,rfl,(sps [.bool false,.bool false] (zjr (ret1 (.bool false) rfl rfl ⟨_,rfl,?_,H.base⟩)))⟩)))))⟩))))
   rw [xg (fun h=>absurd (h i qf) ql)]
  refine xB (b_n (t_n (zJ (sw (vk i 1 rfl rfl qf (sp (yI (i+1)) (zK (xH (m' :=(l.length - ((i+1):Int)).toNat) qf ⟨_,i+1,uE4,?_,?_,rfl,N,H.pick [] [2]⟩))))))))
  · omega
  · exact i1.succ ql
 refine zx4 (zcr (sp (yI (-1)) (zjr (ret1 (yI (-1)) rfl rfl ⟨_,rfl,(sps [.bool false,.bool false] (zjr (ret1 (.bool false) rfl rfl ⟨_,rfl,(sps [.bool true,.bool true] (zjr (ret1 (.bool true) rfl rfl ⟨_,rfl,?_,H.base⟩)))⟩)))⟩))))
 rw [yz (show AllBags l l.length from fun j hj=>i1 j qf)]

theorem puts_ok (w:World) (s:qy) (t:qA) (counts:yLI) (cell:Int) {qC:yOA} {xk:yLN} {qJ:yOA} {xN:yLN} {qU:yOA} {zF:yLN} {xE:yOA} {vF:yLN} {qN:yOA} {zh:yLN} {acounts:yOA} {Fcounts:yLN} (qW:qR.rep w xk [.slice qC s.qx.length qB] s.qx) (xG:qR.rep w xN [.slice qJ s.qw.length qG] s.qw) (zC:qR.rep w zF [.slice qU t.qF.length qQ] t.qF) (vz:qR.rep w vF [.slice xE t.qL.length xu] t.qL) (zn:qR.rep w zh [.slice qN t.qH.length qM] t.qH) (hcounts:qR.rep w Fcounts [.slice acounts counts.length ccounts] counts) (p0:ve s) (p1:xP s t) (p2:CntOk s counts):Calls Try.prog 50 #[.agg #[yI s.qV,.slice qC s.qx.length qB,.slice qJ s.qw.length qG],.agg #[.slice qU t.qF.length qQ,.slice xE t.qL.length xu,.slice qN t.qH.length qM],.slice acounts counts.length ccounts,yI cell] w (Ret (fun v w' =>∃ (ra:yOA) (rn:Nat) (rc:Nat) (rx:List Value) (rF:yLN),v=.slice ra rn rc∧Fresh w.heap.size [rF]∧St w w' [rr ra rn rc 24 1 rx] [xe true rF rx (putsL s t counts cell)]) w):=by
 refine en func50 ntmps50 ?_
 have H:=((((((St.start w).arg hcounts).arg zn).arg vz).arg zC).arg xG).arg qW
 have zY:=qX qW
 have jw:=qX xG
 have Qq:=qX zC
 have nhtBags:=qX vz
 have yM:=qX zn
 have nhcounts:=qX hcounts
 clear qW xG zC vz zn hcounts
 have N:=Fresh.nil w.heap.size
 have p5:=p0.2.1
 have p6:=p2.1
 have p7:=p1.2.1
 have p8:=kinds_le p0
 have p9:=p0.1.2.1
 have p12:=p1.1
 have p15:=p0.1
 have p16:=p0.1.1
 refine zcr (sw (vP H (yS s qC qB qJ qG) fun b1 w2 H=>sw (vP H (yT t qU qQ xE xu qN qM) fun b3 w4 H=>sp yN (zjc (sw (zi (yS s qC qB qJ qG) isAgg27 sizeOf27 rfl (qI (H.cells 1 rfl) 0 3) ?_))))))
 have sz8:=H.base.size
 refine sw (oc (noBags_ok _ s (H.get 0 rfl).1 (H.get 1 rfl).1 qg) ?_)
 rintro _ w6 ⟨ra5,rn5,rc5,rx5,rF5,rfl,M,K⟩ _
 replace N:=N.merge sz8 qm M
 replace H:=H.merge K M
 obtain rfl:=H.zy (α:=yLI) 0 rfl 0 rfl qj
 refine sp (.slice ra5 ((yZ s (s.qx.length+1)).length) rc5) (zjcc (sp (.slice acounts counts.length ccounts) (oN rfl (sp (yI 0) (zjn (xq ?_))))))
 refine vg (fun m' ρ w11=>∃ (zB:Env) (i:Nat) (bags:yLL) (x_bags:List Value) (F_bags:yLN),ρ=upd (upd (upd (upd (upd (upd (upd zB 3 (yI cell)) 4 (pp b1 0)) 5 (pp b3 0)) 9 (.slice ra5 ((yZ s (s.qx.length+1)).length) rc5)) 15 (.slice acounts counts.length ccounts)) 16 (yI counts.length)) 17 (yI i)∧((i:Int)≤counts.length)∧(Ent (s.qx.length+1) (xY s) (fun p q=>Qw s t counts cell i p q) (1000+6000000 * i) bags)∧(bags.length=s.qx.length+1)∧m' =(counts.length - (i:Int)).toNat∧Fresh w.heap.size [F_bags]∧St w w11 [rr ra5 ((yZ s (s.qx.length+1)).length) rc5 24 1 x_bags,.box b3 (yT t qU qQ xE xu qN qM) 31,.box b1 (yS s qC qB qJ qG) 27] [xe true F_bags x_bags bags,sF false xk qC qB s.qx,sF false xN qJ qG s.qw,sF false zF qU qQ t.qF,sF false vF xE xu t.qL,sF false zh qN qM t.qH,sF false Fcounts acounts ccounts counts]) ((counts.length - (0:Int)).toNat) ⟨_,0,yZ s (s.qx.length+1),rx5,rF5,uE7,qf,(by exact (zeros_ent (B:=0) qf).to (fun _ _=>rfl) qf),(by rw [zeros_len]),rfl,N,H⟩ ?_
 clear H N
 rintro m' ρ w12 ⟨zB,i,bags,x_bags,F_bags,rfl,i0,E_bags,z_bags,rfl,N,H⟩
 have hn_bags:=H.zy (α:=yLI) 0 rfl 0 rfl qj
 refine zcr (sp (.bool (decide ((i:Int) < counts.length))) (zjn (zx (cD rfl (fun h13=>?_) (fun h13=>?_)))))
 ·skip
  have q:=p0.rule (i:=i) qf
  have qc:=q.1
  have qk:=q.cell
  have qr:=q.2.1
  have bn1:=q.2.2.2.2.1
  have bn2:=q.2.2.2.2.2.2.2.1
  have bn3:=q.2.2.2.2.2.2.2.2.1
  have ln1:=bn1.len
  have ln2:=bn2.len
  have ln3:=bn3.len
  have p10:=p2.bd (i:=i) qf
  have qn:=q.2.2.2.1
  refine xB (t_n (zx (xq (zcr (sp (yI i) ?_)))))
  obtain ⟨b14,o15,rfl⟩:=H.addr 6 rfl qf
  refine oI rfl rfl (oL rfl (H.jB 6 rfl i qf qf) (sps [yI i,yI (counts[i]!)] (zjc (oF rfl (oL rfl (H.cell 2 rfl rfl) (sp (yI i) ?_))))))
  obtain ⟨b17,o18,rfl⟩:=H.addr 2 rfl qf
  obtain ⟨QN,QI,Fe20Need,QP,QK,Fe20Have,QO,QJ,Fe20Lack,Qj,Qg,Fe20Here,QB,QA,Fe20Out,Qi,Qe,Fe20Into,H⟩:=H.Qm 2 rfl i i qf qf qf
  refine oI rfl rfl (sw (zi [yI ((s.qw[i]!).qE),yI ((s.qw[i]!).zS),.slice QN (((s.qw[i]!).xn).length) QI,.slice QP (((s.qw[i]!).zf).length) QK,.slice QO (((s.qw[i]!).x8).length) QJ,.slice Qj (((s.qw[i]!).xW).length) Qg,.slice QB (((s.qw[i]!).vC).length) QA,.slice Qi (((s.qw[i]!).qK).length) Qe,.bool ((s.qw[i]!).xU)] isAgg51 sizeOf51 rfl (qI (H.get 6 rfl) 0 9) ?_))
  refine sw (xx H ti51 [yI 0,yI 0,yN,yN,yN,yN,yN,yN,.bool false] fun b21 w22 H=>sw (xf H 0 [yI ((s.qw[i]!).qE),yI ((s.qw[i]!).zS),.slice QN (((s.qw[i]!).xn).length) QI,.slice QP (((s.qw[i]!).zf).length) QK,.slice QO (((s.qw[i]!).x8).length) QJ,.slice Qj (((s.qw[i]!).xW).length) Qg,.slice QB (((s.qw[i]!).vC).length) QA,.slice Qi (((s.qw[i]!).qK).length) Qe,.bool ((s.qw[i]!).xU)] sizeOf51 fun w23 H=>?_))
  refine zjc (oF rfl (oL rfl (H.cell 0 rfl rfl) (sps [yI cell,.bool (((s.qw[i]!).qE:Int) == cell)] (zjn (cE rfl (fun h24=>?_) (fun h24=>?_))))))
  ·skip
   refine zJ (sw (zi [yI s.qV,.slice qC s.qx.length qB,.slice (aa b17 o18) s.qw.length qG] isAgg27 sizeOf27 rfl (qI (H.cells 3 rfl) 0 3) (sw (zi (yT t qU qQ xE xu qN qM) isAgg31 sizeOf31 rfl (qI (H.cells 2 rfl) 0 3) (sp (.slice ra5 ((yZ s (s.qx.length+1)).length) rc5) ?_)))))
   refine sw (zi [yI ((s.qw[i]!).qE),yI ((s.qw[i]!).zS),.slice QN (((s.qw[i]!).xn).length) QI,.slice QP (((s.qw[i]!).zf).length) QK,.slice QO (((s.qw[i]!).x8).length) QJ,.slice Qj (((s.qw[i]!).xW).length) Qg,.slice QB (((s.qw[i]!).vC).length) QA,.slice Qi (((s.qw[i]!).qK).length) Qe,.bool ((s.qw[i]!).xU)] isAgg51 sizeOf51 rfl (qI (H.cells 0 rfl) 0 9) (sp (yI (counts[i]!)) ?_))
   refine sw (vS #[.agg #[yI s.qV,.slice qC s.qx.length qB,.slice (aa b17 o18) s.qw.length qG],.agg #[.slice qU t.qF.length qQ,.slice xE t.qL.length xu,.slice qN t.qH.length qM],.slice ra5 ((yZ s (s.qx.length+1)).length) rc5,.agg #[yI ((s.qw[i]!).qE),yI ((s.qw[i]!).zS),.slice QN (((s.qw[i]!).xn).length) QI,.slice QP (((s.qw[i]!).zf).length) QK,.slice QO (((s.qw[i]!).x8).length) QJ,.slice Qj (((s.qw[i]!).xW).length) Qg,.slice QB (((s.qw[i]!).vC).length) QA,.slice Qi (((s.qw[i]!).qK).length) Qe,.bool ((s.qw[i]!).xU)],yI (counts[i]!)] rfl rfl call86 ?_)
   refine en func86 ntmps86 ?_
   refine zcr (sw (vP H [yI s.qV,.slice qC s.qx.length qB,.slice (aa b17 o18) s.qw.length qG] fun b25 w26 H=>sw (vP H (yT t qU qQ xE xu qN qM) fun b27 w28 H=>sw (vP H [.slice ra5 ((yZ s (s.qx.length+1)).length) rc5] fun b29 w30 H=>?_))))
   refine sw (vP H [yI ((s.qw[i]!).qE),yI ((s.qw[i]!).zS),.slice QN (((s.qw[i]!).xn).length) QI,.slice QP (((s.qw[i]!).zf).length) QK,.slice QO (((s.qw[i]!).x8).length) QJ,.slice Qj (((s.qw[i]!).xW).length) Qg,.slice QB (((s.qw[i]!).vC).length) QA,.slice Qi (((s.qw[i]!).qK).length) Qe,.bool ((s.qw[i]!).xU)] fun b31 w32 H=>sw (vP H [yI (counts[i]!)] fun b33 w34 H=>zjc ?_))
   refine sps [.func (.func 113) #[] #[pp b29 0,pp b33 0],.func (.func 113) #[] #[pp b29 0,pp b33 0]] (zjc (sp (.func (.func 113) #[] #[pp b29 0,pp b33 0]) (oF rfl (oL rfl (H.cell 1 rfl rfl) (oF rfl (oL rfl (H.cell 1 rfl rfl) (sw (vS #[yI ((s.qw[i]!).qE),.slice Qj (((s.qw[i]!).xW).length) Qg,pp b29 0,pp b33 0] rfl rfl call113 (en func113 ntmps113 ?_)))))))))
   refine yE rfl H [0,1,2,3,4,5,7,8] fun H=>?_
   have S:=H.jm [0,1,2,3,4,5,7,8] [0,1,2,3,4,5,6,7,8,9,10,11,12,13]
   refine tL 0 rfl rfl (fun _ h=>h.cell 2 rfl rfl) S ?_
   refine rtp 1 (yI ((s.qw[i]!).qE)) S ?_
   refine tL 2 rfl rfl (fun _ h=>h.cell 2 rfl rfl) S ?_
   refine rtp 3 (yI ((s.qw[i]!).qE)) S ?_
   obtain ⟨b36,rfl⟩:=H.Qv 6 rfl qf
   have S:=H.jm [0,1,2,3,4,5,7,8] [0,1,2,3,4,5,6,7,8,9,10,11,12,13]
   refine tI 4 rfl rfl rfl S ?_
   refine rtp 6 (.slice Qj (((s.qw[i]!).xW).length) Qg) S ?_
   refine tL 7 rfl rfl (fun _ h=>h.cell 0 rfl rfl) S ?_
   refine ro 5 rfl ?_
   obtain ⟨a37,c38,G39,s40,h41,H⟩:=H.jf 6 rfl 7 rfl (iv:=(s.qw[i]!).qE) (((s.qw[i]!).qE).toNat) qf qf
   refine zk (.slice a37 ((bags[((s.qw[i]!).qE).toNat]!).length) c38) isAgg24 rfl (h41) (⟨H.pick [0,1,2,3,4,5,7,8] [1,2,3,4,5,6,7,8,9,10,11,12,13,14],(ro 8 rfl ?_)⟩)
   obtain ⟨u1,u2⟩:=E_bags.sh.row (c:=((s.qw[i]!).qE).toNat) qf p8 qf
   have u4:=(by first | exact bn1.je qf | exact bn2.je qf | exact bn3.je qf | exact bn4.je qf:SmallT ((s.qw[i]!).xW) (counts[i]!))
   have sz42:=H.base.size
   have lt43:=H.ltN (L:=[F_bags]) [8]
   refine oc (QW _ (bags[((s.qw[i]!).qE).toNat]!) ((s.qw[i]!).xW) (counts[i]!) (H.get 0 rfl).1 (H.get 4 rfl).1 qg qg qg) ?_
   rintro v47 w45 r47 x46
   replace H:=H.vG x46 r47
   obtain ⟨a48,c49,rfl,hc50,hm51⟩:=H.yB 0 rfl
   refine ⟨H.pick [1,2,3,4,5,6,8,9] [1,2,3,4,5,6,7,8,9,10,11,12,13,14],(tI 9 rfl rfl rfl (H.pick [1,2,3,4,5,6,8,9] [1,2,3,4,5,6,7,8,9,10,11,12,13,14]) ?_)⟩
   refine ro 10 rfl ?_
   obtain ⟨G53,N,hn54,H⟩:=H.zX 0 rfl N (H.jC [8])
   refine jq true H 7 rfl 9 rfl (.slice a48 ((yf (bags[((s.qw[i]!).qE).toNat]!) ((s.qw[i]!).xW) (counts[i]!)).length) c49) 0 rfl rfl sizeOf24 rfl rfl (i:=(((s.qw[i]!).qE).toNat)) qf qf qm fun w52 xs55 F56 hs57 H=>?_
   replace N:Fresh w.heap.size [F56]:=(N.pick [1,0]).repl hs57
   refine ⟨H.pick [1,2,3,4,5,6,8,9] [3,4,5,6,7,8,9,10,11,12,13,14,15,16],(xh qh ((ret0 rfl ⟨_,rfl,?_⟩)))⟩
   replace H:=H.erases [0]
   dsimp only [jg,List.eraseIdx] at H
   obtain ⟨bg58,e_bg58⟩:∃ z,z=(bags.set (((s.qw[i]!).qE).toNat) (yf (bags[((s.qw[i]!).qE).toNat]!) ((s.qw[i]!).xW) (counts[i]!))):=⟨_,rfl⟩
   rw [← e_bg58] at H
   have E_bg58:=Ent.add (D:=1000000) E_bags e_bg58 qf (by first | exact bn1.mul qf | exact bn2.mul qf | exact bn3.mul qf | exact bn4.mul qf) qf
   have z_bg58:=E_bg58.sh.1
   have E_cur:=E_bg58
   refine zjcc (sw (zi [yI s.qV,.slice qC s.qx.length qB,.slice (aa b17 o18) s.qw.length qG] isAgg27 sizeOf27 rfl (qI (H.cells 4 rfl) 0 3) (sw (zi (yT t qU qQ xE xu qN qM) isAgg31 sizeOf31 rfl (qI (H.cells 3 rfl) 0 3) (oF rfl (oL rfl (H.cell 1 rfl rfl) ?_))))))
   have qc' :=qc
   refine sw (oq (parentNow_ok _ s t ((s.qw[i]!).qE) (H.get 11 rfl).1 (H.get 12 rfl).1 (H.get 13 rfl).1 (H.get 14 rfl).1 (H.get 15 rfl).1 qg qg qg) H fun w60 H=>?_)
   have pl:=parentNow_lt p15 p1.2.2.1 qc
   refine sp (yI (qZ s t ((s.qw[i]!).qE))) (zjc (sps [yI (qZ s t ((s.qw[i]!).qE)),.bool (decide ((qZ s t ((s.qw[i]!).qE):Int)≥0))] (zjn (cD rfl (fun h62=>?_) (fun h62=>?_)))))
   ·skip
    have po:=outPl_in (r:=s.qw[i]!) p15 ‹_›
    refine zJ (sps [.func (.func 113) #[] #[pp b29 0,pp b33 0],yI (qZ s t ((s.qw[i]!).qE))] (oF rfl (oL rfl (H.cell 1 rfl rfl) (sw (vS #[yI (qZ s t ((s.qw[i]!).qE)),.slice QB (((s.qw[i]!).vC).length) QA,pp b29 0,pp b33 0] rfl rfl call113 (en func113 ntmps113 ?_))))))
    refine yE rfl H [0,1,2,3,4,5,7,8] fun H=>?_
    have S:=H.jm [0,1,2,3,4,5,7,8] [0,1,2,3,4,5,6,7,8,9,10,11,12,13,14,15,16]
    refine tL 0 rfl rfl (fun _ h=>h.cell 2 rfl rfl) S ?_
    refine rtp 1 (yI (qZ s t ((s.qw[i]!).qE))) S ?_
    refine tL 2 rfl rfl (fun _ h=>h.cell 2 rfl rfl) S ?_
    refine rtp 3 (yI (qZ s t ((s.qw[i]!).qE))) S ?_
    refine tI 4 rfl rfl rfl S ?_
    refine rtp 6 (.slice QB (((s.qw[i]!).vC).length) QA) S ?_
    refine tL 7 rfl rfl (fun _ h=>h.cell 0 rfl rfl) S ?_
    refine ro 5 rfl ?_
    obtain ⟨a64,c65,G66,s67,h68,H⟩:=H.jf 6 rfl 0 rfl (iv:=qZ s t ((s.qw[i]!).qE)) ((qZ s t ((s.qw[i]!).qE)).toNat) qf qf
    refine zk (.slice a64 ((bg58[(qZ s t ((s.qw[i]!).qE)).toNat]!).length) c65) isAgg24 rfl (h68) (⟨H.pick [0,1,2,3,4,5,7,8] [1,2,3,4,5,6,7,8,9,10,11,12,13,14,15,16,17],(ro 8 rfl ?_)⟩)
    obtain ⟨u1,u2⟩:=E_bg58.sh.row (c:=(qZ s t ((s.qw[i]!).qE)).toNat) qf p8 qf
    have u4:=(by first | exact bn1.je qf | exact bn2.je qf | exact bn3.je qf | exact bn4.je qf:SmallT ((s.qw[i]!).vC) (counts[i]!))
    have sz69:=H.base.size
    have lt70:=H.ltN (L:=[F56]) [1]
    refine oc (QW _ (bg58[(qZ s t ((s.qw[i]!).qE)).toNat]!) ((s.qw[i]!).vC) (counts[i]!) (H.get 0 rfl).1 (H.get 8 rfl).1 qg qg qg) ?_
    rintro v74 w72 r74 x73
    replace H:=H.vG x73 r74
    obtain ⟨a75,c76,rfl,hc77,hm78⟩:=H.yB 0 rfl
    refine ⟨H.pick [1,2,3,4,5,6,8,9] [1,2,3,4,5,6,7,8,9,10,11,12,13,14,15,16,17],(tI 9 rfl rfl rfl (H.pick [1,2,3,4,5,6,8,9] [1,2,3,4,5,6,7,8,9,10,11,12,13,14,15,16,17]) ?_)⟩
    refine ro 10 rfl ?_
    obtain ⟨G80,N,hn81,H⟩:=H.zX 0 rfl N (H.jC [1])
    refine jq true H 7 rfl 2 rfl (.slice a75 ((yf (bg58[(qZ s t ((s.qw[i]!).qE)).toNat]!) ((s.qw[i]!).vC) (counts[i]!)).length) c76) 0 rfl rfl sizeOf24 rfl rfl (i:=((qZ s t ((s.qw[i]!).qE)).toNat)) qf qf qm fun w79 xs82 F83 hs84 H=>?_
    replace N:Fresh w.heap.size [F83]:=(N.pick [1,0]).repl hs84
    refine ⟨H.pick [1,2,3,4,5,6,8,9] [3,4,5,6,7,8,9,10,11,12,13,14,15,16,17,18,19],(xh qh ((ret0 rfl ⟨_,rfl,?_⟩)))⟩
    replace H:=H.erases [0]
    dsimp only [jg,List.eraseIdx] at H
    obtain ⟨bg85,e_bg85⟩:∃ z,z=(bg58.set ((qZ s t ((s.qw[i]!).qE)).toNat) (yf (bg58[(qZ s t ((s.qw[i]!).qE)).toNat]!) ((s.qw[i]!).vC) (counts[i]!))):=⟨_,rfl⟩
    rw [← e_bg85] at H
    have E_bg85:=Ent.add (D:=1000000) E_bg58 e_bg85 qf (by first | exact bn1.mul qf | exact bn2.mul qf | exact bn3.mul qf | exact bn4.mul qf) qf
    have z_bg85:=E_bg85.sh.1
    have E_cur:=E_bg85
    refine zjc (oF rfl (oL rfl (H.cell 1 rfl rfl) (oN rfl (sp (yI 0) (zjn (xq ?_))))))
    refine vg (fun m' ρ w86=>∃ (zB:Env) (k:Nat) (bags_1:yLL) (jK:List Value) (jL:yLN),ρ=upd (upd (upd (upd zB 10 (.func (.func 113) #[] #[pp b29 0,pp b33 0])) 40 (.slice Qi (((s.qw[i]!).qK).length) Qe)) 41 (yI (((s.qw[i]!).qK).length))) 42 (yI k)∧((k:Int)≤(((s.qw[i]!).qK).length))∧(Ent (s.qx.length+1) (xY s) (fun p q=>Qw s t counts cell i p q+at' p (s.qw[i]!).qE.toNat (((counts)[i]!) * ((s.qw[i]!).xW)[q]!)+at' p (outPl s t (s.qw[i]!)) (((counts)[i]!) * ((s.qw[i]!).vC)[q]!)+intoF (s.qw[i]!) ((counts)[i]!) k p q) (3000000+6000000 * i+1000000 * k) bags_1)∧(bags_1.length=s.qx.length+1)∧m' =((((s.qw[i]!).qK).length) - (k:Int)).toNat∧Fresh w.heap.size [jL]∧St w w86 [.box b33 [yI (counts[i]!)] 2,.box b31 [yI ((s.qw[i]!).qE),yI ((s.qw[i]!).zS),.slice QN (((s.qw[i]!).xn).length) QI,.slice QP (((s.qw[i]!).zf).length) QK,.slice QO (((s.qw[i]!).x8).length) QJ,.slice Qj (((s.qw[i]!).xW).length) Qg,.slice QB (((s.qw[i]!).vC).length) QA,.slice Qi (((s.qw[i]!).qK).length) Qe,.bool ((s.qw[i]!).xU)] 51,.box b29 [.slice (aa b36 0) ((yZ s (s.qx.length+1)).length) rc5] 29,.box b27 (yT t qU qQ xE xu qN qM) 31,.box b25 [yI s.qV,.slice qC s.qx.length qB,.slice (aa b17 o18) s.qw.length qG] 27,.box b21 [yI ((s.qw[i]!).qE),yI ((s.qw[i]!).zS),.slice QN (((s.qw[i]!).xn).length) QI,.slice QP (((s.qw[i]!).zf).length) QK,.slice QO (((s.qw[i]!).x8).length) QJ,.slice Qj (((s.qw[i]!).xW).length) Qg,.slice QB (((s.qw[i]!).vC).length) QA,.slice Qi (((s.qw[i]!).qK).length) Qe,.bool ((s.qw[i]!).xU)] 51,rr (aa b36 0) ((yZ s (s.qx.length+1)).length) rc5 24 1 jK,.box b3 (yT t qU qQ xE xu qN qM) 31,.box b1 [yI s.qV,.slice qC s.qx.length qB,.slice (aa b17 o18) s.qw.length qG] 27] [xe true jL jK bags_1,sF false Fe20Need QN QI ((s.qw[i]!).xn),sF false Fe20Have QP QK ((s.qw[i]!).zf),sF false Fe20Lack QO QJ ((s.qw[i]!).x8),sF false Fe20Here Qj Qg ((s.qw[i]!).xW),sF false Fe20Out QB QA ((s.qw[i]!).vC),sF false Fe20Into Qi Qe ((s.qw[i]!).qK),atF b17 (o18+(i:Int).toNat * 9) [yI ((s.qw[i]!).qE),yI ((s.qw[i]!).zS),.slice QN (((s.qw[i]!).xn).length) QI,.slice QP (((s.qw[i]!).zf).length) QK,.slice QO (((s.qw[i]!).x8).length) QJ,.slice Qj (((s.qw[i]!).xW).length) Qg,.slice QB (((s.qw[i]!).vC).length) QA,.slice Qi (((s.qw[i]!).qK).length) Qe,.bool ((s.qw[i]!).xU)],sF false xk qC qB s.qx,sF false xN (aa b17 o18) qG s.qw,sF false zF qU qQ t.qF,sF false vF xE xu t.qL,sF false zh qN qM t.qH,sF false Fcounts (aa b14 o15) ccounts counts]) (((((s.qw[i]!).qK).length) - (0:Int)).toNat) ⟨_,0,bg85,xs82,F83,uE4,qf,(by exact E_cur.to (fun p q=>by rw [po];simp only [intoF];first | omega | (simp only [Int.toNat_natCast];omega)) qf),qf,rfl,N,H.pick [0,1,2,3,4,5,6,7,8] [0,6,7,8,9,10,11,12,14,15,16,17,18,19]⟩ ?_
    clear H N
    rintro m' ρ w87 ⟨zB,k,bags_1,jK,jL,rfl,i0,E_bags_1,z_bags_1,rfl,N,H⟩
    have hn_bags:=H.zy (α:=yLI) 6 rfl 0 rfl qj
    refine zcr (sp (.bool (decide ((k:Int) < (((s.qw[i]!).qK).length)))) (zjn (zx (cD rfl (fun h88=>?_) (fun h88=>?_)))))
    ·skip
     have qi:=q.2.2.2.2.2.2.2.2.2.2 k qf
     have qi1:=qi.1
     have bn4:=qi.2.2.1
     have ln4:=bn4.len
     refine xB (t_n (zx (xq (zcr ?_))))
     obtain ⟨b89,o90,rfl⟩:=H.addr 6 rfl qf
     obtain ⟨ae92Bag,ce92Bag,Fe92Bag,H⟩:=H.yh 6 rfl k k qf qf qf
     refine oI rfl rfl (sw (zi [yI ((((s.qw[i]!).qK)[k]!).qE),.slice ae92Bag (((((s.qw[i]!).qK)[k]!).yx).length) ce92Bag] isAgg121 sizeOf121 rfl (qI (H.get 1 rfl) 0 2) (sw (xx H ti121 [yI 0,yN] fun b93 w94 H=>sw (xf H 0 [yI ((((s.qw[i]!).qK)[k]!).qE),.slice ae92Bag (((((s.qw[i]!).qK)[k]!).yx).length) ce92Bag] sizeOf121 fun w95 H=>zjn (zJ (sp (.func (.func 113) #[] #[pp b29 0,pp b33 0]) (oF rfl (oL rfl (H.cell 0 rfl rfl) (oF rfl (oL rfl (H.cell 0 rfl rfl) ?_)))))))))))
     refine sw (vS #[yI ((((s.qw[i]!).qK)[k]!).qE),.slice ae92Bag (((((s.qw[i]!).qK)[k]!).yx).length) ce92Bag,pp b29 0,pp b33 0] rfl rfl call113 (en func113 ntmps113 ?_))
     refine yE rfl H [0,1,2,3,4,5,6,8,9] fun H=>?_
     have S:=H.jm [0,1,2,3,4,5,6,8,9] [0,1,2,3,4,5,6,7,8,9,10,11,12,13,14,15]
     refine tL 0 rfl rfl (fun _ h=>h.cell 3 rfl rfl) S ?_
     refine rtp 1 (yI ((((s.qw[i]!).qK)[k]!).qE)) S ?_
     refine tL 2 rfl rfl (fun _ h=>h.cell 3 rfl rfl) S ?_
     refine rtp 3 (yI ((((s.qw[i]!).qK)[k]!).qE)) S ?_
     refine tI 4 rfl rfl rfl S ?_
     refine rtp 6 (.slice ae92Bag (((((s.qw[i]!).qK)[k]!).yx).length) ce92Bag) S ?_
     refine tL 7 rfl rfl (fun _ h=>h.cell 1 rfl rfl) S ?_
     refine ro 5 rfl ?_
     obtain ⟨a97,c98,G99,s100,h101,H⟩:=H.jf 7 rfl 2 rfl (iv:=(((s.qw[i]!).qK)[k]!).qE) (((((s.qw[i]!).qK)[k]!).qE).toNat) qf qf
     refine zk (.slice a97 ((bags_1[((((s.qw[i]!).qK)[k]!).qE).toNat]!).length) c98) isAgg24 rfl (h101) (⟨H.pick [0,1,2,3,4,5,6,8,9] [1,2,3,4,5,6,7,8,9,10,11,12,13,14,15,16],(ro 8 rfl ?_)⟩)
     obtain ⟨u1,u2⟩:=E_bags_1.sh.row (c:=((((s.qw[i]!).qK)[k]!).qE).toNat) qf p8 qf
     have u4:=(by first | exact bn1.je qf | exact bn2.je qf | exact bn3.je qf | exact bn4.je qf:SmallT ((((s.qw[i]!).qK)[k]!).yx) (counts[i]!))
     have sz102:=H.base.size
     have lt103:=H.ltN (L:=[jL]) [3]
     refine oc (QW _ (bags_1[((((s.qw[i]!).qK)[k]!).qE).toNat]!) ((((s.qw[i]!).qK)[k]!).yx) (counts[i]!) (H.get 0 rfl).1 (H.get 1 rfl).1 qg qg qg) ?_
     rintro v107 w105 r107 x106
     replace H:=H.vG x106 r107
     obtain ⟨a108,c109,rfl,hc110,hm111⟩:=H.yB 0 rfl
     refine ⟨H.pick [1,2,3,4,5,6,7,9,10] [1,2,3,4,5,6,7,8,9,10,11,12,13,14,15,16],(tI 9 rfl rfl rfl (H.pick [1,2,3,4,5,6,7,9,10] [1,2,3,4,5,6,7,8,9,10,11,12,13,14,15,16]) ?_)⟩
     refine ro 10 rfl ?_
     obtain ⟨G113,N,hn114,H⟩:=H.zX 0 rfl N (H.jC [3])
     refine jq true H 8 rfl 4 rfl (.slice a108 ((yf (bags_1[((((s.qw[i]!).qK)[k]!).qE).toNat]!) ((((s.qw[i]!).qK)[k]!).yx) (counts[i]!)).length) c109) 0 rfl rfl sizeOf24 rfl rfl (i:=(((((s.qw[i]!).qK)[k]!).qE).toNat)) qf qf qm fun w112 xs115 F116 hs117 H=>?_
     replace N:Fresh w.heap.size [F116]:=(N.pick [1,0]).repl hs117
     refine ⟨H.pick [1,2,3,4,5,6,7,9,10] [3,4,5,6,7,8,9,10,11,12,13,14,15,16,17,18],(xh qh ((ret0 rfl ⟨_,rfl,?_⟩)))⟩
     replace H:=H.erases [0]
     dsimp only [jg,List.eraseIdx] at H
     obtain ⟨bg118,e_bg118⟩:∃ z,z=(bags_1.set (((((s.qw[i]!).qK)[k]!).qE).toNat) (yf (bags_1[((((s.qw[i]!).qK)[k]!).qE).toNat]!) ((((s.qw[i]!).qK)[k]!).yx) (counts[i]!))):=⟨_,rfl⟩
     rw [← e_bg118] at H
     have E_bg118:=Ent.add (D:=1000000) E_bags_1 e_bg118 qf (by first | exact bn1.mul qf | exact bn2.mul qf | exact bn3.mul qf | exact bn4.mul qf) qf
     have z_bg118:=E_bg118.sh.1
     have E_cur:=E_bg118
     refine zK (b_n (t_n (zJ (sw (vk k 1 rfl rfl qf (sp (yI (k+1)) (zK (xH (m' :=((((s.qw[i]!).qK).length) - ((k+1):Int)).toNat) qf ⟨_,k+1,bg118,xs115,F116,uE4,?_,?_,?_,rfl,N,H.pick [1,2,3,4,5,6,7,8,9] [0,6,7,8,9,10,11,12,13,14,15,16,17,18]⟩))))))))
     · omega
     · exact E_cur.to (fun p q=>by simp only [intoF];omega) qf
     · omega
    refine c_exit (t_x (t_x (b_x (ret0 rfl ⟨_,rfl,?_⟩))))
    replace H:=H.erases [4,3,2,1,0]
    dsimp only [jg,List.eraseIdx] at H
    refine zK (b_n (t_n (zJ (sw (vk i 1 rfl rfl qf (sp (yI (i+1)) (zK (xH (m' :=(counts.length - ((i+1):Int)).toNat) qf ⟨_,i+1,bags_1,jK,jL,uE7,?_,?_,?_,rfl,N,H.pick [1,2,3] [0,8,9,10,11,12,13]⟩))))))))
    · omega
    · first | exact E_bags.to (fun p q=>by rw [puts_no (i:=i) ql]) qf | exact E_bags_1.to (fun p q=>by rw [show k=((s.qw[i]!).qK).length by omega,puts_yes (i:=i) ql];simp only [putF];omega) qf
    · omega
   have po:=outPl_out (r:=s.qw[i]!) p15 p1.2.2.1 qc qf
   refine yE rfl H [0,1,2,3,4,5,7,8] fun H=>?_
   have S:=H.jm [0,1,2,3,4,5,7,8] [0,1,2,3,4,5,6,7,8,9,10,11,12,13,14,15,16]
   refine rtp 0 (.func (.func 113) #[] #[pp b29 0,pp b33 0]) S ?_
   refine rt 1 (.agg #[yI s.qV,.slice qC s.qx.length qB,.slice (aa b17 o18) s.qw.length qG]) (yj (cs:=[yI s.qV,.slice qC s.qx.length qB,.slice (aa b17 o18) s.qw.length qG]) isAgg27 sizeOf27 rfl (fun _ h=>qI (h.cells 4 rfl) 0 3)) S ?_
   refine tF 3 rfl rfl S ?_
   refine tL 4 rfl rfl (fun _ h=>h.cell 1 rfl rfl) S ?_
   refine ro 2 rfl (oq (QT _ s (H.get 11 rfl).1 (H.get 12 rfl).1) H fun w121 H=>⟨H.pick [0,1,2,3,4,5,7,8] [0,1,2,3,4,5,6,7,8,9,10,11,12,13,14,15,16],(ro 5 rfl (vS #[yI s.qx.length,.slice QB (((s.qw[i]!).vC).length) QA,pp b29 0,pp b33 0] rfl rfl call113 (en func113 ntmps113 ?_)))⟩)
   refine yE rfl H [0,1,2,3,4,5,7,8] fun H=>?_
   have S:=H.jm [0,1,2,3,4,5,7,8] [0,1,2,3,4,5,6,7,8,9,10,11,12,13,14,15,16]
   refine tL 0 rfl rfl (fun _ h=>h.cell 2 rfl rfl) S ?_
   refine rtp 1 (yI s.qx.length) S ?_
   refine tL 2 rfl rfl (fun _ h=>h.cell 2 rfl rfl) S ?_
   refine rtp 3 (yI s.qx.length) S ?_
   refine tI 4 rfl rfl rfl S ?_
   refine rtp 6 (.slice QB (((s.qw[i]!).vC).length) QA) S ?_
   refine tL 7 rfl rfl (fun _ h=>h.cell 0 rfl rfl) S ?_
   refine ro 5 rfl ?_
   obtain ⟨a124,c125,G126,s127,h128,H⟩:=H.jf 6 rfl 0 rfl (iv:=s.qx.length) s.qx.length qf qf
   refine zk (.slice a124 ((bg58[s.qx.length]!).length) c125) isAgg24 rfl (h128) (⟨H.pick [0,1,2,3,4,5,7,8] [1,2,3,4,5,6,7,8,9,10,11,12,13,14,15,16,17],(ro 8 rfl ?_)⟩)
   obtain ⟨u1,u2⟩:=E_bg58.sh.row (c:=s.qx.length) qf p8 qf
   have u4:=(by first | exact bn1.je qf | exact bn2.je qf | exact bn3.je qf | exact bn4.je qf:SmallT ((s.qw[i]!).vC) (counts[i]!))
   have sz129:=H.base.size
   have lt130:=H.ltN (L:=[F56]) [1]
   refine oc (QW _ (bg58[s.qx.length]!) ((s.qw[i]!).vC) (counts[i]!) (H.get 0 rfl).1 (H.get 8 rfl).1 qg qg qg) ?_
   rintro v134 w132 r134 x133
   replace H:=H.vG x133 r134
   obtain ⟨a135,c136,rfl,hc137,hm138⟩:=H.yB 0 rfl
   refine ⟨H.pick [1,2,3,4,5,6,8,9] [1,2,3,4,5,6,7,8,9,10,11,12,13,14,15,16,17],(tI 9 rfl rfl rfl (H.pick [1,2,3,4,5,6,8,9] [1,2,3,4,5,6,7,8,9,10,11,12,13,14,15,16,17]) ?_)⟩
   refine ro 10 rfl ?_
   obtain ⟨G140,N,hn141,H⟩:=H.zX 0 rfl N (H.jC [1])
   refine jq true H 7 rfl 2 rfl (.slice a135 ((yf (bg58[s.qx.length]!) ((s.qw[i]!).vC) (counts[i]!)).length) c136) 0 rfl rfl sizeOf24 rfl rfl (i:=s.qx.length) qf qf qm fun w139 xs142 F143 hs144 H=>?_
   replace N:Fresh w.heap.size [F143]:=(N.pick [1,0]).repl hs144
   refine ⟨H.pick [1,2,3,4,5,6,8,9] [3,4,5,6,7,8,9,10,11,12,13,14,15,16,17,18,19],(xh qh ((ret0 rfl ⟨_,rfl,?_⟩)))⟩
   replace H:=H.erases [0]
   dsimp only [jg,List.eraseIdx] at H
   obtain ⟨bg145,e_bg145⟩:∃ z,z=(bg58.set s.qx.length (yf (bg58[s.qx.length]!) ((s.qw[i]!).vC) (counts[i]!))):=⟨_,rfl⟩
   rw [← e_bg145] at H
   have E_bg145:=Ent.add (D:=1000000) E_bg58 e_bg145 qf (by first | exact bn1.mul qf | exact bn2.mul qf | exact bn3.mul qf | exact bn4.mul qf) qf
   have z_bg145:=E_bg145.sh.1
   have E_cur:=E_bg145
   refine ⟨H.pick [0,1,2,3,4,5,7,8] [3,4,5,6,7,8,9,10,11,12,13,14,15,16,17,18,19],(xh qh (t_n (zcr (oF rfl (oL rfl (H.cell 1 rfl rfl) (oN rfl (sp (yI 0) (zjn (xq ?_)))))))))⟩
   refine vg (fun m' ρ w146=>∃ (zB:Env) (k:Nat) (bags_1:yLL) (jK:List Value) (jL:yLN),ρ=upd (upd (upd (upd zB 10 (.func (.func 113) #[] #[pp b29 0,pp b33 0])) 40 (.slice Qi (((s.qw[i]!).qK).length) Qe)) 41 (yI (((s.qw[i]!).qK).length))) 42 (yI k)∧((k:Int)≤(((s.qw[i]!).qK).length))∧(Ent (s.qx.length+1) (xY s) (fun p q=>Qw s t counts cell i p q+at' p (s.qw[i]!).qE.toNat (((counts)[i]!) * ((s.qw[i]!).xW)[q]!)+at' p (outPl s t (s.qw[i]!)) (((counts)[i]!) * ((s.qw[i]!).vC)[q]!)+intoF (s.qw[i]!) ((counts)[i]!) k p q) (3000000+6000000 * i+1000000 * k) bags_1)∧(bags_1.length=s.qx.length+1)∧m' =((((s.qw[i]!).qK).length) - (k:Int)).toNat∧Fresh w.heap.size [jL]∧St w w146 [.box b33 [yI (counts[i]!)] 2,.box b31 [yI ((s.qw[i]!).qE),yI ((s.qw[i]!).zS),.slice QN (((s.qw[i]!).xn).length) QI,.slice QP (((s.qw[i]!).zf).length) QK,.slice QO (((s.qw[i]!).x8).length) QJ,.slice Qj (((s.qw[i]!).xW).length) Qg,.slice QB (((s.qw[i]!).vC).length) QA,.slice Qi (((s.qw[i]!).qK).length) Qe,.bool ((s.qw[i]!).xU)] 51,.box b29 [.slice (aa b36 0) ((yZ s (s.qx.length+1)).length) rc5] 29,.box b27 (yT t qU qQ xE xu qN qM) 31,.box b25 [yI s.qV,.slice qC s.qx.length qB,.slice (aa b17 o18) s.qw.length qG] 27,.box b21 [yI ((s.qw[i]!).qE),yI ((s.qw[i]!).zS),.slice QN (((s.qw[i]!).xn).length) QI,.slice QP (((s.qw[i]!).zf).length) QK,.slice QO (((s.qw[i]!).x8).length) QJ,.slice Qj (((s.qw[i]!).xW).length) Qg,.slice QB (((s.qw[i]!).vC).length) QA,.slice Qi (((s.qw[i]!).qK).length) Qe,.bool ((s.qw[i]!).xU)] 51,rr (aa b36 0) ((yZ s (s.qx.length+1)).length) rc5 24 1 jK,.box b3 (yT t qU qQ xE xu qN qM) 31,.box b1 [yI s.qV,.slice qC s.qx.length qB,.slice (aa b17 o18) s.qw.length qG] 27] [xe true jL jK bags_1,sF false Fe20Need QN QI ((s.qw[i]!).xn),sF false Fe20Have QP QK ((s.qw[i]!).zf),sF false Fe20Lack QO QJ ((s.qw[i]!).x8),sF false Fe20Here Qj Qg ((s.qw[i]!).xW),sF false Fe20Out QB QA ((s.qw[i]!).vC),sF false Fe20Into Qi Qe ((s.qw[i]!).qK),atF b17 (o18+(i:Int).toNat * 9) [yI ((s.qw[i]!).qE),yI ((s.qw[i]!).zS),.slice QN (((s.qw[i]!).xn).length) QI,.slice QP (((s.qw[i]!).zf).length) QK,.slice QO (((s.qw[i]!).x8).length) QJ,.slice Qj (((s.qw[i]!).xW).length) Qg,.slice QB (((s.qw[i]!).vC).length) QA,.slice Qi (((s.qw[i]!).qK).length) Qe,.bool ((s.qw[i]!).xU)],sF false xk qC qB s.qx,sF false xN (aa b17 o18) qG s.qw,sF false zF qU qQ t.qF,sF false vF xE xu t.qL,sF false zh qN qM t.qH,sF false Fcounts (aa b14 o15) ccounts counts]) (((((s.qw[i]!).qK).length) - (0:Int)).toNat) ⟨_,0,bg145,xs142,F143,uE4,qf,(by exact E_cur.to (fun p q=>by rw [po];simp only [intoF];first | omega | (simp only [Int.toNat_natCast];omega)) qf),qf,rfl,N,H.pick [0,1,2,3,4,5,6,7,8] [0,6,7,8,9,10,11,12,14,15,16,17,18,19]⟩ ?_
   clear H N
   rintro m' ρ w147 ⟨zB,k,bags_1,jK,jL,rfl,i0,E_bags_1,z_bags_1,rfl,N,H⟩
   have hn_bags:=H.zy (α:=yLI) 6 rfl 0 rfl qj
   refine zcr (sp (.bool (decide ((k:Int) < (((s.qw[i]!).qK).length)))) (zjn (zx (cD rfl (fun h148=>?_) (fun h148=>?_)))))
   ·skip
    have qi:=q.2.2.2.2.2.2.2.2.2.2 k qf
    have qi1:=qi.1
    have bn4:=qi.2.2.1
    have ln4:=bn4.len
    refine xB (t_n (zx (xq (zcr ?_))))
    obtain ⟨b149,o150,rfl⟩:=H.addr 6 rfl qf
    obtain ⟨ae152Bag,ce152Bag,Fe152Bag,H⟩:=H.yh 6 rfl k k qf qf qf
    refine oI rfl rfl (sw (zi [yI ((((s.qw[i]!).qK)[k]!).qE),.slice ae152Bag (((((s.qw[i]!).qK)[k]!).yx).length) ce152Bag] isAgg121 sizeOf121 rfl (qI (H.get 1 rfl) 0 2) (sw (xx H ti121 [yI 0,yN] fun b153 w154 H=>sw (xf H 0 [yI ((((s.qw[i]!).qK)[k]!).qE),.slice ae152Bag (((((s.qw[i]!).qK)[k]!).yx).length) ce152Bag] sizeOf121 fun w155 H=>zjn (zJ (sp (.func (.func 113) #[] #[pp b29 0,pp b33 0]) (oF rfl (oL rfl (H.cell 0 rfl rfl) (oF rfl (oL rfl (H.cell 0 rfl rfl) ?_)))))))))))
    refine sw (vS #[yI ((((s.qw[i]!).qK)[k]!).qE),.slice ae152Bag (((((s.qw[i]!).qK)[k]!).yx).length) ce152Bag,pp b29 0,pp b33 0] rfl rfl call113 (en func113 ntmps113 ?_))
    refine yE rfl H [0,1,2,3,4,5,6,8,9] fun H=>?_
    have S:=H.jm [0,1,2,3,4,5,6,8,9] [0,1,2,3,4,5,6,7,8,9,10,11,12,13,14,15]
    refine tL 0 rfl rfl (fun _ h=>h.cell 3 rfl rfl) S ?_
    refine rtp 1 (yI ((((s.qw[i]!).qK)[k]!).qE)) S ?_
    refine tL 2 rfl rfl (fun _ h=>h.cell 3 rfl rfl) S ?_
    refine rtp 3 (yI ((((s.qw[i]!).qK)[k]!).qE)) S ?_
    refine tI 4 rfl rfl rfl S ?_
    refine rtp 6 (.slice ae152Bag (((((s.qw[i]!).qK)[k]!).yx).length) ce152Bag) S ?_
    refine tL 7 rfl rfl (fun _ h=>h.cell 1 rfl rfl) S ?_
    refine ro 5 rfl ?_
    obtain ⟨a157,c158,G159,s160,h161,H⟩:=H.jf 7 rfl 2 rfl (iv:=(((s.qw[i]!).qK)[k]!).qE) (((((s.qw[i]!).qK)[k]!).qE).toNat) qf qf
    refine zk (.slice a157 ((bags_1[((((s.qw[i]!).qK)[k]!).qE).toNat]!).length) c158) isAgg24 rfl (h161) (⟨H.pick [0,1,2,3,4,5,6,8,9] [1,2,3,4,5,6,7,8,9,10,11,12,13,14,15,16],(ro 8 rfl ?_)⟩)
    obtain ⟨u1,u2⟩:=E_bags_1.sh.row (c:=((((s.qw[i]!).qK)[k]!).qE).toNat) qf p8 qf
    have u4:=(by first | exact bn1.je qf | exact bn2.je qf | exact bn3.je qf | exact bn4.je qf:SmallT ((((s.qw[i]!).qK)[k]!).yx) (counts[i]!))
    have sz162:=H.base.size
    have lt163:=H.ltN (L:=[jL]) [3]
    refine oc (QW _ (bags_1[((((s.qw[i]!).qK)[k]!).qE).toNat]!) ((((s.qw[i]!).qK)[k]!).yx) (counts[i]!) (H.get 0 rfl).1 (H.get 1 rfl).1 qg qg qg) ?_
    rintro v167 w165 r167 x166
    replace H:=H.vG x166 r167
    obtain ⟨a168,c169,rfl,hc170,hm171⟩:=H.yB 0 rfl
    refine ⟨H.pick [1,2,3,4,5,6,7,9,10] [1,2,3,4,5,6,7,8,9,10,11,12,13,14,15,16],(tI 9 rfl rfl rfl (H.pick [1,2,3,4,5,6,7,9,10] [1,2,3,4,5,6,7,8,9,10,11,12,13,14,15,16]) ?_)⟩
    refine ro 10 rfl ?_
    obtain ⟨G173,N,hn174,H⟩:=H.zX 0 rfl N (H.jC [3])
    refine jq true H 8 rfl 4 rfl (.slice a168 ((yf (bags_1[((((s.qw[i]!).qK)[k]!).qE).toNat]!) ((((s.qw[i]!).qK)[k]!).yx) (counts[i]!)).length) c169) 0 rfl rfl sizeOf24 rfl rfl (i:=(((((s.qw[i]!).qK)[k]!).qE).toNat)) qf qf qm fun w172 xs175 F176 hs177 H=>?_
    replace N:Fresh w.heap.size [F176]:=(N.pick [1,0]).repl hs177
    refine ⟨H.pick [1,2,3,4,5,6,7,9,10] [3,4,5,6,7,8,9,10,11,12,13,14,15,16,17,18],(xh qh ((ret0 rfl ⟨_,rfl,?_⟩)))⟩
    replace H:=H.erases [0]
    dsimp only [jg,List.eraseIdx] at H
    obtain ⟨bg178,e_bg178⟩:∃ z,z=(bags_1.set (((((s.qw[i]!).qK)[k]!).qE).toNat) (yf (bags_1[((((s.qw[i]!).qK)[k]!).qE).toNat]!) ((((s.qw[i]!).qK)[k]!).yx) (counts[i]!))):=⟨_,rfl⟩
    rw [← e_bg178] at H
    have E_bg178:=Ent.add (D:=1000000) E_bags_1 e_bg178 qf (by first | exact bn1.mul qf | exact bn2.mul qf | exact bn3.mul qf | exact bn4.mul qf) qf
    have z_bg178:=E_bg178.sh.1
    have E_cur:=E_bg178
    refine zK (b_n (t_n (zJ (sw (vk k 1 rfl rfl qf (sp (yI (k+1)) (zK (xH (m' :=((((s.qw[i]!).qK).length) - ((k+1):Int)).toNat) qf ⟨_,k+1,bg178,xs175,F176,uE4,?_,?_,?_,rfl,N,H.pick [1,2,3,4,5,6,7,8,9] [0,6,7,8,9,10,11,12,13,14,15,16,17,18]⟩))))))))
    · omega
    · exact E_cur.to (fun p q=>by simp only [intoF];omega) qf
    · omega
   refine c_exit (t_x (t_x (b_x (ret0 rfl ⟨_,rfl,?_⟩))))
   replace H:=H.erases [4,3,2,1,0]
   dsimp only [jg,List.eraseIdx] at H
   refine zK (b_n (t_n (zJ (sw (vk i 1 rfl rfl qf (sp (yI (i+1)) (zK (xH (m' :=(counts.length - ((i+1):Int)).toNat) qf ⟨_,i+1,bags_1,jK,jL,uE7,?_,?_,?_,rfl,N,H.pick [1,2,3] [0,8,9,10,11,12,13]⟩))))))))
   · omega
   · first | exact E_bags.to (fun p q=>by rw [puts_no (i:=i) ql]) qf | exact E_bags_1.to (fun p q=>by rw [show k=((s.qw[i]!).qK).length by omega,puts_yes (i:=i) ql];simp only [putF];omega) qf
   · omega
  refine xB (b_n (t_n (zJ (sw (vk i 1 rfl rfl qf (sp (yI (i+1)) (zK (xH (m' :=(counts.length - ((i+1):Int)).toNat) qf ⟨_,i+1,bags,x_bags,F_bags,uE7,?_,?_,?_,rfl,N,H.pick [1,2,3] [7,8,9,10,11,12,13]⟩))))))))
  · omega
  · first | exact E_bags.to (fun p q=>by rw [puts_no (i:=i) ql]) qf | exact E_bags_1.to (fun p q=>by rw [show k=((s.qw[i]!).qK).length by omega,puts_yes (i:=i) ql];simp only [putF];omega) qf
  · omega
 refine zx4 (zcr (sps [.slice ra5 ((yZ s (s.qx.length+1)).length) rc5,.slice ra5 ((yZ s (s.qx.length+1)).length) rc5] (zjr (ret1 (.slice ra5 ((yZ s (s.qx.length+1)).length) rc5) rfl rfl ⟨_,rfl,?_,H.base⟩))))
 rw [show putsL s t counts cell=bags from (E_bags.to (fun p q=>by rw [show i=s.qw.length by omega]) (Int.le_refl _)).tab.symm]
 exact ⟨ra5,(yZ s (s.qx.length+1)).length,rc5,x_bags,F_bags,rfl,N,H.pick [0] [0]⟩

theorem implPuts_ok (w:World) (s:qy) (t:qA) (cell:Int) {qC:yOA} {xk:yLN} {qJ:yOA} {xN:yLN} {qU:yOA} {zF:yLN} {xE:yOA} {vF:yLN} {qN:yOA} {zh:yLN} (qW:qR.rep w xk [.slice qC s.qx.length qB] s.qx) (xG:qR.rep w xN [.slice qJ s.qw.length qG] s.qw) (zC:qR.rep w zF [.slice qU t.qF.length qQ] t.qF) (vz:qR.rep w vF [.slice xE t.qL.length xu] t.qL) (zn:qR.rep w zh [.slice qN t.qH.length qM] t.qH):Calls Try.prog 20 #[.agg #[yI s.qV,.slice qC s.qx.length qB,.slice qJ s.qw.length qG],.agg #[.slice qU t.qF.length qQ,.slice xE t.qL.length xu,.slice qN t.qH.length qM],yI cell] w (Ret (fun v w' =>∃ (ra0:yOA) (rn0:Nat) (rc0:Nat) (rx0:List Value) (rF0:yLN),v=.tuple #[.slice ra0 rn0 rc0,yI ((xO s t cell).2)]∧Fresh w.heap.size [rF0]∧St w w' [rr ra0 rn0 rc0 24 1 rx0] [xe true rF0 rx0 ((xO s t cell).1)]) w):=by
 refine en func20 ntmps20 ?_
 have H:=(((((St.start w).arg zn).arg vz).arg zC).arg xG).arg qW
 have zY:=qX qW
 have jw:=qX xG
 have Qq:=qX zC
 have nhtBags:=qX vz
 have yM:=qX zn
 clear qW xG zC vz zn
 have N:=Fresh.nil w.heap.size
 refine zcr (sw (vP H (yS s qC qB qJ qG) fun b1 w2 H=>sw (vP H (yT t qU qQ xE xu qN qM) fun b3 w4 H=>sps [yN,yI 0] (zjcc (sw (zi (yS s qC qB qJ qG) isAgg27 sizeOf27 rfl (qI (H.cells 1 rfl) 0 3) ?_))))))
 refine sw (zi (yT t qU qQ xE xu qN qM) isAgg31 sizeOf31 rfl (qI (H.cells 0 rfl) 0 3) (sw (oq (isWhole_ok _ s t (H.get 0 rfl).1 (H.get 1 rfl).1 (H.get 2 rfl).1 (H.get 3 rfl).1 (H.get 4 rfl).1) H fun w6 H=>sps [.bool (!(dec ((ve s∧xP s t)∧Whole t))),.bool (!(dec ((ve s∧xP s t)∧Whole t)))] ?_)))
 cases h8:(!(dec ((ve s∧xP s t)∧Whole t)))
 ·skip
  replace h8:=xm h8
  replace h8:=yg h8
  refine qO 13 rfl rfl (sw (zi (yS s qC qB qJ qG) isAgg27 sizeOf27 rfl (qI (H.cells 1 rfl) 0 3) (qO 13 rfl rfl (sw (oq (canMeltAny_ok _ s (H.get 0 rfl).1 (H.get 1 rfl).1) H fun w10 H=>sp (.bool (dec (¬ Still s))) (zjn (cP rfl (fun h12=>?_) (fun h12=>?_))))))))
  ·skip
   refine zcr (sps [yN,yI 1] (zjr (t_r ?_)))
   replace H:=H.nilRow 24 1
   replace H:=H.Qn (α:=yLI)
   refine ret2 yN (yI 1) rfl rfl rfl ⟨_,rfl,?_,H.base⟩
   rw [puts_1 (fun h=>by obtain ⟨z1,z2,z3,z4⟩:=h;first | contradiction | exact absurd (And.intro z3 z4) ql | exact absurd (And.intro (And.intro z1 z3) z4) ql)]
   exact ⟨none,0,0,[],[],rfl,N.emp,H.pick [0] [0]⟩
  have kz:=(by assumption:(ve s∧xP s t)∧Whole t)
  have k1:=kz.1.1
  have k2:=kz.1.2
  have kw:=kz.2
  have ks:Still s:=Classical.byContradiction ql
  have kq:=And.intro k1 (And.intro ks (And.intro k2 kw))
  have k3:=first_cnt k1 k2
  refine xB (t_n (zcc (sw (zi (yS s qC qB qJ qG) isAgg27 sizeOf27 rfl (qI (H.cells 1 rfl) 0 3) (sp (yI cell) (sw (oq (isCell_ok _ s cell (H.get 0 rfl).1 (H.get 1 rfl).1) H fun w14 H=>sp (.bool (!(inR cell 0 ((s.qx.length:Int) - 1)))) (zjn (xZ (!(inR cell 0 ((s.qx.length:Int) - 1))) rfl (fun h16=>?_) (fun h16=>?_))))))))))
  ·skip
   replace h16:=xF h16
   replace h16:=Qy h16
   refine zcr (sps [yN,yI 2] (zjr (t_r ?_)))
   replace H:=H.nilRow 24 1
   replace H:=H.Qn (α:=yLI)
   refine ret2 yN (yI 2) rfl rfl rfl ⟨_,rfl,?_,H.base⟩
   rw [puts_2 kq (by first | assumption | exact fun h=>absurd h ql)]
   exact ⟨none,0,0,[],[],rfl,N.emp,H.pick [0] [0]⟩
  replace h16:=xm h16
  replace h16:=y7.1 h16
  have kc:Q5 s cell:=by assumption
  have kc1:=kc
  refine xB (t_n (zx ?_))
  refine y9 rfl H fun H=>rt 0 (.agg #[yI s.qV,.slice qC s.qx.length qB,.slice qJ s.qw.length qG]) (yj (cs:=(yS s qC qB qJ qG)) isAgg27 sizeOf27 rfl (fun _ h=>qI (h.cells 1 rfl) 0 3)) H ?_
  refine rt 1 (.agg #[.slice qU t.qF.length qQ,.slice xE t.qL.length xu,.slice qN t.qH.length qM]) (yj (cs:=(yT t qU qQ xE xu qN qM)) isAgg31 sizeOf31 rfl (fun _ h=>qI (h.cells 0 rfl) 0 3)) H ?_
  refine rt 2 (.agg #[yI s.qV,.slice qC s.qx.length qB,.slice qJ s.qw.length qG]) (yj (cs:=(yS s qC qB qJ qG)) isAgg27 sizeOf27 rfl (fun _ h=>qI (h.cells 1 rfl) 0 3)) H ?_
  refine rt 3 (.agg #[.slice qU t.qF.length qQ,.slice xE t.qL.length xu,.slice qN t.qH.length qM]) (yj (cs:=(yT t qU qQ xE xu qN qM)) isAgg31 sizeOf31 rfl (fun _ h=>qI (h.cells 0 rfl) 0 3)) H ?_
  refine rtp 5 (yI cell) H ?_
  refine ro 4 rfl ?_
  have sz21:=H.base.size
  refine oc (firstChoice_ok _ s t (H.get 0 rfl).1 (H.get 1 rfl).1 (H.get 2 rfl).1 (H.get 3 rfl).1 (H.get 4 rfl).1 qg qg) ?_
  rintro _ w19 ⟨ra18,rn18,rc18,rfl,M,K⟩ _
  replace H:=H.merge K M
  obtain rfl:=H.zQ 0 rfl
  refine ⟨H.pick [1,2] [0,1,2,3,4],(ro 6 rfl ?_)⟩
  obtain ⟨G24,hn25,h26⟩:=H.rowIsI 0 rfl
  have sz30:=H.base.size
  refine oc (puts_ok _ s t (qP s t) cell (H.get 0 rfl).1 (H.get 1 rfl).1 (H.get 2 rfl).1 (H.get 3 rfl).1 (H.get 4 rfl).1 h26 qg qg qg) ?_
  rintro _ w28 ⟨ra27,rn27,rc27,rx27,rF27,rfl,M,K⟩ _
  replace N:=N.merge sz30 qm M
  replace H:=H.merge K M
  obtain rfl:=H.zy (α:=yLI) 0 rfl 0 rfl qj
  refine ⟨H.pick [2,3] [1,2,3,4,5],(rtp 7 (.slice ra27 ((putsL s t (qP s t) cell).length) rc27) (H.pick [2,3] [1,2,3,4,5]) ?_)⟩
  refine xh qh (t_n (zcc (sp (.slice ra27 ((putsL s t (qP s t) cell).length) rc27) ?_)))
  obtain ⟨G33,hn34,h35⟩:=H.rowIsR (α:=yLI) 0 rfl 0 rfl qj
  refine sw (oq (areBags_ok _ (putsL s t (qP s t) cell) h35) H fun w37 H=>sp (.bool (!(dec (AllBags (putsL s t (qP s t) cell) (putsL s t (qP s t) cell).length)))) (zjn (cQ rfl (fun h39=>?_) (fun h39=>?_))))
  ·skip
   refine zcr (sps [yN,yI 3] (zjr (t_r ?_)))
   replace H:=H.nilRow 24 1
   replace H:=H.Qn (α:=yLI)
   refine ret2 yN (yI 3) rfl rfl rfl ⟨_,rfl,?_,H.base⟩
   rw [puts_3 kq kc rfl ql]
   exact ⟨none,0,0,[],[],rfl,(N.emp.pick [0]),H.pick [0] [0]⟩
  refine xB (t_n (zcr (sps [.slice ra27 ((putsL s t (qP s t) cell).length) rc27,.slice ra27 ((putsL s t (qP s t) cell).length) rc27,yI 0] (zjr (ret2 (.slice ra27 ((putsL s t (qP s t) cell).length) rc27) (yI 0) rfl rfl rfl ⟨_,rfl,?_,H.base⟩)))))
  rw [puts_0 kq kc rfl ql]
  exact ⟨ra27,(putsL s t (qP s t) cell).length,rc27,rx27,rF27,rfl,N,H.pick [0] [0]⟩
 replace h8:=xF h8
 replace h8:=zD h8
 refine xQ [14,15] (sp (.bool true) (zjn (xZ true rfl (fun _=>zcr (sps [yN,yI 1] (zjr (t_r ?_)))) (fun h=>absurd h qj))))
 replace H:=H.nilRow 24 1
 replace H:=H.Qn (α:=yLI)
 refine ret2 yN (yI 1) rfl rfl rfl ⟨_,rfl,?_,H.base⟩
 rw [puts_1 (fun h=>by obtain ⟨z1,z2,z3,z4⟩:=h;first | contradiction | exact absurd (And.intro z3 z4) ql | exact absurd (And.intro (And.intro z1 z3) z4) ql)]
 exact ⟨none,0,0,[],[],rfl,N.emp,H.pick [0] [0]⟩
end
end Go.Proofs.Ytcpnclokildllaa
