/- Walks and laws, printed by program and by hand: what each function comes to, for all arguments, part 7. -/
import Derived.Test.YtdhklgjmiamiaaaGreatA6
import Derived.Test.YtdhklgjmiamiaaaGreatRows
import Derived.ProofKit
import Derived.OpenShut
import Derived.Carry
import Derived.BigQuiet
import Derived.Lib.SmallJoins
namespace Go.Proofs.YtdhklgjmiamiaaaGreat
set_option linter.unusedVariables false
set_option linter.unusedSimpArgs false
open Go.Proofs.YtdhklgjmiamiaaaGreat.Tot (tot)
open Go.Proofs.YtdhklgjmiamiaaaGreat.Mark (cnt mrk mkd mkd_mark cnt_mark)
section
open Go.RowKit
set_option linter.unusedVariables false
set_option linter.unusedSimpArgs false
set_option maxRecDepth 100000
set_option maxHeartbeats 4000000
theorem a2Place_ok (w:World) (l:List qF) (t:qF) {al:yOA} {cl:Nat} {Fl:yLN} {xg:yOA} {xf:Nat} {zu:yLN} {xF:yOA} {xA:Nat} {zU:yLN} {qU:yOA} {qR:Nat} {x9:yLN} (hl:qO.rep w Fl [.slice al l.length cl] l) (xR:qO.rep w zu [.slice xg t.qG.length xf] t.qG) (zn:qO.rep w zU [.slice xF t.qN.length xA] t.qN) (xy:qO.rep w x9 [.slice qU t.qH.length qR] t.qH):Calls Tryz.prog 24 #[.slice al l.length cl,.agg #[.slice xg t.qG.length xf,.slice xF t.qN.length xA,.slice qU t.qH.length qR]] w (Ret (fun v w' =>v=.int .i64 (firstIdx (fun zz=>decide (l[zz]! =t)) l.length)) w):=by
 refine en Tryz.func24 Tryz.ntmps24 ?_
 have H:=((((St.start w).arg xy).arg zn).arg xR).arg hl
 have nhl:=qM hl
 have jO:=qM xR
 have yH:=qM zn
 have jg:=qM xy
 clear hl xR zn xy
 have N:=Fresh.nil w.heap.size
 refine zcr (sw (zS H [.slice xg t.qG.length xf,.slice xF t.qN.length xA,.slice qU t.qH.length qR] fun b1 w2 H=>sp (.int .i64 0) (zjcc (sp (.int .i64 0) (zjn (qY ?_))))))
 refine zq ((fun Z0 Z1 Z2 Z3 Z4=>fun m' ρ w3=>∃ (xM:Env) (i:Nat),ρ=upd (upd (upd xM 0 (.slice al l.length cl)) 3 (.pointer (some ⟨b1,0,none⟩))) 5 (.int .i64 i)∧((i:Int)≤l.length)∧(noneTo (fun zz=>decide (l[zz]! =t)) i)∧m' =(l.length - (i:Int)).toNat∧Fresh w.heap.size []∧St w w3 [Z0] [Z1,Z2,Z3,Z4]) _ _ _ _ _) ((l.length - (0:Int)).toNat) ⟨_,0,uE3,qf,qx,rfl,N,H⟩ ?_
 clear H N
 rintro m' ρ w4 ⟨xM,i,rfl,i0,i1,rfl,N,H⟩
 refine zcc (sp (.int .i64 i) (sq 1 (oN rfl (sq 1 (zjn (cD rfl (fun h5=>?_) (fun h5=>?_)))))))
 ·skip
  refine qW (t_n (xQ (qY (xQ ?_))))
  refine jf rfl H fun H=>rtl 0 H ?_
  refine rtp 1 (.int .i64 i) H ?_
  obtain ⟨b7,o8,rfl⟩:=H.addr 0 rfl qf
  obtain ⟨ae10Alive,ce10Alive,Fe10Alive,ae10Bags,ce10Bags,Fe10Bags,ae10Around,ce10Around,Fe10Around,H⟩:=H.Vm 0 rfl i i qf qf qf
  have S:=H.jo [0] [4,5,6,7]
  refine tI 2 rfl rfl rfl S ?_
  refine rt 4 _ (yh (cs:=[.slice xg t.qG.length xf,.slice xF t.qN.length xA,.slice qU t.qH.length qR]) Tryz.isAgg31 Tryz.sizeOf31 rfl (fun _ h=>qC (h.cells 0 rfl) 0 3)) S ?_
  refine ro 3 rfl (xI [.slice ae10Alive (((l[i]!).qG).length) ce10Alive,.slice ae10Bags (((l[i]!).qN).length) ce10Bags,.slice ae10Around (((l[i]!).qH).length) ce10Around] Tryz.isAgg31 Tryz.sizeOf31 rfl (qC (H.get 3 rfl) 0 3) (⟨H.pick [0] [4,5,6,7],(ro 5 rfl (oq (specSame_ok _ (l[i]!) t (H.get 0 rfl).1 (H.get 1 rfl).1 (H.get 2 rfl).1 (H.get 5 rfl).1 (H.get 6 rfl).1 (H.get 7 rfl).1) H fun w12 H=>⟨H.pick [0] [4,5,6,7],(xq qh (t_n (cD rfl (fun h14=>?_) (fun h14=>?_))))⟩))⟩))
  ·skip
   refine zcr (sp (.int .i64 i) (sp (.int .i64 i) (zjr (zr5 (ret1 (.int .i64 i) rfl rfl ⟨_,rfl,?_,H.base⟩)))))
   rw [QB (k:=i) qf i1 (decide_eq_true ‹_›)]
  ·skip
   refine qW (b_n (t_n (xU (sp (.int .i64 i) (sw (zA i 1 rfl rfl qf (sq 1 (xY (xe (m' :=(l.length - ((i+1):Int)).toNat) qf ⟨_,i+1,uE3,?_,?_,rfl,N,H.pick [0] [4,5,6,7]⟩)))))))))
   · omega
   · exact noneTo_succ i1 (decide_eq_false ‹_›)
 ·skip
  refine zx4 (zcr (sq 1 (zjr (ret1 (.int .i64 (-1)) rfl rfl ⟨_,rfl,?_,H.base⟩))))
  rw [firstIdx_none (fun j hj=>i1 j qf)]

theorem law_FnGraph (w:World) (code:List UInt8) (more:List UInt8) (acode:yOA) (ccode:Nat) (Fcode:yLN) (amore:yOA) (cmore:Nat) (Fmore:yLN) (hcode:qO.rep w Fcode [.slice acode code.length ccode] code) (hmore:qO.rep w Fmore [.slice amore more.length cmore] more):Calls Tryz.prog 4 #[.slice acode code.length ccode,.slice amore more.length cmore] w (Ret (fun v w' =>v=.bool true) w):=by
 refine en Tryz.func4 Tryz.ntmps4 ?_
 have H:=((St.start w).arg hmore).arg hcode
 have nhcode:=qM hcode
 have nhmore:=qM hmore
 clear hcode hmore
 have N:=Fresh.nil w.heap.size
 refine zcr (sp (.bool false) (zjcc (sq 2 (sw (zQ #[.slice acode code.length ccode,.slice amore more.length cmore] rfl rfl Tryz.call6 (en Tryz.func6 Tryz.ntmps6 ?_))))))
 refine zcr (sp (.bool false) (zjc (sq 1 (oN rfl (sp (.bool (decide ((code.length:Int) > 3000))) (sp (.bool (decide ((code.length:Int) > 3000))) ?_))))))
 cases h1:(decide ((code.length:Int) > 3000))
 ·skip
  replace h1:=of_decide_eq_false h1
  refine qL 8 rfl rfl (sq 1 (qL 8 rfl rfl (oN rfl (qL 8 rfl rfl (sp (.bool (decide ((more.length:Int) > 3000))) (sp (.bool (decide ((more.length:Int) > 3000))) (sp (.bool (decide ((more.length:Int) > 3000))) (zjr (ret1 (.bool (decide ((more.length:Int) > 3000))) rfl rfl ⟨_,rfl,(zjn (cD rfl (fun h2=>?_) (fun h2=>?_)))⟩)))))))))
  ·skip
   refine zcr (sp (.bool true) (zjr (t_r (ret1 (.bool true) rfl rfl ⟨_,rfl,?_,H.base⟩))))
   rfl
  ·skip
   refine qW (t_n (zcr (sq 1 ?_)))
   have H1:St w w [] [sF false Fcode acode ccode code,sF false Fmore amore cmore more]:=H.pick [] [0,1]
   have N1:Fresh _ []:=N
   have K1:Kept [] [sF false Fmore amore cmore more]:=Kept.nil _
   refine sw (zJ #[.slice acode code.length ccode] rfl rfl Tryz.call19 (a2Given_ok code acode ccode Fcode H1 N1 K1 ) ?_)
   clear H H1 N1 K1
   rintro _ w3 ⟨zi7,zl8,zR9,zm10,zL11,zl12,ra13,rn14,rc15,ra16,rn17,rc18,rx19,rF20,ra21,rn22,rc23,ra24,rn25,rc26,rx27,rF28,ra29,rn30,rc31,hx5,hx6,rfl,N,H⟩
   obtain rfl:=H.jm 0 rfl
   obtain rfl:=H.xK (α:=jw) 1 rfl 1 rfl qj
   obtain rfl:=H.XC 2 rfl
   obtain rfl:=H.xK (α:=yLI) 3 rfl 2 rfl qj
   obtain rfl:=H.jm 4 rfl
   refine sq 3 (sw (xx H ti27 [.int .i64 0,.slice none 0 0,.slice none 0 0] fun b32 w33 H=>sw (xx H ti31 [.slice none 0 0,.slice none 0 0,.slice none 0 0] fun b34 w35 H=>sw (xG H 1 [.int .i64 zi7,.slice ra13 zl8.length rc15,.slice ra16 zR9.length rc18] Tryz.sizeOf27 fun w36 H=>?_))))
   refine sw (xG H 0 [.slice ra21 zm10.length rc23,.slice ra24 zL11.length rc26,.slice ra29 zl12.length rc31] Tryz.sizeOf31 fun w37 H=>zjn (xQ ?_))
   obtain ⟨s,e1,e2,e3⟩:∃ z:qE,zi7=z.xP∧zl8=z.qA∧zR9=z.qB:=⟨⟨zi7,zl8,zR9⟩,rfl,rfl,rfl⟩
   subst e1 e2 e3
   obtain ⟨t,e1,e2,e3⟩:∃ z:qF,zm10=z.qG∧zL11=z.qN∧zl12=z.qH:=⟨⟨zm10,zL11,zl12⟩,rfl,rfl,rfl⟩
   subst e1 e2 e3
   have sd:=(‹SysDr _ _ _›)
   have td:=(‹StDr _ _ _ _ _ _›)
   have k0:vK s∧xX s t:=⟨sd.ok,td.ok sd qf⟩
   have k1:=k0.1
   have k2:=k0.2
   refine xU (sw (xI [.int .i64 s.xP,.slice ra13 s.qA.length rc15,.slice ra16 s.qB.length rc18] Tryz.isAgg27 Tryz.sizeOf27 rfl (qC (H.cells 1 rfl) 0 3) (sw (xI [.slice ra21 t.qG.length rc23,.slice ra24 t.qN.length rc26,.slice ra29 t.qH.length rc31] Tryz.isAgg31 Tryz.sizeOf31 rfl (qC (H.cells 0 rfl) 0 3) ?_))))
   obtain ⟨G38,hn39,h40⟩:=H.Qi 2 rfl
   obtain ⟨G41,hn42,h43⟩:=H.yQ (α:=jw) 3 rfl 1 rfl qj
   obtain ⟨G44,hn45,h46⟩:=H.Vp 4 rfl
   obtain ⟨G47,hn48,h49⟩:=H.yQ (α:=yLI) 5 rfl 2 rfl qj
   obtain ⟨G50,hn51,h52⟩:=H.Qi 6 rfl
   have sz56:=H.base.size
   have lt57:=H.ltN (L:=[rF28]) [2]
   refine sw (oc (specEx_ok _ s t h40 h43 h46 h49 h52) ?_)
   rintro _ w54 ⟨ra53aStates,rc53aStates,rF53aStates,ra53aNext,rc53aNext,rF53aNext,rfl,M,K⟩ _
   replace N:=N.merge sz56 lt57 M
   replace H:=H.merge K M
   refine sq 3 (sw (xx H ti46 [.slice none 0 0,.slice none 0 0] fun b58 w59 H=>sw (xG H 0 [.slice ra53aStates (((exG s t).qK).length) rc53aStates,.slice ra53aNext (((exG s t).fNext).length) rc53aNext] Tryz.sizeOf46 fun w60 H=>sq 1 (zjc ?_))))
   refine sw (xI [.int .i64 s.xP,.slice ra13 s.qA.length rc15,.slice ra16 s.qB.length rc18] Tryz.isAgg27 Tryz.sizeOf27 rfl (qC (H.cells 2 rfl) 0 3) (sw (xI [.slice ra21 t.qG.length rc23,.slice ra24 t.qN.length rc26,.slice ra29 t.qH.length rc31] Tryz.isAgg31 Tryz.sizeOf31 rfl (qC (H.cells 1 rfl) 0 3) ?_)))
   obtain ⟨G61,hn62,h63⟩:=H.Qi 3 rfl
   obtain ⟨G64,hn65,h66⟩:=H.yQ (α:=jw) 4 rfl 3 rfl qj
   obtain ⟨G67,hn68,h69⟩:=H.Vp 5 rfl
   obtain ⟨G70,hn71,h72⟩:=H.yQ (α:=yLI) 6 rfl 4 rfl qj
   obtain ⟨G73,hn74,h75⟩:=H.Qi 7 rfl
   have sz79:=H.base.size
   have lt80:=H.ltN (L:=[rF53aStates,rF53aNext,rF28]) [0,1,4]
   refine sw (oc (implEx_ok _ s t h63 h66 h69 h72 h75) ?_)
   rintro _ w77 ⟨ra76aStates,rc76aStates,rF76aStates,ra76aNext,rc76aNext,rF76aNext,rfl,M,K⟩ _
   replace N:=N.merge sz79 lt80 M
   replace H:=H.merge K M
   refine sq 3 (sw (xx H ti46 [.slice none 0 0,.slice none 0 0] fun b81 w82 H=>sw (xG H 0 [.slice ra76aStates (((exG s t).qK).length) rc76aStates,.slice ra76aNext (((exG s t).fNext).length) rc76aNext] Tryz.sizeOf46 fun w83 H=>sq 1 (zjcc ?_))))
   refine sq 3 (zjn (xE _ rfl (fun h=>absurd rfl (bne_iff_ne.1 h)) (fun h84=>?_)))
   replace h84:=xm h84
   refine qW (t_n (zcc (sq 1 (sp (.bool (((XZ s t).2:Int) != 0)) (zjn (xE (((XZ s t).2:Int) != 0) rfl (fun h85=>?_) (fun h85=>?_)))))))
   ·skip
    replace h85:=bne_iff_ne.1 h85
    refine zcr (sp (.bool true) (zjr (t_r (ret1 (.bool true) rfl rfl ⟨_,rfl,?_,H.base⟩))))
    rfl
   ·skip
    replace h85:=xm h85
    have c0:(XZ s t).2=0:=by omega
    have gf:=ex_full c0
    have ga:=gf.all
    have gl:=ga.len
    have gp:=ga.pos
    have gle:=ga.le
    have g0:=gf.fst
    refine qW (t_n (xQ (xQ ?_)))
    refine jf rfl H fun H=>tF 0 rfl rfl H ?_
    refine tL 1 rfl rfl (fun _ h=>h.cell 0 rfl rfl) H ?_
    refine tN 2 rfl rfl H ?_
    refine rtp 3 (.bool (decide ((((exG s t).qK).length:Int) < 1))) H ?_
    refine rtp 4 (.bool (decide ((((exG s t).qK).length:Int) < 1))) H ?_
    cases h87:(decide ((((exG s t).qK).length:Int) < 1))
    ·skip
     replace h87:=of_decide_eq_false h87
     refine gF 5 rfl rfl H ?_
     refine gL 6 rfl rfl (fun _ h=>h.cell 0 rfl rfl) H ?_
     refine gN 7 rfl rfl H ?_
     refine gF 8 rfl rfl H ?_
     refine gL 9 rfl rfl (fun _ h=>h.cell 0 rfl rfl) H ?_
     refine gN 10 rfl rfl H ?_
     refine rgp 11 (.bool ((((exG s t).fNext).length:Int) != (((exG s t).qK).length))) 54 H ?_
     refine rtp 12 (.bool ((((exG s t).fNext).length:Int) != (((exG s t).qK).length))) H ?_
     refine rtp 13 (.bool ((((exG s t).fNext).length:Int) != (((exG s t).qK).length))) H ?_
     cases h88:((((exG s t).fNext).length:Int) != (((exG s t).qK).length))
     ·skip
      replace h88:=xm h88
      refine gF 14 rfl rfl H ?_
      refine gL 15 rfl rfl (fun _ h=>h.cell 0 rfl rfl) H ?_
      obtain ⟨b89,o90,rfl⟩:=H.addr 0 rfl qf
      obtain ⟨ae92Alive,ce92Alive,Fe92Alive,ae92Bags,ce92Bags,Fe92Bags,ae92Around,ce92Around,Fe92Around,H⟩:=H.Vm 0 rfl 0 0 qf qf qf
      have S:=H.jo [0,1,2,3,4,5,6,7,8] [4,5,6,7,8,9,10,11]
      refine gI 16 rfl rfl rfl S ?_
      refine rg 18 _ 63 (yh (cs:=[.slice ra21 t.qG.length rc23,.slice ra24 t.qN.length rc26,.slice ra29 t.qH.length rc31]) Tryz.isAgg31 Tryz.sizeOf31 rfl (fun _ h=>qC (h.cells 2 rfl) 0 3)) S ?_
      refine zY [17] qh qm (XD rfl (e:=63) rfl rfl (xI [.slice ae92Alive (((((exG s t).qK)[0]!).qG).length) ce92Alive,.slice ae92Bags (((((exG s t).qK)[0]!).qN).length) ce92Bags,.slice ae92Around (((((exG s t).qK)[0]!).qH).length) ce92Around] Tryz.isAgg31 Tryz.sizeOf31 rfl (qC (H.get 3 rfl) 0 3) (⟨H.pick [0,1,2,3,4,5,6,7,8] [4,5,6,7,8,9,10,11],(zY [19] qh qm (XD rfl (e:=63) rfl rfl ?_ zZ))⟩)) zZ)
      obtain ⟨G93,hn94,h95⟩:=H.Vp 6 rfl
      obtain ⟨G96,hn97,h98⟩:=H.yQ (α:=yLI) 7 rfl 10 rfl qj
      obtain ⟨G99,hn100,h101⟩:=H.Qi 8 rfl
      refine oq (specSame_ok _ (((exG s t).qK)[0]!) t (H.get 0 rfl).1 (H.get 1 rfl).1 (H.get 2 rfl).1 h95 h98 h101) H fun w103 H=>⟨H.pick [0,1,2,3,4,5,6,7,8] [4,5,6,7,8,9,10,11],?_⟩
      have S:=H.jo [0,1,2,3,4,5,6,7,8] [4,5,6,7,8,9,10,11]
      refine rgl 20 63 S ?_
      refine rtl 21 S ?_
      refine xq qh (t_n (xE _ rfl (fun h105=>?_) (fun h105=>?_)))
      ·skip
       replace h105:=xJ h105
       replace h105:=of_decide_eq_false h105
       refine zcr (sp (.bool false) (zjr (t_r (ret1 (.bool false) rfl rfl ⟨_,rfl,?_,H.base⟩))))
       exfalso;first | omega | contradiction | exact absurd g0 ql | exact absurd w6 ql
      ·skip
       replace h105:=xw h105
       replace h105:=of_decide_eq_true h105
       have ba:=atV_bd more 0 (n:=((exG s t).qK.length:Int)) qf
       have hj:(atV more 0 ((exG s t).qK.length:Int)).toNat < (exG s t).qK.length:=by omega
       have ks:xX s ((exG s t).qK[(atV more 0 ((exG s t).qK.length:Int)).toNat]!):=ga.st _ (mem_at (l:=(exG s t).qK) (k:=(atV more 0 ((exG s t).qK.length:Int)).toNat) hj rfl)
       have nx:=nx_0 ⟨k1,ks⟩
       have nc:(nxRes s ((exG s t).qK[(atV more 0 ((exG s t).qK.length:Int)).toNat]!)).2=0:=by rw [nx];exact gf.code _ hj
       have nl:((exG s t).fNext[(atV more 0 ((exG s t).qK.length:Int)).toNat]!).length=(nxRes s ((exG s t).qK[(atV more 0 ((exG s t).qK.length:Int)).toNat]!)).1.length:=by rw [nx];exact gf.rlen _ hj
       have n3:(nxRes s ((exG s t).qK[(atV more 0 ((exG s t).qK.length:Int)).toNat]!)).1.length≤300:=by rw [nx];exact succ_len s _
       refine qW (t_n (zcr (sq 1 (oF rfl (oL rfl (H.cell 0 rfl rfl) (oN rfl (sw (oq (a2At_ok _ more 0 (((exG s t).qK).length) (H.get 11 rfl).1 qg) H fun w107 H=>sq 1 (zjn (xQ ?_))))))))))
       refine jf rfl H fun H=>rt 0 _ (yh (cs:=[.int .i64 s.xP,.slice ra13 s.qA.length rc15,.slice ra16 s.qB.length rc18]) Tryz.isAgg27 Tryz.sizeOf27 rfl (fun _ h=>qC (h.cells 3 rfl) 0 3)) H ?_
       refine tF 1 rfl rfl H ?_
       refine tL 2 rfl rfl (fun _ h=>h.cell 0 rfl rfl) H ?_
       refine rtl 3 H ?_
       obtain ⟨ae110Alive,ce110Alive,Fe110Alive,ae110Bags,ce110Bags,Fe110Bags,ae110Around,ce110Around,Fe110Around,H⟩:=H.Vm 4 rfl (atV more 0 (((exG s t).qK).length)) ((atV more 0 (((exG s t).qK).length)).toNat) qf qf qf
       refine tI 4 rfl rfl rfl (H.pick [0,1,2,3,4,5,6,7,8] [4,5,6,7,8,9,10,11,12,13,14,15]) ?_
       refine ro 5 rfl (xI [.slice ae110Alive (((((exG s t).qK)[(atV more 0 (((exG s t).qK).length)).toNat]!).qG).length) ce110Alive,.slice ae110Bags (((((exG s t).qK)[(atV more 0 (((exG s t).qK).length)).toNat]!).qN).length) ce110Bags,.slice ae110Around (((((exG s t).qK)[(atV more 0 (((exG s t).qK).length)).toNat]!).qH).length) ce110Around] Tryz.isAgg31 Tryz.sizeOf31 rfl (qC (H.get 3 rfl) 0 3) (⟨H.pick [0,1,2,3,4,5,6,7,8] [4,5,6,7,8,9,10,11,12,13,14,15],(ro 6 rfl ?_)⟩))
       obtain ⟨G111,hn112,h113⟩:=H.Qi 4 rfl
       obtain ⟨G114,hn115,h116⟩:=H.yQ (α:=jw) 5 rfl 13 rfl qj
       have sz120:=H.base.size
       have lt121:=H.ltN (L:=[rF76aStates,rF76aNext,rF53aStates,rF53aNext,rF28]) [8,9,10,11,14]
       refine oc (implNx_ok _ s (((exG s t).qK)[(atV more 0 (((exG s t).qK).length)).toNat]!) h113 h116 (H.get 0 rfl).1 (H.get 1 rfl).1 (H.get 2 rfl).1) ?_
       rintro _ w118 ⟨ra117a,rn117a,rc117a,rx117a,rF117a,rfl,M,K⟩ _
       replace N:=N.merge sz120 lt121 M
       replace H:=H.merge K M
       obtain rfl:=H.xK (α:=qF) 0 rfl 0 rfl qj
       refine ⟨H.pick [1,2,3,4,5,6,7,8,9] [5,6,7,8,9,10,11,12,13,14,15,16],?_⟩
       have S:=H.jo [1,2,3,4,5,6,7,8,9] [5,6,7,8,9,10,11,12,13,14,15,16]
       refine rtl 7 S ?_
       refine rtl 8 S ?_
       refine rtl 9 S ?_
       refine rtl 10 S ?_
       refine rtl 11 S ?_
       refine xq qh (t_n (zcc (sq 1 (sp (.bool (((nxRes s (((exG s t).qK)[(atV more 0 (((exG s t).qK).length)).toNat]!)).2:Int) != 0)) (sp (.bool (((nxRes s (((exG s t).qK)[(atV more 0 (((exG s t).qK).length)).toNat]!)).2:Int) != 0)) ?_)))))
       cases h123:(((nxRes s (((exG s t).qK)[(atV more 0 (((exG s t).qK).length)).toNat]!)).2:Int) != 0)
       ·skip
        replace h123:=xm h123
        refine qL 89 rfl rfl (sq 1 (qL 89 rfl rfl (oN rfl (qL 89 rfl rfl (oF rfl (qL 89 rfl rfl (oL rfl (H.cell 1 rfl rfl) (qL 89 rfl rfl (sq 1 (qL 89 rfl rfl ?_))))))))))
        obtain ⟨b124,o125,rfl⟩:=H.addr 10 rfl qf
        obtain ⟨ae127,ce127,Fe127,H⟩:=H.vX 10 rfl (atV more 0 (((exG s t).qK).length)) ((atV more 0 (((exG s t).qK).length)).toNat) qf qf qf
        refine oI rfl rfl (qL 89 rfl rfl (oL rfl (H.x8 1 rfl 0 rfl) (qL 89 rfl rfl (oN rfl (qL 89 rfl rfl (sq 2 (zjn ?_)))))))
        refine xE _ rfl (fun h128=>?_) (fun h128=>?_)
        ·skip
         replace h128:=bne_iff_ne.1 h128
         refine zcr (sp (.bool false) (zjr (t_r (ret1 (.bool false) rfl rfl ⟨_,rfl,?_,H.base⟩))))
         exfalso;first | omega | contradiction | exact absurd g0 ql | exact absurd w6 ql
        ·skip
         replace h128:=xm h128
         refine qW (t_n (zcc (sp (.int .i64 0) (zjn (qY ?_)))))
         refine zq ((fun Z0 Z1 Z2 Z3 Z4 Z5 Z6 Z7 Z8 Z9 Z10 Z11 Z12 Z13 Z14 Z15 Z16 Z17 Z18 Z19 Z20 Z21 Z22 Z23 Z24 Z25 Z26=>fun m' ρ w129=>∃ (xM:Env) (i:Nat),ρ=upd (upd (upd (upd (upd (upd xM 5 (.pointer (some ⟨b32,0,none⟩))) 6 (.pointer (some ⟨b34,0,none⟩))) 9 (.pointer (some ⟨b81,0,none⟩))) 11 (.int .i64 (atV more 0 (((exG s t).qK).length)))) 12 (.slice ra117a (((nxRes s (((exG s t).qK)[(atV more 0 (((exG s t).qK).length)).toNat]!)).1).length) rc117a)) 14 (.int .i64 i)∧((i:Int)≤(((nxRes s (((exG s t).qK)[(atV more 0 (((exG s t).qK).length)).toNat]!)).1).length))∧m' =((((nxRes s (((exG s t).qK)[(atV more 0 (((exG s t).qK).length)).toNat]!)).1).length) - (i:Int)).toNat∧Fresh w.heap.size [rF117a,rF76aStates,rF76aNext,rF53aStates,rF53aNext,rF28]∧St w w129 [Z0,Z1,Z2,Z3,Z4,Z5,Z6,Z7,Z8,Z9] [Z10,Z11,Z12,Z13,Z14,Z15,Z16,Z17,Z18,Z19,Z20,Z21,Z22,Z23,Z24,Z25,Z26]) _ _ _ _ _ _ _ _ _ _ _ _ _ _ _ _ _ _ _ _ _ _ _ _ _ _ _) (((((nxRes s (((exG s t).qK)[(atV more 0 (((exG s t).qK).length)).toNat]!)).1).length) - (0:Int)).toNat) ⟨_,0,uE6,qf,rfl,N,H.pick [0,1,2,3,4,5,6,7,8,9] [0,1,2,3,4,5,6,7,8,9,10,11,12,13,14,16,17]⟩ ?_
         clear H N
         rintro m' ρ w130 ⟨xM,i,rfl,i0,rfl,N,H⟩
         refine zcc (sp (.int .i64 i) (sq 1 (oN rfl (sq 1 (zjn (cD rfl (fun h131=>?_) (fun h131=>?_)))))))
         ·skip
          have gn:firstIdx (fun zz=>decide ((exG s t).qK[zz]! =(nxRes s ((exG s t).qK[(atV more 0 ((exG s t).qK.length:Int)).toNat]!)).1[i]!)) (exG s t).qK.length=((exG s t).fNext[(atV more 0 ((exG s t).qK.length:Int)).toNat]!)[i]! :=by rw [nx];exact gf.next hj (by rw [← nx];omega)
          refine qW (t_n (xQ (qY (xQ ?_))))
          refine jf rfl H fun H=>tF 0 rfl rfl H ?_
          refine tL 1 rfl rfl (fun _ h=>h.cell 1 rfl rfl) H ?_
          refine rtl 2 H ?_
          refine rtp 3 (.int .i64 i) H ?_
          obtain ⟨b133,rfl⟩:=H.jW 0 rfl qf
          obtain ⟨ae134Alive,ce134Alive,Fe134Alive,ae134Bags,ce134Bags,Fe134Bags,ae134Around,ce134Around,Fe134Around,hx135,H⟩:=H.rowel_StateD 0 rfl 2 rfl (iv:=i) i qf qf
          have S:=H.jo [0,1,2,3,4,5,6,7,8,9] [3,4,5,6,7,8,9,10,11,12,13,14,15,16,17,18,19]
          refine tI 4 rfl rfl rfl S ?_
          refine rt 5 _ (yh (cs:=[.slice ae134Alive (((((nxRes s (((exG s t).qK)[(atV more 0 (((exG s t).qK).length)).toNat]!)).1)[i]!).qG).length) ce134Alive,.slice ae134Bags (((((nxRes s (((exG s t).qK)[(atV more 0 (((exG s t).qK).length)).toNat]!)).1)[i]!).qN).length) ce134Bags,.slice ae134Around (((((nxRes s (((exG s t).qK)[(atV more 0 (((exG s t).qK).length)).toNat]!)).1)[i]!).qH).length) ce134Around]) Tryz.isAgg31 Tryz.sizeOf31 rfl (fun _ h=>qC (fun j v hj=>h.rowGet 0 rfl (hx135 j v hj)) 0 3)) S ?_
          refine tF 7 rfl rfl S ?_
          refine tL 8 rfl rfl (fun _ h=>h.cell 1 rfl rfl) S ?_
          refine rtl 9 S ?_
          refine tI 10 rfl rfl rfl S ?_
          refine tL 11 rfl rfl (fun _ h=>h.x8 1 rfl 0 rfl) S ?_
          refine rtp 12 (.int .i64 i) S ?_
          obtain ⟨b136,o137,rfl⟩:=H.addr 3 rfl qf
          have S:=H.jo [0,1,2,3,4,5,6,7,8,9] [3,4,5,6,7,8,9,10,11,12,13,14,15,16,17,18,19]
          refine tI 13 rfl rfl rfl S ?_
          refine tL 14 rfl rfl (fun _ h=>h.zH 0 rfl i qf) S ?_
          refine ro 6 rfl (oq (a2Place_ok _ ((exG s t).qK) (((nxRes s (((exG s t).qK)[(atV more 0 (((exG s t).qK).length)).toNat]!)).1)[i]!) (H.get 14 rfl).1 (H.get 0 rfl).1 (H.get 1 rfl).1 (H.get 2 rfl).1) H fun w140 H=>⟨H.pick [0,1,2,3,4,5,6,7,8,9] [3,4,5,6,7,8,9,10,11,12,13,14,15,16,17,18,19],?_⟩)
          refine rtl 15 (H.pick [0,1,2,3,4,5,6,7,8,9] [3,4,5,6,7,8,9,10,11,12,13,14,15,16,17,18,19]) ?_
          refine xq qh (t_n (xE _ rfl (fun h142=>?_) (fun h142=>?_)))
          ·skip
           replace h142:=bne_iff_ne.1 h142
           refine zcr (sp (.bool false) (zjr (zr5 (ret1 (.bool false) rfl rfl ⟨_,rfl,?_,H.base⟩))))
           exfalso;first | omega | contradiction | exact absurd g0 ql | exact absurd w6 ql
          ·skip
           replace h142:=xm h142
           refine qW (b_n (t_n (xU (sp (.int .i64 i) (sw (zA i 1 rfl rfl qf (sq 1 (xY (xe (m' :=((((nxRes s (((exG s t).qK)[(atV more 0 (((exG s t).qK).length)).toNat]!)).1).length) - ((i+1):Int)).toNat) qf ⟨_,i+1,uE6,?_,rfl,N,H.pick [0,1,2,3,4,5,6,7,8,9] [3,4,5,6,7,8,9,10,11,12,13,14,15,16,17,18,19]⟩)))))))))
           · omega
         ·skip
          have w1:=graph_st c0 hj
          have w2:=graph_run c0 hj
          have w3:=graph_len c0 hj
          have w4:(yl s t ((exG s t).qK[(atV more 0 ((exG s t).qK.length:Int)).toNat]!)).2=0:=by rw [w1]
          have w5:(QY s t (yl s t ((exG s t).qK[(atV more 0 ((exG s t).qK.length:Int)).toNat]!)).1).2=0:=by rw [w2]
          have w6:(QY s t (yl s t ((exG s t).qK[(atV more 0 ((exG s t).qK.length:Int)).toNat]!)).1).1=((exG s t).qK[(atV more 0 ((exG s t).qK.length:Int)).toNat]!):=by rw [w2]
          refine zx4 (xQ ?_)
          refine jf rfl H fun H=>rt 0 _ (yh (cs:=[.int .i64 s.xP,.slice ra13 s.qA.length rc15,.slice ra16 s.qB.length rc18]) Tryz.isAgg27 Tryz.sizeOf27 rfl (fun _ h=>qC (h.cells 4 rfl) 0 3)) H ?_
          refine rt 1 _ (yh (cs:=[.slice ra21 t.qG.length rc23,.slice ra24 t.qN.length rc26,.slice ra29 t.qH.length rc31]) Tryz.isAgg31 Tryz.sizeOf31 rfl (fun _ h=>qC (h.cells 3 rfl) 0 3)) H ?_
          refine tF 2 rfl rfl H ?_
          refine tL 3 rfl rfl (fun _ h=>h.cell 1 rfl rfl) H ?_
          refine rtl 4 H ?_
          refine tI 5 rfl rfl rfl H ?_
          refine rt 6 _ (yh (cs:=[.slice ae110Alive (((((exG s t).qK)[(atV more 0 (((exG s t).qK).length)).toNat]!).qG).length) ce110Alive,.slice ae110Bags (((((exG s t).qK)[(atV more 0 (((exG s t).qK).length)).toNat]!).qN).length) ce110Bags,.slice ae110Around (((((exG s t).qK)[(atV more 0 (((exG s t).qK).length)).toNat]!).qH).length) ce110Around]) Tryz.isAgg31 Tryz.sizeOf31 rfl (fun _ h=>qC (h.get 6 rfl) 0 3)) H ?_
          refine ro 7 rfl ?_
          obtain ⟨G144,hn145,h146⟩:=H.Qi 5 rfl
          obtain ⟨G147,hn148,h149⟩:=H.yQ (α:=jw) 6 rfl 15 rfl qj
          obtain ⟨G150,hn151,h152⟩:=H.Vp 7 rfl
          obtain ⟨G153,hn154,h155⟩:=H.yQ (α:=yLI) 8 rfl 16 rfl qj
          obtain ⟨G156,hn157,h158⟩:=H.Qi 9 rfl
          have sz162:=H.base.size
          have lt163:=H.ltN (L:=[rF117a,rF76aStates,rF76aNext,rF53aStates,rF53aNext,rF28]) [2,11,12,13,14,16]
          refine oc (implST_ok _ s t (((exG s t).qK)[(atV more 0 (((exG s t).qK).length)).toNat]!) h146 h149 h152 h155 h158 (H.get 3 rfl).1 (H.get 4 rfl).1 (H.get 5 rfl).1) ?_
          rintro _ w160 ⟨ra159a,rc159a,rF159a,rfl,M,K⟩ _
          replace N:=N.merge sz162 lt163 M
          replace H:=H.merge K M
          refine ⟨H.pick [0,1,2,3,4,5,6,7,8,9] [1,2,3,4,5,6,7,8,9,10,11,12,13,14,15,16,17],?_⟩
          have S:=H.jo [0,1,2,3,4,5,6,7,8,9] [1,2,3,4,5,6,7,8,9,10,11,12,13,14,15,16,17]
          refine rtl 8 S ?_
          refine rtl 9 S ?_
          refine rtl 10 S ?_
          refine rtl 11 S ?_
          refine rtl 12 S ?_
          refine xq qh (t_n (zcr (sw (xI [.int .i64 s.xP,.slice ra13 s.qA.length rc15,.slice ra16 s.qB.length rc18] Tryz.isAgg27 Tryz.sizeOf27 rfl (qC (H.cells 4 rfl) 0 3) (sw (xI [.slice ra21 t.qG.length rc23,.slice ra24 t.qN.length rc26,.slice ra29 t.qH.length rc31] Tryz.isAgg31 Tryz.sizeOf31 rfl (qC (H.cells 3 rfl) 0 3) (sq 1 ?_)))))))
          obtain ⟨G164,hn165,h166⟩:=H.Qi 5 rfl
          obtain ⟨G167,hn168,h169⟩:=H.yQ (α:=jw) 6 rfl 16 rfl qj
          obtain ⟨G170,hn171,h172⟩:=H.Vp 7 rfl
          obtain ⟨G173,hn174,h175⟩:=H.yQ (α:=yLI) 8 rfl 17 rfl qj
          obtain ⟨G176,hn177,h178⟩:=H.Qi 9 rfl
          have sz182:=H.base.size
          have lt183:=H.ltN (L:=[rF159a,rF117a,rF76aStates,rF76aNext,rF53aStates,rF53aNext,rF28]) [0,3,12,13,14,15,17]
          refine sw (oc (implCh_ok _ s t ((yl s t (((exG s t).qK)[(atV more 0 (((exG s t).qK).length)).toNat]!)).1) h166 h169 h172 h175 h178 (H.get 0 rfl).1) ?_)
          rintro _ w180 ⟨ra179aAlive,rn179aAlive,rc179aAlive,ra179aBags,rn179aBags,rc179aBags,rx179aBags,rF179aBags,ra179aAround,rn179aAround,rc179aAround,rfl,M,K⟩ _
          replace N:=N.merge sz182 lt183 M
          replace H:=H.merge K M
          obtain rfl:=H.XC 0 rfl
          obtain rfl:=H.xK (α:=yLI) 1 rfl 0 rfl qj
          obtain rfl:=H.jm 2 rfl
          refine sq 3 ?_
          refine sw (xx H ti31 [.slice none 0 0,.slice none 0 0,.slice none 0 0] fun b187 w188 H=>sw (xG H 0 [.slice ra179aAlive ((((QY s t ((yl s t (((exG s t).qK)[(atV more 0 (((exG s t).qK).length)).toNat]!)).1)).1).qG).length) rc179aAlive,.slice ra179aBags ((((QY s t ((yl s t (((exG s t).qK)[(atV more 0 (((exG s t).qK).length)).toNat]!)).1)).1).qN).length) rc179aBags,.slice ra179aAround ((((QY s t ((yl s t (((exG s t).qK)[(atV more 0 (((exG s t).qK).length)).toNat]!)).1)).1).qH).length) rc179aAround] Tryz.sizeOf31 fun w189 H=>?_))
          refine sq 1 (zjn (xQ (xQ ?_)))
          refine jf rfl H fun H=>rtl 0 H ?_
          refine rtp 1 (.bool (((yl s t (((exG s t).qK)[(atV more 0 (((exG s t).qK).length)).toNat]!)).2:Int) != 0)) H ?_
          refine rtp 2 (.bool (((yl s t (((exG s t).qK)[(atV more 0 (((exG s t).qK).length)).toNat]!)).2:Int) != 0)) H ?_
          cases h191:(((yl s t (((exG s t).qK)[(atV more 0 (((exG s t).qK).length)).toNat]!)).2:Int) != 0)
          ·skip
           replace h191:=xm h191
           refine rgl 3 142 H ?_
           refine rgp 4 (.bool (((QY s t ((yl s t (((exG s t).qK)[(atV more 0 (((exG s t).qK).length)).toNat]!)).1)).2:Int) != 0)) 142 H ?_
           refine rtp 5 (.bool (((QY s t ((yl s t (((exG s t).qK)[(atV more 0 (((exG s t).qK).length)).toNat]!)).1)).2:Int) != 0)) H ?_
           refine rtp 6 (.bool (((QY s t ((yl s t (((exG s t).qK)[(atV more 0 (((exG s t).qK).length)).toNat]!)).1)).2:Int) != 0)) H ?_
           cases h192:(((QY s t ((yl s t (((exG s t).qK)[(atV more 0 (((exG s t).qK).length)).toNat]!)).1)).2:Int) != 0)
           ·skip
            replace h192:=xm h192
            refine rg 7 _ 146 (yh (cs:=[.slice ra179aAlive ((((QY s t ((yl s t (((exG s t).qK)[(atV more 0 (((exG s t).qK).length)).toNat]!)).1)).1).qG).length) rc179aAlive,.slice ra179aBags ((((QY s t ((yl s t (((exG s t).qK)[(atV more 0 (((exG s t).qK).length)).toNat]!)).1)).1).qN).length) rc179aBags,.slice ra179aAround ((((QY s t ((yl s t (((exG s t).qK)[(atV more 0 (((exG s t).qK).length)).toNat]!)).1)).1).qH).length) rc179aAround]) Tryz.isAgg31 Tryz.sizeOf31 rfl (fun _ h=>qC (h.cells 0 rfl) 0 3)) H ?_
            refine gF 8 rfl rfl H ?_
            refine gL 9 rfl rfl (fun _ h=>h.cell 5 rfl rfl) H ?_
            refine rgl 10 146 H ?_
            refine gI 11 rfl rfl rfl H ?_
            refine rg 12 _ 146 (yh (cs:=[.slice ae110Alive (((((exG s t).qK)[(atV more 0 (((exG s t).qK).length)).toNat]!).qG).length) ce110Alive,.slice ae110Bags (((((exG s t).qK)[(atV more 0 (((exG s t).qK).length)).toNat]!).qN).length) ce110Bags,.slice ae110Around (((((exG s t).qK)[(atV more 0 (((exG s t).qK).length)).toNat]!).qH).length) ce110Around]) Tryz.isAgg31 Tryz.sizeOf31 rfl (fun _ h=>qC (h.get 8 rfl) 0 3)) H ?_
            refine zY [13] qh qm (XD rfl (e:=146) rfl rfl ?_ zZ)
            obtain ⟨G193,hn194,h195⟩:=H.Vp 1 rfl
            obtain ⟨G196,hn197,h198⟩:=H.yQ (α:=yLI) 2 rfl 0 rfl qj
            obtain ⟨G199,hn200,h201⟩:=H.Qi 3 rfl
            refine oq (specSame_ok _ ((QY s t ((yl s t (((exG s t).qK)[(atV more 0 (((exG s t).qK).length)).toNat]!)).1)).1) (((exG s t).qK)[(atV more 0 (((exG s t).qK).length)).toNat]!) h195 h198 h201 (H.get 5 rfl).1 (H.get 6 rfl).1 (H.get 7 rfl).1) H fun w203 H=>⟨H,(rgl 14 146 H ?_)⟩
            refine rtl 15 H ?_
            refine xq qh (t_n (xE _ rfl (fun h205=>?_) (fun h205=>?_)))
            ·skip
             replace h205:=xJ h205
             replace h205:=of_decide_eq_false h205
             refine zcr (sp (.bool false) (zjr (t_r (ret1 (.bool false) rfl rfl ⟨_,rfl,?_,H.base⟩))))
             exfalso;first | omega | contradiction | exact absurd g0 ql | exact absurd w6 ql
            ·skip
             replace h205:=xw h205
             replace h205:=of_decide_eq_true h205
             refine qW (t_n (zcr (sq 1 (oN rfl (sq 1 (zjcc (sq 1 (sp (.bool (decide ((((yl s t (((exG s t).qK)[(atV more 0 (((exG s t).qK).length)).toNat]!)).1).length:Int) > 200))) (zjn (cD rfl (fun h206=>?_) (fun h206=>?_)))))))))))
             ·skip
              refine zcr (sp (.bool true) (zjr (t_r (ret1 (.bool true) rfl rfl ⟨_,rfl,?_,H.base⟩))))
              rfl
             ·skip
              have l1:=graph_in c0 hj (n:=((yl s t ((exG s t).qK[(atV more 0 ((exG s t).qK.length:Int)).toNat]!)).1.length:Int)) qf qf qf
              have l2:=l1.1
              have l3:¬ firstIdx (fun zz=>decide ((XB s t ((yl s t ((exG s t).qK[(atV more 0 ((exG s t).qK.length:Int)).toNat]!)).1.length:Int)).1[zz]! =(QY s t (yl s t ((exG s t).qK[(atV more 0 ((exG s t).qK.length:Int)).toNat]!)).1).1)) (XB s t ((yl s t ((exG s t).qK[(atV more 0 ((exG s t).qK.length:Int)).toNat]!)).1.length:Int)).1.length < 0:=fun h=>find_mem.1 h (by rw [w6];exact l1.2)
              refine qW (t_n (zcr (sw (xI [.int .i64 s.xP,.slice ra13 s.qA.length rc15,.slice ra16 s.qB.length rc18] Tryz.isAgg27 Tryz.sizeOf27 rfl (qC (H.cells 8 rfl) 0 3) (sw (xI [.slice ra21 t.qG.length rc23,.slice ra24 t.qN.length rc26,.slice ra29 t.qH.length rc31] Tryz.isAgg31 Tryz.sizeOf31 rfl (qC (H.cells 7 rfl) 0 3) (sq 1 ?_)))))))
              obtain ⟨G207,hn208,h209⟩:=H.Qi 9 rfl
              obtain ⟨G210,hn211,h212⟩:=H.yQ (α:=jw) 10 rfl 17 rfl qj
              obtain ⟨G213,hn214,h215⟩:=H.Vp 11 rfl
              obtain ⟨G216,hn217,h218⟩:=H.yQ (α:=yLI) 12 rfl 18 rfl qj
              obtain ⟨G219,hn220,h221⟩:=H.Qi 13 rfl
              have sz225:=H.base.size
              have lt226:=H.ltN (L:=[rF179aBags,rF159a,rF117a,rF76aStates,rF76aNext,rF53aStates,rF53aNext,rF28]) [0,1,4,13,14,15,16,18]
              refine sw (oc (implSA_ok _ s t (((yl s t (((exG s t).qK)[(atV more 0 (((exG s t).qK).length)).toNat]!)).1).length) h209 h212 h215 h218 h221) ?_)
              rintro _ w223 ⟨ra222a,rc222a,rF222a,rfl,M,K⟩ _
              replace N:=N.merge sz225 lt226 M
              replace H:=H.merge K M
              refine sq 5 ?_
              refine zjcc (sq 1 (sp (.bool (((XB s t (((yl s t (((exG s t).qK)[(atV more 0 (((exG s t).qK).length)).toNat]!)).1).length)).2:Int) != 0)) (sp (.bool (((XB s t (((yl s t (((exG s t).qK)[(atV more 0 (((exG s t).qK).length)).toNat]!)).1).length)).2:Int) != 0)) ?_)))
              cases h227:(((XB s t (((yl s t (((exG s t).qK)[(atV more 0 (((exG s t).qK).length)).toNat]!)).1).length)).2:Int) != 0)
              ·skip
               replace h227:=xm h227
               refine qL 169 rfl rfl (sq 1 (qL 169 rfl rfl ?_))
               refine sw (xI [.slice ra179aAlive ((((QY s t ((yl s t (((exG s t).qK)[(atV more 0 (((exG s t).qK).length)).toNat]!)).1)).1).qG).length) rc179aAlive,.slice ra179aBags ((((QY s t ((yl s t (((exG s t).qK)[(atV more 0 (((exG s t).qK).length)).toNat]!)).1)).1).qN).length) rc179aBags,.slice ra179aAround ((((QY s t ((yl s t (((exG s t).qK)[(atV more 0 (((exG s t).qK).length)).toNat]!)).1)).1).qH).length) rc179aAround] Tryz.isAgg31 Tryz.sizeOf31 rfl (qC (H.cells 0 rfl) 0 3) (qL 169 rfl rfl ?_))
               obtain ⟨G228,hn229,h230⟩:=H.Vp 1 rfl
               obtain ⟨G231,hn232,h233⟩:=H.yQ (α:=yLI) 2 rfl 1 rfl qj
               obtain ⟨G234,hn235,h236⟩:=H.Qi 3 rfl
               refine sw (oq (a2Place_ok _ ((XB s t (((yl s t (((exG s t).qK)[(atV more 0 (((exG s t).qK).length)).toNat]!)).1).length)).1) ((QY s t ((yl s t (((exG s t).qK)[(atV more 0 (((exG s t).qK).length)).toNat]!)).1)).1) (H.get 0 rfl).1 h230 h233 h236) H fun w238 H=>qL 169 rfl rfl ?_)
               refine sp (.bool (decide ((firstIdx (fun zz=>decide (((XB s t (((yl s t (((exG s t).qK)[(atV more 0 (((exG s t).qK).length)).toNat]!)).1).length)).1)[zz]! =((QY s t ((yl s t (((exG s t).qK)[(atV more 0 (((exG s t).qK).length)).toNat]!)).1)).1))) ((XB s t (((yl s t (((exG s t).qK)[(atV more 0 (((exG s t).qK).length)).toNat]!)).1).length)).1).length:Int) < 0))) (sp (.bool (decide ((firstIdx (fun zz=>decide (((XB s t (((yl s t (((exG s t).qK)[(atV more 0 (((exG s t).qK).length)).toNat]!)).1).length)).1)[zz]! =((QY s t ((yl s t (((exG s t).qK)[(atV more 0 (((exG s t).qK).length)).toNat]!)).1)).1))) ((XB s t (((yl s t (((exG s t).qK)[(atV more 0 (((exG s t).qK).length)).toNat]!)).1).length)).1).length:Int) < 0))) ?_)
               refine zjn (cD rfl (fun h240=>?_) (fun h240=>?_))
               ·skip
                refine zcr (sp (.bool false) (zjr (t_r (ret1 (.bool false) rfl rfl ⟨_,rfl,?_,H.base⟩))))
                exfalso;first | omega | contradiction | exact absurd g0 ql | exact absurd w6 ql
               ·skip
                refine qW (t_n (zcc (sp (.int .i64 0) (zjn (qY ?_)))))
                refine zq ((fun Z0 Z1 Z2 Z3 Z4 Z5 Z6 Z7 Z8 Z9 Z10 Z11 Z12 Z13 Z14 Z15 Z16 Z17 Z18 Z19 Z20 Z21 Z22 Z23 Z24 Z25 Z26 Z27 Z28 Z29 Z30 Z31=>fun m' ρ w241=>∃ (xM:Env) (n:Nat),ρ=upd (upd (upd (upd (upd xM 5 (.pointer (some ⟨b32,0,none⟩))) 6 (.pointer (some ⟨b34,0,none⟩))) 17 (.pointer (some ⟨b187,0,none⟩))) 19 (.int .i64 (((yl s t (((exG s t).qK)[(atV more 0 (((exG s t).qK).length)).toNat]!)).1).length))) 22 (.int .i64 n)∧((n:Int)≤(((yl s t (((exG s t).qK)[(atV more 0 (((exG s t).qK).length)).toNat]!)).1).length))∧m' =((((yl s t (((exG s t).qK)[(atV more 0 (((exG s t).qK).length)).toNat]!)).1).length) - (n:Int)).toNat∧Fresh w.heap.size [rF179aBags,rF117a,rF76aStates,rF76aNext,rF53aStates,rF53aNext,rF28]∧St w w241 [Z0,Z1,Z2,Z3,Z4,Z5,Z6,Z7,Z8,Z9,Z10,Z11,Z12,Z13] [Z14,Z15,Z16,Z17,Z18,Z19,Z20,Z21,Z22,Z23,Z24,Z25,Z26,Z27,Z28,Z29,Z30,Z31]) _ _ _ _ _ _ _ _ _ _ _ _ _ _ _ _ _ _ _ _ _ _ _ _ _ _ _ _ _ _ _ _) (((((yl s t (((exG s t).qK)[(atV more 0 (((exG s t).qK).length)).toNat]!)).1).length) - (0:Int)).toNat) ⟨_,0,uE5,qf,rfl,(N.pick [1,3,4,5,6,7,8]),H.pick [0,1,2,3,4,5,6,7,8,9,10,11,12,13] [1,3,4,5,6,7,8,9,10,11,12,13,14,15,16,17,18,19]⟩ ?_
                clear H N
                rintro m' ρ w242 ⟨xM,n,rfl,i0,rfl,N,H⟩
                refine zcc (sp (.int .i64 n) (sq 2 (zjn (cD rfl (fun h243=>?_) (fun h243=>?_)))))
                ·skip
                 have m1:=graph_not c0 hj (n:=(n:Int)) qf qf qf
                 have m2:=m1.1
                 have m3:firstIdx (fun zz=>decide ((XB s t (n:Int)).1[zz]! =(QY s t (yl s t ((exG s t).qK[(atV more 0 ((exG s t).qK.length:Int)).toNat]!)).1).1)) (XB s t (n:Int)).1.length < 0:=find_mem.2 (by rw [w6];exact m1.2)
                 refine qW (t_n (xQ (qY (zcr (sw (xI [.int .i64 s.xP,.slice ra13 s.qA.length rc15,.slice ra16 s.qB.length rc18] Tryz.isAgg27 Tryz.sizeOf27 rfl (qC (H.cells 8 rfl) 0 3) (sw (xI [.slice ra21 t.qG.length rc23,.slice ra24 t.qN.length rc26,.slice ra29 t.qH.length rc31] Tryz.isAgg31 Tryz.sizeOf31 rfl (qC (H.cells 7 rfl) 0 3) (sp (.int .i64 n) ?_)))))))))
                 obtain ⟨G244,hn245,h246⟩:=H.Qi 9 rfl
                 obtain ⟨G247,hn248,h249⟩:=H.yQ (α:=jw) 10 rfl 16 rfl qj
                 obtain ⟨G250,hn251,h252⟩:=H.Vp 11 rfl
                 obtain ⟨G253,hn254,h255⟩:=H.yQ (α:=yLI) 12 rfl 17 rfl qj
                 obtain ⟨G256,hn257,h258⟩:=H.Qi 13 rfl
                 have sz262:=H.base.size
                 have lt263:=H.ltN (L:=[rF179aBags,rF117a,rF76aStates,rF76aNext,rF53aStates,rF53aNext,rF28]) [0,3,12,13,14,15,17]
                 refine sw (oc (implSA_ok _ s t n h246 h249 h252 h255 h258) ?_)
                 rintro _ w260 ⟨ra259a,rc259a,rF259a,rfl,M,K⟩ _
                 replace N:=N.merge sz262 lt263 M
                 replace H:=H.merge K M
                 refine sq 5 (zjc (sq 1 (sp (.bool (((XB s t n).2:Int) != 0)) (sp (.bool (((XB s t n).2:Int) != 0)) ?_))))
                 cases h264:(((XB s t n).2:Int) != 0)
                 ·skip
                  replace h264:=xm h264
                  refine qL 189 rfl rfl (sq 1 (qL 189 rfl rfl (sw (xI [.slice ra179aAlive ((((QY s t ((yl s t (((exG s t).qK)[(atV more 0 (((exG s t).qK).length)).toNat]!)).1)).1).qG).length) rc179aAlive,.slice ra179aBags ((((QY s t ((yl s t (((exG s t).qK)[(atV more 0 (((exG s t).qK).length)).toNat]!)).1)).1).qN).length) rc179aBags,.slice ra179aAround ((((QY s t ((yl s t (((exG s t).qK)[(atV more 0 (((exG s t).qK).length)).toNat]!)).1)).1).qH).length) rc179aAround] Tryz.isAgg31 Tryz.sizeOf31 rfl (qC (H.cells 0 rfl) 0 3) (qL 189 rfl rfl ?_)))))
                  obtain ⟨G265,hn266,h267⟩:=H.Vp 1 rfl
                  obtain ⟨G268,hn269,h270⟩:=H.yQ (α:=yLI) 2 rfl 1 rfl qj
                  obtain ⟨G271,hn272,h273⟩:=H.Qi 3 rfl
                  refine sw (oq (a2Place_ok _ ((XB s t n).1) ((QY s t ((yl s t (((exG s t).qK)[(atV more 0 (((exG s t).qK).length)).toNat]!)).1)).1) (H.get 0 rfl).1 h267 h270 h273) H fun w275 H=>qL 189 rfl rfl (sp (.bool (decide ((firstIdx (fun zz=>decide (((XB s t n).1)[zz]! =((QY s t ((yl s t (((exG s t).qK)[(atV more 0 (((exG s t).qK).length)).toNat]!)).1)).1))) ((XB s t n).1).length:Int)≥0))) (sp (.bool (decide ((firstIdx (fun zz=>decide (((XB s t n).1)[zz]! =((QY s t ((yl s t (((exG s t).qK)[(atV more 0 (((exG s t).qK).length)).toNat]!)).1)).1))) ((XB s t n).1).length:Int)≥0))) (zjn ?_))))
                  refine cD rfl (fun h277=>?_) (fun h277=>?_)
                  ·skip
                   refine zcr (sp (.bool false) (zjr (zr5 (ret1 (.bool false) rfl rfl ⟨_,rfl,?_,H.base⟩))))
                   exfalso;first | omega | contradiction | exact absurd g0 ql | exact absurd w6 ql
                  ·skip
                   refine qW (b_n (t_n (xU (sp (.int .i64 n) (sw (zA n 1 rfl rfl qf (sq 1 (xY (xe (m' :=((((yl s t (((exG s t).qK)[(atV more 0 (((exG s t).qK).length)).toNat]!)).1).length) - ((n+1):Int)).toNat) qf ⟨_,n+1,uE5,?_,rfl,(N.pick [1,2,3,4,5,6,7]),H.pick [0,1,2,3,4,5,6,7,8,9,10,11,12,13] [1,2,3,4,5,6,7,8,9,10,11,12,13,14,15,16,17,18]⟩)))))))))
                   · omega
                 ·skip
                  replace h264:=bne_iff_ne.1 h264
                  refine xZ [190,191,192,193] (sp (.bool true) (zjn (xE true rfl (fun _=>zcr (sp (.bool false) (zjr (zr5 (ret1 (.bool false) rfl rfl ⟨_,rfl,?_,H.base⟩))))) (fun h=>absurd h qj))))
                  exfalso;first | omega | contradiction | exact absurd g0 ql | exact absurd w6 ql
                ·skip
                 refine zx4 (zcr (sp (.bool true) (zjr (ret1 (.bool true) rfl rfl ⟨_,rfl,?_,H.base⟩))))
                 rfl
              ·skip
               replace h227:=bne_iff_ne.1 h227
               refine xZ [170,171,172,173] (sp (.bool true) (zjn (xE true rfl (fun _=>zcr (sp (.bool false) (zjr (t_r (ret1 (.bool false) rfl rfl ⟨_,rfl,?_,H.base⟩))))) (fun h=>absurd h qj))))
               exfalso;first | omega | contradiction | exact absurd g0 ql | exact absurd w6 ql
           ·skip
            replace h192:=bne_iff_ne.1 h192
            refine zI [7,8,9,10,11,12,13,14] 8 (H) (rtp 15 (.bool true) H ?_)
            refine xq qh (t_n (xE true rfl (fun _=>zcr (sp (.bool false) (zjr (t_r (ret1 (.bool false) rfl rfl ⟨_,rfl,?_,H.base⟩))))) (fun h=>absurd h qj)))
            exfalso;first | omega | contradiction | exact absurd g0 ql | exact absurd w6 ql
          ·skip
           replace h191:=bne_iff_ne.1 h191
           refine zI [3,4] 2 (H) (rtp 5 (.bool true) H ?_)
           refine rtp 6 (.bool true) H ?_
           refine zI [7,8,9,10,11,12,13,14] 8 (H) (rtp 15 (.bool true) H ?_)
           refine xq qh (t_n (xE true rfl (fun _=>zcr (sp (.bool false) (zjr (t_r (ret1 (.bool false) rfl rfl ⟨_,rfl,?_,H.base⟩))))) (fun h=>absurd h qj)))
           exfalso;first | omega | contradiction | exact absurd g0 ql | exact absurd w6 ql
       ·skip
        replace h123:=bne_iff_ne.1 h123
        refine xZ [90,91,92,93,94,95,96,97,98] (sp (.bool true) (zjn (xE true rfl (fun _=>zcr (sp (.bool false) (zjr (t_r (ret1 (.bool false) rfl rfl ⟨_,rfl,?_,H.base⟩))))) (fun h=>absurd h qj))))
        exfalso;first | omega | contradiction | exact absurd g0 ql | exact absurd w6 ql
     ·skip
      replace h88:=bne_iff_ne.1 h88
      refine zI [14,15,16,17,18,19,20] 7 (H) (rtp 21 (.bool true) H ?_)
      refine xq qh (t_n (xE true rfl (fun _=>zcr (sp (.bool false) (zjr (t_r (ret1 (.bool false) rfl rfl ⟨_,rfl,?_,H.base⟩))))) (fun h=>absurd h qj)))
      exfalso;first | omega | contradiction | exact absurd g0 ql | exact absurd w6 ql
    ·skip
     replace h87:=of_decide_eq_true h87
     refine zI [5,6,7,8,9,10,11] 7 (H) (rtp 12 (.bool true) H ?_)
     refine rtp 13 (.bool true) H ?_
     refine zI [14,15,16,17,18,19,20] 7 (H) (rtp 21 (.bool true) H ?_)
     refine xq qh (t_n (xE true rfl (fun _=>zcr (sp (.bool false) (zjr (t_r (ret1 (.bool false) rfl rfl ⟨_,rfl,?_,H.base⟩))))) (fun h=>absurd h qj)))
     exfalso;first | omega | contradiction | exact absurd g0 ql | exact absurd w6 ql
 ·skip
  replace h1:=of_decide_eq_true h1
  refine xZ [9,10,11] (sp (.bool true) (sp (.bool true) (zjr (ret1 (.bool true) rfl rfl ⟨_,rfl,(zjn (xE true rfl (fun _=>zcr (sp (.bool true) (zjr (t_r (ret1 (.bool true) rfl rfl ⟨_,rfl,?_,H.base⟩))))) (fun h=>absurd h qj)))⟩))))
  rfl
end
section
open Go.ChangeShapes Go.WideShapes Go.ChangeAt Go.RowKit Go.Joins
set_option linter.unusedVariables false
set_option linter.unusedSimpArgs false
def Reads (P:Program) (t:TypeId) (α:Type) [qO α]:Prop:=
  ∀ {H:Type} {enc:TypeId×Value→H} {w:World} {spare:Nat→Bool} {held:Bool} {fuel:Nat} {cs:List Value} {x:DataW H×List MemPlace},
    DataW.trod enc P w 0 spare held fuel t cs=some x→∃ F,∃ y:α,qO.rep w F cs y

theorem cell_spot {w:World} {a:Addr} {v:Value} (h:w.cell? a=some v):a.spot=none:=by
  unfold World.cell? at h
  split at h
  · split at h
    · cases h
    · rename_i hs;simpa using hs
  · cases h

theorem reads_slice {α:Type} [qO α] {P:Program} {t e:TypeId} (hu:P.underlying t=some (.slice e)) (hc:P.cellsOf e=qO.size α) (hz:0 < qO.size α) (he:Reads P e α):Reads P t (List α):=by
  intro H enc w spare held fuel cs x h
  rcases DataW.trod_slice hu h with ⟨rfl,_⟩ | ⟨a,len,cap,elems,rest,n,_,rfl,_,_,hlc,hcm,hel,hget,_⟩
  · exact ⟨[],[],none,0,rfl,by simp,Or.inl ⟨rfl,rfl⟩⟩
  · have hm:cap≤9223372036854775807:=by unfold maxLen at hcm;omega
    rcases Nat.eq_zero_or_pos len with h0 | h0
    · subst h0
      exact ⟨[],[],some a,cap,rfl,by simp,Or.inl ⟨rfl,rfl⟩⟩
    · have hone:∀ i,i < len→∃ ci Fi,∃ y:α,w.cells? 0 (a.add (i * qO.size α)) (qO.size α)=some ci∧qO.rep w Fi ci y:=by
        intro i hi
        have hg:=hget i hi
        rw [hc] at hg
        have hs:elems[i]? =some (elems[i]'(by omega)):=List.getElem?_eq_getElem qf
        rw [hs] at hg
        obtain ⟨ci,h1,h2⟩:=Option.bind_eq_some_iff.1 hg
        obtain ⟨Fi,y,hr⟩:=he h2
        exact ⟨ci,Fi,y,h1,hr⟩
      have hsp:a.spot=none:=by
        obtain ⟨ci,Fi,y,h1,_⟩:=hone 0 h0
        obtain ⟨_,hl,hcell⟩:=World.cells?_some h1
        have:=hcell 0 hz
        rw [List.getElem?_eq_getElem (show 0 < ci.length by omega)] at this
        have:=cell_spot this
        simpa [Addr.add] using this
      obtain ⟨b,off,sp⟩:=a
      simp only at hsp
      subst hsp
      have hadd:∀ i j:Nat,((⟨b,off,none⟩:Addr).add (i * qO.size α)).add j=⟨b,off+i * qO.size α+j,none⟩:=fun i j=>by simp [Addr.add_mid]
      have hall:∀ m,m≤len→∃ F vs,∃ l:List α,l.length=m∧reps w F vs l∧vG w b off vs:=by
        intro m
        induction m with
        | zero=>exact fun _=>⟨[],[],[],rfl,⟨rfl,rfl⟩,fun i v hv=>by simp at hv⟩
        | succ m ih=>
          intro hm'
          obtain ⟨F,vs,l,hl,hr,hcl⟩:=ih qf
          obtain ⟨ci,Fi,y,h1,h2⟩:=hone m qf
          obtain ⟨_,hcl2,hcell⟩:=World.cells?_some h1
          refine ⟨F++Fi,vs++ci,l++[y],by simp [hl],yY hr (reps_one h2),fun i v hv=>?_⟩
          have hvl:=X7 hr
          rw [hl] at hvl
          rcases Nat.lt_or_ge i vs.length with hi | hi
          · rw [List.getElem?_append_left hi] at hv
            exact hcl i v hv
          · rw [List.getElem?_append_right hi] at hv
            have hi2:i - vs.length < ci.length:=by
              rcases Nat.lt_or_ge (i - vs.length) ci.length with h | h
              · exact h
              · simp [h] at hv
            have:=hcell (i - vs.length) qf
            rw [hadd,hv] at this
            rw [← this]
            congr 1
            rw [show off+i=off+m * qO.size α+(i - vs.length) by omega]
      obtain ⟨F,vs,l,hl,hr,hcl⟩:=hall len (Nat.le_refl _)
      have hb:b < w.heap.size:=by
        have h1:0 < vs.length:=by rw [X7 hr,hl];exact Nat.mul_pos h0 hz
        exact World.block_lt_of_cell? w _ (hcl 0 _ (List.getElem?_eq_getElem h1))
      subst hl
      exact ⟨b :: F,l,some ⟨b,off,none⟩,cap,rfl,⟨by omega,hlc⟩,Or.inr ⟨b,off,F,vs,rfl,rfl,hb,hr,hcl⟩⟩

theorem arg_slice {P:Program} {α:Type} [qO α] {H:Type} {enc:TypeId×Value→H} {w:World} {spare:Nat→Bool} {held:Bool} {b0:Nat} {t e:TypeId} {v:Value} {d:DataW H} {p:List MemPlace} (hu:P.underlying t=some (.slice e)) (hr:Reads P t (List α))
    (hv:Value.okWide P w .any b0 t v) (h:DataW.Trod enc P w 0 spare held t v d p):∃ (a:yOA) (c:Nat) (F:yLN) (l:List α),v=.slice a l.length c∧qO.rep w F [.slice a l.length c] l:=by
  obtain ⟨a,m,c,rfl⟩:=okWide_slice hu hv
  obtain ⟨fuel,hf⟩:=h
  obtain ⟨F,l,hl⟩:=hr hf
  have hcs:(Value.slice a m c).cells.toList=[.slice a m c]:=rfl
  rw [hcs] at hl
  obtain ⟨a',c',hc,hx⟩:=id hl
  simp only [List.cons.injEq,Value.slice.injEq,and_true] at hc
  obtain ⟨rfl,rfl,rfl⟩:=hc
  exact ⟨a,c,F,l,rfl,hl⟩
section
variable {H : Type} {enc : TypeId × Value → H} {P : Program}

theorem trodAll_below (hl:laidOutB P=true) {W W' :World} (hb:Below W.heap.size W W'):
    ∀ (ts:List TypeId) (vs:List Value) (ds:List (DataW H)) (ps:List MemPlace),(∀ t∈ts,P.readableRec t=true∧t < P.types.size)→
      DataW.TrodAll enc P W 0 (fun _=>true) true ts vs ds ps→(∀ x∈ps,x.block < W.heap.size)→
      DataW.TrodAll enc P W' 0 (fun b=>decide (b < W.heap.size)) true ts vs ds ps
  | [],vs,ds,ps,_,h,_=>by
    obtain ⟨rfl,rfl,rfl⟩:=trodAll_nil h
    exact trodAll_mk0
  | t :: ts,vs,ds,ps,hr,h,hp=>by
    obtain ⟨v,vs',d,ds',p,q,rfl,rfl,rfl,h0,h1⟩:=trodAll_cons h
    have ht:=hr t (List.mem_cons_self ..)
    exact trodAll_cons_mk (Below.trod hl ht.1 ht.2 h0 hb (fun x hx=>hp x (List.mem_append_left _ hx)))
      (trodAll_below hl hb ts vs' ds' q (fun t' ht' =>hr t' (List.mem_cons_of_mem _ ht')) h1 (fun x hx=>hp x (List.mem_append_right _ hx)))

theorem post_law {f:Func} {s:ChangeSpec} {W W' :World} {args:Array Value} {tb:TypeId} {ds gs:List (DataW H)} {before:List MemPlace}
    (hW:DataW.Whole enc P f.params.toList s.vars false W args.toList ds gs before) (hv:s.vars=[])
    (hs:s.fn H (ds++[])={ results:=[.lit (.bool true)],args:=ds }) (hr:f.resultTypes=#[tb]) (hu:P.underlying tb=some .bool)
    (hl:laidOutB P=true) (hts:∀ t∈f.params.toList,P.readableRec t=true∧t < P.types.size) (hb:Below W.heap.size W W'):
    s.post enc P f false true false false W args (.bool true) W' :=by
  have hW' :=hW
  obtain ⟨p,q,hA,hV,rfl,hz,hn⟩:=hW
  rw [hv] at hV
  obtain ⟨rfl,rfl⟩:=trodVars_none hV
  have hlt:∀ x∈p++[],x.block < W.heap.size:=fun x hx=>hW'.lt x hx
  refine ⟨ds,[],p++[],[],p,[],hW',?_,?_,?_,World.keptBut_mono (fun x hx=>⟨hx,Or.inr (Or.inl (by simpa using hx))⟩) (hb.frame (·∈p++[])),fun h=>by cases h⟩
  · rw [hs,hr]
    simp only [Value.resultList]
    exact trodAll_mk1 (shut_bool hu true)
  · rw [hs]
    exact trodAll_below hl hb _ _ _ _ hts hA (fun x hx=>hlt x (by simpa using hx))
  · rw [hv,hs]
    exact rfl
end
theorem reads_byte {P:Program} {t:TypeId} (hu:P.underlying t=some (.int .u8)):Reads P t UInt8:=fun h=>by
  obtain ⟨n,rfl,_,hw⟩:=DataW.trod_int hu h
  have hb:0≤n∧n≤255:=by
    simp [Lit.wf,IntKind.min,IntKind.max,IntKind.signed,IntKind.bits] at hw
    omega
  refine ⟨[],UInt8.ofNat n.toNat,rfl,?_⟩
  have e:(UInt8.ofNat n.toNat).toNat=n.toNat:=by
    simp
    omega
  rw [e,Int.toNat_of_nonneg hb.1]
end
end Go.Proofs.YtdhklgjmiamiaaaGreat
