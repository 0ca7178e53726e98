/- Walks and laws, printed by program and by hand: what each function comes to, for all arguments, part 5. -/
import Derived.Test.YtkgdkfkgnodheaaGreatA4
import Derived.Test.YtkgdkfkgnodheaaGreatRows
import Derived.ProofKit
import Derived.OpenShut
import Derived.Carry
import Derived.BigQuiet
import Derived.Lib.SmallJoins
namespace Go.Proofs.YtkgdkfkgnodheaaGreat
set_option linter.unusedVariables false
set_option linter.unusedSimpArgs false
open Go.Proofs.YtkgdkfkgnodheaaGreat.Tot (tot)
open Go.Proofs.YtkgdkfkgnodheaaGreat.Mark (cnt mrk mkd mkd_mark cnt_mark)
section
open Go.RowKit
set_option linter.unusedVariables false
set_option linter.unusedSimpArgs false
set_option maxRecDepth 100000
set_option maxHeartbeats 4000000
variable {qH cpFree qN csCells qU : Nat}
theorem l00Put_ok (w:World) (l:yLI) (n:Int) {al:yOA} {cl:Nat} {Fl:yLN} (hl:qQ.rep w Fl [.slice al l.length cl] l) (p0:l.length≤1000000):Calls Tryz.prog 52 #[.slice al l.length cl,.int .i64 n] w (Ret (fun v w' =>∃ (ra:yOA) (rn:Nat) (rc:Nat),v=.slice ra rn rc∧Fresh w.heap.size []∧St w w' [rr ra rn rc 2 1 ((putL n l).map (Value.int .i64))] []) w):=by
 refine en Tryz.func52 Tryz.ntmps52 ?_
 have H:=(St.start w).arg hl
 have nhl:=qM hl
 clear hl
 have N:=Fresh.nil w.heap.size
 refine zcr (sp (.slice none 0 0) (zjc (sw (jK H Tryz.underlying22 ti2 fun b1 w2 H=>sp (.slice (some ⟨b1,0,none⟩) 0 0) (zjc (sp (.bool false) (zjcc (sp (.int .i64 0) (zjn (xm ?_))))))))))
 replace H:=H.boxRowI 0 [] 0
 refine zG (fun m' ρ w3=>∃ (zq:Env) (a_out:yOA) (yD:Nat) (c_out:Nat) (out:yLI) (done:Bool) (i:Nat),ρ=upd (upd (upd (upd (upd zq 0 (.slice al l.length cl)) 1 (.int .i64 n)) 5 (.slice a_out yD c_out)) 6 (.bool done)) 7 (.int .i64 i)∧((i:Int)≤l.length)∧(PutTo n l out done i)∧m' =(l.length - (i:Int)).toNat∧Fresh w.heap.size []∧St w w3 [rr a_out yD c_out 2 1 (out.map (Value.int .i64))] [sF false Fl al cl l]) ((l.length - (0:Int)).toNat) ⟨_,(some ⟨b1,0,none⟩),0,0,([]:yLI),false,0,uE5,qg,(by exact PutTo.zero n l),rfl,N,H⟩ ?_
 clear H N
 rintro m' ρ w4 ⟨zq,a_out,yD,c_out,out,done,i,rfl,i0,i1,rfl,N,H⟩
 have hn_out:=H.Qm 0 rfl
 have ob:=i1.bd
 refine zcc (sps [.int .i64 i,.slice al l.length cl] (oN rfl (sp (.bool (decide ((i:Int) < l.length))) (zjn (cD rfl (fun h5=>?_) (fun h5=>?_))))))
 ·skip
  refine qZ (t_n (xQ (xm (zcc (sps [.bool done,.bool !done,.bool !done] ?_)))))
  cases h6:(!done)
  ·skip
   replace h6:=xn h6
   refine zI [18,19,20,21,22,23] (sp (.bool false) (zjn (xH false rfl (fun h=>absurd h qj) (fun _=>qZ (t_n (xM (sps [.slice a_out yD c_out,.slice al l.length cl,.int .i64 i] ?_)))))))
   obtain ⟨b7,o8,rfl⟩:=H.addr 0 rfl qg
   refine oI rfl rfl (oL rfl (H.vW 0 rfl i qg qg) (sw (zu H Tryz.underlying22 ti2 [.int .i64 (l[i]!)] fun b10 w11 H=>sw (zB H 1 rfl 0 rfl Tryz.underlying22 ti2 rfl qj rfl rfl rfl qx qw qg fun a12 c13 w14 H=>?_))))
   rw [snocI] at H
   refine sp (.slice a12 (yD+1) c13) (xP (b_n (t_n (xM (sp (.int .i64 i) (sw (xX i 1 rfl rfl qg (sp (.int .i64 (i+1)) (xP (xg (m' :=(l.length - ((i+1):Int)).toNat) qg ⟨_,a12,yD+1,c13,(out++[l[i]!]),done,i+1,uE5,?_,?_,rfl,N,H.pick [1] [0]⟩))))))))))
   · omega
   · first | exact i1.on qm qg | exact i1.less qm qg qm | exact i1.same qm qg qm qm | exact i1.more qm qg qm
  ·skip
   replace h6:=xu h6
   refine qX 17 rfl rfl (sp (.slice al l.length cl) (qX 17 rfl rfl (sp (.int .i64 i) (qX 17 rfl rfl ?_))))
   obtain ⟨b15,o16,rfl⟩:=H.addr 0 rfl qg
   refine oI rfl rfl (qX 17 rfl rfl (oL rfl (H.vW 0 rfl i qg qg) (qX 17 rfl rfl (sp (.int .i64 n) (qX 17 rfl rfl (sps [.bool (decide ((l[i]! :Int)≥n)),.bool (decide ((l[i]! :Int)≥n))] (zjn (cD rfl (fun h18=>?_) (fun h18=>?_)))))))))
   ·skip
    refine zcr (sp (.bool true) (zjc (sps [.slice (some ⟨b15,o16,none⟩) l.length cl,.int .i64 i] (oI rfl rfl (oL rfl (H.vW 0 rfl i qg qg) (sps [.int .i64 n,.bool (decide ((l[i]! :Int) > n))] (zjn (cD rfl (fun h19=>?_) (fun h19=>?_)))))))))
    ·skip
     refine xM (sps [.slice a_out yD c_out,.int .i64 n] (sw (zu H Tryz.underlying22 ti2 [.int .i64 n] fun b20 w21 H=>sw (zB H 1 rfl 0 rfl Tryz.underlying22 ti2 rfl qj rfl rfl rfl qx qw qg fun a22 c23 w24 H=>?_))))
     rw [snocI] at H
     refine sp (.slice a22 (yD+1) c23) (zjn (xM (sps [.slice a22 (yD+1) c23,.slice (some ⟨b15,o16,none⟩) l.length cl,.int .i64 i] (oI rfl rfl (oL rfl (H.vW 0 rfl i qg qg) (sw (zu H Tryz.underlying22 ti2 [.int .i64 (l[i]!)] fun b25 w26 H=>sw (zB H 2 rfl 0 rfl Tryz.underlying22 ti2 rfl qj rfl rfl rfl qx qw qg fun a27 c28 w29 H=>?_))))))))
     rw [snocI] at H
     refine sp (.slice a27 ((yD+1)+1) c28) (xP (b_n (t_n (xM (sp (.int .i64 i) (sw (xX i 1 rfl rfl qg (sp (.int .i64 (i+1)) (xP (xg (m' :=(l.length - ((i+1):Int)).toNat) qg ⟨_,a27,(yD+1)+1,c28,((out++[n])++[l[i]!]),true,i+1,uE5,?_,?_,rfl,N,H.pick [2] [0]⟩))))))))))
     · omega
     · first | exact i1.on qm qg | exact i1.less qm qg qm | exact i1.same qm qg qm qm | exact i1.more qm qg qm
    ·skip
     refine qZ (t_n (xM (sps [.slice a_out yD c_out,.slice (some ⟨b15,o16,none⟩) l.length cl,.int .i64 i] (oI rfl rfl (oL rfl (H.vW 0 rfl i qg qg) (sw (zu H Tryz.underlying22 ti2 [.int .i64 (l[i]!)] fun b30 w31 H=>sw (zB H 1 rfl 0 rfl Tryz.underlying22 ti2 rfl qj rfl rfl rfl qx qw qg fun a32 c33 w34 H=>?_))))))))
     rw [snocI] at H
     refine sp (.slice a32 (yD+1) c33) (xP (b_n (t_n (xM (sp (.int .i64 i) (sw (xX i 1 rfl rfl qg (sp (.int .i64 (i+1)) (xP (xg (m' :=(l.length - ((i+1):Int)).toNat) qg ⟨_,a32,yD+1,c33,(out++[l[i]!]),true,i+1,uE5,?_,?_,rfl,N,H.pick [1] [0]⟩))))))))))
     · omega
     · first | exact i1.on qm qg | exact i1.less qm qg qm | exact i1.same qm qg qm qm | exact i1.more qm qg qm
   ·skip
    refine qZ (t_n (xM (sps [.slice a_out yD c_out,.slice (some ⟨b15,o16,none⟩) l.length cl,.int .i64 i] (oI rfl rfl (oL rfl (H.vW 0 rfl i qg qg) (sw (zu H Tryz.underlying22 ti2 [.int .i64 (l[i]!)] fun b35 w36 H=>sw (zB H 1 rfl 0 rfl Tryz.underlying22 ti2 rfl qj rfl rfl rfl qx qw qg fun a37 c38 w39 H=>?_))))))))
    rw [snocI] at H
    refine sp (.slice a37 (yD+1) c38) (xP (b_n (t_n (xM (sp (.int .i64 i) (sw (xX i 1 rfl rfl qg (sp (.int .i64 (i+1)) (xP (xg (m' :=(l.length - ((i+1):Int)).toNat) qg ⟨_,a37,yD+1,c38,(out++[l[i]!]),done,i+1,uE5,?_,?_,rfl,N,H.pick [1] [0]⟩))))))))))
    · omega
    · first | exact i1.on qm qg | exact i1.less qm qg qm | exact i1.same qm qg qm qm | exact i1.more qm qg qm
 ·skip
  refine zx4 (zcc (sps [.bool done,.bool !done] (zjn (xH (!done) rfl (fun h40=>?_) (fun h40=>?_)))))
  ·skip
   replace h40:=xu h40
   refine xM (sps [.slice a_out yD c_out,.int .i64 n] (sw (zu H Tryz.underlying22 ti2 [.int .i64 n] fun b41 w42 H=>sw (zB H 1 rfl 0 rfl Tryz.underlying22 ti2 rfl qj rfl rfl rfl qx qw qg fun a43 c44 w45 H=>?_))))
   rw [snocI] at H
   refine sp (.slice a43 (yD+1) c44) (zjc (sps [.slice a43 (yD+1) c44,.slice a43 (yD+1) c44] (zjr (ret1 (.slice a43 (yD+1) c44) rfl rfl ⟨_,rfl,?_,H.base⟩))))
   first | rw [← i1.yes qm qg] | rw [← i1.no qm qg]
   exact ⟨a43,yD+1,c44,rfl,N,H.pick [1] []⟩
  ·skip
   replace h40:=xn h40
   refine qZ (t_n (zcr (sps [.slice a_out yD c_out,.slice a_out yD c_out] (zjr (ret1 (.slice a_out yD c_out) rfl rfl ⟨_,rfl,?_,H.base⟩)))))
   first | rw [← i1.yes qm qg] | rw [← i1.no qm qg]
   exact ⟨a_out,yD,c_out,rfl,N,H.pick [0] []⟩

theorem specGraph_ok (w:World) (p:qW) (s:xk) (mode:Int) {qI:yOA} {xe:yLN} {apFree:yOA} {FpFree:yLN} {qR:yOA} {xy:yLN} {asCells:yOA} {FsCells:yLN} {qV:yOA} {xB:yLN} (qY:qQ.rep w xe [.slice qI p.qC.length qH] p.qC) (hpFree:qQ.rep w FpFree [.slice apFree p.qL.length cpFree] p.qL) (xx:qQ.rep w xy [.slice qR p.qB.length qN] p.qB) (hsCells:qQ.rep w FsCells [.slice asCells s.qF.length csCells] s.qF) (xC:qQ.rep w xB [.slice qV s.qG.length qU] s.qG):Calls Tryz.prog 8 #[.agg #[.int .i64 p.qJ,.slice qI p.qC.length qH,.slice apFree p.qL.length cpFree,.slice qR p.qB.length qN],.agg #[.slice asCells s.qF.length csCells,.slice qV s.qG.length qU],.int .i64 mode] w (Ret (fun v w' =>∃ (ra0:yOA) (rn0:Nat) (rc0:Nat) (rx0:List Value) (rF0:yLN) (ra1:yOA) (rn1:Nat) (rc1:Nat) (rx1:List Value) (rF1:yLN),v=.tuple #[.slice ra0 rn0 rc0,.slice ra1 rn1 rc1,.int .i64 ((xq p s mode).2.2)]∧Fresh w.heap.size [rF0,rF1]∧St w w' [rr ra0 rn0 rc0 39 2 rx0,rr ra1 rn1 rc1 22 1 rx1] [zi true rF0 rx0 ((xq p s mode).1),zi true rF1 rx1 ((xq p s mode).2.1)]) w):=by
 refine en Tryz.func8 Tryz.ntmps8 ?_
 have H:=(((((St.start w).arg xC).arg hsCells).arg xx).arg hpFree).arg qY
 have zJ:=qM qY
 have nhpFree:=qM hpFree
 have vN:=qM xx
 have nhsCells:=qM hsCells
 have jr:=qM xC
 clear qY hpFree xx hsCells xC
 have N:=Fresh.nil w.heap.size
 refine zcr (sw (jC H [.int .i64 p.qJ,.slice qI p.qC.length qH,.slice apFree p.qL.length cpFree,.slice qR p.qB.length qN] fun b1 w2 H=>sw (jC H [.slice asCells s.qF.length csCells,.slice qV s.qG.length qU] fun b3 w4 H=>sps [.slice none 0 0,.slice none 0 0,.int .i64 0] (zjcc (sp (.int .i64 mode) (sw (oq (l06Asked_ok _ p s mode (qO (H.cells 1 rfl) 0 4) (H.get 0 rfl).1 (H.get 1 rfl).1 (H.get 2 rfl).1 (qO (H.cells 0 rfl) 0 2) (H.get 3 rfl).1 (H.get 4 rfl).1) H fun w6 H=>sp (.int .i64 (Qy p s mode)) (zjc ?_))))))))
 refine sps [.int .i64 (Qy p s mode),.bool ((Qy p s mode:Int) != 0)] (zjn (xH ((Qy p s mode:Int) != 0) rfl (fun h8=>?_) (fun h8=>?_)))
 ·skip
  replace h8:=bne_iff_ne.1 h8
  refine zcr (sw (jK H Tryz.underlying32 ti39 fun b9 w10 H=>sw (jK H Tryz.underlying27 ti22 fun b11 w12 H=>sps [.int .i64 (Qy p s mode),.slice (some ⟨b9,0,none⟩) 0 0,.slice (some ⟨b11,0,none⟩) 0 0,.int .i64 (Qy p s mode)] (zjr (t_r ?_)))))
  replace H:=H.boxRow 1 rfl 2 0 rfl qj
  replace H:=H.vT (α:=xk)
  replace H:St _ _ [.box b11 [] 22,rr (some ⟨b9,0,none⟩) 0 0 39 2 [],.box b3 [.slice asCells s.qF.length csCells,.slice qV s.qG.length qU] 39,.box b1 [.int .i64 p.qJ,.slice qI p.qC.length qH,.slice apFree p.qL.length cpFree,.slice qR p.qB.length qN] 37] [zi true [] [] ([]:List xk),sF false xe qI qH p.qC,sF false FpFree apFree cpFree p.qL,sF false xy qR qN p.qB,sF false FsCells asCells csCells s.qF,sF false xB qV qU s.qG]:=H
  replace H:=H.boxRow 0 rfl 1 0 rfl qj
  replace H:=H.vT (α:=yLI)
  refine ret3 (.slice (some ⟨b9,0,none⟩) 0 0) (.slice (some ⟨b11,0,none⟩) 0 0) (.int .i64 (Qy p s mode)) rfl rfl rfl rfl ⟨_,rfl,?_,H.base⟩
  rw [pg_code qm]
  exact ⟨(some ⟨b9,0,none⟩),0,0,[],[],(some ⟨b11,0,none⟩),0,0,[],[],rfl,N.emp.emp,H.pick [1,0] [0,0]⟩
 ·skip
  replace h8:=xA h8
  obtain ⟨p0,p1,p2⟩:=mcode_ok h8
  refine qZ (t_n (zcr (sp (.int .i64 mode) (sw (jH #[.pointer (some ⟨b1,0,none⟩),.pointer (some ⟨b3,0,none⟩),.int .i64 mode] rfl rfl Tryz.call34 (en Tryz.func34 Tryz.ntmps34 ?_))))))
  refine zcr (sps [.slice none 0 0,.slice none 0 0,.bool false] (zjc (sp (.pointer (some ⟨b3,0,none⟩)) ?_)))
  have w1:=p1.1
  have w2:=p0.1.2.1.2
  have w3:=p1.2.1.1.2
  have w4:∀ k,k < s.qF.length→(s.qF[k]!).length≤1000000:=fun k hk=>by have:=(p1.2.2.1 k hk).1.2;omega
  have sz16:=H.base.size
  refine sw (oc (l06OwnStock_ok _ s (qO (H.cells 0 rfl) 0 2) (H.get 3 rfl).1 (H.get 4 rfl).1 qh qh qh) ?_)
  rintro _ w14 ⟨ra13Cells,rn13Cells,rc13Cells,rx13Cells,rF13Cells,ra13Around,rn13Around,rc13Around,rfl,M,K⟩ _
  replace N:=N.merge sz16 qo M
  replace H:=H.merge K M
  obtain rfl:=H.zy (α:=yLI) 0 rfl 0 rfl qj
  obtain rfl:=H.Qm 1 rfl
  refine sw (zu H Tryz.underlying32 ti39 [.slice ra13Cells s.qF.length rc13Cells,.slice ra13Around s.qG.length rc13Around] fun b20 w21 H=>sp (.slice (some ⟨b20,0,none⟩) 1 1) (zjc (sw (jK H Tryz.underlying27 ti22 fun b22 w23 H=>sp (.slice (some ⟨b22,0,none⟩) 0 0) (zjcc (sp (.int .i64 0) (zjn (xm ?_))))))))
  replace H:=H.boxRow 1 rfl 2 1 rfl qj
  replace H:=H.vT (α:=xk)
  have H0:=H
  obtain ⟨G24,hg26,hn25,H⟩:=H.freezeR (α:=yLI) 2 rfl 1 rfl qj
  replace N:Fresh w.heap.size [G24]:=Fresh.ice N H0 2 hg26.1 hg26.2 (H0.yz [])
  clear H0
  obtain ⟨G27,N,hn28,H⟩:=H.vw 3 rfl N (H.yz [0])
  replace H:=H.snoc_StockD 2 rfl 1 rfl 0 rfl
  replace N:Fresh w.heap.size [([]++(G24++G27))]:=(N.emp.pick [2,1,0]).join.swap.join
  replace H:St _ _ [.box b22 [] 22,rr (some ⟨b20,0,none⟩) 1 1 39 2 [.slice ra13Cells s.qF.length rc13Cells,.slice ra13Around s.qG.length rc13Around],rr none 0 0 0 1 [],rr none 0 0 0 1 [],.box b3 [.slice asCells s.qF.length csCells,.slice qV s.qG.length qU] 39,.box b1 [.int .i64 p.qJ,.slice qI p.qC.length qH,.slice apFree p.qL.length cpFree,.slice qR p.qB.length qN] 37] [zi true ([]++(G24++G27)) [.slice ra13Cells s.qF.length rc13Cells,.slice ra13Around s.qG.length rc13Around] [s],sF true G27 ra13Around rc13Around s.qG,sF true G24 ra13Cells rc13Cells s.qF,zi true [] [] ([]:List xk),zi true rF13Cells rx13Cells s.qF,sF false xe qI qH p.qC,sF false FpFree apFree cpFree p.qL,sF false xy qR qN p.qB,sF false FsCells asCells csCells s.qF,sF false xB qV qU s.qG]:=H
  replace H:=H.boxRow 0 rfl 1 0 rfl qj
  replace H:=H.vT (α:=yLI)
  refine zG (fun m' ρ w29=>∃ (zq:Env) (Qb:yOA) (jG:Nat) (jM:Nat) (list:List xk) (x_list:List Value) (F_list:yLN) (ve:yOA) (zU:Nat) (zZ:Nat) (next:yLL) (yO:List Value) (jE:yLN) (i:Nat),ρ=upd (upd (upd (upd (upd zq 0 (.pointer (some ⟨b1,0,none⟩))) 2 (.int .i64 mode)) 9 (.slice Qb jG jM)) 10 (.slice ve zU zZ)) 11 (.int .i64 i)∧(yQ p s mode i=some (list,next))∧(i≤list.length)∧m' =(200 - (i:Int)).toNat∧Fresh w.heap.size [F_list,jE]∧St w w29 [rr ve zU zZ 22 1 yO,rr Qb jG jM 39 2 x_list,.box b3 [.slice asCells s.qF.length csCells,.slice qV s.qG.length qU] 39,.box b1 [.int .i64 p.qJ,.slice qI p.qC.length qH,.slice apFree p.qL.length cpFree,.slice qR p.qB.length qN] 37] [zi true jE yO next,zi true F_list x_list list,sF false xe qI qH p.qC,sF false FpFree apFree cpFree p.qL,sF false xy qR qN p.qB,sF false FsCells asCells csCells s.qF,sF false xB qV qU s.qG]) ((200 - (0:Int)).toNat) ⟨_,(some ⟨b20,0,none⟩),1,1,[s],[.slice ra13Cells s.qF.length rc13Cells,.slice ra13Around s.qG.length rc13Around],([]++(G24++G27)),(some ⟨b22,0,none⟩),0,0,([]:yLL),[],[],0,uE5,(by rfl),(by exact Nat.zero_le _),rfl,(N.emp.pick [1,0]),H.pick [0,1,4,5] [0,1,6,7,8,9,10]⟩ ?_
  clear H N
  rintro m' ρ w30 ⟨zq,Qb,jG,jM,list,x_list,F_list,ve,zU,zZ,next,yO,jE,i,rfl,j1,j0,rfl,N,H⟩
  have hn_list:=H.zy (α:=xk) 1 rfl 1 rfl qj
  have hn_next:=H.zy (α:=yLI) 0 rfl 0 rfl qj
  have oo:=outTo_ok p1 i j1
  obtain ⟨ol1,ol2,ol3⟩:=outTo_len i j1
  have ol4:=ol3 j0
  refine zcc (sps [.int .i64 i,.slice Qb jG jM] (oN rfl (sp (.bool (decide ((i:Int) < jG))) (zjn (cD rfl (fun h31=>?_) (fun h31=>?_))))))
  ·skip
   refine qZ (t_n (xQ (xm (zcr (sps [.pointer (some ⟨b1,0,none⟩),.slice Qb jG jM,.int .i64 i] ?_)))))
   obtain ⟨b32,rfl⟩:=H.yF 1 rfl qg
   obtain ⟨ae33Cells,ce33Cells,Fe33Cells,ae33Around,ce33Around,Fe33Around,hx34,H⟩:=H.rowel_StockD 1 rfl 1 rfl (iv:=i) i qg qg
   refine oI rfl rfl (sp (.int .i64 mode) ?_)
   have so:=oo i qg
   have sz38:=H.base.size
   have lt39:=H.ltN (L:=[F_list,jE]) [3,2]
   refine sw (oc (l06Choices_ok _ p (list[i]!) mode (qO (H.cells 3 rfl) 0 4) (H.get 4 rfl).1 (H.get 5 rfl).1 (H.get 6 rfl).1 (qO (fun j v hj=>H.rowGet 1 rfl (hx34 j v hj)) 0 2) (H.get 0 rfl).1 (H.get 1 rfl).1 (by exact p0) (by first | exact p1 | assumption)) ?_)
   rintro _ w36 ⟨ra35a,rn35a,rc35a,rx35a,rF35a,rfl,M,K⟩ _
   replace N:=N.merge sz38 lt39 M
   replace H:=H.merge K M
   obtain rfl:=H.zy (α:=yLI) 0 rfl 0 rfl qj
   refine sps [.tuple #[.slice ra35a (((xf p (list[i]!) mode).2).length) rc35a,.bool (decide ((xf p (list[i]!) mode).1≤1500))],.slice ra35a (((xf p (list[i]!) mode).2).length) rc35a,.bool (decide ((xf p (list[i]!) mode).1≤1500)),.slice ra35a (((xf p (list[i]!) mode).2).length) rc35a,.bool (decide ((xf p (list[i]!) mode).1≤1500))] (zjcc (sps [.bool (decide ((xf p (list[i]!) mode).1≤1500)),.bool (!(decide ((xf p (list[i]!) mode).1≤1500)))] (zjn (xH (!(decide ((xf p (list[i]!) mode).1≤1500))) rfl (fun h41=>?_) (fun h41=>?_)))))
   ·skip
    replace h41:=xu h41
    replace h41:=of_decide_eq_false h41
    refine zcr (sps [.slice (some ⟨b32,0,none⟩) jG jM,.slice ve zU zZ,.slice (some ⟨b32,0,none⟩) jG jM,.slice ve zU zZ,.bool false] (zjr (t_r (zr5 (ret3 (.slice (some ⟨b32,0,none⟩) jG jM) (.slice ve zU zZ) (.bool false) rfl rfl rfl rfl ⟨_,rfl,?_⟩)))))
    replace H:=H.erases [0]
    dsimp only [yZ,List.eraseIdx] at H
    refine sps [.tuple #[.slice (some ⟨b32,0,none⟩) jG jM,.slice ve zU zZ,.bool false],.slice (some ⟨b32,0,none⟩) jG jM,.slice ve zU zZ,.bool false,.slice (some ⟨b32,0,none⟩) jG jM,.slice ve zU zZ,.bool false] (zjcc (sps [.bool false,.bool true] (zjn (xH true rfl (fun _=>zcr (sw (jK H Tryz.underlying32 ti39 fun b42 w43 H=>sw (jK H Tryz.underlying27 ti22 fun b44 w45 H=>sps [.slice (some ⟨b42,0,none⟩) 0 0,.slice (some ⟨b44,0,none⟩) 0 0,.int .i64 3] (zjr (t_r ?_)))))) (fun h=>absurd h qj)))))
    replace H:=H.boxRow 1 rfl 2 0 rfl qj
    replace H:=H.vT (α:=xk)
    replace H:St _ _ [.box b44 [] 22,rr (some ⟨b42,0,none⟩) 0 0 39 2 [],rr ve zU zZ 22 1 yO,rr (some ⟨b32,0,none⟩) jG jM 39 2 x_list,.box b3 [.slice asCells s.qF.length csCells,.slice qV s.qG.length qU] 39,.box b1 [.int .i64 p.qJ,.slice qI p.qC.length qH,.slice apFree p.qL.length cpFree,.slice qR p.qB.length qN] 37] [zi true [] [] ([]:List xk),zi true rF35a rx35a ((xf p (list[i]!) mode).2),sF true Fe33Cells ae33Cells ce33Cells ((list[i]!).qF),sF true Fe33Around ae33Around ce33Around ((list[i]!).qG),zi true jE yO next,zi true F_list x_list list,sF false xe qI qH p.qC,sF false FpFree apFree cpFree p.qL,sF false xy qR qN p.qB,sF false FsCells asCells csCells s.qF,sF false xB qV qU s.qG]:=H
    replace H:=H.boxRow 0 rfl 1 0 rfl qj
    replace H:=H.vT (α:=yLI)
    refine ret3 (.slice (some ⟨b42,0,none⟩) 0 0) (.slice (some ⟨b44,0,none⟩) 0 0) (.int .i64 3) rfl rfl rfl rfl ⟨_,rfl,?_,H.base⟩
    first | rw [pg_no qm (yA (outTo_much j1 qg qm) qg)] | rw [pg_no qm (yA (outTo_in j1 qg (k:=c+1) qg (inTo_bad k1 hb)) qg)] | rw [pg_no qm (yA (outTo_in j1 qg (k:=c+1) qg (inTo_many k1 hs (by unfold findS;omega) qg)) qg)]
    exact ⟨(some ⟨b42,0,none⟩),0,0,[],[],(some ⟨b44,0,none⟩),0,0,[],[],rfl,(N.emp.emp.pick [0,1]),H.pick [1,0] [0,0]⟩
   ·skip
    replace h41:=xn h41
    replace h41:=of_decide_eq_true h41
    refine qZ (t_n (zcr (sw (jK H Tryz.underlying22 ti2 fun b46 w47 H=>sp (.slice (some ⟨b46,0,none⟩) 0 0) (zjcc (sp (.int .i64 0) (zjn (xm ?_))))))))
    replace H:=H.boxRowI 0 [] 0
    refine zG (fun m' ρ w48=>∃ (zq:Env) (a_list_1:yOA) (xN:Nat) (zt:Nat) (list_1:List xk) (jo:List Value) (zY:yLN) (a_row:yOA) (n_row:Nat) (c_row:Nat) (row_1:yLI) (c:Nat) (row0:yLI),ρ=upd (upd (upd (upd (upd (upd (upd (upd zq 0 (.pointer (some ⟨b1,0,none⟩))) 2 (.int .i64 mode)) 9 (.slice a_list_1 xN zt)) 10 (.slice ve zU zZ)) 11 (.int .i64 i)) 12 (.slice ra35a (((xf p (list[i]!) mode).2).length) rc35a)) 14 (.slice a_row n_row c_row)) 15 (.int .i64 c)∧row_1=(yc row0)∧((c:Int)≤(((xf p (list[i]!) mode).2).length))∧(inTo p (list[i]!) (xf p (list[i]!) mode).2 list c=some (list_1,row0))∧m' =((((xf p (list[i]!) mode).2).length) - (c:Int)).toNat∧Fresh w.heap.size [rF35a,jE,zY]∧St w w48 [rr a_row n_row c_row 2 1 (row_1.map (Value.int .i64)),rr ra35a (((xf p (list[i]!) mode).2).length) rc35a 22 1 rx35a,rr ve zU zZ 22 1 yO,rr a_list_1 xN zt 39 2 jo,.box b3 [.slice asCells s.qF.length csCells,.slice qV s.qG.length qU] 39,.box b1 [.int .i64 p.qJ,.slice qI p.qC.length qH,.slice apFree p.qL.length cpFree,.slice qR p.qB.length qN] 37] [zi true rF35a rx35a ((xf p (list[i]!) mode).2),zi true jE yO next,zi true zY jo list_1,sF false xe qI qH p.qC,sF false FpFree apFree cpFree p.qL,sF false xy qR qN p.qB,sF false FsCells asCells csCells s.qF,sF false xB qV qU s.qG]) (((((xf p (list[i]!) mode).2).length) - (0:Int)).toNat) ⟨_,(some ⟨b32,0,none⟩),jG,jM,list,x_list,F_list,(some ⟨b46,0,none⟩),0,0,([]:yLI),0,[],uE8,(by rfl),qg,(by rfl),rfl,(N.pick [0,2,1]),H.pick [0,1,2,3,4,5] [0,3,4,5,6,7,8,9]⟩ ?_
    clear H N
    rintro m' ρ w49 ⟨zq,a_list_1,xN,zt,list_1,jo,zY,a_row,n_row,c_row,row_1,c,row0,rfl,rfl,i0,k1,rfl,N,H⟩
    have hn_list:=H.zy (α:=xk) 3 rfl 2 rfl qj
    have hn_row:=H.Qm 0 rfl
    obtain ⟨il1,il2,il3⟩:=inTo_len ol2 c k1
    have pl:=pch_len p (list[i]!) mode
    have rl:=putAll_len row0
    refine zcc (sps [.int .i64 c,.slice ra35a (((xf p (list[i]!) mode).2).length) rc35a] (oN rfl (sp (.bool (decide ((c:Int) < (((xf p (list[i]!) mode).2).length)))) (zjn (cD rfl (fun h50=>?_) (fun h50=>?_))))))
    ·skip
     refine qZ (t_n (xQ (xm (xQ ?_))))
     obtain ⟨b51,rfl⟩:=H.yF 3 rfl qg
     obtain ⟨b52,rfl⟩:=H.yF 1 rfl qg
     refine c_cut (fun ρ w60=>∃ (zq:Env) (b53:Nat) (ra54:yOA) (rc55:Nat) (ra56:yOA) (rc57:Nat) (rx58:List Value) (rF59:yLN),ρ=upd (upd (upd (upd (upd (upd (upd (upd (upd (upd zq 0 (.pointer (some ⟨b1,0,none⟩))) 2 (.int .i64 mode)) 9 (.slice (some ⟨b51,0,none⟩) xN zt)) 10 (.slice ve zU zZ)) 11 (.int .i64 i)) 12 (.slice (some ⟨b52,0,none⟩) (((xf p (list[i]!) mode).2).length) rc35a)) 14 (.slice a_row n_row c_row)) 15 (.int .i64 c)) 16 (.pointer (some ⟨b53,0,none⟩))) 17 (.int .i64 ((xh p (list_1[i]!) (((xf p (list[i]!) mode).2)[c]!)).2))∧Fresh w.heap.size [rF59,rF35a,jE,zY]∧St w w60 [.box b53 [.slice ra54 ((((xh p (list_1[i]!) (((xf p (list[i]!) mode).2)[c]!)).1).qF).length) rc55,.slice ra56 ((((xh p (list_1[i]!) (((xf p (list[i]!) mode).2)[c]!)).1).qG).length) rc57] 39,rr ra54 ((((xh p (list_1[i]!) (((xf p (list[i]!) mode).2)[c]!)).1).qF).length) rc55 22 1 rx58,rr ra56 ((((xh p (list_1[i]!) (((xf p (list[i]!) mode).2)[c]!)).1).qG).length) rc57 2 1 ((((xh p (list_1[i]!) (((xf p (list[i]!) mode).2)[c]!)).1).qG).map (Value.int .i64)),rr a_row n_row c_row 2 1 ((yc row0).map (Value.int .i64)),rr (some ⟨b52,0,none⟩) (((xf p (list[i]!) mode).2).length) rc35a 22 1 rx35a,rr ve zU zZ 22 1 yO,rr (some ⟨b51,0,none⟩) xN zt 39 2 jo,.box b3 [.slice asCells s.qF.length csCells,.slice qV s.qG.length qU] 39,.box b1 [.int .i64 p.qJ,.slice qI p.qC.length qH,.slice apFree p.qL.length cpFree,.slice qR p.qB.length qN] 37] [zi true rF59 rx58 (((xh p (list_1[i]!) (((xf p (list[i]!) mode).2)[c]!)).1).qF),zi true rF35a rx35a ((xf p (list[i]!) mode).2),zi true jE yO next,zi true zY jo list_1,sF false xe qI qH p.qC,sF false FpFree apFree cpFree p.qL,sF false xy qR qN p.qB,sF false FsCells asCells csCells s.qF,sF false xB qV qU s.qG]) ?_ ?_
     ·skip
      refine vz rfl H fun H=>rtp 0 (.pointer (some ⟨b1,0,none⟩)) H ?_
      refine rtp 1 (.slice (some ⟨b51,0,none⟩) xN zt) H ?_
      refine rtp 2 (.int .i64 i) H ?_
      obtain ⟨ae62Cells,ce62Cells,Fe62Cells,ae62Around,ce62Around,Fe62Around,hx63,H⟩:=H.rowel_StockD 3 rfl 2 rfl (iv:=i) i qg qg
      have S:=H.zn [0,1,2,3,4,5] [2,3,4,5,6,7,8,9]
      refine tI 3 rfl rfl rfl S ?_
      refine rtp 4 (.slice (some ⟨b52,0,none⟩) (((xf p (list[i]!) mode).2).length) rc35a) S ?_
      refine rtp 5 (.int .i64 c) S ?_
      refine tI 6 rfl rfl rfl S ?_
      refine yg [7,12] qi qo (r_op rfl ?_ (r_op rfl ?_ yh))
      ·skip
       obtain ⟨a64,c65,G66,s67,h68,H⟩:=H.yC 1 rfl 2 rfl (iv:=c) c qg qg
       refine xY (.slice a64 ((((xf p (list[i]!) mode).2)[c]!).length) c65) Tryz.isAgg22 rfl (h68) (⟨H.pick [0,1,2,3,4,5] [3,4,5,6,7,8,9,10],(yg [8,12] qi qo (r_op rfl ?_ (r_op rfl ?_ yh)))⟩)
       ·skip
        obtain ⟨qc,qf,ql⟩:=pch_mem (mode:=mode) p0 so (k:=c) qg
        have le:=inTo_pre c k1 i qg
        have so1:xI p (list_1[i]!):=by rw [le];exact so
        have qf1:Fits p (list_1[i]!) (((xf p (list[i]!) mode).2)[c]!):=by rw [le];exact qf
        have sz72:=H.base.size
        have lt73:=H.ltN (L:=[rF35a,jE,zY]) [3,4,5]
        refine oc (l06Step_ok _ p (list_1[i]!) (((xf p (list[i]!) mode).2)[c]!) (qO (H.cells 5 rfl) 0 4) (H.get 6 rfl).1 (H.get 7 rfl).1 (H.get 8 rfl).1 (qO (fun j v hj=>H.rowGet 3 rfl (hx63 j v hj)) 0 2) (H.get 1 rfl).1 (H.get 2 rfl).1 (H.get 0 rfl).1 (by exact p0) (by first | exact p1 | assumption) qm qm) ?_
        rintro _ w70 ⟨ra69aCells,rn69aCells,rc69aCells,rx69aCells,rF69aCells,ra69aAround,rn69aAround,rc69aAround,rfl,M,K⟩ _
        replace N:=N.merge sz72 lt73 M
        replace H:=H.merge K M
        obtain rfl:=H.zy (α:=yLI) 0 rfl 0 rfl qj
        obtain rfl:=H.Qm 1 rfl
        refine ⟨H.pick [2,3,4,5,6,7] [4,5,6,7,8,9,10,11],?_⟩
        have S:=H.zn [2,3,4,5,6,7] [4,5,6,7,8,9,10,11]
        refine rtp 9 (.tuple #[.agg #[.slice ra69aCells ((((xh p (list_1[i]!) (((xf p (list[i]!) mode).2)[c]!)).1).qF).length) rc69aCells,.slice ra69aAround ((((xh p (list_1[i]!) (((xf p (list[i]!) mode).2)[c]!)).1).qG).length) rc69aAround],.int .i64 ((xh p (list_1[i]!) (((xf p (list[i]!) mode).2)[c]!)).2)]) S ?_
        refine rtp 10 (.agg #[.slice ra69aCells ((((xh p (list_1[i]!) (((xf p (list[i]!) mode).2)[c]!)).1).qF).length) rc69aCells,.slice ra69aAround ((((xh p (list_1[i]!) (((xf p (list[i]!) mode).2)[c]!)).1).qG).length) rc69aAround]) S ?_
        refine rtp 11 (.int .i64 ((xh p (list_1[i]!) (((xf p (list[i]!) mode).2)[c]!)).2)) S ?_
        refine ro 12 rfl (jq H ti39 [.slice none 0 0,.slice none 0 0] fun b76 w77 H=>⟨H.pick [3,4,5,6,7,8] [4,5,6,7,8,9,10,11],(ro 13 rfl (jD H 0 [.slice ra69aCells ((((xh p (list_1[i]!) (((xf p (list[i]!) mode).2)[c]!)).1).qF).length) rc69aCells,.slice ra69aAround ((((xh p (list_1[i]!) (((xf p (list[i]!) mode).2)[c]!)).1).qG).length) rc69aAround] Tryz.sizeOf39 fun w78 H=>⟨H.pick [3,4,5,6,7,8] [4,5,6,7,8,9,10,11],(rtp 14 (.int .i64 ((xh p (list_1[i]!) (((xf p (list[i]!) mode).2)[c]!)).2)) (H.pick [3,4,5,6,7,8] [4,5,6,7,8,9,10,11]) ?_)⟩))⟩)
        refine xG qi ((meet ⟨_,b76,ra69aCells,rc69aCells,ra69aAround,rc69aAround,rx69aCells,rF69aCells,uE10,N,H.pick [0,1,2,3,4,5,6,7,8] [0,4,5,6,7,8,9,10,11]⟩))
       ·skip
        refine jq H ti39 [.slice none 0 0,.slice none 0 0] fun b79 w80 H=>⟨H.pick [1,2,3,4,5,6] [3,4,5,6,7,8,9,10],(ro 8 rfl ?_)⟩
        obtain ⟨qc,qf,ql⟩:=pch_mem (mode:=mode) p0 so (k:=c) qg
        have le:=inTo_pre c k1 i qg
        have so1:xI p (list_1[i]!):=by rw [le];exact so
        have qf1:Fits p (list_1[i]!) (((xf p (list[i]!) mode).2)[c]!):=by rw [le];exact qf
        have sz84:=H.base.size
        have lt85:=H.ltN (L:=[rF35a,jE,zY]) [3,4,5]
        refine oc (l06Step_ok _ p (list_1[i]!) (((xf p (list[i]!) mode).2)[c]!) (qO (H.cells 6 rfl) 0 4) (H.get 6 rfl).1 (H.get 7 rfl).1 (H.get 8 rfl).1 (qO (fun j v hj=>H.rowGet 4 rfl (hx63 j v hj)) 0 2) (H.get 1 rfl).1 (H.get 2 rfl).1 (H.get 0 rfl).1 (by exact p0) (by first | exact p1 | assumption) qm qm) ?_
        rintro _ w82 ⟨ra81aCells,rn81aCells,rc81aCells,rx81aCells,rF81aCells,ra81aAround,rn81aAround,rc81aAround,rfl,M,K⟩ _
        replace N:=N.merge sz84 lt85 M
        replace H:=H.merge K M
        obtain rfl:=H.zy (α:=yLI) 0 rfl 0 rfl qj
        obtain rfl:=H.Qm 1 rfl
        refine ⟨H.pick [3,4,5,6,7,8] [4,5,6,7,8,9,10,11],?_⟩
        have S:=H.zn [3,4,5,6,7,8] [4,5,6,7,8,9,10,11]
        refine rtp 9 (.tuple #[.agg #[.slice ra81aCells ((((xh p (list_1[i]!) (((xf p (list[i]!) mode).2)[c]!)).1).qF).length) rc81aCells,.slice ra81aAround ((((xh p (list_1[i]!) (((xf p (list[i]!) mode).2)[c]!)).1).qG).length) rc81aAround],.int .i64 ((xh p (list_1[i]!) (((xf p (list[i]!) mode).2)[c]!)).2)]) S ?_
        refine rtp 10 (.agg #[.slice ra81aCells ((((xh p (list_1[i]!) (((xf p (list[i]!) mode).2)[c]!)).1).qF).length) rc81aCells,.slice ra81aAround ((((xh p (list_1[i]!) (((xf p (list[i]!) mode).2)[c]!)).1).qG).length) rc81aAround]) S ?_
        refine rtp 11 (.int .i64 ((xh p (list_1[i]!) (((xf p (list[i]!) mode).2)[c]!)).2)) S ?_
        refine ro 13 rfl (jD H 2 [.slice ra81aCells ((((xh p (list_1[i]!) (((xf p (list[i]!) mode).2)[c]!)).1).qF).length) rc81aCells,.slice ra81aAround ((((xh p (list_1[i]!) (((xf p (list[i]!) mode).2)[c]!)).1).qG).length) rc81aAround] Tryz.sizeOf39 fun w88 H=>⟨H.pick [3,4,5,6,7,8] [4,5,6,7,8,9,10,11],(rtp 14 (.int .i64 ((xh p (list_1[i]!) (((xf p (list[i]!) mode).2)[c]!)).2)) (H.pick [3,4,5,6,7,8] [4,5,6,7,8,9,10,11]) ?_)⟩)
        refine xG qi ((meet ⟨_,b79,ra81aCells,rc81aCells,ra81aAround,rc81aAround,rx81aCells,rF81aCells,uE10,N,H.pick [2,0,1,3,4,5,6,7,8] [0,4,5,6,7,8,9,10,11]⟩))
      ·skip
       refine jq H ti39 [.slice none 0 0,.slice none 0 0] fun b89 w90 H=>⟨H.pick [1,2,3,4,5,6] [2,3,4,5,6,7,8,9],(ro 7 rfl ?_)⟩
       obtain ⟨a91,c92,G93,s94,h95,H⟩:=H.yC 2 rfl 2 rfl (iv:=c) c qg qg
       refine xY (.slice a91 ((((xf p (list[i]!) mode).2)[c]!).length) c92) Tryz.isAgg22 rfl (h95) (⟨H.pick [1,2,3,4,5,6] [3,4,5,6,7,8,9,10],(ro 8 rfl ?_)⟩)
       obtain ⟨qc,qf,ql⟩:=pch_mem (mode:=mode) p0 so (k:=c) qg
       have le:=inTo_pre c k1 i qg
       have so1:xI p (list_1[i]!):=by rw [le];exact so
       have qf1:Fits p (list_1[i]!) (((xf p (list[i]!) mode).2)[c]!):=by rw [le];exact qf
       have sz99:=H.base.size
       have lt100:=H.ltN (L:=[rF35a,jE,zY]) [3,4,5]
       refine oc (l06Step_ok _ p (list_1[i]!) (((xf p (list[i]!) mode).2)[c]!) (qO (H.cells 6 rfl) 0 4) (H.get 6 rfl).1 (H.get 7 rfl).1 (H.get 8 rfl).1 (qO (fun j v hj=>H.rowGet 4 rfl (hx63 j v hj)) 0 2) (H.get 1 rfl).1 (H.get 2 rfl).1 (H.get 0 rfl).1 (by exact p0) (by first | exact p1 | assumption) qm qm) ?_
       rintro _ w97 ⟨ra96aCells,rn96aCells,rc96aCells,rx96aCells,rF96aCells,ra96aAround,rn96aAround,rc96aAround,rfl,M,K⟩ _
       replace N:=N.merge sz99 lt100 M
       replace H:=H.merge K M
       obtain rfl:=H.zy (α:=yLI) 0 rfl 0 rfl qj
       obtain rfl:=H.Qm 1 rfl
       refine ⟨H.pick [3,4,5,6,7,8] [4,5,6,7,8,9,10,11],?_⟩
       have S:=H.zn [3,4,5,6,7,8] [4,5,6,7,8,9,10,11]
       refine rtp 9 (.tuple #[.agg #[.slice ra96aCells ((((xh p (list_1[i]!) (((xf p (list[i]!) mode).2)[c]!)).1).qF).length) rc96aCells,.slice ra96aAround ((((xh p (list_1[i]!) (((xf p (list[i]!) mode).2)[c]!)).1).qG).length) rc96aAround],.int .i64 ((xh p (list_1[i]!) (((xf p (list[i]!) mode).2)[c]!)).2)]) S ?_
       refine rtp 10 (.agg #[.slice ra96aCells ((((xh p (list_1[i]!) (((xf p (list[i]!) mode).2)[c]!)).1).qF).length) rc96aCells,.slice ra96aAround ((((xh p (list_1[i]!) (((xf p (list[i]!) mode).2)[c]!)).1).qG).length) rc96aAround]) S ?_
       refine rtp 11 (.int .i64 ((xh p (list_1[i]!) (((xf p (list[i]!) mode).2)[c]!)).2)) S ?_
       refine ro 13 rfl (jD H 2 [.slice ra96aCells ((((xh p (list_1[i]!) (((xf p (list[i]!) mode).2)[c]!)).1).qF).length) rc96aCells,.slice ra96aAround ((((xh p (list_1[i]!) (((xf p (list[i]!) mode).2)[c]!)).1).qG).length) rc96aAround] Tryz.sizeOf39 fun w103 H=>⟨H.pick [3,4,5,6,7,8] [4,5,6,7,8,9,10,11],(rtp 14 (.int .i64 ((xh p (list_1[i]!) (((xf p (list[i]!) mode).2)[c]!)).2)) (H.pick [3,4,5,6,7,8] [4,5,6,7,8,9,10,11]) ?_)⟩)
       refine xG qi ((meet ⟨_,b89,ra96aCells,rc96aCells,ra96aAround,rc96aAround,rx96aCells,rF96aCells,uE10,N,H.pick [2,0,1,3,4,5,6,7,8] [0,4,5,6,7,8,9,10,11]⟩))
     ·skip
      clear H N
      rintro ρ w104 ⟨zq,b53,ra54,rc55,ra56,rc57,rx58,rF59,rfl,N,H⟩
      refine t_n (zcc (sps [.int .i64 ((xh p (list_1[i]!) (((xf p (list[i]!) mode).2)[c]!)).2),.bool (((xh p (list_1[i]!) (((xf p (list[i]!) mode).2)[c]!)).2:Int) != 0)] (zjn (xH (((xh p (list_1[i]!) (((xf p (list[i]!) mode).2)[c]!)).2:Int) != 0) rfl (fun h105=>?_) (fun h105=>?_)))))
      ·skip
       replace h105:=bne_iff_ne.1 h105
       have le:=inTo_pre c k1 i qg
       have hb:=(pstep_bad h105).1
       rw [le] at hb
       refine zcr (sps [.slice (some ⟨b51,0,none⟩) xN zt,.slice ve zU zZ,.slice (some ⟨b51,0,none⟩) xN zt,.slice ve zU zZ,.bool false] (zjr (t_r (zr5 (zr5 (ret3 (.slice (some ⟨b51,0,none⟩) xN zt) (.slice ve zU zZ) (.bool false) rfl rfl rfl rfl ⟨_,rfl,?_⟩))))))
       replace H:=H.erases [4,3,2,1,0]
       dsimp only [yZ,List.eraseIdx] at H
       refine sps [.tuple #[.slice (some ⟨b51,0,none⟩) xN zt,.slice ve zU zZ,.bool false],.slice (some ⟨b51,0,none⟩) xN zt,.slice ve zU zZ,.bool false,.slice (some ⟨b51,0,none⟩) xN zt,.slice ve zU zZ,.bool false] (zjcc (sps [.bool false,.bool true] (zjn (xH true rfl (fun _=>zcr (sw (jK H Tryz.underlying32 ti39 fun b106 w107 H=>sw (jK H Tryz.underlying27 ti22 fun b108 w109 H=>sps [.slice (some ⟨b106,0,none⟩) 0 0,.slice (some ⟨b108,0,none⟩) 0 0,.int .i64 3] (zjr (t_r ?_)))))) (fun h=>absurd h qj)))))
       replace H:=H.boxRow 1 rfl 2 0 rfl qj
       replace H:=H.vT (α:=xk)
       replace H:St _ _ [.box b108 [] 22,rr (some ⟨b106,0,none⟩) 0 0 39 2 [],rr ve zU zZ 22 1 yO,rr (some ⟨b51,0,none⟩) xN zt 39 2 jo,.box b3 [.slice asCells s.qF.length csCells,.slice qV s.qG.length qU] 39,.box b1 [.int .i64 p.qJ,.slice qI p.qC.length qH,.slice apFree p.qL.length cpFree,.slice qR p.qB.length qN] 37] [zi true [] [] ([]:List xk),zi true rF59 rx58 (((xh p (list_1[i]!) (((xf p (list[i]!) mode).2)[c]!)).1).qF),zi true rF35a rx35a ((xf p (list[i]!) mode).2),zi true jE yO next,zi true zY jo list_1,sF false xe qI qH p.qC,sF false FpFree apFree cpFree p.qL,sF false xy qR qN p.qB,sF false FsCells asCells csCells s.qF,sF false xB qV qU s.qG]:=H
       replace H:=H.boxRow 0 rfl 1 0 rfl qj
       replace H:=H.vT (α:=yLI)
       refine ret3 (.slice (some ⟨b106,0,none⟩) 0 0) (.slice (some ⟨b108,0,none⟩) 0 0) (.int .i64 3) rfl rfl rfl rfl ⟨_,rfl,?_,H.base⟩
       first | rw [pg_no qm (yA (outTo_much j1 qg qm) qg)] | rw [pg_no qm (yA (outTo_in j1 qg (k:=c+1) qg (inTo_bad k1 hb)) qg)] | rw [pg_no qm (yA (outTo_in j1 qg (k:=c+1) qg (inTo_many k1 hs (by unfold findS;omega) qg)) qg)]
       exact ⟨(some ⟨b106,0,none⟩),0,0,[],[],(some ⟨b108,0,none⟩),0,0,[],[],rfl,(N.emp.emp.pick [0,1]),H.pick [1,0] [0,0]⟩
      ·skip
       replace h105:=xA h105
       have le:=inTo_pre c k1 i qg
       obtain ⟨hs,he⟩:=pstep_is h105
       rw [le] at hs
       have he2:(xh p (list_1[i]!) (((xf p (list[i]!) mode).2)[c]!)).1=(vF p (list[i]!) (((xf p (list[i]!) mode).2)[c]!)):=he.trans (by rw [le])
       rw [he2] at H
       refine qZ (t_n (zcr (sp (.slice (some ⟨b51,0,none⟩) xN zt) ?_)))
       obtain ⟨G110,hn111,h112⟩:=H.rowIsR (α:=xk) 6 rfl 3 rfl qj
       obtain ⟨G113,hn114,h115⟩:=H.rowIsR (α:=yLI) 1 rfl 0 rfl qj
       obtain ⟨G116,hn117,h118⟩:=H.rowIsI 2 rfl
       refine sw (oq (Qz (by rw [← hn111]) (l06Find_ok _ list_1 (vF p (list[i]!) (((xf p (list[i]!) mode).2)[c]!)) (hn111▸h112) (qO (H.cells 0 rfl) 0 2) h115 h118)) H fun w120 H=>sp (.int .i64 (firstIdx (fun zz=>decide (list_1[zz]! =(vF p (list[i]!) (((xf p (list[i]!) mode).2)[c]!)))) list_1.length)) (zjcc (sps [.int .i64 (firstIdx (fun zz=>decide (list_1[zz]! =(vF p (list[i]!) (((xf p (list[i]!) mode).2)[c]!)))) list_1.length),.bool (decide ((firstIdx (fun zz=>decide (list_1[zz]! =(vF p (list[i]!) (((xf p (list[i]!) mode).2)[c]!)))) list_1.length:Int) < 0))] (zjn ?_))))
       refine cD rfl (fun h122=>?_) (fun h122=>?_)
       ·skip
        refine zcc (sp (.slice (some ⟨b51,0,none⟩) xN zt) (oN rfl (sp (.bool (decide ((xN:Int)≥200))) (zjn (cD rfl (fun h123=>?_) (fun h123=>?_))))))
        ·skip
         refine zcr (sps [.slice (some ⟨b51,0,none⟩) xN zt,.slice ve zU zZ,.slice (some ⟨b51,0,none⟩) xN zt,.slice ve zU zZ,.bool false] (zjr (t_r (t_r (zr5 (zr5 (ret3 (.slice (some ⟨b51,0,none⟩) xN zt) (.slice ve zU zZ) (.bool false) rfl rfl rfl rfl ⟨_,rfl,?_⟩)))))))
         replace H:=H.erases [4,3,2,1,0]
         dsimp only [yZ,List.eraseIdx] at H
         refine sps [.tuple #[.slice (some ⟨b51,0,none⟩) xN zt,.slice ve zU zZ,.bool false],.slice (some ⟨b51,0,none⟩) xN zt,.slice ve zU zZ,.bool false,.slice (some ⟨b51,0,none⟩) xN zt,.slice ve zU zZ,.bool false] (zjcc (sps [.bool false,.bool true] (zjn (xH true rfl (fun _=>zcr (sw (jK H Tryz.underlying32 ti39 fun b124 w125 H=>sw (jK H Tryz.underlying27 ti22 fun b126 w127 H=>sps [.slice (some ⟨b124,0,none⟩) 0 0,.slice (some ⟨b126,0,none⟩) 0 0,.int .i64 3] (zjr (t_r ?_)))))) (fun h=>absurd h qj)))))
         replace H:=H.boxRow 1 rfl 2 0 rfl qj
         replace H:=H.vT (α:=xk)
         replace H:St _ _ [.box b126 [] 22,rr (some ⟨b124,0,none⟩) 0 0 39 2 [],rr ve zU zZ 22 1 yO,rr (some ⟨b51,0,none⟩) xN zt 39 2 jo,.box b3 [.slice asCells s.qF.length csCells,.slice qV s.qG.length qU] 39,.box b1 [.int .i64 p.qJ,.slice qI p.qC.length qH,.slice apFree p.qL.length cpFree,.slice qR p.qB.length qN] 37] [zi true [] [] ([]:List xk),zi true rF59 rx58 ((vF p (list[i]!) (((xf p (list[i]!) mode).2)[c]!)).qF),zi true rF35a rx35a ((xf p (list[i]!) mode).2),zi true jE yO next,zi true zY jo list_1,sF false xe qI qH p.qC,sF false FpFree apFree cpFree p.qL,sF false xy qR qN p.qB,sF false FsCells asCells csCells s.qF,sF false xB qV qU s.qG]:=H
         replace H:=H.boxRow 0 rfl 1 0 rfl qj
         replace H:=H.vT (α:=yLI)
         refine ret3 (.slice (some ⟨b124,0,none⟩) 0 0) (.slice (some ⟨b126,0,none⟩) 0 0) (.int .i64 3) rfl rfl rfl rfl ⟨_,rfl,?_,H.base⟩
         first | rw [pg_no qm (yA (outTo_much j1 qg qm) qg)] | rw [pg_no qm (yA (outTo_in j1 qg (k:=c+1) qg (inTo_bad k1 hb)) qg)] | rw [pg_no qm (yA (outTo_in j1 qg (k:=c+1) qg (inTo_many k1 hs (by unfold findS;omega) qg)) qg)]
         exact ⟨(some ⟨b124,0,none⟩),0,0,[],[],(some ⟨b126,0,none⟩),0,0,[],[],rfl,(N.emp.emp.pick [0,1]),H.pick [1,0] [0,0]⟩
        ·skip
         refine qZ (t_n (zcr (sp (.slice (some ⟨b51,0,none⟩) xN zt) (oN rfl (sp (.int .i64 xN) (zjn (xM (sp (.slice (some ⟨b51,0,none⟩) xN zt) (sw (zk [.slice ra54 (((vF p (list[i]!) (((xf p (list[i]!) mode).2)[c]!)).qF).length) rc55,.slice ra56 (((vF p (list[i]!) (((xf p (list[i]!) mode).2)[c]!)).qG).length) rc57] Tryz.isAgg39 Tryz.sizeOf39 rfl (qO (H.cells 0 rfl) 0 2) ?_))))))))))
         refine sw (zu H Tryz.underlying32 ti39 [.slice ra54 (((vF p (list[i]!) (((xf p (list[i]!) mode).2)[c]!)).qF).length) rc55,.slice ra56 (((vF p (list[i]!) (((xf p (list[i]!) mode).2)[c]!)).qG).length) rc57] fun b128 w129 H=>?_)
         have H0:=H
         obtain ⟨G133,hg135,hn134,H⟩:=H.freezeR (α:=yLI) 2 rfl 0 rfl qj
         replace N:Fresh w.heap.size [G133,rF35a,jE,zY]:=Fresh.ice N H0 2 hg135.1 hg135.2 (H0.yz [1,2,3])
         clear H0
         obtain ⟨G136,N,hn137,H⟩:=H.vw 3 rfl N (H.yz [0,2,3,4])
         refine sw (zB H 7 rfl 0 rfl Tryz.underlying32 ti39 rfl qj rfl rfl rfl qx qw qg fun a130 c131 w132 H=>?_)
         replace H:=H.snoc_StockD 5 rfl 1 rfl 0 rfl
         replace N:Fresh w.heap.size [(zY++(G133++G136)),rF35a,jE]:=(N.pick [1,0,4,2,3]).join.swap.join
         refine sp (.slice a130 (xN+1) c131) (zjn (xM (sps [.slice a_row n_row c_row,.int .i64 xN] ?_)))
         obtain ⟨G138,hn139,h140⟩:=H.rowIsI 4 rfl
         have sz144:=H.base.size
         refine sw (oc (Qz (by rw [← hn139]) (l00Put_ok _ (yc row0) xN (hn139▸h140) qh)) ?_)
         rintro _ w142 ⟨ra141,rn141,rc141,rfl,M,K⟩ _
         replace H:=H.merge K M
         obtain rfl:=H.Qm 0 rfl
         refine sp (.slice ra141 ((putL xN (yc row0)).length) rc141) (xP (b_n (t_n (xM (sp (.int .i64 c) (sw (xX c 1 rfl rfl qg (sp (.int .i64 (c+1)) (xP ?_)))))))))
         refine xg (m' :=((((xf p (list[i]!) mode).2).length) - ((c+1):Int)).toNat) qg ⟨_,a130,xN+1,c131,(list_1++[⟨(vF p (list[i]!) (((xf p (list[i]!) mode).2)[c]!)).qF,(vF p (list[i]!) (((xf p (list[i]!) mode).2)[c]!)).qG⟩]),jo++[.slice ra54 (((vF p (list[i]!) (((xf p (list[i]!) mode).2)[c]!)).qF).length) rc55,.slice ra56 (((vF p (list[i]!) (((xf p (list[i]!) mode).2)[c]!)).qG).length) rc57],(zY++(G133++G136)),ra141,(putL xN (yc row0)).length,rc141,putL xN (yc row0),c+1,(row0++[(xN:Int)]),uE8,?_,?_,?_,rfl,(N.pick [1,2,0]),H.pick [0,6,7,8,9,10] [4,5,0,7,8,9,10,11]⟩
         · exact (putAll_snoc _ _).symm
         · omega
         · first | exact inTo_old k1 hs (by unfold findS;omega) | (rw [hn_list];exact inTo_new k1 hs (by unfold findS;omega) qg)
       ·skip
        refine qZ (t_n (xM (sps [.slice a_row n_row c_row,.int .i64 (firstIdx (fun zz=>decide (list_1[zz]! =(vF p (list[i]!) (((xf p (list[i]!) mode).2)[c]!)))) list_1.length)] ?_)))
        obtain ⟨G147,hn148,h149⟩:=H.rowIsI 3 rfl
        have sz153:=H.base.size
        refine sw (oc (Qz (by rw [← hn148]) (l00Put_ok _ (yc row0) (firstIdx (fun zz=>decide (list_1[zz]! =(vF p (list[i]!) (((xf p (list[i]!) mode).2)[c]!)))) list_1.length) (hn148▸h149) qh)) ?_)
        rintro _ w151 ⟨ra150,rn150,rc150,rfl,M,K⟩ _
        replace H:=H.merge K M
        obtain rfl:=H.Qm 0 rfl
        refine sp (.slice ra150 ((putL (firstIdx (fun zz=>decide (list_1[zz]! =(vF p (list[i]!) (((xf p (list[i]!) mode).2)[c]!)))) list_1.length) (yc row0)).length) rc150) (xP (b_n (t_n (xM (sp (.int .i64 c) (sw (xX c 1 rfl rfl qg (sp (.int .i64 (c+1)) (xP ?_)))))))))
        refine xg (m' :=((((xf p (list[i]!) mode).2).length) - ((c+1):Int)).toNat) qg ⟨_,(some ⟨b51,0,none⟩),xN,zt,list_1,jo,zY,ra150,(putL (firstIdx (fun zz=>decide (list_1[zz]! =(vF p (list[i]!) (((xf p (list[i]!) mode).2)[c]!)))) list_1.length) (yc row0)).length,rc150,putL (firstIdx (fun zz=>decide (list_1[zz]! =(vF p (list[i]!) (((xf p (list[i]!) mode).2)[c]!)))) list_1.length) (yc row0),c+1,(row0++[(firstIdx (fun zz=>decide (list_1[zz]! =(vF p (list[i]!) (((xf p (list[i]!) mode).2)[c]!)))) list_1.length:Int)]),uE8,?_,?_,?_,rfl,(N.pick [1,2,3]),H.pick [0,5,6,7,8,9] [1,2,3,4,5,6,7,8]⟩
        · exact (putAll_snoc _ _).symm
        · omega
        · first | exact inTo_old k1 hs (by unfold findS;omega) | (rw [hn_list];exact inTo_new k1 hs (by unfold findS;omega) qg)
    ·skip
     refine zx4 (xM (sps [.slice ve zU zZ,.slice a_row n_row c_row] (sw (zu H Tryz.underlying27 ti22 [.slice a_row n_row c_row] fun b156 w157 H=>?_))))
     obtain ⟨G161,N,hn162,H⟩:=H.vw 1 rfl N (H.yz [0,1,2])
     refine sw (zB H 3 rfl 0 rfl Tryz.underlying27 ti22 rfl qj rfl rfl rfl qx qw qg fun a158 c159 w160 H=>?_)
     replace H:=H.jf 2 rfl 0 rfl
     replace N:Fresh w.heap.size [(jE++G161),rF35a,zY]:=(N.pick [2,0,1,3]).join
     refine sp (.slice a158 (zU+1) c159) (xP (b_n (t_n (xM (sp (.int .i64 i) (sw (xX i 1 rfl rfl qg (sp (.int .i64 (i+1)) (xP (xg (m' :=(200 - ((i+1):Int)).toNat) qg ⟨_,a_list_1,xN,zt,list_1,jo,zY,a158,zU+1,c159,(next++[(yc row0)]),yO++[.slice a_row n_row c_row],(jE++G161),i+1,uE5,?_,?_,rfl,(N.pick [2,0]),H.pick [3,4,5,6] [0,4,5,6,7,8,9]⟩))))))))))
     · exact outTo_next j1 qg qm ((show c=(xf p (list[i]!) mode).2.length by omega)▸k1)
     · omega
  ·skip
   refine zx4 (zcr (sps [.slice Qb jG jM,.slice ve zU zZ,.slice Qb jG jM,.slice ve zU zZ,.bool true] (zjr (ret3 (.slice Qb jG jM) (.slice ve zU zZ) (.bool true) rfl rfl rfl rfl ⟨_,rfl,(sps [.tuple #[.slice Qb jG jM,.slice ve zU zZ,.bool true],.slice Qb jG jM,.slice ve zU zZ,.bool true,.slice Qb jG jM,.slice ve zU zZ,.bool true] (zjcc (sps [.bool true,.bool false] (zjn (xH false rfl (fun h=>absurd h qj) (fun _=>?_))))))⟩))))
   refine qZ (t_n (zcr (sps [.slice Qb jG jM,.slice ve zU zZ,.slice Qb jG jM,.slice ve zU zZ,.int .i64 0] (zjr (ret3 (.slice Qb jG jM) (.slice ve zU zZ) (.int .i64 0) rfl rfl rfl rfl ⟨_,rfl,?_,H.base⟩)))))
   rw [pg_ok qm (graph_end j1 qg qg)]
   exact ⟨Qb,jG,jM,x_list,F_list,ve,zU,zZ,yO,jE,rfl,N,H.pick [1,0] [1,0]⟩
def sortLI_ren:Go.Shelf.Ren:=⟨fun | 53=>77 | 64=>100 | 63=>99 | 78=>125 | 79=>126 | 70=>116 | 71=>117 | 72=>118 | 73=>119 | 74=>120 | 75=>121 | 59=>122 | 76=>123 | 77=>124 | 88=>131 | 89=>132 | 90=>133 | 91=>134 | 92=>135 | 68=>136 | 96=>137 | n=>n,fun | 22=>22 | 23=>2 | 3=>3 | 51=>126 | 0=>0 | 67=>148 | 69=>150 | 4=>4 | 61=>140 | 60=>139 | 44=>145 | 5=>5 | 9=>9 | 75=>155 | 79=>159 | 83=>161 | 84=>162 | n=>n,fun | n=>n⟩
theorem sortLI:Go.Proofs.SlLaysN.n53 Tryz.prog sortLI_ren:={
  mixed:=by kernel_rfl
  f53:=⟨Tryz.f77.name,by decide,Tryz.func77.trans (congrArg some (by kernel_rfl))⟩
  f59:=⟨Tryz.f122.name,by decide,Tryz.func122.trans (congrArg some (by kernel_rfl))⟩
  f63:=⟨Tryz.f99.name,by decide,Tryz.func99.trans (congrArg some (by kernel_rfl))⟩
  f64:=Tryz.func100.trans (congrArg some (by kernel_rfl))
  f68:=⟨Tryz.f136.name,by decide,Tryz.func136.trans (congrArg some (by kernel_rfl))⟩
  f70:=⟨Tryz.f116.name,by decide,Tryz.func116.trans (congrArg some (by kernel_rfl))⟩
  f71:=⟨Tryz.f117.name,by decide,Tryz.func117.trans (congrArg some (by kernel_rfl))⟩
  f72:=⟨Tryz.f118.name,by decide,Tryz.func118.trans (congrArg some (by kernel_rfl))⟩
  f73:=⟨Tryz.f119.name,by decide,Tryz.func119.trans (congrArg some (by kernel_rfl))⟩
  f74:=⟨Tryz.f120.name,by decide,Tryz.func120.trans (congrArg some (by kernel_rfl))⟩
  f75:=⟨Tryz.f121.name,by decide,Tryz.func121.trans (congrArg some (by kernel_rfl))⟩
  f76:=⟨Tryz.f123.name,by decide,Tryz.func123.trans (congrArg some (by kernel_rfl))⟩
  f77:=⟨Tryz.f124.name,by decide,Tryz.func124.trans (congrArg some (by kernel_rfl))⟩
  f78:=Tryz.func125.trans (congrArg some (by kernel_rfl))
  f79:=Tryz.func126.trans (congrArg some (by kernel_rfl))
  f88:=⟨Tryz.f131.name,by decide,Tryz.func131.trans (congrArg some (by kernel_rfl))⟩
  f89:=Tryz.func132.trans (congrArg some (by kernel_rfl))
  f90:=Tryz.func133.trans (congrArg some (by kernel_rfl))
  f91:=⟨Tryz.f134.name,by decide,Tryz.func134.trans (congrArg some (by kernel_rfl))⟩
  f92:=⟨Tryz.f135.name,by decide,Tryz.func135.trans (congrArg some (by kernel_rfl))⟩
  f96:=⟨Tryz.f137.name,by decide,Tryz.func137.trans (congrArg some (by kernel_rfl))⟩
  t0:=Tryz.underlying0
  a0:=Tryz.isAgg0
  z0:=Tryz.sizeOf0
  v0:=Tryz.zeroValue0
  t3:=Tryz.underlying3
  a3:=Tryz.isAgg3
  z3:=Tryz.sizeOf3
  v3:=Tryz.zeroValue3
  t4:=Tryz.underlying4
  a4:=Tryz.isAgg4
  z4:=Tryz.sizeOf4
  v4:=Tryz.zeroValue4
  t5:=Tryz.underlying5
  a5:=Tryz.isAgg5
  z5:=Tryz.sizeOf5
  v5:=Tryz.zeroValue5
  t9:=Tryz.underlying9
  a9:=Tryz.isAgg9
  z9:=Tryz.sizeOf9
  v9:=Tryz.zeroValue9
  t22:=Tryz.underlying22
  a22:=Tryz.isAgg22
  z22:=Tryz.sizeOf22
  v22:=Tryz.zeroValue22
  t23:=Tryz.underlying2
  a23:=Tryz.isAgg2
  z23:=Tryz.sizeOf2
  v23:=Tryz.zeroValue2
  t44:=Tryz.underlying145
  a44:=Tryz.isAgg145
  z44:=Tryz.sizeOf145
  v44:=Tryz.zeroValue145
  t51:=Tryz.underlying126
  a51:=Tryz.isAgg126
  z51:=Tryz.sizeOf126
  v51:=Tryz.zeroValue126
  t60:=Tryz.underlying139
  a60:=Tryz.isAgg139
  z60:=Tryz.sizeOf139
  v60:=Tryz.zeroValue139
  t61:=Tryz.underlying140
  a61:=Tryz.isAgg140
  z61:=Tryz.sizeOf140
  v61:=Tryz.zeroValue140
  t67:=Tryz.underlying148
  a67:=Tryz.isAgg148
  z67:=Tryz.sizeOf148
  v67:=Tryz.zeroValue148
  t69:=Tryz.underlying150
  a69:=Tryz.isAgg150
  z69:=Tryz.sizeOf150
  v69:=Tryz.zeroValue150
  t75:=Tryz.underlying155
  a75:=Tryz.isAgg155
  z75:=Tryz.sizeOf155
  v75:=Tryz.zeroValue155
  t79:=Tryz.underlying159
  a79:=Tryz.isAgg159
  z79:=Tryz.sizeOf159
  v79:=Tryz.zeroValue159
  t83:=Tryz.underlying161
  a83:=Tryz.isAgg161
  z83:=Tryz.sizeOf161
  v83:=Tryz.zeroValue161
  t84:=Tryz.underlying162
  a84:=Tryz.isAgg162
  z84:=Tryz.sizeOf162
  v84:=Tryz.zeroValue162 }
def compLI_ren:Go.Shelf.Ren:=⟨fun | 43=>78 | n=>n,fun | 22=>22 | 23=>2 | 3=>3 | 4=>4 | 0=>0 | n=>n,fun | n=>n⟩
theorem compLI:Go.Proofs.SlLaysN.n43 Tryz.prog compLI_ren:={
  mixed:=by kernel_rfl
  f43:=⟨Tryz.f78.name,by decide,Tryz.func78.trans (congrArg some (by kernel_rfl))⟩
  t0:=Tryz.underlying0
  a0:=Tryz.isAgg0
  z0:=Tryz.sizeOf0
  v0:=Tryz.zeroValue0
  t3:=Tryz.underlying3
  a3:=Tryz.isAgg3
  z3:=Tryz.sizeOf3
  v3:=Tryz.zeroValue3
  t4:=Tryz.underlying4
  a4:=Tryz.isAgg4
  z4:=Tryz.sizeOf4
  v4:=Tryz.zeroValue4
  t22:=Tryz.underlying22
  a22:=Tryz.isAgg22
  z22:=Tryz.sizeOf22
  v22:=Tryz.zeroValue22
  t23:=Tryz.underlying2
  a23:=Tryz.isAgg2
  z23:=Tryz.sizeOf2
  v23:=Tryz.zeroValue2
  i23:=by kernel_rfl }

theorem implGraph_ok (w:World) (p:qW) (s:xk) (mode:Int) {qI:yOA} {xe:yLN} {apFree:yOA} {FpFree:yLN} {qR:yOA} {xy:yLN} {asCells:yOA} {FsCells:yLN} {qV:yOA} {xB:yLN} (qY:qQ.rep w xe [.slice qI p.qC.length qH] p.qC) (hpFree:qQ.rep w FpFree [.slice apFree p.qL.length cpFree] p.qL) (xx:qQ.rep w xy [.slice qR p.qB.length qN] p.qB) (hsCells:qQ.rep w FsCells [.slice asCells s.qF.length csCells] s.qF) (xC:qQ.rep w xB [.slice qV s.qG.length qU] s.qG):Calls Tryz.prog 11 #[.agg #[.int .i64 p.qJ,.slice qI p.qC.length qH,.slice apFree p.qL.length cpFree,.slice qR p.qB.length qN],.agg #[.slice asCells s.qF.length csCells,.slice qV s.qG.length qU],.int .i64 mode] w (Ret (fun v w' =>∃ (ra0:yOA) (rn0:Nat) (rc0:Nat) (rx0:List Value) (rF0:yLN) (ra1:yOA) (rn1:Nat) (rc1:Nat) (rx1:List Value) (rF1:yLN),v=.tuple #[.slice ra0 rn0 rc0,.slice ra1 rn1 rc1,.int .i64 ((xq p s mode).2.2)]∧Fresh w.heap.size [rF0,rF1]∧St w w' [rr ra0 rn0 rc0 39 2 rx0,rr ra1 rn1 rc1 22 1 rx1] [zi true rF0 rx0 ((xq p s mode).1),zi true rF1 rx1 ((xq p s mode).2.1)]) w):=by
 refine en Tryz.func11 Tryz.ntmps11 ?_
 have H:=(((((St.start w).arg xC).arg hsCells).arg xx).arg hpFree).arg qY
 have zJ:=qM qY
 have nhpFree:=qM hpFree
 have vN:=qM xx
 have nhsCells:=qM hsCells
 have jr:=qM xC
 clear qY hpFree xx hsCells xC
 have N:=Fresh.nil w.heap.size
 refine zcr (sw (jC H [.int .i64 p.qJ,.slice qI p.qC.length qH,.slice apFree p.qL.length cpFree,.slice qR p.qB.length qN] fun b1 w2 H=>sw (jC H [.slice asCells s.qF.length csCells,.slice qV s.qG.length qU] fun b3 w4 H=>sps [.slice none 0 0,.slice none 0 0,.int .i64 0] (zjcc (sw (zk [.int .i64 p.qJ,.slice qI p.qC.length qH,.slice apFree p.qL.length cpFree,.slice qR p.qB.length qN] Tryz.isAgg37 Tryz.sizeOf37 rfl (qO (H.cells 1 rfl) 0 4) ?_))))))
 refine sw (zk [.slice asCells s.qF.length csCells,.slice qV s.qG.length qU] Tryz.isAgg39 Tryz.sizeOf39 rfl (qO (H.cells 0 rfl) 0 2) (sp (.int .i64 mode) (sw (oq (modeOf_ok _ p s mode (H.get 0 rfl).1 (H.get 1 rfl).1 (H.get 2 rfl).1 (H.get 3 rfl).1 (H.get 4 rfl).1) H fun w6 H=>sp (.int .i64 (Qy p s mode)) (zjc (sps [.int .i64 (Qy p s mode),.bool ((Qy p s mode:Int) != 0)] (zjn (xH ((Qy p s mode:Int) != 0) rfl (fun h8=>?_) (fun h8=>?_)))))))))
 ·skip
  replace h8:=bne_iff_ne.1 h8
  refine zcr (sps [.int .i64 (Qy p s mode),.slice none 0 0,.slice none 0 0,.int .i64 (Qy p s mode)] (zjr (t_r ?_)))
  replace H:=H.nilRow 39 2
  replace H:=H.vT (α:=xk)
  replace H:=H.nilRow 22 1
  replace H:=H.vT (α:=yLI)
  refine ret3 (.slice none 0 0) (.slice none 0 0) (.int .i64 (Qy p s mode)) rfl rfl rfl rfl ⟨_,rfl,?_,H.base⟩
  rw [pg_code qm]
  exact ⟨none,0,0,[],[],none,0,0,[],[],rfl,N.emp.emp,H.pick [1,0] [0,0]⟩
 ·skip
  replace h8:=xA h8
  obtain ⟨p0,p1,p2⟩:=mcode_ok h8
  have k0:=h8
  refine qZ (t_n (xQ ?_))
  have z0:Cnts1 p (List.replicate p.qB.length (0:Int)):=⟨by simp,fun i hi=>by rw [zeros_get];omega⟩
  have z1:=p0.1.2.2.2.1
  refine c_cut (fun ρ w17=>∃ (zq:Env) (b9:Nat) (ra10:yOA) (rc11:Nat) (ra12:yOA) (rc13:Nat) (rx14:List Value) (b15:Nat) (rF16:yLN),ρ=upd (upd (upd zq 2 (.int .i64 mode)) 3 (.pointer (some ⟨b1,0,none⟩))) 10 (.pointer (some ⟨b9,0,none⟩))∧Fresh w.heap.size [rF16]∧St w w17 [.box b9 [.slice ra10 ((((xh p s (List.replicate p.qB.length (0:Int))).1).qF).length) rc11,.slice ra12 ((((xh p s (List.replicate p.qB.length (0:Int))).1).qG).length) rc13] 39,rr ra10 ((((xh p s (List.replicate p.qB.length (0:Int))).1).qF).length) rc11 22 1 rx14,rr ra12 ((((xh p s (List.replicate p.qB.length (0:Int))).1).qG).length) rc13 2 1 ((((xh p s (List.replicate p.qB.length (0:Int))).1).qG).map (Value.int .i64)),rr (some ⟨b15,0,none⟩) p.qB.length p.qB.length 2 1 ((List.replicate p.qB.length (0:Int)).map (Value.int .i64)),.box b3 [.slice asCells s.qF.length csCells,.slice qV s.qG.length qU] 39,.box b1 [.int .i64 p.qJ,.slice qI p.qC.length qH,.slice apFree p.qL.length cpFree,.slice qR p.qB.length qN] 37] [zi true rF16 rx14 (((xh p s (List.replicate p.qB.length (0:Int))).1).qF),sF false xe qI qH p.qC,sF false FpFree apFree cpFree p.qL,sF false xy qR qN p.qB,sF false FsCells asCells csCells s.qF,sF false xB qV qU s.qG]) ?_ ?_
  ·skip
   refine vz rfl H fun H=>rt 0 (.agg #[.int .i64 p.qJ,.slice qI p.qC.length qH,.slice apFree p.qL.length cpFree,.slice qR p.qB.length qN]) (yV (cs:=[.int .i64 p.qJ,.slice qI p.qC.length qH,.slice apFree p.qL.length cpFree,.slice qR p.qB.length qN]) Tryz.isAgg37 Tryz.sizeOf37 rfl (fun _ h=>qO (h.cells 1 rfl) 0 4)) H ?_
   refine rt 1 (.agg #[.slice asCells s.qF.length csCells,.slice qV s.qG.length qU]) (yV (cs:=[.slice asCells s.qF.length csCells,.slice qV s.qG.length qU]) Tryz.isAgg39 Tryz.sizeOf39 rfl (fun _ h=>qO (h.cells 0 rfl) 0 2)) H ?_
   refine tF 2 rfl rfl H ?_
   refine tL 3 rfl rfl (fun _ h=>h.cell 1 rfl rfl) H ?_
   refine tN 4 rfl rfl H ?_
   refine yg [5,10] qi qo (r_op rfl ?_ (r_op rfl ?_ yh))
   ·skip
    refine o_makeI H Tryz.underlying22 ti2 p.qB.length rfl rfl qg qg qg fun b19 w20 H=>⟨H.pick [1,2] [0,1,2,3,4],(yg [6,10] qi qo (r_op rfl ?_ (r_op rfl ?_ yh)))⟩
    ·skip
     obtain ⟨G21,hn22,h23⟩:=H.rowIsI 0 rfl
     have sz27:=H.base.size
     refine oc (Qz (by rw [← hn22]) (step_ok _ p s (List.replicate p.qB.length (0:Int)) (H.get 0 rfl).1 (H.get 1 rfl).1 (H.get 2 rfl).1 (H.get 3 rfl).1 (H.get 4 rfl).1 (rep_at hn22 h23) (by exact p0) (by first | exact p1 | assumption) qm)) ?_
     rintro _ w25 ⟨ra24aCells,rn24aCells,rc24aCells,rx24aCells,rF24aCells,ra24aAround,rn24aAround,rc24aAround,rfl,M,K⟩ _
     replace N:=N.merge sz27 qo M
     replace H:=H.merge K M
     obtain rfl:=H.zy (α:=yLI) 0 rfl 0 rfl qj
     obtain rfl:=H.Qm 1 rfl
     refine ⟨H.pick [3,4] [1,2,3,4,5],?_⟩
     have S:=H.zn [3,4] [1,2,3,4,5]
     refine rtp 7 (.tuple #[.agg #[.slice ra24aCells ((((xh p s (List.replicate p.qB.length (0:Int))).1).qF).length) rc24aCells,.slice ra24aAround ((((xh p s (List.replicate p.qB.length (0:Int))).1).qG).length) rc24aAround],.int .i64 ((xh p s (List.replicate p.qB.length (0:Int))).2)]) S ?_
     refine rtp 8 (.agg #[.slice ra24aCells ((((xh p s (List.replicate p.qB.length (0:Int))).1).qF).length) rc24aCells,.slice ra24aAround ((((xh p s (List.replicate p.qB.length (0:Int))).1).qG).length) rc24aAround]) S ?_
     refine rtp 9 (.int .i64 ((xh p s (List.replicate p.qB.length (0:Int))).2)) S ?_
     refine ro 10 rfl (jq H ti39 [.slice none 0 0,.slice none 0 0] fun b31 w32 H=>⟨H.pick [4,5] [1,2,3,4,5],(ro 11 rfl (jD H 0 [.slice ra24aCells ((((xh p s (List.replicate p.qB.length (0:Int))).1).qF).length) rc24aCells,.slice ra24aAround ((((xh p s (List.replicate p.qB.length (0:Int))).1).qG).length) rc24aAround] Tryz.sizeOf39 fun w33 H=>⟨H.pick [4,5] [1,2,3,4,5],(rtp 12 (.int .i64 ((xh p s (List.replicate p.qB.length (0:Int))).2)) (H.pick [4,5] [1,2,3,4,5]) ?_)⟩))⟩)
     refine xG qi ((meet ⟨_,b31,ra24aCells,rc24aCells,ra24aAround,rc24aAround,rx24aCells,b19,rF24aCells,uE3,N,H⟩))
    ·skip
     refine jq H ti39 [.slice none 0 0,.slice none 0 0] fun b34 w35 H=>⟨H.pick [2,3] [0,1,2,3,4],(ro 6 rfl ?_)⟩
     obtain ⟨G36,hn37,h38⟩:=H.rowIsI 1 rfl
     have sz42:=H.base.size
     refine oc (Qz (by rw [← hn37]) (step_ok _ p s (List.replicate p.qB.length (0:Int)) (H.get 0 rfl).1 (H.get 1 rfl).1 (H.get 2 rfl).1 (H.get 3 rfl).1 (H.get 4 rfl).1 (rep_at hn37 h38) (by exact p0) (by first | exact p1 | assumption) qm)) ?_
     rintro _ w40 ⟨ra39aCells,rn39aCells,rc39aCells,rx39aCells,rF39aCells,ra39aAround,rn39aAround,rc39aAround,rfl,M,K⟩ _
     replace N:=N.merge sz42 qo M
     replace H:=H.merge K M
     obtain rfl:=H.zy (α:=yLI) 0 rfl 0 rfl qj
     obtain rfl:=H.Qm 1 rfl
     refine ⟨H.pick [4,5] [1,2,3,4,5],?_⟩
     have S:=H.zn [4,5] [1,2,3,4,5]
     refine rtp 7 (.tuple #[.agg #[.slice ra39aCells ((((xh p s (List.replicate p.qB.length (0:Int))).1).qF).length) rc39aCells,.slice ra39aAround ((((xh p s (List.replicate p.qB.length (0:Int))).1).qG).length) rc39aAround],.int .i64 ((xh p s (List.replicate p.qB.length (0:Int))).2)]) S ?_
     refine rtp 8 (.agg #[.slice ra39aCells ((((xh p s (List.replicate p.qB.length (0:Int))).1).qF).length) rc39aCells,.slice ra39aAround ((((xh p s (List.replicate p.qB.length (0:Int))).1).qG).length) rc39aAround]) S ?_
     refine rtp 9 (.int .i64 ((xh p s (List.replicate p.qB.length (0:Int))).2)) S ?_
     refine ro 11 rfl (jD H 2 [.slice ra39aCells ((((xh p s (List.replicate p.qB.length (0:Int))).1).qF).length) rc39aCells,.slice ra39aAround ((((xh p s (List.replicate p.qB.length (0:Int))).1).qG).length) rc39aAround] Tryz.sizeOf39 fun w46 H=>⟨H.pick [4,5] [1,2,3,4,5],(rtp 12 (.int .i64 ((xh p s (List.replicate p.qB.length (0:Int))).2)) (H.pick [4,5] [1,2,3,4,5]) ?_)⟩)
     refine xG qi ((meet ⟨_,b34,ra39aCells,rc39aCells,ra39aAround,rc39aAround,rx39aCells,b19,rF39aCells,uE3,N,H.pick [2,0,1,3,4,5] [0,1,2,3,4,5]⟩))
   ·skip
    refine jq H ti39 [.slice none 0 0,.slice none 0 0] fun b47 w48 H=>⟨H.pick [1,2] [0,1,2,3,4],(ro 5 rfl (o_makeI H Tryz.underlying22 ti2 p.qB.length rfl rfl qg qg qg fun b49 w50 H=>⟨H.pick [2,3] [0,1,2,3,4],(ro 6 rfl ?_)⟩))⟩
    obtain ⟨G51,hn52,h53⟩:=H.rowIsI 0 rfl
    have sz57:=H.base.size
    refine oc (Qz (by rw [← hn52]) (step_ok _ p s (List.replicate p.qB.length (0:Int)) (H.get 0 rfl).1 (H.get 1 rfl).1 (H.get 2 rfl).1 (H.get 3 rfl).1 (H.get 4 rfl).1 (rep_at hn52 h53) (by exact p0) (by first | exact p1 | assumption) qm)) ?_
    rintro _ w55 ⟨ra54aCells,rn54aCells,rc54aCells,rx54aCells,rF54aCells,ra54aAround,rn54aAround,rc54aAround,rfl,M,K⟩ _
    replace N:=N.merge sz57 qo M
    replace H:=H.merge K M
    obtain rfl:=H.zy (α:=yLI) 0 rfl 0 rfl qj
    obtain rfl:=H.Qm 1 rfl
    refine ⟨H.pick [4,5] [1,2,3,4,5],?_⟩
    have S:=H.zn [4,5] [1,2,3,4,5]
    refine rtp 7 (.tuple #[.agg #[.slice ra54aCells ((((xh p s (List.replicate p.qB.length (0:Int))).1).qF).length) rc54aCells,.slice ra54aAround ((((xh p s (List.replicate p.qB.length (0:Int))).1).qG).length) rc54aAround],.int .i64 ((xh p s (List.replicate p.qB.length (0:Int))).2)]) S ?_
    refine rtp 8 (.agg #[.slice ra54aCells ((((xh p s (List.replicate p.qB.length (0:Int))).1).qF).length) rc54aCells,.slice ra54aAround ((((xh p s (List.replicate p.qB.length (0:Int))).1).qG).length) rc54aAround]) S ?_
    refine rtp 9 (.int .i64 ((xh p s (List.replicate p.qB.length (0:Int))).2)) S ?_
    refine ro 11 rfl (jD H 3 [.slice ra54aCells ((((xh p s (List.replicate p.qB.length (0:Int))).1).qF).length) rc54aCells,.slice ra54aAround ((((xh p s (List.replicate p.qB.length (0:Int))).1).qG).length) rc54aAround] Tryz.sizeOf39 fun w61 H=>⟨H.pick [4,5] [1,2,3,4,5],(rtp 12 (.int .i64 ((xh p s (List.replicate p.qB.length (0:Int))).2)) (H.pick [4,5] [1,2,3,4,5]) ?_)⟩)
    refine xG qi ((meet ⟨_,b47,ra54aCells,rc54aCells,ra54aAround,rc54aAround,rx54aCells,b49,rF54aCells,uE3,N,H.pick [3,0,1,2,4,5] [0,1,2,3,4,5]⟩))
  ·skip
   clear H N
   rintro ρ w62 ⟨zq,b9,ra10,rc11,ra12,rc13,rx14,b15,rF16,rfl,N,H⟩
   refine t_n (xQ ?_)
   have e0:(xh p s (List.replicate p.qB.length (0:Int))).1=s:=by rw [pstep_none p0 p1]
   rw [e0] at H
   refine xM (sw (zk [.slice ra10 ((s.qF).length) rc11,.slice ra12 ((s.qG).length) rc13] Tryz.isAgg39 Tryz.sizeOf39 rfl (qO (H.cells 0 rfl) 0 2) (sw (zu H Tryz.underlying32 ti39 [.slice ra10 ((s.qF).length) rc11,.slice ra12 ((s.qG).length) rc13] fun b63 w64 H=>sw (jK H Tryz.underlying27 ti22 fun b65 w66 H=>sps [.slice (some ⟨b63,0,none⟩) 1 1,.slice (some ⟨b65,0,none⟩) 0 0] (zjcc (sp (.int .i64 0) (zjn (xm ?_)))))))))
   replace H:=H.boxRow 1 rfl 2 1 rfl qj
   replace H:=H.vT (α:=xk)
   have H0:=H
   obtain ⟨G67,hg69,hn68,H⟩:=H.freezeR (α:=yLI) 3 rfl 1 rfl qj
   replace N:Fresh w.heap.size [G67]:=Fresh.ice N H0 3 hg69.1 hg69.2 (H0.yz [])
   clear H0
   obtain ⟨G70,N,hn71,H⟩:=H.vw 4 rfl N (H.yz [0])
   replace H:=H.snoc_StockD 2 rfl 1 rfl 0 rfl
   replace N:Fresh w.heap.size [([]++(G67++G70))]:=(N.emp.pick [2,1,0]).join.swap.join
   replace H:St _ _ [.box b65 [] 22,rr (some ⟨b63,0,none⟩) 1 1 39 2 [.slice ra10 ((s.qF).length) rc11,.slice ra12 ((s.qG).length) rc13],.box b9 [.slice ra10 ((s.qF).length) rc11,.slice ra12 ((s.qG).length) rc13] 39,rr none 0 0 0 1 [],rr none 0 0 0 1 [],rr (some ⟨b15,0,none⟩) p.qB.length p.qB.length 2 1 ((List.replicate p.qB.length (0:Int)).map (Value.int .i64)),.box b3 [.slice asCells s.qF.length csCells,.slice qV s.qG.length qU] 39,.box b1 [.int .i64 p.qJ,.slice qI p.qC.length qH,.slice apFree p.qL.length cpFree,.slice qR p.qB.length qN] 37] [zi true ([]++(G67++G70)) [.slice ra10 ((s.qF).length) rc11,.slice ra12 ((s.qG).length) rc13] [s],sF true G70 ra12 rc13 s.qG,sF true G67 ra10 rc11 s.qF,zi true [] [] ([]:List xk),zi true rF16 rx14 s.qF,sF false xe qI qH p.qC,sF false FpFree apFree cpFree p.qL,sF false xy qR qN p.qB,sF false FsCells asCells csCells s.qF,sF false xB qV qU s.qG]:=H
   replace H:=H.boxRow 0 rfl 1 0 rfl qj
   replace H:=H.vT (α:=yLI)
   refine zG (fun m' ρ w72=>∃ (zq:Env) (Qb:yOA) (jG:Nat) (jM:Nat) (list:List xk) (x_list:List Value) (F_list:yLN) (ve:yOA) (zU:Nat) (zZ:Nat) (next:yLL) (yO:List Value) (jE:yLN) (i:Nat),ρ=upd (upd (upd (upd (upd zq 2 (.int .i64 mode)) 3 (.pointer (some ⟨b1,0,none⟩))) 12 (.slice Qb jG jM)) 13 (.slice ve zU zZ)) 14 (.int .i64 i)∧(yQ p s mode i=some (list,next))∧(i≤list.length)∧m' =200 - i∧Fresh w.heap.size [F_list,jE]∧St w w72 [rr ve zU zZ 22 1 yO,rr Qb jG jM 39 2 x_list,.box b9 [.slice ra10 ((s.qF).length) rc11,.slice ra12 ((s.qG).length) rc13] 39,rr (some ⟨b15,0,none⟩) p.qB.length p.qB.length 2 1 ((List.replicate p.qB.length (0:Int)).map (Value.int .i64)),.box b3 [.slice asCells s.qF.length csCells,.slice qV s.qG.length qU] 39,.box b1 [.int .i64 p.qJ,.slice qI p.qC.length qH,.slice apFree p.qL.length cpFree,.slice qR p.qB.length qN] 37] [zi true jE yO next,zi true F_list x_list list,sF true G70 ra12 rc13 s.qG,sF true G67 ra10 rc11 s.qF,sF false xe qI qH p.qC,sF false FpFree apFree cpFree p.qL,sF false xy qR qN p.qB,sF false FsCells asCells csCells s.qF,sF false xB qV qU s.qG]) (200 - 0) ⟨_,(some ⟨b63,0,none⟩),1,1,[s],[.slice ra10 ((s.qF).length) rc11,.slice ra12 ((s.qG).length) rc13],([]++(G67++G70)),(some ⟨b65,0,none⟩),0,0,([]:yLL),[],[],0,uE5,(by rfl),(by exact Nat.zero_le _),rfl,(N.emp.pick [1,0]),H.pick [0,1,2,5,6,7] [0,1,2,3,6,7,8,9,10]⟩ ?_
   clear H N
   rintro m' ρ w73 ⟨zq,Qb,jG,jM,list,x_list,F_list,ve,zU,zZ,next,yO,jE,i,rfl,j1,j0,rfl,N,H⟩
   have hn_list:=H.zy (α:=xk) 1 rfl 1 rfl qj
   have hn_next:=H.zy (α:=yLI) 0 rfl 0 rfl qj
   have oo:=outTo_ok p1 i j1
   obtain ⟨ol1,ol2,ol3⟩:=outTo_len i j1
   have ol4:=ol3 j0
   refine zcc (sps [.int .i64 i,.slice Qb jG jM] (oN rfl (sp (.bool (decide ((i:Int) < jG))) (zjn (cD rfl (fun h74=>?_) (fun h74=>?_))))))
   ·skip
    refine qZ (t_n (xQ (xm (xQ ?_))))
    refine vz rfl H fun H=>rt 0 (.agg #[.int .i64 p.qJ,.slice qI p.qC.length qH,.slice apFree p.qL.length cpFree,.slice qR p.qB.length qN]) (yV (cs:=[.int .i64 p.qJ,.slice qI p.qC.length qH,.slice apFree p.qL.length cpFree,.slice qR p.qB.length qN]) Tryz.isAgg37 Tryz.sizeOf37 rfl (fun _ h=>qO (h.cells 5 rfl) 0 4)) H ?_
    refine rtp 1 (.slice Qb jG jM) H ?_
    refine rtp 2 (.int .i64 i) H ?_
    obtain ⟨b76,rfl⟩:=H.yF 1 rfl qg
    obtain ⟨ae77Cells,ce77Cells,Fe77Cells,ae77Around,ce77Around,Fe77Around,hx78,H⟩:=H.rowel_StockD 1 rfl 1 rfl (iv:=i) i qg qg
    have S:=H.zn [0,1,2,3,4,5] [2,3,4,5,6,7,8,9,10]
    refine tI 3 rfl rfl rfl S ?_
    refine rt 4 (.agg #[.slice ae77Cells (((list[i]!).qF).length) ce77Cells,.slice ae77Around (((list[i]!).qG).length) ce77Around]) (yV (cs:=[.slice ae77Cells (((list[i]!).qF).length) ce77Cells,.slice ae77Around (((list[i]!).qG).length) ce77Around]) Tryz.isAgg39 Tryz.sizeOf39 rfl (fun _ h=>qO (fun j v hj=>h.rowGet 1 rfl (hx78 j v hj)) 0 2)) S ?_
    refine rtp 5 (.int .i64 mode) S ?_
    refine ro 6 rfl ?_
    have so:=oo i qg
    have sz82:=H.base.size
    have lt83:=H.ltN (L:=[F_list,jE]) [3,2]
    refine oc (choices_ok _ p (list[i]!) mode (H.get 6 rfl).1 (H.get 7 rfl).1 (H.get 8 rfl).1 (H.get 0 rfl).1 (H.get 1 rfl).1 (by exact p0) (by first | exact p1 | assumption)) ?_
    rintro _ w80 ⟨ra79a,rn79a,rc79a,rx79a,rF79a,rfl,M,K⟩ _
    replace N:=N.merge sz82 lt83 M
    replace H:=H.merge K M
    obtain rfl:=H.zy (α:=yLI) 0 rfl 0 rfl qj
    refine ⟨H.pick [1,2,3,4,5,6] [3,4,5,6,7,8,9,10,11],?_⟩
    have S:=H.zn [1,2,3,4,5,6] [3,4,5,6,7,8,9,10,11]
    refine rtp 7 (.tuple #[.slice ra79a (((zC p (list[i]!) mode).1).length) rc79a,.int .i64 ((zC p (list[i]!) mode).2)]) S ?_
    refine rtp 8 (.slice ra79a (((zC p (list[i]!) mode).1).length) rc79a) S ?_
    refine rtp 9 (.int .i64 ((zC p (list[i]!) mode).2)) S ?_
    refine rtp 10 (.slice ra79a (((zC p (list[i]!) mode).1).length) rc79a) S ?_
    refine rtp 11 (.int .i64 ((zC p (list[i]!) mode).2)) S ?_
    refine xG qi (t_n (zcc (sps [.int .i64 ((zC p (list[i]!) mode).2),.bool (((zC p (list[i]!) mode).2:Int) != 0)] (zjn (xH (((zC p (list[i]!) mode).2:Int) != 0) rfl (fun h85=>?_) (fun h85=>?_))))))
    ·skip
     replace h85:=bne_iff_ne.1 h85
     have hm:=ch_many h85
     refine zcr (sps [.int .i64 ((zC p (list[i]!) mode).2),.slice none 0 0,.slice none 0 0,.int .i64 ((zC p (list[i]!) mode).2)] (zjr (t_r (zr5 ?_))))
     replace H:=H.nilRow 39 2
     replace H:=H.vT (α:=xk)
     replace H:=H.nilRow 22 1
     replace H:=H.vT (α:=yLI)
     refine ret3 (.slice none 0 0) (.slice none 0 0) (.int .i64 ((zC p (list[i]!) mode).2)) rfl rfl rfl rfl ⟨_,rfl,?_,H.base⟩
     rw [pg_no k0 (yA (outTo_much j1 qg hm.2) qg),hm.1]
     exact ⟨none,0,0,[],[],none,0,0,[],[],rfl,(N.emp.emp.pick [0,1]),H.pick [1,0] [0,0]⟩
    ·skip
     replace h85:=xA h85
     have so:=oo i qg
     have hc:=h85
     have hcr:=(ch_ok hc).2
     have hcl:=chr_len hc
     refine qZ (t_n (zcr (sw (jK H Tryz.underlying22 ti2 fun b86 w87 H=>sp (.slice (some ⟨b86,0,none⟩) 0 0) (zjcc (sp (.slice ra79a (((zC p (list[i]!) mode).1).length) rc79a) (oN rfl (sp (.int .i64 0) (zjn (xm ?_))))))))))
     replace H:=H.boxRowI 0 [] 0
     refine zG (fun m' ρ w88=>∃ (zq:Env) (a_list_1:yOA) (xN:Nat) (zt:Nat) (list_1:List xk) (jo:List Value) (zY:yLN) (a_own:yOA) (n_own:Nat) (c_own:Nat) (own:yLI) (k:Nat),ρ=upd (upd (upd (upd (upd (upd (upd (upd (upd zq 2 (.int .i64 mode)) 3 (.pointer (some ⟨b1,0,none⟩))) 12 (.slice a_list_1 xN zt)) 13 (.slice ve zU zZ)) 14 (.int .i64 i)) 17 (.slice a_own n_own c_own)) 63 (.slice ra79a (((zC p (list[i]!) mode).1).length) rc79a)) 64 (.int .i64 (((zC p (list[i]!) mode).1).length))) 65 (.int .i64 k)∧((k:Int)≤(((zC p (list[i]!) mode).1).length))∧(inTo p (list[i]!) (zC p (list[i]!) mode).1 list k=some (list_1,own))∧m' =((((zC p (list[i]!) mode).1).length) - (k:Int)).toNat∧Fresh w.heap.size [rF79a,jE,zY]∧St w w88 [rr a_own n_own c_own 2 1 (own.map (Value.int .i64)),rr ra79a (((zC p (list[i]!) mode).1).length) rc79a 22 1 rx79a,rr ve zU zZ 22 1 yO,rr a_list_1 xN zt 39 2 jo,.box b9 [.slice ra10 ((s.qF).length) rc11,.slice ra12 ((s.qG).length) rc13] 39,rr (some ⟨b15,0,none⟩) p.qB.length p.qB.length 2 1 ((List.replicate p.qB.length (0:Int)).map (Value.int .i64)),.box b3 [.slice asCells s.qF.length csCells,.slice qV s.qG.length qU] 39,.box b1 [.int .i64 p.qJ,.slice qI p.qC.length qH,.slice apFree p.qL.length cpFree,.slice qR p.qB.length qN] 37] [zi true rF79a rx79a ((zC p (list[i]!) mode).1),zi true jE yO next,zi true zY jo list_1,sF true G70 ra12 rc13 s.qG,sF true G67 ra10 rc11 s.qF,sF false xe qI qH p.qC,sF false FpFree apFree cpFree p.qL,sF false xy qR qN p.qB,sF false FsCells asCells csCells s.qF,sF false xB qV qU s.qG]) (((((zC p (list[i]!) mode).1).length) - (0:Int)).toNat) ⟨_,(some ⟨b76,0,none⟩),jG,jM,list,x_list,F_list,(some ⟨b86,0,none⟩),0,0,([]:yLI),0,uE9,qg,(by rfl),rfl,(N.pick [0,2,1]),H.pick [0,1,2,3,4,5,6,7] [0,3,4,5,6,7,8,9,10,11]⟩ ?_
     clear H N
     rintro m' ρ w89 ⟨zq,a_list_1,xN,zt,list_1,jo,zY,a_own,n_own,c_own,own,k,rfl,i0,k1,rfl,N,H⟩
     have hn_list:=H.zy (α:=xk) 3 rfl 2 rfl qj
     have hn_own:=H.Qm 0 rfl
     obtain ⟨il1,il2,il3⟩:=inTo_len ol2 k k1
     refine zcr (sp (.bool (decide ((k:Int) < (((zC p (list[i]!) mode).1).length)))) (zjn (xQ (cD rfl (fun h90=>?_) (fun h90=>?_)))))
     ·skip
      refine qZ (t_n (xQ (xm (zcr ?_))))
      obtain ⟨b91,rfl⟩:=H.yF 1 rfl qg
      refine oI rfl rfl ?_
      obtain ⟨a92,c93,G94,s95,h96,H⟩:=H.yC 1 rfl 0 rfl (iv:=k) k qg qg
      refine oL rfl (h96) (sp (.slice a92 ((((zC p (list[i]!) mode).1)[k]!).length) c93) (zjn (xQ ?_)))
      obtain ⟨b97,rfl⟩:=H.yF 3 rfl qg
      refine c_cut (fun ρ w105=>∃ (zq:Env) (b98:Nat) (ra99:yOA) (rc100:Nat) (ra101:yOA) (rc102:Nat) (rx103:List Value) (rF104:yLN),ρ=upd (upd (upd (upd (upd (upd (upd (upd (upd (upd (upd zq 2 (.int .i64 mode)) 3 (.pointer (some ⟨b1,0,none⟩))) 12 (.slice (some ⟨b97,0,none⟩) xN zt)) 13 (.slice ve zU zZ)) 14 (.int .i64 i)) 17 (.slice a_own n_own c_own)) 20 (.pointer (some ⟨b98,0,none⟩))) 21 (.int .i64 ((xh p (list_1[i]!) (((zC p (list[i]!) mode).1)[k]!)).2))) 63 (.slice (some ⟨b91,0,none⟩) (((zC p (list[i]!) mode).1).length) rc79a)) 64 (.int .i64 (((zC p (list[i]!) mode).1).length))) 65 (.int .i64 k)∧Fresh w.heap.size [rF104,rF79a,jE,zY]∧St w w105 [.box b98 [.slice ra99 ((((xh p (list_1[i]!) (((zC p (list[i]!) mode).1)[k]!)).1).qF).length) rc100,.slice ra101 ((((xh p (list_1[i]!) (((zC p (list[i]!) mode).1)[k]!)).1).qG).length) rc102] 39,rr ra99 ((((xh p (list_1[i]!) (((zC p (list[i]!) mode).1)[k]!)).1).qF).length) rc100 22 1 rx103,rr ra101 ((((xh p (list_1[i]!) (((zC p (list[i]!) mode).1)[k]!)).1).qG).length) rc102 2 1 ((((xh p (list_1[i]!) (((zC p (list[i]!) mode).1)[k]!)).1).qG).map (Value.int .i64)),rr a_own n_own c_own 2 1 (own.map (Value.int .i64)),rr (some ⟨b91,0,none⟩) (((zC p (list[i]!) mode).1).length) rc79a 22 1 rx79a,rr ve zU zZ 22 1 yO,rr (some ⟨b97,0,none⟩) xN zt 39 2 jo,.box b9 [.slice ra10 ((s.qF).length) rc11,.slice ra12 ((s.qG).length) rc13] 39,rr (some ⟨b15,0,none⟩) p.qB.length p.qB.length 2 1 ((List.replicate p.qB.length (0:Int)).map (Value.int .i64)),.box b3 [.slice asCells s.qF.length csCells,.slice qV s.qG.length qU] 39,.box b1 [.int .i64 p.qJ,.slice qI p.qC.length qH,.slice apFree p.qL.length cpFree,.slice qR p.qB.length qN] 37] [zi true rF104 rx103 (((xh p (list_1[i]!) (((zC p (list[i]!) mode).1)[k]!)).1).qF),zi true rF79a rx79a ((zC p (list[i]!) mode).1),zi true jE yO next,zi true zY jo list_1,sF true G70 ra12 rc13 s.qG,sF true G67 ra10 rc11 s.qF,sF false xe qI qH p.qC,sF false FpFree apFree cpFree p.qL,sF false xy qR qN p.qB,sF false FsCells asCells csCells s.qF,sF false xB qV qU s.qG]) ?_ ?_
      ·skip
       refine vz rfl H fun H=>rt 0 (.agg #[.int .i64 p.qJ,.slice qI p.qC.length qH,.slice apFree p.qL.length cpFree,.slice qR p.qB.length qN]) (yV (cs:=[.int .i64 p.qJ,.slice qI p.qC.length qH,.slice apFree p.qL.length cpFree,.slice qR p.qB.length qN]) Tryz.isAgg37 Tryz.sizeOf37 rfl (fun _ h=>qO (h.cells 7 rfl) 0 4)) H ?_
       refine rtp 1 (.slice (some ⟨b97,0,none⟩) xN zt) H ?_
       refine rtp 2 (.int .i64 i) H ?_
       obtain ⟨ae107Cells,ce107Cells,Fe107Cells,ae107Around,ce107Around,Fe107Around,hx108,H⟩:=H.rowel_StockD 3 rfl 3 rfl (iv:=i) i qg qg
       have S:=H.zn [0,1,2,3,4,5,6,7] [2,3,4,5,6,7,8,9,10,11,12]
       refine tI 3 rfl rfl rfl S ?_
       refine rt 4 (.agg #[.slice ae107Cells (((list_1[i]!).qF).length) ce107Cells,.slice ae107Around (((list_1[i]!).qG).length) ce107Around]) (yV (cs:=[.slice ae107Cells (((list_1[i]!).qF).length) ce107Cells,.slice ae107Around (((list_1[i]!).qG).length) ce107Around]) Tryz.isAgg39 Tryz.sizeOf39 rfl (fun _ h=>qO (fun j v hj=>h.rowGet 3 rfl (hx108 j v hj)) 0 2)) S ?_
       refine rtp 5 (.slice a92 ((((zC p (list[i]!) mode).1)[k]!).length) c93) S ?_
       refine yg [6,10] qi qo (r_op rfl ?_ (r_op rfl ?_ yh))
       ·skip
        have qc:=chr_mem p0 so hc (k:=k) qg
        have le:=inTo_pre k k1 i qg
        have so1:xI p (list_1[i]!):=by rw [le];exact so
        have sz112:=H.base.size
        have lt113:=H.ltN (L:=[rF79a,jE,zY]) [3,4,5]
        refine oc (step_ok _ p (list_1[i]!) (((zC p (list[i]!) mode).1)[k]!) (H.get 8 rfl).1 (H.get 9 rfl).1 (H.get 10 rfl).1 (H.get 0 rfl).1 (H.get 1 rfl).1 (H.get 2 rfl).1 (by exact p0) (by first | exact p1 | assumption) qm) ?_
        rintro _ w110 ⟨ra109aCells,rn109aCells,rc109aCells,rx109aCells,rF109aCells,ra109aAround,rn109aAround,rc109aAround,rfl,M,K⟩ _
        replace N:=N.merge sz112 lt113 M
        replace H:=H.merge K M
        obtain rfl:=H.zy (α:=yLI) 0 rfl 0 rfl qj
        obtain rfl:=H.Qm 1 rfl
        refine ⟨H.pick [2,3,4,5,6,7,8,9] [3,4,5,6,7,8,9,10,11,12,13],?_⟩
        have S:=H.zn [2,3,4,5,6,7,8,9] [3,4,5,6,7,8,9,10,11,12,13]
        refine rtp 7 (.tuple #[.agg #[.slice ra109aCells ((((xh p (list_1[i]!) (((zC p (list[i]!) mode).1)[k]!)).1).qF).length) rc109aCells,.slice ra109aAround ((((xh p (list_1[i]!) (((zC p (list[i]!) mode).1)[k]!)).1).qG).length) rc109aAround],.int .i64 ((xh p (list_1[i]!) (((zC p (list[i]!) mode).1)[k]!)).2)]) S ?_
        refine rtp 8 (.agg #[.slice ra109aCells ((((xh p (list_1[i]!) (((zC p (list[i]!) mode).1)[k]!)).1).qF).length) rc109aCells,.slice ra109aAround ((((xh p (list_1[i]!) (((zC p (list[i]!) mode).1)[k]!)).1).qG).length) rc109aAround]) S ?_
        refine rtp 9 (.int .i64 ((xh p (list_1[i]!) (((zC p (list[i]!) mode).1)[k]!)).2)) S ?_
        refine ro 10 rfl (jq H ti39 [.slice none 0 0,.slice none 0 0] fun b116 w117 H=>⟨H.pick [3,4,5,6,7,8,9,10] [3,4,5,6,7,8,9,10,11,12,13],(ro 11 rfl (jD H 0 [.slice ra109aCells ((((xh p (list_1[i]!) (((zC p (list[i]!) mode).1)[k]!)).1).qF).length) rc109aCells,.slice ra109aAround ((((xh p (list_1[i]!) (((zC p (list[i]!) mode).1)[k]!)).1).qG).length) rc109aAround] Tryz.sizeOf39 fun w118 H=>⟨H.pick [3,4,5,6,7,8,9,10] [3,4,5,6,7,8,9,10,11,12,13],(rtp 12 (.int .i64 ((xh p (list_1[i]!) (((zC p (list[i]!) mode).1)[k]!)).2)) (H.pick [3,4,5,6,7,8,9,10] [3,4,5,6,7,8,9,10,11,12,13]) ?_)⟩))⟩)
        refine xG qi ((meet ⟨_,b116,ra109aCells,rc109aCells,ra109aAround,rc109aAround,rx109aCells,rF109aCells,uE11,N,H.pick [0,1,2,3,4,5,6,7,8,9,10] [0,4,5,6,7,8,9,10,11,12,13]⟩))
       ·skip
        refine jq H ti39 [.slice none 0 0,.slice none 0 0] fun b119 w120 H=>⟨H.pick [1,2,3,4,5,6,7,8] [2,3,4,5,6,7,8,9,10,11,12],(ro 6 rfl ?_)⟩
        have qc:=chr_mem p0 so hc (k:=k) qg
        have le:=inTo_pre k k1 i qg
        have so1:xI p (list_1[i]!):=by rw [le];exact so
        have sz124:=H.base.size
        have lt125:=H.ltN (L:=[rF79a,jE,zY]) [3,4,5]
        refine oc (step_ok _ p (list_1[i]!) (((zC p (list[i]!) mode).1)[k]!) (H.get 8 rfl).1 (H.get 9 rfl).1 (H.get 10 rfl).1 (H.get 0 rfl).1 (H.get 1 rfl).1 (H.get 2 rfl).1 (by exact p0) (by first | exact p1 | assumption) qm) ?_
        rintro _ w122 ⟨ra121aCells,rn121aCells,rc121aCells,rx121aCells,rF121aCells,ra121aAround,rn121aAround,rc121aAround,rfl,M,K⟩ _
        replace N:=N.merge sz124 lt125 M
        replace H:=H.merge K M
        obtain rfl:=H.zy (α:=yLI) 0 rfl 0 rfl qj
        obtain rfl:=H.Qm 1 rfl
        refine ⟨H.pick [3,4,5,6,7,8,9,10] [3,4,5,6,7,8,9,10,11,12,13],?_⟩
        have S:=H.zn [3,4,5,6,7,8,9,10] [3,4,5,6,7,8,9,10,11,12,13]
        refine rtp 7 (.tuple #[.agg #[.slice ra121aCells ((((xh p (list_1[i]!) (((zC p (list[i]!) mode).1)[k]!)).1).qF).length) rc121aCells,.slice ra121aAround ((((xh p (list_1[i]!) (((zC p (list[i]!) mode).1)[k]!)).1).qG).length) rc121aAround],.int .i64 ((xh p (list_1[i]!) (((zC p (list[i]!) mode).1)[k]!)).2)]) S ?_
        refine rtp 8 (.agg #[.slice ra121aCells ((((xh p (list_1[i]!) (((zC p (list[i]!) mode).1)[k]!)).1).qF).length) rc121aCells,.slice ra121aAround ((((xh p (list_1[i]!) (((zC p (list[i]!) mode).1)[k]!)).1).qG).length) rc121aAround]) S ?_
        refine rtp 9 (.int .i64 ((xh p (list_1[i]!) (((zC p (list[i]!) mode).1)[k]!)).2)) S ?_
        refine ro 11 rfl (jD H 2 [.slice ra121aCells ((((xh p (list_1[i]!) (((zC p (list[i]!) mode).1)[k]!)).1).qF).length) rc121aCells,.slice ra121aAround ((((xh p (list_1[i]!) (((zC p (list[i]!) mode).1)[k]!)).1).qG).length) rc121aAround] Tryz.sizeOf39 fun w128 H=>⟨H.pick [3,4,5,6,7,8,9,10] [3,4,5,6,7,8,9,10,11,12,13],(rtp 12 (.int .i64 ((xh p (list_1[i]!) (((zC p (list[i]!) mode).1)[k]!)).2)) (H.pick [3,4,5,6,7,8,9,10] [3,4,5,6,7,8,9,10,11,12,13]) ?_)⟩)
        refine xG qi ((meet ⟨_,b119,ra121aCells,rc121aCells,ra121aAround,rc121aAround,rx121aCells,rF121aCells,uE11,N,H.pick [2,0,1,3,4,5,6,7,8,9,10] [0,4,5,6,7,8,9,10,11,12,13]⟩))
      ·skip
       clear H N
       rintro ρ w129 ⟨zq,b98,ra99,rc100,ra101,rc102,rx103,rF104,rfl,N,H⟩
       refine t_n (zcc (sps [.int .i64 ((xh p (list_1[i]!) (((zC p (list[i]!) mode).1)[k]!)).2),.bool (((xh p (list_1[i]!) (((zC p (list[i]!) mode).1)[k]!)).2:Int) != 0)] (zjn (xH (((xh p (list_1[i]!) (((zC p (list[i]!) mode).1)[k]!)).2:Int) != 0) rfl (fun h130=>?_) (fun h130=>?_)))))
       ·skip
        replace h130:=bne_iff_ne.1 h130
        have le:=inTo_pre k k1 i qg
        have hb0:=pstep_bad h130
        have hb:=hb0.1
        rw [le] at hb
        refine zcr (sps [.int .i64 ((xh p (list_1[i]!) (((zC p (list[i]!) mode).1)[k]!)).2),.slice none 0 0,.slice none 0 0,.int .i64 ((xh p (list_1[i]!) (((zC p (list[i]!) mode).1)[k]!)).2)] (zjr (t_r (zr5 (zr5 ?_)))))
        replace H:=H.nilRow 39 2
        replace H:=H.vT (α:=xk)
        replace H:=H.nilRow 22 1
        replace H:=H.vT (α:=yLI)
        refine ret3 (.slice none 0 0) (.slice none 0 0) (.int .i64 ((xh p (list_1[i]!) (((zC p (list[i]!) mode).1)[k]!)).2)) rfl rfl rfl rfl ⟨_,rfl,?_,H.base⟩
        rw [pg_no k0 (yA (outTo_in j1 qg (k:=k+1) (by rw [← hcr];omega) (inTo_bad (hcr▸k1) (hcr▸hb))) qg),hb0.2]
        exact ⟨none,0,0,[],[],none,0,0,[],[],rfl,(N.emp.emp.pick [0,1]),H.pick [1,0] [0,0]⟩
       ·skip
        replace h130:=xA h130
        have le:=inTo_pre k k1 i qg
        obtain ⟨hs,he⟩:=pstep_is h130
        rw [le] at hs
        have he2:(xh p (list_1[i]!) (((zC p (list[i]!) mode).1)[k]!)).1=(vF p (list[i]!) (((zC p (list[i]!) mode).1)[k]!)):=he.trans (by rw [le])
        rw [he2] at H
        refine qZ (t_n (zcr (sps [.slice (some ⟨b97,0,none⟩) xN zt,.func (.func 43) #[] #[.pointer (some ⟨b98,0,none⟩)]] (sw (jH #[.slice (some ⟨b97,0,none⟩) xN zt,.func (.func 43) #[] #[.pointer (some ⟨b98,0,none⟩)]] rfl rfl Tryz.call42 (en Tryz.func42 Tryz.ntmps42 ?_))))))
        refine zcr (sp (.int .i64 0) (zjcc (sp (.slice (some ⟨b97,0,none⟩) xN zt) (oN rfl (sp (.int .i64 0) (zjn (xm ?_)))))))
        refine zG (fun m' ρ w131=>∃ (zq:Env) (i_1:Nat),ρ=upd (upd (upd (upd zq 0 (.slice (some ⟨b97,0,none⟩) xN zt)) 1 (.func (.func 43) #[] #[.pointer (some ⟨b98,0,none⟩)])) 7 (.int .i64 xN)) 8 (.int .i64 i_1)∧((i_1:Int)≤xN)∧(noneTo (fun zz=>decide (list_1[zz]! =(vF p (list[i]!) (((zC p (list[i]!) mode).1)[k]!)))) i_1)∧m' =(xN - (i_1:Int)).toNat∧Fresh w.heap.size [rF104,rF79a,jE,zY]∧St w w131 [.box b98 [.slice ra99 (((vF p (list[i]!) (((zC p (list[i]!) mode).1)[k]!)).qF).length) rc100,.slice ra101 (((vF p (list[i]!) (((zC p (list[i]!) mode).1)[k]!)).qG).length) rc102] 39,rr ra99 (((vF p (list[i]!) (((zC p (list[i]!) mode).1)[k]!)).qF).length) rc100 22 1 rx103,rr ra101 (((vF p (list[i]!) (((zC p (list[i]!) mode).1)[k]!)).qG).length) rc102 2 1 (((vF p (list[i]!) (((zC p (list[i]!) mode).1)[k]!)).qG).map (Value.int .i64)),rr a_own n_own c_own 2 1 (own.map (Value.int .i64)),rr (some ⟨b91,0,none⟩) (((zC p (list[i]!) mode).1).length) rc79a 22 1 rx79a,rr ve zU zZ 22 1 yO,rr (some ⟨b97,0,none⟩) xN zt 39 2 jo,.box b9 [.slice ra10 ((s.qF).length) rc11,.slice ra12 ((s.qG).length) rc13] 39,rr (some ⟨b15,0,none⟩) p.qB.length p.qB.length 2 1 ((List.replicate p.qB.length (0:Int)).map (Value.int .i64)),.box b3 [.slice asCells s.qF.length csCells,.slice qV s.qG.length qU] 39,.box b1 [.int .i64 p.qJ,.slice qI p.qC.length qH,.slice apFree p.qL.length cpFree,.slice qR p.qB.length qN] 37] [zi true rF104 rx103 ((vF p (list[i]!) (((zC p (list[i]!) mode).1)[k]!)).qF),zi true rF79a rx79a ((zC p (list[i]!) mode).1),zi true jE yO next,zi true zY jo list_1,sF true G70 ra12 rc13 s.qG,sF true G67 ra10 rc11 s.qF,sF false xe qI qH p.qC,sF false FpFree apFree cpFree p.qL,sF false xy qR qN p.qB,sF false FsCells asCells csCells s.qF,sF false xB qV qU s.qG]) ((xN - (0:Int)).toNat) ⟨_,0,uE4,qg,qy,rfl,N,H⟩ ?_
        clear H N
        rintro m' ρ w132 ⟨zq,i_1,rfl,i0,i1,rfl,N,H⟩
        refine zcr (sp (.bool (decide ((i_1:Int) < xN))) (zjn (xQ (cD rfl (fun h133=>?_) (fun h133=>?_)))))
        ·skip
         refine qZ (t_n (xQ (xm (zcr (sps [.int .i64 i_1,.int .i64 i_1] (zjc (sps [.func (.func 43) #[] #[.pointer (some ⟨b98,0,none⟩)],.slice (some ⟨b97,0,none⟩) xN zt,.int .i64 i_1] ?_)))))))
         obtain ⟨ae134Cells,ce134Cells,Fe134Cells,ae134Around,ce134Around,Fe134Around,hx135,H⟩:=H.rowel_StockD 6 rfl 3 rfl (iv:=i_1) i_1 qg qg
         refine oI rfl rfl (sw (zk [.slice ae134Cells (((list_1[i_1]!).qF).length) ce134Cells,.slice ae134Around (((list_1[i_1]!).qG).length) ce134Around] Tryz.isAgg39 Tryz.sizeOf39 rfl (qO (fun j v hj=>H.rowGet 6 rfl (hx135 j v hj)) 0 2) (sw (jH #[.agg #[.slice ae134Cells (((list_1[i_1]!).qF).length) ce134Cells,.slice ae134Around (((list_1[i_1]!).qG).length) ce134Around],.pointer (some ⟨b98,0,none⟩)] rfl rfl Tryz.call43 (en Tryz.func43 Tryz.ntmps43 ?_)))))
         refine zcr (sw (jC H [.slice ae134Cells (((list_1[i_1]!).qF).length) ce134Cells,.slice ae134Around (((list_1[i_1]!).qG).length) ce134Around] fun b136 w137 H=>sp (.bool false) (zjc (sw (zk [.slice ae134Cells (((list_1[i_1]!).qF).length) ce134Cells,.slice ae134Around (((list_1[i_1]!).qG).length) ce134Around] Tryz.isAgg39 Tryz.sizeOf39 rfl (qO (H.cells 0 rfl) 0 2) ?_)))))
         refine sw (zk [.slice ra99 (((vF p (list[i]!) (((zC p (list[i]!) mode).1)[k]!)).qF).length) rc100,.slice ra101 (((vF p (list[i]!) (((zC p (list[i]!) mode).1)[k]!)).qG).length) rc102] Tryz.isAgg39 Tryz.sizeOf39 rfl (qO (H.cells 1 rfl) 0 2) ?_)
         obtain ⟨G138,hn139,h140⟩:=H.rowIsR (α:=yLI) 2 rfl 2 rfl qj
         obtain ⟨G141,hn142,h143⟩:=H.rowIsI 3 rfl
         refine sw (oq (sameStock_ok _ (list_1[i_1]!) (vF p (list[i]!) (((zC p (list[i]!) mode).1)[k]!)) (H.get 0 rfl).1 (H.get 1 rfl).1 h140 h143) H fun w145 H=>sp (.bool (decide ((list_1[i_1]!)=(vF p (list[i]!) (((zC p (list[i]!) mode).1)[k]!))))) (zjr (ret1 (.bool (decide ((list_1[i_1]!)=(vF p (list[i]!) (((zC p (list[i]!) mode).1)[k]!))))) rfl rfl ⟨_,rfl,?_⟩)))
         replace H:=H.erases [0]
         dsimp only [yZ,List.eraseIdx] at H
         refine zjn (cD rfl (fun h147=>?_) (fun h147=>?_))
         ·skip
          refine zcr (sps [.int .i64 i_1,.int .i64 i_1] (zjr (zr5 (ret1 (.int .i64 i_1) rfl rfl ⟨_,rfl,(sp (.int .i64 i_1) (zjcc (sps [.int .i64 i_1,.bool (decide ((i_1:Int) < 0))] (zjn (cD rfl (fun h148=>?_) (fun h148=>?_))))))⟩))))
          ·skip
           exfalso;omega
          ·skip
           have hf:=find_at i1 qg qm
           refine qZ (t_n (zcc (sp (.slice (some ⟨b97,0,none⟩) xN zt) (oN rfl (sp (.bool (decide ((xN:Int) > 200))) (zjn (cD rfl (fun h149=>?_) (fun h149=>?_))))))))
           ·skip
            exfalso;omega
           ·skip
            refine qZ (t_n (xM (sps [.slice a_own n_own c_own,.int .i64 i_1] (sw (zu H Tryz.underlying22 ti2 [.int .i64 i_1] fun b150 w151 H=>sw (zB H 4 rfl 0 rfl Tryz.underlying22 ti2 rfl qj rfl rfl rfl qx qw qg fun a152 c153 w154 H=>?_))))))
            rw [snocI] at H
            refine sp (.slice a152 (n_own+1) c153) (xP (b_n (t_n (xM (sw (xX k 1 rfl rfl qg (sp (.int .i64 (k+1)) (xP (xg (m' :=((((zC p (list[i]!) mode).1).length) - ((k+1):Int)).toNat) qg ⟨_,(some ⟨b97,0,none⟩),xN,zt,list_1,jo,zY,a152,n_own+1,c153,(own++[(i_1:Int)]),k+1,uE9,?_,?_,rfl,(N.pick [1,2,3]),H.pick [4,5,6,7,8,9,10,11] [3,4,5,6,7,8,9,10,11,12]⟩)))))))))
            · omega
            · first | (rw [← hf];exact inTo_old k1 hs qg) | (rw [hn_list];exact inTo_new k1 hs qg qg)
         ·skip
          refine qZ (b_n (t_n (xM (sw (xX i_1 1 rfl rfl qg (sp (.int .i64 (i_1+1)) (xP (xg (m' :=(xN - ((i_1+1):Int)).toNat) qg ⟨_,i_1+1,uE4,?_,?_,rfl,N,H.pick [0,1,2,3,4,5,6,7,8,9,10] [2,3,4,5,6,7,8,9,10,11,12]⟩))))))))
          · omega
          · exact noneTo_succ i1 (decide_eq_false qm)
        ·skip
         refine zx4 (zcr (sp (.int .i64 (-1)) (zjr (ret1 (.int .i64 (-1)) rfl rfl ⟨_,rfl,(sp (.int .i64 (-1)) (zjcc (sps [.int .i64 (-1),.bool true] (zjn ?_))))⟩))))
         have hf:=find_not i1 qg
         refine xH true rfl (fun _=>zcr (sp (.slice (some ⟨b97,0,none⟩) xN zt) (oN rfl (sp (.int .i64 xN) (zjn (xM (sp (.slice (some ⟨b97,0,none⟩) xN zt) (sw (zk [.slice ra99 (((vF p (list[i]!) (((zC p (list[i]!) mode).1)[k]!)).qF).length) rc100,.slice ra101 (((vF p (list[i]!) (((zC p (list[i]!) mode).1)[k]!)).qG).length) rc102] Tryz.isAgg39 Tryz.sizeOf39 rfl (qO (H.cells 0 rfl) 0 2) ?_))))))))) (fun h=>absurd h qj)
         refine sw (zu H Tryz.underlying32 ti39 [.slice ra99 (((vF p (list[i]!) (((zC p (list[i]!) mode).1)[k]!)).qF).length) rc100,.slice ra101 (((vF p (list[i]!) (((zC p (list[i]!) mode).1)[k]!)).qG).length) rc102] fun b155 w156 H=>?_)
         have H0:=H
         obtain ⟨G160,hg162,hn161,H⟩:=H.freezeR (α:=yLI) 2 rfl 0 rfl qj
         replace N:Fresh w.heap.size [G160,rF79a,jE,zY]:=Fresh.ice N H0 2 hg162.1 hg162.2 (H0.yz [1,2,3])
         clear H0
         obtain ⟨G163,N,hn164,H⟩:=H.vw 3 rfl N (H.yz [0,2,3,4])
         refine sw (zB H 7 rfl 0 rfl Tryz.underlying32 ti39 rfl qj rfl rfl rfl qx qw qg fun a157 c158 w159 H=>?_)
         replace H:=H.snoc_StockD 5 rfl 1 rfl 0 rfl
         replace N:Fresh w.heap.size [(zY++(G160++G163)),rF79a,jE]:=(N.pick [1,0,4,2,3]).join.swap.join
         refine sp (.slice a157 (xN+1) c158) (zjcc (sp (.slice a157 (xN+1) c158) (oN rfl (sp (.bool (decide ((xN+1:Int) > 200))) (zjn (cD rfl (fun h165=>?_) (fun h165=>?_)))))))
         ·skip
          refine zcr (sps [.slice none 0 0,.slice none 0 0,.int .i64 3] (zjr (t_r (zr5 (zr5 ?_)))))
          replace H:=H.nilRow 39 2
          replace H:=H.vT (α:=xk)
          replace H:=H.nilRow 22 1
          replace H:=H.vT (α:=yLI)
          refine ret3 (.slice none 0 0) (.slice none 0 0) (.int .i64 3) rfl rfl rfl rfl ⟨_,rfl,?_,H.base⟩
          rw [pg_no k0 (yA (outTo_in j1 qg (k:=k+1) (by rw [← hcr];omega) (hcr▸inTo_many k1 hs qg qg)) qg)]
          exact ⟨none,0,0,[],[],none,0,0,[],[],rfl,(N.emp.emp.pick [0,1]),H.pick [1,0] [0,0]⟩
         ·skip
          refine qZ (t_n (xM (sps [.slice a_own n_own c_own,.int .i64 xN] (sw (zu H Tryz.underlying22 ti2 [.int .i64 xN] fun b166 w167 H=>sw (zB H 5 rfl 0 rfl Tryz.underlying22 ti2 rfl qj rfl rfl rfl qx qw qg fun a168 c169 w170 H=>?_))))))
          rw [snocI] at H
          refine sp (.slice a168 (n_own+1) c169) (xP (b_n (t_n (xM (sw (xX k 1 rfl rfl qg (sp (.int .i64 (k+1)) (xP ?_))))))))
          refine xg (m' :=((((zC p (list[i]!) mode).1).length) - ((k+1):Int)).toNat) qg ⟨_,a157,xN+1,c158,(list_1++[⟨(vF p (list[i]!) (((zC p (list[i]!) mode).1)[k]!)).qF,(vF p (list[i]!) (((zC p (list[i]!) mode).1)[k]!)).qG⟩]),jo++[.slice ra99 (((vF p (list[i]!) (((zC p (list[i]!) mode).1)[k]!)).qF).length) rc100,.slice ra101 (((vF p (list[i]!) (((zC p (list[i]!) mode).1)[k]!)).qG).length) rc102],(zY++(G160++G163)),a168,n_own+1,c169,(own++[(xN:Int)]),k+1,uE9,?_,?_,rfl,(N.pick [1,2,0]),H.pick [5,6,7,8,9,10,11,12] [4,5,0,7,8,9,10,11,12,13]⟩
          · omega
          · first | (rw [← hf];exact inTo_old k1 hs qg) | (rw [hn_list];exact inTo_new k1 hs qg qg)
     ·skip
      refine zx4 (xM (sps [.slice ve zU zZ,.slice a_own n_own c_own] (sw (jH #[.slice a_own n_own c_own] rfl rfl Tryz.call45 (en Tryz.func45 Tryz.ntmps45 ?_)))))
      refine zcr (sp (.slice none 0 0) (zjc (sp (.slice a_own n_own c_own) ?_)))
      have sl172:=sortI_len own
      refine sw (o_callF #[.slice a_own n_own c_own] rfl rfl Tryz.call77 (sortRowI sortLI H 0 rfl (by first | omega | (simp only [List.length_append,List.length_cons,List.length_nil];omega))) ?_)
      rintro _ w171 ⟨rfl,H⟩
      refine zjc (sp (.slice a_own n_own c_own) (sw (o_callF #[.slice a_own n_own c_own] rfl rfl Tryz.call78 (compSortRow compLI H 0 rfl) ?_)))
      rintro _ w173 ⟨rfl,H⟩
      refine sp (.slice a_own ((yc own).length) c_own) (zjr (ret1 (.slice a_own ((yc own).length) c_own) rfl rfl ⟨_,rfl,(sw (zu H Tryz.underlying27 ti22 [.slice a_own ((yc own).length) c_own] fun b174 w175 H=>?_))⟩))
      obtain ⟨G179,N,hn180,H⟩:=H.vw 1 rfl N (H.yz [0,1,2])
      refine sw (zB H 3 rfl 0 rfl Tryz.underlying27 ti22 rfl qj rfl rfl rfl qx qw qg fun a176 c177 w178 H=>?_)
      replace H:=H.jf 2 rfl 0 rfl
      replace N:Fresh w.heap.size [(jE++G179),rF79a,zY]:=(N.pick [2,0,1,3]).join
      refine sp (.slice a176 (zU+1) c177) (xP (b_n (t_n (xM (sp (.int .i64 i) (sw (xX i 1 rfl rfl qg (sp (.int .i64 (i+1)) (xP (xg (m' :=200 - (i+1)) qg ⟨_,a_list_1,xN,zt,list_1,jo,zY,a176,zU+1,c177,(next++[(yc own)]),yO++[.slice a_own ((yc own).length) c_own],(jE++G179),i+1,uE5,?_,?_,rfl,(N.pick [2,0]),H.pick [3,4,5,6,7,8] [0,4,5,6,7,8,9,10,11]⟩))))))))))
      · exact outTo_next j1 qg (ch_ok hc).1 (hcr▸(show k=(zC p (list[i]!) mode).1.length by omega)▸k1)
      · omega
   ·skip
    refine zx4 (zcr (sps [.slice Qb jG jM,.slice ve zU zZ,.slice Qb jG jM,.slice ve zU zZ,.int .i64 0] (zjr (ret3 (.slice Qb jG jM) (.slice ve zU zZ) (.int .i64 0) rfl rfl rfl rfl ⟨_,rfl,?_,H.base⟩))))
    rw [pg_ok k0 (graph_end j1 qg qg)]
    exact ⟨Qb,jG,jM,x_list,F_list,ve,zU,zZ,yO,jE,rfl,N,H.pick [1,0] [1,0]⟩
theorem law_PassGraph (w:World) (aP:qW) (aS:xk) (aMode:Int) (vS:yOA) (vP:Nat) (Qd:yLN) (aaPFree:yOA) (caPFree:Nat) (FaPFree:yLN) (jY:yOA) (jX:Nat) (FaPRules:yLN) (aaSCells:yOA) (caSCells:Nat) (FaSCells:yLN) (jy:yOA) (jw:Nat) (Qv:yLN) (haPParents:qQ.rep w Qd [.slice vS aP.qC.length vP] aP.qC) (haPFree:qQ.rep w FaPFree [.slice aaPFree aP.qL.length caPFree] aP.qL) (haPRules:qQ.rep w FaPRules [.slice jY aP.qB.length jX] aP.qB) (haSCells:qQ.rep w FaSCells [.slice aaSCells aS.qF.length caSCells] aS.qF) (haSAround:qQ.rep w Qv [.slice jy aS.qG.length jw] aS.qG):Calls Tryz.prog 3 #[.agg #[.int .i64 aP.qJ,.slice vS aP.qC.length vP,.slice aaPFree aP.qL.length caPFree,.slice jY aP.qB.length jX],.agg #[.slice aaSCells aS.qF.length caSCells,.slice jy aS.qG.length jw],.int .i64 aMode] w (Ret (fun v w' =>v=.bool true) w):=by
 refine en Tryz.func3 Tryz.ntmps3 ?_
 have H:=(((((St.start w).arg haSAround).arg haSCells).arg haPRules).arg haPFree).arg haPParents
 have nhaPParents:=qM haPParents
 have nhaPFree:=qM haPFree
 have nhaPRules:=qM haPRules
 have nhaSCells:=qM haSCells
 have nhaSAround:=qM haSAround
 clear haPParents haPFree haPRules haSCells haSAround
 have N:=Fresh.nil w.heap.size
 have A:=H.ltN (L:=[Qd,FaPFree,FaPRules,FaSCells,Qv]) [0,1,2,3,4]
 have t1:=QA aP
 have t2:=tot_StockD aS
 have c0:=cntL_tot aP.qC
 have c1:=cntL_tot aP.qL
 have c2:=cntL_tot aP.qB
 have c3:=cntL_tot aS.qF
 have c4:=cntL_tot aS.qG
 obtain ⟨f1,f2⟩:=few_pg aP aS aMode
 refine zcr (sw (jC H [.int .i64 aP.qJ,.slice vS aP.qC.length vP,.slice aaPFree aP.qL.length caPFree,.slice jY aP.qB.length jX] fun b1 w2 H=>sw (jC H [.slice aaSCells aS.qF.length caSCells,.slice jy aS.qG.length jw] fun b3 w4 H=>sp (.bool false) (zjc (sp (.int .i64 1048576) (zjc (sw (zk [.int .i64 aP.qJ,.slice vS aP.qC.length vP,.slice aaPFree aP.qL.length caPFree,.slice jY aP.qB.length jX] Tryz.isAgg26 Tryz.sizeOf26 rfl (qO (H.cells 1 rfl) 0 4) (sp (.int .i64 1048576) ?_)))))))))
 refine sw (oq (szPassing_ok _ aP 1048576 (H.get 0 rfl).1 (H.get 1 rfl).1 (H.get 2 rfl).1 qg) H fun w5 H=>?_)
 have:=zK (tot aP) 1048576
 refine sp (.int .i64 (szR (tot aP) 1048576)) (zjcc (sps [.int .i64 (szR (tot aP) 1048576),.bool (decide ((szR (tot aP) 1048576:Int) < 0))] (zjn (cD rfl (fun h7=>?_) (fun h7=>?_)))))
 ·skip
  refine zcr (sp (.bool true) (zjr (t_r (ret1 (.bool true) rfl rfl ⟨_,rfl,?_,H.base⟩))))
  rfl
 ·skip
  refine qZ (t_n (zcr (sw (zk [.slice aaSCells aS.qF.length caSCells,.slice jy aS.qG.length jw] Tryz.isAgg29 Tryz.sizeOf29 rfl (qO (H.cells 0 rfl) 0 2) (sp (.int .i64 (szR (tot aP) 1048576)) (sw (oq (szStock_ok _ aS (szR (tot aP) 1048576) (H.get 3 rfl).1 (H.get 4 rfl).1 qg) H fun w8 H=>?_)))))))
  have:=zK (tot aS) (szR (tot aP) 1048576)
  refine sp (.int .i64 (szR (tot aS) (szR (tot aP) 1048576))) (zjcc (sps [.int .i64 (szR (tot aS) (szR (tot aP) 1048576)),.bool (decide ((szR (tot aS) (szR (tot aP) 1048576):Int) < 0))] (zjn (cD rfl (fun h10=>?_) (fun h10=>?_)))))
  ·skip
   refine zcr (sp (.bool true) (zjr (t_r (ret1 (.bool true) rfl rfl ⟨_,rfl,?_,H.base⟩))))
   rfl
  ·skip
   refine qZ (t_n (xQ ?_))
   refine vz rfl H fun H=>rt 0 (.agg #[.int .i64 aP.qJ,.slice vS aP.qC.length vP,.slice aaPFree aP.qL.length caPFree,.slice jY aP.qB.length jX]) (yV (cs:=[.int .i64 aP.qJ,.slice vS aP.qC.length vP,.slice aaPFree aP.qL.length caPFree,.slice jY aP.qB.length jX]) Tryz.isAgg26 Tryz.sizeOf26 rfl (fun _ h=>qO (h.cells 1 rfl) 0 4)) H ?_
   refine rt 2 (.agg #[.slice aaSCells aS.qF.length caSCells,.slice jy aS.qG.length jw]) (yV (cs:=[.slice aaSCells aS.qF.length caSCells,.slice jy aS.qG.length jw]) Tryz.isAgg29 Tryz.sizeOf29 rfl (fun _ h=>qO (h.cells 0 rfl) 0 2)) H ?_
   refine rtp 4 (.int .i64 aMode) H ?_
   refine ro 1 rfl ?_
   have sz12:=H.base.size
   refine oc (toPassing_ok _ aP (H.get 0 rfl).1 (H.get 1 rfl).1 (H.get 2 rfl).1 qh) ?_
   rintro v17 w15 r17 x16
   obtain ⟨a17Parents,c17Parents,zT,a17Free,c17Free,F17Free,a17Rules,c17Rules,ji,rfl,f17,H⟩:=H.add_PassingD x16 r17
   replace N:=N.cons f17 sz12 (by intro F hF;simp at hF)
   replace N:=N.split
   replace N:=N.split
   refine ⟨H.pick [0,1] [3,4,5,6,7],(ro 3 rfl ?_)⟩
   have sz18:=H.base.size
   have lt19:=H.ltN (L:=[zT,F17Free,ji]) [0,1,2]
   refine oc (toStock_ok _ aS (H.get 6 rfl).1 (H.get 7 rfl).1 qh) ?_
   rintro v23 w21 r23 x22
   obtain ⟨a23Cells,c23Cells,F23Cells,a23Around,c23Around,vM,rfl,f23,H⟩:=H.add_StockD x22 r23
   replace N:=N.cons f23 sz18 lt19
   replace N:=N.split
   refine ⟨H.pick [0,1] [5,6,7,8,9],(ro 5 rfl ?_)⟩
   have sz27:=H.base.size
   have lt28:=H.ltN (L:=[F23Cells,vM,zT,F17Free,ji]) [0,1,2,3,4]
   refine oc (specGraph_ok _ aP aS aMode (H.get 2 rfl).1 (H.get 3 rfl).1 (H.get 4 rfl).1 (H.get 0 rfl).1 (H.get 1 rfl).1) ?_
   rintro _ w25 ⟨ra24a,rn24a,rc24a,rx24a,rF24a,ra24b,rn24b,rc24b,rx24b,rF24b,rfl,M,K⟩ _
   replace N:=N.merge sz27 lt28 M
   replace H:=H.merge K M
   obtain rfl:=H.zy (α:=xk) 0 rfl 0 rfl qj
   obtain rfl:=H.zy (α:=yLI) 1 rfl 1 rfl qj
   refine ⟨H.pick [2,3] [7,8,9,10,11],?_⟩
   have S:=H.zn [2,3] [7,8,9,10,11]
   refine rtp 6 (.tuple #[.slice ra24a (((xq aP aS aMode).1).length) rc24a,.slice ra24b (((xq aP aS aMode).2.1).length) rc24b,.int .i64 ((xq aP aS aMode).2.2)]) S ?_
   refine rtp 7 (.slice ra24a (((xq aP aS aMode).1).length) rc24a) S ?_
   refine rtp 8 (.slice ra24b (((xq aP aS aMode).2.1).length) rc24b) S ?_
   refine rtp 9 (.int .i64 ((xq aP aS aMode).2.2)) S ?_
   refine rtp 10 (.slice ra24a (((xq aP aS aMode).1).length) rc24a) S ?_
   refine rtp 11 (.slice ra24b (((xq aP aS aMode).2.1).length) rc24b) S ?_
   refine rtp 12 (.int .i64 ((xq aP aS aMode).2.2)) S ?_
   refine xG qi (t_n (zcr (sw (zk [.int .i64 aP.qJ,.slice vS aP.qC.length vP,.slice aaPFree aP.qL.length caPFree,.slice jY aP.qB.length jX] Tryz.isAgg26 Tryz.sizeOf26 rfl (qO (H.cells 3 rfl) 0 4) ?_))))
   have sz31:=H.base.size
   have lt32:=H.ltN (L:=[rF24a,rF24b,F23Cells,vM,zT,F17Free,ji]) [0,1,2,3,4,5,6]
   refine sw (oc (toPassing_ok _ aP (H.get 7 rfl).1 (H.get 8 rfl).1 (H.get 9 rfl).1 qh) ?_)
   rintro v36 w34 r36 x35
   obtain ⟨jB,jA,zS,a36Free,c36Free,F36Free,yM,yL,jh,rfl,f36,H⟩:=H.add_PassingD x35 r36
   replace N:=N.cons f36 sz31 lt32
   replace N:=N.split
   replace N:=N.split
   refine sw (jq H ti37 [.int .i64 0,.slice none 0 0,.slice none 0 0,.slice none 0 0] fun b37 w38 H=>sw (jD H 0 [.int .i64 aP.qJ,.slice jB aP.qC.length jA,.slice a36Free aP.qL.length c36Free,.slice yM aP.qB.length yL] Tryz.sizeOf37 fun w39 H=>zjc (sw (zk [.slice aaSCells aS.qF.length caSCells,.slice jy aS.qG.length jw] Tryz.isAgg29 Tryz.sizeOf29 rfl (qO (H.cells 3 rfl) 0 2) ?_))))
   have sz40:=H.base.size
   have lt41:=H.ltN (L:=[zS,F36Free,jh,rF24a,rF24b,F23Cells,vM,zT,F17Free,ji]) [0,1,2,3,4,5,6,7,8,9]
   refine sw (oc (toStock_ok _ aS (H.get 13 rfl).1 (H.get 14 rfl).1 qh) ?_)
   rintro v45 w43 r45 x44
   obtain ⟨a45Cells,c45Cells,F45Cells,jS,jR,vK,rfl,f45,H⟩:=H.add_StockD x44 r45
   replace N:=N.cons f45 sz40 lt41
   replace N:=N.split
   refine sw (jq H ti39 [.slice none 0 0,.slice none 0 0] fun b46 w47 H=>sw (jD H 0 [.slice a45Cells aS.qF.length c45Cells,.slice jS aS.qG.length jR] Tryz.sizeOf39 fun w48 H=>zjc (sw (zk [.int .i64 aP.qJ,.slice jB aP.qC.length jA,.slice a36Free aP.qL.length c36Free,.slice yM aP.qB.length yL] Tryz.isAgg37 Tryz.sizeOf37 rfl (qO (H.cells 1 rfl) 0 4) (sw (zk [.slice a45Cells aS.qF.length c45Cells,.slice jS aS.qG.length jR] Tryz.isAgg39 Tryz.sizeOf39 rfl (qO (H.cells 0 rfl) 0 2) (sp (.int .i64 aMode) ?_)))))))
   have sz52:=H.base.size
   have lt53:=H.ltN (L:=[F45Cells,vK,zS,F36Free,jh,rF24a,rF24b,F23Cells,vM,zT,F17Free,ji]) [0,1,2,3,4,5,6,7,8,9,10,11]
   refine sw (oc (implGraph_ok _ aP aS aMode (H.get 2 rfl).1 (H.get 3 rfl).1 (H.get 4 rfl).1 (H.get 0 rfl).1 (H.get 1 rfl).1) ?_)
   rintro _ w50 ⟨ra49a,rn49a,rc49a,rx49a,rF49a,ra49b,rn49b,rc49b,rx49b,rF49b,rfl,M,K⟩ _
   replace N:=N.merge sz52 lt53 M
   replace H:=H.merge K M
   obtain rfl:=H.zy (α:=xk) 0 rfl 0 rfl qj
   obtain rfl:=H.zy (α:=yLI) 1 rfl 1 rfl qj
   refine sps [.tuple #[.slice ra49a (((xq aP aS aMode).1).length) rc49a,.slice ra49b (((xq aP aS aMode).2.1).length) rc49b,.int .i64 ((xq aP aS aMode).2.2)],.slice ra49a (((xq aP aS aMode).1).length) rc49a,.slice ra49b (((xq aP aS aMode).2.1).length) rc49b,.int .i64 ((xq aP aS aMode).2.2),.slice ra49a (((xq aP aS aMode).1).length) rc49a,.slice ra49b (((xq aP aS aMode).2.1).length) rc49b,.int .i64 ((xq aP aS aMode).2.2)] (zjcc (sps [.slice ra49a (((xq aP aS aMode).1).length) rc49a,.slice ra24a (((xq aP aS aMode).1).length) rc24a] ?_))
   obtain ⟨G56,hn57,h58⟩:=H.rowIsR (α:=xk) 0 rfl 0 rfl qj
   obtain ⟨G59,hn60,h61⟩:=H.rowIsR (α:=xk) 4 rfl 7 rfl qj
   refine sw (oq (eqStockS_ok _ ((xq aP aS aMode).1) ((xq aP aS aMode).1) h58 h61) H fun w62 H=>sps [.bool (!(decide (((xq aP aS aMode).1)=((xq aP aS aMode).1)))),.bool (!(decide (((xq aP aS aMode).1)=((xq aP aS aMode).1))))] ?_)
   cases h64:(!(decide (((xq aP aS aMode).1)=((xq aP aS aMode).1))))
   ·skip
    replace h64:=xn h64
    refine qX 58 rfl rfl (sp (.slice ra49b (((xq aP aS aMode).2.1).length) rc49b) (qX 58 rfl rfl (sp (.slice ra24b (((xq aP aS aMode).2.1).length) rc24b) (qX 58 rfl rfl ?_))))
    obtain ⟨G65,hn66,h67⟩:=H.rowIsR (α:=yLI) 1 rfl 1 rfl qj
    obtain ⟨G68,hn69,h70⟩:=H.rowIsR (α:=yLI) 5 rfl 8 rfl qj
    refine sw (oq (eqInt64SS_ok _ ((xq aP aS aMode).2.1) ((xq aP aS aMode).2.1) h67 h70) H fun w71 H=>qX 58 rfl rfl (sps [.bool (!(decide (((xq aP aS aMode).2.1)=((xq aP aS aMode).2.1)))),.bool (!(decide (((xq aP aS aMode).2.1)=((xq aP aS aMode).2.1)))),.bool (!(decide (((xq aP aS aMode).2.1)=((xq aP aS aMode).2.1))))] ?_))
    cases h73:(!(decide (((xq aP aS aMode).2.1)=((xq aP aS aMode).2.1))))
    ·skip
     replace h73:=xn h73
     refine qX 64 rfl rfl (sp (.int .i64 ((xq aP aS aMode).2.2)) (qX 64 rfl rfl (sp (.int .i64 ((xq aP aS aMode).2.2)) (qX 64 rfl rfl (sps [.bool (((xq aP aS aMode).2.2:Int) != ((xq aP aS aMode).2.2)),.bool (((xq aP aS aMode).2.2:Int) != ((xq aP aS aMode).2.2))] (zjn (xH (((xq aP aS aMode).2.2:Int) != ((xq aP aS aMode).2.2)) rfl (fun h=>absurd rfl (bne_iff_ne.1 h)) (fun h74=>?_))))))))
     replace h74:=xA h74
     refine qZ (t_n (xQ (xQ ?_)))
     refine vz rfl H fun H=>rt 0 (.agg #[.int .i64 aP.qJ,.slice jB aP.qC.length jA,.slice a36Free aP.qL.length c36Free,.slice yM aP.qB.length yL]) (yV (cs:=[.int .i64 aP.qJ,.slice jB aP.qC.length jA,.slice a36Free aP.qL.length c36Free,.slice yM aP.qB.length yL]) Tryz.isAgg37 Tryz.sizeOf37 rfl (fun _ h=>qO (h.cells 3 rfl) 0 4)) H ?_
     refine rt 1 (.agg #[.int .i64 aP.qJ,.slice vS aP.qC.length vP,.slice aaPFree aP.qL.length caPFree,.slice jY aP.qB.length jX]) (yV (cs:=[.int .i64 aP.qJ,.slice vS aP.qC.length vP,.slice aaPFree aP.qL.length caPFree,.slice jY aP.qB.length jX]) Tryz.isAgg26 Tryz.sizeOf26 rfl (fun _ h=>qO (h.cells 7 rfl) 0 4)) H ?_
     refine ro 2 rfl ?_
     have sz76:=H.base.size
     have lt77:=H.ltN (L:=[rF49a,rF49b,F45Cells,vK,zS,F36Free,jh,rF24a,rF24b,F23Cells,vM,zT,F17Free,ji]) [0,1,2,3,4,5,6,7,8,9,10,11,12,13]
     refine oc (toPassing_ok _ aP (H.get 14 rfl).1 (H.get 15 rfl).1 (H.get 16 rfl).1 qh) ?_
     rintro v81 w79 r81 x80
     obtain ⟨a81Parents,c81Parents,vV,a81Free,c81Free,F81Free,a81Rules,c81Rules,yx,rfl,f81,H⟩:=H.add_PassingD x80 r81
     replace N:=N.cons f81 sz76 lt77
     replace N:=N.split
     replace N:=N.split
     refine ⟨H.pick [0,1,2,3,4,5,6,7] [3,4,5,6,7,8,9,10,11,12,13,14,15,16,17,18,19,20,21],(ro 3 rfl (oq (eqPassing_ok _ aP aP (H.get 7 rfl).1 (H.get 8 rfl).1 (H.get 9 rfl).1 (H.get 0 rfl).1 (H.get 1 rfl).1 (H.get 2 rfl).1) H fun w82 H=>⟨H.pick [0,1,2,3,4,5,6,7] [3,4,5,6,7,8,9,10,11,12,13,14,15,16,17,18,19,20,21],(rtp 4 (.bool (!(decide (aP=aP)))) (H.pick [0,1,2,3,4,5,6,7] [3,4,5,6,7,8,9,10,11,12,13,14,15,16,17,18,19,20,21]) ?_)⟩))⟩
     refine xG qi (t_n (xH (!(decide (aP=aP))) rfl (fun h=>absurd (xu h) qo) (fun h84=>?_)))
     replace h84:=xn h84
     refine qZ (t_n (xQ (xQ ?_)))
     refine vz rfl H fun H=>rt 0 (.agg #[.slice a45Cells aS.qF.length c45Cells,.slice jS aS.qG.length jR]) (yV (cs:=[.slice a45Cells aS.qF.length c45Cells,.slice jS aS.qG.length jR]) Tryz.isAgg39 Tryz.sizeOf39 rfl (fun _ h=>qO (h.cells 2 rfl) 0 2)) H ?_
     refine rt 1 (.agg #[.slice aaSCells aS.qF.length caSCells,.slice jy aS.qG.length jw]) (yV (cs:=[.slice aaSCells aS.qF.length caSCells,.slice jy aS.qG.length jw]) Tryz.isAgg29 Tryz.sizeOf29 rfl (fun _ h=>qO (h.cells 6 rfl) 0 2)) H ?_
     refine ro 2 rfl ?_
     have sz86:=H.base.size
     have lt87:=H.ltN (L:=[vV,F81Free,yx,rF49a,rF49b,F45Cells,vK,zS,F36Free,jh,rF24a,rF24b,F23Cells,vM,zT,F17Free,ji]) [0,1,2,3,4,5,6,7,8,9,10,11,12,13,14,15,16]
     refine oc (toStock_ok _ aS (H.get 20 rfl).1 (H.get 21 rfl).1 qh) ?_
     rintro v91 w89 r91 x90
     obtain ⟨a91Cells,c91Cells,F91Cells,a91Around,c91Around,jJ,rfl,f91,H⟩:=H.add_StockD x90 r91
     replace N:=N.cons f91 sz86 lt87
     replace N:=N.split
     refine ⟨H.pick [0,1,2,3,4,5,6,7] [2,3,4,5,6,7,8,9,10,11,12,13,14,15,16,17,18,19,20,21,22,23],(ro 3 rfl (oq (eqStock_ok _ aS aS (H.get 7 rfl).1 (H.get 8 rfl).1 (H.get 0 rfl).1 (H.get 1 rfl).1) H fun w92 H=>⟨H.pick [0,1,2,3,4,5,6,7] [2,3,4,5,6,7,8,9,10,11,12,13,14,15,16,17,18,19,20,21,22,23],(rtp 4 (.bool (!(decide (aS=aS)))) (H.pick [0,1,2,3,4,5,6,7] [2,3,4,5,6,7,8,9,10,11,12,13,14,15,16,17,18,19,20,21,22,23]) ?_)⟩))⟩
     refine xG qi (t_n (xH (!(decide (aS=aS))) rfl (fun h=>absurd (xu h) qo) (fun h94=>?_)))
     replace h94:=xn h94
     refine qZ (t_n (zcr (sp (.int .i64 1) (zjc (sw (zk [.int .i64 aP.qJ,.slice jB aP.qC.length jA,.slice a36Free aP.qL.length c36Free,.slice yM aP.qB.length yL] Tryz.isAgg37 Tryz.sizeOf37 rfl (qO (H.cells 3 rfl) 0 4) (sp (.int .i64 1) ?_)))))))
     have N95:Fresh w.heap.size [zS,F36Free,jh,F91Cells,jJ,vV,F81Free,yx,rF49a,rF49b,F45Cells,vK,rF24a,rF24b,F23Cells,vM,zT,F17Free,ji]:=(N.pick [9,10,11,0,1,2,3,4,5,6,7,8,12,13,14,15,16,17,18])
     refine sw (o_callM #[.agg #[.int .i64 aP.qJ,.slice jB aP.qC.length jA,.slice a36Free aP.qL.length c36Free,.slice yM aP.qB.length yL],.int .i64 1] rfl rfl Tryz.call16 (markPassing_ok w92 aP 1 jB jA zS a36Free c36Free F36Free yM yL jh (H.get 9 rfl).1 (H.get 10 rfl).1 (H.get 11 rfl).1 (N95.pick [0,1,2]:Fresh _ [zS,F36Free,jh]).join.join.one.2 ((((H.get 9 rfl).2 rfl).app ((H.get 10 rfl).2 rfl)).app ((H.get 11 rfl).2 rfl)) qg qg) ?_)
     rintro _ w96 ⟨rfl,m98⟩ x97
     replace H:St _ _ [rr ra49a (((xq aP aS aMode).1).length) rc49a 39 2 rx49a,rr ra49b (((xq aP aS aMode).2.1).length) rc49b 22 1 rx49b,.box b46 [.slice a45Cells aS.qF.length c45Cells,.slice jS aS.qG.length jR] 39,.box b37 [.int .i64 aP.qJ,.slice jB aP.qC.length jA,.slice a36Free aP.qL.length c36Free,.slice yM aP.qB.length yL] 37,rr ra24a (((xq aP aS aMode).1).length) rc24a 39 2 rx24a,rr ra24b (((xq aP aS aMode).2.1).length) rc24b 22 1 rx24b,.box b3 [.slice aaSCells aS.qF.length caSCells,.slice jy aS.qG.length jw] 29,.box b1 [.int .i64 aP.qJ,.slice vS aP.qC.length vP,.slice aaPFree aP.qL.length caPFree,.slice jY aP.qB.length jX] 26] [isF true zS (.slice jB aP.qC.length jA) (mrk aP.qC (1)),isF true F36Free (.slice a36Free aP.qL.length c36Free) (mrk aP.qL (1+(cnt aP.qC:Nat))),isF true jh (.slice yM aP.qB.length yL) (mrk aP.qB (1+(cnt aP.qC:Nat)+(cnt aP.qL:Nat))),sF true F91Cells a91Cells c91Cells aS.qF,sF true jJ a91Around c91Around aS.qG,sF true vV a81Parents c81Parents aP.qC,sF true F81Free a81Free c81Free aP.qL,sF true yx a81Rules c81Rules aP.qB,zi true rF49a rx49a ((xq aP aS aMode).1),zi true rF49b rx49b ((xq aP aS aMode).2.1),sF true F45Cells a45Cells c45Cells aS.qF,sF true vK jS jR aS.qG,zi true rF24a rx24a ((xq aP aS aMode).1),zi true rF24b rx24b ((xq aP aS aMode).2.1),sF true F23Cells a23Cells c23Cells aS.qF,sF true vM a23Around c23Around aS.qG,sF true zT a17Parents c17Parents aP.qC,sF true F17Free a17Free c17Free aP.qL,sF true ji a17Rules c17Rules aP.qB,sF false Qd vS vP aP.qC,sF false FaPFree aaPFree caPFree aP.qL,sF false FaPRules jY jX aP.qB,sF false FaSCells aaSCells caSCells aS.qF,sF false Qv jy jw aS.qG]:=H.chgFacts (Fs:=[zS,F36Free,jh]) (L:=[F91Cells,jJ,vV,F81Free,yx,rF49a,rF49b,F45Cells,vK,rF24a,rF24b,F23Cells,vM,zT,F17Free,ji]) (A:=[Qd,FaPFree,FaPRules,FaSCells,Qv]) N95 A (x97.mono (by intro z hz;simpa using hz)) [9,10,11] [isF true zS (.slice jB aP.qC.length jA) (mrk aP.qC (1)),isF true F36Free (.slice a36Free aP.qL.length c36Free) (mrk aP.qL (1+(cnt aP.qC:Nat))),isF true jh (.slice yM aP.qB.length yL) (mrk aP.qB (1+(cnt aP.qC:Nat)+(cnt aP.qL:Nat)))] (all_of ⟨m98.1,⟨m98.2.1,⟨m98.2.2,trivial⟩⟩⟩) [0,1,2,3,4,5,6,7,8,12,13,14,15,16,17,18,19,20,21,22,23] [0,1,2,3,4,5,6,7,8,9,10,11,12,13,14,15,16,17,18,19,20]
     replace N:=N95
     refine sp (.int .i64 (1+(cnt aP.qC:Nat)+(cnt aP.qL:Nat)+(cnt aP.qB:Nat))) (zjc (sw (zk [.slice a45Cells aS.qF.length c45Cells,.slice jS aS.qG.length jR] Tryz.isAgg39 Tryz.sizeOf39 rfl (qO (H.cells 2 rfl) 0 2) (sp (.int .i64 (1+(cnt aP.qC:Nat)+(cnt aP.qL:Nat)+(cnt aP.qB:Nat))) ?_))))
     have N99:Fresh w.heap.size [F45Cells,vK,zS,F36Free,jh,F91Cells,jJ,vV,F81Free,yx,rF49a,rF49b,rF24a,rF24b,F23Cells,vM,zT,F17Free,ji]:=(N.pick [10,11,0,1,2,3,4,5,6,7,8,9,12,13,14,15,16,17,18])
     refine sw (o_callM #[.agg #[.slice a45Cells aS.qF.length c45Cells,.slice jS aS.qG.length jR],.int .i64 (1+(cnt aP.qC:Nat)+(cnt aP.qL:Nat)+(cnt aP.qB:Nat))] rfl rfl Tryz.call17 (markStock_ok w96 aS (1+(cnt aP.qC:Nat)+(cnt aP.qL:Nat)+(cnt aP.qB:Nat)) a45Cells c45Cells F45Cells jS jR vK (H.get 10 rfl).1 (H.get 11 rfl).1 (N99.pick [0,1]:Fresh _ [F45Cells,vK]).join.one.2 (((H.get 10 rfl).2 rfl).app ((H.get 11 rfl).2 rfl)) qg qg) ?_)
     rintro _ w100 ⟨rfl,m102⟩ x101
     replace H:St _ _ [rr ra49a (((xq aP aS aMode).1).length) rc49a 39 2 rx49a,rr ra49b (((xq aP aS aMode).2.1).length) rc49b 22 1 rx49b,.box b46 [.slice a45Cells aS.qF.length c45Cells,.slice jS aS.qG.length jR] 39,.box b37 [.int .i64 aP.qJ,.slice jB aP.qC.length jA,.slice a36Free aP.qL.length c36Free,.slice yM aP.qB.length yL] 37,rr ra24a (((xq aP aS aMode).1).length) rc24a 39 2 rx24a,rr ra24b (((xq aP aS aMode).2.1).length) rc24b 22 1 rx24b,.box b3 [.slice aaSCells aS.qF.length caSCells,.slice jy aS.qG.length jw] 29,.box b1 [.int .i64 aP.qJ,.slice vS aP.qC.length vP,.slice aaPFree aP.qL.length caPFree,.slice jY aP.qB.length jX] 26] [isF true F45Cells (.slice a45Cells aS.qF.length c45Cells) (mrk aS.qF (1+(cnt aP.qC:Nat)+(cnt aP.qL:Nat)+(cnt aP.qB:Nat))),isF true vK (.slice jS aS.qG.length jR) (mrk aS.qG (1+(cnt aP.qC:Nat)+(cnt aP.qL:Nat)+(cnt aP.qB:Nat)+(cnt aS.qF:Nat))),isF true zS (.slice jB aP.qC.length jA) (mrk aP.qC (1)),isF true F36Free (.slice a36Free aP.qL.length c36Free) (mrk aP.qL (1+(cnt aP.qC:Nat))),isF true jh (.slice yM aP.qB.length yL) (mrk aP.qB (1+(cnt aP.qC:Nat)+(cnt aP.qL:Nat))),sF true F91Cells a91Cells c91Cells aS.qF,sF true jJ a91Around c91Around aS.qG,sF true vV a81Parents c81Parents aP.qC,sF true F81Free a81Free c81Free aP.qL,sF true yx a81Rules c81Rules aP.qB,zi true rF49a rx49a ((xq aP aS aMode).1),zi true rF49b rx49b ((xq aP aS aMode).2.1),zi true rF24a rx24a ((xq aP aS aMode).1),zi true rF24b rx24b ((xq aP aS aMode).2.1),sF true F23Cells a23Cells c23Cells aS.qF,sF true vM a23Around c23Around aS.qG,sF true zT a17Parents c17Parents aP.qC,sF true F17Free a17Free c17Free aP.qL,sF true ji a17Rules c17Rules aP.qB,sF false Qd vS vP aP.qC,sF false FaPFree aaPFree caPFree aP.qL,sF false FaPRules jY jX aP.qB,sF false FaSCells aaSCells caSCells aS.qF,sF false Qv jy jw aS.qG]:=H.chgFacts (Fs:=[F45Cells,vK]) (L:=[zS,F36Free,jh,F91Cells,jJ,vV,F81Free,yx,rF49a,rF49b,rF24a,rF24b,F23Cells,vM,zT,F17Free,ji]) (A:=[Qd,FaPFree,FaPRules,FaSCells,Qv]) N99 A (x101.mono (by intro z hz;simpa using hz)) [10,11] [isF true F45Cells (.slice a45Cells aS.qF.length c45Cells) (mrk aS.qF (1+(cnt aP.qC:Nat)+(cnt aP.qL:Nat)+(cnt aP.qB:Nat))),isF true vK (.slice jS aS.qG.length jR) (mrk aS.qG (1+(cnt aP.qC:Nat)+(cnt aP.qL:Nat)+(cnt aP.qB:Nat)+(cnt aS.qF:Nat)))] (all_of ⟨m102.1,⟨m102.2,trivial⟩⟩) [0,1,2,3,4,5,6,7,8,9,12,13,14,15,16,17,18,19,20,21,22,23] [0,1,2,3,4,5,6,7,8,9,10,11,12,13,14,15,16,17,18,19,20,21]
     replace N:=N99
     refine sp (.int .i64 (1+(cnt aP.qC:Nat)+(cnt aP.qL:Nat)+(cnt aP.qB:Nat)+(cnt aS.qF:Nat)+(cnt aS.qG:Nat))) (zjcc (sps [.int .i64 (1+(cnt aP.qC:Nat)+(cnt aP.qL:Nat)+(cnt aP.qB:Nat)+(cnt aS.qF:Nat)+(cnt aS.qG:Nat)),.bool (decide ((1+(cnt aP.qC:Nat)+(cnt aP.qL:Nat)+(cnt aP.qB:Nat)+(cnt aS.qF:Nat)+(cnt aS.qG:Nat):Int) < 0)),.bool (decide ((1+(cnt aP.qC:Nat)+(cnt aP.qL:Nat)+(cnt aP.qB:Nat)+(cnt aS.qF:Nat)+(cnt aS.qG:Nat):Int) < 0))] ?_))
     cases h103:(decide ((1+(cnt aP.qC:Nat)+(cnt aP.qL:Nat)+(cnt aP.qB:Nat)+(cnt aS.qF:Nat)+(cnt aS.qG:Nat):Int) < 0))
     ·skip
      replace h103:=of_decide_eq_false h103
      refine qX 87 rfl rfl (sp (.slice ra49a (((xq aP aS aMode).1).length) rc49a) (qX 87 rfl rfl (sp (.slice ra24a (((xq aP aS aMode).1).length) rc24a) (qX 87 rfl rfl ?_))))
      obtain ⟨G104,hn105,h106⟩:=H.rowIsR (α:=xk) 0 rfl 10 rfl qj
      obtain ⟨G107,hn108,h109⟩:=H.rowIsR (α:=xk) 4 rfl 12 rfl qj
      refine sw (oq (eqStockS_ok _ ((xq aP aS aMode).1) ((xq aP aS aMode).1) h106 h109) H fun w110 H=>qX 87 rfl rfl (sps [.bool (!(decide (((xq aP aS aMode).1)=((xq aP aS aMode).1)))),.bool (!(decide (((xq aP aS aMode).1)=((xq aP aS aMode).1)))),.bool (!(decide (((xq aP aS aMode).1)=((xq aP aS aMode).1))))] ?_))
      cases h112:(!(decide (((xq aP aS aMode).1)=((xq aP aS aMode).1))))
      ·skip
       replace h112:=xn h112
       refine qX 93 rfl rfl (sp (.slice ra49b (((xq aP aS aMode).2.1).length) rc49b) (qX 93 rfl rfl (sp (.slice ra24b (((xq aP aS aMode).2.1).length) rc24b) (qX 93 rfl rfl ?_))))
       obtain ⟨G113,hn114,h115⟩:=H.rowIsR (α:=yLI) 1 rfl 11 rfl qj
       obtain ⟨G116,hn117,h118⟩:=H.rowIsR (α:=yLI) 5 rfl 13 rfl qj
       refine sw (oq (eqInt64SS_ok _ ((xq aP aS aMode).2.1) ((xq aP aS aMode).2.1) h115 h118) H fun w119 H=>qX 93 rfl rfl (sps [.bool (!(decide (((xq aP aS aMode).2.1)=((xq aP aS aMode).2.1)))),.bool (!(decide (((xq aP aS aMode).2.1)=((xq aP aS aMode).2.1)))),.bool (!(decide (((xq aP aS aMode).2.1)=((xq aP aS aMode).2.1))))] ?_))
       cases h121:(!(decide (((xq aP aS aMode).2.1)=((xq aP aS aMode).2.1))))
       ·skip
        replace h121:=xn h121
        refine qX 99 rfl rfl (sp (.int .i64 ((xq aP aS aMode).2.2)) (qX 99 rfl rfl (sp (.int .i64 ((xq aP aS aMode).2.2)) (qX 99 rfl rfl (sps [.bool (((xq aP aS aMode).2.2:Int) != ((xq aP aS aMode).2.2)),.bool (((xq aP aS aMode).2.2:Int) != ((xq aP aS aMode).2.2))] (zjn (xH (((xq aP aS aMode).2.2:Int) != ((xq aP aS aMode).2.2)) rfl (fun h=>absurd rfl (bne_iff_ne.1 h)) (fun h122=>?_))))))))
        replace h122:=xA h122
        refine qZ (t_n (zcr (sp (.int .i64 1) (zjc (sps [.slice ra49a (((xq aP aS aMode).1).length) rc49a,.int .i64 1] ?_)))))
        have H0:=H
        obtain ⟨G123,hg125,hn124,H⟩:=H.freezeR (α:=xk) 0 rfl 10 rfl qj
        replace N:Fresh w.heap.size [G123,F45Cells,vK,zS,F36Free,jh,F91Cells,jJ,vV,F81Free,yx,rF49b,rF24a,rF24b,F23Cells,vM,zT,F17Free,ji]:=Fresh.ice (N.pick [10,0,1,2,3,4,5,6,7,8,9,11,12,13,14,15,16,17,18]) H0 0 hg125.1 hg125.2 (H0.yz [0,1,2,3,4,5,6,7,8,9,11,12,13,14,15,16,17,18])
        clear H0
        have N126:Fresh w.heap.size [G123,F45Cells,vK,zS,F36Free,jh,F91Cells,jJ,vV,F81Free,yx,rF49b,rF24a,rF24b,F23Cells,vM,zT,F17Free,ji]:=N
        refine sw (o_callM #[.slice ra49a (((xq aP aS aMode).1).length) rc49a,.int .i64 1] rfl rfl Tryz.call18 (markStockS_ok w119 ((xq aP aS aMode).1) 1 ra49a rc49a G123 (H.get 0 rfl).1 (N126.pick [0]:Fresh _ [G123]).one.2 ((H.get 0 rfl).2 rfl) qg qg) ?_)
        rintro _ w127 ⟨rfl,m129⟩ x128
        replace H:St _ _ [rr none 0 0 0 1 [],rr ra49b (((xq aP aS aMode).2.1).length) rc49b 22 1 rx49b,.box b46 [.slice a45Cells aS.qF.length c45Cells,.slice jS aS.qG.length jR] 39,.box b37 [.int .i64 aP.qJ,.slice jB aP.qC.length jA,.slice a36Free aP.qL.length c36Free,.slice yM aP.qB.length yL] 37,rr ra24a (((xq aP aS aMode).1).length) rc24a 39 2 rx24a,rr ra24b (((xq aP aS aMode).2.1).length) rc24b 22 1 rx24b,.box b3 [.slice aaSCells aS.qF.length caSCells,.slice jy aS.qG.length jw] 29,.box b1 [.int .i64 aP.qJ,.slice vS aP.qC.length vP,.slice aaPFree aP.qL.length caPFree,.slice jY aP.qB.length jX] 26] [isF true G123 (.slice ra49a (((xq aP aS aMode).1).length) rc49a) (mrk ((xq aP aS aMode).1) (1)),isF true F45Cells (.slice a45Cells aS.qF.length c45Cells) (mrk aS.qF (1+(cnt aP.qC:Nat)+(cnt aP.qL:Nat)+(cnt aP.qB:Nat))),isF true vK (.slice jS aS.qG.length jR) (mrk aS.qG (1+(cnt aP.qC:Nat)+(cnt aP.qL:Nat)+(cnt aP.qB:Nat)+(cnt aS.qF:Nat))),isF true zS (.slice jB aP.qC.length jA) (mrk aP.qC (1)),isF true F36Free (.slice a36Free aP.qL.length c36Free) (mrk aP.qL (1+(cnt aP.qC:Nat))),isF true jh (.slice yM aP.qB.length yL) (mrk aP.qB (1+(cnt aP.qC:Nat)+(cnt aP.qL:Nat))),sF true F91Cells a91Cells c91Cells aS.qF,sF true jJ a91Around c91Around aS.qG,sF true vV a81Parents c81Parents aP.qC,sF true F81Free a81Free c81Free aP.qL,sF true yx a81Rules c81Rules aP.qB,zi true rF49b rx49b ((xq aP aS aMode).2.1),zi true rF24a rx24a ((xq aP aS aMode).1),zi true rF24b rx24b ((xq aP aS aMode).2.1),sF true F23Cells a23Cells c23Cells aS.qF,sF true vM a23Around c23Around aS.qG,sF true zT a17Parents c17Parents aP.qC,sF true F17Free a17Free c17Free aP.qL,sF true ji a17Rules c17Rules aP.qB,sF false Qd vS vP aP.qC,sF false FaPFree aaPFree caPFree aP.qL,sF false FaPRules jY jX aP.qB,sF false FaSCells aaSCells caSCells aS.qF,sF false Qv jy jw aS.qG]:=H.chgFacts (Fs:=[G123]) (L:=[F45Cells,vK,zS,F36Free,jh,F91Cells,jJ,vV,F81Free,yx,rF49b,rF24a,rF24b,F23Cells,vM,zT,F17Free,ji]) (A:=[Qd,FaPFree,FaPRules,FaSCells,Qv]) N126 A (x128.mono (by intro z hz;simpa using hz)) [0] [isF true G123 (.slice ra49a (((xq aP aS aMode).1).length) rc49a) (mrk ((xq aP aS aMode).1) (1))] (all_of ⟨m129,trivial⟩) [1,2,3,4,5,6,7,8,9,10,12,13,14,15,16,17,18,19,20,21,22,23,24] [0,1,2,3,4,5,6,7,8,9,10,11,12,13,14,15,16,17,18,19,20,21,22]
        replace N:=N126
        refine sp (.int .i64 (1+(cnt ((xq aP aS aMode).1):Nat))) (zjc (sps [.slice ra49b (((xq aP aS aMode).2.1).length) rc49b,.int .i64 (1+(cnt ((xq aP aS aMode).1):Nat))] ?_))
        have H0:=H
        obtain ⟨G130,hg132,hn131,H⟩:=H.freezeR (α:=yLI) 1 rfl 11 rfl qj
        replace N:Fresh w.heap.size [G130,G123,F45Cells,vK,zS,F36Free,jh,F91Cells,jJ,vV,F81Free,yx,rF24a,rF24b,F23Cells,vM,zT,F17Free,ji]:=Fresh.ice (N.pick [11,0,1,2,3,4,5,6,7,8,9,10,12,13,14,15,16,17,18]) H0 1 hg132.1 hg132.2 (H0.yz [0,1,2,3,4,5,6,7,8,9,10,12,13,14,15,16,17,18])
        clear H0
        have N133:Fresh w.heap.size [G130,G123,F45Cells,vK,zS,F36Free,jh,F91Cells,jJ,vV,F81Free,yx,rF24a,rF24b,F23Cells,vM,zT,F17Free,ji]:=N
        refine sw (o_callM #[.slice ra49b (((xq aP aS aMode).2.1).length) rc49b,.int .i64 (1+(cnt ((xq aP aS aMode).1):Nat))] rfl rfl Tryz.call19 (markInt64SS_ok w127 ((xq aP aS aMode).2.1) (1+(cnt ((xq aP aS aMode).1):Nat)) ra49b rc49b G130 (H.get 0 rfl).1 (N133.pick [0]:Fresh _ [G130]).one.2 ((H.get 0 rfl).2 rfl) qg qg) ?_)
        rintro _ w134 ⟨rfl,m136⟩ x135
        replace H:St _ _ [rr none 0 0 0 1 [],rr none 0 0 0 1 [],.box b46 [.slice a45Cells aS.qF.length c45Cells,.slice jS aS.qG.length jR] 39,.box b37 [.int .i64 aP.qJ,.slice jB aP.qC.length jA,.slice a36Free aP.qL.length c36Free,.slice yM aP.qB.length yL] 37,rr ra24a (((xq aP aS aMode).1).length) rc24a 39 2 rx24a,rr ra24b (((xq aP aS aMode).2.1).length) rc24b 22 1 rx24b,.box b3 [.slice aaSCells aS.qF.length caSCells,.slice jy aS.qG.length jw] 29,.box b1 [.int .i64 aP.qJ,.slice vS aP.qC.length vP,.slice aaPFree aP.qL.length caPFree,.slice jY aP.qB.length jX] 26] [isF true G130 (.slice ra49b (((xq aP aS aMode).2.1).length) rc49b) (mrk ((xq aP aS aMode).2.1) (1+(cnt ((xq aP aS aMode).1):Nat))),isF true G123 (.slice ra49a (((xq aP aS aMode).1).length) rc49a) (mrk ((xq aP aS aMode).1) (1)),isF true F45Cells (.slice a45Cells aS.qF.length c45Cells) (mrk aS.qF (1+(cnt aP.qC:Nat)+(cnt aP.qL:Nat)+(cnt aP.qB:Nat))),isF true vK (.slice jS aS.qG.length jR) (mrk aS.qG (1+(cnt aP.qC:Nat)+(cnt aP.qL:Nat)+(cnt aP.qB:Nat)+(cnt aS.qF:Nat))),isF true zS (.slice jB aP.qC.length jA) (mrk aP.qC (1)),isF true F36Free (.slice a36Free aP.qL.length c36Free) (mrk aP.qL (1+(cnt aP.qC:Nat))),isF true jh (.slice yM aP.qB.length yL) (mrk aP.qB (1+(cnt aP.qC:Nat)+(cnt aP.qL:Nat))),sF true F91Cells a91Cells c91Cells aS.qF,sF true jJ a91Around c91Around aS.qG,sF true vV a81Parents c81Parents aP.qC,sF true F81Free a81Free c81Free aP.qL,sF true yx a81Rules c81Rules aP.qB,zi true rF24a rx24a ((xq aP aS aMode).1),zi true rF24b rx24b ((xq aP aS aMode).2.1),sF true F23Cells a23Cells c23Cells aS.qF,sF true vM a23Around c23Around aS.qG,sF true zT a17Parents c17Parents aP.qC,sF true F17Free a17Free c17Free aP.qL,sF true ji a17Rules c17Rules aP.qB,sF false Qd vS vP aP.qC,sF false FaPFree aaPFree caPFree aP.qL,sF false FaPRules jY jX aP.qB,sF false FaSCells aaSCells caSCells aS.qF,sF false Qv jy jw aS.qG]:=H.chgFacts (Fs:=[G130]) (L:=[G123,F45Cells,vK,zS,F36Free,jh,F91Cells,jJ,vV,F81Free,yx,rF24a,rF24b,F23Cells,vM,zT,F17Free,ji]) (A:=[Qd,FaPFree,FaPRules,FaSCells,Qv]) N133 A (x135.mono (by intro z hz;simpa using hz)) [0] [isF true G130 (.slice ra49b (((xq aP aS aMode).2.1).length) rc49b) (mrk ((xq aP aS aMode).2.1) (1+(cnt ((xq aP aS aMode).1):Nat)))] (all_of ⟨m136,trivial⟩) [1,2,3,4,5,6,7,8,9,10,11,13,14,15,16,17,18,19,20,21,22,23,24] [0,1,2,3,4,5,6,7,8,9,10,11,12,13,14,15,16,17,18,19,20,21,22]
        replace N:=N133
        refine sp (.int .i64 (1+(cnt ((xq aP aS aMode).1):Nat)+(cnt ((xq aP aS aMode).2.1):Nat))) (zjc (sp (.int .i64 1) (zjc (sps [.slice ra49a (((xq aP aS aMode).1).length) rc49a,.int .i64 1] ?_))))
        have hn137:=H.isLen 1 rfl
        refine sw (oq (Qz (by rw [← hn137]) (heldStockS_ok _ (mrk ((xq aP aS aMode).1) (1)) 1 (hn137▸(H.get 1 rfl).1) (by first | exact mkd_mark _ _ | omega | (simp only [cnt_mark];first | exact mkd_mark _ _ | omega)) (by first | exact mkd_mark _ _ | omega | (simp only [cnt_mark];first | exact mkd_mark _ _ | omega)) (by first | exact mkd_mark _ _ | omega | (simp only [cnt_mark];first | exact mkd_mark _ _ | omega)))) H fun w138 H=>sp (.int .i64 (1+(cnt (mrk ((xq aP aS aMode).1) (1)):Nat))) (zjcc ?_))
        refine sps [.int .i64 (1+(cnt (mrk ((xq aP aS aMode).1) (1)):Nat)),.bool (decide ((1+(cnt (mrk ((xq aP aS aMode).1) (1)):Nat):Int) < 0))] (zjn (cD rfl (fun h140=>?_) (fun h140=>?_)))
        ·skip
         refine zcr (sp (.bool false) (zjr (t_r (ret1 (.bool false) rfl rfl ⟨_,rfl,?_,H.base⟩))))
         exfalso;first | omega | contradiction
        ·skip
         refine qZ (t_n (zcr (sps [.slice ra49b (((xq aP aS aMode).2.1).length) rc49b,.int .i64 (1+(cnt (mrk ((xq aP aS aMode).1) (1)):Nat))] ?_)))
         have hn141:=H.isLen 0 rfl
         refine sw (oq (Qz (by rw [← hn141]) (heldInt64SS_ok _ (mrk ((xq aP aS aMode).2.1) (1+(cnt ((xq aP aS aMode).1):Nat))) (1+(cnt (mrk ((xq aP aS aMode).1) (1)):Nat)) (hn141▸(H.get 0 rfl).1) (by first | exact mkd_mark _ _ | omega | (simp only [cnt_mark];first | exact mkd_mark _ _ | omega)) (by first | exact mkd_mark _ _ | omega | (simp only [cnt_mark];first | exact mkd_mark _ _ | omega)) (by first | exact mkd_mark _ _ | omega | (simp only [cnt_mark];first | exact mkd_mark _ _ | omega)))) H fun w142 H=>?_)
         refine sp (.int .i64 ((1+(cnt (mrk ((xq aP aS aMode).1) (1)):Nat))+(cnt (mrk ((xq aP aS aMode).2.1) (1+(cnt ((xq aP aS aMode).1):Nat))):Nat))) (zjcc (sps [.int .i64 ((1+(cnt (mrk ((xq aP aS aMode).1) (1)):Nat))+(cnt (mrk ((xq aP aS aMode).2.1) (1+(cnt ((xq aP aS aMode).1):Nat))):Nat)),.bool (decide (((1+(cnt (mrk ((xq aP aS aMode).1) (1)):Nat))+(cnt (mrk ((xq aP aS aMode).2.1) (1+(cnt ((xq aP aS aMode).1):Nat))):Nat):Int) < 0))] (zjn (cD rfl (fun h144=>?_) (fun h144=>?_)))))
         ·skip
          refine zcr (sp (.bool false) (zjr (t_r (ret1 (.bool false) rfl rfl ⟨_,rfl,?_,H.base⟩))))
          exfalso;first | omega | contradiction
         ·skip
          refine qZ (t_n (zcc (sps [.int .i64 ((1+(cnt (mrk ((xq aP aS aMode).1) (1)):Nat))+(cnt (mrk ((xq aP aS aMode).2.1) (1+(cnt ((xq aP aS aMode).1):Nat))):Nat)),.int .i64 (1+(cnt ((xq aP aS aMode).1):Nat)+(cnt ((xq aP aS aMode).2.1):Nat)),.bool (((1+(cnt (mrk ((xq aP aS aMode).1) (1)):Nat))+(cnt (mrk ((xq aP aS aMode).2.1) (1+(cnt ((xq aP aS aMode).1):Nat))):Nat):Int) != (1+(cnt ((xq aP aS aMode).1):Nat)+(cnt ((xq aP aS aMode).2.1):Nat)))] (zjn ?_))))
          refine xH (((1+(cnt (mrk ((xq aP aS aMode).1) (1)):Nat))+(cnt (mrk ((xq aP aS aMode).2.1) (1+(cnt ((xq aP aS aMode).1):Nat))):Nat):Int) != (1+(cnt ((xq aP aS aMode).1):Nat)+(cnt ((xq aP aS aMode).2.1):Nat))) rfl (fun h145=>?_) (fun h145=>?_)
          ·skip
           replace h145:=bne_iff_ne.1 h145
           refine zcr (sp (.bool false) (zjr (t_r (ret1 (.bool false) rfl rfl ⟨_,rfl,?_,H.base⟩))))
           exfalso;first | omega | contradiction | exact h145 (by simp only [cnt_mark])
          ·skip
           replace h145:=xA h145
           refine qZ (t_n (xQ ?_))
           refine vz rfl H fun H=>rt 0 (.agg #[.int .i64 aP.qJ,.slice vS aP.qC.length vP,.slice aaPFree aP.qL.length caPFree,.slice jY aP.qB.length jX]) (yV (cs:=[.int .i64 aP.qJ,.slice vS aP.qC.length vP,.slice aaPFree aP.qL.length caPFree,.slice jY aP.qB.length jX]) Tryz.isAgg26 Tryz.sizeOf26 rfl (fun _ h=>qO (h.cells 7 rfl) 0 4)) H ?_
           refine rt 2 (.agg #[.slice aaSCells aS.qF.length caSCells,.slice jy aS.qG.length jw]) (yV (cs:=[.slice aaSCells aS.qF.length caSCells,.slice jy aS.qG.length jw]) Tryz.isAgg29 Tryz.sizeOf29 rfl (fun _ h=>qO (h.cells 6 rfl) 0 2)) H ?_
           refine rtp 4 (.int .i64 aMode) H ?_
           refine ro 1 rfl ?_
           have sz147:=H.base.size
           have lt148:=H.ltN (L:=[G130,G123,F45Cells,vK,zS,F36Free,jh,F91Cells,jJ,vV,F81Free,yx,rF24a,rF24b,F23Cells,vM,zT,F17Free,ji]) [0,1,2,3,4,5,6,7,8,9,10,11,12,13,14,15,16,17,18]
           refine oc (toPassing_ok _ aP (H.get 19 rfl).1 (H.get 20 rfl).1 (H.get 21 rfl).1 qh) ?_
           rintro v152 w150 r152 x151
           obtain ⟨a152Parents,c152Parents,F152Parents,a152Free,c152Free,F152Free,a152Rules,c152Rules,F152Rules,rfl,f152,H⟩:=H.add_PassingD x151 r152
           replace N:=N.cons f152 sz147 lt148
           replace N:=N.split
           replace N:=N.split
           refine ⟨H.pick [0,1,2,3,4,5,6,7] [3,4,5,6,7,8,9,10,11,12,13,14,15,16,17,18,19,20,21,22,23,24,25,26],(ro 3 rfl ?_)⟩
           have sz153:=H.base.size
           have lt154:=H.ltN (L:=[F152Parents,F152Free,F152Rules,G130,G123,F45Cells,vK,zS,F36Free,jh,F91Cells,jJ,vV,F81Free,yx,rF24a,rF24b,F23Cells,vM,zT,F17Free,ji]) [0,1,2,3,4,5,6,7,8,9,10,11,12,13,14,15,16,17,18,19,20,21]
           refine oc (toStock_ok _ aS (H.get 25 rfl).1 (H.get 26 rfl).1 qh) ?_
           rintro v158 w156 r158 x157
           obtain ⟨a158Cells,c158Cells,F158Cells,a158Around,c158Around,F158Around,rfl,f158,H⟩:=H.add_StockD x157 r158
           replace N:=N.cons f158 sz153 lt154
           replace N:=N.split
           refine ⟨H.pick [0,1,2,3,4,5,6,7] [5,6,7,8,9,10,11,12,13,14,15,16,17,18,19,20,21,22,23,24,25,26,27,28],(ro 5 rfl ?_)⟩
           have sz162:=H.base.size
           have lt163:=H.ltN (L:=[F158Cells,F158Around,F152Parents,F152Free,F152Rules,G130,G123,F45Cells,vK,zS,F36Free,jh,F91Cells,jJ,vV,F81Free,yx,rF24a,rF24b,F23Cells,vM,zT,F17Free,ji]) [0,1,2,3,4,5,6,7,8,9,10,11,12,13,14,15,16,17,18,19,20,21,22,23]
           refine oc (implGraph_ok _ aP aS aMode (H.get 2 rfl).1 (H.get 3 rfl).1 (H.get 4 rfl).1 (H.get 0 rfl).1 (H.get 1 rfl).1) ?_
           rintro _ w160 ⟨ra159a,rn159a,rc159a,rx159a,rF159a,ra159b,rn159b,rc159b,rx159b,rF159b,rfl,M,K⟩ _
           replace N:=N.merge sz162 lt163 M
           replace H:=H.merge K M
           obtain rfl:=H.zy (α:=xk) 0 rfl 0 rfl qj
           obtain rfl:=H.zy (α:=yLI) 1 rfl 1 rfl qj
           refine ⟨H.pick [2,3,4,5,6,7,8,9] [7,8,9,10,11,12,13,14,15,16,17,18,19,20,21,22,23,24,25,26,27,28,29,30],?_⟩
           have S:=H.zn [2,3,4,5,6,7,8,9] [7,8,9,10,11,12,13,14,15,16,17,18,19,20,21,22,23,24,25,26,27,28,29,30]
           refine rtp 6 (.tuple #[.slice ra159a (((xq aP aS aMode).1).length) rc159a,.slice ra159b (((xq aP aS aMode).2.1).length) rc159b,.int .i64 ((xq aP aS aMode).2.2)]) S ?_
           refine rtp 7 (.slice ra159a (((xq aP aS aMode).1).length) rc159a) S ?_
           refine rtp 8 (.slice ra159b (((xq aP aS aMode).2.1).length) rc159b) S ?_
           refine rtp 9 (.int .i64 ((xq aP aS aMode).2.2)) S ?_
           refine rtp 10 (.slice ra159a (((xq aP aS aMode).1).length) rc159a) S ?_
           refine rtp 11 (.slice ra159b (((xq aP aS aMode).2.1).length) rc159b) S ?_
           refine rtp 12 (.int .i64 ((xq aP aS aMode).2.2)) S ?_
           refine xG qi (t_n (zcc (sps [.slice ra159a (((xq aP aS aMode).1).length) rc159a,.slice ra24a (((xq aP aS aMode).1).length) rc24a] ?_)))
           obtain ⟨G166,hn167,h168⟩:=H.rowIsR (α:=xk) 0 rfl 0 rfl qj
           obtain ⟨G169,hn170,h171⟩:=H.rowIsR (α:=xk) 6 rfl 19 rfl qj
           refine sw (oq (eqStockS_ok _ ((xq aP aS aMode).1) ((xq aP aS aMode).1) h168 h171) H fun w172 H=>sps [.bool (!(decide (((xq aP aS aMode).1)=((xq aP aS aMode).1)))),.bool (!(decide (((xq aP aS aMode).1)=((xq aP aS aMode).1))))] ?_)
           cases h174:(!(decide (((xq aP aS aMode).1)=((xq aP aS aMode).1))))
           ·skip
            replace h174:=xn h174
            refine qX 137 rfl rfl (sp (.slice ra159b (((xq aP aS aMode).2.1).length) rc159b) (qX 137 rfl rfl (sp (.slice ra24b (((xq aP aS aMode).2.1).length) rc24b) (qX 137 rfl rfl ?_))))
            obtain ⟨G175,hn176,h177⟩:=H.rowIsR (α:=yLI) 1 rfl 1 rfl qj
            obtain ⟨G178,hn179,h180⟩:=H.rowIsR (α:=yLI) 7 rfl 20 rfl qj
            refine sw (oq (eqInt64SS_ok _ ((xq aP aS aMode).2.1) ((xq aP aS aMode).2.1) h177 h180) H fun w181 H=>qX 137 rfl rfl (sps [.bool (!(decide (((xq aP aS aMode).2.1)=((xq aP aS aMode).2.1)))),.bool (!(decide (((xq aP aS aMode).2.1)=((xq aP aS aMode).2.1)))),.bool (!(decide (((xq aP aS aMode).2.1)=((xq aP aS aMode).2.1))))] ?_))
            cases h183:(!(decide (((xq aP aS aMode).2.1)=((xq aP aS aMode).2.1))))
            ·skip
             replace h183:=xn h183
             refine qX 143 rfl rfl (sp (.int .i64 ((xq aP aS aMode).2.2)) (qX 143 rfl rfl (sp (.int .i64 ((xq aP aS aMode).2.2)) (qX 143 rfl rfl (sps [.bool (((xq aP aS aMode).2.2:Int) != ((xq aP aS aMode).2.2)),.bool (((xq aP aS aMode).2.2:Int) != ((xq aP aS aMode).2.2))] (zjn (xH (((xq aP aS aMode).2.2:Int) != ((xq aP aS aMode).2.2)) rfl (fun h=>absurd rfl (bne_iff_ne.1 h)) (fun h184=>?_))))))))
             replace h184:=xA h184
             refine qZ (t_n (zcr (sp (.int .i64 1) (zjc (sps [.slice ra49a (((xq aP aS aMode).1).length) rc49a,.int .i64 1] ?_)))))
             have hn185:=H.isLen 8 rfl
             refine sw (oq (Qz (by rw [← hn185]) (heldStockS_ok _ (mrk ((xq aP aS aMode).1) (1)) 1 (hn185▸(H.get 8 rfl).1) (by first | exact mkd_mark _ _ | omega | (simp only [cnt_mark];first | exact mkd_mark _ _ | omega)) (by first | exact mkd_mark _ _ | omega | (simp only [cnt_mark];first | exact mkd_mark _ _ | omega)) (by first | exact mkd_mark _ _ | omega | (simp only [cnt_mark];first | exact mkd_mark _ _ | omega)))) H fun w186 H=>sp (.int .i64 (1+(cnt (mrk ((xq aP aS aMode).1) (1)):Nat))) (zjcc ?_))
             refine sps [.int .i64 (1+(cnt (mrk ((xq aP aS aMode).1) (1)):Nat)),.bool (decide ((1+(cnt (mrk ((xq aP aS aMode).1) (1)):Nat):Int) < 0))] (zjn (cD rfl (fun h188=>?_) (fun h188=>?_)))
             ·skip
              refine zcr (sp (.bool false) (zjr (t_r (ret1 (.bool false) rfl rfl ⟨_,rfl,?_,H.base⟩))))
              exfalso;first | omega | contradiction
             ·skip
              refine qZ (t_n (zcr (sps [.slice ra49b (((xq aP aS aMode).2.1).length) rc49b,.int .i64 (1+(cnt (mrk ((xq aP aS aMode).1) (1)):Nat))] ?_)))
              have hn189:=H.isLen 7 rfl
              refine sw (oq (Qz (by rw [← hn189]) (heldInt64SS_ok _ (mrk ((xq aP aS aMode).2.1) (1+(cnt ((xq aP aS aMode).1):Nat))) (1+(cnt (mrk ((xq aP aS aMode).1) (1)):Nat)) (hn189▸(H.get 7 rfl).1) (by first | exact mkd_mark _ _ | omega | (simp only [cnt_mark];first | exact mkd_mark _ _ | omega)) (by first | exact mkd_mark _ _ | omega | (simp only [cnt_mark];first | exact mkd_mark _ _ | omega)) (by first | exact mkd_mark _ _ | omega | (simp only [cnt_mark];first | exact mkd_mark _ _ | omega)))) H fun w190 H=>?_)
              refine sp (.int .i64 ((1+(cnt (mrk ((xq aP aS aMode).1) (1)):Nat))+(cnt (mrk ((xq aP aS aMode).2.1) (1+(cnt ((xq aP aS aMode).1):Nat))):Nat))) (zjcc (sps [.int .i64 ((1+(cnt (mrk ((xq aP aS aMode).1) (1)):Nat))+(cnt (mrk ((xq aP aS aMode).2.1) (1+(cnt ((xq aP aS aMode).1):Nat))):Nat)),.bool (decide (((1+(cnt (mrk ((xq aP aS aMode).1) (1)):Nat))+(cnt (mrk ((xq aP aS aMode).2.1) (1+(cnt ((xq aP aS aMode).1):Nat))):Nat):Int) < 0))] (zjn (cD rfl (fun h192=>?_) (fun h192=>?_)))))
              ·skip
               refine zcr (sp (.bool false) (zjr (t_r (ret1 (.bool false) rfl rfl ⟨_,rfl,?_,H.base⟩))))
               exfalso;first | omega | contradiction
              ·skip
               refine qZ (t_n (zcc (sps [.int .i64 ((1+(cnt (mrk ((xq aP aS aMode).1) (1)):Nat))+(cnt (mrk ((xq aP aS aMode).2.1) (1+(cnt ((xq aP aS aMode).1):Nat))):Nat)),.int .i64 (1+(cnt ((xq aP aS aMode).1):Nat)+(cnt ((xq aP aS aMode).2.1):Nat)),.bool (((1+(cnt (mrk ((xq aP aS aMode).1) (1)):Nat))+(cnt (mrk ((xq aP aS aMode).2.1) (1+(cnt ((xq aP aS aMode).1):Nat))):Nat):Int) != (1+(cnt ((xq aP aS aMode).1):Nat)+(cnt ((xq aP aS aMode).2.1):Nat)))] (zjn ?_))))
               refine xH (((1+(cnt (mrk ((xq aP aS aMode).1) (1)):Nat))+(cnt (mrk ((xq aP aS aMode).2.1) (1+(cnt ((xq aP aS aMode).1):Nat))):Nat):Int) != (1+(cnt ((xq aP aS aMode).1):Nat)+(cnt ((xq aP aS aMode).2.1):Nat))) rfl (fun h=>absurd h145 (bne_iff_ne.1 h)) (fun h193=>?_)
               replace h193:=xA h193
               refine qZ (t_n (zcr (sp (.bool true) (zjr (ret1 (.bool true) rfl rfl ⟨_,rfl,?_,H.base⟩)))))
               rfl
            · exact absurd (xu h183) qo
           · exact absurd (xu h174) qo
       · exact absurd (xu h121) qo
      · exact absurd (xu h112) qo
     ·skip
      replace h103:=of_decide_eq_true h103
      refine zI [88,89,90,91] (sps [.bool true,.bool true] (zI [94,95,96,97] (sps [.bool true,.bool true] (zI [100,101,102] (sp (.bool true) (zjn (xH true rfl (fun _=>zcr (sp (.bool false) (zjr (t_r (ret1 (.bool false) rfl rfl ⟨_,rfl,?_,H.base⟩))))) (fun h=>absurd h qj))))))))
      exfalso;first | omega | contradiction
    · exact absurd (xu h73) qo
   · exact absurd (xu h64) qo
end
section
open Go.ChangeShapes Go.WideShapes Go.ChangeAt Go.RowKit Go.Joins
set_option linter.unusedVariables false
set_option linter.unusedSimpArgs false
def Reads (P:Program) (t:TypeId) (α:Type) [qQ α]:Prop:=
  ∀ {H:Type} {enc:TypeId×Value→H} {w:World} {spare:Nat→Bool} {held:Bool} {fuel:Nat} {cs:List Value} {x:DataW H×List MemPlace},
    DataW.trod enc P w 0 spare held fuel t cs=some x→∃ F,∃ y:α,qQ.rep w F cs y

theorem reads_int {P:Program} {t:TypeId} (hu:P.underlying t=some (.int .i64)):Reads P t Int:=fun h=>by
  obtain ⟨n,rfl,_⟩:=DataW.trod_int hu h
  exact ⟨[],n,rfl,rfl⟩
theorem reads_bool {P:Program} {t:TypeId} (hu:P.underlying t=some .bool):Reads P t Bool:=fun h=>by
  obtain ⟨b,rfl,_⟩:=DataW.trod_bool hu h
  exact ⟨[],b,rfl,rfl⟩

theorem cell_spot {w:World} {a:Addr} {v:Value} (h:w.cell? a=some v):a.spot=none:=by
  unfold World.cell? at h
  split at h
  · split at h
    · cases h
    · rename_i hs;simpa using hs
  · cases h

theorem Qi {α:Type} [qQ α] {P:Program} {t e:TypeId} (hu:P.underlying t=some (.slice e)) (hc:P.cellsOf e=qQ.size α) (hz:0 < qQ.size α) (he:Reads P e α):Reads P t (List α):=by
  intro H enc w spare held fuel cs x h
  rcases DataW.trod_slice hu h with ⟨rfl,_⟩ | ⟨a,len,cap,elems,rest,n,_,rfl,_,_,hlc,hcm,hel,hget,_⟩
  · exact ⟨[],[],none,0,rfl,by simp,Or.inl ⟨rfl,rfl⟩⟩
  · have hm:cap≤9223372036854775807:=by unfold maxLen at hcm;omega
    rcases Nat.eq_zero_or_pos len with h0 | h0
    · subst h0
      exact ⟨[],[],some a,cap,rfl,by simp,Or.inl ⟨rfl,rfl⟩⟩
    · have hone:∀ i,i < len→∃ ci Fi,∃ y:α,w.cells? 0 (a.add (i * qQ.size α)) (qQ.size α)=some ci∧qQ.rep w Fi ci y:=by
        intro i hi
        have hg:=hget i hi
        rw [hc] at hg
        have hs:elems[i]? =some (elems[i]'(by omega)):=List.getElem?_eq_getElem qg
        rw [hs] at hg
        obtain ⟨ci,h1,h2⟩:=Option.bind_eq_some_iff.1 hg
        obtain ⟨Fi,y,hr⟩:=he h2
        exact ⟨ci,Fi,y,h1,hr⟩
      have hsp:a.spot=none:=by
        obtain ⟨ci,Fi,y,h1,_⟩:=hone 0 h0
        obtain ⟨_,hl,hcell⟩:=World.cells?_some h1
        have:=hcell 0 hz
        rw [List.getElem?_eq_getElem (show 0 < ci.length by omega)] at this
        have:=cell_spot this
        simpa [Addr.add] using this
      obtain ⟨b,off,sp⟩:=a
      simp only at hsp
      subst hsp
      have hadd:∀ i j:Nat,((⟨b,off,none⟩:Addr).add (i * qQ.size α)).add j=⟨b,off+i * qQ.size α+j,none⟩:=fun i j=>by simp [Addr.add_mid]
      have hall:∀ m,m≤len→∃ F vs,∃ l:List α,l.length=m∧reps w F vs l∧zN w b off vs:=by
        intro m
        induction m with
        | zero=>exact fun _=>⟨[],[],[],rfl,⟨rfl,rfl⟩,fun i v hv=>by simp at hv⟩
        | succ m ih=>
          intro hm'
          obtain ⟨F,vs,l,hl,hr,hcl⟩:=ih qg
          obtain ⟨ci,Fi,y,h1,h2⟩:=hone m qg
          obtain ⟨_,hcl2,hcell⟩:=World.cells?_some h1
          refine ⟨F++Fi,vs++ci,l++[y],by simp [hl],yG hr (reps_one h2),fun i v hv=>?_⟩
          have hvl:=reps_len hr
          rw [hl] at hvl
          rcases Nat.lt_or_ge i vs.length with hi | hi
          · rw [List.getElem?_append_left hi] at hv
            exact hcl i v hv
          · rw [List.getElem?_append_right hi] at hv
            have hi2:i - vs.length < ci.length:=by
              rcases Nat.lt_or_ge (i - vs.length) ci.length with h | h
              · exact h
              · simp [h] at hv
            have:=hcell (i - vs.length) qg
            rw [hadd,hv] at this
            rw [← this]
            congr 1
            rw [show off+i=off+m * qQ.size α+(i - vs.length) by omega]
      obtain ⟨F,vs,l,hl,hr,hcl⟩:=hall len (Nat.le_refl _)
      have hb:b < w.heap.size:=by
        have h1:0 < vs.length:=by rw [reps_len hr,hl];exact Nat.mul_pos h0 hz
        exact World.block_lt_of_cell? w _ (hcl 0 _ (List.getElem?_eq_getElem h1))
      subst hl
      exact ⟨b :: F,l,some ⟨b,off,none⟩,cap,rfl,⟨by omega,hlc⟩,Or.inr ⟨b,off,F,vs,rfl,rfl,hb,hr,hcl⟩⟩

theorem yH {n:Nat} {cs:List Value} (h:cs.length=n+1):∃ c cs',cs=c :: cs' ∧cs'.length=n:=by
  cases cs with
  | nil=>simp at h
  | cons c cs=>exact ⟨c,cs,rfl,by simpa using h⟩
theorem yY {P:Program} {H:Type} {enc:TypeId×Value→H} {w:World} {spare:Nat→Bool} {held:Bool} {fuel:Nat} {t:TypeId} {fs:Array Field} {cs:List Value} {x:DataW H×List MemPlace} (hu:P.underlying t=some (.struct fs))
    (h:DataW.trod enc P w 0 spare held fuel t cs=some x) (i off:Nat) {f:Field} (hf:fs[i]? =some f) (ho:f.offset=off) {α:Type} [qQ α] (hr:Reads P f.type α) (h1:qQ.size α=1) (hc:P.cellsOf f.type=1):
    ∃ F,∃ y:α,∃ v,cs[off]? =some v∧qQ.rep w F [v] y:=by
  obtain ⟨xs,n,_,_,hl,hxl,hall⟩:=DataW.trod_struct hu h
  have hi:i < xs.length:=by
    rw [hxl]
    exact (Array.getElem?_eq_some_iff.1 hf).1
  have hg:=hall i f hf
  rw [List.getElem?_eq_getElem hi,hc,ho] at hg
  obtain ⟨F,y,hy⟩:=hr hg
  have hlen:=qQ.len hy
  rw [h1] at hlen
  obtain ⟨v,cs',e,hl'⟩:=yH hlen
  obtain rfl:=List.eq_nil_of_length_eq_zero hl'
  rw [e] at hy
  refine ⟨F,y,v,?_,hy⟩
  have:(List.take 1 (List.drop off cs))[0]? =some v:=by rw [e];rfl
  simpa using this
theorem arg_int {P:Program} {H:Type} {enc:TypeId×Value→H} {w:World} {spare:Nat→Bool} {held:Bool} {b0:Nat} {t:TypeId} {v:Value} {d:DataW H} {p:List MemPlace} (hu:P.underlying t=some (.int .i64))
    (hv:Value.okWide P w .any b0 t v) (h:DataW.Trod enc P w 0 spare held t v d p):∃ n:Int,v=.int .i64 n∧ -9223372036854775808≤n∧n≤9223372036854775807:=by
  obtain ⟨n,rfl⟩:=okWide_int hu hv
  obtain ⟨fuel,hf⟩:=h
  obtain ⟨m,hm,_,hw⟩:=DataW.trod_int hu hf
  have hm' :n=m:=by simpa [Value.cells] using hm
  subst hm'
  exact ⟨n,rfl,by simp [Lit.wf,IntKind.min,IntKind.max,IntKind.signed,IntKind.bits] at hw;omega⟩
theorem arg_struct {P:Program} {α:Type} [qQ α] {H:Type} {enc:TypeId×Value→H} {w:World} {spare:Nat→Bool} {held:Bool} {b0:Nat} {t:TypeId} {fs:Array Field} {v:Value} {d:DataW H} {p:List MemPlace} (hu:P.underlying t=some (.struct fs)) (hr:Reads P t α)
    (hv:Value.okWide P w .any b0 t v) (h:DataW.Trod enc P w 0 spare held t v d p):∃ (cs:List Value) (F:yLN) (x:α),v=.agg cs.toArray∧qQ.rep w F cs x:=by
  obtain ⟨cs,rfl,_⟩:=okWide_struct hu hv
  obtain ⟨fuel,hf⟩:=h
  obtain ⟨F,x,hx⟩:=hr hf
  exact ⟨cs.toList,F,x,by simp,hx⟩
theorem slice_is {α:Type} [qQ α] {w:World} {F:yLN} {v:Value} {l:List α} (h:qQ.rep w F [v] l):∃ a c,v=.slice a l.length c∧qQ.rep w F [.slice a l.length c] l:=by
  obtain ⟨a,c,hc,_⟩:=id h
  simp only [List.cons.injEq,and_true] at hc
  exact ⟨a,c,hc,hc▸h⟩
section
variable {H : Type} {enc : TypeId × Value → H} {P : Program}

theorem trodAll_below (hl:laidOutB P=true) {W W' :World} (hb:Below W.heap.size W W'):
    ∀ (ts:List TypeId) (vs:List Value) (ds:List (DataW H)) (ps:List MemPlace),(∀ t∈ts,P.readableRec t=true∧t < P.types.size)→
      DataW.TrodAll enc P W 0 (fun _=>true) true ts vs ds ps→(∀ x∈ps,x.block < W.heap.size)→
      DataW.TrodAll enc P W' 0 (fun b=>decide (b < W.heap.size)) true ts vs ds ps
  | [],vs,ds,ps,_,h,_=>by
    obtain ⟨rfl,rfl,rfl⟩:=trodAll_nil h
    exact trodAll_mk0
  | t :: ts,vs,ds,ps,hr,h,hp=>by
    obtain ⟨v,vs',d,ds',p,q,rfl,rfl,rfl,h0,h1⟩:=trodAll_cons h
    have ht:=hr t (List.mem_cons_self ..)
    exact trodAll_cons_mk (Below.trod hl ht.1 ht.2 h0 hb (fun x hx=>hp x (List.mem_append_left _ hx)))
      (trodAll_below hl hb ts vs' ds' q (fun t' ht' =>hr t' (List.mem_cons_of_mem _ ht')) h1 (fun x hx=>hp x (List.mem_append_right _ hx)))

theorem post_law {f:Func} {s:ChangeSpec} {W W' :World} {args:Array Value} {tb:TypeId} {ds gs:List (DataW H)} {before:List MemPlace}
    (hW:DataW.Whole enc P f.params.toList s.vars false W args.toList ds gs before) (hv:s.vars=[])
    (hs:s.fn H (ds++[])={ results:=[.lit (.bool true)],args:=ds }) (hr:f.resultTypes=#[tb]) (hu:P.underlying tb=some .bool)
    (hl:laidOutB P=true) (hts:∀ t∈f.params.toList,P.readableRec t=true∧t < P.types.size) (hb:Below W.heap.size W W'):
    s.post enc P f false true false false W args (.bool true) W' :=by
  have hW' :=hW
  obtain ⟨p,q,hA,hV,rfl,hz,hn⟩:=hW
  rw [hv] at hV
  obtain ⟨rfl,rfl⟩:=trodVars_none hV
  have hlt:∀ x∈p++[],x.block < W.heap.size:=fun x hx=>hW'.lt x hx
  refine ⟨ds,[],p++[],[],p,[],hW',?_,?_,?_,World.keptBut_mono (fun x hx=>⟨hx,Or.inr (Or.inl (by simpa using hx))⟩) (hb.frame (·∈p++[])),fun h=>by cases h⟩
  · rw [hs,hr]
    simp only [Value.resultList]
    exact trodAll_mk1 (shut_bool hu true)
  · rw [hs]
    exact trodAll_below hl hb _ _ _ _ hts hA (fun x hx=>hlt x (by simpa using hx))
  · rw [hv,hs]
    exact rfl
end
end
end Go.Proofs.YtkgdkfkgnodheaaGreat
