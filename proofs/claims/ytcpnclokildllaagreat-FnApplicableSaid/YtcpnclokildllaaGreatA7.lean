/- Walks and laws, printed by program and by hand: what each function comes to, for all arguments, part 7. -/
import Derived.Test.YtcpnclokildllaaGreatA6
import Derived.Test.YtcpnclokildllaaGreatRows
import Derived.ProofKit
import Derived.OpenShut
import Derived.Carry
import Derived.BigQuiet
import Derived.Lib.SmallJoins
namespace Go.Proofs.YtcpnclokildllaaGreat
open Go.Proofs.Tryz
set_option linter.unusedVariables false
set_option linter.unusedSimpArgs false
open Go.Proofs.YtcpnclokildllaaGreat.Tot (tot)
open Go.Proofs.YtcpnclokildllaaGreat.Mark (cnt mrk mkd mkd_mark cnt_mark)
section
open Go.RowKit
set_option linter.unusedVariables false
set_option linter.unusedSimpArgs false
set_option maxRecDepth 100000
set_option maxHeartbeats 4000000
variable {qC qK qQ qY qL : Nat}
theorem l03Succ_ok (w:World) (s:qI) (t:qP) {bs os:Nat} {qE:yOA} {xe:yLN} {qO:yOA} {xE:yLN} {bt ot:Nat} {qU:yOA} {xO:yLN} {xf:yOA} {zo:yLN} {qM:yOA} {xB:yLN} (hs:jk w bs os [.int .i64 s.xh,Sv qE s.qA.length qC,Sv qO s.qB.length qK]) (qZ:qX.rep w xe [Sv qE s.qA.length qC] s.qA) (xC:qX.rep w xE [Sv qO s.qB.length qK] s.qB) (ht:jk w bt ot [Sv qU t.qG.length qQ,Sv xf t.qH.length qY,Sv qM t.qF.length qL]) (xQ:qX.rep w xO [Sv qU t.qG.length qQ] t.qG) (zA:qX.rep w zo [Sv xf t.qH.length qY] t.qH) (xH:qX.rep w xB [Sv qM t.qF.length qL] t.qF) (p0:zQ s) (p1:xI s t):Calls Tryz.prog 91 #[.pointer (some ⟨bs,os,none⟩),.pointer (some ⟨bt,ot,none⟩)] w (Ret (fun v w' =>∃ (ra0:yOA) (rn0:Nat) (rc0:Nat) (rx0:List Value) (rF0:yLN),v=.tuple #[Sv ra0 rn0 rc0,.int .i64 ((QR s t).2)]∧Fresh w.heap.size [rF0]∧St w w' [rr ra0 rn0 rc0 31 3 rx0] [xN true rF0 rx0 ((QR s t).1)]) w):=by
 refine en Tryz.func91 Tryz.ntmps91 ?_
 have H:=(((((((St.start w).arg xH).arg zA).arg xQ).Vf ht).arg xC).arg qZ).Vf hs
 have zX:=qV qZ
 have jo:=qV xC
 have yC:=qV xQ
 have Qm:=qV zA
 have jH:=qV xH
 clear hs qZ xC ht xQ zA xH
 have N:=Fresh.nil w.heap.size
 refine zcr (sps [Sv none 0 0,.int .i64 0] (zjcc (sps [.pointer (some ⟨bs,os,none⟩),.pointer (some ⟨bt,ot,none⟩)] (sw (oq (l03Halted_ok _ s t (qJ (H.get 0 rfl) 0 3) (H.get 1 rfl).1 (H.get 2 rfl).1 (qJ (H.get 3 rfl) 0 3) (H.get 4 rfl).1 (H.get 5 rfl).1 (H.get 6 rfl).1 qg qg) H fun w2 H=>zjn (cP rfl (fun h4=>?_) (fun h4=>?_)))))))
 ·skip
  refine zcr (sw (je H underlying60 ti31 fun b5 w6 H=>sps [Sv (some ⟨b5,0,none⟩) 0 0,.int .i64 0] (zjr (t_r ?_))))
  replace H:=H.boxRow 0 rfl 3 0 rfl qj
  replace H:=H.vT (α:=qP)
  replace H:St _ _ [rr (some ⟨b5,0,none⟩) 0 0 31 3 []] [xN true [] [] ([]:List qP),atF bs os [.int .i64 s.xh,Sv qE s.qA.length qC,Sv qO s.qB.length qK],sF false xe qE qC s.qA,sF false xE qO qK s.qB,atF bt ot [Sv qU t.qG.length qQ,Sv xf t.qH.length qY,Sv qM t.qF.length qL],sF false xO qU qQ t.qG,sF false zo xf qY t.qH,sF false xB qM qL t.qF]:=H
  refine ret2 (Sv (some ⟨b5,0,none⟩) 0 0) (.int .i64 0) rfl rfl rfl ⟨_,rfl,?_,H.base⟩
  rw [succ_h (by first | assumption | exact XA.1 qf)]
  exact ⟨(some ⟨b5,0,none⟩),0,0,[],[],rfl,N.emp,H.pick [0] [0]⟩
 ·skip
  refine xk (t_n (zcr (sps [.pointer (some ⟨bs,os,none⟩),.pointer (some ⟨bt,ot,none⟩)] ?_)))
  have sz10:=H.base.size
  refine sw (oc (l03Choices_ok _ s t (qJ (H.get 0 rfl) 0 3) (H.get 1 rfl).1 (H.get 2 rfl).1 (qJ (H.get 3 rfl) 0 3) (H.get 4 rfl).1 (H.get 5 rfl).1 (H.get 6 rfl).1 qg qg) ?_)
  rintro _ w8 ⟨ra7a,rn7a,rc7a,rx7a,rF7a,rfl,M,K⟩ _
  replace N:=N.merge sz10 qm M
  replace H:=H.merge K M
  obtain rfl:=H.x8 (α:=yLI) 0 rfl 0 rfl qj
  refine sps [.tuple #[Sv ra7a (((vJ s t).1).length) rc7a,.int .i64 ((vJ s t).2)],Sv ra7a (((vJ s t).1).length) rc7a,.int .i64 ((vJ s t).2),Sv ra7a (((vJ s t).1).length) rc7a,.int .i64 ((vJ s t).2)] (zjcc (sps [.int .i64 ((vJ s t).2),Bv (((vJ s t).2:Int) != 0)] (zjn (xK (((vJ s t).2:Int) != 0) rfl (fun h13=>?_) (fun h13=>?_)))))
  ·skip
   replace h13:=bne_iff_ne.1 h13
   refine zcr (sw (je H underlying60 ti31 fun b14 w15 H=>sps [.int .i64 ((vJ s t).2),Sv (some ⟨b14,0,none⟩) 0 0,.int .i64 ((vJ s t).2)] (zjr (t_r ?_))))
   replace H:=H.boxRow 0 rfl 3 0 rfl qj
   replace H:=H.vT (α:=qP)
   replace H:St _ _ [rr (some ⟨b14,0,none⟩) 0 0 31 3 [],rr ra7a (((vJ s t).1).length) rc7a 24 1 rx7a] [xN true [] [] ([]:List qP),xN true rF7a rx7a ((vJ s t).1),atF bs os [.int .i64 s.xh,Sv qE s.qA.length qC,Sv qO s.qB.length qK],sF false xe qE qC s.qA,sF false xE qO qK s.qB,atF bt ot [Sv qU t.qG.length qQ,Sv xf t.qH.length qY,Sv qM t.qF.length qL],sF false xO qU qQ t.qG,sF false zo xf qY t.qH,sF false xB qM qL t.qF]:=H
   refine ret2 (Sv (some ⟨b14,0,none⟩) 0 0) (.int .i64 ((vJ s t).2)) rfl rfl rfl ⟨_,rfl,?_,H.base⟩
   rw [succ_c ‹_›]
   exact ⟨(some ⟨b14,0,none⟩),0,0,[],[],rfl,(N.emp.pick [0]),H.pick [0] [0]⟩
  ·skip
   replace h13:=xF h13
   refine xk (t_n (zcr (sps [.pointer (some ⟨bs,os,none⟩),.pointer (some ⟨bt,ot,none⟩),Sv ra7a (((vJ s t).1).length) rc7a] ?_)))
   obtain ⟨G16,hn17,h18⟩:=H.QK (α:=yLI) 0 rfl 0 rfl qj
   have ln:=cho_len s t
   have cc:=fun q (hq:q < (vJ s t).1.length)=>(cho_ok p0 p1 hq).1
   have ci:=fun q (hq:q < (vJ s t).1.length)=>(cho_ok p0 p1 hq).2
   have sz22:=H.base.size
   have lt23:=H.ltN (L:=[rF7a]) [0]
   refine sw (oc (l03Next_ok _ s t ((vJ s t).1) (qJ (H.get 1 rfl) 0 3) (H.get 2 rfl).1 (H.get 3 rfl).1 (qJ (H.get 4 rfl) 0 3) (H.get 5 rfl).1 (H.get 6 rfl).1 (H.get 7 rfl).1 h18 qg qg qg qg) ?_)
   rintro _ w20 ⟨ra19a,rn19a,rc19a,rx19a,rF19a,rfl,M,K⟩ _
   replace N:=N.merge sz22 lt23 M
   replace H:=H.merge K M
   obtain rfl:=H.x8 (α:=qP) 0 rfl 0 rfl qj
   refine sps [Sv ra19a (((yK s t ((vJ s t).1)).1).length) rc19a,.int .i64 ((yK s t ((vJ s t).1)).2),Sv ra19a (((yK s t ((vJ s t).1)).1).length) rc19a,.int .i64 ((yK s t ((vJ s t).1)).2)] (zjr (ret2 (Sv ra19a (((yK s t ((vJ s t).1)).1).length) rc19a) (.int .i64 ((yK s t ((vJ s t).1)).2)) rfl rfl rfl ⟨_,rfl,?_,H.base⟩))
   rw [succ_0 (by first | assumption | exact fun h=>by have:=XA.2 h;omega) ql]
   exact ⟨ra19a,((yK s t ((vJ s t).1)).1).length,rc19a,rx19a,rF19a,rfl,(N.pick [0]),H.pick [0] [0]⟩

theorem nextStates_ok (w:World) (s:qI) (t:qP) {qE:yOA} {xe:yLN} {qO:yOA} {xE:yLN} {qU:yOA} {xO:yLN} {xf:yOA} {zo:yLN} {qM:yOA} {xB:yLN} (qZ:qX.rep w xe [Sv qE s.qA.length qC] s.qA) (xC:qX.rep w xE [Sv qO s.qB.length qK] s.qB) (xQ:qX.rep w xO [Sv qU t.qG.length qQ] t.qG) (zA:qX.rep w zo [Sv xf t.qH.length qY] t.qH) (xH:qX.rep w xB [Sv qM t.qF.length qL] t.qF) (p0:zQ s) (p1:xI s t):Calls Tryz.prog 92 #[.agg #[.int .i64 s.xh,Sv qE s.qA.length qC,Sv qO s.qB.length qK],.agg #[Sv qU t.qG.length qQ,Sv xf t.qH.length qY,Sv qM t.qF.length qL]] w (Ret (fun v w' =>∃ (ra0:yOA) (rn0:Nat) (rc0:Nat) (rx0:List Value) (rF0:yLN),v=.tuple #[Sv ra0 rn0 rc0,.int .i64 ((QR s t).2)]∧Fresh w.heap.size [rF0]∧St w w' [rr ra0 rn0 rc0 31 3 rx0] [xN true rF0 rx0 ((QR s t).1)]) w):=by
 refine en Tryz.func92 Tryz.ntmps92 ?_
 have H:=(((((St.start w).arg xH).arg zA).arg xQ).arg xC).arg qZ
 have zX:=qV qZ
 have jo:=qV xC
 have yC:=qV xQ
 have Qm:=qV zA
 have jH:=qV xH
 clear qZ xC xQ zA xH
 have N:=Fresh.nil w.heap.size
 refine zcr (sw (zW H [.int .i64 s.xh,Sv qE s.qA.length qC,Sv qO s.qB.length qK] fun b1 w2 H=>sw (zW H [Sv qU t.qG.length qQ,Sv xf t.qH.length qY,Sv qM t.qF.length qL] fun b3 w4 H=>sps [Sv none 0 0,.int .i64 0] (zjc (sw (xU [.int .i64 s.xh,Sv qE s.qA.length qC,Sv qO s.qB.length qK] isAgg27 sizeOf27 rfl (qJ (H.cells 1 rfl) 0 3) ?_))))))
 refine sw (xU [Sv qU t.qG.length qQ,Sv xf t.qH.length qY,Sv qM t.qF.length qL] isAgg31 sizeOf31 rfl (qJ (H.cells 0 rfl) 0 3) ?_)
 have sz8:=H.base.size
 refine sw (oc (choices_ok _ s t (H.get 0 rfl).1 (H.get 1 rfl).1 (H.get 2 rfl).1 (H.get 3 rfl).1 (H.get 4 rfl).1 qg qg) ?_)
 rintro _ w6 ⟨ra5a,rn5a,rc5a,rx5a,rF5a,rfl,M,K⟩ _
 replace N:=N.merge sz8 qm M
 replace H:=H.merge K M
 obtain rfl:=H.x8 (α:=yLI) 0 rfl 0 rfl qj
 refine sps [.tuple #[Sv ra5a (((vJ s t).1).length) rc5a,.int .i64 ((vJ s t).2)],Sv ra5a (((vJ s t).1).length) rc5a,.int .i64 ((vJ s t).2),Sv ra5a (((vJ s t).1).length) rc5a,.int .i64 ((vJ s t).2)] (zjcc (sps [.int .i64 ((vJ s t).2),Bv (((vJ s t).2:Int) != 0)] (zjn (xK (((vJ s t).2:Int) != 0) rfl (fun h11=>?_) (fun h11=>?_)))))
 ·skip
  replace h11:=bne_iff_ne.1 h11
  refine zcr (sps [.int .i64 ((vJ s t).2),Sv none 0 0,.int .i64 ((vJ s t).2)] (zjr (t_r ?_)))
  replace H:=H.nilRow 31 3
  replace H:=H.vT (α:=qP)
  refine ret2 (Sv none 0 0) (.int .i64 ((vJ s t).2)) rfl rfl rfl ⟨_,rfl,?_,H.base⟩
  rw [succ_c ‹_›]
  exact ⟨none,0,0,[],[],rfl,(N.emp.pick [0]),H.pick [0] [0]⟩
 ·skip
  replace h11:=xF h11
  refine xk (t_n (zcc (sw (xU [.int .i64 s.xh,Sv qE s.qA.length qC,Sv qO s.qB.length qK] isAgg27 sizeOf27 rfl (qJ (H.cells 2 rfl) 0 3) (sw (xU [Sv qU t.qG.length qQ,Sv xf t.qH.length qY,Sv qM t.qF.length qL] isAgg31 sizeOf31 rfl (qJ (H.cells 1 rfl) 0 3) ?_))))))
  have sz15:=H.base.size
  refine sw (oc (Xp _ s t (H.get 1 rfl).1 (H.get 2 rfl).1 (H.get 3 rfl).1 (H.get 4 rfl).1 (H.get 5 rfl).1 qg qg) ?_)
  rintro _ w13 ⟨ra12,rn12,rc12,rfl,M,K⟩ _
  replace H:=H.merge K M
  obtain rfl:=H.yx 0 rfl
  refine oN rfl (sp (Bv (((appls s t).length:Int) == 0)) (zjn (cE rfl (fun h18=>?_) (fun h18=>?_))))
  ·skip
   refine zcr (sps [Sv none 0 0,.int .i64 0] (zjr (t_r ?_)))
   replace H:=H.nilRow 31 3
   replace H:=H.vT (α:=qP)
   refine ret2 (Sv none 0 0) (.int .i64 0) rfl rfl rfl ⟨_,rfl,?_,H.base⟩
   rw [succ_h (by first | assumption | exact XA.1 qf)]
   exact ⟨none,0,0,[],[],rfl,(N.emp.pick [0]),H.pick [0] [0]⟩
  ·skip
   refine xk (t_n (zcr (sw (xU [.int .i64 s.xh,Sv qE s.qA.length qC,Sv qO s.qB.length qK] isAgg27 sizeOf27 rfl (qJ (H.cells 3 rfl) 0 3) (sw (xU [Sv qU t.qG.length qQ,Sv xf t.qH.length qY,Sv qM t.qF.length qL] isAgg31 sizeOf31 rfl (qJ (H.cells 2 rfl) 0 3) (sp (Sv ra5a (((vJ s t).1).length) rc5a) ?_)))))))
   obtain ⟨G19,hn20,h21⟩:=H.QK (α:=yLI) 1 rfl 0 rfl qj
   have ln:=cho_len s t
   have cc:=fun q (hq:q < (vJ s t).1.length)=>(cho_ok p0 p1 hq).1
   have ci:=fun q (hq:q < (vJ s t).1.length)=>(cho_ok p0 p1 hq).2
   have sz25:=H.base.size
   have lt26:=H.ltN (L:=[rF5a]) [0]
   refine sw (oc (behind_ok _ s t ((vJ s t).1) (H.get 1 rfl).1 (H.get 2 rfl).1 (H.get 3 rfl).1 (H.get 4 rfl).1 (H.get 5 rfl).1 h21 qg qg qg qg qg) ?_)
   rintro _ w23 ⟨ra22a,rn22a,rc22a,rx22a,rF22a,rfl,M,K⟩ _
   replace N:=N.merge sz25 lt26 M
   replace H:=H.merge K M
   obtain rfl:=H.x8 (α:=qP) 0 rfl 0 rfl qj
   refine sps [Sv ra22a (((yK s t ((vJ s t).1)).1).length) rc22a,.int .i64 ((yK s t ((vJ s t).1)).2),Sv ra22a (((yK s t ((vJ s t).1)).1).length) rc22a,.int .i64 ((yK s t ((vJ s t).1)).2)] (zjr (ret2 (Sv ra22a (((yK s t ((vJ s t).1)).1).length) rc22a) (.int .i64 ((yK s t ((vJ s t).1)).2)) rfl rfl rfl ⟨_,rfl,?_,H.base⟩))
   rw [succ_0 (by first | assumption | exact fun h=>by have:=XA.2 h;omega) ql]
   exact ⟨ra22a,((yK s t ((vJ s t).1)).1).length,rc22a,rx22a,rF22a,rfl,(N.pick [0]),H.pick [0] [0]⟩

theorem specNx_ok (w:World) (s:qI) (t:qP) {qE:yOA} {xe:yLN} {qO:yOA} {xE:yLN} {qU:yOA} {xO:yLN} {xf:yOA} {zo:yLN} {qM:yOA} {xB:yLN} (qZ:qX.rep w xe [Sv qE s.qA.length qC] s.qA) (xC:qX.rep w xE [Sv qO s.qB.length qK] s.qB) (xQ:qX.rep w xO [Sv qU t.qG.length qQ] t.qG) (zA:qX.rep w zo [Sv xf t.qH.length qY] t.qH) (xH:qX.rep w xB [Sv qM t.qF.length qL] t.qF):Calls Tryz.prog 35 #[.agg #[.int .i64 s.xh,Sv qE s.qA.length qC,Sv qO s.qB.length qK],.agg #[Sv qU t.qG.length qQ,Sv xf t.qH.length qY,Sv qM t.qF.length qL]] w (Ret (fun v w' =>∃ (ra0:yOA) (rn0:Nat) (rc0:Nat) (rx0:List Value) (rF0:yLN),v=.tuple #[Sv ra0 rn0 rc0,.int .i64 ((QT s t).2)]∧Fresh w.heap.size [rF0]∧St w w' [rr ra0 rn0 rc0 31 3 rx0] [xN true rF0 rx0 ((QT s t).1)]) w):=by
 refine en Tryz.func35 Tryz.ntmps35 ?_
 have H:=(((((St.start w).arg xH).arg zA).arg xQ).arg xC).arg qZ
 have zX:=qV qZ
 have jo:=qV xC
 have yC:=qV xQ
 have Qm:=qV zA
 have jH:=qV xH
 clear qZ xC xQ zA xH
 have N:=Fresh.nil w.heap.size
 refine zcr (sw (zW H [.int .i64 s.xh,Sv qE s.qA.length qC,Sv qO s.qB.length qK] fun b1 w2 H=>sw (zW H [Sv qU t.qG.length qQ,Sv xf t.qH.length qY,Sv qM t.qF.length qL] fun b3 w4 H=>sps [Sv none 0 0,.int .i64 0] (zjcc (sw (oq (l03Both_ok _ s t (qJ (H.cells 1 rfl) 0 3) (H.get 0 rfl).1 (H.get 1 rfl).1 (qJ (H.cells 0 rfl) 0 3) (H.get 2 rfl).1 (H.get 3 rfl).1 (H.get 4 rfl).1) H fun w6 H=>sp (Bv (!(dec (zQ s∧xI s t)))) (zjn (cQ rfl (fun h8=>?_) (fun h8=>?_)))))))))
 ·skip
  refine zcr (sw (je H underlying60 ti31 fun b9 w10 H=>sps [Sv (some ⟨b9,0,none⟩) 0 0,.int .i64 1] (zjr (t_r ?_))))
  replace H:=H.boxRow 0 rfl 3 0 rfl qj
  replace H:=H.vT (α:=qP)
  replace H:St _ _ [rr (some ⟨b9,0,none⟩) 0 0 31 3 [],.box b3 [Sv qU t.qG.length qQ,Sv xf t.qH.length qY,Sv qM t.qF.length qL] 31,.box b1 [.int .i64 s.xh,Sv qE s.qA.length qC,Sv qO s.qB.length qK] 27] [xN true [] [] ([]:List qP),sF false xe qE qC s.qA,sF false xE qO qK s.qB,sF false xO qU qQ t.qG,sF false zo xf qY t.qH,sF false xB qM qL t.qF]:=H
  refine ret2 (Sv (some ⟨b9,0,none⟩) 0 0) (.int .i64 1) rfl rfl rfl ⟨_,rfl,?_,H.base⟩
  rw [nx_1 ‹_›]
  exact ⟨(some ⟨b9,0,none⟩),0,0,[],[],rfl,N.emp,H.pick [0] [0]⟩
 ·skip
  have k0:=(‹zQ s∧xI s t›:zQ s∧xI s t)
  have k1:=k0.1
  have k2:=k0.2
  refine xk (t_n (zcr ?_))
  have sz14:=H.base.size
  refine sw (oc (l03Succ_ok _ s t (qJ (H.cells 1 rfl) 0 3) (H.get 0 rfl).1 (H.get 1 rfl).1 (qJ (H.cells 0 rfl) 0 3) (H.get 2 rfl).1 (H.get 3 rfl).1 (H.get 4 rfl).1 qg qg) ?_)
  rintro _ w12 ⟨ra11a,rn11a,rc11a,rx11a,rF11a,rfl,M,K⟩ _
  replace N:=N.merge sz14 qm M
  replace H:=H.merge K M
  obtain rfl:=H.x8 (α:=qP) 0 rfl 0 rfl qj
  refine sps [Sv ra11a (((QR s t).1).length) rc11a,.int .i64 ((QR s t).2),Sv ra11a (((QR s t).1).length) rc11a,.int .i64 ((QR s t).2)] (zjr (ret2 (Sv ra11a (((QR s t).1).length) rc11a) (.int .i64 ((QR s t).2)) rfl rfl rfl ⟨_,rfl,?_,H.base⟩))
  rw [nx_0 k0]
  exact ⟨ra11a,((QR s t).1).length,rc11a,rx11a,rF11a,rfl,N,H.pick [0] [0]⟩

theorem implNx_ok (w:World) (s:qI) (t:qP) {qE:yOA} {xe:yLN} {qO:yOA} {xE:yLN} {qU:yOA} {xO:yLN} {xf:yOA} {zo:yLN} {qM:yOA} {xB:yLN} (qZ:qX.rep w xe [Sv qE s.qA.length qC] s.qA) (xC:qX.rep w xE [Sv qO s.qB.length qK] s.qB) (xQ:qX.rep w xO [Sv qU t.qG.length qQ] t.qG) (zA:qX.rep w zo [Sv xf t.qH.length qY] t.qH) (xH:qX.rep w xB [Sv qM t.qF.length qL] t.qF):Calls Tryz.prog 36 #[.agg #[.int .i64 s.xh,Sv qE s.qA.length qC,Sv qO s.qB.length qK],.agg #[Sv qU t.qG.length qQ,Sv xf t.qH.length qY,Sv qM t.qF.length qL]] w (Ret (fun v w' =>∃ (ra0:yOA) (rn0:Nat) (rc0:Nat) (rx0:List Value) (rF0:yLN),v=.tuple #[Sv ra0 rn0 rc0,.int .i64 ((QT s t).2)]∧Fresh w.heap.size [rF0]∧St w w' [rr ra0 rn0 rc0 31 3 rx0] [xN true rF0 rx0 ((QT s t).1)]) w):=by
 refine en Tryz.func36 Tryz.ntmps36 ?_
 have H:=(((((St.start w).arg xH).arg zA).arg xQ).arg xC).arg qZ
 have zX:=qV qZ
 have jo:=qV xC
 have yC:=qV xQ
 have Qm:=qV zA
 have jH:=qV xH
 clear qZ xC xQ zA xH
 have N:=Fresh.nil w.heap.size
 refine zcr (sw (zW H [.int .i64 s.xh,Sv qE s.qA.length qC,Sv qO s.qB.length qK] fun b1 w2 H=>sw (zW H [Sv qU t.qG.length qQ,Sv xf t.qH.length qY,Sv qM t.qF.length qL] fun b3 w4 H=>sps [Sv none 0 0,.int .i64 0] (zjcc (sw (xU [.int .i64 s.xh,Sv qE s.qA.length qC,Sv qO s.qB.length qK] isAgg27 sizeOf27 rfl (qJ (H.cells 1 rfl) 0 3) ?_))))))
 refine sw (xU [Sv qU t.qG.length qQ,Sv xf t.qH.length qY,Sv qM t.qF.length qL] isAgg31 sizeOf31 rfl (qJ (H.cells 0 rfl) 0 3) (sw (oq (Xk _ s t (H.get 0 rfl).1 (H.get 1 rfl).1 (H.get 2 rfl).1 (H.get 3 rfl).1 (H.get 4 rfl).1) H fun w6 H=>sp (Bv (!(dec (zQ s∧xI s t)))) (zjn (cQ rfl (fun h8=>?_) (fun h8=>?_))))))
 ·skip
  refine zcr (sps [Sv none 0 0,.int .i64 1] (zjr (t_r ?_)))
  replace H:=H.nilRow 31 3
  replace H:=H.vT (α:=qP)
  refine ret2 (Sv none 0 0) (.int .i64 1) rfl rfl rfl ⟨_,rfl,?_,H.base⟩
  rw [nx_1 ‹_›]
  exact ⟨none,0,0,[],[],rfl,N.emp,H.pick [0] [0]⟩
 ·skip
  have k0:=(‹zQ s∧xI s t›:zQ s∧xI s t)
  have k1:=k0.1
  have k2:=k0.2
  refine xk (t_n (zcr (sw (xU [.int .i64 s.xh,Sv qE s.qA.length qC,Sv qO s.qB.length qK] isAgg27 sizeOf27 rfl (qJ (H.cells 1 rfl) 0 3) (sw (xU [Sv qU t.qG.length qQ,Sv xf t.qH.length qY,Sv qM t.qF.length qL] isAgg31 sizeOf31 rfl (qJ (H.cells 0 rfl) 0 3) ?_))))))
  have sz12:=H.base.size
  refine sw (oc (nextStates_ok _ s t (H.get 0 rfl).1 (H.get 1 rfl).1 (H.get 2 rfl).1 (H.get 3 rfl).1 (H.get 4 rfl).1 qg qg) ?_)
  rintro _ w10 ⟨ra9a,rn9a,rc9a,rx9a,rF9a,rfl,M,K⟩ _
  replace N:=N.merge sz12 qm M
  replace H:=H.merge K M
  obtain rfl:=H.x8 (α:=qP) 0 rfl 0 rfl qj
  refine sps [Sv ra9a (((QR s t).1).length) rc9a,.int .i64 ((QR s t).2),Sv ra9a (((QR s t).1).length) rc9a,.int .i64 ((QR s t).2)] (zjr (ret2 (Sv ra9a (((QR s t).1).length) rc9a) (.int .i64 ((QR s t).2)) rfl rfl rfl ⟨_,rfl,?_,H.base⟩))
  rw [nx_0 k0]
  exact ⟨ra9a,((QR s t).1).length,rc9a,rx9a,rF9a,rfl,N,H.pick [0] [0]⟩

theorem implAppl_ok (w:World) (s:qI) (t:qP) {qE:yOA} {xe:yLN} {qO:yOA} {xE:yLN} {qU:yOA} {xO:yLN} {xf:yOA} {zo:yLN} {qM:yOA} {xB:yLN} (qZ:qX.rep w xe [Sv qE s.qA.length qC] s.qA) (xC:qX.rep w xE [Sv qO s.qB.length qK] s.qB) (xQ:qX.rep w xO [Sv qU t.qG.length qQ] t.qG) (zA:qX.rep w zo [Sv xf t.qH.length qY] t.qH) (xH:qX.rep w xB [Sv qM t.qF.length qL] t.qF) (p0:zQ s∧xI s t):Calls Tryz.prog 21 #[.agg #[.int .i64 s.xh,Sv qE s.qA.length qC,Sv qO s.qB.length qK],.agg #[Sv qU t.qG.length qQ,Sv xf t.qH.length qY,Sv qM t.qF.length qL]] w (Ret (fun v w' =>∃ (ra0:yOA) (rn0:Nat) (rc0:Nat),v=.tuple #[Sv ra0 rn0 rc0,.int .i64 0]∧Fresh w.heap.size []∧St w w' [rr ra0 rn0 rc0 2 1 ((appls s t).map (Value.int .i64))] []) w):=by
 refine en Tryz.func21 Tryz.ntmps21 ?_
 have H:=(((((St.start w).arg xH).arg zA).arg xQ).arg xC).arg qZ
 have zX:=qV qZ
 have jo:=qV xC
 have yC:=qV xQ
 have Qm:=qV zA
 have jH:=qV xH
 clear qZ xC xQ zA xH
 have N:=Fresh.nil w.heap.size
 have k1:=p0.1
 have k2:=p0.2
 refine zcr (sw (zW H [.int .i64 s.xh,Sv qE s.qA.length qC,Sv qO s.qB.length qK] fun b1 w2 H=>sw (zW H [Sv qU t.qG.length qQ,Sv xf t.qH.length qY,Sv qM t.qF.length qL] fun b3 w4 H=>sps [Sv none 0 0,.int .i64 0] (zjcc (sw (xU [.int .i64 s.xh,Sv qE s.qA.length qC,Sv qO s.qB.length qK] isAgg27 sizeOf27 rfl (qJ (H.cells 1 rfl) 0 3) ?_))))))
 refine sw (xU [Sv qU t.qG.length qQ,Sv xf t.qH.length qY,Sv qM t.qF.length qL] isAgg31 sizeOf31 rfl (qJ (H.cells 0 rfl) 0 3) (sw (oq (Xk _ s t (H.get 0 rfl).1 (H.get 1 rfl).1 (H.get 2 rfl).1 (H.get 3 rfl).1 (H.get 4 rfl).1) H fun w6 H=>sp (Bv (!(dec (zQ s∧xI s t)))) (zjn (xK (!(dec (zQ s∧xI s t))) rfl (fun h=>absurd p0 (ve (xM h))) (fun h8=>?_))))))
 replace h8:=xG h8
 replace h8:=Qq h8
 refine xk (t_n (zcr (sw (xU [.int .i64 s.xh,Sv qE s.qA.length qC,Sv qO s.qB.length qK] isAgg27 sizeOf27 rfl (qJ (H.cells 1 rfl) 0 3) (sw (xU [Sv qU t.qG.length qQ,Sv xf t.qH.length qY,Sv qM t.qF.length qL] isAgg31 sizeOf31 rfl (qJ (H.cells 0 rfl) 0 3) ?_))))))
 have sz12:=H.base.size
 refine sw (oc (Xp _ s t (H.get 0 rfl).1 (H.get 1 rfl).1 (H.get 2 rfl).1 (H.get 3 rfl).1 (H.get 4 rfl).1 qg qg) ?_)
 rintro _ w10 ⟨ra9,rn9,rc9,rfl,M,K⟩ _
 replace H:=H.merge K M
 obtain rfl:=H.yx 0 rfl
 refine sps [Sv ra9 ((appls s t).length) rc9,.int .i64 0] (zjr (ret2 (Sv ra9 ((appls s t).length) rc9) (.int .i64 0) rfl rfl rfl ⟨_,rfl,(⟨ra9,(appls s t).length,rc9,rfl,N,H.pick [0] []⟩),H.base⟩))

theorem changeAll_ok (w:World) (s:qI) (t:qP) (i:Int) {qE:yOA} {xe:yLN} {qO:yOA} {xE:yLN} {qU:yOA} {xO:yLN} {xf:yOA} {zo:yLN} {qM:yOA} {xB:yLN} (qZ:qX.rep w xe [Sv qE s.qA.length qC] s.qA) (xC:qX.rep w xE [Sv qO s.qB.length qK] s.qB) (xQ:qX.rep w xO [Sv qU t.qG.length qQ] t.qG) (zA:qX.rep w zo [Sv xf t.qH.length qY] t.qH) (xH:qX.rep w xB [Sv qM t.qF.length qL] t.qF) (p0:zQ s∧xI s t) (p1:0≤i∧i < (s.qB.length:Int)):Calls Tryz.prog 28 #[.agg #[.int .i64 s.xh,Sv qE s.qA.length qC,Sv qO s.qB.length qK],.agg #[Sv qU t.qG.length qQ,Sv xf t.qH.length qY,Sv qM t.qF.length qL],.int .i64 i] w (Ret (fun v w' =>∃ (ra0:yOA) (rn0:Nat) (rc0:Nat) (rx0:List Value) (rF0:yLN),v=.tuple #[Sv ra0 rn0 rc0,.int .i64 (chgC s t i)]∧Fresh w.heap.size [rF0]∧St w w' [rr ra0 rn0 rc0 24 1 rx0] [xN true rF0 rx0 (chgV s t i)]) w):=by
 refine en Tryz.func28 Tryz.ntmps28 ?_
 have H:=(((((St.start w).arg xH).arg zA).arg xQ).arg xC).arg qZ
 have zX:=qV qZ
 have jo:=qV xC
 have yC:=qV xQ
 have Qm:=qV zA
 have jH:=qV xH
 clear qZ xC xQ zA xH
 have N:=Fresh.nil w.heap.size
 have k1:=p0.1
 have k2:=p0.2
 have k3:RuleOk s (s.qB[i.toNat]!):=k1.rule qf
 have k4:=k1.2.1
 refine zcr (sw (zW H [.int .i64 s.xh,Sv qE s.qA.length qC,Sv qO s.qB.length qK] fun b1 w2 H=>sw (zW H [Sv qU t.qG.length qQ,Sv xf t.qH.length qY,Sv qM t.qF.length qL] fun b3 w4 H=>sps [Sv none 0 0,.int .i64 0] (zjc (sw (xU [.int .i64 s.xh,Sv qE s.qA.length qC,Sv qO s.qB.length qK] isAgg27 sizeOf27 rfl (qJ (H.cells 1 rfl) 0 3) ?_))))))
 refine sw (xU [Sv qU t.qG.length qQ,Sv xf t.qH.length qY,Sv qM t.qF.length qL] isAgg31 sizeOf31 rfl (qJ (H.cells 0 rfl) 0 3) (sp (.int .i64 i) (sw (vk #[.agg #[.int .i64 s.xh,Sv qE s.qA.length qC,Sv qO s.qB.length qK],.agg #[Sv qU t.qG.length qQ,Sv xf t.qH.length qY,Sv qM t.qF.length qL],.int .i64 i] rfl rfl call74 (en Tryz.func74 Tryz.ntmps74 ?_)))))
 refine zcr (sw (zW H [.int .i64 s.xh,Sv qE s.qA.length qC,Sv qO s.qB.length qK] fun b5 w6 H=>sw (zW H [Sv qU t.qG.length qQ,Sv xf t.qH.length qY,Sv qM t.qF.length qL] fun b7 w8 H=>sp (.int .i64 0) (zjn (zf (xg (zcr (sw (xU [.int .i64 s.xh,Sv qE s.qA.length qC,Sv qO s.qB.length qK] isAgg27 sizeOf27 rfl (qJ (H.cells 1 rfl) 0 3) ?_)))))))))
 refine sw (xU [Sv qU t.qG.length qQ,Sv xf t.qH.length qY,Sv qM t.qF.length qL] isAgg31 sizeOf31 rfl (qJ (H.cells 0 rfl) 0 3) (sw (oq (Xk _ s t (H.get 0 rfl).1 (H.get 1 rfl).1 (H.get 2 rfl).1 (H.get 3 rfl).1 (H.get 4 rfl).1) H fun w10 H=>sps [Bv (!(dec (zQ s∧xI s t))),Bv (!(dec (zQ s∧xI s t)))] (zjn (xK (!(dec (zQ s∧xI s t))) rfl (fun h=>absurd p0 (ve (xM h))) (fun h12=>?_))))))
 replace h12:=xG h12
 replace h12:=Qq h12
 refine zcr (sp (.int .i64 i) (oF rfl (oL rfl (H.cell 1 rfl rfl) (sw (oq (sizeR_ok _ s.qB (H.get 1 rfl).1) H fun w14 H=>sw (o_sub s.qB.length 1 rfl rfl qf (sw (oq (X5 w14 i 0 (s.qB.length - 1)) H fun w16 H=>sps [Bv (!(inR i 0 (s.qB.length - 1))),Bv (!(inR i 0 (s.qB.length - 1)))] (zjn (xK (!(inR i 0 (s.qB.length - 1))) rfl (fun h18=>?_) (fun h18=>?_)))))))))))
 ·skip
  replace h18:=xM h18
  replace h18:=XL h18
  refine zcr (sp (.int .i64 2) (zjr (b_r (t_r (ret1 (.int .i64 2) rfl rfl ⟨_,rfl,?_⟩)))))
  replace H:=H.erases [1,0]
  dsimp only [vM,List.eraseIdx] at H
  refine sp (.int .i64 2) (zjn (zf (zf ?_)))
  refine yl rfl H fun H=>rtp 0 (.int .i64 2) H ?_
  refine rtp 1 (Bv ((2:Int) == 0)) H ?_
  refine rtp 2 (Bv ((2:Int) == 0)) H ?_
  cases h20:((2:Int) == 0)
  ·skip
   replace h20:=ne_of_beq_false h20
   refine zV [3,4,5,6,7,8,9,10,11] 9 (H) (rtp 12 (Bv false) H ?_)
   refine xJ qh (t_n (xK false rfl (fun h=>absurd h qj) (fun _=>xk (t_n (zcc (sps [.int .i64 2,Bv true] (zjn (xK true rfl (fun _=>zcr (sps [.int .i64 2,Sv none 0 0,.int .i64 2] (zjr (t_r ?_)))) (fun h=>absurd h qj)))))))))
   replace H:=H.nilRow 24 1
   replace H:=H.vT (α:=yLI)
   refine ret2 (Sv none 0 0) (.int .i64 2) rfl rfl rfl ⟨_,rfl,?_,H.base⟩
   exfalso;first | omega | contradiction
  ·skip
   replace h20:=eq_of_beq h20
   refine rg 3 (.agg #[.int .i64 s.xh,Sv qE s.qA.length qC,Sv qO s.qB.length qK]) 15 (Qv (cs:=[.int .i64 s.xh,Sv qE s.qA.length qC,Sv qO s.qB.length qK]) isAgg27 sizeOf27 rfl (fun _ h=>qJ (h.cells 1 rfl) 0 3)) H ?_
   refine rg 4 (.agg #[Sv qU t.qG.length qQ,Sv xf t.qH.length qY,Sv qM t.qF.length qL]) 15 (Qv (cs:=[Sv qU t.qG.length qQ,Sv xf t.qH.length qY,Sv qM t.qF.length qL]) isAgg31 sizeOf31 rfl (fun _ h=>qJ (h.cells 0 rfl) 0 3)) H ?_
   refine gF 5 rfl rfl H ?_
   refine gL 6 rfl rfl (fun _ h=>h.cell 1 rfl rfl) H ?_
   refine rgp 7 (.int .i64 i) 15 H ?_
   obtain ⟨b21,o22,rfl⟩:=H.addr 1 rfl qf
   obtain ⟨ae24Need,ce24Need,Fe24Need,ae24Have,ce24Have,Fe24Have,ae24Lack,ce24Lack,Fe24Lack,ae24Here,ce24Here,Fe24Here,ae24Out,ce24Out,Fe24Out,ae24Into,ce24Into,Fe24Into,H⟩:=H.yH 1 rfl i i.toNat qf qf qf
   refine gI 8 rfl rfl rfl (H.pick [0,1] [7,8,9,10,11]) ?_
   refine jb [9] qh qm (Vh rfl (e:=15) rfl rfl (xU [.int .i64 ((s.qB[i.toNat]!).qN),.int .i64 ((s.qB[i.toNat]!).vP),Sv ae24Need (((s.qB[i.toNat]!).xR).length) ce24Need,Sv ae24Have (((s.qB[i.toNat]!).zM).length) ce24Have,Sv ae24Lack (((s.qB[i.toNat]!).zK).length) ce24Lack,Sv ae24Here (((s.qB[i.toNat]!).zH).length) ce24Here,Sv ae24Out (((s.qB[i.toNat]!).jC).length) ce24Out,Sv ae24Into (((s.qB[i.toNat]!).qW).length) ce24Into,Bv ((s.qB[i.toNat]!).vF)] isAgg56 sizeOf56 rfl (qJ (H.get 6 rfl) 0 9) (⟨H.pick [0,1] [7,8,9,10,11],?_⟩)) jd)
   refine jb [10] qh qm (Vh rfl (e:=15) rfl rfl (oq (isEnabled_ok _ s t (s.qB[i.toNat]!) (H.get 7 rfl).1 (H.get 8 rfl).1 (H.get 9 rfl).1 (H.get 10 rfl).1 (H.get 11 rfl).1 (H.get 0 rfl).1 (H.get 1 rfl).1 (H.get 2 rfl).1 (H.get 3 rfl).1 (H.get 4 rfl).1 (H.get 5 rfl).1 qg qg qg) H fun w26 H=>⟨H.pick [0,1] [7,8,9,10,11],?_⟩) jd)
   have S:=H.yj [0,1] [7,8,9,10,11]
   refine rgp 11 (Bv (!(dec (EnOk s t (s.qB[i.toNat]!))))) 15 S ?_
   refine rtp 12 (Bv (!(dec (EnOk s t (s.qB[i.toNat]!))))) S ?_
   refine xJ qh (t_n (cQ rfl (fun h28=>?_) (fun h28=>?_)))
   ·skip
    refine zg (sp (.int .i64 4) (zjcc (sps [.int .i64 4,Bv true] (zjn (xK true rfl (fun _=>zcr (sps [.int .i64 4,Sv none 0 0,.int .i64 4] (zjr (t_r ?_)))) (fun h=>absurd h qj))))))
    replace H:=H.nilRow 24 1
    replace H:=H.vT (α:=yLI)
    refine ret2 (Sv none 0 0) (.int .i64 4) rfl rfl rfl ⟨_,rfl,?_,H.base⟩
    rw [(chgV_no ql).1,(chgV_no ql).2]
    exact ⟨none,0,0,[],[],rfl,N.emp,H.pick [0] [0]⟩
   ·skip
    refine xk (t_n (zcc (sps [.int .i64 2,Bv true] (zjn (xK true rfl (fun _=>zcr (sps [.int .i64 2,Sv none 0 0,.int .i64 2] (zjr (t_r ?_)))) (fun h=>absurd h qj))))))
    replace H:=H.nilRow 24 1
    replace H:=H.vT (α:=yLI)
    refine ret2 (Sv none 0 0) (.int .i64 2) rfl rfl rfl ⟨_,rfl,?_,H.base⟩
    exfalso;first | omega | contradiction
 ·skip
  replace h18:=xG h18
  replace h18:=Xj.1 h18
  refine xk (b_n (t_n (zcr (sp (.int .i64 0) (zjr (ret1 (.int .i64 0) rfl rfl ⟨_,rfl,?_⟩))))))
  replace H:=H.erases [1,0]
  dsimp only [vM,List.eraseIdx] at H
  refine sp (.int .i64 0) (zjn (zf (zf ?_)))
  refine yl rfl H fun H=>rtp 0 (.int .i64 0) H ?_
  refine rtp 1 (Bv ((0:Int) == 0)) H ?_
  refine rtp 2 (Bv ((0:Int) == 0)) H ?_
  cases h30:((0:Int) == 0)
  · exact absurd rfl (ne_of_beq_false h30)
  ·skip
   replace h30:=eq_of_beq h30
   refine rg 3 (.agg #[.int .i64 s.xh,Sv qE s.qA.length qC,Sv qO s.qB.length qK]) 15 (Qv (cs:=[.int .i64 s.xh,Sv qE s.qA.length qC,Sv qO s.qB.length qK]) isAgg27 sizeOf27 rfl (fun _ h=>qJ (h.cells 1 rfl) 0 3)) H ?_
   refine rg 4 (.agg #[Sv qU t.qG.length qQ,Sv xf t.qH.length qY,Sv qM t.qF.length qL]) 15 (Qv (cs:=[Sv qU t.qG.length qQ,Sv xf t.qH.length qY,Sv qM t.qF.length qL]) isAgg31 sizeOf31 rfl (fun _ h=>qJ (h.cells 0 rfl) 0 3)) H ?_
   refine gF 5 rfl rfl H ?_
   refine gL 6 rfl rfl (fun _ h=>h.cell 1 rfl rfl) H ?_
   refine rgp 7 (.int .i64 i) 15 H ?_
   obtain ⟨b31,o32,rfl⟩:=H.addr 1 rfl qf
   obtain ⟨ae34Need,ce34Need,Fe34Need,ae34Have,ce34Have,Fe34Have,ae34Lack,ce34Lack,Fe34Lack,ae34Here,ce34Here,Fe34Here,ae34Out,ce34Out,Fe34Out,ae34Into,ce34Into,Fe34Into,H⟩:=H.yH 1 rfl i i.toNat qf qf qf
   refine gI 8 rfl rfl rfl (H.pick [0,1] [7,8,9,10,11]) ?_
   refine jb [9] qh qm (Vh rfl (e:=15) rfl rfl (xU [.int .i64 ((s.qB[i.toNat]!).qN),.int .i64 ((s.qB[i.toNat]!).vP),Sv ae34Need (((s.qB[i.toNat]!).xR).length) ce34Need,Sv ae34Have (((s.qB[i.toNat]!).zM).length) ce34Have,Sv ae34Lack (((s.qB[i.toNat]!).zK).length) ce34Lack,Sv ae34Here (((s.qB[i.toNat]!).zH).length) ce34Here,Sv ae34Out (((s.qB[i.toNat]!).jC).length) ce34Out,Sv ae34Into (((s.qB[i.toNat]!).qW).length) ce34Into,Bv ((s.qB[i.toNat]!).vF)] isAgg56 sizeOf56 rfl (qJ (H.get 6 rfl) 0 9) (⟨H.pick [0,1] [7,8,9,10,11],?_⟩)) jd)
   refine jb [10] qh qm (Vh rfl (e:=15) rfl rfl (oq (isEnabled_ok _ s t (s.qB[i.toNat]!) (H.get 7 rfl).1 (H.get 8 rfl).1 (H.get 9 rfl).1 (H.get 10 rfl).1 (H.get 11 rfl).1 (H.get 0 rfl).1 (H.get 1 rfl).1 (H.get 2 rfl).1 (H.get 3 rfl).1 (H.get 4 rfl).1 (H.get 5 rfl).1 qg qg qg) H fun w36 H=>⟨H.pick [0,1] [7,8,9,10,11],?_⟩) jd)
   have S:=H.yj [0,1] [7,8,9,10,11]
   refine rgp 11 (Bv (!(dec (EnOk s t (s.qB[i.toNat]!))))) 15 S ?_
   refine rtp 12 (Bv (!(dec (EnOk s t (s.qB[i.toNat]!))))) S ?_
   refine xJ qh (t_n (cQ rfl (fun h38=>?_) (fun h38=>?_)))
   ·skip
    refine zg (sp (.int .i64 4) (zjcc (sps [.int .i64 4,Bv true] (zjn (xK true rfl (fun _=>zcr (sps [.int .i64 4,Sv none 0 0,.int .i64 4] (zjr (t_r ?_)))) (fun h=>absurd h qj))))))
    replace H:=H.nilRow 24 1
    replace H:=H.vT (α:=yLI)
    refine ret2 (Sv none 0 0) (.int .i64 4) rfl rfl rfl ⟨_,rfl,?_,H.base⟩
    rw [(chgV_no ql).1,(chgV_no ql).2]
    exact ⟨none,0,0,[],[],rfl,N.emp,H.pick [0] [0]⟩
   ·skip
    refine xk (t_n (zcc (sps [.int .i64 0,Bv false] (zjn (xK false rfl (fun h=>absurd h qj) (fun _=>xk (t_n (zf ?_))))))))
    refine yl rfl H fun H=>rt 0 (.agg #[.int .i64 s.xh,Sv qE s.qA.length qC,Sv (some ⟨b31,o32,none⟩) s.qB.length qK]) (Qv (cs:=[.int .i64 s.xh,Sv qE s.qA.length qC,Sv (some ⟨b31,o32,none⟩) s.qB.length qK]) isAgg27 sizeOf27 rfl (fun _ h=>qJ (h.cells 1 rfl) 0 3)) H ?_
    refine rt 1 (.agg #[Sv qU t.qG.length qQ,Sv xf t.qH.length qY,Sv qM t.qF.length qL]) (Qv (cs:=[Sv qU t.qG.length qQ,Sv xf t.qH.length qY,Sv qM t.qF.length qL]) isAgg31 sizeOf31 rfl (fun _ h=>qJ (h.cells 0 rfl) 0 3)) H ?_
    refine tF 2 rfl rfl H ?_
    refine tL 3 rfl rfl (fun _ h=>h.cell 1 rfl rfl) H ?_
    refine rtp 4 (.int .i64 i) H ?_
    refine tI 5 rfl rfl rfl H ?_
    refine rt 6 (.agg #[.int .i64 ((s.qB[i.toNat]!).qN),.int .i64 ((s.qB[i.toNat]!).vP),Sv ae34Need (((s.qB[i.toNat]!).xR).length) ce34Need,Sv ae34Have (((s.qB[i.toNat]!).zM).length) ce34Have,Sv ae34Lack (((s.qB[i.toNat]!).zK).length) ce34Lack,Sv ae34Here (((s.qB[i.toNat]!).zH).length) ce34Here,Sv ae34Out (((s.qB[i.toNat]!).jC).length) ce34Out,Sv ae34Into (((s.qB[i.toNat]!).qW).length) ce34Into,Bv ((s.qB[i.toNat]!).vF)]) (Qv (cs:=[.int .i64 ((s.qB[i.toNat]!).qN),.int .i64 ((s.qB[i.toNat]!).vP),Sv ae34Need (((s.qB[i.toNat]!).xR).length) ce34Need,Sv ae34Have (((s.qB[i.toNat]!).zM).length) ce34Have,Sv ae34Lack (((s.qB[i.toNat]!).zK).length) ce34Lack,Sv ae34Here (((s.qB[i.toNat]!).zH).length) ce34Here,Sv ae34Out (((s.qB[i.toNat]!).jC).length) ce34Out,Sv ae34Into (((s.qB[i.toNat]!).qW).length) ce34Into,Bv ((s.qB[i.toNat]!).vF)]) isAgg56 sizeOf56 rfl (fun _ h=>qJ (h.get 6 rfl) 0 9)) H ?_
    refine ro 7 rfl ?_
    have sz43:=H.base.size
    refine oc (change_ok _ s t (s.qB[i.toNat]!) (H.get 7 rfl).1 (H.get 8 rfl).1 (H.get 9 rfl).1 (H.get 10 rfl).1 (H.get 11 rfl).1 (H.get 0 rfl).1 (H.get 1 rfl).1 (H.get 2 rfl).1 (H.get 3 rfl).1 (H.get 4 rfl).1 (H.get 5 rfl).1 qg qg qg) ?_
    rintro _ w41 ⟨ra40,rn40,rc40,rx40,rF40,rfl,M,K⟩ _
    replace N:=N.merge sz43 qm M
    replace H:=H.merge K M
    obtain rfl:=H.x8 (α:=yLI) 0 rfl 0 rfl qj
    refine ⟨H.pick [1,2] [1,2,3,4,5,6,7,8,9,10,11,12],?_⟩
    have S:=H.yj [1,2] [1,2,3,4,5,6,7,8,9,10,11,12]
    refine rtp 8 (Sv ra40 ((chgL s t (s.qB[i.toNat]!)).length) rc40) S ?_
    refine rtp 9 (.int .i64 0) S ?_
    refine xJ qh (t_n (c_ret (ret2 (Sv ra40 ((chgL s t (s.qB[i.toNat]!)).length) rc40) (.int .i64 0) rfl rfl rfl ⟨_,rfl,?_,H.base⟩)))
    rw [(chgV_yes ql).1,(chgV_yes ql).2]
    exact ⟨ra40,(chgL s t (s.qB[i.toNat]!)).length,rc40,rx40,rF40,rfl,N,H.pick [0] [0]⟩

theorem specFree_ok (w:World) (s:qI) (t:qP) {qE:yOA} {xe:yLN} {qO:yOA} {xE:yLN} {qU:yOA} {xO:yLN} {xf:yOA} {zo:yLN} {qM:yOA} {xB:yLN} (qZ:qX.rep w xe [Sv qE s.qA.length qC] s.qA) (xC:qX.rep w xE [Sv qO s.qB.length qK] s.qB) (xQ:qX.rep w xO [Sv qU t.qG.length qQ] t.qG) (zA:qX.rep w zo [Sv xf t.qH.length qY] t.qH) (xH:qX.rep w xB [Sv qM t.qF.length qL] t.qF) (q0:zQ s∧xI s t):Calls Tryz.prog 37 #[.agg #[.int .i64 s.xh,Sv qE s.qA.length qC,Sv qO s.qB.length qK],.agg #[Sv qU t.qG.length qQ,Sv xf t.qH.length qY,Sv qM t.qF.length qL]] w (Ret (fun v w' =>v=.tuple #[Bv (freeV s t),.int .i64 (Xm s t)]) w):=by
 refine en Tryz.func37 Tryz.ntmps37 ?_
 have H:=(((((St.start w).arg xH).arg zA).arg xQ).arg xC).arg qZ
 have zX:=qV qZ
 have jo:=qV xC
 have yC:=qV xQ
 have Qm:=qV zA
 have jH:=qV xH
 clear qZ xC xQ zA xH
 have N:=Fresh.nil w.heap.size
 have p0:=q0.1
 have p1:=q0.2
 have p2:=p0.2.1
 have p3:=p0.1.2.1
 have p4:=p1.1
 have p5:=p1.2.1
 refine zcr (sw (zW H [.int .i64 s.xh,Sv qE s.qA.length qC,Sv qO s.qB.length qK] fun b1 w2 H=>sw (zW H [Sv qU t.qG.length qQ,Sv xf t.qH.length qY,Sv qM t.qF.length qL] fun b3 w4 H=>sps [Bv false,.int .i64 0] (zjcc (sw (oq (l03Both_ok _ s t (qJ (H.cells 1 rfl) 0 3) (H.get 0 rfl).1 (H.get 1 rfl).1 (qJ (H.cells 0 rfl) 0 3) (H.get 2 rfl).1 (H.get 3 rfl).1 (H.get 4 rfl).1) H fun w6 H=>sp (Bv (!(dec (zQ s∧xI s t)))) (zjn ?_)))))))
 refine xK (!(dec (zQ s∧xI s t))) rfl (fun h=>absurd q0 (ve (xM h))) (fun h8=>?_)
 replace h8:=xG h8
 replace h8:=Qq h8
 refine xk (t_n (zcr (sw (vk #[.pointer (some ⟨b1,0,none⟩),.pointer (some ⟨b3,0,none⟩)] rfl rfl call93 (en Tryz.func93 Tryz.ntmps93 ?_)))))
 refine zcr (sps [Sv none 0 0,Sv none 0 0,.int .i64 0] (zjc (sps [.pointer (some ⟨b1,0,none⟩),.pointer (some ⟨b3,0,none⟩)] ?_)))
 have sz12:=H.base.size
 refine sw (oc (VU _ s t (qJ (H.cells 1 rfl) 0 3) (H.get 0 rfl).1 (H.get 1 rfl).1 (qJ (H.cells 0 rfl) 0 3) (H.get 2 rfl).1 (H.get 3 rfl).1 (H.get 4 rfl).1 qg qg) ?_)
 rintro _ w10 ⟨ra9,rn9,rc9,rfl,M,K⟩ _
 replace H:=H.merge K M
 obtain rfl:=H.rowNB 0 rfl
 have al:=appl_len s t
 refine sp (Sv ra9 ((appl s t).length) rc9) (zjc (sw (je H underlying113 ti165 fun b15 w16 H=>sp (Sv (some ⟨b15,0,none⟩) 0 0) (zjc (sw (je H underlying114 ti29 fun b17 w18 H=>sp (Sv (some ⟨b17,0,none⟩) 0 0) (zjcc (sp (.int .i64 0) (zjn (xg ?_))))))))))
 refine zJ (fun m' ρ w19=>∃ (xY:Env) (c:Nat),ρ=upd (upd (upd (upd (upd (upd xY 0 (.pointer (some ⟨b1,0,none⟩))) 1 (.pointer (some ⟨b3,0,none⟩))) 7 (Sv ra9 ((appl s t).length) rc9)) 8 (Sv (some ⟨b15,0,none⟩) 0 0)) 9 (Sv (some ⟨b17,0,none⟩) 0 0)) 10 (.int .i64 c)∧((c:Int)≤s.qA.length)∧m' =(s.qA.length - (c:Int)).toNat∧Fresh w.heap.size []∧St w w19 [.box b17 [] 29,.box b15 [] 165,rr ra9 ((appl s t).length) rc9 4 1 ((appl s t).map (Value.bool)),.box b3 [Sv qU t.qG.length qQ,Sv xf t.qH.length qY,Sv qM t.qF.length qL] 31,.box b1 [.int .i64 s.xh,Sv qE s.qA.length qC,Sv qO s.qB.length qK] 27] [sF false xe qE qC s.qA,sF false xE qO qK s.qB,sF false xO qU qQ t.qG,sF false zo xf qY t.qH,sF false xB qM qL t.qF]) ((s.qA.length - (0:Int)).toNat) ⟨_,0,uE6,qf,rfl,N,H⟩ ?_
 clear H N
 rintro m' ρ w20 ⟨xY,c,rfl,i0,rfl,N,H⟩
 refine zcc (sps [.int .i64 c,.pointer (some ⟨b1,0,none⟩),.pointer (some ⟨b1,0,none⟩)] (oF rfl (oL rfl (H.cell 4 rfl rfl) (oN rfl (sp (Bv (decide ((c:Int) < s.qA.length))) (zjn (cD rfl (fun h21=>?_) (fun h21=>?_))))))))
 ·skip
  refine xk (t_n (zf (xg (zcr (sps [.pointer (some ⟨b1,0,none⟩),Sv ra9 ((appl s t).length) rc9,.int .i64 c] (sw (vk #[.pointer (some ⟨b1,0,none⟩),Sv ra9 ((appl s t).length) rc9,.int .i64 c] rfl rfl call163 (en Tryz.func163 Tryz.ntmps163 ?_))))))))
  refine zcr (sps [Sv none 0 0,Sv none 0 0] (zjc (sw (je H underlying165 ti3 fun b22 w23 H=>sp (Sv (some ⟨b22,0,none⟩) 0 0) (zjc (sw (je H underlying29 ti24 fun b24 w25 H=>sp (Sv (some ⟨b24,0,none⟩) 0 0) (zjcc (sp (.int .i64 0) (zjn (xg ?_)))))))))))
  replace H:=H.boxRowI 1 [] 0
  replace H:=H.boxRow 0 rfl 1 0 rfl qj
  replace H:=H.vT (α:=yLI)
  replace H:=H.unfree 0 rfl
  refine zJ (fun m' ρ w26=>∃ (xY:Env) (zU:yOA) (zD:Nat) (zS:Nat) (rules:yLI) (vC:yOA) (zO:Nat) (vw:Nat) (needs:yLL) (yJ:List Value) (Qn:yLN) (i:Nat),ρ=upd (upd (upd (upd (upd (upd xY 0 (.pointer (some ⟨b1,0,none⟩))) 1 (Sv ra9 ((appl s t).length) rc9)) 2 (.int .i64 c)) 8 (Sv zU zD zS)) 9 (Sv vC zO vw)) 10 (.int .i64 i)∧rules=(cellT s t i c)∧needs=(xA s (cellT s t i c))∧((i:Int)≤((appl s t).length))∧m' =(((appl s t).length) - (i:Int)).toNat∧Fresh w.heap.size []∧St w w26 [rr vC zO vw 24 1 yJ,rr zU zD zS 3 1 (rules.map (Value.int .i64)),.box b17 [] 29,.box b15 [] 165,rr ra9 ((appl s t).length) rc9 4 1 ((appl s t).map (Value.bool)),.box b3 [Sv qU t.qG.length qQ,Sv xf t.qH.length qY,Sv qM t.qF.length qL] 31,.box b1 [.int .i64 s.xh,Sv qE s.qA.length qC,Sv qO s.qB.length qK] 27] [xN false Qn yJ needs,sF false xe qE qC s.qA,sF false xE qO qK s.qB,sF false xO qU qQ t.qG,sF false zo xf qY t.qH,sF false xB qM qL t.qF]) ((((appl s t).length) - (0:Int)).toNat) ⟨_,(some ⟨b22,0,none⟩),0,0,([]:yLI),(some ⟨b24,0,none⟩),0,0,([]:yLL),[],[],0,uE6,(by rfl),(by rfl),qf,rfl,N,H.pick [0,1,2,3,4,5,6] [0,2,3,4,5,6]⟩ ?_
  clear H N
  rintro m' ρ w27 ⟨xY,zU,zD,zS,rules,vC,zO,vw,needs,yJ,Qn,i,rfl,rfl,rfl,i0,rfl,N,H⟩
  have hn_rules:=H.yx 1 rfl
  have hn_needs:=H.x8 (α:=yLI) 0 rfl 0 rfl qj
  have tl:=cellT_le s t i c
  have nl:=Xa s (cellT s t i c)
  refine zcc (sps [.int .i64 i,Sv ra9 ((appl s t).length) rc9] (oN rfl (sp (Bv (decide ((i:Int) < ((appl s t).length)))) (zjn (cD rfl (fun h28=>?_) (fun h28=>?_))))))
  ·skip
   refine xk (t_n (zf (xg (zcr (sps [Sv ra9 ((appl s t).length) rc9,.int .i64 i] ?_)))))
   obtain ⟨b29,rfl⟩:=H.Qe 4 rfl qf
   refine oI rfl rfl (oL rfl (H.rowBool 4 rfl (iv:=i) (i:=i) qf qf) (sp (Bv ((appl s t)[i]!)) ?_))
   cases h30:((appl s t)[i]!)
   ·skip
    refine xW [24,25,26,27,28,29,30,31,32,33] (sp (Bv false) (zjn (xK false rfl (fun h=>absurd h qj) (fun _=>xk (b_n (t_n (zg (sp (.int .i64 i) (sw (zL i 1 rfl rfl qf (sp (.int .i64 (i+1)) (zi (xq (m' :=(((appl s t).length) - ((i+1):Int)).toNat) qf ⟨_,zU,zD,zS,(cellT s t i c),vC,zO,vw,(xA s (cellT s t i c)),yJ,Qn,i+1,uE6,?_,?_,?_,rfl,N,H⟩)))))))))))))
    · first | exact Xb (yu qf ‹_›) ‹_› | exact yX (jB qf ‹_›) | exact yA ‹_›
    · first | exact XV (yu qf ‹_›) ‹_› | exact congrArg (xA s) (yX (jB qf ‹_›)) | exact congrArg (xA s) (yA ‹_›)
    · omega
   ·skip
    refine qR 23 rfl rfl (sp (.pointer (some ⟨b1,0,none⟩)) (qR 23 rfl rfl (sp (.pointer (some ⟨b1,0,none⟩)) (qR 23 rfl rfl (oF rfl (qR 23 rfl rfl (oL rfl (H.cell 6 rfl rfl) (qR 23 rfl rfl (sp (.int .i64 i) (qR 23 rfl rfl ?_))))))))))
    obtain ⟨b31,o32,rfl⟩:=H.addr 2 rfl qf
    obtain ⟨ae34Need,ce34Need,Fe34Need,ae34Have,ce34Have,Fe34Have,ae34Lack,ce34Lack,Fe34Lack,ae34Here,ce34Here,Fe34Here,ae34Out,ce34Out,Fe34Out,ae34Into,ce34Into,Fe34Into,H⟩:=H.yH 2 rfl i i qf qf qf
    refine oI rfl rfl (qR 23 rfl rfl (oF rfl (qR 23 rfl rfl (oL rfl (H.x9 6 rfl 0 rfl) (qR 23 rfl rfl (sp (.int .i64 c) (qR 23 rfl rfl (sps [Bv (((s.qB[i]!).qN:Int) == c),Bv (((s.qB[i]!).qN:Int) == c)] (zjn (cE rfl (fun h35=>?_) (fun h35=>?_)))))))))))
    ·skip
     refine zcr (sps [Sv zU zD zS,.int .i64 i] (sw (zy H underlying165 ti3 [.int .i64 i] fun b36 w37 H=>sw (zC H 2 rfl 0 rfl underlying165 ti3 rfl qj rfl rfl rfl qw qp qf fun a38 c39 w40 H=>?_))))
     rw [snocI] at H
     refine sp (Sv a38 (zD+1) c39) (zjn (zg (sps [Sv vC zO vw,.pointer (some ⟨b1,0,none⟩),.pointer (some ⟨b1,0,none⟩)] (oF rfl (oL rfl (H.cell 7 rfl rfl) (sp (.int .i64 i) (oI rfl rfl (oF rfl (oL rfl (H.x9 6 rfl 2 rfl) (sw (zy H underlying29 ti24 [Sv ae34Need (((s.qB[i]!).xR).length) ce34Need] fun b41 w42 H=>sw (zC H 2 rfl 0 rfl underlying29 ti24 rfl qj rfl rfl rfl qw qp qf fun a43 c44 w45 H=>?_))))))))))))
     replace H:=H.yt 7 rfl 0 rfl
     refine sp (Sv a43 (zO+1) c44) (zi (b_n (t_n (zg (sp (.int .i64 i) (sw (zL i 1 rfl rfl qf (sp (.int .i64 (i+1)) (zi (xq (m' :=(((appl s t).length) - ((i+1):Int)).toNat) qf ⟨_,a38,zD+1,c39,((cellT s t i c)++[(i:Int)]),a43,zO+1,c44,((xA s (cellT s t i c))++[(s.qB[i]!).xR]),yJ++[Sv ae34Need (((s.qB[i]!).xR).length) ce34Need],(Qn++Fe34Need),i+1,uE6,?_,?_,?_,rfl,N,H.pick [2,3,4,5,6,7,8] [0,9,10,11,12,13]⟩))))))))))
     · first | exact Xb (yu qf ‹_›) ‹_› | exact yX (jB qf ‹_›) | exact yA ‹_›
     · first | exact XV (yu qf ‹_›) ‹_› | exact congrArg (xA s) (yX (jB qf ‹_›)) | exact congrArg (xA s) (yA ‹_›)
     · omega
    ·skip
     refine xk (b_n (t_n (zg (sp (.int .i64 i) (sw (zL i 1 rfl rfl qf (sp (.int .i64 (i+1)) (zi (xq (m' :=(((appl s t).length) - ((i+1):Int)).toNat) qf ⟨_,zU,zD,zS,(cellT s t i c),vC,zO,vw,(xA s (cellT s t i c)),yJ,Qn,i+1,uE6,?_,?_,?_,rfl,N,H.pick [0,1,2,3,4,5,6] [7,8,9,10,11,12]⟩)))))))))
     · first | exact Xb (yu qf ‹_›) ‹_› | exact yX (jB qf ‹_›) | exact yA ‹_›
     · first | exact XV (yu qf ‹_›) ‹_› | exact congrArg (xA s) (yX (jB qf ‹_›)) | exact congrArg (xA s) (yA ‹_›)
     · omega
  ·skip
   refine zx4 (zcr (sps [Sv zU zD zS,Sv vC zO vw,Sv zU zD zS,Sv vC zO vw] (zjr (ret2 (Sv zU zD zS) (Sv vC zO vw) rfl rfl rfl ⟨_,rfl,?_⟩))))
   obtain rfl:i=s.qB.length:=by omega
   rw [show cellT s t s.qB.length c=xX s t c from rfl] at H hn_rules hn_needs
   refine sps [.tuple #[Sv zU zD zS,Sv vC zO vw],Sv zU zD zS,Sv vC zO vw,Sv zU zD zS,Sv vC zO vw] (zjc (sp (Sv zU zD zS) (oN rfl (sps [Bv (decide ((zD:Int) > 0)),Bv (decide ((zD:Int) > 0))] ?_))))
   cases h46:(decide ((zD:Int) > 0))
   ·skip
    replace h46:=of_decide_eq_false h46
    refine xW [43,44,45,46,47,48,49,50,51] (sp (Bv false) (zjn (xK false rfl (fun h=>absurd h qj) (fun _=>xk (b_n (t_n (zg (sp (.int .i64 c) (sw (zL c 1 rfl rfl qf (sp (.int .i64 (c+1)) (zi (xq (m' :=(s.qA.length - ((c+1):Int)).toNat) qf ⟨_,c+1,uE6,?_,rfl,N,H.pick [2,3,4,5,6] [1,2,3,4,5]⟩)))))))))))))
    · omega
   ·skip
    replace h46:=of_decide_eq_true h46
    refine qR 42 rfl rfl (sp (.pointer (some ⟨b3,0,none⟩)) (qR 42 rfl rfl (sp (.pointer (some ⟨b3,0,none⟩)) (qR 42 rfl rfl (oF rfl (qR 42 rfl rfl (oL rfl (H.cell 5 rfl rfl) (qR 42 rfl rfl (sp (.int .i64 c) (qR 42 rfl rfl ?_))))))))))
    obtain ⟨b47,o48,rfl⟩:=H.addr 4 rfl qf
    obtain ⟨ae50,ce50,Fe50,H⟩:=H.jq 4 rfl c c qf qf qf
    refine oI rfl rfl (qR 42 rfl rfl (oL rfl (H.x9 1 rfl 0 rfl) (qR 42 rfl rfl ?_)))
    have sm:=vz (p1.2.2.2.2 c qf).1
    refine sw (oq (X3 _ (t.qH[c]!) (H.get 0 rfl).1 (by first | assumption | exact vz ql | exact Qa ql)) H fun w51 H=>qR 42 rfl rfl (sps [Bv (decide ((Xh (t.qH[c]!):Int) > 16)),Bv (decide ((Xh (t.qH[c]!):Int) > 16))] (zjn (cD rfl (fun h53=>?_) (fun h53=>?_)))))
    ·skip
     refine zcr (sps [Sv (some ⟨b15,0,none⟩) 0 0,Sv (some ⟨b17,0,none⟩) 0 0,Sv (some ⟨b15,0,none⟩) 0 0,Sv (some ⟨b17,0,none⟩) 0 0,.int .i64 3] (zjr (zr5 (ret3 (Sv (some ⟨b15,0,none⟩) 0 0) (Sv (some ⟨b17,0,none⟩) 0 0) (.int .i64 3) rfl rfl rfl rfl ⟨_,rfl,?_⟩))))
     replace H:=H.erases [4,1,0]
     dsimp only [vM,List.eraseIdx] at H
     refine sps [.tuple #[Sv (some ⟨b15,0,none⟩) 0 0,Sv (some ⟨b17,0,none⟩) 0 0,.int .i64 3],Sv (some ⟨b15,0,none⟩) 0 0,Sv (some ⟨b17,0,none⟩) 0 0,.int .i64 3,Sv (some ⟨b15,0,none⟩) 0 0,Sv (some ⟨b17,0,none⟩) 0 0,.int .i64 3] (zjcc (sps [.int .i64 3,Bv true] (zjn (xK true rfl (fun _=>zcr (sps [.int .i64 3,Bv false,.int .i64 3] (zjr (t_r (ret2 (Bv false) (.int .i64 3) rfl rfl rfl ⟨_,rfl,?_,H.base⟩))))) (fun h=>absurd h qj)))))
     obtain ⟨f1,f2⟩:=free_bad (s:=s) (t:=t) (bad_sum (c:=c) qf qf qf)
     rw [f1,f2]
    ·skip
     refine xk (b_n (t_n (zg (sp (.int .i64 c) (sw (zL c 1 rfl rfl qf (sp (.int .i64 (c+1)) (zi (xq (m' :=(s.qA.length - ((c+1):Int)).toNat) qf ⟨_,c+1,uE6,?_,rfl,N,H.pick [2,3,4,5,6] [3,4,5,6,7]⟩)))))))))
     · omega
 ·skip
  refine zx4 (zcc (sp (.int .i64 0) (zjn (xg ?_))))
  replace H:=H.boxRow 1 rfl 1 0 rfl qj
  replace H:=H.vT (α:=yLI)
  replace H:=H.boxRow 0 rfl 1 0 rfl qj
  replace H:=H.vT (α:=yLL)
  refine zJ (fun m' ρ w54=>∃ (xY:Env) (zU:yOA) (zD:Nat) (zS:Nat) (rules:yLL) (VX:List Value) (Xg:yLN) (Xe:yOA) (QA:Nat) (QY:Nat) (all:List yLL) (x_all:List Value) (F_all:yLN) (c_1:Nat),ρ=upd (upd (upd (upd (upd (upd xY 0 (.pointer (some ⟨b1,0,none⟩))) 1 (.pointer (some ⟨b3,0,none⟩))) 7 (Sv ra9 ((appl s t).length) rc9)) 8 (Sv zU zD zS)) 9 (Sv Xe QA QY)) 13 (.int .i64 c_1)∧rules=(xn s t c_1)∧all=(xx s t c_1)∧((c_1:Int)≤s.qA.length)∧(Yf s t c_1)∧m' =(s.qA.length - (c_1:Int)).toNat∧Fresh w.heap.size [Xg,F_all]∧St w w54 [rr Xe QA QY 29 1 x_all,rr zU zD zS 165 1 VX,rr ra9 ((appl s t).length) rc9 4 1 ((appl s t).map (Value.bool)),.box b3 [Sv qU t.qG.length qQ,Sv xf t.qH.length qY,Sv qM t.qF.length qL] 31,.box b1 [.int .i64 s.xh,Sv qE s.qA.length qC,Sv qO s.qB.length qK] 27] [xN true Xg VX rules,xN true F_all x_all all,sF false xe qE qC s.qA,sF false xE qO qK s.qB,sF false xO qU qQ t.qG,sF false zo xf qY t.qH,sF false xB qM qL t.qF]) ((s.qA.length - (0:Int)).toNat) ⟨_,(some ⟨b15,0,none⟩),0,0,([]:yLL),[],[],(some ⟨b17,0,none⟩),0,0,([]:List yLL),[],[],0,uE6,(by rfl),(by rfl),qf,qx,rfl,N.emp.emp,H⟩ ?_
  clear H N
  rintro m' ρ w55 ⟨xY,zU,zD,zS,rules,VX,Xg,Xe,QA,QY,all,x_all,F_all,c_1,rfl,rfl,rfl,i0,gp,rfl,N,H⟩
  have hn_rules:=H.x8 (α:=yLI) 1 rfl 0 rfl qj
  have hn_all:=H.x8 (α:=yLL) 0 rfl 1 rfl qj
  have rl:=rules_le s t c_1
  have pl:=VL s t c_1
  refine zcc (sps [.int .i64 c_1,.pointer (some ⟨b1,0,none⟩),.pointer (some ⟨b1,0,none⟩)] (oF rfl (oL rfl (H.cell 4 rfl rfl) (oN rfl (sp (Bv (decide ((c_1:Int) < s.qA.length))) (zjn (cD rfl (fun h56=>?_) (fun h56=>?_))))))))
  ·skip
   refine xk (t_n (zf (xg (zcr (sps [.pointer (some ⟨b1,0,none⟩),Sv ra9 ((appl s t).length) rc9,.int .i64 c_1] (sw (vk #[.pointer (some ⟨b1,0,none⟩),Sv ra9 ((appl s t).length) rc9,.int .i64 c_1] rfl rfl call163 (en Tryz.func163 Tryz.ntmps163 ?_))))))))
   refine zcr (sps [Sv none 0 0,Sv none 0 0] (zjc (sw (je H underlying165 ti3 fun b57 w58 H=>sp (Sv (some ⟨b57,0,none⟩) 0 0) (zjc (sw (je H underlying29 ti24 fun b59 w60 H=>sp (Sv (some ⟨b59,0,none⟩) 0 0) (zjcc (sp (.int .i64 0) (zjn (xg ?_)))))))))))
   replace H:=H.boxRowI 1 [] 0
   replace H:=H.boxRow 0 rfl 1 0 rfl qj
   replace H:=H.vT (α:=yLI)
   replace H:=H.unfree 0 rfl
   refine zJ (fun m' ρ w61=>∃ (xY:Env) (jw:yOA) (vV:Nat) (jv:Nat) (rules_1:yLI) (vC:yOA) (zO:Nat) (vw:Nat) (needs:yLL) (yJ:List Value) (Qn:yLN) (i:Nat),ρ=upd (upd (upd (upd (upd (upd xY 0 (.pointer (some ⟨b1,0,none⟩))) 1 (Sv ra9 ((appl s t).length) rc9)) 2 (.int .i64 c_1)) 8 (Sv jw vV jv)) 9 (Sv vC zO vw)) 10 (.int .i64 i)∧rules_1=(cellT s t i c_1)∧needs=(xA s (cellT s t i c_1))∧((i:Int)≤((appl s t).length))∧m' =(((appl s t).length) - (i:Int)).toNat∧Fresh w.heap.size [Xg,F_all]∧St w w61 [rr vC zO vw 24 1 yJ,rr jw vV jv 3 1 (rules_1.map (Value.int .i64)),rr Xe QA QY 29 1 x_all,rr zU zD zS 165 1 VX,rr ra9 ((appl s t).length) rc9 4 1 ((appl s t).map (Value.bool)),.box b3 [Sv qU t.qG.length qQ,Sv xf t.qH.length qY,Sv qM t.qF.length qL] 31,.box b1 [.int .i64 s.xh,Sv qE s.qA.length qC,Sv qO s.qB.length qK] 27] [xN false Qn yJ needs,xN true Xg VX (xn s t c_1),xN true F_all x_all (xx s t c_1),sF false xe qE qC s.qA,sF false xE qO qK s.qB,sF false xO qU qQ t.qG,sF false zo xf qY t.qH,sF false xB qM qL t.qF]) ((((appl s t).length) - (0:Int)).toNat) ⟨_,(some ⟨b57,0,none⟩),0,0,([]:yLI),(some ⟨b59,0,none⟩),0,0,([]:yLL),[],[],0,uE6,(by rfl),(by rfl),qf,rfl,N,H.pick [0,1,2,3,4,5,6] [0,2,3,4,5,6,7,8]⟩ ?_
   clear H N
   rintro m' ρ w62 ⟨xY,jw,vV,jv,rules_1,vC,zO,vw,needs,yJ,Qn,i,rfl,rfl,rfl,i0,rfl,N,H⟩
   have hn_rules:=H.yx 1 rfl
   have hn_needs:=H.x8 (α:=yLI) 0 rfl 0 rfl qj
   have tl:=cellT_le s t i c_1
   have nl:=Xa s (cellT s t i c_1)
   refine zcc (sps [.int .i64 i,Sv ra9 ((appl s t).length) rc9] (oN rfl (sp (Bv (decide ((i:Int) < ((appl s t).length)))) (zjn (cD rfl (fun h63=>?_) (fun h63=>?_))))))
   ·skip
    refine xk (t_n (zf (xg (zcr (sps [Sv ra9 ((appl s t).length) rc9,.int .i64 i] ?_)))))
    obtain ⟨b64,rfl⟩:=H.Qe 4 rfl qf
    refine oI rfl rfl (oL rfl (H.rowBool 4 rfl (iv:=i) (i:=i) qf qf) (sp (Bv ((appl s t)[i]!)) ?_))
    cases h65:((appl s t)[i]!)
    ·skip
     refine xW [24,25,26,27,28,29,30,31,32,33] (sp (Bv false) (zjn (xK false rfl (fun h=>absurd h qj) (fun _=>xk (b_n (t_n (zg (sp (.int .i64 i) (sw (zL i 1 rfl rfl qf (sp (.int .i64 (i+1)) (zi (xq (m' :=(((appl s t).length) - ((i+1):Int)).toNat) qf ⟨_,jw,vV,jv,(cellT s t i c_1),vC,zO,vw,(xA s (cellT s t i c_1)),yJ,Qn,i+1,uE6,?_,?_,?_,rfl,N,H⟩)))))))))))))
     · first | exact Xb (yu qf ‹_›) ‹_› | exact yX (jB qf ‹_›) | exact yA ‹_›
     · first | exact XV (yu qf ‹_›) ‹_› | exact congrArg (xA s) (yX (jB qf ‹_›)) | exact congrArg (xA s) (yA ‹_›)
     · omega
    ·skip
     refine qR 23 rfl rfl (sp (.pointer (some ⟨b1,0,none⟩)) (qR 23 rfl rfl (sp (.pointer (some ⟨b1,0,none⟩)) (qR 23 rfl rfl (oF rfl (qR 23 rfl rfl (oL rfl (H.cell 6 rfl rfl) (qR 23 rfl rfl (sp (.int .i64 i) (qR 23 rfl rfl ?_))))))))))
     obtain ⟨b66,o67,rfl⟩:=H.addr 4 rfl qf
     obtain ⟨ae69Need,ce69Need,Fe69Need,ae69Have,ce69Have,Fe69Have,ae69Lack,ce69Lack,Fe69Lack,ae69Here,ce69Here,Fe69Here,ae69Out,ce69Out,Fe69Out,ae69Into,ce69Into,Fe69Into,H⟩:=H.yH 4 rfl i i qf qf qf
     refine oI rfl rfl (qR 23 rfl rfl (oF rfl (qR 23 rfl rfl (oL rfl (H.x9 6 rfl 0 rfl) (qR 23 rfl rfl (sp (.int .i64 c_1) (qR 23 rfl rfl (sps [Bv (((s.qB[i]!).qN:Int) == c_1),Bv (((s.qB[i]!).qN:Int) == c_1)] (zjn (cE rfl (fun h70=>?_) (fun h70=>?_)))))))))))
     ·skip
      refine zcr (sps [Sv jw vV jv,.int .i64 i] (sw (zy H underlying165 ti3 [.int .i64 i] fun b71 w72 H=>sw (zC H 2 rfl 0 rfl underlying165 ti3 rfl qj rfl rfl rfl qw qp qf fun a73 c74 w75 H=>?_))))
      rw [snocI] at H
      refine sp (Sv a73 (vV+1) c74) (zjn (zg (sps [Sv vC zO vw,.pointer (some ⟨b1,0,none⟩),.pointer (some ⟨b1,0,none⟩)] (oF rfl (oL rfl (H.cell 7 rfl rfl) (sp (.int .i64 i) (oI rfl rfl (oF rfl (oL rfl (H.x9 6 rfl 2 rfl) (sw (zy H underlying29 ti24 [Sv ae69Need (((s.qB[i]!).xR).length) ce69Need] fun b76 w77 H=>sw (zC H 2 rfl 0 rfl underlying29 ti24 rfl qj rfl rfl rfl qw qp qf fun a78 c79 w80 H=>?_))))))))))))
      replace H:=H.yt 7 rfl 0 rfl
      refine sp (Sv a78 (zO+1) c79) (zi (b_n (t_n (zg (sp (.int .i64 i) (sw (zL i 1 rfl rfl qf (sp (.int .i64 (i+1)) (zi (xq (m' :=(((appl s t).length) - ((i+1):Int)).toNat) qf ⟨_,a73,vV+1,c74,((cellT s t i c_1)++[(i:Int)]),a78,zO+1,c79,((xA s (cellT s t i c_1))++[(s.qB[i]!).xR]),yJ++[Sv ae69Need (((s.qB[i]!).xR).length) ce69Need],(Qn++Fe69Need),i+1,uE6,?_,?_,?_,rfl,N,H.pick [2,3,4,5,6,7,8] [0,9,10,11,12,13,14,15]⟩))))))))))
      · first | exact Xb (yu qf ‹_›) ‹_› | exact yX (jB qf ‹_›) | exact yA ‹_›
      · first | exact XV (yu qf ‹_›) ‹_› | exact congrArg (xA s) (yX (jB qf ‹_›)) | exact congrArg (xA s) (yA ‹_›)
      · omega
     ·skip
      refine xk (b_n (t_n (zg (sp (.int .i64 i) (sw (zL i 1 rfl rfl qf (sp (.int .i64 (i+1)) (zi (xq (m' :=(((appl s t).length) - ((i+1):Int)).toNat) qf ⟨_,jw,vV,jv,(cellT s t i c_1),vC,zO,vw,(xA s (cellT s t i c_1)),yJ,Qn,i+1,uE6,?_,?_,?_,rfl,N,H.pick [0,1,2,3,4,5,6] [7,8,9,10,11,12,13,14]⟩)))))))))
      · first | exact Xb (yu qf ‹_›) ‹_› | exact yX (jB qf ‹_›) | exact yA ‹_›
      · first | exact XV (yu qf ‹_›) ‹_› | exact congrArg (xA s) (yX (jB qf ‹_›)) | exact congrArg (xA s) (yA ‹_›)
      · omega
   ·skip
    refine zx4 (zcr (sps [Sv jw vV jv,Sv vC zO vw,Sv jw vV jv,Sv vC zO vw] (zjr (ret2 (Sv jw vV jv) (Sv vC zO vw) rfl rfl rfl ⟨_,rfl,?_⟩))))
    obtain rfl:i=s.qB.length:=by omega
    rw [show cellT s t s.qB.length c_1=xX s t c_1 from rfl] at H hn_rules hn_needs
    refine sps [.tuple #[Sv jw vV jv,Sv vC zO vw],Sv jw vV jv,Sv vC zO vw,Sv jw vV jv,Sv vC zO vw] (zjcc (sp (Sv jw vV jv) (oN rfl (sp (Bv ((vV:Int) == 0)) (zjn (cE rfl (fun h81=>?_) (fun h81=>?_)))))))
    ·skip
     refine c_exit (t_x (b_x (t_n (zg (sp (.int .i64 c_1) (sw (zL c_1 1 rfl rfl qf (sp (.int .i64 (c_1+1)) (zi (xq (m' :=(s.qA.length - ((c_1+1):Int)).toNat) qf ⟨_,zU,zD,zS,(xn s t c_1),VX,Xg,Xe,QA,QY,(xx s t c_1),x_all,F_all,c_1+1,uE6,?_,?_,?_,?_,rfl,N,H.pick [2,3,4,5,6] [1,2,3,4,5,6,7]⟩))))))))))
     · first | exact rules_yes qf | exact rules_no qf
     · first | exact packsL_yes qf | exact packsL_no qf
     · omega
     · exact gp.succ (by first | exact .inl qf | exact .inr (show (zk _ _).2=0 from ‹_›))
    ·skip
     refine xk (t_n (zcr (sps [.pointer (some ⟨b3,0,none⟩),.pointer (some ⟨b3,0,none⟩)] (oF rfl (oL rfl (H.cell 5 rfl rfl) (sp (.int .i64 c_1) ?_))))))
     obtain ⟨b82,o83,rfl⟩:=H.addr 6 rfl qf
     obtain ⟨ae85,ce85,Fe85,H⟩:=H.jq 6 rfl c_1 c_1 qf qf qf
     refine oI rfl rfl (oL rfl (H.x9 1 rfl 0 rfl) (sp (Sv vC zO vw) ?_))
     obtain ⟨G86,hn87,h88⟩:=H.QK (α:=yLI) 0 rfl 2 rfl qj
     have cp:=cell_pack p0 p1 (c:=c_1) qf
     have sz92:=H.base.size
     have lt93:=H.ltN (L:=[Xg,F_all]) [3,4]
     refine sw (oc (args_eq (by rw [← hn87]) (l01All_ok _ (t.qH[c_1]!) (xA s (xX s t c_1)) (H.get 0 rfl).1 (hn87▸h88) qg)) ?_)
     rintro _ w90 ⟨ra89a,rn89a,rc89a,rx89a,rF89a,rfl,M,K⟩ _
     replace N:=N.merge sz92 lt93 M
     replace H:=H.merge K M
     obtain rfl:=H.x8 (α:=yLI) 0 rfl 0 rfl qj
     refine sps [.tuple #[Sv ra89a (((zk (t.qH[c_1]!) (xA s (xX s t c_1))).1).length) rc89a,.int .i64 ((zk (t.qH[c_1]!) (xA s (xX s t c_1))).2)],Sv ra89a (((zk (t.qH[c_1]!) (xA s (xX s t c_1))).1).length) rc89a,.int .i64 ((zk (t.qH[c_1]!) (xA s (xX s t c_1))).2),Sv ra89a (((zk (t.qH[c_1]!) (xA s (xX s t c_1))).1).length) rc89a,.int .i64 ((zk (t.qH[c_1]!) (xA s (xX s t c_1))).2)] (zjcc (sps [.int .i64 ((zk (t.qH[c_1]!) (xA s (xX s t c_1))).2),Bv (((zk (t.qH[c_1]!) (xA s (xX s t c_1))).2:Int) != 0)] (zjn ?_)))
     refine xK (((zk (t.qH[c_1]!) (xA s (xX s t c_1))).2:Int) != 0) rfl (fun h95=>?_) (fun h95=>?_)
     ·skip
      replace h95:=bne_iff_ne.1 h95
      refine zcr (sps [Sv zU zD zS,Sv Xe QA QY,.int .i64 ((zk (t.qH[c_1]!) (xA s (xX s t c_1))).2),Sv zU zD zS,Sv Xe QA QY,.int .i64 ((zk (t.qH[c_1]!) (xA s (xX s t c_1))).2)] (zjr (t_r (zr5 (ret3 (Sv zU zD zS) (Sv Xe QA QY) (.int .i64 ((zk (t.qH[c_1]!) (xA s (xX s t c_1))).2)) rfl rfl rfl rfl ⟨_,rfl,?_⟩)))))
      replace H:=H.erases [5,2,1,0]
      dsimp only [vM,List.eraseIdx] at H
      refine sps [.tuple #[Sv zU zD zS,Sv Xe QA QY,.int .i64 ((zk (t.qH[c_1]!) (xA s (xX s t c_1))).2)],Sv zU zD zS,Sv Xe QA QY,.int .i64 ((zk (t.qH[c_1]!) (xA s (xX s t c_1))).2),Sv zU zD zS,Sv Xe QA QY,.int .i64 ((zk (t.qH[c_1]!) (xA s (xX s t c_1))).2)] (zjcc (sps [.int .i64 ((zk (t.qH[c_1]!) (xA s (xX s t c_1))).2),Bv (((zk (t.qH[c_1]!) (xA s (xX s t c_1))).2:Int) != 0)] (zjn ?_)))
      refine xK (((zk (t.qH[c_1]!) (xA s (xX s t c_1))).2:Int) != 0) rfl (fun h96=>?_) (fun h=>absurd (xF h) h95)
      replace h96:=bne_iff_ne.1 h96
      refine zcr (sps [.int .i64 ((zk (t.qH[c_1]!) (xA s (xX s t c_1))).2),Bv false,.int .i64 ((zk (t.qH[c_1]!) (xA s (xX s t c_1))).2)] (zjr (t_r (ret2 (Bv false) (.int .i64 ((zk (t.qH[c_1]!) (xA s (xX s t c_1))).2)) rfl rfl rfl ⟨_,rfl,?_,H.base⟩))))
      obtain ⟨f1,f2⟩:=free_bad (s:=s) (t:=t) (bad_code (c:=c_1) qf qf ‹_›)
      rw [f1,f2,all_code ‹_›]
     ·skip
      replace h95:=xF h95
      refine xk (t_n (zcr (sps [Sv zU zD zS,Sv jw vV jv] (sw (zy H underlying113 ti165 [Sv jw vV jv] fun b97 w98 H=>?_)))))
      obtain ⟨G102,N,hn103,H⟩:=H.zT 3 rfl N (H.jR [0,4,5])
      refine sw (zC H 5 rfl 0 rfl underlying113 ti165 rfl qj rfl rfl rfl qw qp qf fun a99 c100 w101 H=>?_)
      replace H:=H.yt 5 rfl 0 rfl
      replace N:Fresh w.heap.size [(Xg++G102),rF89a,F_all]:=(N.pick [2,0,1,3]).join
      refine sp (Sv a99 (zD+1) c100) (zjn (zg (sps [Sv Xe QA QY,Sv ra89a (((zk (t.qH[c_1]!) (xA s (xX s t c_1))).1).length) rc89a] (sw (zy H underlying114 ti29 [Sv ra89a (((zk (t.qH[c_1]!) (xA s (xX s t c_1))).1).length) rc89a] fun b104 w105 H=>?_)))))
      have H0:=H
      obtain ⟨G109,hg111,hn110,H⟩:=H.Xz (α:=yLI) 2 rfl 2 rfl qj
      replace N:Fresh w.heap.size [G109,(Xg++G102),F_all]:=Fresh.ice (N.pick [1,0,2]) H0 2 hg111.1 hg111.2 (H0.jR [0,7])
      clear H0
      refine sw (zC H 5 rfl 0 rfl underlying114 ti29 rfl qj rfl rfl rfl qw qp qf fun a106 c107 w108 H=>?_)
      replace H:=H.yt 8 rfl 0 rfl
      replace N:Fresh w.heap.size [(F_all++G109),(Xg++G102)]:=(N.pick [2,0,1]).join
      refine sp (Sv a106 (QA+1) c107) (zi (b_n (t_n (zg (sp (.int .i64 c_1) (sw (zL c_1 1 rfl rfl qf (sp (.int .i64 (c_1+1)) (zi ?_)))))))))
      refine xq (m' :=(s.qA.length - ((c_1+1):Int)).toNat) qf ⟨_,a99,zD+1,c100,((xn s t c_1)++[(xX s t c_1)]),VX++[Sv jw vV jv],(Xg++G102),a106,QA+1,c107,((xx s t c_1)++[(zk (t.qH[c_1]!) (xA s (xX s t c_1))).1]),x_all++[Sv ra89a (((zk (t.qH[c_1]!) (xA s (xX s t c_1))).1).length) rc89a],(F_all++G109),c_1+1,uE6,?_,?_,?_,?_,rfl,(N.pick [1,0]),H.pick [5,6,7,8,9] [2,0,10,11,12,13,14]⟩
      · first | exact rules_yes qf | exact rules_no qf
      · first | exact packsL_yes qf | exact packsL_no qf
      · omega
      · exact gp.succ (by first | exact .inl qf | exact .inr (show (zk _ _).2=0 from ‹_›))
  ·skip
   refine zx4 (zcr (sps [Sv zU zD zS,Sv Xe QA QY,Sv zU zD zS,Sv Xe QA QY,.int .i64 0] (zjr (ret3 (Sv zU zD zS) (Sv Xe QA QY) (.int .i64 0) rfl rfl rfl rfl ⟨_,rfl,?_⟩))))
   replace H:=H.erases [2]
   dsimp only [vM,List.eraseIdx] at H
   obtain rfl:c_1=s.qA.length:=by omega
   have kb:=prod_bd p0 p1 (k:=s.qA.length) qf gp
   have kn:=packsL_ne p0 p1 (k:=s.qA.length) qf gp
   have kr:=rules_le s t s.qA.length
   have kl:=VL s t s.qA.length
   have ce:=cells_len s t s.qA.length
   refine sps [.tuple #[Sv zU zD zS,Sv Xe QA QY,.int .i64 0],Sv zU zD zS,Sv Xe QA QY,.int .i64 0,Sv zU zD zS,Sv Xe QA QY,.int .i64 0] (zjcc (sps [.int .i64 0,Bv false] (zjn (xK false rfl (fun h=>absurd h qj) (fun _=>xk (t_n (zcr (sp (Sv Xe QA QY) ?_))))))))
   obtain ⟨G112,hn113,h114⟩:=H.QK (α:=yLL) 0 rfl 1 rfl qj
   refine sw (oq (args_eq (by rw [← hn113]) (l03Count_ok _ (xx s t s.qA.length) (hn113▸h114) qg)) H fun w116 H=>sps [Bv ((((yU (xx s t s.qA.length) (xx s t s.qA.length).length:Nat):Int):Int) == 1),Bv ((((yU (xx s t s.qA.length) (xx s t s.qA.length).length:Nat):Int):Int) == 1)] ?_)
   cases h118:((((yU (xx s t s.qA.length) (xx s t s.qA.length).length:Nat):Int):Int) == 1)
   ·skip
    replace h118:=ne_of_beq_false h118
    refine xW [23,24] (sps [Bv false,Bv false,.int .i64 0] (zjr (ret2 (Bv false) (.int .i64 0) rfl rfl rfl ⟨_,rfl,?_,H.base⟩)))
    rw [free_code gp,free_no ql]
   ·skip
    replace h118:=eq_of_beq h118
    refine qR 22 rfl rfl (sw (oq (l03Halted_ok _ s t (qJ (H.cells 3 rfl) 0 3) (H.get 2 rfl).1 (H.get 3 rfl).1 (qJ (H.cells 2 rfl) 0 3) (H.get 4 rfl).1 (H.get 5 rfl).1 (H.get 6 rfl).1 qg qg) H fun w120 H=>qR 22 rfl rfl (sps [Bv (!(dec (Halted s t))),Bv (!(dec (Halted s t))),Bv (!(dec (Halted s t))),.int .i64 0] (zjr (ret2 (Bv (!(dec (Halted s t)))) (.int .i64 0) rfl rfl rfl ⟨_,rfl,?_,H.base⟩)))))
    rw [free_code gp,free_yes gp ql]

theorem sizeLL_ok (w:World) (l:yLL) {al:yOA} {cl:Nat} {Fl:yLN} (hl:qX.rep w Fl [Sv al l.length cl] l):Calls Tryz.prog 197 #[Sv al l.length cl] w (Ret (fun v w' =>v=.int .i64 l.length) w):=by
 refine en Tryz.func197 Tryz.ntmps197 ?_
 have H:=(St.start w).arg hl
 have nhl:=qV hl
 clear hl
 have N:=Fresh.nil w.heap.size
 refine zcr (sp (.int .i64 0) (zjc (sp (Sv al l.length cl) (oN rfl (sp (.int .i64 l.length) (zjr (ret1 (.int .i64 l.length) rfl rfl ⟨_,rfl,?_,H.base⟩)))))))
 rfl

theorem countChoices_ok (w:World) (s:qI) (t:qP) {qE:yOA} {xe:yLN} {qO:yOA} {xE:yLN} {qU:yOA} {xO:yLN} {xf:yOA} {zo:yLN} {qM:yOA} {xB:yLN} (qZ:qX.rep w xe [Sv qE s.qA.length qC] s.qA) (xC:qX.rep w xE [Sv qO s.qB.length qK] s.qB) (xQ:qX.rep w xO [Sv qU t.qG.length qQ] t.qG) (zA:qX.rep w zo [Sv xf t.qH.length qY] t.qH) (xH:qX.rep w xB [Sv qM t.qF.length qL] t.qF) (q0:zQ s∧xI s t):Calls Tryz.prog 95 #[.agg #[.int .i64 s.xh,Sv qE s.qA.length qC,Sv qO s.qB.length qK],.agg #[Sv qU t.qG.length qQ,Sv xf t.qH.length qY,Sv qM t.qF.length qL]] w (Ret (fun v w' =>v=.tuple #[.int .i64 (cntN s t),.int .i64 (Xm s t)]) w):=by
 refine en Tryz.func95 Tryz.ntmps95 ?_
 have H:=(((((St.start w).arg xH).arg zA).arg xQ).arg xC).arg qZ
 have zX:=qV qZ
 have jo:=qV xC
 have yC:=qV xQ
 have Qm:=qV zA
 have jH:=qV xH
 clear qZ xC xQ zA xH
 have N:=Fresh.nil w.heap.size
 have A:=H.ltN (L:=[xe,xE,xO,zo,xB]) [0,1,2,3,4]
 have p0:=q0.1
 have p1:=q0.2
 have p2:=p0.2.1
 have p3:=p0.1.2.1
 have p4:=p1.1
 have p5:=p1.2.1
 refine zcr (sw (zW H [.int .i64 s.xh,Sv qE s.qA.length qC,Sv qO s.qB.length qK] fun b1 w2 H=>sw (zW H [Sv qU t.qG.length qQ,Sv xf t.qH.length qY,Sv qM t.qF.length qL] fun b3 w4 H=>sps [.int .i64 0,.int .i64 0] (zjcc (sw (xU [.int .i64 s.xh,Sv qE s.qA.length qC,Sv qO s.qB.length qK] isAgg27 sizeOf27 rfl (qJ (H.cells 1 rfl) 0 3) ?_))))))
 refine sw (xU [Sv qU t.qG.length qQ,Sv xf t.qH.length qY,Sv qM t.qF.length qL] isAgg31 sizeOf31 rfl (qJ (H.cells 0 rfl) 0 3) (sw (oq (Xk _ s t (H.get 0 rfl).1 (H.get 1 rfl).1 (H.get 2 rfl).1 (H.get 3 rfl).1 (H.get 4 rfl).1) H fun w6 H=>sp (Bv (!(dec (zQ s∧xI s t)))) (zjn (xK (!(dec (zQ s∧xI s t))) rfl (fun h=>absurd q0 (ve (xM h))) (fun h8=>?_))))))
 replace h8:=xG h8
 replace h8:=Qq h8
 refine xk (t_n (zcr (sw (xU [.int .i64 s.xh,Sv qE s.qA.length qC,Sv qO s.qB.length qK] isAgg27 sizeOf27 rfl (qJ (H.cells 1 rfl) 0 3) (sw (xU [Sv qU t.qG.length qQ,Sv xf t.qH.length qY,Sv qM t.qF.length qL] isAgg31 sizeOf31 rfl (qJ (H.cells 0 rfl) 0 3) ?_))))))
 refine sw (vk #[.agg #[.int .i64 s.xh,Sv qE s.qA.length qC,Sv qO s.qB.length qK],.agg #[Sv qU t.qG.length qQ,Sv xf t.qH.length qY,Sv qM t.qF.length qL]] rfl rfl call165 (en Tryz.func165 Tryz.ntmps165 ?_))
 refine zcr (sw (zW H [.int .i64 s.xh,Sv qE s.qA.length qC,Sv qO s.qB.length qK] fun b9 w10 H=>sw (zW H [Sv qU t.qG.length qQ,Sv xf t.qH.length qY,Sv qM t.qF.length qL] fun b11 w12 H=>sps [.int .i64 0,.int .i64 0] (zjc (sw (xU [.int .i64 s.xh,Sv qE s.qA.length qC,Sv qO s.qB.length qK] isAgg27 sizeOf27 rfl (qJ (H.cells 1 rfl) 0 3) ?_))))))
 refine sw (xU [Sv qU t.qG.length qQ,Sv xf t.qH.length qY,Sv qM t.qF.length qL] isAgg31 sizeOf31 rfl (qJ (H.cells 0 rfl) 0 3) (sw (vk #[.agg #[.int .i64 s.xh,Sv qE s.qA.length qC,Sv qO s.qB.length qK],.agg #[Sv qU t.qG.length qQ,Sv xf t.qH.length qY,Sv qM t.qF.length qL]] rfl rfl call147 (en Tryz.func147 Tryz.ntmps147 ?_))))
 refine zcr (sw (zW H [.int .i64 s.xh,Sv qE s.qA.length qC,Sv qO s.qB.length qK] fun b13 w14 H=>sw (zW H [Sv qU t.qG.length qQ,Sv xf t.qH.length qY,Sv qM t.qF.length qL] fun b15 w16 H=>sps [Sv none 0 0,.int .i64 0] (zjc (oF rfl (oL rfl (H.cell 1 rfl rfl) (oN rfl (sw (o_makeZ (⟨[]⟩:OwnI 2) H underlying29 ti24 qj (fun _=>⟨Sv none 0 0,rfl,Or.inl ⟨rfl,rfl,rfl⟩⟩) s.qA.length rfl rfl qf qf qf fun b17 w18 xs19 H=>?_)))))))))
 refine sp (Sv (some ⟨b17,0,none⟩) s.qA.length s.qA.length) (zjcc (sw (xU [.int .i64 s.xh,Sv qE s.qA.length qC,Sv qO s.qB.length qK] isAgg27 sizeOf27 rfl (qJ (H.cells 2 rfl) 0 3) (sw (xU [Sv qU t.qG.length qQ,Sv xf t.qH.length qY,Sv qM t.qF.length qL] isAgg31 sizeOf31 rfl (qJ (H.cells 1 rfl) 0 3) ?_)))))
 have sz23:=H.base.size
 refine sw (oc (Xp _ s t (H.get 1 rfl).1 (H.get 2 rfl).1 (H.get 3 rfl).1 (H.get 4 rfl).1 (H.get 5 rfl).1 qg qg) ?_)
 rintro _ w21 ⟨ra20,rn20,rc20,rfl,M,K⟩ _
 replace H:=H.merge K M
 obtain rfl:=H.yx 0 rfl
 have al:(appls s t).length≤s.qB.length:=applL_le s t s.qB.length
 refine oN rfl (sp (.int .i64 0) (zjn (xg ?_)))
 refine zJ (fun m' ρ w26=>∃ (xY:Env) (k:Nat) (own:List (OwnI 2)) (x_own:List Value) (Yg:yLN),ρ=upd (upd (upd (upd (upd (upd xY 2 (.pointer (some ⟨b13,0,none⟩))) 3 (.pointer (some ⟨b15,0,none⟩))) 6 (Sv (some ⟨b17,0,none⟩) s.qA.length s.qA.length)) 24 (Sv ra20 ((appls s t).length) rc20)) 25 (.int .i64 ((appls s t).length))) 26 (.int .i64 k)∧own=(ownL 2 s t s.qA.length k)∧((k:Int)≤((appls s t).length))∧m' =(((appls s t).length) - (k:Int)).toNat∧Fresh w.heap.size [Yg]∧St w w26 [rr ra20 ((appls s t).length) rc20 2 1 ((appls s t).map (Value.int .i64)),rr (some ⟨b17,0,none⟩) s.qA.length s.qA.length 24 1 x_own,.box b15 [Sv qU t.qG.length qQ,Sv xf t.qH.length qY,Sv qM t.qF.length qL] 31,.box b13 [.int .i64 s.xh,Sv qE s.qA.length qC,Sv qO s.qB.length qK] 27,.box b11 [Sv qU t.qG.length qQ,Sv xf t.qH.length qY,Sv qM t.qF.length qL] 31,.box b9 [.int .i64 s.xh,Sv qE s.qA.length qC,Sv qO s.qB.length qK] 27,.box b3 [Sv qU t.qG.length qQ,Sv xf t.qH.length qY,Sv qM t.qF.length qL] 31,.box b1 [.int .i64 s.xh,Sv qE s.qA.length qC,Sv qO s.qB.length qK] 27] [xN true Yg x_own own,sF false xe qE qC s.qA,sF false xE qO qK s.qB,sF false xO qU qQ t.qG,sF false zo xf qY t.qH,sF false xB qM qL t.qF]) ((((appls s t).length) - (0:Int)).toNat) ⟨_,0,(List.replicate s.qA.length (⟨[]⟩:OwnI 2)),xs19,[],uE6,(by exact ownL_zero 2 s t _),qf,rfl,N.emp,H⟩ ?_
 clear H N
 rintro m' ρ w27 ⟨xY,k,own,x_own,Yg,rfl,rfl,i0,rfl,N,H⟩
 have hn_own:=H.x8 (α:=OwnI 2) 1 rfl 0 rfl qj
 have ol:=ownL_len 2 s t s.qA.length k
 refine zcr (sp (Bv (decide ((k:Int) < ((appls s t).length)))) (zjn (zf (cD rfl (fun h28=>?_) (fun h28=>?_)))))
 ·skip
  obtain ⟨a0,a1,a2⟩:=appls_inH (s:=s) (t:=t) (q:=k) qf
  have q:=p0.rule (i:=((appls s t)[k]!).toNat) qf
  have qc:=q.1
  have qk:(s.qB[((appls s t)[k]!).toNat]!).qN.toNat < s.qA.length:=q.cell
  have le:=ownL_le (e:=2) (s:=s) (t:=t) (n:=s.qA.length) (q:=k) (c:=(s.qB[((appls s t)[k]!).toNat]!).qN.toNat) qf
  have sm:=vz (p1.2.2.2.2 (s.qB[((appls s t)[k]!).toNat]!).qN.toNat qf).1
  refine xk (t_n (zf (xg (zcr ?_))))
  obtain ⟨b29,rfl⟩:=H.Qe 0 rfl qf
  refine oI rfl rfl (oL rfl (H.rowInt 0 rfl (iv:=k) (i:=k) qf qf) (sp (.int .i64 ((appls s t)[k]!)) (zjc (oF rfl (oL rfl (H.cell 3 rfl rfl) (sp (.int .i64 ((appls s t)[k]!)) ?_))))))
  obtain ⟨b30,o31,rfl⟩:=H.addr 2 rfl qf
  obtain ⟨ae33Need,ce33Need,Fe33Need,ae33Have,ce33Have,Fe33Have,ae33Lack,ce33Lack,Fe33Lack,ae33Here,ce33Here,Fe33Here,ae33Out,ce33Out,Fe33Out,ae33Into,ce33Into,Fe33Into,H⟩:=H.yH 2 rfl ((appls s t)[k]!) (((appls s t)[k]!).toNat) qf qf qf
  refine oI rfl rfl (oF rfl (oL rfl (H.x9 6 rfl 0 rfl) (sp (.int .i64 ((s.qB[((appls s t)[k]!).toNat]!).qN)) (zjcc (oF rfl (oL rfl (H.cell 2 rfl rfl) (sp (.int .i64 ((s.qB[((appls s t)[k]!).toNat]!).qN)) ?_)))))))
  obtain ⟨b34,o35,rfl⟩:=H.addr 11 rfl qf
  obtain ⟨ae37,ce37,Fe37,H⟩:=H.jq 11 rfl ((s.qB[((appls s t)[k]!).toNat]!).qN) (((s.qB[((appls s t)[k]!).toNat]!).qN).toNat) qf qf qf
  refine oI rfl rfl (oL rfl (H.x9 1 rfl 0 rfl) (sw (oq (X6 _ (t.qH[((s.qB[((appls s t)[k]!).toNat]!).qN).toNat]!) (H.get 0 rfl).1 (by first | assumption | exact vz ql | exact Qa ql)) H fun w38 H=>sp (Bv (decide ((Xh (t.qH[((s.qB[((appls s t)[k]!).toNat]!).qN).toNat]!):Int) > 16))) (zjn (cD rfl (fun h40=>?_) (fun h40=>?_))))))
  ·skip
   refine zcr (sps [Sv none 0 0,.int .i64 3] (zjr (t_r (zr5 (ret2 (Sv none 0 0) (.int .i64 3) rfl rfl rfl ⟨_,rfl,?_⟩)))))
   replace H:=H.erases [3,2,1,0]
   dsimp only [vM,List.eraseIdx] at H
   refine sps [.tuple #[Sv none 0 0,.int .i64 3],Sv none 0 0,.int .i64 3,Sv none 0 0,.int .i64 3] (zjc (sp (.int .i64 1) (zjcc (sp (Sv none 0 0) (oN rfl (sp (.int .i64 0) (zjn (xg ?_))))))))
   refine zJ (fun m' ρ w41=>∃ (xY:Env) (out:Int) (k_1:Nat),ρ=upd (upd (upd (upd (upd xY 7 (.int .i64 3)) 8 (.int .i64 out)) 17 (Sv none 0 0)) 18 (.int .i64 0)) 19 (.int .i64 k_1)∧((k_1:Int)≤0)∧m' =0∧Fresh w.heap.size []∧St w w41 [.box b11 [Sv qU t.qG.length qQ,Sv (some ⟨b34,o35,none⟩) t.qH.length qY,Sv qM t.qF.length qL] 31,.box b9 [.int .i64 s.xh,Sv qE s.qA.length qC,Sv (some ⟨b30,o31,none⟩) s.qB.length qK] 27,.box b3 [Sv qU t.qG.length qQ,Sv (some ⟨b34,o35,none⟩) t.qH.length qY,Sv qM t.qF.length qL] 31,.box b1 [.int .i64 s.xh,Sv qE s.qA.length qC,Sv (some ⟨b30,o31,none⟩) s.qB.length qK] 27] [sF false Fe37 ae37 ce37 (t.qH[((s.qB[((appls s t)[k]!).toNat]!).qN).toNat]!),atF b34 (o35+((s.qB[((appls s t)[k]!).toNat]!).qN:Int).toNat * 1) [Sv ae37 ((t.qH[((s.qB[((appls s t)[k]!).toNat]!).qN).toNat]!).length) ce37],sF false Fe33Need ae33Need ce33Need ((s.qB[((appls s t)[k]!).toNat]!).xR),sF false Fe33Have ae33Have ce33Have ((s.qB[((appls s t)[k]!).toNat]!).zM),sF false Fe33Lack ae33Lack ce33Lack ((s.qB[((appls s t)[k]!).toNat]!).zK),sF false Fe33Here ae33Here ce33Here ((s.qB[((appls s t)[k]!).toNat]!).zH),sF false Fe33Out ae33Out ce33Out ((s.qB[((appls s t)[k]!).toNat]!).jC),sF false Fe33Into ae33Into ce33Into ((s.qB[((appls s t)[k]!).toNat]!).qW),atF b30 (o31+((appls s t)[k]! :Int).toNat * 9) [.int .i64 ((s.qB[((appls s t)[k]!).toNat]!).qN),.int .i64 ((s.qB[((appls s t)[k]!).toNat]!).vP),Sv ae33Need (((s.qB[((appls s t)[k]!).toNat]!).xR).length) ce33Need,Sv ae33Have (((s.qB[((appls s t)[k]!).toNat]!).zM).length) ce33Have,Sv ae33Lack (((s.qB[((appls s t)[k]!).toNat]!).zK).length) ce33Lack,Sv ae33Here (((s.qB[((appls s t)[k]!).toNat]!).zH).length) ce33Here,Sv ae33Out (((s.qB[((appls s t)[k]!).toNat]!).jC).length) ce33Out,Sv ae33Into (((s.qB[((appls s t)[k]!).toNat]!).qW).length) ce33Into,Bv ((s.qB[((appls s t)[k]!).toNat]!).vF)],sF false xe qE qC s.qA,sF false xE (some ⟨b30,o31,none⟩) qK s.qB,sF false xO qU qQ t.qG,sF false zo (some ⟨b34,o35,none⟩) qY t.qH,sF false xB qM qL t.qF]) (0) ⟨_,1,0,uE5,qf,rfl,(N.pick []),H.pick [0,1,2,3] [0,1,2,3,4,5,6,7,8,10,11,12,13,14]⟩ ?_
   clear H N
   rintro m' ρ w42 ⟨xY,out,k_1,rfl,i0,rfl,N,H⟩
   refine zcr (sp (Bv (decide ((k_1:Int) < 0))) (zjn (zf (cD rfl (fun h43=>?_) (fun h43=>?_)))))
   ·skip
    exfalso;omega
   ·skip
    refine zx4 (zcr (sps [.int .i64 out,.int .i64 3,.int .i64 out,.int .i64 3] (zjr (ret2 (.int .i64 out) (.int .i64 3) rfl rfl rfl ⟨_,rfl,?_⟩))))
    replace H:=H.erases [1,0]
    dsimp only [vM,List.eraseIdx] at H
    refine sps [.tuple #[.int .i64 out,.int .i64 3],.int .i64 out,.int .i64 3,.int .i64 out,.int .i64 3] (zjcc (sps [.int .i64 3,Bv true] (zjn (xK true rfl (fun _=>zcr (sps [.int .i64 3,.int .i64 0,.int .i64 3] (zjr (t_r (ret2 (.int .i64 0) (.int .i64 3) rfl rfl rfl ⟨_,rfl,?_,H.base⟩))))) (fun h=>absurd h qj)))))
    have hg:¬ Yf s t s.qA.length:=own_bad p0 (q:=k) qf qf
    rw [cntN_no hg,(free_bad hg).2]
  ·skip
   refine xk (t_n (zg (sps [Sv (some ⟨b17,0,none⟩) s.qA.length s.qA.length,.int .i64 ((s.qB[((appls s t)[k]!).toNat]!).qN),Sv (some ⟨b17,0,none⟩) s.qA.length s.qA.length,.int .i64 ((s.qB[((appls s t)[k]!).toNat]!).qN)] (oI rfl rfl ?_))))
   replace N:Fresh w.heap.size [Yg]:=N
   obtain ⟨a44,c45,F46,h47,N,H⟩:=H.openI 1 rfl 9 rfl N (iv:=(s.qB[((appls s t)[k]!).toNat]!).qN) (((s.qB[((appls s t)[k]!).toNat]!).qN).toNat) qf qf [sF false xe qE qC s.qA,sF false xE (some ⟨b30,o31,none⟩) qK s.qB,sF false xO qU qQ t.qG,sF false zo (some ⟨b34,o35,none⟩) qY t.qH,sF false xB qM qL t.qF] (keepA A N [10,11,12,13,14] rfl rfl)
   refine oL rfl h47 (sp (.int .i64 ((appls s t)[k]!)) (sw (zy H underlying24 ti2 [.int .i64 ((appls s t)[k]!)] fun b48 w49 H=>sw (zC H 1 rfl 0 rfl underlying24 ti2 rfl qj rfl rfl rfl qw qp qf fun a50 c51 w52 H=>?_))))
   rw [snocI] at H
   refine oI rfl rfl (sw (o_closeI H 3 rfl 1 qj rfl 0 rfl (c:=(((s.qB[((appls s t)[k]!).toNat]!).qN).toNat)) (N:Fresh w.heap.size [F46]) (H.jR []) sizeOf24 rfl rfl qf qf fun w53 F54 N H=>zi (b_n (t_n (zg (sw (zL k 1 rfl rfl qf (sp (.int .i64 (k+1)) (zi ?_)))))))))
   refine xq (m' :=(((appls s t).length) - ((k+1):Int)).toNat) qf ⟨_,k+1,(((ownL 2 s t s.qA.length k).set (((s.qB[((appls s t)[k]!).toNat]!).qN).toNat) ⟨[]⟩).set (((s.qB[((appls s t)[k]!).toNat]!).qN).toNat) ⟨(((ownL 2 s t s.qA.length k)[((s.qB[((appls s t)[k]!).toNat]!).qN).toNat]!).l++[(appls s t)[k]!])⟩),(x_own.set (((s.qB[((appls s t)[k]!).toNat]!).qN).toNat) (Sv a50 ((((ownL 2 s t s.qA.length k)[((s.qB[((appls s t)[k]!).toNat]!).qN).toNat]!).l.length)+1) c51)),F54,uE6,?_,?_,rfl,N,H.pick [2,3,4,5,6,7,8,9] [0,2,3,4,5,6]⟩
   · exact ownL_set qf rfl qf qf (by rw [List.set_set])
   · omega
 ·skip
  refine zx4 (zcr (sw (je H underlying166 ti170 fun b55 w56 H=>sp (Sv (some ⟨b55,0,none⟩) 0 0) (zjcc (sp (Sv (some ⟨b17,0,none⟩) s.qA.length s.qA.length) (oN rfl (sp (.int .i64 0) (zjn (xg ?_)))))))))
  replace H:=H.ofOwn 0 rfl
  rw [ownL_end qf] at H
  have cl:=cellsR_len s t s.qA.length
  replace H:=H.boxRow 0 rfl 2 0 rfl qj
  replace H:=H.vT (α:=XM)
  replace H:St _ _ [rr (some ⟨b55,0,none⟩) 0 0 170 2 [],rr ra20 ((appls s t).length) rc20 2 1 ((appls s t).map (Value.int .i64)),rr (some ⟨b17,0,none⟩) s.qA.length s.qA.length 24 1 x_own,.box b15 [Sv qU t.qG.length qQ,Sv xf t.qH.length qY,Sv qM t.qF.length qL] 31,.box b13 [.int .i64 s.xh,Sv qE s.qA.length qC,Sv qO s.qB.length qK] 27,.box b11 [Sv qU t.qG.length qQ,Sv xf t.qH.length qY,Sv qM t.qF.length qL] 31,.box b9 [.int .i64 s.xh,Sv qE s.qA.length qC,Sv qO s.qB.length qK] 27,.box b3 [Sv qU t.qG.length qQ,Sv xf t.qH.length qY,Sv qM t.qF.length qL] 31,.box b1 [.int .i64 s.xh,Sv qE s.qA.length qC,Sv qO s.qB.length qK] 27] [xN true [] [] ([]:List XM),xN true Yg x_own (cellsR s t s.qA.length),xN true Yg x_own (ownL 2 s t s.qA.length k),sF false xe qE qC s.qA,sF false xE qO qK s.qB,sF false xO qU qQ t.qG,sF false zo xf qY t.qH,sF false xB qM qL t.qF]:=H
  refine zJ (fun m' ρ w57=>∃ (xY:Env) (vY:yOA) (zG:Nat) (vG:Nat) (out:List XM) (QQ:List Value) (Qu:yLN) (c:Nat),ρ=upd (upd (upd (upd (upd (upd xY 2 (.pointer (some ⟨b13,0,none⟩))) 3 (.pointer (some ⟨b15,0,none⟩))) 10 (Sv vY zG vG)) 55 (Sv (some ⟨b17,0,none⟩) s.qA.length s.qA.length)) 56 (.int .i64 s.qA.length)) 57 (.int .i64 c)∧out=(Qb s t c)∧((c:Int)≤s.qA.length)∧(Yf s t c)∧m' =(s.qA.length - (c:Int)).toNat∧Fresh w.heap.size [Yg]∧St w w57 [rr vY zG vG 170 2 QQ,rr ra20 ((appls s t).length) rc20 2 1 ((appls s t).map (Value.int .i64)),rr (some ⟨b17,0,none⟩) s.qA.length s.qA.length 24 1 x_own,.box b15 [Sv qU t.qG.length qQ,Sv xf t.qH.length qY,Sv qM t.qF.length qL] 31,.box b13 [.int .i64 s.xh,Sv qE s.qA.length qC,Sv qO s.qB.length qK] 27,.box b11 [Sv qU t.qG.length qQ,Sv xf t.qH.length qY,Sv qM t.qF.length qL] 31,.box b9 [.int .i64 s.xh,Sv qE s.qA.length qC,Sv qO s.qB.length qK] 27,.box b3 [Sv qU t.qG.length qQ,Sv xf t.qH.length qY,Sv qM t.qF.length qL] 31,.box b1 [.int .i64 s.xh,Sv qE s.qA.length qC,Sv qO s.qB.length qK] 27] [xN true Qu QQ out,xN true Yg x_own (cellsR s t s.qA.length),xN true Yg x_own (ownL 2 s t s.qA.length k),sF false xe qE qC s.qA,sF false xE qO qK s.qB,sF false xO qU qQ t.qG,sF false zo xf qY t.qH,sF false xB qM qL t.qF]) ((s.qA.length - (0:Int)).toNat) ⟨_,(some ⟨b55,0,none⟩),0,0,([]:List XM),[],[],0,uE6,(by rfl),qf,qx,rfl,N,H⟩ ?_
  clear H N
  rintro m' ρ w58 ⟨xY,vY,zG,vG,out,QQ,Qu,c,rfl,rfl,i0,gp,rfl,N,H⟩
  have hn_out:=H.x8 (α:=XM) 0 rfl 0 rfl qj
  have ce:=cells_len s t c
  have rl:=rules_le s t c
  refine zcr (sp (Bv (decide ((c:Int) < s.qA.length))) (zjn (zf (cD rfl (fun h59=>?_) (fun h59=>?_)))))
  ·skip
   refine xk (t_n (zf (xg (zcr (sp (.int .i64 c) (oI rfl rfl ?_))))))
   obtain ⟨a60,c61,G62,s63,h64,H⟩:=H.jP 2 rfl 1 rfl (iv:=c) c qf qf
   refine oL rfl (h64) (sps [.int .i64 c,Sv a60 (((cellsR s t s.qA.length)[c]!).length) c61] (zjcc (sp (Sv a60 (((cellsR s t s.qA.length)[c]!).length) c61) (oN rfl (sp (Bv ((((cellsR s t s.qA.length)[c]!).length:Int) == 0)) (zjn (cE rfl (fun h65=>?_) (fun h65=>?_))))))))
   ·skip
    rw [cellsR_get (s:=s) (t:=t) (n:=s.qA.length) (c:=c) qf] at H h65 ⊢
    refine c_exit (t_x (b_x (t_n (zg (sw (zL c 1 rfl rfl qf (sp (.int .i64 (c+1)) (zi (xq (m' :=(s.qA.length - ((c+1):Int)).toNat) qf ⟨_,vY,zG,vG,(Qb s t c),QQ,Qu,c+1,uE6,?_,?_,?_,rfl,N,H.pick [0,1,2,3,4,5,6,7,8] [1,2,3,4,5,6,7,8]⟩)))))))))
    · first | exact cells_yes qf | exact cells_no qf
    · omega
    · exact gp.succ (by first | exact .inl qf | exact .inr (show (zk _ _).2=0 from ‹_›))
   ·skip
    rw [cellsR_get (s:=s) (t:=t) (n:=s.qA.length) (c:=c) qf] at H h65 ⊢
    refine xk (t_n (zcr (sw (je H underlying29 ti24 fun b66 w67 H=>sp (Sv (some ⟨b66,0,none⟩) 0 0) (zjcc (sp (Sv a60 ((xX s t c).length) c61) (oN rfl (sp (.int .i64 0) (zjn (xg ?_))))))))))
    replace H:=H.boxRow 0 rfl 1 0 rfl qj
    replace H:=H.vT (α:=yLI)
    replace H:=H.unfree 0 rfl
    refine zJ (fun m' ρ w68=>∃ (xY:Env) (vC:yOA) (zO:Nat) (vw:Nat) (needs:yLL) (yJ:List Value) (Qn:yLN) (k_1:Nat),ρ=upd (upd (upd (upd (upd (upd (upd (upd (upd (upd (upd (upd xY 2 (.pointer (some ⟨b13,0,none⟩))) 3 (.pointer (some ⟨b15,0,none⟩))) 10 (Sv vY zG vG)) 11 (.int .i64 c)) 12 (Sv a60 ((xX s t c).length) c61)) 13 (Sv vC zO vw)) 55 (Sv (some ⟨b17,0,none⟩) s.qA.length s.qA.length)) 56 (.int .i64 s.qA.length)) 57 (.int .i64 c)) 66 (Sv a60 ((xX s t c).length) c61)) 67 (.int .i64 ((xX s t c).length))) 68 (.int .i64 k_1)∧needs=(xA s ((xX s t c).take k_1))∧((k_1:Int)≤((xX s t c).length))∧m' =(((xX s t c).length) - (k_1:Int)).toNat∧Fresh w.heap.size [Yg]∧St w w68 [rr vC zO vw 24 1 yJ,rr vY zG vG 170 2 QQ,rr ra20 ((appls s t).length) rc20 2 1 ((appls s t).map (Value.int .i64)),rr (some ⟨b17,0,none⟩) s.qA.length s.qA.length 24 1 x_own,.box b15 [Sv qU t.qG.length qQ,Sv xf t.qH.length qY,Sv qM t.qF.length qL] 31,.box b13 [.int .i64 s.xh,Sv qE s.qA.length qC,Sv qO s.qB.length qK] 27,.box b11 [Sv qU t.qG.length qQ,Sv xf t.qH.length qY,Sv qM t.qF.length qL] 31,.box b9 [.int .i64 s.xh,Sv qE s.qA.length qC,Sv qO s.qB.length qK] 27,.box b3 [Sv qU t.qG.length qQ,Sv xf t.qH.length qY,Sv qM t.qF.length qL] 31,.box b1 [.int .i64 s.xh,Sv qE s.qA.length qC,Sv qO s.qB.length qK] 27] [xN false Qn yJ needs,sF true G62 a60 c61 (xX s t c),xN true Qu QQ (Qb s t c),xN true Yg x_own (cellsR s t s.qA.length),xN true Yg x_own (ownL 2 s t s.qA.length k),sF false xe qE qC s.qA,sF false xE qO qK s.qB,sF false xO qU qQ t.qG,sF false zo xf qY t.qH,sF false xB qM qL t.qF]) ((((xX s t c).length) - (0:Int)).toNat) ⟨_,(some ⟨b66,0,none⟩),0,0,([]:yLL),[],[],0,uE12,(by rfl),qf,rfl,N,H.pick [0,1,2,3,4,5,6,7,8,9] [0,2,3,4,5,6,7,8,9,10]⟩ ?_
    clear H N
    rintro m' ρ w69 ⟨xY,vC,zO,vw,needs,yJ,Qn,k_1,rfl,rfl,i0,rfl,N,H⟩
    have hn_needs:=H.x8 (α:=yLI) 0 rfl 0 rfl qj
    have nl:=Xa s ((xX s t c).take k_1)
    have tl:=List.length_take_le k_1 (xX s t c)
    have cl8:=cellR_len (t:=t) p0 c
    refine zcr (sp (Bv (decide ((k_1:Int) < ((xX s t c).length)))) (zjn (zf (cD rfl (fun h70=>?_) (fun h70=>?_)))))
    ·skip
     obtain ⟨e1,e2,e3,e4⟩:=cellR_at (s:=s) (t:=t) (c:=c) (j:=k_1) qf
     refine xk (t_n (zf (xg (zcr ?_))))
     obtain ⟨b71,o72,rfl⟩:=H.addr 1 rfl qf
     refine oI rfl rfl (oL rfl (H.yF 1 rfl k_1 qf qf) (sp (.int .i64 ((xX s t c)[k_1]!)) (zjn (zg (sp (Sv vC zO vw) (oF rfl (oL rfl (H.cell 5 rfl rfl) (sp (.int .i64 ((xX s t c)[k_1]!)) ?_))))))))
     obtain ⟨b74,o75,rfl⟩:=H.addr 6 rfl qf
     obtain ⟨ae77Need,ce77Need,Fe77Need,ae77Have,ce77Have,Fe77Have,ae77Lack,ce77Lack,Fe77Lack,ae77Here,ce77Here,Fe77Here,ae77Out,ce77Out,Fe77Out,ae77Into,ce77Into,Fe77Into,H⟩:=H.yH 6 rfl ((xX s t c)[k_1]!) (((xX s t c)[k_1]!).toNat) qf qf qf
     refine oI rfl rfl (oF rfl (oL rfl (H.x9 6 rfl 2 rfl) (sw (zy H underlying29 ti24 [Sv ae77Need (((s.qB[((xX s t c)[k_1]!).toNat]!).xR).length) ce77Need] fun b78 w79 H=>sw (zC H 1 rfl 0 rfl underlying29 ti24 rfl qj rfl rfl rfl qw qp qf fun a80 c81 w82 H=>?_)))))
     replace H:=H.yt 7 rfl 0 rfl
     refine sp (Sv a80 (zO+1) c81) (zi (b_n (t_n (zg (sw (zL k_1 1 rfl rfl qf (sp (.int .i64 (k_1+1)) (zi (xq (m' :=(((xX s t c).length) - ((k_1+1):Int)).toNat) qf ⟨_,a80,zO+1,c81,((xA s ((xX s t c).take k_1))++[(s.qB[((xX s t c)[k_1]!).toNat]!).xR]),yJ++[Sv ae77Need (((s.qB[((xX s t c)[k_1]!).toNat]!).xR).length) ce77Need],(Qn++Fe77Need),k_1+1,uE12,?_,?_,rfl,N,H.pick [1,2,3,4,5,6,7,8,9,10] [0,9,10,11,12,13,14,15,16,17]⟩)))))))))
     · exact needs_take qf
     · omega
    ·skip
     rw [List.take_of_length_le (l:=xX s t c) (i:=k_1) qf] at H
     refine zx4 (zcr (oF rfl (oL rfl (H.cell 4 rfl rfl) (sp (.int .i64 c) ?_))))
     obtain ⟨b83,o84,rfl⟩:=H.addr 8 rfl qf
     obtain ⟨ae86,ce86,Fe86,H⟩:=H.jq 8 rfl c c qf qf qf
     refine oI rfl rfl (oL rfl (H.x9 1 rfl 0 rfl) (sp (Sv vC zO vw) ?_))
     obtain ⟨G87,hn88,h89⟩:=H.QK (α:=yLI) 0 rfl 2 rfl qj
     have cp:=cell_pack p0 p1 (c:=c) qf
     have nl2:=Xa s (xX s t c)
     have sz93:=H.base.size
     have lt94:=H.ltN (L:=[Yg]) [5]
     refine sw (oc (args_eq (by rw [← hn88]) (maxPack_ok _ (t.qH[c]!) (xA s (xX s t c)) (H.get 0 rfl).1 (hn88▸h89) qg qg)) ?_)
     rintro _ w91 ⟨ra90a,rn90a,rc90a,rx90a,rF90a,rfl,M,K⟩ _
     replace N:=N.merge sz93 lt94 M
     replace H:=H.merge K M
     obtain rfl:=H.x8 (α:=yLI) 0 rfl 0 rfl qj
     refine sps [.tuple #[Sv ra90a (((zk (t.qH[c]!) (xA s (xX s t c))).1).length) rc90a,.int .i64 ((zk (t.qH[c]!) (xA s (xX s t c))).2)],Sv ra90a (((zk (t.qH[c]!) (xA s (xX s t c))).1).length) rc90a,.int .i64 ((zk (t.qH[c]!) (xA s (xX s t c))).2),Sv ra90a (((zk (t.qH[c]!) (xA s (xX s t c))).1).length) rc90a,.int .i64 ((zk (t.qH[c]!) (xA s (xX s t c))).2)] (zjcc (sps [.int .i64 ((zk (t.qH[c]!) (xA s (xX s t c))).2),Bv (((zk (t.qH[c]!) (xA s (xX s t c))).2:Int) != 0)] (zjn ?_)))
     refine xK (((zk (t.qH[c]!) (xA s (xX s t c))).2:Int) != 0) rfl (fun h96=>?_) (fun h96=>?_)
     ·skip
      replace h96:=bne_iff_ne.1 h96
      refine zcr (sps [.int .i64 ((zk (t.qH[c]!) (xA s (xX s t c))).2),Sv none 0 0,.int .i64 ((zk (t.qH[c]!) (xA s (xX s t c))).2)] (zjr (t_r (zr5 (ret2 (Sv none 0 0) (.int .i64 ((zk (t.qH[c]!) (xA s (xX s t c))).2)) rfl rfl rfl ⟨_,rfl,?_⟩)))))
      replace H:=H.erases [6,5,4,3,2,1,0]
      dsimp only [vM,List.eraseIdx] at H
      refine sps [.tuple #[Sv none 0 0,.int .i64 ((zk (t.qH[c]!) (xA s (xX s t c))).2)],Sv none 0 0,.int .i64 ((zk (t.qH[c]!) (xA s (xX s t c))).2),Sv none 0 0,.int .i64 ((zk (t.qH[c]!) (xA s (xX s t c))).2)] (zjc (sp (.int .i64 1) (zjcc (sp (Sv none 0 0) (oN rfl (sp (.int .i64 0) (zjn (xg ?_))))))))
      refine zJ (fun m' ρ w97=>∃ (xY:Env) (out_1:Int) (k_51:Nat),ρ=upd (upd (upd (upd (upd xY 7 (.int .i64 ((zk (t.qH[c]!) (xA s (xX s t c))).2))) 8 (.int .i64 out_1)) 17 (Sv none 0 0)) 18 (.int .i64 0)) 19 (.int .i64 k_51)∧((k_51:Int)≤0)∧m' =0∧Fresh w.heap.size []∧St w w97 [.box b11 [Sv qU t.qG.length qQ,Sv (some ⟨b83,o84,none⟩) t.qH.length qY,Sv qM t.qF.length qL] 31,.box b9 [.int .i64 s.xh,Sv qE s.qA.length qC,Sv qO s.qB.length qK] 27,.box b3 [Sv qU t.qG.length qQ,Sv (some ⟨b83,o84,none⟩) t.qH.length qY,Sv qM t.qF.length qL] 31,.box b1 [.int .i64 s.xh,Sv qE s.qA.length qC,Sv qO s.qB.length qK] 27] [sF false Fe86 ae86 ce86 (t.qH[c]!),atF b83 (o84+(c:Int).toNat * 1) [Sv ae86 ((t.qH[c]!).length) ce86],sF false xe qE qC s.qA,sF false xE qO qK s.qB,sF false xO qU qQ t.qG,sF false zo (some ⟨b83,o84,none⟩) qY t.qH,sF false xB qM qL t.qF]) (0) ⟨_,1,0,uE5,qf,rfl,(N.pick []),H.pick [0,1,2,3] [1,2,8,9,10,11,12]⟩ ?_
      clear H N
      rintro m' ρ w98 ⟨xY,out_1,k_51,rfl,i0,rfl,N,H⟩
      refine zcr (sp (Bv (decide ((k_51:Int) < 0))) (zjn (zf (cD rfl (fun h99=>?_) (fun h99=>?_)))))
      ·skip
       exfalso;omega
      ·skip
       refine zx4 (zcr (sps [.int .i64 out_1,.int .i64 ((zk (t.qH[c]!) (xA s (xX s t c))).2),.int .i64 out_1,.int .i64 ((zk (t.qH[c]!) (xA s (xX s t c))).2)] (zjr (ret2 (.int .i64 out_1) (.int .i64 ((zk (t.qH[c]!) (xA s (xX s t c))).2)) rfl rfl rfl ⟨_,rfl,?_⟩))))
       replace H:=H.erases [1,0]
       dsimp only [vM,List.eraseIdx] at H
       refine sps [.tuple #[.int .i64 out_1,.int .i64 ((zk (t.qH[c]!) (xA s (xX s t c))).2)],.int .i64 out_1,.int .i64 ((zk (t.qH[c]!) (xA s (xX s t c))).2),.int .i64 out_1,.int .i64 ((zk (t.qH[c]!) (xA s (xX s t c))).2)] (zjcc (sps [.int .i64 ((zk (t.qH[c]!) (xA s (xX s t c))).2),Bv (((zk (t.qH[c]!) (xA s (xX s t c))).2:Int) != 0)] (zjn (xK (((zk (t.qH[c]!) (xA s (xX s t c))).2:Int) != 0) rfl (fun h100=>?_) (fun h=>absurd (xF h) h96)))))
       replace h100:=bne_iff_ne.1 h100
       refine zcr (sps [.int .i64 ((zk (t.qH[c]!) (xA s (xX s t c))).2),.int .i64 0,.int .i64 ((zk (t.qH[c]!) (xA s (xX s t c))).2)] (zjr (t_r (ret2 (.int .i64 0) (.int .i64 ((zk (t.qH[c]!) (xA s (xX s t c))).2)) rfl rfl rfl ⟨_,rfl,?_,H.base⟩))))
       have hg:¬ Yf s t s.qA.length:=bad_code (c:=c) qf qf ‹_›
       rw [cntN_no hg,(free_bad hg).2,all_code ‹_›]
     ·skip
      replace h96:=xF h96
      refine xk (t_n (zg (sps [Sv vY zG vG,Sv a60 ((xX s t c).length) c61,Sv ra90a (((zk (t.qH[c]!) (xA s (xX s t c))).1).length) rc90a] (sw (vX [Sv a60 ((xX s t c).length) c61,Sv ra90a (((zk (t.qH[c]!) (xA s (xX s t c))).1).length) rc90a] [(0,Sv a60 ((xX s t c).length) c61),(1,Sv ra90a (((zk (t.qH[c]!) (xA s (xX s t c))).1).length) rc90a)] (sw (zy H underlying166 ti170 [Sv a60 ((xX s t c).length) c61,Sv ra90a (((zk (t.qH[c]!) (xA s (xX s t c))).1).length) rc90a] fun b101 w102 H=>?_)))))))
      have H0:=H
      obtain ⟨G106,hg108,hn107,H⟩:=H.Xz (α:=yLI) 1 rfl 0 rfl qj
      replace N:Fresh w.heap.size [G106,Yg]:=Fresh.ice N H0 1 hg108.1 hg108.2 (H0.jR [6])
      clear H0
      refine sw (zC H 3 rfl 0 rfl underlying166 ti170 rfl qj rfl rfl rfl qw qp qf fun a103 c104 w105 H=>?_)
      replace H:=H.snoc_inCellD 6 rfl 5 rfl 0 rfl
      refine sp (Sv a103 (zG+1) c104) (zi (b_n (t_n (zg (sw (zL c 1 rfl rfl qf (sp (.int .i64 (c+1)) (zi (xq (m' :=(s.qA.length - ((c+1):Int)).toNat) qf ⟨_,a103,zG+1,c104,((Qb s t c)++[⟨xX s t c,(zk (t.qH[c]!) (xA s (xX s t c))).1⟩]),QQ++[Sv a60 ((xX s t c).length) c61,Sv ra90a (((zk (t.qH[c]!) (xA s (xX s t c))).1).length) rc90a],(Qu++(G62++G106)),c+1,uE6,?_,?_,?_,rfl,(N.pick [1]),H.pick [3,4,5,6,7,8,9,10,11] [0,8,9,10,11,12,13,14]⟩)))))))))
      · first | exact cells_yes qf | exact cells_no qf
      · omega
      · exact gp.succ (by first | exact .inl qf | exact .inr (show (zk _ _).2=0 from ‹_›))
  ·skip
   refine zx4 (zcr (sps [Sv vY zG vG,Sv vY zG vG,.int .i64 0] (zjr (ret2 (Sv vY zG vG) (.int .i64 0) rfl rfl rfl ⟨_,rfl,?_⟩))))
   replace H:=H.erases [4,3,2,1]
   dsimp only [vM,List.eraseIdx] at H
   obtain rfl:c=s.qA.length:=by omega
   have kb:=prod_bd p0 p1 (k:=s.qA.length) qf gp
   have kn:=packsL_ne p0 p1 (k:=s.qA.length) qf gp
   have kr:=rules_le s t s.qA.length
   have kl:=VL s t s.qA.length
   have ce:=cells_len s t s.qA.length
   refine sps [.tuple #[Sv vY zG vG,.int .i64 0],Sv vY zG vG,.int .i64 0,Sv vY zG vG,.int .i64 0] (zjc (sp (.int .i64 1) (zjcc (sp (Sv vY zG vG) (oN rfl (sp (.int .i64 0) (zjn (xg ?_))))))))
   obtain ⟨G109,hg111,hn110,H⟩:=H.Xz (α:=XM) 0 rfl 0 rfl qj
   refine zJ (fun m' ρ w112=>∃ (xY:Env) (out_1:Int) (k_1:Nat),ρ=upd (upd (upd (upd (upd xY 7 (.int .i64 0)) 8 (.int .i64 out_1)) 17 (Sv vY zG vG)) 18 (.int .i64 zG)) 19 (.int .i64 k_1)∧out_1=((yU (xx s t s.qA.length) k_1:Nat):Int)∧((k_1:Int)≤zG)∧m' =(zG - (k_1:Int)).toNat∧Fresh w.heap.size []∧St w w112 [.box b11 [Sv qU t.qG.length qQ,Sv xf t.qH.length qY,Sv qM t.qF.length qL] 31,.box b9 [.int .i64 s.xh,Sv qE s.qA.length qC,Sv qO s.qB.length qK] 27,.box b3 [Sv qU t.qG.length qQ,Sv xf t.qH.length qY,Sv qM t.qF.length qL] 31,.box b1 [.int .i64 s.xh,Sv qE s.qA.length qC,Sv qO s.qB.length qK] 27] [isF true G109 (Sv vY zG vG) (Qb s t s.qA.length),sF false xe qE qC s.qA,sF false xE qO qK s.qB,sF false xO qU qQ t.qG,sF false zo xf qY t.qH,sF false xB qM qL t.qF]) ((zG - (0:Int)).toNat) ⟨_,1,0,uE5,(by rfl),qf,rfl,(N.pick []),H.pick [1,2,3,4] [0,4,5,6,7,8]⟩ ?_
   clear H N
   rintro m' ρ w113 ⟨xY,out_1,k_1,rfl,rfl,i0,rfl,N,H⟩
   have pm:=prod_mul (xx s t s.qA.length) k_1
   have pb:=fun h=>kb (k_1+1) h
   have pn:=Int.natCast_nonneg (yU (xx s t s.qA.length) (k_1+1))
   refine zcr (sp (Bv (decide ((k_1:Int) < zG))) (zjn (zf (cD rfl (fun h114=>?_) (fun h114=>?_)))))
   ·skip
    refine xk (t_n (zf (xg (zcr ?_))))
    have hl117:=H.isLen 0 rfl
    obtain ⟨b115,o116,rfl⟩:=H.addr 0 rfl qf
    obtain ⟨ae118rules,ce118rules,Fe118rules,ae118packings,ce118packings,Fe118packings,H⟩:=H.elem_inCellD 0 rfl k_1 k_1 qf qf qf
    refine oI rfl rfl (sw (xU [Sv ae118rules ((((Qb s t s.qA.length)[k_1]!).frules).length) ce118rules,Sv ae118packings ((((Qb s t s.qA.length)[k_1]!).fpackings).length) ce118packings] isAgg170 sizeOf170 rfl (qJ (H.get 2 rfl) 0 2) (sw (xZ H ti170 [Sv none 0 0,Sv none 0 0] fun b119 w120 H=>sw (zu H 0 [Sv ae118rules ((((Qb s t s.qA.length)[k_1]!).frules).length) ce118rules,Sv ae118packings ((((Qb s t s.qA.length)[k_1]!).fpackings).length) ce118packings] sizeOf170 fun w121 H=>zjn ?_)))))
    obtain ⟨ce1,ce2⟩:=cells_at (s:=s) (t:=t) (k:=s.qA.length) (i:=k_1) qf
    rw [ce1,ce2] at H
    refine zg (sp (.int .i64 ((yU (xx s t s.qA.length) k_1:Nat):Int)) (oF rfl (oL rfl (H.cell 0 rfl rfl) (sw (oq (sizeLL_ok _ ((xx s t s.qA.length)[k_1]!) (H.get 1 rfl).1) H fun w123 H=>sw (o_mul ((yU (xx s t s.qA.length) k_1:Nat):Int) (((xx s t s.qA.length)[k_1]!).length) rfl rfl qf (sp (.int .i64 (((yU (xx s t s.qA.length) k_1:Nat):Int) * (((xx s t s.qA.length)[k_1]!).length))) (zi (b_n (t_n (zg (sw (zL k_1 1 rfl rfl qf (sp (.int .i64 (k_1+1)) (zi ?_)))))))))))))))
    refine xq (m' :=(zG - ((k_1+1):Int)).toNat) qf ⟨_,((yU (xx s t s.qA.length) k_1:Nat):Int) * (((xx s t s.qA.length)[k_1]!).length),k_1+1,uE5,?_,?_,rfl,N,H.pick [1,2,3,4] [3,4,5,6,7,8]⟩
    · exact prod_mul (xx s t s.qA.length) k_1
    · omega
   ·skip
    refine zx4 (zcr (sps [.int .i64 ((yU (xx s t s.qA.length) k_1:Nat):Int),.int .i64 0,.int .i64 ((yU (xx s t s.qA.length) k_1:Nat):Int),.int .i64 0] (zjr (ret2 (.int .i64 ((yU (xx s t s.qA.length) k_1:Nat):Int)) (.int .i64 0) rfl rfl rfl ⟨_,rfl,?_⟩))))
    replace H:=H.erases [1,0]
    dsimp only [vM,List.eraseIdx] at H
    refine sps [.tuple #[.int .i64 ((yU (xx s t s.qA.length) k_1:Nat):Int),.int .i64 0],.int .i64 ((yU (xx s t s.qA.length) k_1:Nat):Int),.int .i64 0,.int .i64 ((yU (xx s t s.qA.length) k_1:Nat):Int),.int .i64 0] (zjcc (sps [.int .i64 0,Bv false] (zjn (xK false rfl (fun h=>absurd h qj) (fun _=>xk (t_n (zcr (sps [.int .i64 ((yU (xx s t s.qA.length) k_1:Nat):Int),.int .i64 ((yU (xx s t s.qA.length) k_1:Nat):Int),.int .i64 0] (zjr ?_)))))))))
    refine ret2 (.int .i64 ((yU (xx s t s.qA.length) k_1:Nat):Int)) (.int .i64 0) rfl rfl rfl ⟨_,rfl,?_,H.base⟩
    rw [cntN_yes gp,free_code gp,show k_1=(xx s t s.qA.length).length by omega]

theorem implFree_ok (w:World) (s:qI) (t:qP) {qE:yOA} {xe:yLN} {qO:yOA} {xE:yLN} {qU:yOA} {xO:yLN} {xf:yOA} {zo:yLN} {qM:yOA} {xB:yLN} (qZ:qX.rep w xe [Sv qE s.qA.length qC] s.qA) (xC:qX.rep w xE [Sv qO s.qB.length qK] s.qB) (xQ:qX.rep w xO [Sv qU t.qG.length qQ] t.qG) (zA:qX.rep w zo [Sv xf t.qH.length qY] t.qH) (xH:qX.rep w xB [Sv qM t.qF.length qL] t.qF) (q0:zQ s∧xI s t):Calls Tryz.prog 38 #[.agg #[.int .i64 s.xh,Sv qE s.qA.length qC,Sv qO s.qB.length qK],.agg #[Sv qU t.qG.length qQ,Sv xf t.qH.length qY,Sv qM t.qF.length qL]] w (Ret (fun v w' =>v=.tuple #[Bv (freeV s t),.int .i64 (Xm s t)]) w):=by
 refine en Tryz.func38 Tryz.ntmps38 ?_
 have H:=(((((St.start w).arg xH).arg zA).arg xQ).arg xC).arg qZ
 have zX:=qV qZ
 have jo:=qV xC
 have yC:=qV xQ
 have Qm:=qV zA
 have jH:=qV xH
 clear qZ xC xQ zA xH
 have N:=Fresh.nil w.heap.size
 have k1:=q0.1
 have k2:=q0.2
 refine zcr (sw (zW H [.int .i64 s.xh,Sv qE s.qA.length qC,Sv qO s.qB.length qK] fun b1 w2 H=>sw (zW H [Sv qU t.qG.length qQ,Sv xf t.qH.length qY,Sv qM t.qF.length qL] fun b3 w4 H=>sps [Bv false,.int .i64 0] (zjc (sw (xU [.int .i64 s.xh,Sv qE s.qA.length qC,Sv qO s.qB.length qK] isAgg27 sizeOf27 rfl (qJ (H.cells 1 rfl) 0 3) ?_))))))
 refine sw (xU [Sv qU t.qG.length qQ,Sv xf t.qH.length qY,Sv qM t.qF.length qL] isAgg31 sizeOf31 rfl (qJ (H.cells 0 rfl) 0 3) (sw (oq (countChoices_ok _ s t (H.get 0 rfl).1 (H.get 1 rfl).1 (H.get 2 rfl).1 (H.get 3 rfl).1 (H.get 4 rfl).1 qg) H fun w6 H=>sps [.tuple #[.int .i64 (cntN s t),.int .i64 (Xm s t)],.int .i64 (cntN s t),.int .i64 (Xm s t),.int .i64 (cntN s t),.int .i64 (Xm s t)] (zjc (sps [.int .i64 (Xm s t),Bv (((Xm s t):Int) == 0),Bv (((Xm s t):Int) == 0)] ?_)))))
 cases h8:(((Xm s t):Int) == 0)
 ·skip
  replace h8:=ne_of_beq_false h8
  refine xW [17,18] (sps [Bv false,Bv false] (xW [21,22,23,24,25] (sps [Bv false,.int .i64 (Xm s t),Bv false,.int .i64 (Xm s t)] (zjr (ret2 (Bv false) (.int .i64 (Xm s t)) rfl rfl rfl ⟨_,rfl,?_,H.base⟩)))))
  first | rw [free_c ql] | rw [free_n ql]
 ·skip
  replace h8:=eq_of_beq h8
  refine qR 16 rfl rfl (sp (.int .i64 (cntN s t)) (qR 16 rfl rfl (sps [Bv (((cntN s t):Int) == 1),Bv (((cntN s t):Int) == 1),Bv (((cntN s t):Int) == 1)] ?_)))
  cases h9:(((cntN s t):Int) == 1)
  ·skip
   replace h9:=ne_of_beq_false h9
   refine xW [21,22,23,24,25] (sps [Bv false,.int .i64 (Xm s t),Bv false,.int .i64 (Xm s t)] (zjr (ret2 (Bv false) (.int .i64 (Xm s t)) rfl rfl rfl ⟨_,rfl,?_,H.base⟩)))
   first | rw [free_c ql] | rw [free_n ql]
  ·skip
   replace h9:=eq_of_beq h9
   refine qR 20 rfl rfl (sw (xU [.int .i64 s.xh,Sv qE s.qA.length qC,Sv qO s.qB.length qK] isAgg27 sizeOf27 rfl (qJ (H.cells 1 rfl) 0 3) (qR 20 rfl rfl (sw (xU [Sv qU t.qG.length qQ,Sv xf t.qH.length qY,Sv qM t.qF.length qL] isAgg31 sizeOf31 rfl (qJ (H.cells 0 rfl) 0 3) (qR 20 rfl rfl ?_))))))
   have sz13:=H.base.size
   refine sw (oc (Xp _ s t (H.get 0 rfl).1 (H.get 1 rfl).1 (H.get 2 rfl).1 (H.get 3 rfl).1 (H.get 4 rfl).1 qg qg) ?_)
   rintro _ w11 ⟨ra10,rn10,rc10,rfl,M,K⟩ _
   replace H:=H.merge K M
   obtain rfl:=H.yx 0 rfl
   refine qR 20 rfl rfl (oN rfl (qR 20 rfl rfl (sps [Bv (decide (((appls s t).length:Int) > 0)),Bv (decide (((appls s t).length:Int) > 0)),.int .i64 (Xm s t),Bv (decide (((appls s t).length:Int) > 0)),.int .i64 (Xm s t)] (zjr (ret2 (Bv (decide (((appls s t).length:Int) > 0))) (.int .i64 (Xm s t)) rfl rfl rfl ⟨_,rfl,?_,H.base⟩)))))
   rw [free_ok ql ql]
theorem law_FnApplicable (w:World) (code:List UInt8) (more:List UInt8) (acode:yOA) (ccode:Nat) (Fcode:yLN) (amore:yOA) (cmore:Nat) (Fmore:yLN) (hcode:qX.rep w Fcode [Sv acode code.length ccode] code) (hmore:qX.rep w Fmore [Sv amore more.length cmore] more):Calls Tryz.prog 6 #[Sv acode code.length ccode,Sv amore more.length cmore] w (Ret (fun v w' =>v=Bv true) w):=by
 refine en Tryz.func6 Tryz.ntmps6 ?_
 have H:=((St.start w).arg hmore).arg hcode
 have nhcode:=qV hcode
 have nhmore:=qV hmore
 clear hcode hmore
 have N:=Fresh.nil w.heap.size
 refine zcr (sp (Bv false) (zjcc (sps [Sv acode code.length ccode,Sv amore more.length cmore] (sw (vk #[Sv acode code.length ccode,Sv amore more.length cmore] rfl rfl call8 (en Tryz.func8 Tryz.ntmps8 ?_))))))
 refine zcr (sp (Bv false) (zjc (sp (Sv acode code.length ccode) (oN rfl (sps [Bv (decide ((code.length:Int) > 3000)),Bv (decide ((code.length:Int) > 3000))] ?_)))))
 cases h1:(decide ((code.length:Int) > 3000))
 ·skip
  replace h1:=of_decide_eq_false h1
  refine qR 8 rfl rfl (sp (Sv amore more.length cmore) (qR 8 rfl rfl (oN rfl (qR 8 rfl rfl (sps [Bv (decide ((more.length:Int) > 3000)),Bv (decide ((more.length:Int) > 3000)),Bv (decide ((more.length:Int) > 3000))] (zjr (ret1 (Bv (decide ((more.length:Int) > 3000))) rfl rfl ⟨_,rfl,(zjn (cD rfl (fun h2=>?_) (fun h2=>?_)))⟩)))))))
  ·skip
   refine zcr (sp (Bv true) (zjr (t_r (ret1 (Bv true) rfl rfl ⟨_,rfl,?_,H.base⟩))))
   rfl
  ·skip
   refine xk (t_n (zcr (sp (Sv acode code.length ccode) ?_)))
   have H1:St w w [] [sF false Fcode acode ccode code,sF false Fmore amore cmore more]:=H.pick [] [0,1]
   have N1:Fresh _ []:=N
   have K1:Kept [] [sF false Fmore amore cmore more]:=Kept.nil _
   refine sw (vK #[Sv acode code.length ccode] rfl rfl call24 (a2System_ok code acode ccode Fcode H1 N1 K1 ) ?_)
   clear H H1 N1 K1
   rintro _ w3 ⟨zi7,zl8,zR9,zm10,zL11,zl12,ra13,rn14,rc15,ra16,rn17,rc18,rx19,rF20,ra21,rn22,rc23,ra24,rn25,rc26,rx27,rF28,ra29,rn30,rc31,hx5,hx6,rfl,N,H⟩
   obtain rfl:=H.yx 0 rfl
   obtain rfl:=H.x8 (α:=jL) 1 rfl 1 rfl qj
   obtain rfl:=H.rowNB 2 rfl
   obtain rfl:=H.x8 (α:=yLI) 3 rfl 2 rfl qj
   obtain rfl:=H.yx 4 rfl
   refine sps [.tuple #[.agg #[.int .i64 zi7,Sv ra13 zl8.length rc15,Sv ra16 zR9.length rc18],.agg #[Sv ra21 zm10.length rc23,Sv ra24 zL11.length rc26,Sv ra29 zl12.length rc31]],.agg #[.int .i64 zi7,Sv ra13 zl8.length rc15,Sv ra16 zR9.length rc18],.agg #[Sv ra21 zm10.length rc23,Sv ra24 zL11.length rc26,Sv ra29 zl12.length rc31]] (sw (xZ H ti27 [.int .i64 0,Sv none 0 0,Sv none 0 0] fun b32 w33 H=>sw (xZ H ti31 [Sv none 0 0,Sv none 0 0,Sv none 0 0] fun b34 w35 H=>sw (zu H 1 [.int .i64 zi7,Sv ra13 zl8.length rc15,Sv ra16 zR9.length rc18] sizeOf27 fun w36 H=>?_))))
   refine sw (zu H 0 [Sv ra21 zm10.length rc23,Sv ra24 zL11.length rc26,Sv ra29 zl12.length rc31] sizeOf31 fun w37 H=>zjn (zf ?_))
   obtain ⟨s,e1,e2,e3⟩:∃ z:qI,zi7=z.xh∧zl8=z.qA∧zR9=z.qB:=⟨⟨zi7,zl8,zR9⟩,rfl,rfl,rfl⟩
   subst e1 e2 e3
   obtain ⟨t,e1,e2,e3⟩:∃ z:qP,zm10=z.qG∧zL11=z.qH∧zl12=z.qF:=⟨⟨zm10,zL11,zl12⟩,rfl,rfl,rfl⟩
   subst e1 e2 e3
   have sd:=(‹SysDr _ _ _›)
   have td:=(‹StDr _ _ _ _ _ _›)
   have k0:zQ s∧xI s t:=⟨sd.ok,td.ok sd qf⟩
   have k1:=k0.1
   have k2:=k0.2
   have sc:=sd.cells
   have fr:=sd.few
   have Z:Ye s t:=applAt_of sd td qf
   have n0:=Z.ns
   have n1:=Z.nsLen
   have n2:=Z.nsNone
   have a1:=halt_eq (s:=s) (t:=t)
   have a2:(appls s t).length≤s.qB.length:=applL_le s t s.qB.length
   refine zg (sw (xU [.int .i64 s.xh,Sv ra13 s.qA.length rc15,Sv ra16 s.qB.length rc18] isAgg27 sizeOf27 rfl (qJ (H.cells 1 rfl) 0 3) (sw (xU [Sv ra21 t.qG.length rc23,Sv ra24 t.qH.length rc26,Sv ra29 t.qF.length rc31] isAgg31 sizeOf31 rfl (qJ (H.cells 0 rfl) 0 3) ?_))))
   obtain ⟨G38,hn39,h40⟩:=H.QW 2 rfl
   obtain ⟨G41,hn42,h43⟩:=H.QK (α:=jL) 3 rfl 1 rfl qj
   obtain ⟨G44,hn45,h46⟩:=H.rowIsB 4 rfl
   obtain ⟨G47,hn48,h49⟩:=H.QK (α:=yLI) 5 rfl 2 rfl qj
   obtain ⟨G50,hn51,h52⟩:=H.QW 6 rfl
   have sz56:=H.base.size
   refine sw (oc (implAppl_ok _ s t h40 h43 h46 h49 h52 qg) ?_)
   rintro _ w54 ⟨ra53a,rn53a,rc53a,rfl,M,K⟩ _
   replace H:=H.merge K M
   obtain rfl:=H.yx 0 rfl
   refine sps [.tuple #[Sv ra53a ((appls s t).length) rc53a,.int .i64 0],Sv ra53a ((appls s t).length) rc53a,.int .i64 0,Sv ra53a ((appls s t).length) rc53a,.int .i64 0] (zjc (sw (xU [.int .i64 s.xh,Sv ra13 s.qA.length rc15,Sv ra16 s.qB.length rc18] isAgg27 sizeOf27 rfl (qJ (H.cells 2 rfl) 0 3) (sw (xU [Sv ra21 t.qG.length rc23,Sv ra24 t.qH.length rc26,Sv ra29 t.qF.length rc31] isAgg31 sizeOf31 rfl (qJ (H.cells 1 rfl) 0 3) ?_)))))
   obtain ⟨G59,hn60,h61⟩:=H.QW 3 rfl
   obtain ⟨G62,hn63,h64⟩:=H.QK (α:=jL) 4 rfl 1 rfl qj
   obtain ⟨G65,hn66,h67⟩:=H.rowIsB 5 rfl
   obtain ⟨G68,hn69,h70⟩:=H.QK (α:=yLI) 6 rfl 2 rfl qj
   obtain ⟨G71,hn72,h73⟩:=H.QW 7 rfl
   refine sw (oq (isHalted_ok _ s t h61 h64 h67 h70 h73 qg) H fun w75 H=>sps [.tuple #[Bv (dec (Halted s t)),.int .i64 0],Bv (dec (Halted s t)),.int .i64 0,Bv (dec (Halted s t)),.int .i64 0] (zjc (sw (xU [.int .i64 s.xh,Sv ra13 s.qA.length rc15,Sv ra16 s.qB.length rc18] isAgg27 sizeOf27 rfl (qJ (H.cells 2 rfl) 0 3) (sw (xU [Sv ra21 t.qG.length rc23,Sv ra24 t.qH.length rc26,Sv ra29 t.qF.length rc31] isAgg31 sizeOf31 rfl (qJ (H.cells 1 rfl) 0 3) ?_))))))
   obtain ⟨G77,hn78,h79⟩:=H.QW 3 rfl
   obtain ⟨G80,hn81,h82⟩:=H.QK (α:=jL) 4 rfl 1 rfl qj
   obtain ⟨G83,hn84,h85⟩:=H.rowIsB 5 rfl
   obtain ⟨G86,hn87,h88⟩:=H.QK (α:=yLI) 6 rfl 2 rfl qj
   obtain ⟨G89,hn90,h91⟩:=H.QW 7 rfl
   have sz95:=H.base.size
   have lt96:=H.ltN (L:=[rF20,rF28]) [1,2]
   refine sw (oc (implNs_ok _ s t h79 h82 h85 h88 h91) ?_)
   rintro _ w93 ⟨ra92a,rn92a,rc92a,rx92a,rF92a,rfl,M,K⟩ _
   replace N:=N.merge sz95 lt96 M
   replace H:=H.merge K M
   obtain rfl:=H.x8 (α:=qP) 0 rfl 0 rfl qj
   refine sps [.tuple #[Sv ra92a (((yQ s t).1).length) rc92a,.int .i64 ((yQ s t).2)],Sv ra92a (((yQ s t).1).length) rc92a,.int .i64 ((yQ s t).2),Sv ra92a (((yQ s t).1).length) rc92a,.int .i64 ((yQ s t).2)] (zjcc (sps [.int .i64 0,Bv false,Bv false] (qR 59 rfl rfl (sp (.int .i64 0) (qR 59 rfl rfl (sps [Bv false,Bv false,Bv false] (qR 63 rfl rfl (sp (.int .i64 ((yQ s t).2)) (qR 63 rfl rfl (sps [Bv (((yQ s t).2:Int) != 0),Bv (((yQ s t).2:Int) != 0),Bv (((yQ s t).2:Int) != 0)] ?_))))))))))
   cases h98:(((yQ s t).2:Int) != 0)
   ·skip
    replace h98:=xF h98
    refine qR 67 rfl rfl (sp (Bv (dec (Halted s t))) (qR 67 rfl rfl (sp (Sv ra53a ((appls s t).length) rc53a) (qR 67 rfl rfl (oN rfl (qR 67 rfl rfl (sp (Bv (((appls s t).length:Int) == 0)) (qR 67 rfl rfl (sw (o_neB underlying4 (dec (Halted s t)) (((appls s t).length:Int) == 0) rfl rfl (sps [Bv ((dec (Halted s t)) != (((appls s t).length:Int) == 0)),Bv ((dec (Halted s t)) != (((appls s t).length:Int) == 0))] ?_)))))))))))
    cases h99:((dec (Halted s t)) != (((appls s t).length:Int) == 0))
    ·skip
     replace h99:=xF h99
     refine qR 74 rfl rfl (sp (Bv (dec (Halted s t))) (qR 74 rfl rfl (sp (Sv ra92a (((yQ s t).1).length) rc92a) (qR 74 rfl rfl (oN rfl (qR 74 rfl rfl (sp (Bv ((((yQ s t).1).length:Int) == 0)) (qR 74 rfl rfl (sw (o_neB underlying4 (dec (Halted s t)) ((((yQ s t).1).length:Int) == 0) rfl rfl (sps [Bv ((dec (Halted s t)) != ((((yQ s t).1).length:Int) == 0)),Bv ((dec (Halted s t)) != ((((yQ s t).1).length:Int) == 0))] ?_)))))))))))
     cases h100:((dec (Halted s t)) != ((((yQ s t).1).length:Int) == 0))
     ·skip
      replace h100:=xF h100
      refine qR 81 rfl rfl (sp (Sv ra92a (((yQ s t).1).length) rc92a) (qR 81 rfl rfl (oN rfl (qR 81 rfl rfl (sp (Sv ra53a ((appls s t).length) rc53a) (qR 81 rfl rfl (oN rfl (qR 81 rfl rfl (sps [Bv (decide ((((yQ s t).1).length:Int) > ((appls s t).length))),Bv (decide ((((yQ s t).1).length:Int) > ((appls s t).length)))] (zjn (cD rfl (fun h101=>?_) (fun h101=>?_))))))))))))
      ·skip
       refine zcr (sp (Bv false) (zjr (t_r (ret1 (Bv false) rfl rfl ⟨_,rfl,?_,H.base⟩))))
       exfalso;first | omega | contradiction | exact absurd a1.symm ql | exact absurd n2.symm ql
      ·skip
       refine xk (t_n (zcr (oF rfl (oL rfl (H.cell 3 rfl rfl) (oN rfl (sw (ji H underlying24 ti2 s.qA.length rfl rfl qf qf qf fun b102 w103 H=>sp (Sv (some ⟨b102,0,none⟩) s.qA.length s.qA.length) (zjcc (sp (.int .i64 0) (zjn (xg ?_)))))))))))
       refine zJ (fun m' ρ w104=>∃ (xY:Env) (c:Nat) (ranks:yLI),ρ=upd (upd (upd (upd (upd (upd (upd xY 5 (.pointer (some ⟨b32,0,none⟩))) 6 (.pointer (some ⟨b34,0,none⟩))) 7 (Sv ra53a ((appls s t).length) rc53a)) 9 (Bv (dec (Halted s t)))) 11 (Sv ra92a (((yQ s t).1).length) rc92a)) 13 (Sv (some ⟨b102,0,none⟩) s.qA.length s.qA.length)) 14 (.int .i64 c)∧((c:Int)≤s.qA.length)∧(ranks.length=s.qA.length)∧(∀ j,j < c→ranks[j]! = -1)∧m' =(s.qA.length - (c:Int)).toNat∧Fresh w.heap.size [rF92a,rF20,rF28]∧St w w104 [rr (some ⟨b102,0,none⟩) s.qA.length s.qA.length 2 1 (ranks.map (Value.int .i64)),rr ra92a (((yQ s t).1).length) rc92a 31 3 rx92a,rr ra53a ((appls s t).length) rc53a 2 1 ((appls s t).map (Value.int .i64)),.box b34 [Sv ra21 t.qG.length rc23,Sv ra24 t.qH.length rc26,Sv ra29 t.qF.length rc31] 31,.box b32 [.int .i64 s.xh,Sv ra13 s.qA.length rc15,Sv ra16 s.qB.length rc18] 27,rr ra13 s.qA.length rc15 2 1 (s.qA.map (Value.int .i64)),rr ra16 s.qB.length rc18 56 9 rx19,rr ra21 t.qG.length rc23 4 1 (t.qG.map (Value.bool)),rr ra24 t.qH.length rc26 24 1 rx27,rr ra29 t.qF.length rc31 2 1 (t.qF.map (Value.int .i64))] [xN true rF92a rx92a ((yQ s t).1),xN true rF20 rx19 s.qB,xN true rF28 rx27 t.qH]) ((s.qA.length - (0:Int)).toNat) ⟨_,0,(List.replicate s.qA.length (0:Int)),uE7,qf,qm,qx,rfl,N,H.pick [0,1,2,3,4,5,6,7,8,9] [0,2,3]⟩ ?_
       clear H N
       rintro m' ρ w105 ⟨xY,c,ranks,rfl,i0,R0,R1,rfl,N,H⟩
       have hn_ranks:=H.yx 0 rfl
       refine zcc (sps [.int .i64 c,Sv (some ⟨b102,0,none⟩) s.qA.length s.qA.length] (oN rfl (sp (Bv (decide ((c:Int) < s.qA.length))) (zjn (cD rfl (fun h106=>?_) (fun h106=>?_))))))
       ·skip
        refine xk (t_n (zf (xg (zg (sps [Sv (some ⟨b102,0,none⟩) s.qA.length s.qA.length,.int .i64 c] (oI rfl rfl (sw (X0 H 0 rfl (-1) sizeOf2 rfl rfl (i:=c) qf qf fun w107 H=>zi (b_n (t_n (zg (sp (.int .i64 c) (sw (zL c 1 rfl rfl qf (sp (.int .i64 (c+1)) (zi (xq (m' :=(s.qA.length - ((c+1):Int)).toNat) qf ⟨_,c+1,(ranks.set c (-1)),uE7,?_,?_,?_,rfl,N,H⟩)))))))))))))))))
        · omega
        · rw [List.length_set];exact R0
        · exact fun j hj=>by rw [getset qf];split <;> first | rfl | exact R1 j qf
       ·skip
        refine zx4 (zcc (sp (.int .i64 0) (zjn (xg ?_))))
        refine zJ (fun m' ρ w108=>∃ (xY:Env) (i:Nat) (ranks_1:yLI),ρ=upd (upd (upd (upd (upd (upd (upd xY 5 (.pointer (some ⟨b32,0,none⟩))) 6 (.pointer (some ⟨b34,0,none⟩))) 7 (Sv ra53a ((appls s t).length) rc53a)) 9 (Bv (dec (Halted s t)))) 11 (Sv ra92a (((yQ s t).1).length) rc92a)) 13 (Sv (some ⟨b102,0,none⟩) s.qA.length s.qA.length)) 15 (.int .i64 i)∧((i:Int)≤s.qB.length)∧(RankTo s t ranks_1 i)∧m' =(s.qB.length - (i:Int)).toNat∧Fresh w.heap.size [rF92a,rF20,rF28]∧St w w108 [rr (some ⟨b102,0,none⟩) s.qA.length s.qA.length 2 1 (ranks_1.map (Value.int .i64)),rr ra92a (((yQ s t).1).length) rc92a 31 3 rx92a,rr ra53a ((appls s t).length) rc53a 2 1 ((appls s t).map (Value.int .i64)),.box b34 [Sv ra21 t.qG.length rc23,Sv ra24 t.qH.length rc26,Sv ra29 t.qF.length rc31] 31,.box b32 [.int .i64 s.xh,Sv ra13 s.qA.length rc15,Sv ra16 s.qB.length rc18] 27,rr ra13 s.qA.length rc15 2 1 (s.qA.map (Value.int .i64)),rr ra16 s.qB.length rc18 56 9 rx19,rr ra21 t.qG.length rc23 4 1 (t.qG.map (Value.bool)),rr ra24 t.qH.length rc26 24 1 rx27,rr ra29 t.qF.length rc31 2 1 (t.qF.map (Value.int .i64))] [xN true rF92a rx92a ((yQ s t).1),xN true rF20 rx19 s.qB,xN true rF28 rx27 t.qH]) ((s.qB.length - (0:Int)).toNat) ⟨_,0,ranks,uE7,qf,(by exact RankTo.start R0 (fun c' hc=>R1 c' qf)),rfl,N,H⟩ ?_
        clear H N
        rintro m' ρ w109 ⟨xY,i,ranks_1,rfl,i0,RT,rfl,N,H⟩
        have hn_ranks:=H.yx 0 rfl
        refine zcc (sp (.int .i64 i) (oF rfl (oL rfl (H.cell 4 rfl rfl) (oN rfl (sp (Bv (decide ((i:Int) < s.qB.length))) (zjn (cD rfl (fun h110=>?_) (fun h110=>?_))))))))
        ·skip
         have hi:i < (s).qB.length:=by omega
         have rc:0≤(s.qB[i]!).qN∧((s.qB[i]!).qN).toNat < s.qA.length:=⟨(k1.rule hi).1.1,(k1.rule hi).cell⟩
         have rl:_=s.qA.length:=RT.1
         refine xk (t_n (zf (xg (zcr (sw (xU [.int .i64 s.xh,Sv ra13 s.qA.length rc15,Sv ra16 s.qB.length rc18] isAgg27 sizeOf27 rfl (qJ (H.cells 4 rfl) 0 3) (sw (xU [Sv ra21 t.qG.length rc23,Sv ra24 t.qH.length rc26,Sv ra29 t.qF.length rc31] isAgg31 sizeOf31 rfl (qJ (H.cells 3 rfl) 0 3) (sp (.int .i64 i) ?_)))))))))
         obtain ⟨G111,hn112,h113⟩:=H.QW 5 rfl
         obtain ⟨G114,hn115,h116⟩:=H.QK (α:=jL) 6 rfl 1 rfl qj
         obtain ⟨G117,hn118,h119⟩:=H.rowIsB 7 rfl
         obtain ⟨G120,hn121,h122⟩:=H.QK (α:=yLI) 8 rfl 2 rfl qj
         obtain ⟨G123,hn124,h125⟩:=H.QW 9 rfl
         have sz129:=H.base.size
         have lt130:=H.ltN (L:=[rF92a,rF20,rF28]) [0,1,2]
         refine sw (oc (implOne_ok _ s t i h113 h116 h119 h122 h125) ?_)
         rintro _ w127 ⟨ra126aAlive,rn126aAlive,rc126aAlive,ra126aBags,rn126aBags,rc126aBags,rx126aBags,rF126aBags,ra126aAround,rn126aAround,rc126aAround,rfl,M,K⟩ _
         replace N:=N.merge sz129 lt130 M
         replace H:=H.merge K M
         obtain rfl:=H.rowNB 0 rfl
         obtain rfl:=H.x8 (α:=yLI) 1 rfl 0 rfl qj
         obtain rfl:=H.yx 2 rfl
         refine sps [.tuple #[.agg #[Sv ra126aAlive ((((ja s t i).1).qG).length) rc126aAlive,Sv ra126aBags ((((ja s t i).1).qH).length) rc126aBags,Sv ra126aAround ((((ja s t i).1).qF).length) rc126aAround],.int .i64 ((ja s t i).2)],.agg #[Sv ra126aAlive ((((ja s t i).1).qG).length) rc126aAlive,Sv ra126aBags ((((ja s t i).1).qH).length) rc126aBags,Sv ra126aAround ((((ja s t i).1).qF).length) rc126aAround],.int .i64 ((ja s t i).2)] (sw (xZ H ti31 [Sv none 0 0,Sv none 0 0,Sv none 0 0] fun b134 w135 H=>?_))
         refine sw (zu H 0 [Sv ra126aAlive ((((ja s t i).1).qG).length) rc126aAlive,Sv ra126aBags ((((ja s t i).1).qH).length) rc126aBags,Sv ra126aAround ((((ja s t i).1).qF).length) rc126aAround] sizeOf31 fun w136 H=>sp (.int .i64 ((ja s t i).2)) (zjc (sw (xU [.int .i64 s.xh,Sv ra13 s.qA.length rc15,Sv ra16 s.qB.length rc18] isAgg27 sizeOf27 rfl (qJ (H.cells 8 rfl) 0 3) (sw (xU [Sv ra21 t.qG.length rc23,Sv ra24 t.qH.length rc26,Sv ra29 t.qF.length rc31] isAgg31 sizeOf31 rfl (qJ (H.cells 7 rfl) 0 3) ?_))))))
         refine sp (.int .i64 i) ?_
         obtain ⟨G137,hn138,h139⟩:=H.QW 9 rfl
         obtain ⟨G140,hn141,h142⟩:=H.QK (α:=jL) 10 rfl 2 rfl qj
         obtain ⟨G143,hn144,h145⟩:=H.rowIsB 11 rfl
         obtain ⟨G146,hn147,h148⟩:=H.QK (α:=yLI) 12 rfl 3 rfl qj
         obtain ⟨G149,hn150,h151⟩:=H.QW 13 rfl
         have sz155:=H.base.size
         have lt156:=H.ltN (L:=[rF126aBags,rF92a,rF20,rF28]) [0,1,2,3]
         refine sw (oc (changeAll_ok _ s t i h139 h142 h145 h148 h151 qg qg) ?_)
         rintro _ w153 ⟨ra152a,rn152a,rc152a,rx152a,rF152a,rfl,M,K⟩ _
         replace N:=N.merge sz155 lt156 M
         replace H:=H.merge K M
         obtain rfl:=H.x8 (α:=yLI) 0 rfl 0 rfl qj
         refine sps [.tuple #[Sv ra152a ((chgV s t i).length) rc152a,.int .i64 (chgC s t i)],Sv ra152a ((chgV s t i).length) rc152a,.int .i64 (chgC s t i),Sv ra152a ((chgV s t i).length) rc152a,.int .i64 (chgC s t i)] (zjc (oF rfl (oL rfl (H.cell 9 rfl rfl) (sp (.int .i64 i) ?_))))
         obtain ⟨b158,rfl⟩:=H.Qe 11 rfl qf
         obtain ⟨ae159Need,ce159Need,Fe159Need,ae159Have,ce159Have,Fe159Have,ae159Lack,ce159Lack,Fe159Lack,ae159Here,ce159Here,Fe159Here,ae159Out,ce159Out,Fe159Out,ae159Into,ce159Into,Fe159Into,hx160,H⟩:=H.rowel_RuleD 11 rfl 3 rfl (iv:=i) i qf qf
         refine oI rfl rfl (sw (xU [.int .i64 ((s.qB[i]!).qN),.int .i64 ((s.qB[i]!).vP),Sv ae159Need (((s.qB[i]!).xR).length) ce159Need,Sv ae159Have (((s.qB[i]!).zM).length) ce159Have,Sv ae159Lack (((s.qB[i]!).zK).length) ce159Lack,Sv ae159Here (((s.qB[i]!).zH).length) ce159Here,Sv ae159Out (((s.qB[i]!).jC).length) ce159Out,Sv ae159Into (((s.qB[i]!).qW).length) ce159Into,Bv ((s.qB[i]!).vF)] isAgg56 sizeOf56 rfl (qJ (fun j v hj=>H.rowGet 11 rfl (hx160 j v hj)) 0 9) ?_))
         refine sw (xZ H ti56 [.int .i64 0,.int .i64 0,Sv none 0 0,Sv none 0 0,Sv none 0 0,Sv none 0 0,Sv none 0 0,Sv none 0 0,Bv false] fun b161 w162 H=>?_)
         refine sw (zu H 0 [.int .i64 ((s.qB[i]!).qN),.int .i64 ((s.qB[i]!).vP),Sv ae159Need (((s.qB[i]!).xR).length) ce159Need,Sv ae159Have (((s.qB[i]!).zM).length) ce159Have,Sv ae159Lack (((s.qB[i]!).zK).length) ce159Lack,Sv ae159Here (((s.qB[i]!).zH).length) ce159Here,Sv ae159Out (((s.qB[i]!).jC).length) ce159Out,Sv ae159Into (((s.qB[i]!).qW).length) ce159Into,Bv ((s.qB[i]!).vF)] sizeOf56 fun w163 H=>zjcc (sps [Sv ra53a ((appls s t).length) rc53a,.int .i64 i] ?_))
         obtain ⟨G164,hn165,h166⟩:=H.QW 8 rfl
         refine sw (oq (a2Kid_ok _ (appls s t) i h166) H fun w168 H=>sps [.int .i64 ((ja s t i).2),Bv (((ja s t i).2:Int) == 0)] (sw (o_neB underlying4 (decide ((i:Int)∈(appls s t))) (((ja s t i).2:Int) == 0) rfl rfl (sp (Bv ((decide ((i:Int)∈(appls s t))) != (((ja s t i).2:Int) == 0))) ?_))))
         cases h170:((decide ((i:Int)∈(appls s t))) != (((ja s t i).2:Int) == 0))
         ·skip
          replace h170:=xF h170
          refine qR 133 rfl rfl (sp (.int .i64 ((ja s t i).2)) (qR 133 rfl rfl (sp (Bv (((ja s t i).2:Int) == 0)) (qR 133 rfl rfl (sp (Bv (((ja s t i).2:Int) == 0)) ?_)))))
          cases h171:(((ja s t i).2:Int) == 0)
          ·skip
           replace h171:=ne_of_beq_false h171
           refine xW [137,138] (qR 133 rfl rfl (sps [Bv false,Bv false] (zjn (xK false rfl (fun h=>absurd h qj) (fun _=>xk (t_n (zcc (sps [.int .i64 ((ja s t i).2),Bv (((ja s t i).2:Int) != 0)] (zjn (xK (((ja s t i).2:Int) != 0) rfl (fun h172=>?_) (fun h=>absurd (xF h) h171)))))))))))
           replace h172:=bne_iff_ne.1 h172
           refine c_exit (t_x (b_x (t_n (zg (sp (.int .i64 i) (sw (zL i 1 rfl rfl qf (sp (.int .i64 (i+1)) (zi (xq (m' :=(s.qB.length - ((i+1):Int)).toNat) qf ⟨_,i+1,ranks_1,uE7,?_,?_,rfl,(N.pick [2,3,4]),H.pick [6,7,8,9,10,11,12,13,14,15] [8,9,10]⟩))))))))))
           · omega
           · first | exact RT.skip | exact RT.put k1 hi ha
          ·skip
           replace h171:=eq_of_beq h171
           refine qR 136 rfl rfl (sp (.int .i64 (chgC s t i)) (qR 136 rfl rfl (sp (Bv (((chgC s t i):Int) != 0)) (qR 133 rfl rfl (sps [Bv (((chgC s t i):Int) != 0),Bv (((chgC s t i):Int) != 0)] (zjn (xK (((chgC s t i):Int) != 0) rfl (fun h173=>?_) (fun h173=>?_))))))))
           ·skip
            replace h173:=bne_iff_ne.1 h173
            refine zcr (sp (Bv false) (zjr (t_r (zr5 (ret1 (Bv false) rfl rfl ⟨_,rfl,?_,H.base⟩)))))
            exfalso;first | exact absurd (Z.one hi).symm ql | exact absurd (Z.chg hi ql) ql | exact Bool.noConfusion (fo.symm.trans ql) | exact absurd (RT.same k1 hi ha ql) ql
           ·skip
            replace h173:=xF h173
            refine xk (t_n (zcc (sps [.int .i64 ((ja s t i).2),Bv (((ja s t i).2:Int) != 0)] (zjn (xK (((ja s t i).2:Int) != 0) rfl (fun h=>absurd h171 (bne_iff_ne.1 h)) (fun h174=>?_))))))
            replace h174:=xF h174
            have hz:(ja s t (i:Int)).2=0:=by omega
            have ha:=Z.appl hi hz
            refine xk (t_n (zcr (sp (Bv false) (zjcc (sp (.int .i64 0) (zjn (xg ?_)))))))
            refine zJ (fun m' ρ w175=>∃ (xY:Env) (found:Bool) (k:Nat),ρ=upd (upd (upd (upd (upd (upd (upd (upd (upd (upd (upd (upd (upd (upd (upd (upd (upd xY 5 (.pointer (some ⟨b32,0,none⟩))) 6 (.pointer (some ⟨b34,0,none⟩))) 7 (Sv ra53a ((appls s t).length) rc53a)) 9 (Bv (dec (Halted s t)))) 11 (Sv ra92a (((yQ s t).1).length) rc92a)) 13 (Sv (some ⟨b102,0,none⟩) s.qA.length s.qA.length)) 15 (.int .i64 i)) 16 (.pointer (some ⟨b134,0,none⟩))) 20 (.pointer (some ⟨b161,0,none⟩))) 21 (Bv found)) 22 (.int .i64 k)) 134 (.int .i64 ((ja s t i).2))) 135 (Bv true)) 136 (Bv true)) 137 (.int .i64 (chgC s t i))) 138 (Bv (((chgC s t i):Int) != 0))) 139 (Bv (((chgC s t i):Int) != 0))∧found=(dec (Yb (yQ s t).1 (ja s t (i:Int)).1 k))∧((k:Int)≤(((yQ s t).1).length))∧m' =((((yQ s t).1).length) - (k:Int)).toNat∧Fresh w.heap.size [rF152a,rF126aBags,rF92a,rF20,rF28]∧St w w175 [.box b161 [.int .i64 ((s.qB[i]!).qN),.int .i64 ((s.qB[i]!).vP),Sv ae159Need (((s.qB[i]!).xR).length) ce159Need,Sv ae159Have (((s.qB[i]!).zM).length) ce159Have,Sv ae159Lack (((s.qB[i]!).zK).length) ce159Lack,Sv ae159Here (((s.qB[i]!).zH).length) ce159Here,Sv ae159Out (((s.qB[i]!).jC).length) ce159Out,Sv ae159Into (((s.qB[i]!).qW).length) ce159Into,Bv ((s.qB[i]!).vF)] 56,rr ra152a ((chgV s t i).length) rc152a 24 1 rx152a,.box b134 [Sv ra126aAlive ((((ja s t i).1).qG).length) rc126aAlive,Sv ra126aBags ((((ja s t i).1).qH).length) rc126aBags,Sv ra126aAround ((((ja s t i).1).qF).length) rc126aAround] 31,rr ra126aAlive ((((ja s t i).1).qG).length) rc126aAlive 4 1 ((((ja s t i).1).qG).map (Value.bool)),rr ra126aBags ((((ja s t i).1).qH).length) rc126aBags 24 1 rx126aBags,rr ra126aAround ((((ja s t i).1).qF).length) rc126aAround 2 1 ((((ja s t i).1).qF).map (Value.int .i64)),rr (some ⟨b102,0,none⟩) s.qA.length s.qA.length 2 1 (ranks_1.map (Value.int .i64)),rr ra92a (((yQ s t).1).length) rc92a 31 3 rx92a,rr ra53a ((appls s t).length) rc53a 2 1 ((appls s t).map (Value.int .i64)),.box b34 [Sv ra21 t.qG.length rc23,Sv ra24 t.qH.length rc26,Sv ra29 t.qF.length rc31] 31,.box b32 [.int .i64 s.xh,Sv ra13 s.qA.length rc15,Sv (some ⟨b158,0,none⟩) s.qB.length rc18] 27,rr ra13 s.qA.length rc15 2 1 (s.qA.map (Value.int .i64)),rr (some ⟨b158,0,none⟩) s.qB.length rc18 56 9 rx19,rr ra21 t.qG.length rc23 4 1 (t.qG.map (Value.bool)),rr ra24 t.qH.length rc26 24 1 rx27,rr ra29 t.qF.length rc31 2 1 (t.qF.map (Value.int .i64))] [sF true Fe159Need ae159Need ce159Need ((s.qB[i]!).xR),sF true Fe159Have ae159Have ce159Have ((s.qB[i]!).zM),sF true Fe159Lack ae159Lack ce159Lack ((s.qB[i]!).zK),sF true Fe159Here ae159Here ce159Here ((s.qB[i]!).zH),sF true Fe159Out ae159Out ce159Out ((s.qB[i]!).jC),sF true Fe159Into ae159Into ce159Into ((s.qB[i]!).qW),xN true rF152a rx152a (chgV s t i),xN true rF126aBags rx126aBags (((ja s t i).1).qH),xN true rF92a rx92a ((yQ s t).1),xN true rF20 rx19 s.qB,xN true rF28 rx27 t.qH]) (((((yQ s t).1).length) - (0:Int)).toNat) ⟨_,false,0,uE17,(by exact foundTo_0 _ _),qf,rfl,N,H⟩ ?_
            clear H N
            rintro m' ρ w176 ⟨xY,found,k,rfl,rfl,i0,rfl,N,H⟩
            refine zcc (sps [.int .i64 k,Sv ra92a (((yQ s t).1).length) rc92a] (oN rfl (sp (Bv (decide ((k:Int) < (((yQ s t).1).length)))) (zjn (cD rfl (fun h177=>?_) (fun h177=>?_))))))
            ·skip
             refine xk (t_n (zf (xg ?_)))
             refine yl rfl H fun H=>rtp 0 (Bv (dec (Yb (yQ s t).1 (ja s t (i:Int)).1 k))) H ?_
             refine rtp 1 (Bv (dec (Yb (yQ s t).1 (ja s t (i:Int)).1 k))) H ?_
             cases h179:((dec (Yb (yQ s t).1 (ja s t (i:Int)).1 k)))
             ·skip
              refine rgp 2 (Sv ra92a (((yQ s t).1).length) rc92a) 150 H ?_
              refine rgp 3 (.int .i64 k) 150 H ?_
              obtain ⟨b180,rfl⟩:=H.Qe 7 rfl qf
              obtain ⟨ae181Alive,ce181Alive,Fe181Alive,ae181Bags,ce181Bags,Fe181Bags,ae181Around,ce181Around,Fe181Around,hx182,H⟩:=H.rowel_StateD 7 rfl 8 rfl (iv:=k) k qf qf
              have S:=H.yj [0,1,2,3,4,5,6,7,8,9,10,11,12,13,14,15] [3,4,5,6,7,8,9,10,11,12,13]
              refine gI 4 rfl rfl rfl S ?_
              refine rg 5 (.agg #[Sv ae181Alive (((((yQ s t).1)[k]!).qG).length) ce181Alive,Sv ae181Bags (((((yQ s t).1)[k]!).qH).length) ce181Bags,Sv ae181Around (((((yQ s t).1)[k]!).qF).length) ce181Around]) 150 (Qv (cs:=[Sv ae181Alive (((((yQ s t).1)[k]!).qG).length) ce181Alive,Sv ae181Bags (((((yQ s t).1)[k]!).qH).length) ce181Bags,Sv ae181Around (((((yQ s t).1)[k]!).qF).length) ce181Around]) isAgg31 sizeOf31 rfl (fun _ h=>qJ (fun j v hj=>h.rowGet 7 rfl (hx182 j v hj)) 0 3)) S ?_
              refine rg 6 (.agg #[Sv ra126aAlive ((((ja s t i).1).qG).length) rc126aAlive,Sv ra126aBags ((((ja s t i).1).qH).length) rc126aBags,Sv ra126aAround ((((ja s t i).1).qF).length) rc126aAround]) 150 (Qv (cs:=[Sv ra126aAlive ((((ja s t i).1).qG).length) rc126aAlive,Sv ra126aBags ((((ja s t i).1).qH).length) rc126aBags,Sv ra126aAround ((((ja s t i).1).qF).length) rc126aAround]) isAgg31 sizeOf31 rfl (fun _ h=>qJ (h.cells 2 rfl) 0 3)) S ?_
              refine jb [7] qh qm (Vh rfl (e:=150) rfl rfl ?_ jd)
              obtain ⟨G183,hn184,h185⟩:=H.rowIsB 3 rfl
              obtain ⟨G186,hn187,h188⟩:=H.QK (α:=yLI) 4 rfl 10 rfl qj
              obtain ⟨G189,hn190,h191⟩:=H.QW 5 rfl
              refine oq (specSame_ok _ (((yQ s t).1)[k]!) ((ja s t i).1) (H.get 0 rfl).1 (H.get 1 rfl).1 (H.get 2 rfl).1 h185 h188 h191) H fun w193 H=>⟨H.pick [0,1,2,3,4,5,6,7,8,9,10,11,12,13,14,15] [3,4,5,6,7,8,9,10,11,12,13],?_⟩
              have S:=H.yj [0,1,2,3,4,5,6,7,8,9,10,11,12,13,14,15] [3,4,5,6,7,8,9,10,11,12,13]
              refine rtp 8 (Bv (decide ((((yQ s t).1)[k]!)=((ja s t i).1)))) S ?_
              refine rtp 9 (Bv (decide ((((yQ s t).1)[k]!)=((ja s t i).1)))) S ?_
              refine xJ qh (b_n (t_n (zg (sp (.int .i64 k) (sw (zL k 1 rfl rfl qf (sp (.int .i64 (k+1)) (zi (xq (m' :=((((yQ s t).1).length) - ((k+1):Int)).toNat) qf ⟨_,decide ((((yQ s t).1)[k]!)=((ja s t i).1)),k+1,uE17,?_,?_,rfl,N,H.pick [0,1,2,3,4,5,6,7,8,9,10,11,12,13,14,15] [3,4,5,6,7,8,9,10,11,12,13]⟩)))))))))
              · first | exact foundTo_on ql | exact foundTo_step ql
              · omega
             ·skip
              refine zV [2,3,4,5,6,7] 6 (H) (rtp 8 (Bv true) H ?_)
              refine rtp 9 (Bv true) H ?_
              refine xJ qh (b_n (t_n (zg (sp (.int .i64 k) (sw (zL k 1 rfl rfl qf (sp (.int .i64 (k+1)) (zi (xq (m' :=((((yQ s t).1).length) - ((k+1):Int)).toNat) qf ⟨_,true,k+1,uE17,?_,?_,rfl,N,H⟩)))))))))
              · first | exact foundTo_on ql | exact foundTo_step ql
              · omega
            ·skip
             have ek:k=((yQ s t).1).length:=by omega
             have fo:dec (Yb (yQ s t).1 (ja s t (i:Int)).1 k)=true:=by rw [ek];exact foundTo_mem (Z.has hi hz)
             refine zx4 (zf (zf ?_))
             refine yl rfl H fun H=>rtp 0 (Bv (dec (Yb (yQ s t).1 (ja s t (i:Int)).1 k))) H ?_
             refine rtp 1 (Bv (!(dec (Yb (yQ s t).1 (ja s t (i:Int)).1 k)))) H ?_
             refine rtp 2 (Bv (!(dec (Yb (yQ s t).1 (ja s t (i:Int)).1 k)))) H ?_
             cases h196:(!(dec (Yb (yQ s t).1 (ja s t (i:Int)).1 k)))
             ·skip
              replace h196:=xG h196
              refine rgp 3 (Sv (some ⟨b102,0,none⟩) s.qA.length s.qA.length) 160 H ?_
              refine gF 4 rfl rfl H ?_
              refine gL 5 rfl rfl (fun _ h=>h.cell 0 rfl rfl) H ?_
              refine gI 6 rfl rfl rfl H ?_
              refine gL 7 rfl rfl (fun _ h=>h.rowInt 6 rfl (iv:=(s.qB[i]!).qN) (i:=(((s.qB[i]!).qN).toNat)) qf qf) H ?_
              refine rgp 8 (Bv (decide ((ranks_1[((s.qB[i]!).qN).toNat]! :Int)≥0))) 160 H ?_
              refine rgp 9 (Bv (decide ((ranks_1[((s.qB[i]!).qN).toNat]! :Int)≥0))) 160 H ?_
              cases h197:(decide ((ranks_1[((s.qB[i]!).qN).toNat]! :Int)≥0))
              ·skip
               replace h197:=of_decide_eq_false h197
               refine zV [10,11,12,13,14,15,16,17] 8 (H) (rgp 18 (Bv false) 160 H ?_)
               refine rtp 19 (Bv false) H ?_
               refine xJ qh (t_n (xK false rfl (fun h=>absurd h qj) (fun _=>xk (t_n (zg (sp (Sv (some ⟨b102,0,none⟩) s.qA.length s.qA.length) (oF rfl (oL rfl (H.cell 0 rfl rfl) (oF rfl (oL rfl (H.cell 0 rfl rfl) (oI rfl rfl (sw (X0 H 6 rfl ((s.qB[i]!).vP) sizeOf2 rfl rfl (i:=(((s.qB[i]!).qN).toNat)) qf qf fun w198 H=>zi (b_n (t_n (zg (sp (.int .i64 i) (sw (zL i 1 rfl rfl qf (sp (.int .i64 (i+1)) (zi ?_)))))))))))))))))))))
               refine xq (m' :=(s.qB.length - ((i+1):Int)).toNat) qf ⟨_,i+1,(ranks_1.set (((s.qB[i]!).qN).toNat) ((s.qB[i]!).vP)),uE7,?_,?_,rfl,(N.pick [2,3,4]),H.pick [6,7,8,9,10,11,12,13,14,15] [8,9,10]⟩
               · omega
               · first | exact RT.skip | exact RT.put k1 hi ha
              ·skip
               replace h197:=of_decide_eq_true h197
               refine rgp 10 (Sv (some ⟨b102,0,none⟩) s.qA.length s.qA.length) 167 H ?_
               refine gF 11 rfl rfl H ?_
               refine gL 12 rfl rfl (fun _ h=>h.cell 0 rfl rfl) H ?_
               refine gI 13 rfl rfl rfl H ?_
               refine gL 14 rfl rfl (fun _ h=>h.rowInt 6 rfl (iv:=(s.qB[i]!).qN) (i:=(((s.qB[i]!).qN).toNat)) qf qf) H ?_
               refine gF 15 rfl rfl H ?_
               refine gL 16 rfl rfl (fun _ h=>h.cell 0 rfl rfl) H ?_
               refine rgp 17 (Bv ((ranks_1[((s.qB[i]!).qN).toNat]! :Int) != ((s.qB[i]!).vP))) 167 H ?_
               refine rgp 18 (Bv ((ranks_1[((s.qB[i]!).qN).toNat]! :Int) != ((s.qB[i]!).vP))) 160 H ?_
               refine rtp 19 (Bv ((ranks_1[((s.qB[i]!).qN).toNat]! :Int) != ((s.qB[i]!).vP))) H ?_
               refine xJ qh (t_n (xK ((ranks_1[((s.qB[i]!).qN).toNat]! :Int) != ((s.qB[i]!).vP)) rfl (fun h199=>?_) (fun h199=>?_)))
               ·skip
                replace h199:=bne_iff_ne.1 h199
                refine zcr (sp (Bv false) (zjr (t_r (zr5 (ret1 (Bv false) rfl rfl ⟨_,rfl,?_,H.base⟩)))))
                exfalso;first | exact absurd (Z.one hi).symm ql | exact absurd (Z.chg hi ql) ql | exact Bool.noConfusion (fo.symm.trans ql) | exact absurd (RT.same k1 hi ha ql) ql
               ·skip
                replace h199:=xF h199
                refine xk (t_n (zg (sp (Sv (some ⟨b102,0,none⟩) s.qA.length s.qA.length) (oF rfl (oL rfl (H.cell 0 rfl rfl) (oF rfl (oL rfl (H.cell 0 rfl rfl) (oI rfl rfl (sw (X0 H 6 rfl ((s.qB[i]!).vP) sizeOf2 rfl rfl (i:=(((s.qB[i]!).qN).toNat)) qf qf fun w200 H=>zi (b_n (t_n (zg (sp (.int .i64 i) (sw (zL i 1 rfl rfl qf (sp (.int .i64 (i+1)) (zi ?_))))))))))))))))))
                refine xq (m' :=(s.qB.length - ((i+1):Int)).toNat) qf ⟨_,i+1,(ranks_1.set (((s.qB[i]!).qN).toNat) ((s.qB[i]!).vP)),uE7,?_,?_,rfl,(N.pick [2,3,4]),H.pick [6,7,8,9,10,11,12,13,14,15] [8,9,10]⟩
                · omega
                · first | exact RT.skip | exact RT.put k1 hi ha
             ·skip
              replace h196:=xM h196
              refine zV [3,4,5,6,7,8,9,10,11,12,13,14,15,16,17,18] 16 (H) (rtp 19 (Bv true) H ?_)
              refine xJ qh (t_n (xK true rfl (fun _=>zcr (sp (Bv false) (zjr (t_r (zr5 (ret1 (Bv false) rfl rfl ⟨_,rfl,?_,H.base⟩)))))) (fun h=>absurd h qj)))
              exfalso;first | exact absurd (Z.one hi).symm ql | exact absurd (Z.chg hi ql) ql | exact Bool.noConfusion (fo.symm.trans ql) | exact absurd (RT.same k1 hi ha ql) ql
         ·skip
          replace h170:=bne_iff_ne.1 h170
          refine xW [134,135,136,137,138,139] (sp (Bv true) (zjn (xK true rfl (fun _=>zcr (sp (Bv false) (zjr (t_r (zr5 (ret1 (Bv false) rfl rfl ⟨_,rfl,?_,H.base⟩)))))) (fun h=>absurd h qj))))
          exfalso;first | exact absurd (Z.one hi).symm ql | exact absurd (Z.chg hi ql) ql | exact Bool.noConfusion (fo.symm.trans ql) | exact absurd (RT.same k1 hi ha ql) ql
        ·skip
         refine zx4 (zcr (sw (xU [.int .i64 s.xh,Sv ra13 s.qA.length rc15,Sv ra16 s.qB.length rc18] isAgg27 sizeOf27 rfl (qJ (H.cells 4 rfl) 0 3) (sw (xU [Sv ra21 t.qG.length rc23,Sv ra24 t.qH.length rc26,Sv ra29 t.qF.length rc31] isAgg31 sizeOf31 rfl (qJ (H.cells 3 rfl) 0 3) ?_)))))
         obtain ⟨G201,hn202,h203⟩:=H.QW 5 rfl
         obtain ⟨G204,hn205,h206⟩:=H.QK (α:=jL) 6 rfl 1 rfl qj
         obtain ⟨G207,hn208,h209⟩:=H.rowIsB 7 rfl
         obtain ⟨G210,hn211,h212⟩:=H.QK (α:=yLI) 8 rfl 2 rfl qj
         obtain ⟨G213,hn214,h215⟩:=H.QW 9 rfl
         have sz219:=H.base.size
         have lt220:=H.ltN (L:=[rF92a,rF20,rF28]) [0,1,2]
         refine sw (oc (specNx_ok _ s t h203 h206 h209 h212 h215) ?_)
         rintro _ w217 ⟨ra216a,rn216a,rc216a,rx216a,rF216a,rfl,M,K⟩ _
         replace N:=N.merge sz219 lt220 M
         replace H:=H.merge K M
         obtain rfl:=H.x8 (α:=qP) 0 rfl 0 rfl qj
         refine sps [.tuple #[Sv ra216a (((QT s t).1).length) rc216a,.int .i64 ((QT s t).2)],Sv ra216a (((QT s t).1).length) rc216a,.int .i64 ((QT s t).2),Sv ra216a (((QT s t).1).length) rc216a,.int .i64 ((QT s t).2)] (zjc (sw (xU [.int .i64 s.xh,Sv ra13 s.qA.length rc15,Sv ra16 s.qB.length rc18] isAgg27 sizeOf27 rfl (qJ (H.cells 5 rfl) 0 3) (sw (xU [Sv ra21 t.qG.length rc23,Sv ra24 t.qH.length rc26,Sv ra29 t.qF.length rc31] isAgg31 sizeOf31 rfl (qJ (H.cells 4 rfl) 0 3) ?_)))))
         obtain ⟨G222,hn223,h224⟩:=H.QW 6 rfl
         obtain ⟨G225,hn226,h227⟩:=H.QK (α:=jL) 7 rfl 2 rfl qj
         obtain ⟨G228,hn229,h230⟩:=H.rowIsB 8 rfl
         obtain ⟨G231,hn232,h233⟩:=H.QK (α:=yLI) 9 rfl 3 rfl qj
         obtain ⟨G234,hn235,h236⟩:=H.QW 10 rfl
         have sz240:=H.base.size
         have lt241:=H.ltN (L:=[rF216a,rF92a,rF20,rF28]) [0,1,2,3]
         refine sw (oc (implNx_ok _ s t h224 h227 h230 h233 h236) ?_)
         rintro _ w238 ⟨ra237a,rn237a,rc237a,rx237a,rF237a,rfl,M,K⟩ _
         replace N:=N.merge sz240 lt241 M
         replace H:=H.merge K M
         obtain rfl:=H.x8 (α:=qP) 0 rfl 0 rfl qj
         refine sps [.tuple #[Sv ra237a (((QT s t).1).length) rc237a,.int .i64 ((QT s t).2)],Sv ra237a (((QT s t).1).length) rc237a,.int .i64 ((QT s t).2),Sv ra237a (((QT s t).1).length) rc237a,.int .i64 ((QT s t).2)] (zjc (sw (xU [.int .i64 s.xh,Sv ra13 s.qA.length rc15,Sv ra16 s.qB.length rc18] isAgg27 sizeOf27 rfl (qJ (H.cells 6 rfl) 0 3) (sw (xU [Sv ra21 t.qG.length rc23,Sv ra24 t.qH.length rc26,Sv ra29 t.qF.length rc31] isAgg31 sizeOf31 rfl (qJ (H.cells 5 rfl) 0 3) ?_)))))
         obtain ⟨G243,hn244,h245⟩:=H.QW 7 rfl
         obtain ⟨G246,hn247,h248⟩:=H.QK (α:=jL) 8 rfl 3 rfl qj
         obtain ⟨G249,hn250,h251⟩:=H.rowIsB 9 rfl
         obtain ⟨G252,hn253,h254⟩:=H.QK (α:=yLI) 10 rfl 4 rfl qj
         obtain ⟨G255,hn256,h257⟩:=H.QW 11 rfl
         refine sw (oq (specFree_ok _ s t h245 h248 h251 h254 h257 qg) H fun w259 H=>sps [.tuple #[Bv (freeV s t),.int .i64 (Xm s t)],Bv (freeV s t),.int .i64 (Xm s t),Bv (freeV s t),.int .i64 (Xm s t)] (zjc (sw (xU [.int .i64 s.xh,Sv ra13 s.qA.length rc15,Sv ra16 s.qB.length rc18] isAgg27 sizeOf27 rfl (qJ (H.cells 6 rfl) 0 3) (sw (xU [Sv ra21 t.qG.length rc23,Sv ra24 t.qH.length rc26,Sv ra29 t.qF.length rc31] isAgg31 sizeOf31 rfl (qJ (H.cells 5 rfl) 0 3) ?_))))))
         obtain ⟨G261,hn262,h263⟩:=H.QW 7 rfl
         obtain ⟨G264,hn265,h266⟩:=H.QK (α:=jL) 8 rfl 3 rfl qj
         obtain ⟨G267,hn268,h269⟩:=H.rowIsB 9 rfl
         obtain ⟨G270,hn271,h272⟩:=H.QK (α:=yLI) 10 rfl 4 rfl qj
         obtain ⟨G273,hn274,h275⟩:=H.QW 11 rfl
         refine sw (oq (implFree_ok _ s t h263 h266 h269 h272 h275 qg) H fun w277 H=>sps [.tuple #[Bv (freeV s t),.int .i64 (Xm s t)],Bv (freeV s t),.int .i64 (Xm s t),Bv (freeV s t),.int .i64 (Xm s t)] (zjcc (sps [.int .i64 ((QT s t).2),.int .i64 ((QT s t).2),Bv (((QT s t).2:Int) != ((QT s t).2)),Bv (((QT s t).2:Int) != ((QT s t).2))] ?_)))
         cases h279:(((QT s t).2:Int) != ((QT s t).2))
         ·skip
          replace h279:=xF h279
          refine qR 211 rfl rfl (sp (.int .i64 (Xm s t)) (qR 211 rfl rfl (sp (.int .i64 (Xm s t)) (qR 211 rfl rfl (sps [Bv (((Xm s t):Int) != (Xm s t)),Bv (((Xm s t):Int) != (Xm s t))] (zjn (xK (((Xm s t):Int) != (Xm s t)) rfl (fun h=>absurd rfl (bne_iff_ne.1 h)) (fun h280=>?_))))))))
          replace h280:=xF h280
          refine xk (t_n (zcr (sps [.int .i64 ((QT s t).2),Bv (((QT s t).2:Int) != 0),Bv (((QT s t).2:Int) != 0)] ?_)))
          cases h281:(((QT s t).2:Int) != 0)
          ·skip
           replace h281:=xF h281
           refine qR 218 rfl rfl (sp (.int .i64 (Xm s t)) (qR 218 rfl rfl (sps [Bv (((Xm s t):Int) != 0),Bv (((Xm s t):Int) != 0),Bv (((Xm s t):Int) != 0)] ?_)))
           cases h282:(((Xm s t):Int) != 0)
           ·skip
            replace h282:=xF h282
            refine qR 222 rfl rfl (sp (Bv (dec (Halted s t))) (qR 222 rfl rfl (sp (Sv ra237a (((QT s t).1).length) rc237a) (qR 222 rfl rfl (oN rfl (qR 222 rfl rfl (sp (Bv ((((QT s t).1).length:Int) == 0)) (qR 222 rfl rfl (sw (o_eqB underlying4 (dec (Halted s t)) ((((QT s t).1).length:Int) == 0) rfl rfl (qR 222 rfl rfl (sp (Bv ((dec (Halted s t)) == ((((QT s t).1).length:Int) == 0))) ?_))))))))))))
            cases h283:((dec (Halted s t)) == ((((QT s t).1).length:Int) == 0))
            ·skip
             replace h283:=(ne_of_beq_false h283)
             refine xW [229,230,231,232,233,234,235,236,237,238,239] (qR 222 rfl rfl (sps [Bv false,Bv false,Bv false] (zjr (ret1 (Bv false) rfl rfl ⟨_,rfl,?_,H.base⟩))))
             exfalso;first | exact absurd (Z.nx ql).symm ql | (have z9:=(Z.free ql ql).1;omega) | contradiction
            ·skip
             replace h283:=(eq_of_beq h283)
             refine qR 228 rfl rfl (sp (Bv (freeV s t)) (qR 228 rfl rfl (sp (Bv (!(freeV s t))) (qR 228 rfl rfl (sp (Bv (!(freeV s t))) ?_)))))
             cases h284:(!(freeV s t))
             ·skip
              replace h284:=xG h284
              refine qR 231 rfl rfl (sp (Sv ra237a (((QT s t).1).length) rc237a) (qR 231 rfl rfl (oN rfl (qR 231 rfl rfl (sp (Bv ((((QT s t).1).length:Int) == 1)) (qR 231 rfl rfl (sp (Bv ((((QT s t).1).length:Int) == 1)) ?_)))))))
              cases h285:((((QT s t).1).length:Int) == 1)
              ·skip
               replace h285:=ne_of_beq_false h285
               refine xW [236,237] (qR 231 rfl rfl (sp (Bv false) (qR 228 rfl rfl (sp (Bv false) (qR 222 rfl rfl (sps [Bv false,Bv false,Bv false] (zjr (ret1 (Bv false) rfl rfl ⟨_,rfl,?_,H.base⟩))))))))
               exfalso;first | exact absurd (Z.nx ql).symm ql | (have z9:=(Z.free ql ql).1;omega) | contradiction
              ·skip
               replace h285:=eq_of_beq h285
               refine qR 235 rfl rfl (sp (Bv (dec (Halted s t))) (qR 235 rfl rfl (sp (Bv (!(dec (Halted s t)))) (qR 231 rfl rfl (sp (Bv (!(dec (Halted s t)))) (qR 228 rfl rfl (sp (Bv (!(dec (Halted s t)))) (qR 222 rfl rfl (sps [Bv (!(dec (Halted s t))),Bv (!(dec (Halted s t))),Bv (!(dec (Halted s t)))] (zjr (ret1 (Bv (!(dec (Halted s t)))) rfl rfl ⟨_,rfl,?_,H.base⟩)))))))))))
               rw [xy (Z.free ql ql).2];rfl
             ·skip
              replace h284:=xM h284
              refine xW [232,233,234,235,236,237,238] (qR 228 rfl rfl (sp (Bv true) (qR 222 rfl rfl (sps [Bv true,Bv true,Bv true] (zjr (ret1 (Bv true) rfl rfl ⟨_,rfl,?_,H.base⟩))))))
              rfl
           ·skip
            replace h282:=bne_iff_ne.1 h282
            refine xW [223,224,225,226,227,228,229,230,231,232,233,234,235,236,237,238,239,240] (sps [Bv true,Bv true] (zjr (ret1 (Bv true) rfl rfl ⟨_,rfl,?_,H.base⟩)))
            rfl
          ·skip
           replace h281:=bne_iff_ne.1 h281
           refine xW [219,220] (sps [Bv true,Bv true] (xW [223,224,225,226,227,228,229,230,231,232,233,234,235,236,237,238,239,240] (sps [Bv true,Bv true] (zjr (ret1 (Bv true) rfl rfl ⟨_,rfl,?_,H.base⟩)))))
           rfl
         · exact absurd rfl (bne_iff_ne.1 h279)
     ·skip
      replace h100:=bne_iff_ne.1 h100
      refine xW [82,83,84,85,86] (sp (Bv true) (zjn (xK true rfl (fun _=>zcr (sp (Bv false) (zjr (t_r (ret1 (Bv false) rfl rfl ⟨_,rfl,?_,H.base⟩))))) (fun h=>absurd h qj))))
      exfalso;first | omega | contradiction | exact absurd a1.symm ql | exact absurd n2.symm ql
    ·skip
     replace h99:=bne_iff_ne.1 h99
     refine xW [75,76,77,78,79] (sps [Bv true,Bv true] (xW [82,83,84,85,86] (sp (Bv true) (zjn (xK true rfl (fun _=>zcr (sp (Bv false) (zjr (t_r (ret1 (Bv false) rfl rfl ⟨_,rfl,?_,H.base⟩))))) (fun h=>absurd h qj))))))
     exfalso;first | omega | contradiction | exact absurd a1.symm ql | exact absurd n2.symm ql
   ·skip
    replace h98:=bne_iff_ne.1 h98
    refine xW [68,69,70,71,72] (sps [Bv true,Bv true] (xW [75,76,77,78,79] (sps [Bv true,Bv true] (xW [82,83,84,85,86] (sp (Bv true) (zjn (xK true rfl (fun _=>zcr (sp (Bv false) (zjr (t_r (ret1 (Bv false) rfl rfl ⟨_,rfl,?_,H.base⟩))))) (fun h=>absurd h qj))))))))
    exfalso;first | omega | contradiction | exact absurd a1.symm ql | exact absurd n2.symm ql
 ·skip
  replace h1:=of_decide_eq_true h1
  refine xW [9,10,11] (sps [Bv true,Bv true] (zjr (ret1 (Bv true) rfl rfl ⟨_,rfl,(zjn (xK true rfl (fun _=>zcr (sp (Bv true) (zjr (t_r (ret1 (Bv true) rfl rfl ⟨_,rfl,?_,H.base⟩))))) (fun h=>absurd h qj)))⟩)))
  rfl
end
section
open Go.ChangeShapes Go.WideShapes Go.ChangeAt Go.RowKit Go.Joins
set_option linter.unusedVariables false
set_option linter.unusedSimpArgs false
def Reads (P:Program) (t:TypeId) (α:Type) [qX α]:Prop:=
  ∀ {H:Type} {enc:TypeId×Value→H} {w:World} {spare:Nat→Bool} {held:Bool} {fuel:Nat} {cs:List Value} {x:DataW H×List MemPlace},
    DataW.trod enc P w 0 spare held fuel t cs=some x→∃ F,∃ y:α,qX.rep w F cs y

theorem cell_spot {w:World} {a:Addr} {v:Value} (h:w.cell? a=some v):a.spot=none:=by
  unfold World.cell? at h
  split at h
  · split at h
    · cases h
    · rename_i hs;simpa using hs
  · cases h

theorem reads_slice {α:Type} [qX α] {P:Program} {t e:TypeId} (hu:P.underlying t=some (.slice e)) (hc:P.cellsOf e=qX.size α) (hz:0 < qX.size α) (he:Reads P e α):Reads P t (List α):=by
  intro H enc w spare held fuel cs x h
  rcases DataW.trod_slice hu h with ⟨rfl,_⟩ | ⟨a,len,cap,elems,rest,n,_,rfl,_,_,hlc,hcm,hel,hget,_⟩
  · exact ⟨[],[],none,0,rfl,by simp,Or.inl ⟨rfl,rfl⟩⟩
  · have hm:cap≤9223372036854775807:=by unfold maxLen at hcm;omega
    rcases Nat.eq_zero_or_pos len with h0 | h0
    · subst h0
      exact ⟨[],[],some a,cap,rfl,by simp,Or.inl ⟨rfl,rfl⟩⟩
    · have hone:∀ i,i < len→∃ ci Fi,∃ y:α,w.cells? 0 (a.add (i * qX.size α)) (qX.size α)=some ci∧qX.rep w Fi ci y:=by
        intro i hi
        have hg:=hget i hi
        rw [hc] at hg
        have hs:elems[i]? =some (elems[i]'(by omega)):=List.getElem?_eq_getElem qf
        rw [hs] at hg
        obtain ⟨ci,h1,h2⟩:=Option.bind_eq_some_iff.1 hg
        obtain ⟨Fi,y,hr⟩:=he h2
        exact ⟨ci,Fi,y,h1,hr⟩
      have hsp:a.spot=none:=by
        obtain ⟨ci,Fi,y,h1,_⟩:=hone 0 h0
        obtain ⟨_,hl,hcell⟩:=World.cells?_some h1
        have:=hcell 0 hz
        rw [List.getElem?_eq_getElem (show 0 < ci.length by omega)] at this
        have:=cell_spot this
        simpa [Addr.add] using this
      obtain ⟨b,off,sp⟩:=a
      simp only at hsp
      subst hsp
      have hadd:∀ i j:Nat,((⟨b,off,none⟩:Addr).add (i * qX.size α)).add j=⟨b,off+i * qX.size α+j,none⟩:=fun i j=>by simp [Addr.add_mid]
      have hall:∀ m,m≤len→∃ F vs,∃ l:List α,l.length=m∧reps w F vs l∧jk w b off vs:=by
        intro m
        induction m with
        | zero=>exact fun _=>⟨[],[],[],rfl,⟨rfl,rfl⟩,fun i v hv=>by simp at hv⟩
        | succ m ih=>
          intro hm'
          obtain ⟨F,vs,l,hl,hr,hcl⟩:=ih qf
          obtain ⟨ci,Fi,y,h1,h2⟩:=hone m qf
          obtain ⟨_,hcl2,hcell⟩:=World.cells?_some h1
          refine ⟨F++Fi,vs++ci,l++[y],by simp [hl],Qx hr (reps_one h2),fun i v hv=>?_⟩
          have hvl:=reps_len hr
          rw [hl] at hvl
          rcases Nat.lt_or_ge i vs.length with hi | hi
          · rw [List.getElem?_append_left hi] at hv
            exact hcl i v hv
          · rw [List.getElem?_append_right hi] at hv
            have hi2:i - vs.length < ci.length:=by
              rcases Nat.lt_or_ge (i - vs.length) ci.length with h | h
              · exact h
              · simp [h] at hv
            have:=hcell (i - vs.length) qf
            rw [hadd,hv] at this
            rw [← this]
            congr 1
            rw [show off+i=off+m * qX.size α+(i - vs.length) by omega]
      obtain ⟨F,vs,l,hl,hr,hcl⟩:=hall len (Nat.le_refl _)
      have hb:b < w.heap.size:=by
        have h1:0 < vs.length:=by rw [reps_len hr,hl];exact Nat.mul_pos h0 hz
        exact World.block_lt_of_cell? w _ (hcl 0 _ (List.getElem?_eq_getElem h1))
      subst hl
      exact ⟨b :: F,l,some ⟨b,off,none⟩,cap,rfl,⟨by omega,hlc⟩,Or.inr ⟨b,off,F,vs,rfl,rfl,hb,hr,hcl⟩⟩

theorem arg_slice {P:Program} {α:Type} [qX α] {H:Type} {enc:TypeId×Value→H} {w:World} {spare:Nat→Bool} {held:Bool} {b0:Nat} {t e:TypeId} {v:Value} {d:DataW H} {p:List MemPlace} (hu:P.underlying t=some (.slice e)) (hr:Reads P t (List α))
    (hv:Value.okWide P w .any b0 t v) (h:DataW.Trod enc P w 0 spare held t v d p):∃ (a:yOA) (c:Nat) (F:yLN) (l:List α),v=Sv a l.length c∧qX.rep w F [Sv a l.length c] l:=by
  obtain ⟨a,m,c,rfl⟩:=okWide_slice hu hv
  obtain ⟨fuel,hf⟩:=h
  obtain ⟨F,l,hl⟩:=hr hf
  have hcs:(Value.slice a m c).cells.toList=[Sv a m c]:=rfl
  rw [hcs] at hl
  obtain ⟨a',c',hc,hx⟩:=id hl
  simp only [List.cons.injEq,Value.slice.injEq,and_true] at hc
  obtain ⟨rfl,rfl,rfl⟩:=hc
  exact ⟨a,c,F,l,rfl,hl⟩
section
variable {H : Type} {enc : TypeId × Value → H} {P : Program}

theorem trodAll_below (hl:laidOutB P=true) {W W' :World} (hb:Below W.heap.size W W'):
    ∀ (ts:List TypeId) (vs:List Value) (ds:List (DataW H)) (ps:List MemPlace),(∀ t∈ts,P.readableRec t=true∧t < P.types.size)→
      DataW.TrodAll enc P W 0 (fun _=>true) true ts vs ds ps→(∀ x∈ps,x.block < W.heap.size)→
      DataW.TrodAll enc P W' 0 (fun b=>decide (b < W.heap.size)) true ts vs ds ps
  | [],vs,ds,ps,_,h,_=>by
    obtain ⟨rfl,rfl,rfl⟩:=trodAll_nil h
    exact trodAll_mk0
  | t :: ts,vs,ds,ps,hr,h,hp=>by
    obtain ⟨v,vs',d,ds',p,q,rfl,rfl,rfl,h0,h1⟩:=trodAll_cons h
    have ht:=hr t (List.mem_cons_self ..)
    exact trodAll_cons_mk (Below.trod hl ht.1 ht.2 h0 hb (fun x hx=>hp x (List.mem_append_left _ hx)))
      (trodAll_below hl hb ts vs' ds' q (fun t' ht' =>hr t' (List.mem_cons_of_mem _ ht')) h1 (fun x hx=>hp x (List.mem_append_right _ hx)))

theorem post_law {f:Func} {s:ChangeSpec} {W W' :World} {args:Array Value} {tb:TypeId} {ds gs:List (DataW H)} {before:List MemPlace}
    (hW:DataW.Whole enc P f.params.toList s.vars false W args.toList ds gs before) (hv:s.vars=[])
    (hs:s.fn H (ds++[])={ results:=[.lit (.bool true)],args:=ds }) (hr:f.resultTypes=#[tb]) (hu:P.underlying tb=some .bool)
    (hl:laidOutB P=true) (hts:∀ t∈f.params.toList,P.readableRec t=true∧t < P.types.size) (hb:Below W.heap.size W W'):
    s.post enc P f false true false false W args (Bv true) W' :=by
  have hW' :=hW
  obtain ⟨p,q,hA,hV,rfl,hz,hn⟩:=hW
  rw [hv] at hV
  obtain ⟨rfl,rfl⟩:=trodVars_none hV
  have hlt:∀ x∈p++[],x.block < W.heap.size:=fun x hx=>hW'.lt x hx
  refine ⟨ds,[],p++[],[],p,[],hW',?_,?_,?_,World.keptBut_mono (fun x hx=>⟨hx,Or.inr (Or.inl (by simpa using hx))⟩) (hb.frame (·∈p++[])),fun h=>by cases h⟩
  · rw [hs,hr]
    simp only [Value.resultList]
    exact trodAll_mk1 (shut_bool hu true)
  · rw [hs]
    exact trodAll_below hl hb _ _ _ _ hts hA (fun x hx=>hlt x (by simpa using hx))
  · rw [hv,hs]
    exact rfl
end
theorem reads_byte {P:Program} {t:TypeId} (hu:P.underlying t=some (.int .u8)):Reads P t UInt8:=fun h=>by
  obtain ⟨n,rfl,_,hw⟩:=DataW.trod_int hu h
  have hb:0≤n∧n≤255:=by
    simp [Lit.wf,IntKind.min,IntKind.max,IntKind.signed,IntKind.bits] at hw
    omega
  refine ⟨[],UInt8.ofNat n.toNat,rfl,?_⟩
  have e:(UInt8.ofNat n.toNat).toNat=n.toNat:=by
    simp
    omega
  rw [e,Int.toNat_of_nonneg hb.1]
end
end Go.Proofs.YtcpnclokildllaaGreat
