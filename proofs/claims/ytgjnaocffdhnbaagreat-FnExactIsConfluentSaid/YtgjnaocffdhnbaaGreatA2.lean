/- Walks and laws, printed by program and by hand: what each function comes to, for all arguments, part 2. -/
import Derived.Test.YtgjnaocffdhnbaaGreatA1
import Derived.Test.YtgjnaocffdhnbaaGreatRows
namespace Go.Proofs.YtgjnaocffdhnbaaGreat
set_option linter.unusedVariables false
set_option linter.unusedSimpArgs false
open Go.Proofs.YtgjnaocffdhnbaaGreat.Tot (tot)
open Go.Proofs.YtgjnaocffdhnbaaGreat.Mark (cnt mrk mkd mkd_mark cnt_mark)
section
open Go.Proofs.Tryz
open Go.RowKit
set_option linter.unusedVariables false
set_option linter.unusedSimpArgs false
set_option maxRecDepth 100000
set_option maxHeartbeats 4000000
variable {cl cm cx cxBag X7 Vb X8 Va cxOut X9 Qh XD Xm cxBags QC cy : Nat}
theorem VJ (w:World) (n:Int) (lo:Int) (hi:Int):Calls Tryz.prog 78 #[yI n,yI lo,yI hi] w (Ret (fun v w' =>v=.bool (inR n lo hi)) w):=by
 refine en func78 ntmps78 ?_
 have H:=St.start w
 refine zcr (sp (.bool false) (zjc (sps [yI n,yI lo,.bool (decide ((n:Int)≥lo)),.bool (decide ((n:Int)≥lo))] ?_)))
 cases h1:(decide ((n:Int)≥lo))
 ·skip
  replace h1:=of_decide_eq_false h1
  refine xZ [11,12,13] (sps [.bool false,.bool false] (zjr (ret1 (.bool false) rfl rfl ⟨_,rfl,?_,H.base⟩)))
  rw [inR_no ‹_›]
 replace h1:=of_decide_eq_true h1
 refine qQ 10 rfl rfl (sp (yI n) (qQ 10 rfl rfl (sp (yI hi) (qQ 10 rfl rfl (sps [.bool (decide ((n:Int)≤hi)),.bool (decide ((n:Int)≤hi)),.bool (decide ((n:Int)≤hi))] (zjr (ret1 (.bool (decide ((n:Int)≤hi))) rfl rfl ⟨_,rfl,?_,H.base⟩)))))))
 rw [inR_yes ‹_›]

theorem l00In_ok (w:World) (n:Int) (lo:Int) (hi:Int):Calls Tryz.prog 75 #[yI n,yI lo,yI hi] w (Ret (fun v w' =>v=.bool (inR n lo hi)) w):=by
 refine en func75 ntmps75 ?_
 have H:=St.start w
 refine zcr (sp (.bool false) (zjc (sps [yI n,yI lo,.bool (decide ((n:Int)≥lo)),.bool (decide ((n:Int)≥lo))] ?_)))
 cases h1:(decide ((n:Int)≥lo))
 ·skip
  replace h1:=of_decide_eq_false h1
  refine xZ [11,12,13] (sps [.bool false,.bool false] (zjr (ret1 (.bool false) rfl rfl ⟨_,rfl,?_,H.base⟩)))
  rw [inR_no ‹_›]
 replace h1:=of_decide_eq_true h1
 refine qQ 10 rfl rfl (sp (yI n) (qQ 10 rfl rfl (sp (yI hi) (qQ 10 rfl rfl (sps [.bool (decide ((n:Int)≤hi)),.bool (decide ((n:Int)≤hi)),.bool (decide ((n:Int)≤hi))] (zjr (ret1 (.bool (decide ((n:Int)≤hi))) rfl rfl ⟨_,rfl,?_,H.base⟩)))))))
 rw [inR_yes ‹_›]

theorem isWithin_ok (w:World) (l:yLI) (m:yLI) {al:yOA} {Fl:yLN} {am:yOA} {Fm:yLN} (hl:qP.rep w Fl [.slice al l.length cl] l) (hm:qP.rep w Fm [.slice am m.length cm] m) (p0:l.length≤m.length) (p1:l.length≤1000000):Calls Tryz.prog 185 #[.slice al l.length cl,.slice am m.length cm] w (Ret (fun v w' =>v=.bool (within l m)) w):=by
 refine en func185 ntmps185 ?_
 have H:=((St.start w).arg hm).arg hl
 have nhl:=qN hl
 have nhm:=qN hm
 clear hl hm
 refine zcr (sp (.bool false) (zjcc (sp (.slice al l.length cl) (oN rfl (sp (yI 0) (zjn (qY ?_)))))))
 refine zB (fun m' ρ w1=>∃ (xN:Env) (k:Nat),ρ=upd (upd (upd (upd xN 1 (.slice am m.length cm)) 7 (.slice al l.length cl)) 8 (yI l.length)) 9 (yI k)∧(k≤l.length)∧(withinTo l m k)∧m' =l.length - k∧St w w1 [] [sF false Fl al cl l,sF false Fm am cm m]) (l.length - 0) ⟨_,0,uE4,qf,(by exact withinTo_zero l m),rfl,H⟩ ?_
 clear H
 rintro m' ρ w2 ⟨xN,k,rfl,i0,i1,rfl,H⟩
 refine zcr (sp (.bool (decide ((k:Int) < l.length))) (zjn (xU (cD rfl (fun h3=>?_) (fun h3=>?_)))))
 ·skip
  refine qV (t_n (xU (qY (zcr (sp (yI k) ?_)))))
  obtain ⟨b4,o5,rfl⟩:=H.addr 0 rfl qf
  refine oI rfl rfl (oL rfl (H.jy 0 rfl k qf qf) (sps [yI k,yI (l[k]!)] (zjc (sps [yI (l[k]!),.slice am m.length cm,yI k] ?_))))
  obtain ⟨b6,o7,rfl⟩:=H.addr 1 rfl qf
  refine oI rfl rfl (oL rfl (H.jy 1 rfl k qf qf) (sp (.bool (decide ((l[k]! :Int) > (m[k]!)))) (zjn (cD rfl (fun h8=>?_) (fun h8=>?_)))))
  ·skip
   refine zcr (sp (.bool false) (zjr (zr5 (ret1 (.bool false) rfl rfl ⟨_,rfl,?_,H.base⟩))))
   rw [within_no (k:=k) ‹_› qf]
  refine qV (b_n (t_n (xX (sw (zD k 1 rfl rfl qf (sp (yI (k+1)) (xY (xg (m' :=l.length - (k+1)) qf ⟨_,k+1,uE4,?_,?_,rfl,H⟩))))))))
  · omega
  · exact withinTo_succ ‹_› qf
 refine zx4 (zcr (sp (.bool true) (zjr (ret1 (.bool true) rfl rfl ⟨_,rfl,?_,H.base⟩))))
 rw [within_yes ‹_› qf]

theorem XT (w:World) (l:yLI) {al:yOA} {Fl:yLN} (hl:qP.rep w Fl [.slice al l.length cl] l) (p0:Small l):Calls Tryz.prog 106 #[.slice al l.length cl] w (Ret (fun v w' =>v=yI (X0 l)) w):=by
 refine en func106 ntmps106 ?_
 have H:=(St.start w).arg hl
 have nhl:=qN hl
 clear hl
 have p1:=p0.1
 refine zcr (sp (yI 0) (zjc (sp (yI 0) (zjcc (sp (.slice al l.length cl) (oN rfl (sp (yI 0) (zjn (qY ?_)))))))))
 refine zB (fun m' ρ w1=>∃ (xN:Env) (k:Nat),ρ=upd (upd (upd (upd (upd xN 2 (yI 0)) 3 (yI (sumTo l k))) 6 (.slice al l.length cl)) 7 (yI l.length)) 8 (yI k)∧(k≤l.length)∧m' =l.length - k∧St w w1 [] [sF false Fl al cl l]) (l.length - 0) ⟨_,0,uE5,qf,rfl,H⟩ ?_
 clear H
 rintro m' ρ w2 ⟨xN,k,rfl,i0,rfl,H⟩
 have hs:=sumTo_small p0 i0
 have hv:=p0.2 k
 refine zcr (sp (.bool (decide ((k:Int) < l.length))) (zjn (xU (cD rfl (fun h3=>?_) (fun h3=>?_)))))
 ·skip
  refine qV (t_n (xU (qY (zcr ?_))))
  obtain ⟨b4,o5,rfl⟩:=H.addr 0 rfl qf
  refine oI rfl rfl (oL rfl (H.jy 0 rfl k qf qf) (sp (yI (l[k]!)) (zjn (xX (sps [yI (sumTo l k),yI (l[k]!)] (sw (zD (sumTo l k) (l[k]!) rfl rfl (by (have:=hv qf;omega)) (sp (yI ((sumTo l k)+(l[k]!))) (xY (b_n (t_n (xX (sw (zD k 1 rfl rfl (by (have:=hv qf;omega)) (sp (yI (k+1)) (xY (xg (m' :=l.length - (k+1)) qf ⟨_,k+1,uE5,?_,rfl,H⟩)))))))))))))))))
  · omega
 refine zx4 (zcr (sps [yI (sumTo l k),yI (sumTo l k)] (zjr (ret1 (yI (sumTo l k)) rfl rfl ⟨_,rfl,?_,H.base⟩))))
 obtain rfl:k=l.length:=by omega
 rfl

theorem VI (w:World) (l:yLI) {al:yOA} {Fl:yLN} (hl:qP.rep w Fl [.slice al l.length cl] l) (p0:Small l):Calls Tryz.prog 123 #[.slice al l.length cl] w (Ret (fun v w' =>v=yI (X0 l)) w):=by
 refine en func123 ntmps123 ?_
 have H:=(St.start w).arg hl
 have nhl:=qN hl
 clear hl
 have p1:=p0.1
 refine zcr (sp (yI 0) (zjc (sp (yI 0) (zjcc (sp (yI 0) (zjn (qY ?_)))))))
 refine zB (fun m' ρ w1=>∃ (xN:Env) (k:Nat),ρ=upd (upd (upd (upd xN 0 (.slice al l.length cl)) 2 (yI 0)) 3 (yI (sumTo l k))) 4 (yI k)∧(k≤l.length)∧m' =l.length - k∧St w w1 [] [sF false Fl al cl l]) (l.length - 0) ⟨_,0,uE4,qf,rfl,H⟩ ?_
 clear H
 rintro m' ρ w2 ⟨xN,k,rfl,i0,rfl,H⟩
 have hs:=sumTo_small p0 i0
 have hv:=p0.2 k
 refine zcc (sps [yI k,.slice al l.length cl] (oN rfl (sp (.bool (decide ((k:Int) < l.length))) (zjn (cD rfl (fun h3=>?_) (fun h3=>?_))))))
 ·skip
  refine qV (t_n (xU (qY (xX (sps [yI (sumTo l k),.slice al l.length cl,yI k] ?_)))))
  obtain ⟨b4,o5,rfl⟩:=H.addr 0 rfl qf
  refine oI rfl rfl (oL rfl (H.jy 0 rfl k qf qf) (sw (zD (sumTo l k) (l[k]!) rfl rfl (by (have:=hv qf;omega)) (sp (yI ((sumTo l k)+(l[k]!))) (xY (b_n (t_n (xX (sp (yI k) (sw (zD k 1 rfl rfl (by (have:=hv qf;omega)) (sp (yI (k+1)) (xY (xg (m' :=l.length - (k+1)) qf ⟨_,k+1,uE4,?_,rfl,H⟩))))))))))))))
  · omega
 refine zx4 (zcr (sps [yI (sumTo l k),yI (sumTo l k)] (zjr (ret1 (yI (sumTo l k)) rfl rfl ⟨_,rfl,?_,H.base⟩))))
 obtain rfl:k=l.length:=by omega
 rfl

theorem indexFuncI_ok (w:World) (l:yLI) (f:FuncId) (capsf:Array Value) (gf:Nat→Bool) {al:yOA} {Fl:yLN} (hl:qP.rep w Fl [.slice al l.length cl] l) (hff:∀ args w,(callFunc f args).run Tryz.prog w=.ok (.enter f args) w) (hoff:∀ k w',k < l.length→Ext w w' →Calls Tryz.prog f (([yI (l[k]!)]:List Value)++capsf.toList).toArray w' (Ret (fun v _=>v=.bool (gf k)) w')):Calls Tryz.prog 175 #[.slice al l.length cl,.func (.func f) #[] capsf] w (Ret (fun v w' =>v=yI (firstIdx gf l.length)) w):=by
 refine en func175 ntmps175 ?_
 have H:=(St.start w).arg hl
 have nhl:=qN hl
 clear hl
 refine zcr (sp (yI 0) (zjcc (sp (.slice al l.length cl) (oN rfl (sp (yI 0) (zjn (qY ?_)))))))
 refine zB (fun m' ρ w1=>∃ (xN:Env) (k:Nat),ρ=upd (upd (upd (upd xN 0 (.slice al l.length cl)) 1 (.func (.func f) #[] capsf)) 7 (yI l.length)) 8 (yI k)∧(k≤l.length)∧(noneTo gf k)∧m' =l.length - k∧St w w1 [] [sF false Fl al cl l]) (l.length - 0) ⟨_,0,uE4,qf,(by exact fun j hj=>by omega),rfl,H⟩ ?_
 clear H
 rintro m' ρ w2 ⟨xN,k,rfl,i0,i1,rfl,H⟩
 refine zcr (sp (.bool (decide ((k:Int) < l.length))) (zjn (xU (cD rfl (fun h3=>?_) (fun h3=>?_)))))
 ·skip
  refine qV (t_n (xU (qY (zcr (sps [yI k,yI k] (zjc (sps [.func (.func f) #[] capsf,.slice al l.length cl,yI k] ?_)))))))
  obtain ⟨b4,o5,rfl⟩:=H.addr 0 rfl qf
  refine oI rfl rfl (oL rfl (H.jy 0 rfl k qf qf) (sw (o_callV [yI (l[k]!)] rfl rfl hff (hoff k _ qf H.base) ?_)))
  rintro _ w6 rfl x7
  replace H:=H.ext x7
  refine zjn (xF (gf k) rfl (fun h8=>?_) (fun h8=>?_))
  ·skip
   refine zcr (sps [yI k,yI k] (zjr (zr5 (ret1 (yI k) rfl rfl ⟨_,rfl,?_,H.base⟩))))
   rw [firstIdx_some (k:=k) qf i1 ‹_›]
  refine qV (b_n (t_n (xX (sw (zD k 1 rfl rfl qf (sp (yI (k+1)) (xY (xg (m' :=l.length - (k+1)) qf ⟨_,k+1,uE4,?_,?_,rfl,H⟩))))))))
  · omega
  · exact noneTo_succ ‹_› ‹_›
 refine zx4 (zcr (sp (yI (-1)) (zjr (ret1 (yI (-1)) rfl rfl ⟨_,rfl,?_,H.base⟩))))
 rw [firstIdx_none (fun j hj=>i1 j qf)]

theorem containsFuncI_ok (w:World) (l:yLI) (f:FuncId) (capsf:Array Value) (gf:Nat→Bool) {al:yOA} {Fl:yLN} (hl:qP.rep w Fl [.slice al l.length cl] l) (hff:∀ args w,(callFunc f args).run Tryz.prog w=.ok (.enter f args) w) (hoff:∀ k w',k < l.length→Ext w w' →Calls Tryz.prog f (([yI (l[k]!)]:List Value)++capsf.toList).toArray w' (Ret (fun v _=>v=.bool (gf k)) w')):Calls Tryz.prog 140 #[.slice al l.length cl,.func (.func f) #[] capsf] w (Ret (fun v w' =>v=.bool (anyTo gf l.length)) w):=by
 refine en func140 ntmps140 ?_
 have H:=(St.start w).arg hl
 have nhl:=qN hl
 clear hl
 refine zcr (sp (.bool false) (zjc (sps [.slice al l.length cl,.func (.func f) #[] capsf] (sw (oq (indexFuncI_ok _ l f capsf gf (H.get 0 rfl).1 hff hoff) H fun w1 H=>sps [.bool (decide ((firstIdx gf l.length:Int)≥0)),.bool (decide ((firstIdx gf l.length:Int)≥0))] (zjr (ret1 (.bool (decide ((firstIdx gf l.length:Int)≥0))) rfl rfl ⟨_,rfl,?_,H.base⟩)))))))
 rw [anyTo_first]

theorem validBag1_ok (w:World) (n:Int):Calls Tryz.prog 141 #[yI n] w (Ret (fun v w' =>v=.bool (!isCnt n)) w):=by
 refine en func141 ntmps141 ?_
 have H:=St.start w
 refine zcr (sp (.bool false) (zjc (sp (yI n) (sw (oq (VJ w n 0 1000) H fun w1 H=>sps [.bool (!(inR n 0 1000)),.bool (!(inR n 0 1000))] (zjr (ret1 (.bool (!(inR n 0 1000))) rfl rfl ⟨_,rfl,?_,H.base⟩)))))))
 rfl

theorem sizeI_ok (w:World) (l:yLI) {al:yOA} {Fl:yLN} (hl:qP.rep w Fl [.slice al l.length cl] l):Calls Tryz.prog 92 #[.slice al l.length cl] w (Ret (fun v w' =>v=yI (l.length:Int)) w):=by
 refine en func92 ntmps92 ?_
 have H:=(St.start w).arg hl
 have nhl:=qN hl
 clear hl
 refine zcr (sp (yI 0) (zjc (sp (.slice al l.length cl) (oN rfl (sp (yI l.length) (zjr (ret1 (yI l.length) rfl rfl ⟨_,rfl,?_,H.base⟩)))))))
 rfl

theorem Vy (w:World) (kinds:Int) (l:yLI) {al:yOA} {Fl:yLN} (hl:qP.rep w Fl [.slice al l.length cl] l):Calls Tryz.prog 105 #[yI kinds,.slice al l.length cl] w (Ret (fun v w' =>v=.bool (dec (zY kinds l))) w):=by
 refine en func105 ntmps105 ?_
 have H:=(St.start w).arg hl
 have nhl:=qN hl
 clear hl
 refine zcr (sp (.bool false) (zjc (sp (yI kinds) (sw (oq (VJ w kinds 1 8) H fun w1 H=>sp (.bool (inR kinds 1 8)) ?_)))))
 cases h3:(inR kinds 1 8)
 ·skip
  replace h3:=XB h3
  refine xZ [8,9,10,11] (sps [.bool false,.bool false] (xZ [14,15,16] (sps [.bool false,.bool false] (zjr (ret1 (.bool false) rfl rfl ⟨_,rfl,?_,H.base⟩)))))
  rw [xn (fun h=>by have:=h.1.2;have:=h.2;omega)]
 replace h3:=QY.1 h3
 refine qQ 7 rfl rfl (sp (.slice al l.length cl) (qQ 7 rfl rfl (sw (oq (sizeI_ok _ l (H.get 0 rfl).1) H fun w4 H=>qQ 7 rfl rfl (sp (yI kinds) (qQ 7 rfl rfl (sps [.bool (((l.length:Int):Int) == kinds),.bool (((l.length:Int):Int) == kinds),.bool (((l.length:Int):Int) == kinds)] ?_)))))))
 cases h6:(((l.length:Int):Int) == kinds)
 ·skip
  replace h6:=ne_of_beq_false h6
  refine xZ [14,15,16] (sps [.bool false,.bool false] (zjr (ret1 (.bool false) rfl rfl ⟨_,rfl,?_,H.base⟩)))
  rw [xn (fun h=>by have:=h.1.2;have:=h.2;omega)]
 replace h6:=eq_of_beq h6
 refine qQ 13 rfl rfl (sp (.slice al l.length cl) (qQ 13 rfl rfl (sw (oq (containsFuncI_ok _ l 141 #[] (fun k=> !isCnt (l[k]!)) (H.get 0 rfl).1 call141 (fun k w' hk e=>validBag1_ok w' _)) H fun w7 H=>qQ 13 rfl rfl (sps [.bool (!(anyTo (fun k=> !isCnt (l[k]!)) l.length)),.bool (!(anyTo (fun k=> !isCnt (l[k]!)) l.length)),.bool (!(anyTo (fun k=> !isCnt (l[k]!)) l.length))] (zjr (ret1 (.bool (!(anyTo (fun k=> !isCnt (l[k]!)) l.length))) rfl rfl ⟨_,rfl,(congrArg Value.bool (dec_eq ?_)),H.base⟩)))))))
 rw [anyCnt_iff]
 exact ⟨fun h=>⟨⟨h,by omega,by omega⟩,by omega⟩,fun h=>h.1.1⟩
theorem both_ok (w:World) (l:yLI) (m:yLI) (of:FuncId) (capsof:Array Value) (gof:Nat→Int) {al:yOA} {Fl:yLN} {am:yOA} {Fm:yLN} (hl:qP.rep w Fl [.slice al l.length cl] l) (hm:qP.rep w Fm [.slice am m.length cm] m) (p0:l.length≤m.length) (p1:l.length≤1000000) (hfof:∀ args w,(callFunc of args).run Tryz.prog w=.ok (.enter of args) w) (hofof:∀ k w',k < l.length→Ext w w' →Calls Tryz.prog of (([yI (l[k]!),yI (m[k]!)]:List Value)++capsof.toList).toArray w' (Ret (fun v _=>v=yI (gof k)) w')):Calls Tryz.prog 189 #[.slice al l.length cl,.slice am m.length cm,.func (.func of) #[] capsof] w (Ret (fun v w' =>OwnNew w w' 2 v (tabTo gof l.length)) w):=by
 refine en func189 ntmps189 ?_
 have H:=((St.start w).arg hm).arg hl
 have nhl:=qN hl
 have nhm:=qN hm
 clear hl hm
 refine zcr (sp yN (zjc (sw (vU H underlying22 ti2 fun b1 w2 H=>sp (.slice (aa b1 0) 0 0) (zjcc (sp (.slice al l.length cl) (oN rfl (sp (yI 0) (zjn (qY ?_))))))))))
 replace H:=H.boxRow 0 rfl 1 0 rfl qj
 replace H:St _ _ [rr (aa b1 0) 0 0 2 1 []] _:=H
 refine zB (fun m' ρ w3=>∃ (xN:Env) (k:Nat) (vr7:Value),ρ=upd (upd (upd (upd (upd (upd (upd xN 1 (.slice am m.length cm)) 2 (.func (.func of) #[] capsof)) 6 yN) 7 (vr7)) 11 (.slice al l.length cl)) 12 (yI l.length)) 13 (yI k)∧(k≤l.length)∧m' =l.length - k∧St w w3 [.row vr7 2 1 k ((tabTo gof k).map (Value.int .i64))] [sF false Fl al cl l,sF false Fm am cm m]) (l.length - 0) ⟨_,0,(.slice (aa b1 0) 0 0),uE7,qf,rfl,H⟩ ?_
 clear H
 rintro m' ρ w4 ⟨xN,k,vr7,rfl,i0,rfl,H⟩
 refine zcr (sp (.bool (decide ((k:Int) < l.length))) (zjn (xU (cD rfl (fun h5=>?_) (fun h5=>?_)))))
 ·skip
  refine qV (t_n (xU (qY (zcr (sp (yI k) ?_)))))
  obtain ⟨b6,o7,rfl⟩:=H.addr 0 rfl qf
  refine oI rfl rfl (oL rfl (H.jy 0 rfl k qf qf) (sps [yI k,yI (l[k]!)] (zjn (xX (sps [vr7,.func (.func of) #[] capsof,yI (l[k]!),.slice am m.length cm,yI k] ?_)))))
  obtain ⟨b8,o9,rfl⟩:=H.addr 1 rfl qf
  refine oI rfl rfl (oL rfl (H.jy 1 rfl k qf qf) (sw (o_callV [yI (l[k]!),yI (m[k]!)] rfl rfl hfof (hofof k _ qf H.base) ?_)))
  rintro _ w10 rfl x11
  replace H:=H.ext x11
  refine sw (o_build1 H underlying22 ti2 qj qj (yI (gof k)) rfl rfl fun b12 w13 H=>sw (o_append H 1 rfl 0 rfl underlying22 ti2 rfl qj rfl rfl rfl (by simp [Value.oneCell',Value.cells]) qp qf fun v14 w15 H=>?_))
  replace H:St _ _ [.box b12 [yI (gof k)] 2,.row v14 2 1 (k+1) (((tabTo gof k).map (Value.int .i64))++[yI (gof k)])] _:=H
  refine sp (v14) (xY (b_n (t_n (xX (sw (zD k 1 rfl rfl qf (sp (yI (k+1)) (xY ?_))))))))
  rw [show ((tabTo gof k).map (Value.int .i64))++[yI (gof k)]=(tabTo gof (k+1)).map (Value.int .i64) from by (rw [tabTo_succ];simp)] at H
  refine xg (m' :=l.length - (k+1)) qf ⟨_,k+1,v14,uE7,?_,rfl,H.sel _ (.cons _ (.refl _)) _ qm⟩
  · omega
 refine zx4 (zcr (sps [vr7,vr7] (zjr (ret1 (vr7) rfl rfl ⟨_,rfl,?_,H.base⟩))))
 obtain rfl:k=l.length:=by omega
 exact H.newInts 0 rfl qm

theorem plus1_ok (w:World) (x:Int) (y:Int) (t:Int) (bt ot:Nat) (hpt:vw w bt ot [yI t]) (p0: -1000000000000000≤x∧x≤1000000000000000) (p1: -1000000000000000≤t * y∧t * y≤1000000000000000):Calls Tryz.prog 190 #[yI x,yI y,pp bt ot] w (Ret (fun v w' =>v=yI (x+t * y)) w):=by
 refine en func190 ntmps190 ?_
 have H:=(St.start w).XU hpt
 clear hpt
 refine zcr (sp (yI 0) (zjc (sp (yI x) (oL rfl (H.xR 0 rfl 0 rfl) (sp (yI y) (sw (o_mul t y rfl rfl qf (sw (zD x (t * y) rfl rfl qf (sp (yI (x+(t * y))) (zjr (ret1 (yI (x+(t * y))) rfl rfl ⟨_,rfl,?_,H.base⟩))))))))))))
 rfl

theorem plus_ok (w:World) (l:yLI) (m:yLI) (t:Int) {al:yOA} {Fl:yLN} {am:yOA} {Fm:yLN} (hl:qP.rep w Fl [.slice al l.length cl] l) (hm:qP.rep w Fm [.slice am m.length cm] m) (p0:l.length≤m.length) (p1:Mid l) (p2:SmallT m t):Calls Tryz.prog 152 #[.slice al l.length cl,.slice am m.length cm,yI t] w (Ret (fun v w' =>OwnNew w w' 2 v (vY l m t)) w):=by
 refine en func152 ntmps152 ?_
 have H:=((St.start w).arg hm).arg hl
 have nhl:=qN hl
 have nhm:=qN hm
 clear hl hm
 have p3:=p1.1
 refine zcr (sw (o_box H (yI t) rfl fun b1 w2 H=>?_))
 replace H:St _ _ [.box b1 [yI t] 2] _:=H
 refine sp yN (zjc (sps [.slice al l.length cl,.slice am m.length cm,.func (.func 190) #[] #[pp b1 0]] ?_))
 have szx4:=H.base.size
 refine sw (oc (both_ok _ l m 190 #[pp b1 0] (fun k=>l[k]! +t * m[k]!) (H.get 0 rfl).1 (H.get 1 rfl).1 qf qf call190 (fun k w' hk e=>plus1_ok w' _ _ t _ _ ((H.ext e).cells 0 rfl) (by have:=p1.2 k hk;omega) (p2 k qf))) ?_)
 rintro v5 w3 r5 x4
 replace H:=H.zC x4 r5
 refine sp (v5) (zjr (ret1 (v5) rfl rfl ⟨_,rfl,(H.newInts 0 rfl (by simp [plusL_len])),H.base⟩))

theorem Xi (w:World) (l:yLI) (m:yLI) (t:Int) {al:yOA} {Fl:yLN} {am:yOA} {Fm:yLN} (hl:qP.rep w Fl [.slice al l.length cl] l) (hm:qP.rep w Fm [.slice am m.length cm] m) (p0:l.length≤m.length) (p1:Mid l) (p2:SmallT m t):Calls Tryz.prog 181 #[.slice al l.length cl,.slice am m.length cm,yI t] w (Ret (fun v w' =>OwnNew w w' 2 v (vY l m t)) w):=by
 refine en func181 ntmps181 ?_
 have H:=((St.start w).arg hm).arg hl
 have nhl:=qN hl
 have nhm:=qN hm
 clear hl hm
 have p3:=p1.1
 refine zcr (sp yN (zjc (sw (vU H underlying22 ti2 fun b1 w2 H=>sp (.slice (aa b1 0) 0 0) (zjcc (sp (yI 0) (zjn (qY ?_))))))))
 replace H:=H.boxRow 0 rfl 1 0 rfl qj
 replace H:St _ _ [rr (aa b1 0) 0 0 2 1 []] _:=H
 refine zB (fun m' ρ w3=>∃ (xN:Env) (k:Nat) (vr7:Value),ρ=upd (upd (upd (upd (upd (upd xN 0 (.slice al l.length cl)) 1 (.slice am m.length cm)) 2 (yI t)) 6 yN) 7 (vr7)) 8 (yI k)∧(k≤l.length)∧m' =l.length - k∧St w w3 [.row vr7 2 1 k ((plusTo l m t k).map (Value.int .i64))] [sF false Fl al cl l,sF false Fm am cm m]) (l.length - 0) ⟨_,0,(.slice (aa b1 0) 0 0),uE6,qf,rfl,H⟩ ?_
 clear H
 rintro m' ρ w4 ⟨xN,k,vr7,rfl,i0,rfl,H⟩
 refine zcc (sps [yI k,.slice al l.length cl] (oN rfl (sp (.bool (decide ((k:Int) < l.length))) (zjn (cD rfl (fun h5=>?_) (fun h5=>?_))))))
 ·skip
  refine qV (t_n (xU (qY ?_)))
  refine c_draw (fun w6=>St w w6 [] [sF false Fl al cl l,sF false Fm am cm m]) rfl ((H.ext (ext_drew _)).sel _ (.cons _ (.refl _)) _ (fun _ h=>h)) ?_
  replace H:=H.ext (ext_drew _)
  refine rtp 0 (vr7) (H.sel _ (.cons _ (.refl _)) _ (fun _ h=>h)) ?_
  refine rtp 1 (.slice al l.length cl) (H.sel _ (.cons _ (.refl _)) _ (fun _ h=>h)) ?_
  refine rtp 2 (yI k) (H.sel _ (.cons _ (.refl _)) _ (fun _ h=>h)) ?_
  obtain ⟨b7,o8,rfl⟩:=H.addr 0 rfl qf
  refine tI 3 rfl rfl rfl (H.sel _ (.cons _ (.refl _)) _ (fun _ h=>h)) ?_
  refine tL 4 rfl rfl (fun _ h=>h.yf 0 rfl k qf) (H.sel _ (.cons _ (.refl _)) _ (fun _ h=>h)) ?_
  refine rtp 5 (.slice am m.length cm) (H.sel _ (.cons _ (.refl _)) _ (fun _ h=>h)) ?_
  refine rtp 6 (yI k) (H.sel _ (.cons _ (.refl _)) _ (fun _ h=>h)) ?_
  obtain ⟨b9,o10,rfl⟩:=H.addr 1 rfl qf
  refine tI 7 rfl rfl rfl (H.sel _ (.cons _ (.refl _)) _ (fun _ h=>h)) ?_
  refine tL 8 rfl rfl (fun _ h=>h.yf 1 rfl k qf) (H.sel _ (.cons _ (.refl _)) _ (fun _ h=>h)) ?_
  refine rtp 9 (yI t) (H.sel _ (.cons _ (.refl _)) _ (fun _ h=>h)) ?_
  refine rt 10 (yI ((m[k]!) * t)) (y_mul (m[k]!) t rfl rfl (by (have:=p1.2 k qf;have:=p2 k qf;rw [Int.mul_comm] at this;omega))) (H.sel _ (.cons _ (.refl _)) _ (fun _ h=>h)) ?_
  refine rt 11 (yI ((l[k]!)+((m[k]!) * t))) (y_add (l[k]!) ((m[k]!) * t) rfl rfl (by (have:=p1.2 k qf;have:=p2 k qf;rw [Int.mul_comm] at this;omega))) (H.sel _ (.cons _ (.refl _)) _ (fun _ h=>h)) ?_
  refine ro 12 rfl (o_build1 H underlying22 ti2 qj qj (yI ((l[k]!)+((m[k]!) * t))) rfl rfl fun b11 w12 H=>?_)
  replace H:St _ _ [.box b11 [yI ((l[k]!)+((m[k]!) * t))] 2,.row vr7 2 1 k ((plusTo l m t k).map (Value.int .i64))] _:=H
  refine ⟨H.sel _ (.cons _ (.cons _ (.refl _))) _ (fun _ h=>h),(ro 13 rfl (o_append H 1 rfl 0 rfl underlying22 ti2 rfl qj rfl rfl rfl (by simp [Value.oneCell',Value.cells]) qp qf fun v13 w14 H=>?_))⟩
  replace H:St _ _ [.box b11 [yI ((l[k]!)+((m[k]!) * t))] 2,.row v13 2 1 (k+1) (((plusTo l m t k).map (Value.int .i64))++[yI ((l[k]!)+((m[k]!) * t))])] _:=H
  refine ⟨H.sel _ (.cons _ (.cons _ (.refl _))) _ (fun _ h=>h),(rtp 14 (v13) (H.sel _ (.cons _ (.cons _ (.refl _))) _ (fun _ h=>h)) ?_)⟩
  refine xH qh (b_n (t_n (xX (sp (yI k) (sw (zD k 1 rfl rfl (by (have:=p1.2 k qf;have:=p2 k qf;rw [Int.mul_comm] at this;omega)) (sp (yI (k+1)) (xY ?_))))))))
  rw [show ((plusTo l m t k).map (Value.int .i64))++[yI ((l[k]!)+((m[k]!) * t))]=(plusTo l m t (k+1)).map (Value.int .i64) from by (rw [plusTo_succ,Int.mul_comm t];simp)] at H
  refine xg (m' :=l.length - (k+1)) qf ⟨_,k+1,v13,uE6,?_,rfl,H.sel _ (.cons _ (.refl _)) _ qm⟩
  · omega
 refine zx4 (zcr (sps [vr7,vr7] (zjr (ret1 (vr7) rfl rfl ⟨_,rfl,?_,H.base⟩))))
 obtain rfl:k=l.length:=by omega
 exact H.newInts 0 rfl (by simp [vY,plusTo])

theorem Xg (w:World) (l:yLI) {al:yOA} {Fl:yLN} (hl:qP.rep w Fl [.slice al l.length cl] l) (p0:l.length≤1000000):Calls Tryz.prog 101 #[.slice al l.length cl] w (Ret (fun v w' =>OwnNew w w' 2 v l) w):=by
 refine en func101 ntmps101 ?_
 have H:=(St.start w).arg hl
 have nhl:=qN hl
 clear hl
 refine zcr (sp yN (zjc (sw (vU H underlying22 ti2 fun b1 w2 H=>sp (.slice al l.length cl) ?_))))
 replace H:=H.boxRow 0 rfl 1 0 rfl qj
 refine sw (o_appendInts H 0 rfl 0 rfl underlying22 ti2 rfl rfl rfl qp qf fun v3 w4 H=>?_)
 replace H:St _ _ [.row v3 2 1 (0+l.length) ([]++l.map (Value.int .i64))] _:=H
 refine sp (v3) (zjr (ret1 (v3) rfl rfl ⟨_,rfl,(H.newInts 0 rfl qf),H.base⟩))

theorem cloneI_ok (w:World) (l:yLI) {al:yOA} {Fl:yLN} (hl:qP.rep w Fl [.slice al l.length cl] l) (p0:l.length≤1000000):Calls Tryz.prog 108 #[.slice al l.length cl] w (Ret (fun v w' =>OwnNew w w' 2 v l) w):=by
 refine en func108 ntmps108 ?_
 have H:=(St.start w).arg hl
 have nhl:=qN hl
 clear hl
 refine zcr (sp yN (zjcc (sp (.slice al l.length cl) (sw (o_eqnil underlying22 al l.length cl rfl (zjn (xF (al.isNone) rfl (fun h1=>?_) (fun h1=>?_))))))))
 ·skip
  refine zcr (sp yN (zjr (t_r (ret1 yN rfl rfl ⟨_,rfl,?_,H.base⟩))))
  obtain rfl:=H.nilOf 0 rfl ‹_›
  exact ownNew_nil _ _ _
 refine qV (t_n (zcr (sw (vU H underlying22 ti2 fun b2 w3 H=>sp (.slice al l.length cl) ?_))))
 replace H:=H.boxRow 0 rfl 1 0 rfl qj
 refine sw (o_appendInts H 0 rfl 0 rfl underlying22 ti2 rfl rfl rfl qp qf fun v4 w5 H=>?_)
 replace H:St _ _ [.row v4 2 1 (0+l.length) ([]++l.map (Value.int .i64))] _:=H
 refine sp (v4) (zjr (ret1 (v4) rfl rfl ⟨_,rfl,(H.newInts 0 rfl qf),H.base⟩))
theorem Q7 (w:World) (x:yLI) (left:Int) {ax:yOA} {Fx:yLN} (hx:qP.rep w Fx [.slice ax x.length cx] x) (p0:0≤left∧left≤2000000):Calls Tryz.prog 53 #[.slice ax x.length cx,yI left] w (Ret (fun v w' =>v=yI (szR (tot x) left)) w):=by
 refine en func53 ntmps53 ?_
 have H:=(St.start w).arg hx
 have nhx:=qN hx
 clear hx
 refine zcr (sp (yI 0) (zjc (sps [yI left,.slice ax x.length cx] (oN rfl (sw (o_sub left x.length rfl rfl qf (sp (yI (left - x.length)) (zjcc (sps [yI (left - x.length),.bool (decide ((left - x.length:Int) < 0))] (zjn (cD rfl (fun h1=>?_) (fun h1=>?_))))))))))))
 ·skip
  refine zcr (sp (yI (-1)) (zjr (t_r (ret1 (yI (-1)) rfl rfl ⟨_,rfl,(congrArg (Value.int .i64) ?_),H.base⟩))))
  have:=zL (tot x) left
  rw [tot_ints] at *
  try omega
 refine qV (t_n (zcr (sps [yI (left - x.length),yI (left - x.length)] (zjr (ret1 (yI (left - x.length)) rfl rfl ⟨_,rfl,(congrArg (Value.int .i64) ?_),H.base⟩)))))
 have:=zL (tot x) left
 rw [tot_ints] at *
 try omega

theorem szBoolS_ok (w:World) (x:List Bool) (left:Int) {ax:yOA} {Fx:yLN} (hx:qP.rep w Fx [.slice ax x.length cx] x) (p0:0≤left∧left≤2000000):Calls Tryz.prog 55 #[.slice ax x.length cx,yI left] w (Ret (fun v w' =>v=yI (szR (tot x) left)) w):=by
 refine en func55 ntmps55 ?_
 have H:=(St.start w).arg hx
 have nhx:=qN hx
 clear hx
 refine zcr (sp (yI 0) (zjc (sps [yI left,.slice ax x.length cx] (oN rfl (sw (o_sub left x.length rfl rfl qf (sp (yI (left - x.length)) (zjcc (sps [yI (left - x.length),.bool (decide ((left - x.length:Int) < 0))] (zjn (cD rfl (fun h1=>?_) (fun h1=>?_))))))))))))
 ·skip
  refine zcr (sp (yI (-1)) (zjr (t_r (ret1 (yI (-1)) rfl rfl ⟨_,rfl,(congrArg (Value.int .i64) ?_),H.base⟩))))
  have:=zL (tot x) left
  rw [tot_bools] at *
  try omega
 refine qV (t_n (zcr (sps [yI (left - x.length),yI (left - x.length)] (zjr (ret1 (yI (left - x.length)) rfl rfl ⟨_,rfl,(congrArg (Value.int .i64) ?_),H.base⟩)))))
 have:=zL (tot x) left
 rw [tot_bools] at *
 try omega

theorem szInt64SS_ok (w:World) (x:yLL) (left:Int) {ax:yOA} {Fx:yLN} (hx:qP.rep w Fx [.slice ax x.length cx] x) (p0:0≤left∧left≤2000000):Calls Tryz.prog 56 #[.slice ax x.length cx,yI left] w (Ret (fun v w' =>v=yI (szR (tot x) left)) w):=by
 refine en func56 ntmps56 ?_
 have H:=(St.start w).arg hx
 have nhx:=qN hx
 clear hx
 refine zcr (sp (yI 0) (zjc (sps [yI left,.slice ax x.length cx] (oN rfl (sw (o_sub left x.length rfl rfl qf (sp (yI (left - x.length)) (zjcc (sps [yI (left - x.length),.bool (decide ((left - x.length:Int) < 0))] (zjn (cD rfl (fun h1=>?_) (fun h1=>?_))))))))))))
 ·skip
  refine zcr (sp (yI (-1)) (zjr (t_r (ret1 (yI (-1)) rfl rfl ⟨_,rfl,(congrArg (Value.int .i64) ?_),H.base⟩))))
  have:=zL (tot x) left
  have:=len_tot x
  omega
 refine qV (t_n (zcc (sp (yI 0) (zjn (qY ?_)))))
 refine zB (fun m' ρ w2=>∃ (xN:Env) (k:Nat) (r:Int),ρ=upd (upd (upd xN 0 (.slice ax x.length cx)) 1 (yI r)) 5 (yI k)∧(k≤x.length)∧(r=left - (x.length:Int) - (totTo x k:Nat))∧(0≤r)∧m' =x.length - k∧St w w2 [] [sF false Fx ax cx x]) (x.length - 0) ⟨_,0,left - (x.length:Int),uE3,qf,(by rw [totTo_zero];omega),qf,rfl,H⟩ ?_
 clear H
 rintro m' ρ w3 ⟨xN,k,r,rfl,i0,i1,i2,rfl,H⟩
 refine zcc (sps [yI k,.slice ax x.length cx] (oN rfl (sp (.bool (decide ((k:Int) < x.length))) (zjn (cD rfl (fun h4=>?_) (fun h4=>?_))))))
 ·skip
  refine qV (t_n (xU (qY (zcr (sps [.slice ax x.length cx,yI k] ?_)))))
  obtain ⟨b5,o6,rfl⟩:=H.addr 0 rfl qf
  obtain ⟨ae7,ce7,Fe7,H⟩:=H.vH 0 rfl k k qf qf qf
  refine oI rfl rfl (oL rfl (H.xR 1 rfl 0 rfl) (sp (yI r) (sw (oq (Q7 _ (x[k]!) r (H.get 0 rfl).1 qf) H fun w8 H=>?_))))
  have:=zL (tot (x[k]!)) r
  refine sp (yI (szR (tot (x[k]!)) r)) (zjc (sps [yI (szR (tot (x[k]!)) r),.bool (decide ((szR (tot (x[k]!)) r:Int) < 0))] (zjn (cD rfl (fun h10=>?_) (fun h10=>?_)))))
  ·skip
   refine zcr (sp (yI (-1)) (zjr (zr5 (ret1 (yI (-1)) rfl rfl ⟨_,rfl,(congrArg (Value.int .i64) ?_),H.base⟩))))
   have:=zL (tot x) left
   have:=tot_get (l:=x) (k:=k) qf
   omega
  refine qV (b_n (t_n (xX (sp (yI k) (sw (zD k 1 rfl rfl qf (sp (yI (k+1)) (xY (xg (m' :=x.length - (k+1)) qf ⟨_,k+1,szR (tot (x[k]!)) r,uE3,?_,?_,?_,rfl,H.sel _ (.refl _) _ qm⟩)))))))))
  · omega
  · rw [totTo_succ];omega
  · omega
 refine zx4 (zcr (sps [yI r,yI r] (zjr (ret1 (yI r) rfl rfl ⟨_,rfl,(congrArg (Value.int .i64) ?_),H.base⟩))))
 obtain rfl:k=x.length:=by omega
 have:=zL (tot x) left
 rw [tot_list] at *
 omega

theorem szInto_ok (w:World) (x:IntoD) (left:Int) {axBag:yOA} {FxBag:yLN} (hxBag:qP.rep w FxBag [.slice axBag x.jE.length cxBag] x.jE) (p0:0≤left∧left≤2000000):Calls Tryz.prog 169 #[.agg #[yI x.qG,.slice axBag x.jE.length cxBag],yI left] w (Ret (fun v w' =>v=yI (szR (tot x) left)) w):=by
 refine en func169 ntmps169 ?_
 have H:=(St.start w).arg hxBag
 have nhxBag:=qN hxBag
 clear hxBag
 refine zcr (sw (o_box H (.agg #[yI x.qG,.slice axBag x.jE.length cxBag]) rfl fun b1 w2 H=>?_))
 replace H:St _ _ [.box b1 [yI x.qG,.slice axBag x.jE.length cxBag] 190] _:=H
 refine sp (yI 0) (zjc (oF rfl (oL rfl (H.cell 0 rfl rfl) (sp (yI left) (sw (oq (Q7 _ x.jE left (H.get 0 rfl).1 qf) H fun w3 H=>?_))))))
 have:=zL (tot x.jE) left
 refine sp (yI (szR (tot x.jE) left)) (zjcc (sps [yI (szR (tot x.jE) left),.bool (decide ((szR (tot x.jE) left:Int) < 0))] (zjn (cD rfl (fun h5=>?_) (fun h5=>?_)))))
 ·skip
  refine zcr (sp (yI (-1)) (zjr (t_r (ret1 (yI (-1)) rfl rfl ⟨_,rfl,(congrArg (Value.int .i64) ?_),H.base⟩))))
  have:=zL (tot x) left
  rw [tot_IntoD] at *
  try omega
 refine qV (t_n (zcr (sps [yI (szR (tot x.jE) left),yI (szR (tot x.jE) left)] (zjr (ret1 (yI (szR (tot x.jE) left)) rfl rfl ⟨_,rfl,(congrArg (Value.int .i64) ?_),H.base⟩)))))
 have:=zL (tot x) left
 rw [tot_IntoD] at *
 try omega

theorem szIntoS_ok (w:World) (x:List IntoD) (left:Int) {ax:yOA} {Fx:yLN} (hx:qP.rep w Fx [.slice ax x.length cx] x) (p0:0≤left∧left≤2000000):Calls Tryz.prog 132 #[.slice ax x.length cx,yI left] w (Ret (fun v w' =>v=yI (szR (tot x) left)) w):=by
 refine en func132 ntmps132 ?_
 have H:=(St.start w).arg hx
 have nhx:=qN hx
 clear hx
 refine zcr (sp (yI 0) (zjc (sps [yI left,.slice ax x.length cx] (oN rfl (sw (o_sub left x.length rfl rfl qf (sp (yI (left - x.length)) (zjcc (sps [yI (left - x.length),.bool (decide ((left - x.length:Int) < 0))] (zjn (cD rfl (fun h1=>?_) (fun h1=>?_))))))))))))
 ·skip
  refine zcr (sp (yI (-1)) (zjr (t_r (ret1 (yI (-1)) rfl rfl ⟨_,rfl,(congrArg (Value.int .i64) ?_),H.base⟩))))
  have:=zL (tot x) left
  have:=len_tot x
  omega
 refine qV (t_n (zcc (sp (yI 0) (zjn (qY ?_)))))
 refine zB (fun m' ρ w2=>∃ (xN:Env) (k:Nat) (r:Int),ρ=upd (upd (upd xN 0 (.slice ax x.length cx)) 1 (yI r)) 5 (yI k)∧(k≤x.length)∧(r=left - (x.length:Int) - (totTo x k:Nat))∧(0≤r)∧m' =x.length - k∧St w w2 [] [sF false Fx ax cx x]) (x.length - 0) ⟨_,0,left - (x.length:Int),uE3,qf,(by rw [totTo_zero];omega),qf,rfl,H⟩ ?_
 clear H
 rintro m' ρ w3 ⟨xN,k,r,rfl,i0,i1,i2,rfl,H⟩
 refine zcc (sps [yI k,.slice ax x.length cx] (oN rfl (sp (.bool (decide ((k:Int) < x.length))) (zjn (cD rfl (fun h4=>?_) (fun h4=>?_))))))
 ·skip
  refine qV (t_n (xU (qY (zcr (sps [.slice ax x.length cx,yI k] ?_)))))
  obtain ⟨b5,o6,rfl⟩:=H.addr 0 rfl qf
  obtain ⟨ae7Bag,ce7Bag,Fe7Bag,H⟩:=H.jJ 0 rfl k k qf qf qf
  refine oI rfl rfl (sw (zl [yI ((x[k]!).qG),.slice ae7Bag (((x[k]!).jE).length) ce7Bag] isAgg190 sizeOf190 rfl (qF (H.get 1 rfl) 0 2) (sp (yI r) (sw (oq (szInto_ok _ (x[k]!) r (H.get 0 rfl).1 qf) H fun w8 H=>?_)))))
  have:=zL (tot (x[k]!)) r
  refine sp (yI (szR (tot (x[k]!)) r)) (zjc (sps [yI (szR (tot (x[k]!)) r),.bool (decide ((szR (tot (x[k]!)) r:Int) < 0))] (zjn (cD rfl (fun h10=>?_) (fun h10=>?_)))))
  ·skip
   refine zcr (sp (yI (-1)) (zjr (zr5 (ret1 (yI (-1)) rfl rfl ⟨_,rfl,(congrArg (Value.int .i64) ?_),H.base⟩))))
   have:=zL (tot x) left
   have:=tot_get (l:=x) (k:=k) qf
   omega
  refine qV (b_n (t_n (xX (sp (yI k) (sw (zD k 1 rfl rfl qf (sp (yI (k+1)) (xY (xg (m' :=x.length - (k+1)) qf ⟨_,k+1,szR (tot (x[k]!)) r,uE3,?_,?_,?_,rfl,H.sel _ (.refl _) _ qm⟩)))))))))
  · omega
  · rw [totTo_succ];omega
  · omega
 refine zx4 (zcr (sps [yI r,yI r] (zjr (ret1 (yI r) rfl rfl ⟨_,rfl,(congrArg (Value.int .i64) ?_),H.base⟩))))
 obtain rfl:k=x.length:=by omega
 have:=zL (tot x) left
 rw [tot_list] at *
 omega

theorem szRule_ok (w:World) (x:QF) (left:Int) {Ve:yOA} {FxNeed:yLN} {Vj:yOA} {FxHave:yLN} {Vf:yOA} {FxLack:yLN} {Vh:yOA} {FxHere:yLN} {axOut:yOA} {FxOut:yLN} {Vg:yOA} {FxInto:yLN} (hxNeed:qP.rep w FxNeed [.slice Ve x.xE.length X7] x.xE) (hxHave:qP.rep w FxHave [.slice Vj x.xM.length Vb] x.xM) (hxLack:qP.rep w FxLack [.slice Vf x.xO.length X8] x.xO) (hxHere:qP.rep w FxHere [.slice Vh x.xW.length Va] x.xW) (hxOut:qP.rep w FxOut [.slice axOut x.vC.length cxOut] x.vC) (hxInto:qP.rep w FxInto [.slice Vg x.qU.length X9] x.qU) (p0:0≤left∧left≤2000000):Calls Tryz.prog 97 #[.agg #[yI x.qG,yI x.zM,.slice Ve x.xE.length X7,.slice Vj x.xM.length Vb,.slice Vf x.xO.length X8,.slice Vh x.xW.length Va,.slice axOut x.vC.length cxOut,.slice Vg x.qU.length X9,.bool x.zG],yI left] w (Ret (fun v w' =>v=yI (szR (tot x) left)) w):=by
 refine en func97 ntmps97 ?_
 have H:=((((((St.start w).arg hxInto).arg hxOut).arg hxHere).arg hxLack).arg hxHave).arg hxNeed
 have nhxNeed:=qN hxNeed
 have nhxHave:=qN hxHave
 have nhxLack:=qN hxLack
 have nhxHere:=qN hxHere
 have nhxOut:=qN hxOut
 have nhxInto:=qN hxInto
 clear hxNeed hxHave hxLack hxHere hxOut hxInto
 refine zcr (sw (o_box H (.agg #[yI x.qG,yI x.zM,.slice Ve x.xE.length X7,.slice Vj x.xM.length Vb,.slice Vf x.xO.length X8,.slice Vh x.xW.length Va,.slice axOut x.vC.length cxOut,.slice Vg x.qU.length X9,.bool x.zG]) rfl fun b1 w2 H=>?_))
 replace H:St _ _ [.box b1 [yI x.qG,yI x.zM,.slice Ve x.xE.length X7,.slice Vj x.xM.length Vb,.slice Vf x.xO.length X8,.slice Vh x.xW.length Va,.slice axOut x.vC.length cxOut,.slice Vg x.qU.length X9,.bool x.zG] 111] _:=H
 refine sp (yI 0) (zjc (oF rfl (oL rfl (H.cell 0 rfl rfl) (sp (yI left) (sw (oq (Q7 _ x.xE left (H.get 0 rfl).1 qf) H fun w3 H=>?_))))))
 have:=zL (tot x.xE) left
 refine sp (yI (szR (tot x.xE) left)) (zjcc (sps [yI (szR (tot x.xE) left),.bool (decide ((szR (tot x.xE) left:Int) < 0))] (zjn (cD rfl (fun h5=>?_) (fun h5=>?_)))))
 ·skip
  refine zcr (sp (yI (-1)) (zjr (t_r (ret1 (yI (-1)) rfl rfl ⟨_,rfl,(congrArg (Value.int .i64) ?_),H.base⟩))))
  have:=zL (tot x) left
  rw [tot_RuleD] at *
  try omega
 refine qV (t_n (zcr (oF rfl (oL rfl (H.cell 0 rfl rfl) (sp (yI (szR (tot x.xE) left)) (sw (oq (Q7 _ x.xM (szR (tot x.xE) left) (H.get 1 rfl).1 qf) H fun w6 H=>?_)))))))
 have:=zL (tot x.xM) (szR (tot x.xE) left)
 refine sp (yI (szR (tot x.xM) (szR (tot x.xE) left))) (zjcc (sps [yI (szR (tot x.xM) (szR (tot x.xE) left)),.bool (decide ((szR (tot x.xM) (szR (tot x.xE) left):Int) < 0))] (zjn (cD rfl (fun h8=>?_) (fun h8=>?_)))))
 ·skip
  refine zcr (sp (yI (-1)) (zjr (t_r (ret1 (yI (-1)) rfl rfl ⟨_,rfl,(congrArg (Value.int .i64) ?_),H.base⟩))))
  have:=zL (tot x) left
  rw [tot_RuleD] at *
  try omega
 refine qV (t_n (zcr (oF rfl (oL rfl (H.cell 0 rfl rfl) (sp (yI (szR (tot x.xM) (szR (tot x.xE) left))) (sw (oq (Q7 _ x.xO (szR (tot x.xM) (szR (tot x.xE) left)) (H.get 2 rfl).1 qf) H fun w9 H=>?_)))))))
 have:=zL (tot x.xO) (szR (tot x.xM) (szR (tot x.xE) left))
 refine sp (yI (szR (tot x.xO) (szR (tot x.xM) (szR (tot x.xE) left)))) (zjcc (sps [yI (szR (tot x.xO) (szR (tot x.xM) (szR (tot x.xE) left))),.bool (decide ((szR (tot x.xO) (szR (tot x.xM) (szR (tot x.xE) left)):Int) < 0))] (zjn (cD rfl (fun h11=>?_) (fun h11=>?_)))))
 ·skip
  refine zcr (sp (yI (-1)) (zjr (t_r (ret1 (yI (-1)) rfl rfl ⟨_,rfl,(congrArg (Value.int .i64) ?_),H.base⟩))))
  have:=zL (tot x) left
  rw [tot_RuleD] at *
  try omega
 refine qV (t_n (zcr (oF rfl (oL rfl (H.cell 0 rfl rfl) (sp (yI (szR (tot x.xO) (szR (tot x.xM) (szR (tot x.xE) left)))) (sw (oq (Q7 _ x.xW (szR (tot x.xO) (szR (tot x.xM) (szR (tot x.xE) left))) (H.get 3 rfl).1 qf) H fun w12 H=>?_)))))))
 have:=zL (tot x.xW) (szR (tot x.xO) (szR (tot x.xM) (szR (tot x.xE) left)))
 refine sp (yI (szR (tot x.xW) (szR (tot x.xO) (szR (tot x.xM) (szR (tot x.xE) left))))) (zjcc (sps [yI (szR (tot x.xW) (szR (tot x.xO) (szR (tot x.xM) (szR (tot x.xE) left)))),.bool (decide ((szR (tot x.xW) (szR (tot x.xO) (szR (tot x.xM) (szR (tot x.xE) left))):Int) < 0))] (zjn (cD rfl (fun h14=>?_) (fun h14=>?_)))))
 ·skip
  refine zcr (sp (yI (-1)) (zjr (t_r (ret1 (yI (-1)) rfl rfl ⟨_,rfl,(congrArg (Value.int .i64) ?_),H.base⟩))))
  have:=zL (tot x) left
  rw [tot_RuleD] at *
  try omega
 refine qV (t_n (zcr (oF rfl (oL rfl (H.cell 0 rfl rfl) (sp (yI (szR (tot x.xW) (szR (tot x.xO) (szR (tot x.xM) (szR (tot x.xE) left))))) (sw (oq (Q7 _ x.vC (szR (tot x.xW) (szR (tot x.xO) (szR (tot x.xM) (szR (tot x.xE) left)))) (H.get 4 rfl).1 qf) H fun w15 H=>?_)))))))
 have:=zL (tot x.vC) (szR (tot x.xW) (szR (tot x.xO) (szR (tot x.xM) (szR (tot x.xE) left))))
 refine sp (yI (szR (tot x.vC) (szR (tot x.xW) (szR (tot x.xO) (szR (tot x.xM) (szR (tot x.xE) left)))))) (zjcc (sps [yI (szR (tot x.vC) (szR (tot x.xW) (szR (tot x.xO) (szR (tot x.xM) (szR (tot x.xE) left))))),.bool (decide ((szR (tot x.vC) (szR (tot x.xW) (szR (tot x.xO) (szR (tot x.xM) (szR (tot x.xE) left)))):Int) < 0))] (zjn (cD rfl (fun h17=>?_) (fun h17=>?_)))))
 ·skip
  refine zcr (sp (yI (-1)) (zjr (t_r (ret1 (yI (-1)) rfl rfl ⟨_,rfl,(congrArg (Value.int .i64) ?_),H.base⟩))))
  have:=zL (tot x) left
  rw [tot_RuleD] at *
  try omega
 refine qV (t_n (zcr (oF rfl (oL rfl (H.cell 0 rfl rfl) (sp (yI (szR (tot x.vC) (szR (tot x.xW) (szR (tot x.xO) (szR (tot x.xM) (szR (tot x.xE) left)))))) (sw (oq (szIntoS_ok _ x.qU (szR (tot x.vC) (szR (tot x.xW) (szR (tot x.xO) (szR (tot x.xM) (szR (tot x.xE) left))))) (H.get 5 rfl).1 qf) H fun w18 H=>?_)))))))
 have:=zL (tot x.qU) (szR (tot x.vC) (szR (tot x.xW) (szR (tot x.xO) (szR (tot x.xM) (szR (tot x.xE) left)))))
 refine sp (yI (szR (tot x.qU) (szR (tot x.vC) (szR (tot x.xW) (szR (tot x.xO) (szR (tot x.xM) (szR (tot x.xE) left))))))) (zjcc (sps [yI (szR (tot x.qU) (szR (tot x.vC) (szR (tot x.xW) (szR (tot x.xO) (szR (tot x.xM) (szR (tot x.xE) left)))))),.bool (decide ((szR (tot x.qU) (szR (tot x.vC) (szR (tot x.xW) (szR (tot x.xO) (szR (tot x.xM) (szR (tot x.xE) left))))):Int) < 0))] (zjn (cD rfl (fun h20=>?_) (fun h20=>?_)))))
 ·skip
  refine zcr (sp (yI (-1)) (zjr (t_r (ret1 (yI (-1)) rfl rfl ⟨_,rfl,(congrArg (Value.int .i64) ?_),H.base⟩))))
  have:=zL (tot x) left
  rw [tot_RuleD] at *
  try omega
 refine qV (t_n (zcr (sps [yI (szR (tot x.qU) (szR (tot x.vC) (szR (tot x.xW) (szR (tot x.xO) (szR (tot x.xM) (szR (tot x.xE) left)))))),yI (szR (tot x.qU) (szR (tot x.vC) (szR (tot x.xW) (szR (tot x.xO) (szR (tot x.xM) (szR (tot x.xE) left))))))] (zjr (ret1 (yI (szR (tot x.qU) (szR (tot x.vC) (szR (tot x.xW) (szR (tot x.xO) (szR (tot x.xM) (szR (tot x.xE) left))))))) rfl rfl ⟨_,rfl,(congrArg (Value.int .i64) ?_),H.base⟩)))))
 have:=zL (tot x) left
 rw [tot_RuleD] at *
 try omega

theorem szRuleS_ok (w:World) (x:List QF) (left:Int) {ax:yOA} {Fx:yLN} (hx:qP.rep w Fx [.slice ax x.length cx] x) (p0:0≤left∧left≤2000000):Calls Tryz.prog 54 #[.slice ax x.length cx,yI left] w (Ret (fun v w' =>v=yI (szR (tot x) left)) w):=by
 refine en func54 ntmps54 ?_
 have H:=(St.start w).arg hx
 have nhx:=qN hx
 clear hx
 refine zcr (sp (yI 0) (zjc (sps [yI left,.slice ax x.length cx] (oN rfl (sw (o_sub left x.length rfl rfl qf (sp (yI (left - x.length)) (zjcc (sps [yI (left - x.length),.bool (decide ((left - x.length:Int) < 0))] (zjn (cD rfl (fun h1=>?_) (fun h1=>?_))))))))))))
 ·skip
  refine zcr (sp (yI (-1)) (zjr (t_r (ret1 (yI (-1)) rfl rfl ⟨_,rfl,(congrArg (Value.int .i64) ?_),H.base⟩))))
  have:=zL (tot x) left
  have:=len_tot x
  omega
 refine qV (t_n (zcc (sp (yI 0) (zjn (qY ?_)))))
 refine zB (fun m' ρ w2=>∃ (xN:Env) (k:Nat) (r:Int),ρ=upd (upd (upd xN 0 (.slice ax x.length cx)) 1 (yI r)) 5 (yI k)∧(k≤x.length)∧(r=left - (x.length:Int) - (totTo x k:Nat))∧(0≤r)∧m' =x.length - k∧St w w2 [] [sF false Fx ax cx x]) (x.length - 0) ⟨_,0,left - (x.length:Int),uE3,qf,(by rw [totTo_zero];omega),qf,rfl,H⟩ ?_
 clear H
 rintro m' ρ w3 ⟨xN,k,r,rfl,i0,i1,i2,rfl,H⟩
 refine zcc (sps [yI k,.slice ax x.length cx] (oN rfl (sp (.bool (decide ((k:Int) < x.length))) (zjn (cD rfl (fun h4=>?_) (fun h4=>?_))))))
 ·skip
  refine qV (t_n (xU (qY (zcr (sps [.slice ax x.length cx,yI k] ?_)))))
  obtain ⟨b5,o6,rfl⟩:=H.addr 0 rfl qf
  obtain ⟨ae7Need,ce7Need,Fe7Need,ae7Have,ce7Have,Fe7Have,ae7Lack,ce7Lack,Fe7Lack,ae7Here,ce7Here,Fe7Here,ae7Out,ce7Out,Fe7Out,ae7Into,ce7Into,Fe7Into,H⟩:=H.yc 0 rfl k k qf qf qf
  refine oI rfl rfl (sw (zl [yI ((x[k]!).qG),yI ((x[k]!).zM),.slice ae7Need (((x[k]!).xE).length) ce7Need,.slice ae7Have (((x[k]!).xM).length) ce7Have,.slice ae7Lack (((x[k]!).xO).length) ce7Lack,.slice ae7Here (((x[k]!).xW).length) ce7Here,.slice ae7Out (((x[k]!).vC).length) ce7Out,.slice ae7Into (((x[k]!).qU).length) ce7Into,.bool ((x[k]!).zG)] isAgg111 sizeOf111 rfl (qF (H.get 6 rfl) 0 9) (sp (yI r) (sw (oq (szRule_ok _ (x[k]!) r (H.get 0 rfl).1 (H.get 1 rfl).1 (H.get 2 rfl).1 (H.get 3 rfl).1 (H.get 4 rfl).1 (H.get 5 rfl).1 qf) H fun w8 H=>?_)))))
  have:=zL (tot (x[k]!)) r
  refine sp (yI (szR (tot (x[k]!)) r)) (zjc (sps [yI (szR (tot (x[k]!)) r),.bool (decide ((szR (tot (x[k]!)) r:Int) < 0))] (zjn (cD rfl (fun h10=>?_) (fun h10=>?_)))))
  ·skip
   refine zcr (sp (yI (-1)) (zjr (zr5 (ret1 (yI (-1)) rfl rfl ⟨_,rfl,(congrArg (Value.int .i64) ?_),H.base⟩))))
   have:=zL (tot x) left
   have:=tot_get (l:=x) (k:=k) qf
   omega
  refine qV (b_n (t_n (xX (sp (yI k) (sw (zD k 1 rfl rfl qf (sp (yI (k+1)) (xY (xg (m' :=x.length - (k+1)) qf ⟨_,k+1,szR (tot (x[k]!)) r,uE3,?_,?_,?_,rfl,H.sel _ (.refl _) _ qm⟩)))))))))
  · omega
  · rw [totTo_succ];omega
  · omega
 refine zx4 (zcr (sps [yI r,yI r] (zjr (ret1 (yI r) rfl rfl ⟨_,rfl,(congrArg (Value.int .i64) ?_),H.base⟩))))
 obtain rfl:k=x.length:=by omega
 have:=zL (tot x) left
 rw [tot_list] at *
 omega

theorem szSystem_ok (w:World) (x:qL) (left:Int) {Qi:yOA} {FxParents:yLN} {XF:yOA} {FxRules:yLN} (XC:qP.rep w FxParents [.slice Qi x.qw.length Qh] x.qw) (hxRules:qP.rep w FxRules [.slice XF x.qx.length XD] x.qx) (p0:0≤left∧left≤2000000):Calls Tryz.prog 14 #[.agg #[yI x.xB,.slice Qi x.qw.length Qh,.slice XF x.qx.length XD],yI left] w (Ret (fun v w' =>v=yI (szR (tot x) left)) w):=by
 refine en func14 ntmps14 ?_
 have H:=((St.start w).arg hxRules).arg XC
 have nhxParents:=qN XC
 have nhxRules:=qN hxRules
 clear XC hxRules
 refine zcr (sw (o_box H (.agg #[yI x.xB,.slice Qi x.qw.length Qh,.slice XF x.qx.length XD]) rfl fun b1 w2 H=>?_))
 replace H:St _ _ [.box b1 (yS x Qi Qh XF XD) 25] _:=H
 refine sp (yI 0) (zjc (oF rfl (oL rfl (H.cell 0 rfl rfl) (sp (yI left) (sw (oq (Q7 _ x.qw left (H.get 0 rfl).1 qf) H fun w3 H=>?_))))))
 have:=zL (tot x.qw) left
 refine sp (yI (szR (tot x.qw) left)) (zjcc (sps [yI (szR (tot x.qw) left),.bool (decide ((szR (tot x.qw) left:Int) < 0))] (zjn (cD rfl (fun h5=>?_) (fun h5=>?_)))))
 ·skip
  refine zcr (sp (yI (-1)) (zjr (t_r (ret1 (yI (-1)) rfl rfl ⟨_,rfl,(congrArg (Value.int .i64) ?_),H.base⟩))))
  have:=zL (tot x) left
  rw [tot_SystemD] at *
  try omega
 refine qV (t_n (zcr (oF rfl (oL rfl (H.cell 0 rfl rfl) (sp (yI (szR (tot x.qw) left)) (sw (oq (szRuleS_ok _ x.qx (szR (tot x.qw) left) (H.get 1 rfl).1 qf) H fun w6 H=>?_)))))))
 have:=zL (tot x.qx) (szR (tot x.qw) left)
 refine sp (yI (szR (tot x.qx) (szR (tot x.qw) left))) (zjcc (sps [yI (szR (tot x.qx) (szR (tot x.qw) left)),.bool (decide ((szR (tot x.qx) (szR (tot x.qw) left):Int) < 0))] (zjn (cD rfl (fun h8=>?_) (fun h8=>?_)))))
 ·skip
  refine zcr (sp (yI (-1)) (zjr (t_r (ret1 (yI (-1)) rfl rfl ⟨_,rfl,(congrArg (Value.int .i64) ?_),H.base⟩))))
  have:=zL (tot x) left
  rw [tot_SystemD] at *
  try omega
 refine qV (t_n (zcr (sps [yI (szR (tot x.qx) (szR (tot x.qw) left)),yI (szR (tot x.qx) (szR (tot x.qw) left))] (zjr (ret1 (yI (szR (tot x.qx) (szR (tot x.qw) left))) rfl rfl ⟨_,rfl,(congrArg (Value.int .i64) ?_),H.base⟩)))))
 have:=zL (tot x) left
 rw [tot_SystemD] at *
 try omega

theorem szState_ok (w:World) (x:qM) (left:Int) {Xn:yOA} {FxAlive:yLN} {axBags:yOA} {FxBags:yLN} {QD:yOA} {FxAround:yLN} (hxAlive:qP.rep w FxAlive [.slice Xn x.qB.length Xm] x.qB) (hxBags:qP.rep w FxBags [.slice axBags x.qE.length cxBags] x.qE) (hxAround:qP.rep w FxAround [.slice QD x.qC.length QC] x.qC) (p0:0≤left∧left≤2000000):Calls Tryz.prog 15 #[.agg #[.slice Xn x.qB.length Xm,.slice axBags x.qE.length cxBags,.slice QD x.qC.length QC],yI left] w (Ret (fun v w' =>v=yI (szR (tot x) left)) w):=by
 refine en func15 ntmps15 ?_
 have H:=(((St.start w).arg hxAround).arg hxBags).arg hxAlive
 have nhxAlive:=qN hxAlive
 have nhxBags:=qN hxBags
 have nhxAround:=qN hxAround
 clear hxAlive hxBags hxAround
 refine zcr (sw (o_box H (.agg #[.slice Xn x.qB.length Xm,.slice axBags x.qE.length cxBags,.slice QD x.qC.length QC]) rfl fun b1 w2 H=>?_))
 replace H:St _ _ [.box b1 (yT x Xn Xm axBags cxBags QD QC) 29] _:=H
 refine sp (yI 0) (zjc (oF rfl (oL rfl (H.cell 0 rfl rfl) (sp (yI left) (sw (oq (szBoolS_ok _ x.qB left (H.get 0 rfl).1 qf) H fun w3 H=>?_))))))
 have:=zL (tot x.qB) left
 refine sp (yI (szR (tot x.qB) left)) (zjcc (sps [yI (szR (tot x.qB) left),.bool (decide ((szR (tot x.qB) left:Int) < 0))] (zjn (cD rfl (fun h5=>?_) (fun h5=>?_)))))
 ·skip
  refine zcr (sp (yI (-1)) (zjr (t_r (ret1 (yI (-1)) rfl rfl ⟨_,rfl,(congrArg (Value.int .i64) ?_),H.base⟩))))
  have:=zL (tot x) left
  rw [tot_StateD] at *
  try omega
 refine qV (t_n (zcr (oF rfl (oL rfl (H.cell 0 rfl rfl) (sp (yI (szR (tot x.qB) left)) (sw (oq (szInt64SS_ok _ x.qE (szR (tot x.qB) left) (H.get 1 rfl).1 qf) H fun w6 H=>?_)))))))
 have:=zL (tot x.qE) (szR (tot x.qB) left)
 refine sp (yI (szR (tot x.qE) (szR (tot x.qB) left))) (zjcc (sps [yI (szR (tot x.qE) (szR (tot x.qB) left)),.bool (decide ((szR (tot x.qE) (szR (tot x.qB) left):Int) < 0))] (zjn (cD rfl (fun h8=>?_) (fun h8=>?_)))))
 ·skip
  refine zcr (sp (yI (-1)) (zjr (t_r (ret1 (yI (-1)) rfl rfl ⟨_,rfl,(congrArg (Value.int .i64) ?_),H.base⟩))))
  have:=zL (tot x) left
  rw [tot_StateD] at *
  try omega
 refine qV (t_n (zcr (oF rfl (oL rfl (H.cell 0 rfl rfl) (sp (yI (szR (tot x.qE) (szR (tot x.qB) left))) (sw (oq (Q7 _ x.qC (szR (tot x.qE) (szR (tot x.qB) left)) (H.get 2 rfl).1 qf) H fun w9 H=>?_)))))))
 have:=zL (tot x.qC) (szR (tot x.qE) (szR (tot x.qB) left))
 refine sp (yI (szR (tot x.qC) (szR (tot x.qE) (szR (tot x.qB) left)))) (zjcc (sps [yI (szR (tot x.qC) (szR (tot x.qE) (szR (tot x.qB) left))),.bool (decide ((szR (tot x.qC) (szR (tot x.qE) (szR (tot x.qB) left)):Int) < 0))] (zjn (cD rfl (fun h11=>?_) (fun h11=>?_)))))
 ·skip
  refine zcr (sp (yI (-1)) (zjr (t_r (ret1 (yI (-1)) rfl rfl ⟨_,rfl,(congrArg (Value.int .i64) ?_),H.base⟩))))
  have:=zL (tot x) left
  rw [tot_StateD] at *
  try omega
 refine qV (t_n (zcr (sps [yI (szR (tot x.qC) (szR (tot x.qE) (szR (tot x.qB) left))),yI (szR (tot x.qC) (szR (tot x.qE) (szR (tot x.qB) left)))] (zjr (ret1 (yI (szR (tot x.qC) (szR (tot x.qE) (szR (tot x.qB) left)))) rfl rfl ⟨_,rfl,(congrArg (Value.int .i64) ?_),H.base⟩)))))
 have:=zL (tot x) left
 rw [tot_StateD] at *
 try omega

theorem Q5 (w:World) (x:yLI) {ax:yOA} {Fx:yLN} (hx:qP.rep w Fx [.slice ax x.length cx] x) (p0:tot x≤2000000):Calls Tryz.prog 59 #[.slice ax x.length cx] w (Ret (fun v w' =>OwnNew w w' 2 v x) w):=by
 refine en func59 ntmps59 ?_
 have H:=(St.start w).arg hx
 have nhx:=qN hx
 clear hx
 have p1:=len_tot x
 refine zcr (sp yN (zjc (sp (.slice ax x.length cx) (oN rfl (sw (o_make1 H underlying22 ti2 rfl x.length rfl rfl qf qf fun b1 w2 H=>?_))))))
 replace H:St _ _ [.box b1 (List.replicate x.length (yI 0)) 2] _:=H
 refine sp (.slice (aa b1 0) x.length x.length) (zjcc (sp (yI 0) (zjn (qY ?_))))
 refine zB (fun m' ρ w3=>∃ (xN:Env) (k:Nat),ρ=upd (upd (upd (upd xN 0 (.slice ax x.length cx)) 2 yN) 3 (.slice (aa b1 0) x.length x.length)) 4 (yI k)∧(k≤x.length)∧m' =x.length - k∧St w w3 [.box b1 ((x.take k).map (Value.int .i64)++List.replicate (x.length - (k)) (yI 0)) 2] [sF false Fx ax cx x]) (x.length - 0) ⟨_,0,uE4,qf,rfl,H⟩ ?_
 clear H
 rintro m' ρ w4 ⟨xN,k,rfl,i0,rfl,H⟩
 refine zcc (sps [yI k,.slice ax x.length cx] (oN rfl (sp (.bool (decide ((k:Int) < x.length))) (zjn (cD rfl (fun h5=>?_) (fun h5=>?_))))))
 ·skip
  refine qV (t_n (xU (qY (xX (sps [.slice (aa b1 0) x.length x.length,yI k,.slice ax x.length cx,yI k] ?_)))))
  obtain ⟨b6,o7,rfl⟩:=H.addr 0 rfl qf
  refine oI rfl rfl (oL rfl (H.jy 0 rfl k qf qf) (oI rfl rfl (sw (yR H 0 rfl (yI (x[k]!)) sizeOf2 rfl rfl rfl (by simp only [List.length_append,List.length_replicate];have:((x.take k).map (Value.int .i64)).length=k:=(by (simp;omega));omega) fun w9 H=>?_))))
  rw [fill_set (k:=k) (by (simp;omega)) qm qf] at H
  replace H:St _ _ [.box b1 ((x.take k).map (Value.int .i64)++[yI (x[k]!)]++List.replicate (x.length - (k+1)) (yI 0)) 2] _:=H
  refine xY (b_n (t_n (xX (sp (yI k) (sw (zD k 1 rfl rfl qf (sp (yI (k+1)) (xY ?_))))))))
  rw [show (x.take k).map (Value.int .i64)++[yI (x[k]!)]=(x.take (k+1)).map (Value.int .i64) from by exact map_take_snoc _ qf] at H
  refine xg (m' :=x.length - (k+1)) qf ⟨_,k+1,uE4,?_,rfl,H⟩
  · omega
 refine zx4 (zcr (sps [.slice (aa b1 0) x.length x.length,.slice (aa b1 0) x.length x.length] (zjr (ret1 (.slice (aa b1 0) x.length x.length) rfl rfl ⟨_,rfl,?_,H.base⟩))))
 rw [List.take_of_length_le (by omega:x.length≤k)] at H
 rw [fill_end1 qf] at H
 replace H:=H.boxRow 0 rfl 1 x.length (by (first | omega | (simp;done) | (simp;omega))) qp
 exact H.newInts 0 rfl qf

theorem toBoolS_ok (w:World) (x:List Bool) {ax:yOA} {Fx:yLN} (hx:qP.rep w Fx [.slice ax x.length cx] x) (p0:tot x≤2000000):Calls Tryz.prog 61 #[.slice ax x.length cx] w (Ret (fun v w' =>OwnNew w w' 4 v x) w):=by
 refine en func61 ntmps61 ?_
 have H:=(St.start w).arg hx
 have nhx:=qN hx
 clear hx
 have p1:=len_tot x
 refine zcr (sp yN (zjc (sp (.slice ax x.length cx) (oN rfl (sw (o_make1 H underlying26 ti4 rfl x.length rfl rfl qf qf fun b1 w2 H=>?_))))))
 replace H:St _ _ [.box b1 (List.replicate x.length (.bool false)) 4] _:=H
 refine sp (.slice (aa b1 0) x.length x.length) (zjcc (sp (yI 0) (zjn (qY ?_))))
 refine zB (fun m' ρ w3=>∃ (xN:Env) (k:Nat),ρ=upd (upd (upd (upd xN 0 (.slice ax x.length cx)) 2 yN) 3 (.slice (aa b1 0) x.length x.length)) 4 (yI k)∧(k≤x.length)∧m' =x.length - k∧St w w3 [.box b1 ((x.take k).map (Value.bool)++List.replicate (x.length - (k)) (.bool false)) 4] [sF false Fx ax cx x]) (x.length - 0) ⟨_,0,uE4,qf,rfl,H⟩ ?_
 clear H
 rintro m' ρ w4 ⟨xN,k,rfl,i0,rfl,H⟩
 refine zcc (sps [yI k,.slice ax x.length cx] (oN rfl (sp (.bool (decide ((k:Int) < x.length))) (zjn (cD rfl (fun h5=>?_) (fun h5=>?_))))))
 ·skip
  refine qV (t_n (xU (qY (xX (sps [.slice (aa b1 0) x.length x.length,yI k,.slice ax x.length cx,yI k] ?_)))))
  obtain ⟨b6,o7,rfl⟩:=H.addr 0 rfl qf
  refine oI rfl rfl (oL rfl (H.Xp 0 rfl k qf qf) (oI rfl rfl (sw (yR H 0 rfl (.bool (x[k]!)) sizeOf4 rfl rfl rfl (by simp only [List.length_append,List.length_replicate];have:((x.take k).map (Value.bool)).length=k:=(by (simp;omega));omega) fun w9 H=>?_))))
  rw [fill_set (k:=k) (by (simp;omega)) qm qf] at H
  replace H:St _ _ [.box b1 ((x.take k).map (Value.bool)++[.bool (x[k]!)]++List.replicate (x.length - (k+1)) (.bool false)) 4] _:=H
  refine xY (b_n (t_n (xX (sp (yI k) (sw (zD k 1 rfl rfl qf (sp (yI (k+1)) (xY ?_))))))))
  rw [show (x.take k).map (Value.bool)++[.bool (x[k]!)]=(x.take (k+1)).map (Value.bool) from by exact map_take_snoc _ qf] at H
  refine xg (m' :=x.length - (k+1)) qf ⟨_,k+1,uE4,?_,rfl,H⟩
  · omega
 refine zx4 (zcr (sps [.slice (aa b1 0) x.length x.length,.slice (aa b1 0) x.length x.length] (zjr (ret1 (.slice (aa b1 0) x.length x.length) rfl rfl ⟨_,rfl,?_,H.base⟩))))
 rw [List.take_of_length_le (by omega:x.length≤k)] at H
 rw [fill_end1 qf] at H
 replace H:=H.boxRow 0 rfl 1 x.length (by (first | omega | (simp;done) | (simp;omega))) qp
 exact H.newBools 0 rfl qf

theorem toInt64SS_ok (w:World) (x:yLL) {ax:yOA} {Fx:yLN} (hx:qP.rep w Fx [.slice ax x.length cx] x) (p0:tot x≤2000000):Calls Tryz.prog 62 #[.slice ax x.length cx] w (Ret (fun v w' =>OwnNew w w' 22 v x) w):=by
 refine en func62 ntmps62 ?_
 have H:=(St.start w).arg hx
 have nhx:=qN hx
 clear hx
 have p1:=len_tot x
 refine zcr (sp yN (zjc (sp (.slice ax x.length cx) (oN rfl (sw (o_make1 H underlying27 ti22 rfl x.length rfl rfl qf qf fun b1 w2 H=>?_))))))
 replace H:St _ _ [.box b1 (List.replicate x.length yN) 22] _:=H
 refine sp (.slice (aa b1 0) x.length x.length) (zjcc (sp (yI 0) (zjn (qY ?_))))
 replace H:=H.vN (α:=yLI)
 refine zB (fun m' ρ w3=>∃ (xN:Env) (k:Nat) (xs3:List Value) (Fr3:yLN),ρ=upd (upd (upd (upd xN 0 (.slice ax x.length cx)) 2 yN) 3 (.slice (aa b1 0) x.length x.length)) 4 (yI k)∧(k≤x.length)∧(xs3.length=k * 1)∧(∀ b∈Fr3,w.heap.size≤b)∧(Fr3.Nodup)∧m' =x.length - k∧St w w3 [.box b1 (xs3++List.replicate (x.length - (k)) yN) 22] [zk true Fr3 xs3 (x.take k),sF false Fx ax cx x]) (x.length - 0) ⟨_,0,[],[],uE4,qf,(by rfl),qm,qm,rfl,H⟩ ?_
 clear H
 rintro m' ρ w4 ⟨xN,k,xs3,Fr3,rfl,i0,hl3,nf3,nd3,rfl,H⟩
 have p2:=fun h=>tot_get (l:=x) (k:=k) h
 refine zcc (sps [yI k,.slice ax x.length cx] (oN rfl (sp (.bool (decide ((k:Int) < x.length))) (zjn (cD rfl (fun h5=>?_) (fun h5=>?_))))))
 ·skip
  refine qV (t_n (xU (qY (xX (sps [.slice (aa b1 0) x.length x.length,yI k,.slice ax x.length cx,yI k] ?_)))))
  obtain ⟨b6,o7,rfl⟩:=H.addr 1 rfl qf
  obtain ⟨ae8,ce8,Fe8,H⟩:=H.vH 1 rfl k k qf qf qf
  refine oI rfl rfl (oL rfl (H.xR 1 rfl 0 rfl) ?_)
  have szx10:=H.base.size
  have lt11:=H.repsLt 2 rfl
  refine sw (oc (Q5 _ (x[k]!) (H.get 0 rfl).1 (by first | omega | (have:=p2 qf;omega))) ?_)
  rintro v12 w9 r12 x10
  obtain ⟨a12,c12,F12,rfl,f12,H⟩:=H.add_is x10 r12.isNew
  have d12:=f12.2
  have q12:=f12.1
  replace f12:∀ b∈F12,w.heap.size≤b:=fun b hb=>Nat.le_trans szx10 (f12.1 b hb)
  refine oI rfl rfl (sw (yR H 0 rfl (.slice a12 ((x[k]!).length) c12) sizeOf22 rfl rfl rfl (by simp only [List.length_append,List.length_replicate];have:(xs3).length=k:=(by (omega));omega) fun w14 H=>?_))
  rw [fill_set (k:=k) (by (omega)) qm qf] at H
  replace H:St _ _ [.box b1 (xs3++[.slice a12 ((x[k]!).length) c12]++List.replicate (x.length - (k+1)) yN) 22] _:=H
  refine xY (b_n (t_n (xX (sp (yI k) (sw (zD k 1 rfl rfl qf (sp (yI (k+1)) (xY ?_))))))))
  replace H:=H.yj 3 rfl 0 rfl
  rw [show (x.take k)++[(x[k]!)]=x.take (k+1) from by exact take_snoc qf] at H
  refine xg (m' :=x.length - (k+1)) qf ⟨_,k+1,(xs3++[.slice a12 ((x[k]!).length) c12]),(Fr3++F12),uE4,?_,?_,?_,?_,rfl,H.sel _ (.refl _) _ qm⟩
  · omega
  · first | (simp only [List.length_append,List.length_cons,List.length_nil];omega) | (simp [hl3];done) | (simp;omega)
  · exact QZ nf3 f12
  · exact QX nd3 d12 lt11 q12
 refine zx4 (zcr (sps [.slice (aa b1 0) x.length x.length,.slice (aa b1 0) x.length x.length] (zjr (ret1 (.slice (aa b1 0) x.length x.length) rfl rfl ⟨_,rfl,?_,H.base⟩))))
 rw [List.take_of_length_le (by omega:x.length≤k)] at H
 rw [fill_end1 qf] at H
 replace H:=H.boxRow 0 rfl 1 x.length qf qp
 exact H.newRow 0 rfl 0 rfl qf ql ql

theorem toInto_ok (w:World) (x:IntoD) {axBag:yOA} {FxBag:yLN} (hxBag:qP.rep w FxBag [.slice axBag x.jE.length cxBag] x.jE) (p0:tot x≤2000000):Calls Tryz.prog 172 #[.agg #[yI x.qG,.slice axBag x.jE.length cxBag]] w (Ret (fun v w' =>New_IntoD w w' v x) w):=by
 refine en func172 ntmps172 ?_
 have H:=(St.start w).arg hxBag
 have nhxBag:=qN hxBag
 clear hxBag
 have p1:=tot_IntoD x
 refine zcr (sw (o_box H (.agg #[yI x.qG,.slice axBag x.jE.length cxBag]) rfl fun b1 w2 H=>sw (o_alloc H ti164 fun b3 w4 H=>zjc (sw (o_alloc H ti164 fun b5 w6 H=>zjc (oF rfl (oL rfl (H.cell 2 rfl rfl) (oF rfl (sw (yR H 0 rfl (yI x.qG) sizeOf2 rfl rfl rfl (Nat.le_of_ble_eq_true rfl) fun w7 H=>?_))))))))))
 replace H:St _ _ [.box b5 [yI x.qG,yN] 164,.box b3 [yI 0,yN] 164,.box b1 [yI x.qG,.slice axBag x.jE.length cxBag] 190] _:=H
 refine zjc (oF rfl (oL rfl (H.cell 2 rfl rfl) ?_))
 have szx9:=H.base.size
 refine sw (oc (Q5 _ x.jE (H.get 0 rfl).1 (by first | omega | (have:=p2 qf;omega))) ?_)
 rintro v10 w8 r10 x9
 obtain ⟨a10,c10,F10,rfl,f10,H⟩:=H.add_is x9 r10.isNew
 have d10:=f10.2
 have q10:=f10.1
 replace f10:∀ b∈F10,w.heap.size≤b:=fun b hb=>Nat.le_trans szx9 (f10.1 b hb)
 refine oF rfl (sw (yR H 0 rfl (.slice a10 x.jE.length c10) sizeOf22 rfl rfl rfl (Nat.le_of_ble_eq_true rfl) fun w11 H=>?_))
 replace H:St _ _ [.box b5 [yI x.qG,.slice a10 x.jE.length c10] 164,.box b3 [yI 0,yN] 164,.box b1 [yI x.qG,.slice axBag x.jE.length cxBag] 190] _:=H
 refine zjc (sw (zl [yI x.qG,.slice a10 x.jE.length c10] isAgg164 sizeOf164 rfl (qF (H.cells 0 rfl) 0 2) (sw (o_store H 1 rfl (.agg #[yI x.qG,.slice a10 x.jE.length c10]) sizeOf164 rfl rfl (by simp [Value.oneCell',Value.cells]) (Nat.le_of_ble_eq_true rfl) fun w12 H=>?_))))
 replace H:St _ _ [.box b5 [yI x.qG,.slice a10 x.jE.length c10] 164,.box b3 [yI x.qG,.slice a10 x.jE.length c10] 164,.box b1 [yI x.qG,.slice axBag x.jE.length cxBag] 190] _:=H
 refine zjr (retC H 1 rfl rfl isAgg164 sizeOf164 rfl ⟨_,rfl,(⟨_,_,_,rfl,(H.get 0 rfl).1,f10,d10,((H.get 0 rfl).2 rfl)⟩),H.base⟩)

theorem toIntoS_ok (w:World) (x:List IntoD) {ax:yOA} {Fx:yLN} (hx:qP.rep w Fx [.slice ax x.length cx] x) (p0:tot x≤2000000):Calls Tryz.prog 137 #[.slice ax x.length cx] w (Ret (fun v w' =>OwnNew w w' 164 v x) w):=by
 refine en func137 ntmps137 ?_
 have H:=(St.start w).arg hx
 have nhx:=qN hx
 clear hx
 have p1:=len_tot x
 refine zcr (sp yN (zjc (sp (.slice ax x.length cx) (oN rfl (sw (o_makeN H underlying119 ti164 rfl qj x.length rfl rfl qf qf fun b1 w2 H=>?_))))))
 replace H:St _ _ [.box b1 ((List.replicate x.length [yI 0,yN]).flatten) 164] _:=H
 refine sp (.slice (aa b1 0) x.length x.length) (zjcc (sp (yI 0) (zjn (qY ?_))))
 replace H:=H.vN (α:=IntoD)
 refine zB (fun m' ρ w3=>∃ (xN:Env) (k:Nat) (xs3:List Value) (Fr3:yLN),ρ=upd (upd (upd (upd xN 0 (.slice ax x.length cx)) 2 yN) 3 (.slice (aa b1 0) x.length x.length)) 4 (yI k)∧(k≤x.length)∧(xs3.length=k * 2)∧(∀ b∈Fr3,w.heap.size≤b)∧(Fr3.Nodup)∧m' =x.length - k∧St w w3 [.box b1 (xs3++(List.replicate (x.length - (k)) [yI 0,yN]).flatten) 164] [zk true Fr3 xs3 (x.take k),sF false Fx ax cx x]) (x.length - 0) ⟨_,0,[],[],uE4,qf,(by rfl),qm,qm,rfl,H⟩ ?_
 clear H
 rintro m' ρ w4 ⟨xN,k,xs3,Fr3,rfl,i0,hl3,nf3,nd3,rfl,H⟩
 have p2:=fun h=>tot_get (l:=x) (k:=k) h
 refine zcc (sps [yI k,.slice ax x.length cx] (oN rfl (sp (.bool (decide ((k:Int) < x.length))) (zjn (cD rfl (fun h5=>?_) (fun h5=>?_))))))
 ·skip
  refine qV (t_n (xU (qY (xX (sps [.slice (aa b1 0) x.length x.length,yI k,.slice ax x.length cx,yI k] ?_)))))
  obtain ⟨b6,o7,rfl⟩:=H.addr 1 rfl qf
  obtain ⟨ae8Bag,ce8Bag,Fe8Bag,H⟩:=H.jJ 1 rfl k k qf qf qf
  refine oI rfl rfl (sw (zl [yI ((x[k]!).qG),.slice ae8Bag (((x[k]!).jE).length) ce8Bag] isAgg190 sizeOf190 rfl (qF (H.get 1 rfl) 0 2) ?_))
  have szx10:=H.base.size
  have lt11:=H.repsLt 2 rfl
  refine sw (oc (toInto_ok _ (x[k]!) (H.get 0 rfl).1 qf) ?_)
  rintro v12 w9 r12 x10
  obtain ⟨a12Bag,c12Bag,F12Bag,rfl,f12,H⟩:=H.add_IntoD x10 r12
  have d12:=f12.2
  have q12:=f12.1
  replace f12:∀ b∈F12Bag,w.heap.size≤b:=fun b hb=>Nat.le_trans szx10 (f12.1 b hb)
  refine oI rfl rfl (sw (o_store H 0 rfl (.agg #[yI ((x[k]!).qG),.slice a12Bag (((x[k]!).jE).length) c12Bag]) sizeOf164 rfl rfl (by simp [Value.oneCell',Value.cells]) (by have:(xs3).length=k * 2:=(by (exact hl3));simp [Value.cells];have:=fill_room (n:=x.length) (k:=k) (s:=2) qf;simp at this;omega) fun w14 H=>?_))
  replace H:St _ _ [.box b1 (xs3++[yI ((x[k]!).qG),.slice a12Bag (((x[k]!).jE).length) c12Bag]++(List.replicate (x.length - (k+1)) [yI 0,yN]).flatten) 164] _:=(fill_put (vs:=[yI ((x[k]!).qG),.slice a12Bag (((x[k]!).jE).length) c12Bag]) (zs:=[yI 0,yN]) (off:=0+(k:Int).toNat * 2) (xs:=xs3) (k:=k) (s:=2) (n:=x.length) (by (exact hl3)) qm rfl rfl qf)▸H
  replace H:St _ _ [.box b1 (xs3++[yI ((x[k]!).qG),.slice a12Bag (((x[k]!).jE).length) c12Bag]++(List.replicate (x.length - (k+1)) [yI 0,yN]).flatten) 164] _:=H
  refine xY (b_n (t_n (xX (sp (yI k) (sw (zD k 1 rfl rfl qf (sp (yI (k+1)) (xY ?_))))))))
  replace H:=H.snoc_IntoD 3 rfl ((x[k]!).qG) 0 rfl
  rw [show (x.take k)++[⟨(x[k]!).qG,(x[k]!).jE⟩]=x.take (k+1) from by exact take_snoc qf] at H
  refine xg (m' :=x.length - (k+1)) qf ⟨_,k+1,(xs3++[yI ((x[k]!).qG),.slice a12Bag (((x[k]!).jE).length) c12Bag]),(Fr3++F12Bag),uE4,?_,?_,?_,?_,rfl,H.sel _ (.refl _) _ qm⟩
  · omega
  · first | (simp only [List.length_append,List.length_cons,List.length_nil];omega) | (simp [hl3];done) | (simp;omega)
  · exact QZ nf3 f12
  · exact QX nd3 d12 lt11 q12
 refine zx4 (zcr (sps [.slice (aa b1 0) x.length x.length,.slice (aa b1 0) x.length x.length] (zjr (ret1 (.slice (aa b1 0) x.length x.length) rfl rfl ⟨_,rfl,?_,H.base⟩))))
 rw [List.take_of_length_le (by omega:x.length≤k)] at H
 rw [fill_endN qf] at H
 replace H:=H.boxRow 0 rfl 2 x.length qf qp
 exact H.newRow 0 rfl 0 rfl qf ql ql

theorem toRule_ok (w:World) (x:QF) {Ve:yOA} {FxNeed:yLN} {Vj:yOA} {FxHave:yLN} {Vf:yOA} {FxLack:yLN} {Vh:yOA} {FxHere:yLN} {axOut:yOA} {FxOut:yLN} {Vg:yOA} {FxInto:yLN} (hxNeed:qP.rep w FxNeed [.slice Ve x.xE.length X7] x.xE) (hxHave:qP.rep w FxHave [.slice Vj x.xM.length Vb] x.xM) (hxLack:qP.rep w FxLack [.slice Vf x.xO.length X8] x.xO) (hxHere:qP.rep w FxHere [.slice Vh x.xW.length Va] x.xW) (hxOut:qP.rep w FxOut [.slice axOut x.vC.length cxOut] x.vC) (hxInto:qP.rep w FxInto [.slice Vg x.qU.length X9] x.qU) (p0:tot x≤2000000):Calls Tryz.prog 103 #[.agg #[yI x.qG,yI x.zM,.slice Ve x.xE.length X7,.slice Vj x.xM.length Vb,.slice Vf x.xO.length X8,.slice Vh x.xW.length Va,.slice axOut x.vC.length cxOut,.slice Vg x.qU.length X9,.bool x.zG]] w (Ret (fun v w' =>New_RuleD w w' v x) w):=by
 refine en func103 ntmps103 ?_
 have H:=((((((St.start w).arg hxInto).arg hxOut).arg hxHere).arg hxLack).arg hxHave).arg hxNeed
 have nhxNeed:=qN hxNeed
 have nhxHave:=qN hxHave
 have nhxLack:=qN hxLack
 have nhxHere:=qN hxHere
 have nhxOut:=qN hxOut
 have nhxInto:=qN hxInto
 clear hxNeed hxHave hxLack hxHere hxOut hxInto
 have p1:=tot_RuleD x
 refine zcr (sw (o_box H (.agg #[yI x.qG,yI x.zM,.slice Ve x.xE.length X7,.slice Vj x.xM.length Vb,.slice Vf x.xO.length X8,.slice Vh x.xW.length Va,.slice axOut x.vC.length cxOut,.slice Vg x.qU.length X9,.bool x.zG]) rfl fun b1 w2 H=>sw (o_alloc H ti121 fun b3 w4 H=>zjc (sw (o_alloc H ti121 fun b5 w6 H=>zjc (oF rfl (oL rfl (H.cell 2 rfl rfl) (oF rfl (sw (yR H 0 rfl (yI x.qG) sizeOf2 rfl rfl rfl (Nat.le_of_ble_eq_true rfl) fun w7 H=>zjc (oF rfl (oL rfl (H.cell 2 rfl rfl) (oF rfl ?_)))))))))))))
 refine sw (yR H 0 rfl (yI x.zM) sizeOf2 rfl rfl rfl (Nat.le_of_ble_eq_true rfl) fun w8 H=>?_)
 replace H:St _ _ [.box b5 [yI x.qG,yI x.zM,yN,yN,yN,yN,yN,yN,.bool false] 121,.box b3 [yI 0,yI 0,yN,yN,yN,yN,yN,yN,.bool false] 121,.box b1 [yI x.qG,yI x.zM,.slice Ve x.xE.length X7,.slice Vj x.xM.length Vb,.slice Vf x.xO.length X8,.slice Vh x.xW.length Va,.slice axOut x.vC.length cxOut,.slice Vg x.qU.length X9,.bool x.zG] 111] _:=H
 refine zjc (oF rfl (oL rfl (H.cell 2 rfl rfl) ?_))
 have szx10:=H.base.size
 refine sw (oc (Q5 _ x.xE (H.get 0 rfl).1 (by first | omega | (have:=p2 qf;omega))) ?_)
 rintro v11 w9 r11 x10
 obtain ⟨a11,c11,F11,rfl,f11,H⟩:=H.add_is x10 r11.isNew
 have d11:=f11.2
 have q11:=f11.1
 replace f11:∀ b∈F11,w.heap.size≤b:=fun b hb=>Nat.le_trans szx10 (f11.1 b hb)
 refine oF rfl (sw (yR H 0 rfl (.slice a11 x.xE.length c11) sizeOf22 rfl rfl rfl (Nat.le_of_ble_eq_true rfl) fun w12 H=>?_))
 replace H:St _ _ [.box b5 [yI x.qG,yI x.zM,.slice a11 x.xE.length c11,yN,yN,yN,yN,yN,.bool false] 121,.box b3 [yI 0,yI 0,yN,yN,yN,yN,yN,yN,.bool false] 121,.box b1 [yI x.qG,yI x.zM,.slice Ve x.xE.length X7,.slice Vj x.xM.length Vb,.slice Vf x.xO.length X8,.slice Vh x.xW.length Va,.slice axOut x.vC.length cxOut,.slice Vg x.qU.length X9,.bool x.zG] 111] _:=H
 refine zjc (oF rfl (oL rfl (H.cell 2 rfl rfl) ?_))
 have szx14:=H.base.size
 have lt15:=H.isLt 0 rfl
 refine sw (oc (Q5 _ x.xM (H.get 2 rfl).1 (by first | omega | (have:=p2 qf;omega))) ?_)
 rintro v16 w13 r16 x14
 obtain ⟨a16,c16,F16,rfl,f16,H⟩:=H.add_is x14 r16.isNew
 have d16:=f16.2
 have q16:=f16.1
 replace f16:∀ b∈F16,w.heap.size≤b:=fun b hb=>Nat.le_trans szx14 (f16.1 b hb)
 refine oF rfl (sw (yR H 0 rfl (.slice a16 x.xM.length c16) sizeOf22 rfl rfl rfl (Nat.le_of_ble_eq_true rfl) fun w17 H=>?_))
 replace H:St _ _ [.box b5 [yI x.qG,yI x.zM,.slice a11 x.xE.length c11,.slice a16 x.xM.length c16,yN,yN,yN,yN,.bool false] 121,.box b3 [yI 0,yI 0,yN,yN,yN,yN,yN,yN,.bool false] 121,.box b1 [yI x.qG,yI x.zM,.slice Ve x.xE.length X7,.slice Vj x.xM.length Vb,.slice Vf x.xO.length X8,.slice Vh x.xW.length Va,.slice axOut x.vC.length cxOut,.slice Vg x.qU.length X9,.bool x.zG] 111] _:=H
 refine zjc (oF rfl (oL rfl (H.cell 2 rfl rfl) ?_))
 have szx19:=H.base.size
 have lt20:=H.isLt 0 rfl
 have lt21:=H.isLt 1 rfl
 refine sw (oc (Q5 _ x.xO (H.get 4 rfl).1 (by first | omega | (have:=p2 qf;omega))) ?_)
 rintro v22 w18 r22 x19
 obtain ⟨a22,c22,F22,rfl,f22,H⟩:=H.add_is x19 r22.isNew
 have d22:=f22.2
 have q22:=f22.1
 replace f22:∀ b∈F22,w.heap.size≤b:=fun b hb=>Nat.le_trans szx19 (f22.1 b hb)
 refine oF rfl (sw (yR H 0 rfl (.slice a22 x.xO.length c22) sizeOf22 rfl rfl rfl (Nat.le_of_ble_eq_true rfl) fun w23 H=>?_))
 replace H:St _ _ [.box b5 [yI x.qG,yI x.zM,.slice a11 x.xE.length c11,.slice a16 x.xM.length c16,.slice a22 x.xO.length c22,yN,yN,yN,.bool false] 121,.box b3 [yI 0,yI 0,yN,yN,yN,yN,yN,yN,.bool false] 121,.box b1 [yI x.qG,yI x.zM,.slice Ve x.xE.length X7,.slice Vj x.xM.length Vb,.slice Vf x.xO.length X8,.slice Vh x.xW.length Va,.slice axOut x.vC.length cxOut,.slice Vg x.qU.length X9,.bool x.zG] 111] _:=H
 refine zjc (oF rfl (oL rfl (H.cell 2 rfl rfl) ?_))
 have szx25:=H.base.size
 have lt26:=H.isLt 0 rfl
 have lt27:=H.isLt 1 rfl
 have lt28:=H.isLt 2 rfl
 refine sw (oc (Q5 _ x.xW (H.get 6 rfl).1 (by first | omega | (have:=p2 qf;omega))) ?_)
 rintro v29 w24 r29 x25
 obtain ⟨a29,c29,F29,rfl,f29,H⟩:=H.add_is x25 r29.isNew
 have d29:=f29.2
 have q29:=f29.1
 replace f29:∀ b∈F29,w.heap.size≤b:=fun b hb=>Nat.le_trans szx25 (f29.1 b hb)
 refine oF rfl (sw (yR H 0 rfl (.slice a29 x.xW.length c29) sizeOf22 rfl rfl rfl (Nat.le_of_ble_eq_true rfl) fun w30 H=>?_))
 replace H:St _ _ [.box b5 [yI x.qG,yI x.zM,.slice a11 x.xE.length c11,.slice a16 x.xM.length c16,.slice a22 x.xO.length c22,.slice a29 x.xW.length c29,yN,yN,.bool false] 121,.box b3 [yI 0,yI 0,yN,yN,yN,yN,yN,yN,.bool false] 121,.box b1 [yI x.qG,yI x.zM,.slice Ve x.xE.length X7,.slice Vj x.xM.length Vb,.slice Vf x.xO.length X8,.slice Vh x.xW.length Va,.slice axOut x.vC.length cxOut,.slice Vg x.qU.length X9,.bool x.zG] 111] _:=H
 refine zjc (oF rfl (oL rfl (H.cell 2 rfl rfl) ?_))
 have szx32:=H.base.size
 have lt33:=H.isLt 0 rfl
 have lt34:=H.isLt 1 rfl
 have lt35:=H.isLt 2 rfl
 have lt36:=H.isLt 3 rfl
 refine sw (oc (Q5 _ x.vC (H.get 8 rfl).1 (by first | omega | (have:=p2 qf;omega))) ?_)
 rintro v37 w31 r37 x32
 obtain ⟨a37,c37,F37,rfl,f37,H⟩:=H.add_is x32 r37.isNew
 have d37:=f37.2
 have q37:=f37.1
 replace f37:∀ b∈F37,w.heap.size≤b:=fun b hb=>Nat.le_trans szx32 (f37.1 b hb)
 refine oF rfl (sw (yR H 0 rfl (.slice a37 x.vC.length c37) sizeOf22 rfl rfl rfl (Nat.le_of_ble_eq_true rfl) fun w38 H=>?_))
 replace H:St _ _ [.box b5 [yI x.qG,yI x.zM,.slice a11 x.xE.length c11,.slice a16 x.xM.length c16,.slice a22 x.xO.length c22,.slice a29 x.xW.length c29,.slice a37 x.vC.length c37,yN,.bool false] 121,.box b3 [yI 0,yI 0,yN,yN,yN,yN,yN,yN,.bool false] 121,.box b1 [yI x.qG,yI x.zM,.slice Ve x.xE.length X7,.slice Vj x.xM.length Vb,.slice Vf x.xO.length X8,.slice Vh x.xW.length Va,.slice axOut x.vC.length cxOut,.slice Vg x.qU.length X9,.bool x.zG] 111] _:=H
 refine zjc (oF rfl (oL rfl (H.cell 2 rfl rfl) ?_))
 have szx40:=H.base.size
 have lt41:=H.isLt 0 rfl
 have lt42:=H.isLt 1 rfl
 have lt43:=H.isLt 2 rfl
 have lt44:=H.isLt 3 rfl
 have lt45:=H.isLt 4 rfl
 refine sw (oc (toIntoS_ok _ x.qU (H.get 10 rfl).1 (by first | omega | (have:=p2 qf;omega))) ?_)
 rintro v46 w39 r46 x40
 obtain ⟨a46,c46,F46,rfl,f46,H⟩:=H.add_is x40 r46.isNew
 have d46:=f46.2
 have q46:=f46.1
 replace f46:∀ b∈F46,w.heap.size≤b:=fun b hb=>Nat.le_trans szx40 (f46.1 b hb)
 refine oF rfl (sw (yR H 0 rfl (.slice a46 x.qU.length c46) sizeOf119 rfl rfl rfl (Nat.le_of_ble_eq_true rfl) fun w47 H=>zjc (oF rfl (oL rfl (H.cell 2 rfl rfl) (oF rfl (sw (yR H 0 rfl (.bool x.zG) sizeOf4 rfl rfl rfl (Nat.le_of_ble_eq_true rfl) fun w48 H=>?_)))))))
 replace H:St _ _ [.box b5 [yI x.qG,yI x.zM,.slice a11 x.xE.length c11,.slice a16 x.xM.length c16,.slice a22 x.xO.length c22,.slice a29 x.xW.length c29,.slice a37 x.vC.length c37,.slice a46 x.qU.length c46,.bool x.zG] 121,.box b3 [yI 0,yI 0,yN,yN,yN,yN,yN,yN,.bool false] 121,.box b1 [yI x.qG,yI x.zM,.slice Ve x.xE.length X7,.slice Vj x.xM.length Vb,.slice Vf x.xO.length X8,.slice Vh x.xW.length Va,.slice axOut x.vC.length cxOut,.slice Vg x.qU.length X9,.bool x.zG] 111] _:=H
 refine zjc (sw (zl [yI x.qG,yI x.zM,.slice a11 x.xE.length c11,.slice a16 x.xM.length c16,.slice a22 x.xO.length c22,.slice a29 x.xW.length c29,.slice a37 x.vC.length c37,.slice a46 x.qU.length c46,.bool x.zG] isAgg121 sizeOf121 rfl (qF (H.cells 0 rfl) 0 9) ?_))
 refine sw (o_store H 1 rfl (.agg #[yI x.qG,yI x.zM,.slice a11 x.xE.length c11,.slice a16 x.xM.length c16,.slice a22 x.xO.length c22,.slice a29 x.xW.length c29,.slice a37 x.vC.length c37,.slice a46 x.qU.length c46,.bool x.zG]) sizeOf121 rfl rfl (by simp [Value.oneCell',Value.cells]) (Nat.le_of_ble_eq_true rfl) fun w49 H=>?_)
 replace H:St _ _ [.box b5 [yI x.qG,yI x.zM,.slice a11 x.xE.length c11,.slice a16 x.xM.length c16,.slice a22 x.xO.length c22,.slice a29 x.xW.length c29,.slice a37 x.vC.length c37,.slice a46 x.qU.length c46,.bool x.zG] 121,.box b3 [yI x.qG,yI x.zM,.slice a11 x.xE.length c11,.slice a16 x.xM.length c16,.slice a22 x.xO.length c22,.slice a29 x.xW.length c29,.slice a37 x.vC.length c37,.slice a46 x.qU.length c46,.bool x.zG] 121,.box b1 [yI x.qG,yI x.zM,.slice Ve x.xE.length X7,.slice Vj x.xM.length Vb,.slice Vf x.xO.length X8,.slice Vh x.xW.length Va,.slice axOut x.vC.length cxOut,.slice Vg x.qU.length X9,.bool x.zG] 111] _:=H
 refine zjr (retC H 1 rfl rfl isAgg121 sizeOf121 rfl ⟨_,rfl,?_,H.base⟩)
 exact ⟨_,_,_,_,_,_,_,_,_,_,_,_,_,_,_,_,_,_,rfl,(H.get 5 rfl).1,(H.get 4 rfl).1,(H.get 3 rfl).1,(H.get 2 rfl).1,(H.get 1 rfl).1,(H.get 0 rfl).1,(QZ (QZ (QZ (QZ (QZ f11 f16) f22) f29) f37) f46),(QX (QX (QX (QX (QX d11 d16 lt15 q16) d22 (all_app lt21 lt20) q22) d29 (all_app (all_app lt28 lt27) lt26) q29) d37 (all_app (all_app (all_app lt36 lt35) lt34) lt33) q37) d46 (all_app (all_app (all_app (all_app lt45 lt44) lt43) lt42) lt41) q46),(((((((H.get 5 rfl).2 rfl).app ((H.get 4 rfl).2 rfl)).app ((H.get 3 rfl).2 rfl)).app ((H.get 2 rfl).2 rfl)).app ((H.get 1 rfl).2 rfl)).app ((H.get 0 rfl).2 rfl))⟩

theorem toRuleS_ok (w:World) (x:List QF) {ax:yOA} {Fx:yLN} (hx:qP.rep w Fx [.slice ax x.length cx] x) (p0:tot x≤2000000):Calls Tryz.prog 60 #[.slice ax x.length cx] w (Ret (fun v w' =>OwnNew w w' 121 v x) w):=by
 refine en func60 ntmps60 ?_
 have H:=(St.start w).arg hx
 have nhx:=qN hx
 clear hx
 have p1:=len_tot x
 refine zcr (sp yN (zjc (sp (.slice ax x.length cx) (oN rfl (sw (o_makeN H underlying34 ti121 rfl qj x.length rfl rfl qf qf fun b1 w2 H=>?_))))))
 replace H:St _ _ [.box b1 ((List.replicate x.length [yI 0,yI 0,yN,yN,yN,yN,yN,yN,.bool false]).flatten) 121] _:=H
 refine sp (.slice (aa b1 0) x.length x.length) (zjcc (sp (yI 0) (zjn (qY ?_))))
 replace H:=H.vN (α:=QF)
 refine zB (fun m' ρ w3=>∃ (xN:Env) (k:Nat) (xs3:List Value) (Fr3:yLN),ρ=upd (upd (upd (upd xN 0 (.slice ax x.length cx)) 2 yN) 3 (.slice (aa b1 0) x.length x.length)) 4 (yI k)∧(k≤x.length)∧(xs3.length=k * 9)∧(∀ b∈Fr3,w.heap.size≤b)∧(Fr3.Nodup)∧m' =x.length - k∧St w w3 [.box b1 (xs3++(List.replicate (x.length - (k)) [yI 0,yI 0,yN,yN,yN,yN,yN,yN,.bool false]).flatten) 121] [zk true Fr3 xs3 (x.take k),sF false Fx ax cx x]) (x.length - 0) ⟨_,0,[],[],uE4,qf,(by rfl),qm,qm,rfl,H⟩ ?_
 clear H
 rintro m' ρ w4 ⟨xN,k,xs3,Fr3,rfl,i0,hl3,nf3,nd3,rfl,H⟩
 have p2:=fun h=>tot_get (l:=x) (k:=k) h
 refine zcc (sps [yI k,.slice ax x.length cx] (oN rfl (sp (.bool (decide ((k:Int) < x.length))) (zjn (cD rfl (fun h5=>?_) (fun h5=>?_))))))
 ·skip
  refine qV (t_n (xU (qY (xX (sps [.slice (aa b1 0) x.length x.length,yI k,.slice ax x.length cx,yI k] ?_)))))
  obtain ⟨b6,o7,rfl⟩:=H.addr 1 rfl qf
  obtain ⟨ae8Need,ce8Need,Fe8Need,ae8Have,ce8Have,Fe8Have,ae8Lack,ce8Lack,Fe8Lack,ae8Here,ce8Here,Fe8Here,ae8Out,ce8Out,Fe8Out,ae8Into,ce8Into,Fe8Into,H⟩:=H.yc 1 rfl k k qf qf qf
  refine oI rfl rfl (sw (zl [yI ((x[k]!).qG),yI ((x[k]!).zM),.slice ae8Need (((x[k]!).xE).length) ce8Need,.slice ae8Have (((x[k]!).xM).length) ce8Have,.slice ae8Lack (((x[k]!).xO).length) ce8Lack,.slice ae8Here (((x[k]!).xW).length) ce8Here,.slice ae8Out (((x[k]!).vC).length) ce8Out,.slice ae8Into (((x[k]!).qU).length) ce8Into,.bool ((x[k]!).zG)] isAgg111 sizeOf111 rfl (qF (H.get 6 rfl) 0 9) ?_))
  have szx10:=H.base.size
  have lt11:=H.repsLt 7 rfl
  refine sw (oc (toRule_ok _ (x[k]!) (H.get 0 rfl).1 (H.get 1 rfl).1 (H.get 2 rfl).1 (H.get 3 rfl).1 (H.get 4 rfl).1 (H.get 5 rfl).1 qf) ?_)
  rintro v12 w9 r12 x10
  obtain ⟨a12Need,c12Need,F12Need,a12Have,c12Have,F12Have,a12Lack,c12Lack,F12Lack,a12Here,c12Here,F12Here,a12Out,c12Out,F12Out,a12Into,c12Into,F12Into,rfl,f12,H⟩:=H.add_RuleD x10 r12
  have d12:=f12.2
  have q12:=f12.1
  replace f12:∀ b∈(F12Need++F12Have++F12Lack++F12Here++F12Out++F12Into),w.heap.size≤b:=fun b hb=>Nat.le_trans szx10 (f12.1 b hb)
  refine oI rfl rfl (sw (o_store H 0 rfl (.agg #[yI ((x[k]!).qG),yI ((x[k]!).zM),.slice a12Need (((x[k]!).xE).length) c12Need,.slice a12Have (((x[k]!).xM).length) c12Have,.slice a12Lack (((x[k]!).xO).length) c12Lack,.slice a12Here (((x[k]!).xW).length) c12Here,.slice a12Out (((x[k]!).vC).length) c12Out,.slice a12Into (((x[k]!).qU).length) c12Into,.bool ((x[k]!).zG)]) sizeOf121 rfl rfl (by simp [Value.oneCell',Value.cells]) (by have:(xs3).length=k * 9:=(by (exact hl3));simp [Value.cells];have:=fill_room (n:=x.length) (k:=k) (s:=9) qf;simp at this;omega) fun w14 H=>?_))
  replace H:St _ _ [.box b1 (xs3++[yI ((x[k]!).qG),yI ((x[k]!).zM),.slice a12Need (((x[k]!).xE).length) c12Need,.slice a12Have (((x[k]!).xM).length) c12Have,.slice a12Lack (((x[k]!).xO).length) c12Lack,.slice a12Here (((x[k]!).xW).length) c12Here,.slice a12Out (((x[k]!).vC).length) c12Out,.slice a12Into (((x[k]!).qU).length) c12Into,.bool ((x[k]!).zG)]++(List.replicate (x.length - (k+1)) [yI 0,yI 0,yN,yN,yN,yN,yN,yN,.bool false]).flatten) 121] _:=(fill_put (vs:=[yI ((x[k]!).qG),yI ((x[k]!).zM),.slice a12Need (((x[k]!).xE).length) c12Need,.slice a12Have (((x[k]!).xM).length) c12Have,.slice a12Lack (((x[k]!).xO).length) c12Lack,.slice a12Here (((x[k]!).xW).length) c12Here,.slice a12Out (((x[k]!).vC).length) c12Out,.slice a12Into (((x[k]!).qU).length) c12Into,.bool ((x[k]!).zG)]) (zs:=[yI 0,yI 0,yN,yN,yN,yN,yN,yN,.bool false]) (off:=0+(k:Int).toNat * 9) (xs:=xs3) (k:=k) (s:=9) (n:=x.length) (by (exact hl3)) qm rfl rfl qf)▸H
  replace H:St _ _ [.box b1 (xs3++[yI ((x[k]!).qG),yI ((x[k]!).zM),.slice a12Need (((x[k]!).xE).length) c12Need,.slice a12Have (((x[k]!).xM).length) c12Have,.slice a12Lack (((x[k]!).xO).length) c12Lack,.slice a12Here (((x[k]!).xW).length) c12Here,.slice a12Out (((x[k]!).vC).length) c12Out,.slice a12Into (((x[k]!).qU).length) c12Into,.bool ((x[k]!).zG)]++(List.replicate (x.length - (k+1)) [yI 0,yI 0,yN,yN,yN,yN,yN,yN,.bool false]).flatten) 121] _:=H
  refine xY (b_n (t_n (xX (sp (yI k) (sw (zD k 1 rfl rfl qf (sp (yI (k+1)) (xY ?_))))))))
  replace H:=H.snoc_RuleD 13 rfl ((x[k]!).qG) ((x[k]!).zM) 0 rfl 1 rfl 2 rfl 3 rfl 4 rfl 5 rfl ((x[k]!).zG)
  rw [show (x.take k)++[⟨(x[k]!).qG,(x[k]!).zM,(x[k]!).xE,(x[k]!).xM,(x[k]!).xO,(x[k]!).xW,(x[k]!).vC,(x[k]!).qU,(x[k]!).zG⟩]=x.take (k+1) from by exact take_snoc qf] at H
  refine xg (m' :=x.length - (k+1)) qf ⟨_,k+1,(xs3++[yI ((x[k]!).qG),yI ((x[k]!).zM),.slice a12Need (((x[k]!).xE).length) c12Need,.slice a12Have (((x[k]!).xM).length) c12Have,.slice a12Lack (((x[k]!).xO).length) c12Lack,.slice a12Here (((x[k]!).xW).length) c12Here,.slice a12Out (((x[k]!).vC).length) c12Out,.slice a12Into (((x[k]!).qU).length) c12Into,.bool ((x[k]!).zG)]),(Fr3++(F12Need++F12Have++F12Lack++F12Here++F12Out++F12Into)),uE4,?_,?_,?_,?_,rfl,H.sel _ (.refl _) _ qm⟩
  · omega
  · first | (simp only [List.length_append,List.length_cons,List.length_nil];omega) | (simp [hl3];done) | (simp;omega)
  · exact QZ nf3 f12
  · exact QX nd3 d12 lt11 q12
 refine zx4 (zcr (sps [.slice (aa b1 0) x.length x.length,.slice (aa b1 0) x.length x.length] (zjr (ret1 (.slice (aa b1 0) x.length x.length) rfl rfl ⟨_,rfl,?_,H.base⟩))))
 rw [List.take_of_length_le (by omega:x.length≤k)] at H
 rw [fill_endN qf] at H
 replace H:=H.boxRow 0 rfl 9 x.length qf qp
 exact H.newRow 0 rfl 0 rfl qf ql ql

theorem toSystem_ok (w:World) (x:qL) {Qi:yOA} {FxParents:yLN} {XF:yOA} {FxRules:yLN} (XC:qP.rep w FxParents [.slice Qi x.qw.length Qh] x.qw) (hxRules:qP.rep w FxRules [.slice XF x.qx.length XD] x.qx) (p0:tot x≤2000000):Calls Tryz.prog 17 #[.agg #[yI x.xB,.slice Qi x.qw.length Qh,.slice XF x.qx.length XD]] w (Ret (fun v w' =>New_SystemD w w' v x) w):=by
 refine en func17 ntmps17 ?_
 have H:=((St.start w).arg hxRules).arg XC
 have nhxParents:=qN XC
 have nhxRules:=qN hxRules
 clear XC hxRules
 have p1:=tot_SystemD x
 refine zcr (sw (o_box H (.agg #[yI x.xB,.slice Qi x.qw.length Qh,.slice XF x.qx.length XD]) rfl fun b1 w2 H=>sw (o_alloc H ti36 fun b3 w4 H=>zjc (sw (o_alloc H ti36 fun b5 w6 H=>zjc (oF rfl (oL rfl (H.cell 2 rfl rfl) (oF rfl (sw (yR H 0 rfl (yI x.xB) sizeOf2 rfl rfl rfl (Nat.le_of_ble_eq_true rfl) fun w7 H=>?_))))))))))
 replace H:St _ _ [.box b5 [yI x.xB,yN,yN] 36,.box b3 [yI 0,yN,yN] 36,.box b1 (yS x Qi Qh XF XD) 25] _:=H
 refine zjc (oF rfl (oL rfl (H.cell 2 rfl rfl) ?_))
 have szx9:=H.base.size
 refine sw (oc (Q5 _ x.qw (H.get 0 rfl).1 (by first | omega | (have:=p2 qf;omega))) ?_)
 rintro v10 w8 r10 x9
 obtain ⟨a10,c10,F10,rfl,f10,H⟩:=H.add_is x9 r10.isNew
 have d10:=f10.2
 have q10:=f10.1
 replace f10:∀ b∈F10,w.heap.size≤b:=fun b hb=>Nat.le_trans szx9 (f10.1 b hb)
 refine oF rfl (sw (yR H 0 rfl (.slice a10 x.qw.length c10) sizeOf22 rfl rfl rfl (Nat.le_of_ble_eq_true rfl) fun w11 H=>?_))
 replace H:St _ _ [.box b5 [yI x.xB,.slice a10 x.qw.length c10,yN] 36,.box b3 [yI 0,yN,yN] 36,.box b1 (yS x Qi Qh XF XD) 25] _:=H
 refine zjc (oF rfl (oL rfl (H.cell 2 rfl rfl) ?_))
 have szx13:=H.base.size
 have lt14:=H.isLt 0 rfl
 refine sw (oc (toRuleS_ok _ x.qx (H.get 2 rfl).1 (by first | omega | (have:=p2 qf;omega))) ?_)
 rintro v15 w12 r15 x13
 obtain ⟨a15,c15,F15,rfl,f15,H⟩:=H.add_is x13 r15.isNew
 have d15:=f15.2
 have q15:=f15.1
 replace f15:∀ b∈F15,w.heap.size≤b:=fun b hb=>Nat.le_trans szx13 (f15.1 b hb)
 refine oF rfl (sw (yR H 0 rfl (.slice a15 x.qx.length c15) sizeOf34 rfl rfl rfl (Nat.le_of_ble_eq_true rfl) fun w16 H=>?_))
 replace H:St _ _ [.box b5 (yS x a10 c10 a15 c15) 36,.box b3 [yI 0,yN,yN] 36,.box b1 (yS x Qi Qh XF XD) 25] _:=H
 refine zjc (sw (zl (yS x a10 c10 a15 c15) isAgg36 sizeOf36 rfl (qF (H.cells 0 rfl) 0 3) (sw (o_store H 1 rfl (.agg #[yI x.xB,.slice a10 x.qw.length c10,.slice a15 x.qx.length c15]) sizeOf36 rfl rfl (by simp [Value.oneCell',Value.cells]) (Nat.le_of_ble_eq_true rfl) fun w17 H=>?_))))
 replace H:St _ _ [.box b5 (yS x a10 c10 a15 c15) 36,.box b3 (yS x a10 c10 a15 c15) 36,.box b1 (yS x Qi Qh XF XD) 25] _:=H
 refine zjr (retC H 1 rfl rfl isAgg36 sizeOf36 rfl ⟨_,rfl,(⟨_,_,_,_,_,_,rfl,(H.get 1 rfl).1,(H.get 0 rfl).1,(QZ f10 f15),(QX d10 d15 lt14 q15),(((H.get 1 rfl).2 rfl).app ((H.get 0 rfl).2 rfl))⟩),H.base⟩)

theorem toState_ok (w:World) (x:qM) {Xn:yOA} {FxAlive:yLN} {axBags:yOA} {FxBags:yLN} {QD:yOA} {FxAround:yLN} (hxAlive:qP.rep w FxAlive [.slice Xn x.qB.length Xm] x.qB) (hxBags:qP.rep w FxBags [.slice axBags x.qE.length cxBags] x.qE) (hxAround:qP.rep w FxAround [.slice QD x.qC.length QC] x.qC) (p0:tot x≤2000000):Calls Tryz.prog 18 #[.agg #[.slice Xn x.qB.length Xm,.slice axBags x.qE.length cxBags,.slice QD x.qC.length QC]] w (Ret (fun v w' =>New_StateD w w' v x) w):=by
 refine en func18 ntmps18 ?_
 have H:=(((St.start w).arg hxAround).arg hxBags).arg hxAlive
 have nhxAlive:=qN hxAlive
 have nhxBags:=qN hxBags
 have nhxAround:=qN hxAround
 clear hxAlive hxBags hxAround
 have p1:=tot_StateD x
 refine zcr (sw (o_box H (.agg #[.slice Xn x.qB.length Xm,.slice axBags x.qE.length cxBags,.slice QD x.qC.length QC]) rfl fun b1 w2 H=>sw (o_alloc H ti38 fun b3 w4 H=>zjc (sw (o_alloc H ti38 fun b5 w6 H=>?_)))))
 replace H:St _ _ [.box b5 [yN,yN,yN] 38,.box b3 [yN,yN,yN] 38,.box b1 (yT x Xn Xm axBags cxBags QD QC) 29] _:=H
 refine zjc (oF rfl (oL rfl (H.cell 2 rfl rfl) ?_))
 have szx8:=H.base.size
 refine sw (oc (toBoolS_ok _ x.qB (H.get 0 rfl).1 (by first | omega | (have:=p2 qf;omega))) ?_)
 rintro v9 w7 r9 x8
 obtain ⟨a9,c9,F9,rfl,f9,H⟩:=H.add_is x8 r9.isNew
 have d9:=f9.2
 have q9:=f9.1
 replace f9:∀ b∈F9,w.heap.size≤b:=fun b hb=>Nat.le_trans szx8 (f9.1 b hb)
 refine oF rfl (sw (yR H 0 rfl (.slice a9 x.qB.length c9) sizeOf26 rfl rfl rfl (Nat.le_of_ble_eq_true rfl) fun w10 H=>?_))
 replace H:St _ _ [.box b5 [.slice a9 x.qB.length c9,yN,yN] 38,.box b3 [yN,yN,yN] 38,.box b1 (yT x Xn Xm axBags cxBags QD QC) 29] _:=H
 refine zjc (oF rfl (oL rfl (H.cell 2 rfl rfl) ?_))
 have szx12:=H.base.size
 have lt13:=H.isLt 0 rfl
 refine sw (oc (toInt64SS_ok _ x.qE (H.get 2 rfl).1 (by first | omega | (have:=p2 qf;omega))) ?_)
 rintro v14 w11 r14 x12
 obtain ⟨a14,c14,F14,rfl,f14,H⟩:=H.add_is x12 r14.isNew
 have d14:=f14.2
 have q14:=f14.1
 replace f14:∀ b∈F14,w.heap.size≤b:=fun b hb=>Nat.le_trans szx12 (f14.1 b hb)
 refine oF rfl (sw (yR H 0 rfl (.slice a14 x.qE.length c14) sizeOf27 rfl rfl rfl (Nat.le_of_ble_eq_true rfl) fun w15 H=>?_))
 replace H:St _ _ [.box b5 [.slice a9 x.qB.length c9,.slice a14 x.qE.length c14,yN] 38,.box b3 [yN,yN,yN] 38,.box b1 (yT x Xn Xm axBags cxBags QD QC) 29] _:=H
 refine zjc (oF rfl (oL rfl (H.cell 2 rfl rfl) ?_))
 have szx17:=H.base.size
 have lt18:=H.isLt 0 rfl
 have lt19:=H.isLt 1 rfl
 refine sw (oc (Q5 _ x.qC (H.get 4 rfl).1 (by first | omega | (have:=p2 qf;omega))) ?_)
 rintro v20 w16 r20 x17
 obtain ⟨a20,c20,F20,rfl,f20,H⟩:=H.add_is x17 r20.isNew
 have d20:=f20.2
 have q20:=f20.1
 replace f20:∀ b∈F20,w.heap.size≤b:=fun b hb=>Nat.le_trans szx17 (f20.1 b hb)
 refine oF rfl (sw (yR H 0 rfl (.slice a20 x.qC.length c20) sizeOf22 rfl rfl rfl (Nat.le_of_ble_eq_true rfl) fun w21 H=>?_))
 replace H:St _ _ [.box b5 (yT x a9 c9 a14 c14 a20 c20) 38,.box b3 [yN,yN,yN] 38,.box b1 (yT x Xn Xm axBags cxBags QD QC) 29] _:=H
 refine zjc (sw (zl (yT x a9 c9 a14 c14 a20 c20) isAgg38 sizeOf38 rfl (qF (H.cells 0 rfl) 0 3) (sw (o_store H 1 rfl (.agg #[.slice a9 x.qB.length c9,.slice a14 x.qE.length c14,.slice a20 x.qC.length c20]) sizeOf38 rfl rfl (by simp [Value.oneCell',Value.cells]) (Nat.le_of_ble_eq_true rfl) fun w22 H=>?_))))
 replace H:St _ _ [.box b5 (yT x a9 c9 a14 c14 a20 c20) 38,.box b3 (yT x a9 c9 a14 c14 a20 c20) 38,.box b1 (yT x Xn Xm axBags cxBags QD QC) 29] _:=H
 refine zjr (retC H 1 rfl rfl isAgg38 sizeOf38 rfl ⟨_,rfl,(⟨_,_,_,_,_,_,_,_,_,rfl,(H.get 2 rfl).1,(H.get 1 rfl).1,(H.get 0 rfl).1,(QZ (QZ f9 f14) f20),(QX (QX d9 d14 lt13 q14) d20 (all_app lt19 lt18) q20),((((H.get 2 rfl).2 rfl).app ((H.get 1 rfl).2 rfl)).app ((H.get 0 rfl).2 rfl))⟩),H.base⟩)

theorem QM (w:World) (x:yLI) (y:yLI) {ax:yOA} {Fx:yLN} {ay:yOA} {Fy:yLN} (hx:qP.rep w Fx [.slice ax x.length cx] x) (hy:qP.rep w Fy [.slice ay y.length cy] y):Calls Tryz.prog 65 #[.slice ax x.length cx,.slice ay y.length cy] w (Ret (fun v w' =>v=.bool (decide (x=y))) w):=by
 refine en func65 ntmps65 ?_
 have H:=((St.start w).arg hy).arg hx
 have nhx:=qN hx
 have nhy:=qN hy
 clear hx hy
 refine zcr (sp (.bool false) (zjcc (sp (.slice ax x.length cx) (oN rfl (sp (.slice ay y.length cy) (oN rfl (sp (.bool ((x.length:Int) != y.length)) (zjn (xF ((x.length:Int) != y.length) rfl (fun h1=>?_) (fun h1=>?_))))))))))
 ·skip
  replace h1:=bne_iff_ne.1 h1
  refine zcr (sp (.bool false) (zjr (t_r (ret1 (.bool false) rfl rfl ⟨_,rfl,?_,H.base⟩))))
  first | rw [decide_eq_false (fun e=>by subst e;omega)] | rw [decide_eq_false (vZ (k:=k) ‹_›)] | rw [decide_eq_true (je (k:=k) qf qf ‹_›)]
 replace h1:=xA h1
 refine qV (t_n (zcc (sp (yI 0) (zjn (qY ?_)))))
 refine zB (fun m' ρ w2=>∃ (xN:Env) (k:Nat),ρ=upd (upd (upd xN 0 (.slice ax x.length cx)) 1 (.slice ay y.length cy)) 5 (yI k)∧(k≤x.length)∧(x.take k=y.take k)∧m' =x.length - k∧St w w2 [] [sF false Fx ax cx x,sF false Fy ay cy y]) (x.length - 0) ⟨_,0,uE3,qf,(by rfl),rfl,H⟩ ?_
 clear H
 rintro m' ρ w3 ⟨xN,k,rfl,i0,i1,rfl,H⟩
 refine zcc (sps [yI k,.slice ax x.length cx] (oN rfl (sp (.bool (decide ((k:Int) < x.length))) (zjn (cD rfl (fun h4=>?_) (fun h4=>?_))))))
 ·skip
  refine qV (t_n (xU (qY (xU ?_))))
  refine ja rfl H fun H=>rtp 0 (.slice ax x.length cx) H ?_
  refine rtp 1 (yI k) H ?_
  obtain ⟨b6,o7,rfl⟩:=H.addr 0 rfl qf
  refine tI 2 rfl rfl rfl H ?_
  refine tL 3 rfl rfl (fun _ h=>h.yf 0 rfl k qf) H ?_
  refine rtp 4 (.slice ay y.length cy) H ?_
  refine rtp 5 (yI k) H ?_
  obtain ⟨b8,o9,rfl⟩:=H.addr 1 rfl qf
  refine tI 6 rfl rfl rfl H ?_
  refine tL 7 rfl rfl (fun _ h=>h.yf 1 rfl k qf) H ?_
  refine rtp 8 (.bool ((x[k]! :Int) != (y[k]!))) H ?_
  refine xH qh (t_n (xF ((x[k]! :Int) != (y[k]!)) rfl (fun h10=>?_) (fun h10=>?_)))
  ·skip
   replace h10:=bne_iff_ne.1 h10
   refine zcr (sp (.bool false) (zjr (zr5 (ret1 (.bool false) rfl rfl ⟨_,rfl,?_,H.base⟩))))
   first | rw [decide_eq_false (fun e=>by subst e;omega)] | rw [decide_eq_false (vZ (k:=k) ‹_›)] | rw [decide_eq_true (je (k:=k) qf qf ‹_›)]
  replace h10:=xA h10
  refine qV (b_n (t_n (xX (sp (yI k) (sw (zD k 1 rfl rfl qf (sp (yI (k+1)) (xY (xg (m' :=x.length - (k+1)) qf ⟨_,k+1,uE3,?_,?_,rfl,H⟩)))))))))
  · omega
  · exact QJ qf qf ‹_› qg
 refine zx4 (zcr (sp (.bool true) (zjr (ret1 (.bool true) rfl rfl ⟨_,rfl,?_,H.base⟩))))
 first | rw [decide_eq_false (fun e=>by subst e;omega)] | rw [decide_eq_false (vZ (k:=k) ‹_›)] | rw [decide_eq_true (je (k:=k) qf qf ‹_›)]

theorem eqBoolS_ok (w:World) (x:List Bool) (y:List Bool) {ax:yOA} {Fx:yLN} {ay:yOA} {Fy:yLN} (hx:qP.rep w Fx [.slice ax x.length cx] x) (hy:qP.rep w Fy [.slice ay y.length cy] y):Calls Tryz.prog 67 #[.slice ax x.length cx,.slice ay y.length cy] w (Ret (fun v w' =>v=.bool (decide (x=y))) w):=by
 refine en func67 ntmps67 ?_
 have H:=((St.start w).arg hy).arg hx
 have nhx:=qN hx
 have nhy:=qN hy
 clear hx hy
 refine zcr (sp (.bool false) (zjcc (sp (.slice ax x.length cx) (oN rfl (sp (.slice ay y.length cy) (oN rfl (sp (.bool ((x.length:Int) != y.length)) (zjn (xF ((x.length:Int) != y.length) rfl (fun h1=>?_) (fun h1=>?_))))))))))
 ·skip
  replace h1:=bne_iff_ne.1 h1
  refine zcr (sp (.bool false) (zjr (t_r (ret1 (.bool false) rfl rfl ⟨_,rfl,?_,H.base⟩))))
  first | rw [decide_eq_false (fun e=>by subst e;omega)] | rw [decide_eq_false (vZ (k:=k) ‹_›)] | rw [decide_eq_true (je (k:=k) qf qf ‹_›)]
 replace h1:=xA h1
 refine qV (t_n (zcc (sp (yI 0) (zjn (qY ?_)))))
 refine zB (fun m' ρ w2=>∃ (xN:Env) (k:Nat),ρ=upd (upd (upd xN 0 (.slice ax x.length cx)) 1 (.slice ay y.length cy)) 5 (yI k)∧(k≤x.length)∧(x.take k=y.take k)∧m' =x.length - k∧St w w2 [] [sF false Fx ax cx x,sF false Fy ay cy y]) (x.length - 0) ⟨_,0,uE3,qf,(by rfl),rfl,H⟩ ?_
 clear H
 rintro m' ρ w3 ⟨xN,k,rfl,i0,i1,rfl,H⟩
 refine zcc (sps [yI k,.slice ax x.length cx] (oN rfl (sp (.bool (decide ((k:Int) < x.length))) (zjn (cD rfl (fun h4=>?_) (fun h4=>?_))))))
 ·skip
  refine qV (t_n (xU (qY (xU ?_))))
  refine ja rfl H fun H=>rtp 0 (.slice ax x.length cx) H ?_
  refine rtp 1 (yI k) H ?_
  obtain ⟨b6,o7,rfl⟩:=H.addr 0 rfl qf
  refine tI 2 rfl rfl rfl H ?_
  refine tL 3 rfl rfl (fun _ h=>h.elemBoolN 0 rfl k qf) H ?_
  refine rtp 4 (.slice ay y.length cy) H ?_
  refine rtp 5 (yI k) H ?_
  obtain ⟨b8,o9,rfl⟩:=H.addr 1 rfl qf
  refine tI 6 rfl rfl rfl H ?_
  refine tL 7 rfl rfl (fun _ h=>h.elemBoolN 1 rfl k qf) H ?_
  refine rt 8 (.bool ((x[k]!) != (y[k]!))) (y_neB underlying4 (x[k]!) (y[k]!) rfl rfl) H ?_
  refine xH qh (t_n (xF ((x[k]!) != (y[k]!)) rfl (fun h10=>?_) (fun h10=>?_)))
  ·skip
   replace h10:=bne_iff_ne.1 h10
   refine zcr (sp (.bool false) (zjr (zr5 (ret1 (.bool false) rfl rfl ⟨_,rfl,?_,H.base⟩))))
   first | rw [decide_eq_false (fun e=>by subst e;omega)] | rw [decide_eq_false (vZ (k:=k) ‹_›)] | rw [decide_eq_true (je (k:=k) qf qf ‹_›)]
  replace h10:=xA h10
  refine qV (b_n (t_n (xX (sp (yI k) (sw (zD k 1 rfl rfl qf (sp (yI (k+1)) (xY (xg (m' :=x.length - (k+1)) qf ⟨_,k+1,uE3,?_,?_,rfl,H⟩)))))))))
  · omega
  · exact QJ qf qf ‹_› qg
 refine zx4 (zcr (sp (.bool true) (zjr (ret1 (.bool true) rfl rfl ⟨_,rfl,?_,H.base⟩))))
 first | rw [decide_eq_false (fun e=>by subst e;omega)] | rw [decide_eq_false (vZ (k:=k) ‹_›)] | rw [decide_eq_true (je (k:=k) qf qf ‹_›)]

theorem eqInt64SS_ok (w:World) (x:yLL) (y:yLL) {ax:yOA} {Fx:yLN} {ay:yOA} {Fy:yLN} (hx:qP.rep w Fx [.slice ax x.length cx] x) (hy:qP.rep w Fy [.slice ay y.length cy] y):Calls Tryz.prog 20 #[.slice ax x.length cx,.slice ay y.length cy] w (Ret (fun v w' =>v=.bool (decide (x=y))) w):=by
 refine en func20 ntmps20 ?_
 have H:=((St.start w).arg hy).arg hx
 have nhx:=qN hx
 have nhy:=qN hy
 clear hx hy
 refine zcr (sp (.bool false) (zjcc (sp (.slice ax x.length cx) (oN rfl (sp (.slice ay y.length cy) (oN rfl (sp (.bool ((x.length:Int) != y.length)) (zjn (xF ((x.length:Int) != y.length) rfl (fun h1=>?_) (fun h1=>?_))))))))))
 ·skip
  replace h1:=bne_iff_ne.1 h1
  refine zcr (sp (.bool false) (zjr (t_r (ret1 (.bool false) rfl rfl ⟨_,rfl,?_,H.base⟩))))
  first | rw [decide_eq_false (fun e=>by subst e;omega)] | rw [decide_eq_false (vZ (k:=k) ‹_›)] | rw [decide_eq_true (je (k:=k) qf qf ‹_›)]
 replace h1:=xA h1
 refine qV (t_n (zcc (sp (yI 0) (zjn (qY ?_)))))
 refine zB (fun m' ρ w2=>∃ (xN:Env) (k:Nat),ρ=upd (upd (upd xN 0 (.slice ax x.length cx)) 1 (.slice ay y.length cy)) 5 (yI k)∧(k≤x.length)∧(x.take k=y.take k)∧m' =x.length - k∧St w w2 [] [sF false Fx ax cx x,sF false Fy ay cy y]) (x.length - 0) ⟨_,0,uE3,qf,(by rfl),rfl,H⟩ ?_
 clear H
 rintro m' ρ w3 ⟨xN,k,rfl,i0,i1,rfl,H⟩
 refine zcc (sps [yI k,.slice ax x.length cx] (oN rfl (sp (.bool (decide ((k:Int) < x.length))) (zjn (cD rfl (fun h4=>?_) (fun h4=>?_))))))
 ·skip
  refine qV (t_n (xU (qY (xU ?_))))
  refine ja rfl H fun H=>rtp 0 (.slice ax x.length cx) H ?_
  refine rtp 1 (yI k) H ?_
  obtain ⟨b6,o7,rfl⟩:=H.addr 0 rfl qf
  obtain ⟨ae8,ce8,Fe8,H⟩:=H.vH 0 rfl k k qf qf qf
  refine tI 2 rfl rfl rfl (H.sel _ (.refl _) _ (fun _ h=>List.mem_cons_of_mem _ (List.mem_cons_of_mem _ (h)))) ?_
  refine rtp 4 (.slice ay y.length cy) (H.sel _ (.refl _) _ (fun _ h=>List.mem_cons_of_mem _ (List.mem_cons_of_mem _ (h)))) ?_
  refine rtp 5 (yI k) (H.sel _ (.refl _) _ (fun _ h=>List.mem_cons_of_mem _ (List.mem_cons_of_mem _ (h)))) ?_
  obtain ⟨b9,o10,rfl⟩:=H.addr 3 rfl qf
  obtain ⟨ae11,ce11,Fe11,H⟩:=H.vH 3 rfl k k qf qf qf
  refine tI 6 rfl rfl rfl (H.sel _ (.refl _) _ (fun _ h=>List.mem_cons_of_mem _ (List.mem_cons_of_mem _ (List.mem_cons_of_mem _ (List.mem_cons_of_mem _ (h)))))) ?_
  refine vS [3,7] qh qm (jA rfl ?_ (jA rfl ?_ vT))
  ·skip
   refine zF (.slice ae8 ((x[k]!).length) ce8) isAgg22 rfl (H.xR 3 rfl 0 rfl) (⟨H.dF 4,(ro 7 rfl (zF (.slice ae11 ((y[k]!).length) ce11) isAgg22 rfl (H.xR 1 rfl 0 rfl) (⟨H.dF 4,(ro 8 rfl (oq (QM _ (x[k]!) (y[k]!) (H.get 2 rfl).1 (H.get 0 rfl).1) H fun w12 H=>⟨H.dF 4,(rtp 9 (.bool (!(decide ((x[k]!)=(y[k]!))))) (H.sel _ (.refl _) _ (fun _ h=>List.mem_cons_of_mem _ (List.mem_cons_of_mem _ (List.mem_cons_of_mem _ (List.mem_cons_of_mem _ (h)))))) ?_)⟩))⟩)))⟩)
   refine xH qh (t_n (xF (!(decide ((x[k]!)=(y[k]!)))) rfl (fun h14=>?_) (fun h14=>?_)))
   ·skip
    replace h14:=xq h14
    replace h14:=of_decide_eq_false h14
    refine zcr (sp (.bool false) (zjr (zr5 (ret1 (.bool false) rfl rfl ⟨_,rfl,?_,H.base⟩))))
    first | rw [decide_eq_false (fun e=>by subst e;omega)] | rw [decide_eq_false (vZ (k:=k) ‹_›)] | rw [decide_eq_true (je (k:=k) qf qf ‹_›)]
   replace h14:=xk h14
   replace h14:=of_decide_eq_true h14
   refine qV (b_n (t_n (xX (sp (yI k) (sw (zD k 1 rfl rfl qf (sp (yI (k+1)) (xY (xg (m' :=x.length - (k+1)) qf ⟨_,k+1,uE3,?_,?_,rfl,H.sel _ (.refl _) _ qm⟩)))))))))
   · omega
   · exact QJ qf qf ‹_› qg
  refine zF (.slice ae11 ((y[k]!).length) ce11) isAgg22 rfl (H.xR 1 rfl 0 rfl) (⟨H.dF 4,(ro 3 rfl (zF (.slice ae8 ((x[k]!).length) ce8) isAgg22 rfl (H.xR 3 rfl 0 rfl) (⟨H.dF 4,(ro 8 rfl (oq (QM _ (x[k]!) (y[k]!) (H.get 2 rfl).1 (H.get 0 rfl).1) H fun w15 H=>⟨H.dF 4,(rtp 9 (.bool (!(decide ((x[k]!)=(y[k]!))))) (H.sel _ (.refl _) _ (fun _ h=>List.mem_cons_of_mem _ (List.mem_cons_of_mem _ (List.mem_cons_of_mem _ (List.mem_cons_of_mem _ (h)))))) ?_)⟩))⟩)))⟩)
  refine xH qh (t_n (xF (!(decide ((x[k]!)=(y[k]!)))) rfl (fun h17=>?_) (fun h17=>?_)))
  ·skip
   replace h17:=xq h17
   replace h17:=of_decide_eq_false h17
   refine zcr (sp (.bool false) (zjr (zr5 (ret1 (.bool false) rfl rfl ⟨_,rfl,?_,H.base⟩))))
   first | rw [decide_eq_false (fun e=>by subst e;omega)] | rw [decide_eq_false (vZ (k:=k) ‹_›)] | rw [decide_eq_true (je (k:=k) qf qf ‹_›)]
  replace h17:=xk h17
  replace h17:=of_decide_eq_true h17
  refine qV (b_n (t_n (xX (sp (yI k) (sw (zD k 1 rfl rfl qf (sp (yI (k+1)) (xY (xg (m' :=x.length - (k+1)) qf ⟨_,k+1,uE3,?_,?_,rfl,H.sel _ (.refl _) _ qm⟩)))))))))
  · omega
  · exact QJ qf qf ‹_› qg
 refine zx4 (zcr (sp (.bool true) (zjr (ret1 (.bool true) rfl rfl ⟨_,rfl,?_,H.base⟩))))
 first | rw [decide_eq_false (fun e=>by subst e;omega)] | rw [decide_eq_false (vZ (k:=k) ‹_›)] | rw [decide_eq_true (je (k:=k) qf qf ‹_›)]

theorem eqInto_ok (w:World) (x:IntoD) (y:IntoD) {axBag:yOA} {FxBag:yLN} {ayBag:yOA} {cyBag:Nat} {FyBag:yLN} (hxBag:qP.rep w FxBag [.slice axBag x.jE.length cxBag] x.jE) (hyBag:qP.rep w FyBag [.slice ayBag y.jE.length cyBag] y.jE):Calls Tryz.prog 179 #[.agg #[yI x.qG,.slice axBag x.jE.length cxBag],.agg #[yI y.qG,.slice ayBag y.jE.length cyBag]] w (Ret (fun v w' =>v=.bool (decide (x=y))) w):=by
 refine en func179 ntmps179 ?_
 have H:=((St.start w).arg hyBag).arg hxBag
 have nhxBag:=qN hxBag
 have nhyBag:=qN hyBag
 clear hxBag hyBag
 refine zcr (sw (o_box H (.agg #[yI x.qG,.slice axBag x.jE.length cxBag]) rfl fun b1 w2 H=>sw (o_box H (.agg #[yI y.qG,.slice ayBag y.jE.length cyBag]) rfl fun b3 w4 H=>?_)))
 replace H:St _ _ [.box b3 [yI y.qG,.slice ayBag y.jE.length cyBag] 164,.box b1 [yI x.qG,.slice axBag x.jE.length cxBag] 164] _:=H
 refine sp (.bool false) (zjcc (oF rfl (oL rfl (H.cell 1 rfl rfl) (oF rfl (oL rfl (H.cell 0 rfl rfl) (sp (.bool ((x.qG:Int) != y.qG)) (zjn (xF ((x.qG:Int) != y.qG) rfl (fun h5=>?_) (fun h5=>?_)))))))))
 ·skip
  replace h5:=bne_iff_ne.1 h5
  refine zcr (sp (.bool false) (zjr (t_r (ret1 (.bool false) rfl rfl ⟨_,rfl,?_,H.base⟩))))
  rw [decide_eq_false (fun e=>by subst e;simp_all)]
 replace h5:=xA h5
 refine qV (t_n (zcc (oF rfl (oL rfl (H.cell 1 rfl rfl) (oF rfl (oL rfl (H.cell 0 rfl rfl) (sw (oq (QM _ x.jE y.jE (H.get 0 rfl).1 (H.get 1 rfl).1) H fun w6 H=>sp (.bool (!(decide (x.jE=y.jE)))) (zjn (xF (!(decide (x.jE=y.jE))) rfl (fun h8=>?_) (fun h8=>?_)))))))))))
 ·skip
  replace h8:=xq h8
  replace h8:=of_decide_eq_false h8
  refine zcr (sp (.bool false) (zjr (t_r (ret1 (.bool false) rfl rfl ⟨_,rfl,?_,H.base⟩))))
  rw [decide_eq_false (fun e=>by subst e;simp_all)]
 replace h8:=xk h8
 replace h8:=of_decide_eq_true h8
 refine qV (t_n (zcr (sp (.bool true) (zjr (ret1 (.bool true) rfl rfl ⟨_,rfl,?_,H.base⟩)))))
 rw [decide_eq_true (by cases x;cases y;simp_all)]

theorem eqIntoS_ok (w:World) (x:List IntoD) (y:List IntoD) {ax:yOA} {Fx:yLN} {ay:yOA} {Fy:yLN} (hx:qP.rep w Fx [.slice ax x.length cx] x) (hy:qP.rep w Fy [.slice ay y.length cy] y):Calls Tryz.prog 143 #[.slice ax x.length cx,.slice ay y.length cy] w (Ret (fun v w' =>v=.bool (decide (x=y))) w):=by
 refine en func143 ntmps143 ?_
 have H:=((St.start w).arg hy).arg hx
 have nhx:=qN hx
 have nhy:=qN hy
 clear hx hy
 refine zcr (sp (.bool false) (zjcc (sp (.slice ax x.length cx) (oN rfl (sp (.slice ay y.length cy) (oN rfl (sp (.bool ((x.length:Int) != y.length)) (zjn (xF ((x.length:Int) != y.length) rfl (fun h1=>?_) (fun h1=>?_))))))))))
 ·skip
  replace h1:=bne_iff_ne.1 h1
  refine zcr (sp (.bool false) (zjr (t_r (ret1 (.bool false) rfl rfl ⟨_,rfl,?_,H.base⟩))))
  first | rw [decide_eq_false (fun e=>by subst e;omega)] | rw [decide_eq_false (vZ (k:=k) ‹_›)] | rw [decide_eq_true (je (k:=k) qf qf ‹_›)]
 replace h1:=xA h1
 refine qV (t_n (zcc (sp (yI 0) (zjn (qY ?_)))))
 refine zB (fun m' ρ w2=>∃ (xN:Env) (k:Nat),ρ=upd (upd (upd xN 0 (.slice ax x.length cx)) 1 (.slice ay y.length cy)) 5 (yI k)∧(k≤x.length)∧(x.take k=y.take k)∧m' =x.length - k∧St w w2 [] [sF false Fx ax cx x,sF false Fy ay cy y]) (x.length - 0) ⟨_,0,uE3,qf,(by rfl),rfl,H⟩ ?_
 clear H
 rintro m' ρ w3 ⟨xN,k,rfl,i0,i1,rfl,H⟩
 refine zcc (sps [yI k,.slice ax x.length cx] (oN rfl (sp (.bool (decide ((k:Int) < x.length))) (zjn (cD rfl (fun h4=>?_) (fun h4=>?_))))))
 ·skip
  refine qV (t_n (xU (qY (xU ?_))))
  refine ja rfl H fun H=>rtp 0 (.slice ax x.length cx) H ?_
  refine rtp 1 (yI k) H ?_
  obtain ⟨b6,o7,rfl⟩:=H.addr 0 rfl qf
  obtain ⟨ae8Bag,ce8Bag,Fe8Bag,H⟩:=H.jJ 0 rfl k k qf qf qf
  refine tI 2 rfl rfl rfl (H.sel _ (.refl _) _ (fun _ h=>List.mem_cons_of_mem _ (List.mem_cons_of_mem _ (h)))) ?_
  refine rtp 4 (.slice ay y.length cy) (H.sel _ (.refl _) _ (fun _ h=>List.mem_cons_of_mem _ (List.mem_cons_of_mem _ (h)))) ?_
  refine rtp 5 (yI k) (H.sel _ (.refl _) _ (fun _ h=>List.mem_cons_of_mem _ (List.mem_cons_of_mem _ (h)))) ?_
  obtain ⟨b9,o10,rfl⟩:=H.addr 3 rfl qf
  obtain ⟨ae11Bag,ce11Bag,Fe11Bag,H⟩:=H.jJ 3 rfl k k qf qf qf
  refine tI 6 rfl rfl rfl (H.sel _ (.refl _) _ (fun _ h=>List.mem_cons_of_mem _ (List.mem_cons_of_mem _ (List.mem_cons_of_mem _ (List.mem_cons_of_mem _ (h)))))) ?_
  refine vS [3,7] qh qm (jA rfl ?_ (jA rfl ?_ vT))
  ·skip
   refine zl [yI ((x[k]!).qG),.slice ae8Bag (((x[k]!).jE).length) ce8Bag] isAgg164 sizeOf164 rfl (qF (H.get 3 rfl) 0 2) (⟨H.dF 4,(ro 7 rfl (zl [yI ((y[k]!).qG),.slice ae11Bag (((y[k]!).jE).length) ce11Bag] isAgg164 sizeOf164 rfl (qF (H.get 1 rfl) 0 2) (⟨H.dF 4,(ro 8 rfl (oq (eqInto_ok _ (x[k]!) (y[k]!) (H.get 2 rfl).1 (H.get 0 rfl).1) H fun w12 H=>⟨H.dF 4,(rtp 9 (.bool (!(decide ((x[k]!)=(y[k]!))))) (H.sel _ (.refl _) _ (fun _ h=>List.mem_cons_of_mem _ (List.mem_cons_of_mem _ (List.mem_cons_of_mem _ (List.mem_cons_of_mem _ (h)))))) ?_)⟩))⟩)))⟩)
   refine xH qh (t_n (xF (!(decide ((x[k]!)=(y[k]!)))) rfl (fun h14=>?_) (fun h14=>?_)))
   ·skip
    replace h14:=xq h14
    replace h14:=of_decide_eq_false h14
    refine zcr (sp (.bool false) (zjr (zr5 (ret1 (.bool false) rfl rfl ⟨_,rfl,?_,H.base⟩))))
    first | rw [decide_eq_false (fun e=>by subst e;omega)] | rw [decide_eq_false (vZ (k:=k) ‹_›)] | rw [decide_eq_true (je (k:=k) qf qf ‹_›)]
   replace h14:=xk h14
   replace h14:=of_decide_eq_true h14
   refine qV (b_n (t_n (xX (sp (yI k) (sw (zD k 1 rfl rfl qf (sp (yI (k+1)) (xY (xg (m' :=x.length - (k+1)) qf ⟨_,k+1,uE3,?_,?_,rfl,H.sel _ (.refl _) _ qm⟩)))))))))
   · omega
   · exact QJ qf qf ‹_› qg
  refine zl [yI ((y[k]!).qG),.slice ae11Bag (((y[k]!).jE).length) ce11Bag] isAgg164 sizeOf164 rfl (qF (H.get 1 rfl) 0 2) (⟨H.dF 4,(ro 3 rfl (zl [yI ((x[k]!).qG),.slice ae8Bag (((x[k]!).jE).length) ce8Bag] isAgg164 sizeOf164 rfl (qF (H.get 3 rfl) 0 2) (⟨H.dF 4,(ro 8 rfl (oq (eqInto_ok _ (x[k]!) (y[k]!) (H.get 2 rfl).1 (H.get 0 rfl).1) H fun w15 H=>⟨H.dF 4,(rtp 9 (.bool (!(decide ((x[k]!)=(y[k]!))))) (H.sel _ (.refl _) _ (fun _ h=>List.mem_cons_of_mem _ (List.mem_cons_of_mem _ (List.mem_cons_of_mem _ (List.mem_cons_of_mem _ (h)))))) ?_)⟩))⟩)))⟩)
  refine xH qh (t_n (xF (!(decide ((x[k]!)=(y[k]!)))) rfl (fun h17=>?_) (fun h17=>?_)))
  ·skip
   replace h17:=xq h17
   replace h17:=of_decide_eq_false h17
   refine zcr (sp (.bool false) (zjr (zr5 (ret1 (.bool false) rfl rfl ⟨_,rfl,?_,H.base⟩))))
   first | rw [decide_eq_false (fun e=>by subst e;omega)] | rw [decide_eq_false (vZ (k:=k) ‹_›)] | rw [decide_eq_true (je (k:=k) qf qf ‹_›)]
  replace h17:=xk h17
  replace h17:=of_decide_eq_true h17
  refine qV (b_n (t_n (xX (sp (yI k) (sw (zD k 1 rfl rfl qf (sp (yI (k+1)) (xY (xg (m' :=x.length - (k+1)) qf ⟨_,k+1,uE3,?_,?_,rfl,H.sel _ (.refl _) _ qm⟩)))))))))
  · omega
  · exact QJ qf qf ‹_› qg
 refine zx4 (zcr (sp (.bool true) (zjr (ret1 (.bool true) rfl rfl ⟨_,rfl,?_,H.base⟩))))
 first | rw [decide_eq_false (fun e=>by subst e;omega)] | rw [decide_eq_false (vZ (k:=k) ‹_›)] | rw [decide_eq_true (je (k:=k) qf qf ‹_›)]

theorem eqRule_ok (w:World) (x:QF) (y:QF) {Ve:yOA} {FxNeed:yLN} {Vj:yOA} {FxHave:yLN} {Vf:yOA} {FxLack:yLN} {Vh:yOA} {FxHere:yLN} {axOut:yOA} {FxOut:yLN} {Vg:yOA} {FxInto:yLN} {ayNeed:yOA} {cyNeed:Nat} {FyNeed:yLN} {ayHave:yOA} {cyHave:Nat} {FyHave:yLN} {ayLack:yOA} {cyLack:Nat} {FyLack:yLN} {ayHere:yOA} {cyHere:Nat} {FyHere:yLN} {ayOut:yOA} {cyOut:Nat} {FyOut:yLN} {ayInto:yOA} {cyInto:Nat} {FyInto:yLN} (hxNeed:qP.rep w FxNeed [.slice Ve x.xE.length X7] x.xE) (hxHave:qP.rep w FxHave [.slice Vj x.xM.length Vb] x.xM) (hxLack:qP.rep w FxLack [.slice Vf x.xO.length X8] x.xO) (hxHere:qP.rep w FxHere [.slice Vh x.xW.length Va] x.xW) (hxOut:qP.rep w FxOut [.slice axOut x.vC.length cxOut] x.vC) (hxInto:qP.rep w FxInto [.slice Vg x.qU.length X9] x.qU) (hyNeed:qP.rep w FyNeed [.slice ayNeed y.xE.length cyNeed] y.xE) (hyHave:qP.rep w FyHave [.slice ayHave y.xM.length cyHave] y.xM) (hyLack:qP.rep w FyLack [.slice ayLack y.xO.length cyLack] y.xO) (hyHere:qP.rep w FyHere [.slice ayHere y.xW.length cyHere] y.xW) (hyOut:qP.rep w FyOut [.slice ayOut y.vC.length cyOut] y.vC) (hyInto:qP.rep w FyInto [.slice ayInto y.qU.length cyInto] y.qU):Calls Tryz.prog 109 #[.agg #[yI x.qG,yI x.zM,.slice Ve x.xE.length X7,.slice Vj x.xM.length Vb,.slice Vf x.xO.length X8,.slice Vh x.xW.length Va,.slice axOut x.vC.length cxOut,.slice Vg x.qU.length X9,.bool x.zG],.agg #[yI y.qG,yI y.zM,.slice ayNeed y.xE.length cyNeed,.slice ayHave y.xM.length cyHave,.slice ayLack y.xO.length cyLack,.slice ayHere y.xW.length cyHere,.slice ayOut y.vC.length cyOut,.slice ayInto y.qU.length cyInto,.bool y.zG]] w (Ret (fun v w' =>v=.bool (decide (x=y))) w):=by
 refine en func109 ntmps109 ?_
 have H:=((((((((((((St.start w).arg hyInto).arg hyOut).arg hyHere).arg hyLack).arg hyHave).arg hyNeed).arg hxInto).arg hxOut).arg hxHere).arg hxLack).arg hxHave).arg hxNeed
 have nhxNeed:=qN hxNeed
 have nhxHave:=qN hxHave
 have nhxLack:=qN hxLack
 have nhxHere:=qN hxHere
 have nhxOut:=qN hxOut
 have nhxInto:=qN hxInto
 have nhyNeed:=qN hyNeed
 have nhyHave:=qN hyHave
 have nhyLack:=qN hyLack
 have nhyHere:=qN hyHere
 have nhyOut:=qN hyOut
 have nhyInto:=qN hyInto
 clear hxNeed hxHave hxLack hxHere hxOut hxInto hyNeed hyHave hyLack hyHere hyOut hyInto
 refine zcr (sw (o_box H (.agg #[yI x.qG,yI x.zM,.slice Ve x.xE.length X7,.slice Vj x.xM.length Vb,.slice Vf x.xO.length X8,.slice Vh x.xW.length Va,.slice axOut x.vC.length cxOut,.slice Vg x.qU.length X9,.bool x.zG]) rfl fun b1 w2 H=>sw (o_box H (.agg #[yI y.qG,yI y.zM,.slice ayNeed y.xE.length cyNeed,.slice ayHave y.xM.length cyHave,.slice ayLack y.xO.length cyLack,.slice ayHere y.xW.length cyHere,.slice ayOut y.vC.length cyOut,.slice ayInto y.qU.length cyInto,.bool y.zG]) rfl fun b3 w4 H=>?_)))
 replace H:St _ _ [.box b3 [yI y.qG,yI y.zM,.slice ayNeed y.xE.length cyNeed,.slice ayHave y.xM.length cyHave,.slice ayLack y.xO.length cyLack,.slice ayHere y.xW.length cyHere,.slice ayOut y.vC.length cyOut,.slice ayInto y.qU.length cyInto,.bool y.zG] 121,.box b1 [yI x.qG,yI x.zM,.slice Ve x.xE.length X7,.slice Vj x.xM.length Vb,.slice Vf x.xO.length X8,.slice Vh x.xW.length Va,.slice axOut x.vC.length cxOut,.slice Vg x.qU.length X9,.bool x.zG] 121] _:=H
 refine sp (.bool false) (zjcc (oF rfl (oL rfl (H.cell 1 rfl rfl) (oF rfl (oL rfl (H.cell 0 rfl rfl) (sp (.bool ((x.qG:Int) != y.qG)) (zjn (xF ((x.qG:Int) != y.qG) rfl (fun h5=>?_) (fun h5=>?_)))))))))
 ·skip
  replace h5:=bne_iff_ne.1 h5
  refine zcr (sp (.bool false) (zjr (t_r (ret1 (.bool false) rfl rfl ⟨_,rfl,?_,H.base⟩))))
  rw [decide_eq_false (fun e=>by subst e;simp_all)]
 replace h5:=xA h5
 refine qV (t_n (zcc (oF rfl (oL rfl (H.cell 1 rfl rfl) (oF rfl (oL rfl (H.cell 0 rfl rfl) (sp (.bool ((x.zM:Int) != y.zM)) (zjn (xF ((x.zM:Int) != y.zM) rfl (fun h6=>?_) (fun h6=>?_))))))))))
 ·skip
  replace h6:=bne_iff_ne.1 h6
  refine zcr (sp (.bool false) (zjr (t_r (ret1 (.bool false) rfl rfl ⟨_,rfl,?_,H.base⟩))))
  rw [decide_eq_false (fun e=>by subst e;simp_all)]
 replace h6:=xA h6
 refine qV (t_n (zcc (oF rfl (oL rfl (H.cell 1 rfl rfl) (oF rfl (oL rfl (H.cell 0 rfl rfl) (sw (oq (QM _ x.xE y.xE (H.get 0 rfl).1 (H.get 6 rfl).1) H fun w7 H=>sp (.bool (!(decide (x.xE=y.xE)))) (zjn (xF (!(decide (x.xE=y.xE))) rfl (fun h9=>?_) (fun h9=>?_)))))))))))
 ·skip
  replace h9:=xq h9
  replace h9:=of_decide_eq_false h9
  refine zcr (sp (.bool false) (zjr (t_r (ret1 (.bool false) rfl rfl ⟨_,rfl,?_,H.base⟩))))
  rw [decide_eq_false (fun e=>by subst e;simp_all)]
 replace h9:=xk h9
 replace h9:=of_decide_eq_true h9
 refine qV (t_n (zcc (oF rfl (oL rfl (H.cell 1 rfl rfl) (oF rfl (oL rfl (H.cell 0 rfl rfl) (sw (oq (QM _ x.xM y.xM (H.get 1 rfl).1 (H.get 7 rfl).1) H fun w10 H=>sp (.bool (!(decide (x.xM=y.xM)))) (zjn (xF (!(decide (x.xM=y.xM))) rfl (fun h12=>?_) (fun h12=>?_)))))))))))
 ·skip
  replace h12:=xq h12
  replace h12:=of_decide_eq_false h12
  refine zcr (sp (.bool false) (zjr (t_r (ret1 (.bool false) rfl rfl ⟨_,rfl,?_,H.base⟩))))
  rw [decide_eq_false (fun e=>by subst e;simp_all)]
 replace h12:=xk h12
 replace h12:=of_decide_eq_true h12
 refine qV (t_n (zcc (oF rfl (oL rfl (H.cell 1 rfl rfl) (oF rfl (oL rfl (H.cell 0 rfl rfl) (sw (oq (QM _ x.xO y.xO (H.get 2 rfl).1 (H.get 8 rfl).1) H fun w13 H=>sp (.bool (!(decide (x.xO=y.xO)))) (zjn (xF (!(decide (x.xO=y.xO))) rfl (fun h15=>?_) (fun h15=>?_)))))))))))
 ·skip
  replace h15:=xq h15
  replace h15:=of_decide_eq_false h15
  refine zcr (sp (.bool false) (zjr (t_r (ret1 (.bool false) rfl rfl ⟨_,rfl,?_,H.base⟩))))
  rw [decide_eq_false (fun e=>by subst e;simp_all)]
 replace h15:=xk h15
 replace h15:=of_decide_eq_true h15
 refine qV (t_n (zcc (oF rfl (oL rfl (H.cell 1 rfl rfl) (oF rfl (oL rfl (H.cell 0 rfl rfl) (sw (oq (QM _ x.xW y.xW (H.get 3 rfl).1 (H.get 9 rfl).1) H fun w16 H=>sp (.bool (!(decide (x.xW=y.xW)))) (zjn (xF (!(decide (x.xW=y.xW))) rfl (fun h18=>?_) (fun h18=>?_)))))))))))
 ·skip
  replace h18:=xq h18
  replace h18:=of_decide_eq_false h18
  refine zcr (sp (.bool false) (zjr (t_r (ret1 (.bool false) rfl rfl ⟨_,rfl,?_,H.base⟩))))
  rw [decide_eq_false (fun e=>by subst e;simp_all)]
 replace h18:=xk h18
 replace h18:=of_decide_eq_true h18
 refine qV (t_n (zcc (oF rfl (oL rfl (H.cell 1 rfl rfl) (oF rfl (oL rfl (H.cell 0 rfl rfl) (sw (oq (QM _ x.vC y.vC (H.get 4 rfl).1 (H.get 10 rfl).1) H fun w19 H=>sp (.bool (!(decide (x.vC=y.vC)))) (zjn (xF (!(decide (x.vC=y.vC))) rfl (fun h21=>?_) (fun h21=>?_)))))))))))
 ·skip
  replace h21:=xq h21
  replace h21:=of_decide_eq_false h21
  refine zcr (sp (.bool false) (zjr (t_r (ret1 (.bool false) rfl rfl ⟨_,rfl,?_,H.base⟩))))
  rw [decide_eq_false (fun e=>by subst e;simp_all)]
 replace h21:=xk h21
 replace h21:=of_decide_eq_true h21
 refine qV (t_n (zcc (oF rfl (oL rfl (H.cell 1 rfl rfl) (oF rfl (oL rfl (H.cell 0 rfl rfl) (sw (oq (eqIntoS_ok _ x.qU y.qU (H.get 5 rfl).1 (H.get 11 rfl).1) H fun w22 H=>sp (.bool (!(decide (x.qU=y.qU)))) (zjn (xF (!(decide (x.qU=y.qU))) rfl (fun h24=>?_) (fun h24=>?_)))))))))))
 ·skip
  replace h24:=xq h24
  replace h24:=of_decide_eq_false h24
  refine zcr (sp (.bool false) (zjr (t_r (ret1 (.bool false) rfl rfl ⟨_,rfl,?_,H.base⟩))))
  rw [decide_eq_false (fun e=>by subst e;simp_all)]
 replace h24:=xk h24
 replace h24:=of_decide_eq_true h24
 refine qV (t_n (zcc (oF rfl (oL rfl (H.cell 1 rfl rfl) (oF rfl (oL rfl (H.cell 0 rfl rfl) (sw (o_neB underlying4 x.zG y.zG rfl rfl (zjn (xF (x.zG != y.zG) rfl (fun h25=>?_) (fun h25=>?_)))))))))))
 ·skip
  replace h25:=bne_iff_ne.1 h25
  refine zcr (sp (.bool false) (zjr (t_r (ret1 (.bool false) rfl rfl ⟨_,rfl,?_,H.base⟩))))
  rw [decide_eq_false (fun e=>by subst e;simp_all)]
 replace h25:=xA h25
 refine qV (t_n (zcr (sp (.bool true) (zjr (ret1 (.bool true) rfl rfl ⟨_,rfl,?_,H.base⟩)))))
 rw [decide_eq_true (by cases x;cases y;simp_all)]

theorem eqRuleS_ok (w:World) (x:List QF) (y:List QF) {ax:yOA} {Fx:yLN} {ay:yOA} {Fy:yLN} (hx:qP.rep w Fx [.slice ax x.length cx] x) (hy:qP.rep w Fy [.slice ay y.length cy] y):Calls Tryz.prog 66 #[.slice ax x.length cx,.slice ay y.length cy] w (Ret (fun v w' =>v=.bool (decide (x=y))) w):=by
 refine en func66 ntmps66 ?_
 have H:=((St.start w).arg hy).arg hx
 have nhx:=qN hx
 have nhy:=qN hy
 clear hx hy
 refine zcr (sp (.bool false) (zjcc (sp (.slice ax x.length cx) (oN rfl (sp (.slice ay y.length cy) (oN rfl (sp (.bool ((x.length:Int) != y.length)) (zjn (xF ((x.length:Int) != y.length) rfl (fun h1=>?_) (fun h1=>?_))))))))))
 ·skip
  replace h1:=bne_iff_ne.1 h1
  refine zcr (sp (.bool false) (zjr (t_r (ret1 (.bool false) rfl rfl ⟨_,rfl,?_,H.base⟩))))
  first | rw [decide_eq_false (fun e=>by subst e;omega)] | rw [decide_eq_false (vZ (k:=k) ‹_›)] | rw [decide_eq_true (je (k:=k) qf qf ‹_›)]
 replace h1:=xA h1
 refine qV (t_n (zcc (sp (yI 0) (zjn (qY ?_)))))
 refine zB (fun m' ρ w2=>∃ (xN:Env) (k:Nat),ρ=upd (upd (upd xN 0 (.slice ax x.length cx)) 1 (.slice ay y.length cy)) 5 (yI k)∧(k≤x.length)∧(x.take k=y.take k)∧m' =x.length - k∧St w w2 [] [sF false Fx ax cx x,sF false Fy ay cy y]) (x.length - 0) ⟨_,0,uE3,qf,(by rfl),rfl,H⟩ ?_
 clear H
 rintro m' ρ w3 ⟨xN,k,rfl,i0,i1,rfl,H⟩
 refine zcc (sps [yI k,.slice ax x.length cx] (oN rfl (sp (.bool (decide ((k:Int) < x.length))) (zjn (cD rfl (fun h4=>?_) (fun h4=>?_))))))
 ·skip
  refine qV (t_n (xU (qY (xU ?_))))
  refine ja rfl H fun H=>rtp 0 (.slice ax x.length cx) H ?_
  refine rtp 1 (yI k) H ?_
  obtain ⟨b6,o7,rfl⟩:=H.addr 0 rfl qf
  obtain ⟨ae8Need,ce8Need,Fe8Need,ae8Have,ce8Have,Fe8Have,ae8Lack,ce8Lack,Fe8Lack,ae8Here,ce8Here,Fe8Here,ae8Out,ce8Out,Fe8Out,ae8Into,ce8Into,Fe8Into,H⟩:=H.yc 0 rfl k k qf qf qf
  refine tI 2 rfl rfl rfl (H.sel _ (.refl _) _ (fun _ h=>List.mem_cons_of_mem _ (List.mem_cons_of_mem _ (List.mem_cons_of_mem _ (List.mem_cons_of_mem _ (List.mem_cons_of_mem _ (List.mem_cons_of_mem _ (List.mem_cons_of_mem _ (h))))))))) ?_
  refine rtp 4 (.slice ay y.length cy) (H.sel _ (.refl _) _ (fun _ h=>List.mem_cons_of_mem _ (List.mem_cons_of_mem _ (List.mem_cons_of_mem _ (List.mem_cons_of_mem _ (List.mem_cons_of_mem _ (List.mem_cons_of_mem _ (List.mem_cons_of_mem _ (h))))))))) ?_
  refine rtp 5 (yI k) (H.sel _ (.refl _) _ (fun _ h=>List.mem_cons_of_mem _ (List.mem_cons_of_mem _ (List.mem_cons_of_mem _ (List.mem_cons_of_mem _ (List.mem_cons_of_mem _ (List.mem_cons_of_mem _ (List.mem_cons_of_mem _ (h))))))))) ?_
  obtain ⟨b9,o10,rfl⟩:=H.addr 8 rfl qf
  obtain ⟨ae11Need,ce11Need,Fe11Need,ae11Have,ce11Have,Fe11Have,ae11Lack,ce11Lack,Fe11Lack,ae11Here,ce11Here,Fe11Here,ae11Out,ce11Out,Fe11Out,ae11Into,ce11Into,Fe11Into,H⟩:=H.yc 8 rfl k k qf qf qf
  refine tI 6 rfl rfl rfl (H.sel _ (.refl _) _ (fun _ h=>List.mem_cons_of_mem _ (List.mem_cons_of_mem _ (List.mem_cons_of_mem _ (List.mem_cons_of_mem _ (List.mem_cons_of_mem _ (List.mem_cons_of_mem _ (List.mem_cons_of_mem _ (List.mem_cons_of_mem _ (List.mem_cons_of_mem _ (List.mem_cons_of_mem _ (List.mem_cons_of_mem _ (List.mem_cons_of_mem _ (List.mem_cons_of_mem _ (List.mem_cons_of_mem _ (h)))))))))))))))) ?_
  refine vS [3,7] qh qm (jA rfl ?_ (jA rfl ?_ vT))
  ·skip
   refine zl [yI ((x[k]!).qG),yI ((x[k]!).zM),.slice ae8Need (((x[k]!).xE).length) ce8Need,.slice ae8Have (((x[k]!).xM).length) ce8Have,.slice ae8Lack (((x[k]!).xO).length) ce8Lack,.slice ae8Here (((x[k]!).xW).length) ce8Here,.slice ae8Out (((x[k]!).vC).length) ce8Out,.slice ae8Into (((x[k]!).qU).length) ce8Into,.bool ((x[k]!).zG)] isAgg121 sizeOf121 rfl (qF (H.get 13 rfl) 0 9) (⟨H.dF 14,(ro 7 rfl ?_)⟩)
   refine zl [yI ((y[k]!).qG),yI ((y[k]!).zM),.slice ae11Need (((y[k]!).xE).length) ce11Need,.slice ae11Have (((y[k]!).xM).length) ce11Have,.slice ae11Lack (((y[k]!).xO).length) ce11Lack,.slice ae11Here (((y[k]!).xW).length) ce11Here,.slice ae11Out (((y[k]!).vC).length) ce11Out,.slice ae11Into (((y[k]!).qU).length) ce11Into,.bool ((y[k]!).zG)] isAgg121 sizeOf121 rfl (qF (H.get 6 rfl) 0 9) (⟨H.dF 14,(ro 8 rfl ?_)⟩)
   refine oq (eqRule_ok _ (x[k]!) (y[k]!) (H.get 7 rfl).1 (H.get 8 rfl).1 (H.get 9 rfl).1 (H.get 10 rfl).1 (H.get 11 rfl).1 (H.get 12 rfl).1 (H.get 0 rfl).1 (H.get 1 rfl).1 (H.get 2 rfl).1 (H.get 3 rfl).1 (H.get 4 rfl).1 (H.get 5 rfl).1) H fun w12 H=>⟨H.dF 14,?_⟩
   refine rtp 9 (.bool (!(decide ((x[k]!)=(y[k]!))))) (H.sel _ (.refl _) _ (fun _ h=>List.mem_cons_of_mem _ (List.mem_cons_of_mem _ (List.mem_cons_of_mem _ (List.mem_cons_of_mem _ (List.mem_cons_of_mem _ (List.mem_cons_of_mem _ (List.mem_cons_of_mem _ (List.mem_cons_of_mem _ (List.mem_cons_of_mem _ (List.mem_cons_of_mem _ (List.mem_cons_of_mem _ (List.mem_cons_of_mem _ (List.mem_cons_of_mem _ (List.mem_cons_of_mem _ (h)))))))))))))))) ?_
   refine xH qh (t_n (xF (!(decide ((x[k]!)=(y[k]!)))) rfl (fun h14=>?_) (fun h14=>?_)))
   ·skip
    replace h14:=xq h14
    replace h14:=of_decide_eq_false h14
    refine zcr (sp (.bool false) (zjr (zr5 (ret1 (.bool false) rfl rfl ⟨_,rfl,?_,H.base⟩))))
    first | rw [decide_eq_false (fun e=>by subst e;omega)] | rw [decide_eq_false (vZ (k:=k) ‹_›)] | rw [decide_eq_true (je (k:=k) qf qf ‹_›)]
   replace h14:=xk h14
   replace h14:=of_decide_eq_true h14
   refine qV (b_n (t_n (xX (sp (yI k) (sw (zD k 1 rfl rfl qf (sp (yI (k+1)) (xY (xg (m' :=x.length - (k+1)) qf ⟨_,k+1,uE3,?_,?_,rfl,H.sel _ (.refl _) _ qm⟩)))))))))
   · omega
   · exact QJ qf qf ‹_› qg
  refine zl [yI ((y[k]!).qG),yI ((y[k]!).zM),.slice ae11Need (((y[k]!).xE).length) ce11Need,.slice ae11Have (((y[k]!).xM).length) ce11Have,.slice ae11Lack (((y[k]!).xO).length) ce11Lack,.slice ae11Here (((y[k]!).xW).length) ce11Here,.slice ae11Out (((y[k]!).vC).length) ce11Out,.slice ae11Into (((y[k]!).qU).length) ce11Into,.bool ((y[k]!).zG)] isAgg121 sizeOf121 rfl (qF (H.get 6 rfl) 0 9) (⟨H.dF 14,(ro 3 rfl ?_)⟩)
  refine zl [yI ((x[k]!).qG),yI ((x[k]!).zM),.slice ae8Need (((x[k]!).xE).length) ce8Need,.slice ae8Have (((x[k]!).xM).length) ce8Have,.slice ae8Lack (((x[k]!).xO).length) ce8Lack,.slice ae8Here (((x[k]!).xW).length) ce8Here,.slice ae8Out (((x[k]!).vC).length) ce8Out,.slice ae8Into (((x[k]!).qU).length) ce8Into,.bool ((x[k]!).zG)] isAgg121 sizeOf121 rfl (qF (H.get 13 rfl) 0 9) (⟨H.dF 14,(ro 8 rfl ?_)⟩)
  refine oq (eqRule_ok _ (x[k]!) (y[k]!) (H.get 7 rfl).1 (H.get 8 rfl).1 (H.get 9 rfl).1 (H.get 10 rfl).1 (H.get 11 rfl).1 (H.get 12 rfl).1 (H.get 0 rfl).1 (H.get 1 rfl).1 (H.get 2 rfl).1 (H.get 3 rfl).1 (H.get 4 rfl).1 (H.get 5 rfl).1) H fun w15 H=>⟨H.dF 14,?_⟩
  refine rtp 9 (.bool (!(decide ((x[k]!)=(y[k]!))))) (H.sel _ (.refl _) _ (fun _ h=>List.mem_cons_of_mem _ (List.mem_cons_of_mem _ (List.mem_cons_of_mem _ (List.mem_cons_of_mem _ (List.mem_cons_of_mem _ (List.mem_cons_of_mem _ (List.mem_cons_of_mem _ (List.mem_cons_of_mem _ (List.mem_cons_of_mem _ (List.mem_cons_of_mem _ (List.mem_cons_of_mem _ (List.mem_cons_of_mem _ (List.mem_cons_of_mem _ (List.mem_cons_of_mem _ (h)))))))))))))))) ?_
  refine xH qh (t_n (xF (!(decide ((x[k]!)=(y[k]!)))) rfl (fun h17=>?_) (fun h17=>?_)))
  ·skip
   replace h17:=xq h17
   replace h17:=of_decide_eq_false h17
   refine zcr (sp (.bool false) (zjr (zr5 (ret1 (.bool false) rfl rfl ⟨_,rfl,?_,H.base⟩))))
   first | rw [decide_eq_false (fun e=>by subst e;omega)] | rw [decide_eq_false (vZ (k:=k) ‹_›)] | rw [decide_eq_true (je (k:=k) qf qf ‹_›)]
  replace h17:=xk h17
  replace h17:=of_decide_eq_true h17
  refine qV (b_n (t_n (xX (sp (yI k) (sw (zD k 1 rfl rfl qf (sp (yI (k+1)) (xY (xg (m' :=x.length - (k+1)) qf ⟨_,k+1,uE3,?_,?_,rfl,H.sel _ (.refl _) _ qm⟩)))))))))
  · omega
  · exact QJ qf qf ‹_› qg
 refine zx4 (zcr (sp (.bool true) (zjr (ret1 (.bool true) rfl rfl ⟨_,rfl,?_,H.base⟩))))
 first | rw [decide_eq_false (fun e=>by subst e;omega)] | rw [decide_eq_false (vZ (k:=k) ‹_›)] | rw [decide_eq_true (je (k:=k) qf qf ‹_›)]

theorem eqSystem_ok (w:World) (x:qL) (y:qL) {Qi:yOA} {FxParents:yLN} {XF:yOA} {FxRules:yLN} {ayParents:yOA} {cyParents:Nat} {FyParents:yLN} {ayRules:yOA} {cyRules:Nat} {FyRules:yLN} (XC:qP.rep w FxParents [.slice Qi x.qw.length Qh] x.qw) (hxRules:qP.rep w FxRules [.slice XF x.qx.length XD] x.qx) (hyParents:qP.rep w FyParents [.slice ayParents y.qw.length cyParents] y.qw) (hyRules:qP.rep w FyRules [.slice ayRules y.qx.length cyRules] y.qx):Calls Tryz.prog 21 #[.agg #[yI x.xB,.slice Qi x.qw.length Qh,.slice XF x.qx.length XD],.agg #[yI y.xB,.slice ayParents y.qw.length cyParents,.slice ayRules y.qx.length cyRules]] w (Ret (fun v w' =>v=.bool (decide (x=y))) w):=by
 refine en func21 ntmps21 ?_
 have H:=((((St.start w).arg hyRules).arg hyParents).arg hxRules).arg XC
 have nhxParents:=qN XC
 have nhxRules:=qN hxRules
 have nhyParents:=qN hyParents
 have nhyRules:=qN hyRules
 clear XC hxRules hyParents hyRules
 refine zcr (sw (o_box H (.agg #[yI x.xB,.slice Qi x.qw.length Qh,.slice XF x.qx.length XD]) rfl fun b1 w2 H=>sw (o_box H (.agg #[yI y.xB,.slice ayParents y.qw.length cyParents,.slice ayRules y.qx.length cyRules]) rfl fun b3 w4 H=>?_)))
 replace H:St _ _ [.box b3 (yS y ayParents cyParents ayRules cyRules) 36,.box b1 (yS x Qi Qh XF XD) 36] _:=H
 refine sp (.bool false) (zjcc (oF rfl (oL rfl (H.cell 1 rfl rfl) (oF rfl (oL rfl (H.cell 0 rfl rfl) (sp (.bool ((x.xB:Int) != y.xB)) (zjn (xF ((x.xB:Int) != y.xB) rfl (fun h5=>?_) (fun h5=>?_)))))))))
 ·skip
  replace h5:=bne_iff_ne.1 h5
  refine zcr (sp (.bool false) (zjr (t_r (ret1 (.bool false) rfl rfl ⟨_,rfl,?_,H.base⟩))))
  rw [decide_eq_false (fun e=>by subst e;simp_all)]
 replace h5:=xA h5
 refine qV (t_n (zcc (oF rfl (oL rfl (H.cell 1 rfl rfl) (oF rfl (oL rfl (H.cell 0 rfl rfl) (sw (oq (QM _ x.qw y.qw (H.get 0 rfl).1 (H.get 2 rfl).1) H fun w6 H=>sp (.bool (!(decide (x.qw=y.qw)))) (zjn (xF (!(decide (x.qw=y.qw))) rfl (fun h8=>?_) (fun h8=>?_)))))))))))
 ·skip
  replace h8:=xq h8
  replace h8:=of_decide_eq_false h8
  refine zcr (sp (.bool false) (zjr (t_r (ret1 (.bool false) rfl rfl ⟨_,rfl,?_,H.base⟩))))
  rw [decide_eq_false (fun e=>by subst e;simp_all)]
 replace h8:=xk h8
 replace h8:=of_decide_eq_true h8
 refine qV (t_n (zcc (oF rfl (oL rfl (H.cell 1 rfl rfl) (oF rfl (oL rfl (H.cell 0 rfl rfl) (sw (oq (eqRuleS_ok _ x.qx y.qx (H.get 1 rfl).1 (H.get 3 rfl).1) H fun w9 H=>sp (.bool (!(decide (x.qx=y.qx)))) (zjn (xF (!(decide (x.qx=y.qx))) rfl (fun h11=>?_) (fun h11=>?_)))))))))))
 ·skip
  replace h11:=xq h11
  replace h11:=of_decide_eq_false h11
  refine zcr (sp (.bool false) (zjr (t_r (ret1 (.bool false) rfl rfl ⟨_,rfl,?_,H.base⟩))))
  rw [decide_eq_false (fun e=>by subst e;simp_all)]
 replace h11:=xk h11
 replace h11:=of_decide_eq_true h11
 refine qV (t_n (zcr (sp (.bool true) (zjr (ret1 (.bool true) rfl rfl ⟨_,rfl,?_,H.base⟩)))))
 rw [decide_eq_true (by cases x;cases y;simp_all)]

theorem eqState_ok (w:World) (x:qM) (y:qM) {Xn:yOA} {FxAlive:yLN} {axBags:yOA} {FxBags:yLN} {QD:yOA} {FxAround:yLN} {ayAlive:yOA} {cyAlive:Nat} {FyAlive:yLN} {ayBags:yOA} {cyBags:Nat} {FyBags:yLN} {ayAround:yOA} {cyAround:Nat} {FyAround:yLN} (hxAlive:qP.rep w FxAlive [.slice Xn x.qB.length Xm] x.qB) (hxBags:qP.rep w FxBags [.slice axBags x.qE.length cxBags] x.qE) (hxAround:qP.rep w FxAround [.slice QD x.qC.length QC] x.qC) (hyAlive:qP.rep w FyAlive [.slice ayAlive y.qB.length cyAlive] y.qB) (hyBags:qP.rep w FyBags [.slice ayBags y.qE.length cyBags] y.qE) (hyAround:qP.rep w FyAround [.slice ayAround y.qC.length cyAround] y.qC):Calls Tryz.prog 22 #[.agg #[.slice Xn x.qB.length Xm,.slice axBags x.qE.length cxBags,.slice QD x.qC.length QC],.agg #[.slice ayAlive y.qB.length cyAlive,.slice ayBags y.qE.length cyBags,.slice ayAround y.qC.length cyAround]] w (Ret (fun v w' =>v=.bool (decide (x=y))) w):=by
 refine en func22 ntmps22 ?_
 have H:=((((((St.start w).arg hyAround).arg hyBags).arg hyAlive).arg hxAround).arg hxBags).arg hxAlive
 have nhxAlive:=qN hxAlive
 have nhxBags:=qN hxBags
 have nhxAround:=qN hxAround
 have nhyAlive:=qN hyAlive
 have nhyBags:=qN hyBags
 have nhyAround:=qN hyAround
 clear hxAlive hxBags hxAround hyAlive hyBags hyAround
 refine zcr (sw (o_box H (.agg #[.slice Xn x.qB.length Xm,.slice axBags x.qE.length cxBags,.slice QD x.qC.length QC]) rfl fun b1 w2 H=>sw (o_box H (.agg #[.slice ayAlive y.qB.length cyAlive,.slice ayBags y.qE.length cyBags,.slice ayAround y.qC.length cyAround]) rfl fun b3 w4 H=>?_)))
 replace H:St _ _ [.box b3 (yT y ayAlive cyAlive ayBags cyBags ayAround cyAround) 38,.box b1 (yT x Xn Xm axBags cxBags QD QC) 38] _:=H
 refine sp (.bool false) (zjcc (oF rfl (oL rfl (H.cell 1 rfl rfl) (oF rfl (oL rfl (H.cell 0 rfl rfl) (sw (oq (eqBoolS_ok _ x.qB y.qB (H.get 0 rfl).1 (H.get 3 rfl).1) H fun w5 H=>sp (.bool (!(decide (x.qB=y.qB)))) (zjn (xF (!(decide (x.qB=y.qB))) rfl (fun h7=>?_) (fun h7=>?_))))))))))
 ·skip
  replace h7:=xq h7
  replace h7:=of_decide_eq_false h7
  refine zcr (sp (.bool false) (zjr (t_r (ret1 (.bool false) rfl rfl ⟨_,rfl,?_,H.base⟩))))
  rw [decide_eq_false (fun e=>by subst e;simp_all)]
 replace h7:=xk h7
 replace h7:=of_decide_eq_true h7
 refine qV (t_n (zcc (oF rfl (oL rfl (H.cell 1 rfl rfl) (oF rfl (oL rfl (H.cell 0 rfl rfl) (sw (oq (eqInt64SS_ok _ x.qE y.qE (H.get 1 rfl).1 (H.get 4 rfl).1) H fun w8 H=>sp (.bool (!(decide (x.qE=y.qE)))) (zjn (xF (!(decide (x.qE=y.qE))) rfl (fun h10=>?_) (fun h10=>?_)))))))))))
 ·skip
  replace h10:=xq h10
  replace h10:=of_decide_eq_false h10
  refine zcr (sp (.bool false) (zjr (t_r (ret1 (.bool false) rfl rfl ⟨_,rfl,?_,H.base⟩))))
  rw [decide_eq_false (fun e=>by subst e;simp_all)]
 replace h10:=xk h10
 replace h10:=of_decide_eq_true h10
 refine qV (t_n (zcc (oF rfl (oL rfl (H.cell 1 rfl rfl) (oF rfl (oL rfl (H.cell 0 rfl rfl) (sw (oq (QM _ x.qC y.qC (H.get 2 rfl).1 (H.get 5 rfl).1) H fun w11 H=>sp (.bool (!(decide (x.qC=y.qC)))) (zjn (xF (!(decide (x.qC=y.qC))) rfl (fun h13=>?_) (fun h13=>?_)))))))))))
 ·skip
  replace h13:=xq h13
  replace h13:=of_decide_eq_false h13
  refine zcr (sp (.bool false) (zjr (t_r (ret1 (.bool false) rfl rfl ⟨_,rfl,?_,H.base⟩))))
  rw [decide_eq_false (fun e=>by subst e;simp_all)]
 replace h13:=xk h13
 replace h13:=of_decide_eq_true h13
 refine qV (t_n (zcr (sp (.bool true) (zjr (ret1 (.bool true) rfl rfl ⟨_,rfl,?_,H.base⟩)))))
 rw [decide_eq_true (by cases x;cases y;simp_all)]
end
section
open Go.RowKit
set_option linter.unusedVariables false
set_option linter.unusedSimpArgs false
set_option maxRecDepth 100000
set_option maxHeartbeats 4000000
instance:Mark IntoD where
  cnt x:=1+cnt x.jE
  mrk x k:=⟨mrk x.qG (k),mrk x.jE (k+1)⟩
  mkd x k:=mkd x.qG (k)∧mkd x.jE (k+1)
  mkd_mark x k:=by
    simp only [cnt_mark]
    exact ⟨mkd_mark _ _,mkd_mark _ _⟩
  cnt_mark x k:=by simp only [cnt_mark]
theorem cnt_IntoD (x:IntoD):cnt x=1+cnt x.jE:=rfl

instance:Mark QF where
  cnt x:=1+1+cnt x.xE+cnt x.xM+cnt x.xO+cnt x.xW+cnt x.vC+cnt x.qU+1
  mrk x k:=⟨mrk x.qG (k),mrk x.zM (k+1),mrk x.xE (k+1+1),mrk x.xM (k+1+1+(cnt x.xE:Nat)),mrk x.xO (k+1+1+(cnt x.xE:Nat)+(cnt x.xM:Nat)),mrk x.xW (k+1+1+(cnt x.xE:Nat)+(cnt x.xM:Nat)+(cnt x.xO:Nat)),mrk x.vC (k+1+1+(cnt x.xE:Nat)+(cnt x.xM:Nat)+(cnt x.xO:Nat)+(cnt x.xW:Nat)),mrk x.qU (k+1+1+(cnt x.xE:Nat)+(cnt x.xM:Nat)+(cnt x.xO:Nat)+(cnt x.xW:Nat)+(cnt x.vC:Nat)),mrk x.zG (k+1+1+(cnt x.xE:Nat)+(cnt x.xM:Nat)+(cnt x.xO:Nat)+(cnt x.xW:Nat)+(cnt x.vC:Nat)+(cnt x.qU:Nat))⟩
  mkd x k:=mkd x.qG (k)∧mkd x.zM (k+1)∧mkd x.xE (k+1+1)∧mkd x.xM (k+1+1+(cnt x.xE:Nat))∧mkd x.xO (k+1+1+(cnt x.xE:Nat)+(cnt x.xM:Nat))∧mkd x.xW (k+1+1+(cnt x.xE:Nat)+(cnt x.xM:Nat)+(cnt x.xO:Nat))∧mkd x.vC (k+1+1+(cnt x.xE:Nat)+(cnt x.xM:Nat)+(cnt x.xO:Nat)+(cnt x.xW:Nat))∧mkd x.qU (k+1+1+(cnt x.xE:Nat)+(cnt x.xM:Nat)+(cnt x.xO:Nat)+(cnt x.xW:Nat)+(cnt x.vC:Nat))∧mkd x.zG (k+1+1+(cnt x.xE:Nat)+(cnt x.xM:Nat)+(cnt x.xO:Nat)+(cnt x.xW:Nat)+(cnt x.vC:Nat)+(cnt x.qU:Nat))
  mkd_mark x k:=by
    simp only [cnt_mark]
    exact ⟨mkd_mark _ _,mkd_mark _ _,mkd_mark _ _,mkd_mark _ _,mkd_mark _ _,mkd_mark _ _,mkd_mark _ _,mkd_mark _ _,mkd_mark _ _⟩
  cnt_mark x k:=by simp only [cnt_mark]
theorem cnt_RuleD (x:QF):cnt x=1+1+cnt x.xE+cnt x.xM+cnt x.xO+cnt x.xW+cnt x.vC+cnt x.qU+1:=rfl

instance:Mark qM where
  cnt x:=cnt x.qB+cnt x.qE+cnt x.qC
  mrk x k:=⟨mrk x.qB (k),mrk x.qE (k+(cnt x.qB:Nat)),mrk x.qC (k+(cnt x.qB:Nat)+(cnt x.qE:Nat))⟩
  mkd x k:=mkd x.qB (k)∧mkd x.qE (k+(cnt x.qB:Nat))∧mkd x.qC (k+(cnt x.qB:Nat)+(cnt x.qE:Nat))
  mkd_mark x k:=by
    simp only [cnt_mark]
    exact ⟨mkd_mark _ _,mkd_mark _ _,mkd_mark _ _⟩
  cnt_mark x k:=by simp only [cnt_mark]
end
section

class CntTot (α:Type) [Mark α] [Tot α]:Prop where
  le:∀ x:α,cnt x≤10+10 * tot x
instance:CntTot Int:=⟨fun _=>by show 1≤_;omega⟩
instance:CntTot Bool:=⟨fun _=>by show 1≤_;omega⟩
section
variable {α : Type} [Mark α] [Tot α] [Inhabited α] [CntTot α]
theorem cntTo_tot (l:List α):∀ k,cntTo l k≤10 * k+10 * totTo l k
  | 0=>Nat.zero_le _
  | k+1=>by
    have h1:=cntTo_tot l k
    have h2:=CntTot.le (l[k]!)
    rw [cntTo_succ,totTo_succ]
    omega
theorem XM (l:List α):cnt l≤10 * tot l:=by
  have:=cntTo_tot l l.length
  rw [cnt_list,tot_list]
  omega
instance:CntTot (List α):=⟨fun l=>by have:=XM l;omega⟩
end
instance:CntTot IntoD:=⟨fun x=>by
  have h1:=XM x.jE
  have h2:=tot_IntoD x
  have h3:=cnt_IntoD x
  omega⟩
instance:CntTot QF:=⟨fun x=>by
  have h1:=XM x.xE
  have h2:=XM x.xM
  have h3:=XM x.xO
  have h4:=XM x.xW
  have h5:=XM x.vC
  have h6:=XM x.qU
  have h7:=tot_RuleD x
  have h8:=cnt_RuleD x
  omega⟩
theorem ft {b:Bool} (h:b=true) (h' :b=false):False:=by rw [h] at h';cases h'

theorem getset {α:Type} [Inhabited α] {l:List α} {c p:Nat} {v:α} (hc:c < l.length):(l.set c v)[p]! =if p=c then v else l[p]! :=by
  by_cases hp:p < l.length
  · rw [getElem!_pos _ _ (by simpa using hp),getElem!_pos l p hp,List.getElem_set]
    by_cases e:c=p
    · rw [if_pos e,if_pos e.symm]
    · rw [if_neg e,if_neg (fun h=>e h.symm)]
  · rw [if_neg qf,getElem!_neg (l.set c v) p (by simpa using hp),getElem!_neg l p hp]
theorem plus_get {l m:yLI} {t:Int} {k:Nat} (hk:k < l.length):(vY l m t)[k]! =l[k]! +t * m[k]! :=by
  rw [getElem!_pos (vY l m t) k (by rw [plusL_len];exact hk)]
  simp [vY,plusTo]
theorem ext_get {α:Type} [Inhabited α] {l m:List α} (hl:l.length=m.length) (h:∀ k,k < l.length→l[k]! =m[k]!):l=m:=by
  apply List.ext_getElem hl
  intro i h1 h2
  have:=h i h1
  rwa [getElem!_pos l i h1,getElem!_pos m i h2] at this
def Shape (n K:Nat) (B:Int) (b:yLL):Prop:=b.length=n∧∀ p,p < n→(b[p]!).length=K∧∀ k,k < K→ -B≤(b[p]!)[k]! ∧(b[p]!)[k]! ≤B
structure Ent (n K:Nat) (f:Nat→Nat→Int) (B:Int) (b:yLL):Prop where
  sh:Shape n K B b
  eq:∀ p k,p < n→k < K→(b[p]!)[k]! =f p k
def at' (p c:Nat) (x:Int):Int:=if p=c then x else 0
theorem Shape.set {n K:Nat} {B D:Int} {b:yLL} (h:Shape n K B b) {c:Nat} {v:yLI} (hc:c < n) (hv:v.length=K) (hb:∀ k,k < K→ -D≤v[k]! ∧v[k]! ≤D) (hD:B≤D):Shape n K D (b.set c v):=by
  refine ⟨by simp [h.1],fun p hp=>?_⟩
  rw [getset (by rw [h.1];exact hc)]
  by_cases e:p=c
  · rw [if_pos e];exact ⟨hv,hb⟩
  · rw [if_neg e]
    refine ⟨(h.2 p hp).1,fun k hk=>?_⟩
    have:=(h.2 p hp).2 k hk
    omega
theorem Shape.plus {n K:Nat} {B D:Int} {b:yLL} (h:Shape n K B b) {c:Nat} {m:yLI} {t:Int} (hc:c < n) (ht:∀ k,k < K→ -D≤t * m[k]! ∧t * m[k]! ≤D) (hD:0≤D):
    Shape n K (B+D) (b.set c (vY (b[c]!) m t)):=by
  have h1:=h.2 c hc
  refine h.set hc (by rw [plusL_len];exact h1.1) (fun k hk=>?_) qf
  rw [plus_get (by rw [h1.1];exact hk)]
  have:=h1.2 k hk
  have:=ht k hk
  omega
theorem Shape.row {n K:Nat} {B:Int} {b:yLL} (h:Shape n K B b) (hB:B≤1000000000000000) (hK:K≤8) {c:Nat} (hc:c < n):(b[c]!).length=K∧Mid (b[c]!):=by
  have h1:=h.2 c hc
  refine ⟨h1.1,by have:=h1.1;omega,fun k hk=>?_⟩
  have:=h1.2 k (by have:=h1.1;omega)
  omega
theorem Ent.add {n K:Nat} {f:Nat→Nat→Int} {B:Int} {b:yLL} (h:Ent n K f B b) {c:Nat} {m:yLI} {t:Int} {D:Int} {b' :yLL} (e:b' =b.set c (vY (b[c]!) m t)) (hc:c < n) (ht:∀ k,k < K→ -D≤t * m[k]! ∧t * m[k]! ≤D) (hD:0≤D):
    Ent n K (fun p k=>f p k+at' p c (t * m[k]!)) (B+D) b' :=by
  subst e
  refine ⟨h.sh.plus hc ht hD,fun p k hp hk=>?_⟩
  rw [getset (by rw [h.sh.1];exact hc)]
  unfold at'
  by_cases e:p=c
  · subst e
    rw [if_pos rfl,if_pos rfl,plus_get (by rw [(h.sh.2 p hp).1];exact hk),h.eq p k hp hk]
  · rw [if_neg e,if_neg e,h.eq p k hp hk];omega
theorem Shape.mono {n K:Nat} {B D:Int} {b:yLL} (h:Shape n K B b) (hD:B≤D):Shape n K D b:=⟨h.1,fun p hp=>⟨(h.2 p hp).1,fun k hk=>by have:=(h.2 p hp).2 k hk;omega⟩⟩
theorem Ent.to {n K:Nat} {f g:Nat→Nat→Int} {B D:Int} {b:yLL} (h:Ent n K f B b) (e:∀ p k,f p k=g p k) (hD:B≤D):Ent n K g D b:=⟨h.sh.mono hD,fun p k hp hk=>(h.eq p k hp hk).trans (e p k)⟩
theorem Ent.same {n K:Nat} {f g:Nat→Nat→Int} {B D:Int} {b c:yLL} (h:Ent n K f B b) (h' :Ent n K g D c) (e:∀ p k,p < n→k < K→f p k=g p k):b=c:=by
  refine ext_get (by rw [h.sh.1,h'.sh.1]) fun p hp=>?_
  rw [h.sh.1] at hp
  refine ext_get (by rw [(h.sh.2 p hp).1,(h'.sh.2 p hp).1]) fun k hk=>?_
  rw [(h.sh.2 p hp).1] at hk
  rw [h.eq p k hp hk,h'.eq p k hp hk,e p k hp hk]
def tab2 (n K:Nat) (f:Nat→Nat→Int):yLL:=(List.range n).map fun p=>(List.range K).map (f p)
theorem tab2_len (n K:Nat) (f:Nat→Nat→Int):(tab2 n K f).length=n:=by simp [tab2]
theorem tab2_row {n K:Nat} {f:Nat→Nat→Int} {p:Nat} (hp:p < n):(tab2 n K f)[p]! =(List.range K).map (f p):=by
  rw [getElem!_pos (tab2 n K f) p (by rw [tab2_len];exact hp)];simp [tab2]
theorem Ent.tab {n K:Nat} {f:Nat→Nat→Int} {B:Int} {b:yLL} (h:Ent n K f B b):b=tab2 n K f:=by
  refine ext_get (by rw [h.sh.1,tab2_len]) fun p hp=>?_
  rw [h.sh.1] at hp
  rw [tab2_row hp]
  refine ext_get (by rw [(h.sh.2 p hp).1];simp) fun k hk=>?_
  rw [(h.sh.2 p hp).1] at hk
  rw [h.eq p k hp hk,getElem!_pos ((List.range K).map (f p)) k (by simpa using hk)];simp
theorem Ent.snoc {n K:Nat} {f:Nat→Nat→Int} {B:Int} {b:yLL} {a:yLI} (h:Ent n K f B b) (ha:a.length=K) (hb:∀ k,k < K→ -B≤a[k]! ∧a[k]! ≤B) (he:∀ k,k < K→a[k]! =f n k):Ent (n+1) K f B (b++[a]):=by
  have hl:(b++[a]).length=n+1:=by simp [h.sh.1]
  have h1:∀ p,p < n→(b++[a])[p]! =b[p]! :=fun p hp=>by
    rw [getElem!_pos (b++[a]) p qf,getElem!_pos b p (by rw [h.sh.1];exact hp),List.getElem_append_left]
  have h2:(b++[a])[n]! =a:=by
    rw [getElem!_pos (b++[a]) n qf,List.getElem_append_right (by rw [h.sh.1];exact Nat.le_refl _)];simp
  refine ⟨⟨hl,fun p hp=>?_⟩,fun p k hp hk=>?_⟩
  · by_cases e:p=n
    · subst e;rw [h2];exact ⟨ha,hb⟩
    · rw [h1 p qf];exact h.sh.2 p qf
  · by_cases e:p=n
    · subst e;rw [h2];exact he k hk
    · rw [h1 p qf];exact h.eq p k qf hk

def Qj (s:qL):Nat:=s.xB.toNat
abbrev jb (s:qL):Nat:=s.qw.length
def IntoUp (s:qL) (t:qM) (r:QF) (k:Nat):Prop:=∀ j,j < k→t.qB[(r.qU[j]!).qG.toNat]! =true∧xx s t (r.qU[j]!).qG=r.qG
theorem IntoUp.succ {s:qL} {t:qM} {r:QF} {k:Nat} (h:IntoUp s t r k) (h1:t.qB[(r.qU[k]!).qG.toNat]! =true) (h2:xx s t (r.qU[k]!).qG=r.qG):IntoUp s t r (k+1):=fun j hj=>by
  by_cases e:j=k
  · subst e;exact ⟨h1,h2⟩
  · exact h j qf
def EnOk (s:qL) (t:qM) (r:QF):Prop:=
  t.qB[r.qG.toNat]! =true∧within r.xE (t.qE[r.qG.toNat]!)=true∧within r.xM (t.qE[r.qG.toNat]!)=true∧¬ (0 < X0 r.xO∧within r.xO (t.qE[r.qG.toNat]!)=true)∧IntoUp s t r r.qU.length
open Classical in
noncomputable def bestOf (s:qL) (t:qM) (z:Int) (c:Nat):Nat→Int
  | 0=>z
  | k+1=>if EnOk s t (s.qx[k]!)∧(s.qx[k]!).qG.toNat=c then max (bestOf s t z c k) (s.qx[k]!).zM else bestOf s t z c k
noncomputable def bests (s:qL) (t:qM) (z:Int) (n k:Nat):yLI:=tabTo (fun c=>bestOf s t z c k) n
theorem Xh (s:qL) (t:qM) (z:Int) (n k:Nat):(bests s t z n k).length=n:=tabTo_len _ _
theorem tab_get {g:Nat→Int} {n c:Nat} (h:c < n):(tabTo g n)[c]! =g c:=by
  rw [getElem!_pos (tabTo g n) c (by rw [tabTo_len];exact h)];simp [tabTo]
theorem bests_zero (s:qL) (t:qM) (z:Int) (n:Nat):List.replicate n z=bests s t z n 0:=by
  refine ext_get (by simp [Xh]) fun k hk=>?_
  rw [List.length_replicate] at hk
  rw [bests,tab_get hk,getElem!_pos (List.replicate n z) k (by simpa using hk)];simp [bestOf]
theorem bests_get {s:qL} {t:qM} {z:Int} {n k c:Nat} (h:c < n):(bests s t z n k)[c]! =bestOf s t z c k:=tab_get h
theorem bests_set {s:qL} {t:qM} {z:Int} {n k:Nat} (h:EnOk s t (s.qx[k]!)) (hc:(s.qx[k]!).qG.toNat < n):
    (bests s t z n k).set (s.qx[k]!).qG.toNat (max ((bests s t z n k)[(s.qx[k]!).qG.toNat]!) (s.qx[k]!).zM)=bests s t z n (k+1):=by
  refine ext_get (by simp [Xh]) fun p hp=>?_
  rw [List.length_set,Xh] at hp
  rw [getset (by rw [Xh];exact hc),bests_get hc,bests_get hp,bests_get hp,bestOf]
  by_cases e:p=(s.qx[k]!).qG.toNat
  · rw [if_pos e,if_pos ⟨h,e.symm⟩,e]
  · rw [if_neg e,if_neg fun x=>e x.2.symm]
theorem bests_skip {s:qL} {t:qM} {z:Int} {n k:Nat} (h:¬ EnOk s t (s.qx[k]!)):bests s t z n k=bests s t z n (k+1):=by
  refine ext_get (by simp [Xh]) fun p hp=>?_
  rw [Xh] at hp
  rw [bests_get hp,bests_get hp,bestOf,if_neg fun x=>h x.1]
def Appl (s:qL) (t:qM) (i:Nat):Prop:=
  EnOk s t (s.qx[i]!)∧∀ j,j < s.qx.length→EnOk s t (s.qx[j]!)→(s.qx[j]!).qG.toNat=(s.qx[i]!).qG.toNat→(s.qx[j]!).zM≤(s.qx[i]!).zM
theorem best_ge {s:qL} {t:qM} {z:Int} {c:Nat}:∀ {k j:Nat},j < k→EnOk s t (s.qx[j]!)→(s.qx[j]!).qG.toNat=c→(s.qx[j]!).zM≤bestOf s t z c k
  | k+1,j,h,h1,h2=>by
    rw [bestOf]
    by_cases e:j=k
    · subst e;rw [if_pos ⟨h1,h2⟩];omega
    · have:=best_ge (z:=z) (show j < k by omega) h1 h2
      split <;> omega
theorem best_le {s:qL} {t:qM} {z:Int} {c:Nat} {x:Int} (hz:z≤x):∀ {k:Nat},(∀ j,j < k→EnOk s t (s.qx[j]!)→(s.qx[j]!).qG.toNat=c→(s.qx[j]!).zM≤x)→bestOf s t z c k≤x
  | 0,_=>hz
  | k+1,h=>by
    rw [bestOf]
    have h1:=best_le hz (k:=k) fun j hj=>h j qf
    split
    · next h2=>have:=h k qf h2.1 h2.2;omega
    · exact h1
theorem appl_iff {s:qL} {t:qM} {z:Int} {i:Nat} (hi:i < s.qx.length) (hz:z≤(s.qx[i]!).zM):
    Appl s t i↔EnOk s t (s.qx[i]!)∧(s.qx[i]!).zM=bestOf s t z (s.qx[i]!).qG.toNat s.qx.length:=by
  constructor
  · rintro ⟨h1,h2⟩
    refine ⟨h1,?_⟩
    have h3:=best_ge (z:=z) hi h1 rfl
    have h4:=best_le (c:=(s.qx[i]!).qG.toNat) hz (k:=s.qx.length) h2
    omega
  · rintro ⟨h1,h2⟩
    exact ⟨h1,fun j hj h3 h4=>by rw [h2];exact best_ge hj h3 h4⟩
noncomputable def applB (s:qL) (t:qM) (k m:Nat):List Bool:=(List.range m).map fun j=>if j < k then dec (Appl s t j) else dec (EnOk s t (s.qx[j]!))
theorem applB_len (s:qL) (t:qM) (k m:Nat):(applB s t k m).length=m:=by simp [applB]
theorem applB_get {s:qL} {t:qM} {k m j:Nat} (h:j < m):(applB s t k m)[j]! =if j < k then dec (Appl s t j) else dec (EnOk s t (s.qx[j]!)):=by
  rw [getElem!_pos (applB s t k m) j (by rw [applB_len];exact h)];simp [applB]
theorem applB_snoc (s:qL) (t:qM) (m:Nat):applB s t 0 m++[dec (EnOk s t (s.qx[m]!))]=applB s t 0 (m+1):=by simp [applB,List.range_succ]
theorem applB_set {s:qL} {t:qM} {k m:Nat} {x:Bool} (hk:k < m) (hx:x=dec (Appl s t k)):(applB s t k m).set k x=applB s t (k+1) m:=by
  refine ext_get (by simp [applB_len]) fun p hp=>?_
  rw [List.length_set,applB_len] at hp
  rw [getset (by rw [applB_len];exact hk),applB_get hp,applB_get hp]
  by_cases e:p=k
  · subst e;rw [if_pos rfl,if_pos qf,hx]
  · rw [if_neg e]
    by_cases e1:p < k
    · rw [if_pos e1,if_pos qf]
    · rw [if_neg e1,if_neg qf]
theorem applB_step0 {s:qL} {t:qM} {k m:Nat} (hk:k < m) (h:(applB s t k m)[k]! =false):false=dec (Appl s t k):=by
  rw [applB_get hk,if_neg qf] at h
  exact (xn fun x=>zV h x.1).symm
theorem applB_step1 {s:qL} {t:qM} {k m n i:Nat} {z:Int} (hk:k < m) (h:(applB s t k m)[k]! =true) (hm:m=s.qx.length) (hc:(s.qx[k]!).qG.toNat < n) (hz:z≤(s.qx[k]!).zM) (hi:i=s.qx.length):
    ((s.qx[k]!).zM == (bests s t z n i)[(s.qx[k]!).qG.toNat]!)=dec (Appl s t k):=by
  rw [applB_get hk,if_neg qf] at h
  refine dec_eq ?_
  rw [beq_iff_eq,bests_get hc,hi,appl_iff qf hz]
  exact ⟨fun e=>⟨Qb h,e⟩,fun e=>e.2⟩
noncomputable def appl (s:qL) (t:qM):List Bool:=applB s t s.qx.length s.qx.length
theorem appl_len (s:qL) (t:qM):(appl s t).length=s.qx.length:=applB_len _ _ _ _
theorem appl_get {s:qL} {t:qM} {j:Nat} (h:j < s.qx.length):(appl s t)[j]! =dec (Appl s t j):=by rw [appl,applB_get h,if_pos h]
theorem QA {s:qL} {t:qM} {j:Nat} (h:j < s.qx.length) (h1:(appl s t)[j]! =true):Appl s t j:=Qb (appl_get (s:=s) (t:=t) h▸h1)
theorem Qa {s:qL} {t:qM} {j:Nat} (h:j < s.qx.length) (h1:(appl s t)[j]! =false):¬ Appl s t j:=zV (appl_get (s:=s) (t:=t) h▸h1)
def HaltTo (s:qL) (t:qM) (k:Nat):Prop:=∀ j,j < k→¬ Appl s t j
theorem HaltTo.succ {s:qL} {t:qM} {k:Nat} (h:HaltTo s t k) (h1:¬ Appl s t k):HaltTo s t (k+1):=fun j hj=>by
  by_cases e:j=k
  · subst e;exact h1
  · exact h j qf
abbrev Halted (s:qL) (t:qM):Prop:=HaltTo s t s.qx.length
noncomputable def applL (s:qL) (t:qM) (k:Nat):yLI:=((List.range k).filter fun j=>dec (Appl s t j)).map Int.ofNat
theorem applL_yes {s:qL} {t:qM} {k:Nat} (h:Appl s t k):applL s t k++[(k:Int)]=applL s t (k+1):=by simp [applL,List.range_succ,List.filter_append,jP h]
theorem applL_no {s:qL} {t:qM} {k:Nat} (h:¬ Appl s t k):applL s t k=applL s t (k+1):=by simp [applL,List.range_succ,List.filter_append,xn h]
noncomputable def appls (s:qL) (t:qM):yLI:=applL s t s.qx.length
theorem applL_le (s:qL) (t:qM) (k:Nat):(applL s t k).length≤k:=by
  have:=List.length_filter_le (fun j=>dec (Appl s t j)) (List.range k)
  simpa [applL] using this
theorem mem_applL {s:qL} {t:qM} {k:Nat} {x:Int}:x∈applL s t k↔0≤x∧x.toNat < k∧Appl s t x.toNat:=by
  simp only [applL,List.mem_map,List.mem_filter,List.mem_range]
  constructor
  · rintro ⟨j,⟨h1,h2⟩,rfl⟩
    exact ⟨Int.natCast_nonneg j,h1,Qb h2⟩
  · rintro ⟨h0,h1,h2⟩
    exact ⟨x.toNat,⟨h1,jP h2⟩,by show ((x.toNat:Nat):Int)=x;omega⟩
theorem jZ.rule {s:qL} (h:jZ s) {i:Nat} (hi:i < s.qx.length):RuleOk s (s.qx[i]!):=(h.2.2 i hi).1
theorem RuleOk.cell {s:qL} {r:QF} (h:RuleOk s r):r.qG.toNat < jb s:=by have:=h.1.1;have:=h.1.2;unfold jb;omega
theorem zY.len {s:qL} {l:yLI} (h:zY s.xB l):l.length=Qj s:=by have:=h.2;unfold Qj;omega
theorem zY.get {n:Int} {l:yLI} (h:zY n l) {k:Nat} (hk:k < l.length):0≤l[k]! ∧l[k]! ≤1000:=h.1.1 k hk
theorem zY.mul {s:qL} {m:yLI} (h:zY s.xB m) {t:Int} (ht: -1000≤t∧t≤1000):∀ k,k < Qj s→ -1000000≤t * m[k]! ∧t * m[k]! ≤1000000:=fun k hk=>by
  have h1:=h.1.1 k (by rw [h.len];exact hk)
  rcases Int.le_total 0 t with h0 | h0
  · have h2:=Int.mul_nonneg h0 h1.1
    have h3:=Int.mul_le_mul_of_nonneg_left h1.2 h0
    omega
  · have h2:=Int.mul_nonneg (show 0≤ -t by omega) h1.1
    have h3:=Int.mul_le_mul_of_nonneg_left h1.2 (show 0≤ -t by omega)
    have h4: -t * m[k]! = -(t * m[k]!):=Int.neg_mul ..
    omega
theorem zY.yJ {s:qL} {m:yLI} (h:zY s.xB m) {t:Int} (ht: -1000≤t∧t≤1000):SmallT m t:=bagOk_smallT h qf
theorem kinds_le {s:qL} (h:jZ s):Qj s≤8:=by have:=h.1.1.2;unfold Qj;omega
theorem zK.shape {s:qL} {t:qM} (h:zK s t):Shape (jb s) (Qj s) 1000 t.qE:=by
  refine ⟨h.2.1,fun p hp=>?_⟩
  have hb:=h.bagLen (k:=p) (by rw [h.2.1];exact hp)
  refine ⟨hb.len,fun k hk=>?_⟩
  have:=hb.get (k:=k) (by rw [hb.len];exact hk)
  omega
def CntOk (s:qL) (counts:yLI):Prop:=counts.length=s.qx.length∧∀ i,i < counts.length→0≤counts[i]! ∧counts[i]! ≤1000
theorem CntOk.bd {s:qL} {counts:yLI} (h:CntOk s counts) {i:Nat} (hi:i < s.qx.length):0≤counts[i]! ∧counts[i]! ≤1000:=h.2 i (by rw [h.1];exact hi)

def yQ (s:qL) (t:qM) (counts:yLI):Nat→yLL
  | 0=>t.qE
  | k+1=>(yQ s t counts k).set (s.qx[k]!).qG.toNat (vY ((yQ s t counts k)[(s.qx[k]!).qG.toNat]!) (s.qx[k]!).xE (-(counts[k]!)))
def needF (s:qL) (counts:yLI) (i p k:Nat):Int:=at' p (s.qx[i]!).qG.toNat (-(counts[i]!) * ((s.qx[i]!).xE)[k]!)
def needS (s:qL) (counts:yLI):Nat→Nat→Nat→Int
  | 0,_,_=>0
  | i+1,p,k=>needS s counts i p k+needF s counts i p k
theorem restR_ent {s:qL} {t:qM} {counts:yLI} (hs:jZ s) (ht:zK s t) (hc:CntOk s counts):∀ k,k≤s.qx.length→
    Ent (jb s) (Qj s) (fun p q=>(t.qE[p]!)[q]! +needS s counts k p q) (1000+1000000 * k) (yQ s t counts k)
  | 0,_=>⟨by simpa [yQ] using ht.shape,fun p k hp hk=>by simp [yQ,needS]⟩
  | k+1,h=>by
    have hr:=hs.rule (i:=k) qf
    have hcb:=hc.bd (i:=k) qf
    refine ((restR_ent hs ht hc k qf).add (D:=1000000) rfl hr.cell (hr.2.2.2.2.1.mul qf) qf).to (fun p q=>?_) qf
    show _=_+(needS s counts k p q+needF s counts k p q)
    unfold needF;omega
theorem restR_row {s:qL} {t:qM} {counts:yLI} (hs:jZ s) (ht:zK s t) (hc:CntOk s counts) {k c:Nat} (hk:k≤s.qx.length) (h:c < jb s):
    ((yQ s t counts k)[c]!).length=Qj s∧Mid ((yQ s t counts k)[c]!):=(restR_ent hs ht hc k hk).sh.row (by have:=hs.2.1;omega) (kinds_le hs) h
theorem restR_len {s:qL} {t:qM} {counts:yLI}:∀ k,(yQ s t counts k).length=t.qE.length
  | 0=>rfl
  | k+1=>by rw [yQ,List.length_set];exact restR_len k
open Classical in
noncomputable def Qo (P:Nat→Prop):Nat→Nat
  | 0=>0
  | n+1=>if Qo P n < n then Qo P n else if P n then n else n+1
theorem stop_none {P:Nat→Prop}:∀ {n:Nat},(∀ j,j < n→¬ P j)→Qo P n=n
  | 0,_=>rfl
  | n+1,h=>by rw [Qo,stop_none (n:=n) (fun j hj=>h j qf),if_neg qf,if_neg (h n qf)]
theorem stop_first {P:Nat→Prop}:∀ {n k:Nat},(∀ j,j < k→¬ P j)→k < n→P k→Qo P n=k
  | n+1,k,h,hk,hp=>by
    rw [Qo]
    by_cases e:k=n
    · subst e;rw [stop_none h,if_neg qf,if_pos hp]
    · rw [stop_first (n:=n) h qf hp,if_pos qf]
def BadAt (s:qL) (t:qM) (counts:yLI) (i:Nat):Prop:=0 < counts[i]! ∧¬ Appl s t i
def GoodTo (s:qL) (t:qM) (counts:yLI) (k:Nat):Prop:=∀ i,i < k→¬ BadAt s t counts i
theorem GoodTo.succ {s:qL} {t:qM} {counts:yLI} {k:Nat} (h:GoodTo s t counts k) (h1:¬ BadAt s t counts k):GoodTo s t counts (k+1):=fun j hj=>by
  by_cases e:j=k
  · subst e;exact h1
  · exact h j qf
def NonNeg (b:yLL) (n:Nat):Prop:=∀ p,p < n→∀ k,k < (b[p]!).length→0≤(b[p]!)[k]!
theorem NonNeg.succ {b:yLL} {n:Nat} (h:NonNeg b n) (h1:∀ k,k < (b[n]!).length→0≤(b[n]!)[k]!):NonNeg b (n+1):=fun j hj=>by
  by_cases e:j=n
  · subst e;exact h1
  · exact h j qf
def IsCh (s:qL) (t:qM) (counts:yLI):Prop:=GoodTo s t counts counts.length∧NonNeg (yQ s t counts counts.length) t.qE.length
def yH (l m:yLI):Nat→Int
  | 0=>1000
  | k+1=>if 0 < l[k]! then min (yH l m k) (m[k]! / l[k]!) else yH l m k
def jg (l m:yLI):Int:=yH l m l.length
theorem timesTo_pos {l m:yLI} {k:Nat} (h:0 < l[k]!):yH l m (k+1)=min (yH l m k) (m[k]! / l[k]!):=by rw [yH,if_pos h]
theorem timesTo_skip {l m:yLI} {k:Nat} (h:¬ 0 < l[k]!):yH l m (k+1)=yH l m k:=by rw [yH,if_neg h]
theorem timesTo_bd {l m:yLI} (hm:∀ k,k < l.length→0≤m[k]!):∀ k,k≤l.length→0≤yH l m k∧yH l m k≤1000
  | 0,_=>by simp [yH]
  | k+1,h=>by
    have:=timesTo_bd hm k qf
    rw [yH]
    split
    · next h1=>have:=Int.ediv_nonneg (hm k qf) (show 0≤l[k]! by omega);omega
    · exact this
theorem timesTo_le {l m:yLI}:∀ {k j:Nat},j < k→0 < l[j]! →yH l m k≤m[j]! / l[j]!
  | k+1,j,h,h1=>by
    rw [yH]
    by_cases e:j=k
    · subst e;rw [if_pos h1];omega
    · have:=timesTo_le (m:=m) (show j < k by omega) h1
      split <;> omega
theorem timesL_left {l m:yLI} (hl:∀ k,k < l.length→0≤l[k]!) (hm:∀ k,k < l.length→0≤m[k]!) {k:Nat} (hk:k < l.length):0≤m[k]! + -(jg l m) * l[k]! :=by
  have h0:=timesTo_bd hm l.length (Nat.le_refl _)
  rcases Int.lt_or_eq_of_le (hl k hk) with h | h
  · have h1:=timesTo_le (m:=m) hk h
    have h2:m[k]! / l[k]! * l[k]! ≤m[k]! :=Int.ediv_mul_le _ qf
    have h3:=Int.mul_le_mul_of_nonneg_right h1 (show 0≤l[k]! by omega)
    have h4: -(jg l m) * l[k]! = -(jg l m * l[k]!):=Int.neg_mul ..
    unfold jg at *
    omega
  · rw [← h];have:=hm k hk;omega
def QT (l m:yLI) (i:Nat) (best:Int):Prop:=(best=yH l m i∧∃ j,j < i∧0 < l[j]!)∨(best= -1∧yH l m i=1000∧∀ j,j < i→l[j]! ≤0)
theorem QT.zero (l m:yLI):QT l m 0 (-1):=.inr ⟨rfl,rfl,fun j hj=>by omega⟩
theorem QT.take {l m:yLI} {i:Nat} {best:Int} (h:QT l m i best) (hm:0≤m[i]! ∧m[i]! ≤1000) (hl:0 < l[i]!) (hb:best < 0∨m[i]! / l[i]! < best) (hn:0≤yH l m i):QT l m (i+1) (m[i]! / l[i]!):=by
  refine .inl ⟨?_,i,by omega,hl⟩
  rw [timesTo_pos hl]
  have h1:m[i]! / l[i]! ≤m[i]! :=Int.ediv_le_self _ hm.1
  rcases h with ⟨h,_⟩ | ⟨h,h2,_⟩ <;> omega
theorem QT.keep {l m:yLI} {i:Nat} {best:Int} (h:QT l m i best) (hl:¬ 0 < l[i]!):QT l m (i+1) best:=by
  unfold QT
  rw [timesTo_skip hl]
  rcases h with ⟨h,j,h1,h2⟩ | ⟨h,h2,h3⟩
  · exact .inl ⟨h,j,by omega,h2⟩
  · refine .inr ⟨h,h2,fun j hj=>?_⟩
    by_cases e:j=i
    · subst e;omega
    · exact h3 j qf
theorem QT.keep2 {l m:yLI} {i:Nat} {best:Int} (h:QT l m i best) (hl:0 < l[i]!) (hb:¬ best < 0) (hn:¬ m[i]! / l[i]! < best):QT l m (i+1) best:=by
  refine .inl ⟨?_,i,by omega,hl⟩
  rw [timesTo_pos hl]
  rcases h with ⟨h,_⟩ | ⟨h,_⟩ <;> omega
theorem QT.done {l m:yLI} {i:Nat} {best:Int} (h:QT l m i best) (hp:∃ j,j < i∧0 < l[j]!):best=yH l m i:=by
  rcases h with ⟨h,_⟩ | ⟨_,_,h3⟩
  · exact h
  · obtain ⟨j,h1,h2⟩:=hp
    have:=h3 j h1;omega
theorem sum_pos {l:yLI} (h:X4 l) (h1:X0 l≠0):∃ j,j < l.length∧0 < l[j]! :=by
  apply Classical.byContradiction
  intro hn
  have h0:∀ k,k≤l.length→sumTo l k=0:=by
    intro k
    induction k with
    | zero=>intro _;rfl
    | succ k ih=>
      intro hk
      have h2:=h.1 k qf
      have h3:¬ 0 < l[k]! :=fun h4=>hn ⟨k,by omega,h4⟩
      rw [sumTo,ih qf];omega
  exact h1 (h0 _ (Nat.le_refl _))
def Box (n K:Nat) (b:yLL):Prop:=b.length=n∧∀ p,p < n→(b[p]!).length=K∧∀ k,k < K→0≤(b[p]!)[k]! ∧(b[p]!)[k]! ≤1000
theorem zK.box {s:qL} {t:qM} (h:zK s t):Box (jb s) (Qj s) t.qE:=by
  refine ⟨h.2.1,fun p hp=>?_⟩
  have hb:=h.bagLen (k:=p) (by rw [h.2.1];exact hp)
  exact ⟨hb.len,fun k hk=>hb.get (by rw [hb.len];exact hk)⟩
theorem parentNow_root {s:qL} {t:qM} (hs:yO s):xx s t 0= -1:=by
  unfold xx
  rw [show s.qw[(0:Int).toNat]! = -1 from hs.2.2.1]
  exact climb_end fun h=>by omega
def outPl (s:qL) (t:qM) (r:QF):Nat:=if r.qG=0 then jb s else (xx s t r.qG).toNat
theorem outPl_root {s:qL} {t:qM} {r:QF} (h:r.qG=0):outPl s t r=jb s:=by rw [outPl,if_pos h]
theorem outPl_up {s:qL} {t:qM} {r:QF} (h:r.qG≠0):outPl s t r=(xx s t r.qG).toNat:=by rw [outPl,if_neg h]
def intoF (r:QF) (c:Int):Nat→Nat→Nat→Int
  | 0,_,_=>0
  | j+1,p,k=>intoF r c j p k+at' p (r.qU[j]!).qG.toNat (c * ((r.qU[j]!).jE)[k]!)
def putF (s:qL) (t:qM) (r:QF) (c:Int) (p k:Nat):Int:=at' p r.qG.toNat (c * r.xW[k]!)+at' p (outPl s t r) (c * r.vC[k]!)+intoF r c r.qU.length p k
def putS (s:qL) (t:qM) (counts:yLI):Nat→Nat→Nat→Int
  | 0,_,_=>0
  | i+1,p,k=>putS s t counts i p k+putF s t (s.qx[i]!) (counts[i]!) p k
def allS (s:qL) (t:qM) (counts:yLI):Nat→Nat→Nat→Int
  | 0,_,_=>0
  | i+1,p,k=>allS s t counts i p k+needF s counts i p k+putF s t (s.qx[i]!) (counts[i]!) p k
theorem allS_eq (s:qL) (t:qM) (counts:yLI) (p k:Nat):∀ i,allS s t counts i p k=needS s counts i p k+putS s t counts i p k
  | 0=>rfl
  | i+1=>by
    have:=allS_eq s t counts p k i
    simp only [allS,needS,putS]
    omega
theorem at_zero (p c:Nat) (x:Int):at' p c (0 * x)=0:=by unfold at';split <;> simp
theorem intoF_zero (r:QF) (p k:Nat):∀ j,intoF r 0 j p k=0
  | 0=>rfl
  | j+1=>by rw [intoF,intoF_zero r p k j,at_zero];rfl
theorem putF_zero (s:qL) (t:qM) (r:QF) {c:Int} (h:c=0) (p k:Nat):putF s t r c p k=0:=by
  subst h;rw [putF,at_zero,at_zero,intoF_zero];rfl
theorem putS_skip {s:qL} {t:qM} {counts:yLI} {i:Nat} (h:counts[i]! =0) (p k:Nat):putS s t counts (i+1) p k=putS s t counts i p k:=by
  rw [putS,putF_zero s t _ h];omega
def base0 (s:qL) (t:qM) (p k:Nat):Int:=if p < jb s then (t.qE[p]!)[k]! else t.qC[k]!
def stepF (s:qL) (t:qM) (counts:yLI) (p k:Nat):Int:=base0 s t p k+allS s t counts s.qx.length p k
noncomputable def xu (s:qL) (t:qM) (counts:yLI):qM:=
  ⟨t.qB,(tab2 (jb s+1) (Qj s) (stepF s t counts)).take (jb s),(tab2 (jb s+1) (Qj s) (stepF s t counts))[jb s]!⟩
theorem zK.around {s:qL} {t:qM} (h:zK s t):t.qC.length=Qj s∧∀ k,k < Qj s→0≤t.qC[k]! ∧t.qC[k]! ≤1000:=by
  have hb:=h.2.2.2.1
  exact ⟨hb.len,fun k hk=>hb.get (by rw [hb.len];exact hk)⟩
theorem start_ent {s:qL} {t:qM} {counts:yLI} (ht:zK s t):Ent (jb s+1) (Qj s) (fun p k=>base0 s t p k+allS s t counts 0 p k) 1000 (t.qE++[t.qC]):=by
  have h1:Ent (jb s) (Qj s) (fun p k=>base0 s t p k+allS s t counts 0 p k) 1000 t.qE:=⟨ht.shape,fun p k hp hk=>by simp [base0,hp,allS]⟩
  refine h1.snoc ht.around.1 (fun k hk=>by have:=ht.around.2 k hk;omega) fun k hk=>?_
  simp [base0,allS]
theorem rest_ent {s:qL} {t:qM} {counts:yLI} (hs:jZ s) (ht:zK s t) (hc:CntOk s counts):
    Ent (jb s+1) (Qj s) (fun p k=>base0 s t p k+needS s counts s.qx.length p k+putS s t counts 0 p k) (1000+1000000 * s.qx.length) (yQ s t counts s.qx.length++[t.qC]):=by
  have h1:Ent (jb s) (Qj s) (fun p k=>base0 s t p k+needS s counts s.qx.length p k+putS s t counts 0 p k) (1000+1000000 * s.qx.length) (yQ s t counts s.qx.length):=by
    have h0:=restR_ent hs ht hc _ (Nat.le_refl _)
    exact ⟨h0.sh,fun p k hp hk=>by rw [h0.eq p k hp hk];simp [base0,hp,putS]⟩
  refine h1.snoc ht.around.1 (fun k hk=>by have:=ht.around.2 k hk;omega) fun k hk=>?_
  have h2:∀ i,i≤s.qx.length→needS s counts i (jb s) k=0:=by
    intro i
    induction i with
    | zero=>intro _;rfl
    | succ i ih=>
      intro hi
      have:=(hs.rule (i:=i) qf).cell
      rw [needS,ih qf,needF,at',if_neg qf];rfl
  rw [h2 _ (Nat.le_refl _)]
  simp [base0,putS]
theorem step_tab {s:qL} {t:qM} {counts:yLI} {B:Int} {b:yLL} (h:Ent (jb s+1) (Qj s) (fun p k=>base0 s t p k+allS s t counts s.qx.length p k) B b):
    b.take (jb s)=(xu s t counts).qE∧b[jb s]! =(xu s t counts).qC:=by
  have e:=h.tab
  constructor
  · show _=(tab2 _ _ _).take _
    rw [e];rfl
  · show _=(tab2 _ _ _)[_]!
    rw [e];rfl
theorem step_tab2 {s:qL} {t:qM} {counts:yLI} {B:Int} {b:yLL} {a:yLI} (hb:b.length=jb s) (h:Ent (jb s+1) (Qj s) (fun p k=>base0 s t p k+needS s counts s.qx.length p k+putS s t counts s.qx.length p k) B (b++[a])):
    b=(xu s t counts).qE∧a=(xu s t counts).qC:=by
  have h1:=step_tab (h.to (g:=fun p k=>base0 s t p k+allS s t counts s.qx.length p k) (fun p k=>by rw [allS_eq];omega) (Int.le_refl _))
  rw [← hb,List.take_left] at h1
  refine ⟨h1.1,?_⟩
  rw [← h1.2,getElem!_pos (b++[a]) b.length qm,List.getElem_append_right (Nat.le_refl _)];simp
theorem cat_set {b:yLL} {a v:yLI} {c:Nat} (hc:c < b.length):(b++[a]).set c v=b.set c v++[a]:=List.set_append_left c v hc
theorem cat_setN {b:yLL} {a v:yLI} {n:Nat} (h:b.length=n):(b++[a]).set n v=b++[v]:=by
  rw [List.set_append_right _ _ qf,h];simp
theorem cat_get {b:yLL} {a:yLI} {c:Nat} (hc:c < b.length):(b++[a])[c]! =b[c]! :=by
  rw [getElem!_pos (b++[a]) c (by simp;omega),getElem!_pos b c hc,List.getElem_append_left hc]
theorem cat_getN {b:yLL} {a:yLI} {n:Nat} (h:b.length=n):(b++[a])[n]! =a:=by
  rw [getElem!_pos (b++[a]) n (by simp;omega),List.getElem_append_right qf];simp [h]
theorem Ent.addL {n K:Nat} {f:Nat→Nat→Int} {B D:Int} {b:yLL} {a:yLI} (h:Ent (n+1) K f B (b++[a])) {c:Nat} {m:yLI} {t:Int} {b' :yLL} (e:b' =b.set c (vY (b[c]!) m t)) (hb:b.length=n) (hc:c < n) (ht:∀ k,k < K→ -D≤t * m[k]! ∧t * m[k]! ≤D) (hD:0≤D):
    Ent (n+1) K (fun p k=>f p k+at' p c (t * m[k]!)) (B+D) (b' ++[a]):=
  h.add (by rw [e,← cat_set qf,cat_get qf]) qf ht hD
theorem Ent.addN {n K:Nat} {f:Nat→Nat→Int} {B D:Int} {b:yLL} {a:yLI} (h:Ent (n+1) K f B (b++[a])) {m:yLI} {t:Int} {a' :yLI} (e:a' =vY a m t) (hb:b.length=n) (ht:∀ k,k < K→ -D≤t * m[k]! ∧t * m[k]! ≤D) (hD:0≤D):
    Ent (n+1) K (fun p k=>f p k+at' p n (t * m[k]!)) (B+D) (b++[a']):=
  h.add (by rw [e,cat_setN hb,cat_getN hb]) qf ht hD
theorem Ent.rowL {n K:Nat} {f:Nat→Nat→Int} {B:Int} {b:yLL} {a:yLI} (h:Ent (n+1) K f B (b++[a])) (hb:b.length=n) (hB:B≤1000000000000000) (hK:K≤8) {c:Nat} (hc:c < n):(b[c]!).length=K∧Mid (b[c]!):=by
  have:=h.sh.row hB hK (c:=c) qf
  rwa [cat_get qf] at this
theorem Ent.rowN {n K:Nat} {f:Nat→Nat→Int} {B:Int} {b:yLL} {a:yLI} (h:Ent (n+1) K f B (b++[a])) (hb:b.length=n) (hB:B≤1000000000000000) (hK:K≤8):a.length=K∧Mid a:=by
  have:=h.sh.row hB hK (c:=n) qf
  rwa [cat_getN hb] at this

def QH (s:qL) (counts:yLI) (c:Int) (k:Nat):Prop:=∃ i,i < k∧0 < counts[i]! ∧(s.qx[i]!).zG=true∧(s.qx[i]!).qG=c
theorem melts_zero (s:qL) (counts:yLI) (c:Int):¬ QH s counts c 0:=fun ⟨i,h,_⟩=>by omega
theorem melts_succ {s:qL} {counts:yLI} {c:Int} {k:Nat}:QH s counts c (k+1)↔QH s counts c k∨(0 < counts[k]! ∧(s.qx[k]!).zG=true∧(s.qx[k]!).qG=c):=by
  constructor
  · rintro ⟨i,h,h1⟩
    by_cases e:i=k
    · subst e;exact .inr h1
    · exact .inl ⟨i,by omega,h1⟩
  · rintro (⟨i,h,h1⟩ | h)
    · exact ⟨i,by omega,h1⟩
    · exact ⟨k,by omega,h⟩
theorem melts_1 {s:qL} {counts:yLI} {c:Int} {k:Nat} (h:dec (QH s counts c k)=true):true=dec (QH s counts c (k+1)):=(jP (melts_succ.2 (.inl (Qb h)))).symm
theorem melts_2 {s:qL} {counts:yLI} {c:Int} {k:Nat} (h:dec (QH s counts c k)=false) (h1:¬ counts[k]! > 0):false=dec (QH s counts c (k+1)):=
  (xn fun x=>(melts_succ.1 x).elim (zV h) fun y=>h1 y.1).symm
theorem melts_3 {s:qL} {counts:yLI} {c:Int} {k:Nat} (h:dec (QH s counts c k)=false) (h1:(s.qx[k]!).zG=false):false=dec (QH s counts c (k+1)):=
  (xn fun x=>(melts_succ.1 x).elim (zV h) fun y=>ft y.2.1 h1).symm
theorem melts_4 {s:qL} {counts:yLI} {c:Int} {k:Nat} (h:dec (QH s counts c k)=false) (h1:counts[k]! > 0) (h2:(s.qx[k]!).zG=true):((s.qx[k]!).qG == c)=dec (QH s counts c (k+1)):=by
  refine dec_eq ?_
  rw [beq_iff_eq,melts_succ]
  exact ⟨fun e=>.inr ⟨h1,h2,e⟩,fun x=>x.elim (fun y=>absurd y (zV h)) fun y=>y.2.2⟩
abbrev Melts (s:qL) (counts:yLI) (c:Int):Prop:=QH s counts c s.qx.length
noncomputable def yt (s:qL) (counts:yLI) (n k:Nat):List Bool:=(List.range n).map fun c:Nat=>dec (QH s counts (c:Int) k)
theorem meltsL_len (s:qL) (counts:yLI) (n k:Nat):(yt s counts n k).length=n:=by simp [yt]
theorem meltsL_get {s:qL} {counts:yLI} {n k c:Nat} (h:c < n):(yt s counts n k)[c]! =dec (QH s counts (c:Int) k):=by
  rw [getElem!_pos (yt s counts n k) c (by rw [meltsL_len];exact h)];simp [yt]
theorem meltsL_zero (s:qL) (counts:yLI) (n:Nat):List.replicate n false=yt s counts n 0:=by
  refine ext_get (by simp [meltsL_len]) fun k hk=>?_
  rw [List.length_replicate] at hk
  rw [meltsL_get hk,xn (melts_zero _ _ _),getElem!_pos (List.replicate n false) k (by simpa using hk)];simp
theorem meltsL_set {s:qL} {counts:yLI} {n k:Nat} (h0:0≤(s.qx[k]!).qG) (h:(s.qx[k]!).qG.toNat < n) {x:Bool} (hx:x=true↔((yt s counts n k)[(s.qx[k]!).qG.toNat]! =true∨(0 < counts[k]! ∧(s.qx[k]!).zG=true))):
    (yt s counts n k).set (s.qx[k]!).qG.toNat x=yt s counts n (k+1):=by
  refine ext_get (by simp [meltsL_len]) fun p hp=>?_
  rw [List.length_set,meltsL_len] at hp
  rw [getset (by rw [meltsL_len];exact h),meltsL_get hp,meltsL_get hp]
  rw [meltsL_get h] at hx
  by_cases e:p=(s.qx[k]!).qG.toNat
  · rw [if_pos e]
    refine dec_eq (hx.trans ?_)
    rw [melts_succ,e,show (((s.qx[k]!).qG.toNat:Nat):Int)=(s.qx[k]!).qG by omega]
    constructor
    · rintro (h1 | h1)
      · exact .inl (Qb h1)
      · exact .inr ⟨h1.1,h1.2,rfl⟩
    · rintro (h1 | h1)
      · exact .inl (jP h1)
      · exact .inr ⟨h1.1,h1.2.1⟩
  · rw [if_neg e]
    refine dec_congr ?_
    rw [melts_succ]
    constructor
    · exact .inl
    · rintro (h1 | ⟨_,_,h1⟩)
      · exact h1
      · exfalso;omega
open Classical in
noncomputable def xm (s:qL) (counts:yLI) (u:qM):Nat→qM
  | 0=>u
  | j+1=>if Melts s counts ((jb s:Int) - 1 - j) then melted s (xm s counts u j) ((jb s:Int) - 1 - j) else xm s counts u j
theorem meltDown_yes {s:qL} {counts:yLI} {u:qM} {j:Nat} {c:Int} (h:Melts s counts c) (hc:c=(jb s:Int) - 1 - j):xm s counts u (j+1)=melted s (xm s counts u j) c:=by subst hc;rw [xm,if_pos h]
theorem meltDown_no {s:qL} {counts:yLI} {u:qM} {j:Nat} {c:Int} (h:¬ Melts s counts c) (hc:c=(jb s:Int) - 1 - j):xm s counts u (j+1)=xm s counts u j:=by subst hc;rw [xm,if_neg h]
theorem Qu {s:qL} {counts:yLI} {u:qM} {j i:Nat} {c:Int} (h:dec (QH s counts c i)=true) (hi:i=s.qx.length) (hc:c=(jb s:Int) - 1 - j):xm s counts u (j+1)=melted s (xm s counts u j) c:=by subst hi;exact meltDown_yes (Qb h) hc
theorem meltDown_no' {s:qL} {counts:yLI} {u:qM} {j i:Nat} {c:Int} (h:dec (QH s counts c i)=false) (hi:i=s.qx.length) (hc:c=(jb s:Int) - 1 - j):xm s counts u (j+1)=xm s counts u j:=by subst hi;exact meltDown_no (zV h) hc
theorem Qg (s:qL) (counts:yLI) (u:qM):∀ j,(xm s counts u j).qC=u.qC
  | 0=>rfl
  | j+1=>by
    rw [xm]
    split
    · exact Qg s counts u j
    · exact Qg s counts u j
structure Live (s:qL) (B:Int) (u:qM):Prop where
  alive:u.qB.length=jb s
  root:u.qB[0]! =true
  bags:Shape (jb s) (Qj s) B u.qE
  around:u.qC.length=Qj s
theorem Live.melt {s:qL} {B:Int} {u:qM} (hs:jZ s) (h:Live s B u) (hB:0≤B) {c:Int} (h0:0 < c) (h1:c≤(jb s:Int) - 1):Live s (2 * B) (melted s u c):=by
  have hp:=VH (t:=u) hs.1 h.root h0 h1
  have hpc:(xx s u c).toNat < jb s:=by omega
  have hcc:c.toNat < jb s:=by omega
  refine ⟨by simp [melted,h.alive],?_,?_,h.around⟩
  · show (u.qB.set c.toNat false)[0]! =true
    rw [getset (by rw [h.alive];exact hcc),if_neg qf];exact h.root
  · have hr:=(h.bags.2 _ hcc).2
    have hk:=(h.bags.2 _ hcc).1
    have h2:=h.bags.plus (m:=u.qE[c.toNat]!) (t:=1) (D:=B) hpc (fun k hk=>by have:=hr k hk;omega) hB
    refine (h2.set (D:=B+B) hcc (by simp [Qj]) (fun k hk=>?_) qf).mono qf
    rw [getElem!_pos (List.replicate s.xB.toNat (0:Int)) k (by simpa [Qj] using hk)]
    simp;omega
def bnd:Nat→Int
  | 0=>200000000
  | j+1=>2 * bnd j
theorem bnd_pos:∀ j,0≤bnd j
  | 0=>by simp [bnd]
  | j+1=>by have:=bnd_pos j;simp only [bnd];omega
theorem bnd_mono:∀ {i j:Nat},i≤j→bnd i≤bnd j
  | i, 0, h => by obtain rfl : i = 0 := by omega
                  exact Int.le_refl _
  | i,j+1,h=>by
    by_cases e:i=j+1
    · subst e;exact Int.le_refl _
    · have:=bnd_mono (show i≤j by omega)
      have:=bnd_pos j
      simp only [bnd];omega
theorem bnd_le {j:Nat} (h:j≤6):bnd j≤12800000000:=Int.le_trans (bnd_mono h) (by simp [bnd])
theorem Live.mono {s:qL} {B D:Int} {u:qM} (h:Live s B u) (hD:B≤D):Live s D u:=⟨h.alive,h.root,h.bags.mono hD,h.around⟩
theorem stepped_live {s:qL} {t:qM} {counts:yLI} {B:Int} {b:yLL} (ht:zK s t) (h:Ent (jb s+1) (Qj s) (fun p k=>base0 s t p k+allS s t counts s.qx.length p k) B b) (hB:B≤200000000):Live s (bnd 0) (xu s t counts):=by
  have h1:=step_tab h
  have hr:=h.sh.2 (jb s) qf
  refine ⟨ht.1,ht.2.2.1,?_,by rw [← h1.2];exact hr.1⟩
  rw [← h1.1]
  refine ⟨by rw [List.length_take,h.sh.1];omega,fun p hp=>?_⟩
  have e:(b.take (jb s))[p]! =b[p]! :=by
    rw [getElem!_pos (b.take (jb s)) p (by rw [List.length_take,h.sh.1];omega),getElem!_pos b p (by rw [h.sh.1];omega)];simp
  rw [e]
  have:=h.sh.2 p qf
  exact ⟨this.1,fun k hk=>by have:=this.2 k hk;simp only [bnd];omega⟩
theorem meltDown_live {s:qL} {counts:yLI} {u:qM} (hs:jZ s) (h:Live s (bnd 0) u):∀ j,j+1≤jb s→Live s (bnd j) (xm s counts u j)
  | 0,_=>h
  | j+1,hj=>by
    have ih:=meltDown_live (counts:=counts) hs h j qf
    by_cases hm:Melts s counts ((jb s:Int) - 1 - j)
    · rw [meltDown_yes hm rfl];exact ih.melt hs (bnd_pos j) qf qf
    · rw [meltDown_no hm rfl];exact ih.mono (bnd_mono qf)
theorem Live.rows {s:qL} {B:Int} {u:qM} (hs:jZ s) (h:Live s B u) (hB:B≤12800000000) {p c:Nat} (hp:p < jb s) (hc:c < jb s):
    (u.qE[p]!).length≤(u.qE[c]!).length∧Mid (u.qE[p]!)∧SmallT (u.qE[c]!) 1:=by
  have h1:=h.bags.row qf (kinds_le hs) hp
  have h2:=h.bags.row qf (kinds_le hs) hc
  refine ⟨by omega,h1.2,fun k hk=>?_⟩
  have:=h2.2.2 k hk
  omega
noncomputable def stepRes (s:qL) (t:qM) (counts:yLI):qM×Int:=told s (xm s counts (xu s t counts) (jb s - 1))
open Classical in
noncomputable def zA (s:qL) (t:qM) (counts:yLI):qM×Int:=if IsCh s t counts then stepRes s t counts else (default,4)
theorem stepBy_yes {s:qL} {t:qM} {counts:yLI} (h:IsCh s t counts):zA s t counts=stepRes s t counts:=by rw [zA,if_pos h]
theorem stepBy_no {s:qL} {t:qM} {counts:yLI} (h:¬ IsCh s t counts):zA s t counts=(default,4):=by rw [zA,if_neg h]
def minus (k:Nat):yLI:=(List.range 6).map fun j=>if j < k then -1 else 0
theorem minus_len (k:Nat):(minus k).length=6:=by simp [minus]
theorem minus_get {k j:Nat} (h:j < 6):(minus k)[j]! =if j < k then -1 else 0:=by
  rw [getElem!_pos (minus k) j (by rw [minus_len];exact h)];simp [minus]
theorem minus_set {k:Nat} (h:k < 6):(minus k).set k (-1)=minus (k+1):=by
  refine ext_get (by simp [minus_len]) fun p hp=>?_
  rw [List.length_set,minus_len] at hp
  rw [getset (by rw [minus_len];exact h),minus_get hp,minus_get hp]
  by_cases e:p=k
  · rw [if_pos e,if_pos qf]
  · rw [if_neg e]
    by_cases h1:p < k
    · rw [if_pos h1,if_pos qf]
    · rw [if_neg h1,if_neg qf]
theorem minus_six {k:Nat} (h:k=6) (s:qL) (t:qM):minus k=bests s t (-1) 6 0:=by
  subst h
  rw [← bests_zero];rfl
theorem appl_yes {s:qL} {t:qM} {i k n:Nat} {z:Int} (hk:k=s.qx.length) (hi:i < s.qx.length) (hz:z≤(s.qx[i]!).zM) (hc:(s.qx[i]!).qG.toNat < n) (h1:(s.qx[i]!).zM=(bests s t z n k)[(s.qx[i]!).qG.toNat]!) (h2:EnOk s t (s.qx[i]!)):Appl s t i:=by
  rw [bests_get hc,hk] at h1
  exact (appl_iff hi hz).2 ⟨h2,h1⟩
theorem appl_no {s:qL} {t:qM} {i k n:Nat} {z:Int} (hk:k=s.qx.length) (hi:i < s.qx.length) (hz:z≤(s.qx[i]!).zM) (hc:(s.qx[i]!).qG.toNat < n) (h1:(s.qx[i]!).zM≠(bests s t z n k)[(s.qx[i]!).qG.toNat]!):¬ Appl s t i:=fun h=>by
  rw [bests_get hc,hk] at h1
  exact h1 ((appl_iff hi hz).1 h).2
theorem appls_halt {s:qL} {t:qM}:(appls s t).length=0↔Halted s t:=by
  constructor
  · intro h j hj ha
    have:(j:Int)∈appls s t:=mem_applL.2 ⟨Int.natCast_nonneg j,by simpa using hj,by simpa using ha⟩
    rw [List.length_eq_zero_iff.1 h] at this;cases this
  · intro h
    rw [List.length_eq_zero_iff]
    apply List.eq_nil_iff_forall_not_mem.2
    intro x hx
    obtain ⟨h0,h1,h2⟩:=mem_applL.1 hx
    exact h _ h1 h2
theorem outPl_in {s:qL} {t:qM} {r:QF} (hs:yO s) (h:0≤xx s t r.qG):outPl s t r=(xx s t r.qG).toNat:=by
  refine outPl_up fun e=>?_
  rw [e,parentNow_root hs] at h;omega
theorem outPl_out {s:qL} {t:qM} {r:QF} (hs:yO s) (h0:t.qB[0]! =true) (hc:CellIn s r.qG) (h:¬ 0≤xx s t r.qG):outPl s t r=s.qw.length:=by
  refine outPl_root ?_
  rcases Int.lt_or_eq_of_le hc.1 with h1 | h1
  · exact absurd (VH hs h0 h1 hc.2).1 h
  · exact h1.symm
theorem parentNow_lt {s:qL} {t:qM} (hs:yO s) (h0:t.qB[0]! =true) {c:Int} (hc:CellIn s c):xx s t c≤(s.qw.length:Int) - 1:=by
  rcases Int.lt_or_eq_of_le hc.1 with h1 | h1
  · have:=VH hs h0 h1 hc.2;have:=hc.2;omega
  · rw [← h1,parentNow_root hs];have:=hs.2.1;omega
theorem stepBy_ok {s:qL} {t:qM} {counts:yLI} (h:(zA s t counts).2=0):zK s (zA s t counts).1:=by
  by_cases hc:IsCh s t counts
  · rw [stepBy_yes hc] at h ⊢
    unfold stepRes at h ⊢
    by_cases ho:zK s (xm s counts (xu s t counts) (jb s - 1))
    · rw [told_yes ho];exact ho
    · rw [told_no ho] at h;cases h
  · rw [stepBy_no hc] at h;cases h
theorem meltsL_1 {s:qL} {counts:yLI} {n k:Nat} (h0:0≤(s.qx[k]!).qG) (h:(s.qx[k]!).qG.toNat < n) (h1:(yt s counts n k)[(s.qx[k]!).qG.toNat]! =true):(yt s counts n k).set (s.qx[k]!).qG.toNat true=yt s counts n (k+1):=
  meltsL_set h0 h ⟨fun _=>.inl h1,fun _=>rfl⟩
theorem meltsL_2 {s:qL} {counts:yLI} {n k:Nat} (h0:0≤(s.qx[k]!).qG) (h:(s.qx[k]!).qG.toNat < n) (h1:(yt s counts n k)[(s.qx[k]!).qG.toNat]! =false) (h2:¬ counts[k]! > 0):(yt s counts n k).set (s.qx[k]!).qG.toNat false=yt s counts n (k+1):=
  meltsL_set h0 h ⟨fun h=>(by cases h),fun h=>h.elim (fun h=>(ft h h1).elim) fun h=>(h2 h.1).elim⟩
theorem meltsL_3 {s:qL} {counts:yLI} {n k:Nat} (h0:0≤(s.qx[k]!).qG) (h:(s.qx[k]!).qG.toNat < n) (h1:(yt s counts n k)[(s.qx[k]!).qG.toNat]! =false) (h2:counts[k]! > 0):(yt s counts n k).set (s.qx[k]!).qG.toNat (s.qx[k]!).zG=yt s counts n (k+1):=
  meltsL_set h0 h ⟨fun h=>.inr ⟨h2,h⟩,fun h=>h.elim (fun h=>(ft h h1).elim) fun h=>h.2⟩
theorem meltDown_yesL {s:qL} {counts:yLI} {u:qM} {j i n:Nat} {c:Int} (h:(yt s counts n i)[c.toNat]! =true) (hn:c.toNat < n) (h0:0≤c) (hi:i=s.qx.length) (hc:c=(jb s:Int) - 1 - j):xm s counts u (j+1)=melted s (xm s counts u j) c:=by
  rw [meltsL_get hn,show ((c.toNat:Nat):Int)=c by omega] at h
  exact Qu h hi hc
theorem meltDown_noL {s:qL} {counts:yLI} {u:qM} {j i n:Nat} {c:Int} (h:(yt s counts n i)[c.toNat]! =false) (hn:c.toNat < n) (h0:0≤c) (hi:i=s.qx.length) (hc:c=(jb s:Int) - 1 - j):xm s counts u (j+1)=xm s counts u j:=by
  rw [meltsL_get hn,show ((c.toNat:Nat):Int)=c by omega] at h
  exact meltDown_no' h hi hc
theorem copy_pre {n K:Nat} {f:Nat→Nat→Int} {B:Int} {b:yLL} {al:List Bool} (h:Ent (n+1) K f B b) (hK:K≤8) (hn:n≤6) (ha:al.length=n):
    (⟨al,b.take n,b[n]!⟩:qM).qB.length≤1000000∧(⟨al,b.take n,b[n]!⟩:qM).qC.length≤1000000∧(⟨al,b.take n,b[n]!⟩:qM).qE.length≤1000000∧
      ∀ j,j < (⟨al,b.take n,b[n]!⟩:qM).qE.length→((⟨al,b.take n,b[n]!⟩:qM).qE[j]!).length≤1000000:=by
  have hl:(b.take n).length=n:=by rw [List.length_take,h.sh.1];omega
  have hr:=h.sh.2 n qf
  refine ⟨?_,?_,?_,fun j hj=>?_⟩
  · show al.length≤1000000;omega
  · show (b[n]!).length≤1000000;omega
  · show (b.take n).length≤1000000;omega
  · have hj:j < (b.take n).length:=hj
    show ((b.take n)[j]!).length≤1000000
    rw [getElem!_pos (b.take n) j hj,List.getElem_take,← getElem!_pos b j (by rw [h.sh.1];omega)]
    have:=(h.sh.2 j qf).1;omega
def single (s:qL) (i:Nat):yLI:=(List.replicate s.qx.length (0:Int)).set i 1
theorem state_eq {a b:qM} (h1:a.qB=b.qB) (h2:a.qE=b.qE) (h3:a.qC=b.qC):a=b:=by
  cases a;cases b;simp only at h1 h2 h3;subst h1 h2 h3;rfl
open Classical in
noncomputable def jG (s:qL) (t:qM) (cs:yLL):Nat→List qM
  | 0=>[]
  | k+1=>if (zA s t (cs[k]!)).1∈jG s t cs k then jG s t cs k else jG s t cs k++[(zA s t (cs[k]!)).1]
theorem nextTo_in {s:qL} {t:qM} {cs:yLL} {k:Nat} (h:(zA s t (cs[k]!)).1∈jG s t cs k):jG s t cs k=jG s t cs (k+1):=by rw [jG,if_pos h]
theorem nextTo_new {s:qL} {t:qM} {cs:yLL} {k:Nat} (h:¬ (zA s t (cs[k]!)).1∈jG s t cs k):jG s t cs k++[(zA s t (cs[k]!)).1]=jG s t cs (k+1):=by rw [jG,if_neg h]
theorem nextTo_len {s:qL} {t:qM} {cs:yLL}:∀ k,(jG s t cs k).length≤k
  | 0=>by simp [jG]
  | k+1=>by
    have:=nextTo_len (s:=s) (t:=t) (cs:=cs) k
    rw [jG]
    split
    · omega
    · simp;omega
def CodeBad (s:qL) (t:qM) (cs:yLL) (k:Nat):Prop:=(zA s t (cs[k]!)).2≠0
def NoBad (s:qL) (t:qM) (cs:yLL) (k:Nat):Prop:=∀ j,j < k→¬ CodeBad s t cs j
theorem NoBad.succ {s:qL} {t:qM} {cs:yLL} {k:Nat} (h:NoBad s t cs k) (h1:(zA s t (cs[k]!)).2=0):NoBad s t cs (k+1):=fun j hj=>by
  by_cases e:j=k
  · subst e;exact fun x=>x h1
  · exact h j qf
open Classical in
noncomputable def yX (s:qL) (t:qM) (cs:yLL):List qM×Int:=
  if NoBad s t cs cs.length then (jG s t cs cs.length,0) else ([],(zA s t (cs[Qo (CodeBad s t cs) cs.length]!)).2)
theorem next_ok {s:qL} {t:qM} {cs:yLL} (h:NoBad s t cs cs.length):yX s t cs=(jG s t cs cs.length,0):=by rw [yX,if_pos h]
theorem next_bad {s:qL} {t:qM} {cs:yLL} {k:Nat} (h:NoBad s t cs k) (hk:k < cs.length) (h1:(zA s t (cs[k]!)).2≠0):yX s t cs=([],(zA s t (cs[k]!)).2):=by
  rw [yX,if_neg (fun x=>x k hk h1),stop_first h hk h1]
theorem find_mem {l:List qM} {u:qM}:firstIdx (fun k=>decide (l[k]! =u)) l.length < 0↔¬ u∈l:=by
  have h:=anyTo_first (fun k=>decide (l[k]! =u)) l.length
  constructor
  · intro h1 hm
    obtain ⟨k,hk,e⟩:=List.mem_iff_getElem.1 hm
    have:anyTo (fun k=>decide (l[k]! =u)) l.length=true:=anyTo_iff.2 ⟨k,hk,by rw [getElem!_pos l k hk];simpa using e⟩
    rw [this] at h
    have:=of_decide_eq_true h
    omega
  · intro hm
    apply Classical.byContradiction
    intro h1
    rw [decide_eq_true qf] at h
    obtain ⟨k,hk,e⟩:=anyTo_iff.1 h.symm
    rw [getElem!_pos l k hk] at e
    exact hm ((of_decide_eq_true e)▸List.getElem_mem hk)
theorem mem_at {l:List qM} {u:qM} {k:Nat} (hk:k < l.length) (h:l[k]! =u):u∈l:=by
  rw [getElem!_pos l k hk] at h;rw [← h];exact List.getElem_mem hk
def NotIn (l:List qM) (u:qM) (k:Nat):Prop:=∀ j,j < k→l[j]! ≠u
theorem NotIn.succ {l:List qM} {u:qM} {k:Nat} (h:NotIn l u k) (h1:l[k]! ≠u):NotIn l u (k+1):=fun j hj=>by
  by_cases e:j=k
  · subst e;exact h1
  · exact h j qf
theorem NotIn.out {l:List qM} {u:qM} (h:NotIn l u l.length):¬ u∈l:=fun hm=>by
  obtain ⟨k,hk,e⟩:=List.mem_iff_getElem.1 hm
  exact h k hk (by rw [getElem!_pos l k hk];exact e)
def FullOk (parts:yLL) (rest:yLI):Prop:=∀ i,i < parts.length→within (parts[i]!) rest=false
def FullTo (parts:yLL) (rest:yLI) (k:Nat):Prop:=∀ i,i < k→within (parts[i]!) rest=false
theorem FullTo.succ {parts:yLL} {rest:yLI} {k:Nat} (h:FullTo parts rest k) (h1:within (parts[k]!) rest=false):FullTo parts rest (k+1):=fun j hj=>by
  by_cases e:j=k
  · subst e;exact h1
  · exact h j qf
open Classical in
noncomputable def packs (parts:yLL):Nat→Nat→yLI→yLL
  | 0,_,rest=>if FullOk parts rest then [[]] else []
  | f+1,k,rest=>(List.range ((jg (parts[k]!) rest).toNat+1)).flatMap fun (n:Nat)=>(packs parts f (k+1) (vY rest (parts[k]!) (-(n:Int)))).map ((n:Int) :: ·)
noncomputable def jm (parts:yLL) (f k:Nat) (rest:yLI) (m:Nat):yLL:=
  (List.range m).flatMap fun (n:Nat)=>(packs parts f (k+1) (vY rest (parts[k]!) (-(n:Int)))).map ((n:Int) :: ·)
theorem packs_succ (parts:yLL) (f k:Nat) (rest:yLI):packs parts (f+1) k rest=jm parts f k rest ((jg (parts[k]!) rest).toNat+1):=rfl
theorem packsTo_zero (parts:yLL) (f k:Nat) (rest:yLI):jm parts f k rest 0=[]:=rfl
theorem packsTo_succ (parts:yLL) (f k:Nat) (rest:yLI) (m:Nat):
    jm parts f k rest (m+1)=jm parts f k rest m++(packs parts f (k+1) (vY rest (parts[k]!) (-(m:Int)))).map ((m:Int) :: ·):=by
  simp [jm,List.range_succ]
theorem packs_full {parts:yLL} {k:Nat} {rest:yLI} (h:FullOk parts rest):packs parts 0 k rest=[[]]:=by rw [packs,if_pos h]
theorem packs_none {parts:yLL} {k:Nat} {rest:yLI} (h:¬ FullOk parts rest):packs parts 0 k rest=[]:=by rw [packs,if_neg h]
def gath (out more:yLL):yLL:=(out++more).take 2001
theorem gath_nil {out:yLL} (h:out.length≤2001):gath out []=out:=by unfold gath;rw [List.append_nil];exact List.take_of_length_le h
theorem gath_one {out:yLL} {x:yLI} (h:out.length≤2000):gath out [x]=out++[x]:=by
  unfold gath;rw [List.take_of_length_le];simp;omega
theorem gath_len (out more:yLL):(gath out more).length≤2001:=by simp [gath];omega
theorem gath_room {out more:yLL} (h:(gath out more).length≤2000):gath out more=out++more:=by
  unfold gath at *
  rw [List.length_take] at h
  exact List.take_of_length_le qf
theorem gath_cat {out a b:yLL} (h:(gath out a).length≤2000):gath (gath out a) b=gath out (a++b):=by
  rw [gath_room h];simp [gath]
theorem gath_stop {out a b:yLL} (h:¬ (gath out a).length≤2000):gath out a=gath out (a++b):=by
  unfold gath at *
  rw [List.length_take] at h
  rw [← List.append_assoc]
  exact (List.take_append_of_le_length (l₁:=out++a) (l₂:=b) qf).symm
def begins (b:yLI) (l:yLL):yLL:=l.map (b++·)
theorem begins_cat (b:yLI) (l m:yLL):begins b (l++m)=begins b l++begins b m:=by simp [begins]
theorem begins_cons (b:yLI) (n:Int) (l:yLL):begins b (l.map (n :: ·))=begins (b++[n]) l:=by simp [begins]
theorem begins_nil (l:yLL):begins [] l=l:=by simp [begins]
theorem begins_one (b:yLI):begins b [[]]=[b]:=by simp [begins]
theorem gath_step {parts:yLL} {f k m:Nat} {rest b:yLI} {out:yLL} (h:(gath out (begins b (jm parts f k rest m))).length≤2000):
    gath (gath out (begins b (jm parts f k rest m))) (begins (b++[(m:Int)]) (packs parts f (k+1) (vY rest (parts[k]!) (-(m:Int)))))=gath out (begins b (jm parts f k rest (m+1))):=by
  rw [gath_cat h,packsTo_succ,begins_cat,begins_cons]
theorem packsTo_more {parts:yLL} {f k:Nat} {rest:yLI}:∀ {m M:Nat},m≤M→∃ more,jm parts f k rest M=jm parts f k rest m++more
  | m, 0, h => ⟨[], by obtain rfl : m = 0 := by omega
                       simp⟩
  | m,M+1,h=>by
    by_cases e:m=M+1
    · subst e;exact ⟨[],by simp⟩
    · obtain ⟨more,hm⟩:=packsTo_more (parts:=parts) (f:=f) (k:=k) (rest:=rest) (show m≤M by omega)
      exact ⟨_,by rw [packsTo_succ,hm,List.append_assoc]⟩
theorem gath_end {parts:yLL} {f k m:Nat} {rest b:yLI} {out:yLL} (hm:m≤(jg (parts[k]!) rest).toNat+1) (h:m=(jg (parts[k]!) rest).toNat+1∨¬ (gath out (begins b (jm parts f k rest m))).length≤2000):
    gath out (begins b (jm parts f k rest m))=gath out (begins b (packs parts (f+1) k rest)):=by
  rw [packs_succ]
  rcases h with h | h
  · rw [h]
  · obtain ⟨more,e⟩:=packsTo_more (parts:=parts) (f:=f) (k:=k) (rest:=rest) hm
    rw [e,begins_cat]
    exact gath_stop h
open Classical in
noncomputable def zW (b:yLI) (parts:yLL):yLL×Int:=
  if X0 b > 16 then ([],3) else if (packs parts parts.length 0 b).length > 2000 then ([],3) else (packs parts parts.length 0 b,0)
theorem gath_all {l:yLL}:(gath [] l).length > 2000↔l.length > 2000:=by unfold gath;rw [List.nil_append,List.length_take];omega
theorem gath_few {l:yLL} (h:¬ l.length > 2000):gath [] l=l:=by unfold gath;rw [List.nil_append];exact List.take_of_length_le qf
theorem packs_len {parts:yLL}:∀ {f k:Nat} {rest x:yLI},x∈packs parts f k rest→x.length=f
  | 0,k,rest,x,h=>by
    rw [packs] at h
    split at h
    · obtain rfl:=List.mem_singleton.1 h;rfl
    · simp at h
  | f+1,k,rest,x,h=>by
    rw [packs,List.mem_flatMap] at h
    obtain ⟨n,_,h⟩:=h
    obtain ⟨y,hy,rfl⟩:=List.mem_map.1 h
    rw [List.length_cons,packs_len hy]
def ahead (a b:yLI):Prop:=∃ i,i < a.length∧(∀ j,j < i→a[j]! =b[j]!)∧a[i]! < b[i]!
def SameTo (a b:yLI) (k:Nat):Prop:=∀ j,j < k→a[j]! =b[j]!
theorem SameTo.succ {a b:yLI} {k:Nat} (h:SameTo a b k) (h1:a[k]! =b[k]!):SameTo a b (k+1):=fun j hj=>by
  by_cases e:j=k
  · subst e;exact h1
  · exact h j qf
theorem ahead_yes {a b:yLI} {k:Nat} (h:SameTo a b k) (hk:k < a.length) (h1:a[k]! < b[k]!):ahead a b:=⟨k,hk,h,h1⟩
theorem ahead_no {a b:yLI} {k:Nat} (h:SameTo a b k) (h1:¬ a[k]! < b[k]!) (h2:a[k]! ≠b[k]!):¬ ahead a b:=by
  rintro ⟨i,hi,hs,hl⟩
  rcases Nat.lt_or_ge i k with hik | hik
  · rw [h i hik] at hl;omega
  · rcases Nat.lt_or_eq_of_le hik with hki | hki
    · exact h2 (hs k hki)
    · subst hki;exact h1 hl
theorem ahead_same {a b:yLI} (h:SameTo a b a.length):¬ ahead a b:=by
  rintro ⟨i,hi,_,hl⟩
  rw [h i hi] at hl;omega
theorem ahead_irr (a:yLI):¬ ahead a a:=ahead_same fun _ _=>rfl
theorem ahead_trans {a b c:yLI} (hab:a.length=b.length) (h1:ahead a b) (h2:ahead b c):ahead a c:=by
  obtain ⟨i,hi,hs,hl⟩:=h1
  obtain ⟨k,hk,ht,hm⟩:=h2
  rcases Nat.lt_or_ge i k with h | h
  · exact ⟨i,hi,fun j hj=>(hs j hj).trans (ht j qf),by rw [← ht i h];exact hl⟩
  · rcases Nat.lt_or_eq_of_le h with h' | h'
    · exact ⟨k,by omega,fun j hj=>(hs j qf).trans (ht j hj),by rw [hs k h'];exact hm⟩
    · subst h'
      exact ⟨k,hi,fun j hj=>(hs j hj).trans (ht j hj),by omega⟩
theorem ahead_tri {a b:yLI} (hl:a.length=b.length) (h1:¬ ahead a b) (h2:¬ ahead b a):a=b:=by
  have key:∀ k,k≤a.length→SameTo a b k:=by
    intro k
    induction k with
    | zero=>intro _ j hj;omega
    | succ k ih=>
      intro hk
      have hs:=ih qf
      refine hs.succ ?_
      apply Classical.byContradiction
      intro hne
      rcases Int.lt_or_gt_of_ne hne with h | h
      · exact h1 ⟨k,by omega,hs,h⟩
      · exact h2 ⟨k,by omega,fun j hj=>(hs j hj).symm,h⟩
  exact ext_get hl fun k hk=>key _ (Nat.le_refl _) k hk
def InOrder (l:yLL):Prop:=l.Pairwise fun a b=>¬ ahead b a
theorem order_one {n:Nat}:∀ {l m:yLL},(∀ x∈l,x.length=n)→l.Perm m→InOrder l→InOrder m→l=m
  | [],m,_,hp,_,_=>(List.Perm.nil_eq hp)
  | x :: l,m,hn,hp,hl,hm=>by
    cases m with
    | nil=>exact absurd hp.length_eq qm
    | cons y m=>
      have hl' :=List.pairwise_cons.1 hl
      have hm' :=List.pairwise_cons.1 hm
      have hy:y∈x :: l:=hp.symm.subset (List.mem_cons_self ..)
      have hx:x∈y :: m:=hp.subset (List.mem_cons_self ..)
      have e:x=y:=by
        rcases List.mem_cons.1 hx with h | h
        · exact h
        · rcases List.mem_cons.1 hy with h' | h'
          · exact h'.symm
          · exact ahead_tri ((hn x (List.mem_cons_self ..)).trans (hn y (List.mem_cons_of_mem _ h')).symm) (hm'.1 x h) (hl'.1 y h')
      subst e
      rw [order_one (fun z hz=>hn z (List.mem_cons_of_mem _ hz)) (List.Perm.cons_inv hp) hl'.2 hm'.2]
def swapAt (l:yLL) (k:Nat):yLL:=(l.set k (l[k - 1]!)).set (k - 1) (l[k]!)
def OrderTo (l:yLL) (k:Nat):Prop:=InOrder (l.take k)
theorem orderTo_iff {l:yLL} {k:Nat} (hk:k≤l.length):OrderTo l k↔∀ i j,i < j→j < k→¬ ahead (l[j]!) (l[i]!):=by
  unfold OrderTo InOrder
  rw [List.pairwise_iff_getElem]
  constructor
  · intro h i j hij hj
    have:=h i j (by rw [List.length_take];omega) (by rw [List.length_take];omega) hij
    rw [List.getElem_take,List.getElem_take] at this
    rwa [getElem!_pos l i qf,getElem!_pos l j qf]
  · intro h i j hi hj hij
    rw [List.length_take] at hi hj
    rw [List.getElem_take,List.getElem_take,← getElem!_pos l i qf,← getElem!_pos l j qf]
    exact h i j hij qf
theorem swap_len (l:yLL) (k:Nat):(swapAt l k).length=l.length:=by simp [swapAt]
theorem swap_get {l:yLL} {k p:Nat} (hk:0 < k) (hl:k < l.length):(swapAt l k)[p]! =if p=k - 1 then l[k]! else if p=k then l[k - 1]! else l[p]! :=by
  unfold swapAt
  rw [getset (by rw [List.length_set];omega),getset hl]
theorem swap_perm {l:yLL} {k:Nat} (hk:0 < k) (hl:k < l.length):(swapAt l k).Perm l:=by
  obtain ⟨j,rfl⟩:∃ j,k=j+1:=⟨k - 1,by omega⟩
  have e1:l=l.take j++(l[j]! :: l[j+1]! :: l.drop (j+2)):=by
    rw [getElem!_pos l j qf,getElem!_pos l (j+1) hl]
    conv=>lhs;rw [← List.take_append_drop j l]
    rw [List.drop_eq_getElem_cons (show j < l.length by omega),List.drop_eq_getElem_cons hl]
  have e2:swapAt l (j+1)=l.take j++(l[j+1]! :: l[j]! :: l.drop (j+2)):=by
    have hlen:(l.take j).length=j:=List.length_take_of_le qf
    refine ext_get (by rw [swap_len];simp;omega) fun p hp=>?_
    rw [swap_len] at hp
    rw [swap_get hk hl]
    have hp' :p < (l.take j++(l[j+1]! :: l[j]! :: l.drop (j+2))).length:=by simp;omega
    rw [getElem!_pos (l.take j++(l[j+1]! :: l[j]! :: l.drop (j+2))) p hp']
    by_cases h1:p < j
    · rw [if_neg qf,if_neg qf,List.getElem_append_left qf,List.getElem_take,getElem!_pos l p hp]
    · rw [List.getElem_append_right qf]
      simp only [hlen]
      by_cases h2:p=j
      · subst h2;simp
      · by_cases h3:p=j+1
        · subst h3;simp
        · rw [if_neg qf,if_neg qf]
          obtain ⟨q,rfl⟩:∃ q,p=j+2+q:=⟨p - (j+2),by omega⟩
          rw [getElem!_pos l _ hp]
          have:j+2+q - j=q+1+1:=by omega
          simp only [this,List.getElem_cons_succ,List.getElem_drop]
  rw [e2]
  conv=>rhs;rw [e1]
  exact List.Perm.append_left _ (List.Perm.swap ..)
def InsTo (l:yLL) (i k:Nat):Prop:=∀ a b,a < b→b≤i→b≠k→¬ ahead (l[b]!) (l[a]!)
theorem InsTo.start {l:yLL} {i:Nat} (h:∀ a b,a < b→b < i→¬ ahead (l[b]!) (l[a]!)):InsTo l i i:=fun a b hab hb hne=>h a b hab qf
theorem InsTo.down {l:yLL} {i k n:Nat} (h:InsTo l i k) (hn:∀ j,j < l.length→(l[j]!).length=n) (hk:0 < k) (hki:k≤i) (hi:i < l.length) (h1:ahead (l[k]!) (l[k - 1]!)):InsTo (swapAt l k) i (k - 1):=by
  intro a b hab hb hne
  have hlk:=hn k qf
  have hlk1:=hn (k - 1) qf
  rw [swap_get hk qf,swap_get hk qf,if_neg hne]
  by_cases hbk:b=k
  · subst hbk
    rw [if_pos rfl]
    by_cases ha:a=b - 1
    · rw [if_pos ha]
      intro h2
      exact ahead_irr _ (ahead_trans qf h1 h2)
    · rw [if_neg ha,if_neg qf]
      exact h a (b - 1) qf qf qf
  · rw [if_neg hbk]
    by_cases ha:a=k - 1
    · rw [if_pos ha];exact h k b qf hb hbk
    · rw [if_neg ha]
      by_cases hak:a=k
      · rw [if_pos hak];exact h (k - 1) b qf hb hbk
      · rw [if_neg hak];exact h a b hab hb hbk
theorem InsTo.stop {l:yLL} {i k n:Nat} (h:InsTo l i k) (hn:∀ j,j < l.length→(l[j]!).length=n) (hki:k≤i) (hi:i < l.length) (h1:k=0∨¬ ahead (l[k]!) (l[k - 1]!)):∀ a b,a < b→b < i+1→¬ ahead (l[b]!) (l[a]!):=by
  intro a b hab hb
  by_cases hbk:b=k
  · subst hbk
    have h1:¬ ahead (l[b]!) (l[b - 1]!):=h1.resolve_left qf
    by_cases ha:a=b - 1
    · subst ha;exact h1
    · intro h2
      have h3:=h a (b - 1) qf qf qf
      have hla:=hn a qf
      have hlb:=hn b qf
      have hlb1:=hn (b - 1) qf
      by_cases h4:ahead (l[a]!) (l[b - 1]!)
      · exact h1 (ahead_trans qf h2 h4)
      · have e:=ahead_tri qf h4 h3
        rw [e] at h2;exact h1 h2
  · exact h a b hab qf hbk
def PartsOk (K:Nat) (parts:yLL):Prop:=∀ i,i < parts.length→(parts[i]!).length=K∧(∀ q,q < K→0≤(parts[i]!)[q]! ∧(parts[i]!)[q]! ≤1000)∧∃ j,j < K∧0 < (parts[i]!)[j]!
def RestOk (K:Nat) (rest:yLI):Prop:=rest.length=K∧∀ q,q < K→0≤rest[q]! ∧rest[q]! ≤1000
def Vm (parts:yLL) (rest:yLI):Prop:=∃ K,K≤8∧PartsOk K parts∧RestOk K rest∧parts.length≤8

theorem times_bd {K:Nat} {parts:yLL} {rest:yLI} (hP:PartsOk K parts) (hR:RestOk K rest) {k:Nat} (hk:k < parts.length):0≤jg (parts[k]!) rest∧jg (parts[k]!) rest≤1000:=
  timesTo_bd (fun q hq=>(hR.2 q (by have:=(hP k hk).1;omega)).1) _ (Nat.le_refl _)
theorem take_get {K:Nat} {parts:yLL} {rest:yLI} (hP:PartsOk K parts) (hR:RestOk K rest) {k:Nat} (hk:k < parts.length) {n:Int} (h0:0≤n) (h1:n≤jg (parts[k]!) rest) {q:Nat} (hq:q < K):
    0≤rest[q]! + -n * (parts[k]!)[q]! ∧rest[q]! + -n * (parts[k]!)[q]! ≤rest[q]! :=by
  obtain ⟨hl,hb,_⟩:=hP k hk
  have a:=timesL_left (l:=parts[k]!) (m:=rest) (fun j hj=>(hb j qf).1) (fun j hj=>(hR.2 j qf).1) (k:=q) qf
  have b:=Int.mul_le_mul_of_nonneg_right h1 (hb q hq).1
  have c:=Int.mul_nonneg h0 (hb q hq).1
  have d: -n * (parts[k]!)[q]! = -(n * (parts[k]!)[q]!):=Int.neg_mul ..
  have e: -(jg (parts[k]!) rest) * (parts[k]!)[q]! = -(jg (parts[k]!) rest * (parts[k]!)[q]!):=Int.neg_mul ..
  omega
theorem RestOk.take {K:Nat} {parts:yLL} {rest:yLI} (hP:PartsOk K parts) (hR:RestOk K rest) {k:Nat} (hk:k < parts.length) {n:Int} (h0:0≤n) (h1:n≤jg (parts[k]!) rest):RestOk K (vY rest (parts[k]!) (-n)):=by
  refine ⟨by rw [plusL_len];exact hR.1,fun q hq=>?_⟩
  rw [plus_get (by have:=hR.1;omega)]
  have:=take_get hP hR hk h0 h1 hq
  have:=hR.2 q hq
  omega
theorem Vm.times {parts:yLL} {rest:yLI} (h:Vm parts rest) {k:Nat} (hk:k < parts.length):
    (parts[k]!).length≤rest.length∧(∀ q,q < (parts[k]!).length→0≤rest[q]! ∧rest[q]! ≤1000)∧(∃ j,j < (parts[k]!).length∧0 < (parts[k]!)[j]!)∧rest.length≤8∧0≤jg (parts[k]!) rest∧jg (parts[k]!) rest≤1000:=by
  obtain ⟨K,hK,hP,hR,hn⟩:=h
  obtain ⟨hl,hb,hj⟩:=hP k hk
  have ht:=times_bd hP hR hk
  refine ⟨by have:=hR.1;omega,fun q hq=>hR.2 q qf,by rw [hl];exact hj,by have:=hR.1;omega,ht⟩
theorem Vm.plus {parts:yLL} {rest:yLI} (h:Vm parts rest) {k:Nat} (hk:k < parts.length) {n:Int} (h0:0≤n) (h1:n≤jg (parts[k]!) rest):
    rest.length≤(parts[k]!).length∧Mid rest∧SmallT (parts[k]!) (-n)∧Vm parts (vY rest (parts[k]!) (-n)):=by
  obtain ⟨K,hK,hP,hR,hn⟩:=h
  obtain ⟨hl,hb,hj⟩:=hP k hk
  have ht:=times_bd hP hR hk
  refine ⟨by have:=hR.1;omega,⟨by have:=hR.1;omega,fun q hq=>by have:=hR.2 q (by have:=hR.1;omega);omega⟩,fun q hq=>?_,K,hK,hP,hR.take hP hk h0 h1,hn⟩
  have a:=hb q qf
  have b:=Int.mul_nonneg h0 a.1
  have c:=Int.mul_le_mul (show n≤1000 by omega) a.2 a.1 qf
  have d: -n * (parts[k]!)[q]! = -(n * (parts[k]!)[q]!):=Int.neg_mul ..
  omega
theorem Vm.small {parts:yLL} {rest:yLI} (h:Vm parts rest):rest.length≤8∧parts.length≤8:=by
  obtain ⟨K,hK,_,hR,hn⟩:=h
  exact ⟨by have:=hR.1;omega,hn⟩
theorem Vm.smallB {parts:yLL} {rest:yLI} (h:Vm parts rest):Small rest:=by
  obtain ⟨K,hK,_,hR,hn⟩:=h
  exact ⟨by have:=hR.1;omega,fun q hq=>by have:=hR.2 q (by have:=hR.1;omega);omega⟩

theorem pack_step {parts:yLL} {rest begin' :yLI} {out:yLL} {f n:Nat} (hf:begin'.length+f=parts.length) (hp:begin'.length < parts.length)
    (h:(gath out (begins begin' (jm parts (f - 1) begin'.length rest n))).length≤2000):
    gath (gath out (begins begin' (jm parts (f - 1) begin'.length rest n))) (begins (begin' ++[(n:Int)]) (packs parts (parts.length - (begin' ++[(n:Int)]).length) (begin' ++[(n:Int)]).length (vY rest (parts[begin'.length]!) (-(n:Int)))))=
      gath out (begins begin' (jm parts (f - 1) begin'.length rest (n+1))):=by
  rw [← gath_step h,List.length_append,List.length_cons,List.length_nil,show parts.length - (begin'.length+(0+1))=f - 1 by omega]
theorem pack_start {parts:yLL} {rest begin' :yLI} {out:yLL} {f:Nat} (h:out.length≤2000):out=gath out (begins begin' (jm parts f begin'.length rest 0)):=by
  rw [packsTo_zero];exact (gath_nil qf).symm
theorem pack_full {parts:yLL} {rest begin' :yLI} {out:yLL} (hl:begin'.length=parts.length) (h:FullOk parts rest) (ho:out.length≤2000):
    gath out (begins begin' (packs parts (parts.length - begin'.length) begin'.length rest))=out++[begin']:=by
  rw [show parts.length - begin'.length=0 by omega,packs_full h,begins_one,gath_one ho]
theorem pack_none {parts:yLL} {rest begin' :yLI} {out:yLL} (hl:begin'.length=parts.length) (h:¬ FullOk parts rest) (ho:out.length≤2000):
    gath out (begins begin' (packs parts (parts.length - begin'.length) begin'.length rest))=out:=by
  rw [show parts.length - begin'.length=0 by omega,packs_none h];exact gath_nil qf
theorem pack_end {parts:yLL} {rest begin' :yLI} {out:yLL} {f n:Nat} (hf:begin'.length+f=parts.length) (hp:begin'.length < parts.length) (hn:(n:Int)≤jg (parts[begin'.length]!) rest+1)
    (h0:0≤jg (parts[begin'.length]!) rest) (h:¬ (n:Int)≤jg (parts[begin'.length]!) rest∨¬ ((gath out (begins begin' (jm parts (f - 1) begin'.length rest n))).length:Int)≤2000):
    gath out (begins begin' (packs parts (parts.length - begin'.length) begin'.length rest))=gath out (begins begin' (jm parts (f - 1) begin'.length rest n)):=by
  obtain ⟨f,rfl⟩:∃ g,f=g+1:=⟨f - 1,by omega⟩
  rw [show parts.length - begin'.length=f+1 by omega]
  rw [show f+1 - 1=f from rfl] at h ⊢
  exact (gath_end qf (by rcases h with h | h;(left;omega);(right;omega))).symm
theorem all_a {b:yLI} {parts:yLL} (h:X0 b > 16):zW b parts=([],3):=by rw [zW,if_pos h]
theorem all_b {b:yLI} {parts:yLL} (h:¬ X0 b > 16) (h1:((gath ([]:yLL) (begins ([]:yLI) (packs parts (parts.length - ([]:yLI).length) ([]:yLI).length b))).length:Int) > 2000):zW b parts=([],3):=by
  replace h1:(gath [] (begins [] (packs parts (parts.length - 0) 0 b))).length > 2000:=by have:((gath [] (begins [] (packs parts (parts.length - 0) 0 b))).length:Int) > 2000:=h1;omega
  rw [begins_nil] at h1
  have h2:(packs parts parts.length 0 b).length > 2000:=gath_all.1 h1
  rw [zW,if_neg h,if_pos h2]
theorem all_0 {b:yLI} {parts:yLL} (h:¬ X0 b > 16) (h1:¬ ((gath ([]:yLL) (begins ([]:yLI) (packs parts (parts.length - ([]:yLI).length) ([]:yLI).length b))).length:Int) > 2000):
    zW b parts=(gath ([]:yLL) (begins ([]:yLI) (packs parts (parts.length - ([]:yLI).length) ([]:yLI).length b)),0):=by
  show zW b parts=(gath [] (begins [] (packs parts (parts.length - 0) 0 b)),0)
  replace h1:¬ (gath [] (begins [] (packs parts (parts.length - 0) 0 b))).length > 2000:=fun h=>h1 (by have:((gath [] (begins [] (packs parts (parts.length - 0) 0 b))).length:Int) > 2000:=qf;exact this)
  rw [begins_nil] at h1 ⊢
  have h2:¬ (packs parts parts.length 0 b).length > 2000:=fun h=>h1 (gath_all.2 h)
  rw [zW,if_neg h,if_neg h2,show parts.length - 0=parts.length from rfl,gath_few h2]

theorem fmap_le {α β:Type} {c:Nat} (g:α→List β):∀ (l:List α),(∀ x∈l,(g x).length≤c)→(l.flatMap g).length≤l.length * c
  | [],_=>by simp
  | x :: l,h=>by
    have h1:=h x (List.mem_cons_self ..)
    have h2:=fmap_le g l fun y hy=>h y (List.mem_cons_of_mem _ hy)
    rw [List.flatMap_cons,List.length_append,List.length_cons,Nat.add_mul,Nat.one_mul]
    omega
theorem within_more {K:Nat} {parts:yLL} {rest:yLI} (hP:PartsOk K parts) (hR:RestOk K rest) {k:Nat} (hk:k < parts.length) {n:Int} (h0:0≤n) (h1:n < jg (parts[k]!) rest):
    within (parts[k]!) (vY rest (parts[k]!) (-n))=true:=by
  rw [within_iff]
  intro q hq
  obtain ⟨hl,hb,_⟩:=hP k hk
  rw [plus_get (by have:=hR.1;omega)]
  have a:=(take_get hP hR hk (show 0≤n+1 by omega) qf (q:=q) qf).1
  have d: -n * (parts[k]!)[q]! = -(n * (parts[k]!)[q]!):=Int.neg_mul ..
  have e: -(n+1) * (parts[k]!)[q]! = -((n+1) * (parts[k]!)[q]!):=Int.neg_mul ..
  have g:(n+1) * (parts[k]!)[q]! =n * (parts[k]!)[q]! +(parts[k]!)[q]! :=by rw [Int.add_mul,Int.one_mul]
  omega
theorem within_none {K:Nat} {parts:yLL} {rest:yLI} (hP:PartsOk K parts) (hR:RestOk K rest) {k:Nat} (hk:k < parts.length) (hb:jg (parts[k]!) rest < 1000):
    within (parts[k]!) (vY rest (parts[k]!) (-(jg (parts[k]!) rest)))=false:=by
  rw [Bool.eq_false_iff]
  intro hw
  rw [within_iff] at hw
  obtain ⟨hl,hbb,_⟩:=hP k hk
  have key:∀ j,j≤(parts[k]!).length→jg (parts[k]!) rest+1≤yH (parts[k]!) rest j:=by
    intro j
    induction j with
    | zero=>intro _;rw [yH];omega
    | succ j ih=>
      intro hj
      have hi:=ih qf
      rw [yH]
      split
      · next hpos=>
        have h1:=hw j qf
        rw [plus_get (by have:=hR.1;omega)] at h1
        have e: -(jg (parts[k]!) rest) * (parts[k]!)[j]! = -(jg (parts[k]!) rest * (parts[k]!)[j]!):=Int.neg_mul ..
        have g:(jg (parts[k]!) rest+1) * (parts[k]!)[j]! =jg (parts[k]!) rest * (parts[k]!)[j]! +(parts[k]!)[j]! :=by rw [Int.add_mul,Int.one_mul]
        have:=(Int.le_ediv_iff_mul_le hpos).2 (show (jg (parts[k]!) rest+1) * (parts[k]!)[j]! ≤rest[j]! by omega)
        omega
      · exact hi
  have:=key _ (Nat.le_refl _)
  unfold jg at this
  omega
theorem within_less {K:Nat} {l m m' :yLI} (hl:l.length=K) (h:within l m=false) (hle:∀ q,q < K→m'[q]! ≤m[q]!):within l m' =false:=by
  rw [Bool.eq_false_iff] at h ⊢
  intro hw
  rw [within_iff] at hw
  exact h (within_iff.2 fun q hq=>Int.le_trans (hw q hq) (hle q qf))
def Few (K:Nat) (rest:yLI):Prop:=∀ q,q < K→rest[q]! ≤16
theorem Few.take {K:Nat} {parts:yLL} {rest:yLI} (hF:Few K rest) (hP:PartsOk K parts) (hR:RestOk K rest) {k:Nat} (hk:k < parts.length) {n:Int} (h0:0≤n) (h1:n≤jg (parts[k]!) rest):Few K (vY rest (parts[k]!) (-n)):=fun q hq=>by
  rw [plus_get (by have:=hR.1;omega)]
  have:=take_get hP hR hk h0 h1 hq
  have:=hF q hq
  omega
theorem times_few {K:Nat} {parts:yLL} {rest:yLI} (hF:Few K rest) (hP:PartsOk K parts) (hR:RestOk K rest) {k:Nat} (hk:k < parts.length):jg (parts[k]!) rest≤16:=by
  obtain ⟨hl,hb,j,hj,hpos⟩:=hP k hk
  have h1:=timesTo_le (l:=parts[k]!) (m:=rest) (k:=(parts[k]!).length) (j:=j) qf hpos
  have h2:rest[j]! / (parts[k]!)[j]! ≤16:=by
    exact Int.le_trans (Int.ediv_le_self _ (hR.2 j hj).1) (hF j hj)
  unfold jg
  omega
theorem packs_ne {K:Nat} {parts:yLL} (hP:PartsOk K parts):∀ (f k:Nat) (rest:yLI),k+f=parts.length→RestOk K rest→Few K rest→FullTo parts rest k→packs parts f k rest≠[]
  | 0,k,rest,hk,hR,hF,hT=>by
    rw [packs_full (fun i hi=>hT i qf)];simp
  | f+1,k,rest,hk,hR,hF,hT=>by
    have hb:=times_bd hP hR (k:=k) qf
    have h16:=times_few hF hP hR (k:=k) qf
    have h1:=packs_ne hP f (k+1) (vY rest (parts[k]!) (-(jg (parts[k]!) rest))) qf (hR.take hP qf hb.1 (Int.le_refl _)) (hF.take hP hR qf hb.1 (Int.le_refl _)) (by
      refine FullTo.succ (fun i hi=>?_) (within_none hP hR qf qf)
      refine within_less (K:=K) (hP i qf).1 (hT i hi) fun q hq=>?_
      rw [plus_get (by have:=hR.1;omega)]
      exact (take_get hP hR qf hb.1 (Int.le_refl _) hq).2)
    obtain ⟨x,hx⟩:=List.exists_mem_of_ne_nil _ h1
    refine List.ne_nil_of_mem (a:=jg (parts[k]!) rest :: x) ?_
    rw [packs,List.mem_flatMap]
    have e:(((jg (parts[k]!) rest).toNat:Nat):Int)=jg (parts[k]!) rest:=by omega
    refine ⟨(jg (parts[k]!) rest).toNat,List.mem_range.2 qf,List.mem_map.2 ⟨x,?_,by rw [e]⟩⟩
    rw [e];exact hx
theorem packs_few {K:Nat} {parts:yLL} (hP:PartsOk K parts):∀ (f k:Nat) (rest:yLI),k+(f+1)=parts.length→RestOk K rest→Few K rest→(packs parts (f+1) k rest).length≤17 ^ f
  | 0,k,rest,hk,hR,hF=>by
    have hb:=times_bd hP hR (k:=k) qf
    rw [packs_succ,packsTo_succ,List.length_append,List.length_map]
    have h1:jm parts 0 k rest (jg (parts[k]!) rest).toNat=[]:=by
      rw [jm,List.flatMap_eq_nil_iff]
      intro n hn
      rw [List.mem_range] at hn
      rw [packs_none (fun h=>?_),List.map_nil]
      have h2:=within_more hP hR (k:=k) qf (n:=(n:Int)) qf qf
      rw [h k qf] at h2
      cases h2
    rw [h1,List.length_nil,Nat.zero_add,packs]
    split <;> simp
  | f+1,k,rest,hk,hR,hF=>by
    have hb:=times_bd hP hR (k:=k) qf
    have h16:=times_few hF hP hR (k:=k) qf
    rw [packs]
    refine Nat.le_trans (fmap_le (c:=17 ^ f) _ _ fun n hn=>?_) ?_
    · rw [List.mem_range] at hn
      rw [List.length_map]
      exact packs_few hP f (k+1) _ qf (hR.take hP qf qf qf) (hF.take hP hR qf qf qf)
    · rw [List.length_range,Nat.pow_succ,Nat.mul_comm]
      exact Nat.mul_le_mul_left _ qf
theorem sum_few {K:Nat} {rest:yLI} (hR:RestOk K rest) (h:X0 rest≤16):Few K rest:=by
  have key:∀ n,n≤rest.length→0≤sumTo rest n∧∀ q,q < n→rest[q]! ≤sumTo rest n:=by
    intro n
    induction n with
    | zero=>intro _;exact ⟨by simp [sumTo],fun q hq=>by omega⟩
    | succ n ih=>
      intro hn
      have hi:=ih qf
      have hr:=hR.2 n (by have:=hR.1;omega)
      rw [sumTo]
      refine ⟨by omega,fun q hq=>?_⟩
      by_cases e:q=n
      · subst e;omega
      · have:=hi.2 q qf;omega
  intro q hq
  have:=(key rest.length (Nat.le_refl _)).2 q (by have:=hR.1;omega)
  unfold X0 at h
  omega
noncomputable def cellT (s:qL) (t:qM) (k c:Nat):yLI:=(applL s t k).filter fun x=>decide ((s.qx[x.toNat]!).qG=(c:Int))
theorem cellT_yes {s:qL} {t:qM} {k c:Nat} (h:Appl s t k) (hc:(s.qx[k]!).qG=(c:Int)):cellT s t k c++[(k:Int)]=cellT s t (k+1) c:=by
  unfold cellT;rw [← applL_yes h,List.filter_append,List.filter_cons_of_pos (by rw [Int.toNat_natCast];exact decide_eq_true hc),List.filter_nil]
theorem Xb {s:qL} {t:qM} {k c:Nat} (h:¬ Appl s t k):cellT s t k c=cellT s t (k+1) c:=by
  unfold cellT;rw [← applL_no h]
theorem QK {s:qL} {t:qM} {k c:Nat} (h:¬ (s.qx[k]!).qG=(c:Int)):cellT s t k c=cellT s t (k+1) c:=by
  by_cases ha:Appl s t k
  · unfold cellT;rw [← applL_yes ha,List.filter_append,List.filter_cons_of_neg (by rw [Int.toNat_natCast];simpa only [decide_eq_true_eq] using h),List.filter_nil,List.append_nil]
  · exact Xb ha
def zi (s:qL) (l:yLI):yLL:=l.map fun x=>(s.qx[x.toNat]!).xE
theorem XA (s:qL) (l:yLI):(zi s l).length=l.length:=by simp [zi]
theorem needs_snoc (s:qL) (l:yLI) (x:Int):zi s l++[(s.qx[x.toNat]!).xE]=zi s (l++[x]):=by simp [zi]
theorem needs_yes {s:qL} {t:qM} {k c:Nat} (h:Appl s t k) (hc:(s.qx[k]!).qG=(c:Int)):zi s (cellT s t k c)++[(s.qx[k]!).xE]=zi s (cellT s t (k+1) c):=by
  rw [← cellT_yes h hc];exact needs_snoc s _ (k:Int)
theorem needs_take {s:qL} {l:yLI} {k:Nat} (h:k < l.length):zi s (l.take k)++[(s.qx[(l[k]!).toNat]!).xE]=zi s (l.take (k+1)):=by rw [needs_snoc,take_snoc h]
theorem needs_get {s:qL} {l:yLI} {k:Nat} (h:k < l.length):(zi s l)[k]! =(s.qx[(l[k]!).toNat]!).xE:=by
  rw [getElem!_pos (zi s l) k (by rw [XA];exact h)];simp [zi,getElem!_pos l k h]
noncomputable def zH (s:qL) (t:qM) (c:Nat):yLI:=cellT s t s.qx.length c
noncomputable def cellP (s:qL) (t:qM) (c:Nat):yLL×Int:=zW (t.qE[c]!) (zi s (zH s t c))
theorem mem_cellT {s:qL} {t:qM} {k c:Nat} {x:Int} (h:x∈cellT s t k c):0≤x∧x.toNat < k∧Appl s t x.toNat∧(s.qx[x.toNat]!).qG=(c:Int):=by
  unfold cellT at h
  obtain ⟨h1,h2⟩:=List.mem_filter.1 h
  obtain ⟨a,b,d⟩:=mem_applL.1 h1
  exact ⟨a,b,d,by simpa using h2⟩
theorem cellT_at {s:qL} {t:qM} {k c j:Nat} (h:j < (cellT s t k c).length):0≤(cellT s t k c)[j]! ∧((cellT s t k c)[j]!).toNat < k∧Appl s t ((cellT s t k c)[j]!).toNat∧(s.qx[((cellT s t k c)[j]!).toNat]!).qG=(c:Int):=
  mem_cellT (by rw [getElem!_pos _ j h];exact List.getElem_mem h)
theorem cellR_at {s:qL} {t:qM} {c j:Nat} (h:j < (zH s t c).length):0≤(zH s t c)[j]! ∧((zH s t c)[j]!).toNat < s.qx.length∧Appl s t ((zH s t c)[j]!).toNat∧(s.qx[((zH s t c)[j]!).toNat]!).qG=(c:Int):=cellT_at h
theorem ofCell_all {s:qL} (hs:jZ s) (c:Int):∀ k,k≤s.qx.length→X6 s.qx c k≤8
  | 0,_=>by simp [X6]
  | k+1,hk=>by
    have h:=ofCell_all hs c k qf
    by_cases e:(s.qx[k]!).qG=c
    · have:=(hs.2.2 k qf).2;rw [e] at this;exact this
    · rw [X6,if_neg e];omega
theorem cellT_len {s:qL} {t:qM} {c:Nat}:∀ k,((cellT s t k c).length:Int)≤X6 s.qx (c:Int) k
  | 0=>by simp [cellT,applL,X6]
  | k+1=>by
    have h:=cellT_len (s:=s) (t:=t) (c:=c) k
    rw [X6]
    by_cases e:(s.qx[k]!).qG=(c:Int)
    · rw [if_pos e]
      by_cases ha:Appl s t k
      · rw [← cellT_yes ha e,List.length_append,List.length_singleton];omega
      · rw [← Xb ha];omega
    · rw [if_neg e,← QK e];omega
theorem cellT_le (s:qL) (t:qM) (k c:Nat):(cellT s t k c).length≤k:=Nat.le_trans (List.length_filter_le _ _) (applL_le s t k)
theorem cellR_len {s:qL} {t:qM} (hs:jZ s) (c:Nat):(zH s t c).length≤8:=by
  have:=cellT_len (s:=s) (t:=t) (c:=c) s.qx.length
  have:=ofCell_all hs (c:Int) s.qx.length (Nat.le_refl _)
  unfold zH;omega
theorem cell_parts {s:qL} {t:qM} (hs:jZ s) (c:Nat):PartsOk (Qj s) (zi s (zH s t c)):=by
  intro i hi
  rw [XA] at hi
  obtain ⟨a1,a2,a3,a4⟩:=cellR_at hi
  rw [needs_get hi]
  have q:=hs.rule a2
  have b:=q.2.2.2.2.1
  have hl:=b.len
  have hsum:=q.2.2.2.2.2.2.2.2.2.1
  obtain ⟨j,hj,hp⟩:=sum_pos b.1 hsum
  exact ⟨hl,fun q' hq' =>b.get qf,j,by omega,hp⟩
theorem cell_rest {s:qL} {t:qM} (ht:zK s t) {c:Nat} (hc:c < t.qE.length):RestOk (Qj s) (t.qE[c]!):=by
  have b:=(ht.2.2.2.2 c hc).1
  exact ⟨b.len,fun q hq=>b.get (by have:=b.len;omega)⟩
theorem cell_pack {s:qL} {t:qM} (hs:jZ s) (ht:zK s t) {c:Nat} (hc:c < t.qE.length):Vm (zi s (zH s t c)) (t.qE[c]!):=
  ⟨Qj s,kinds_le hs,cell_parts hs c,cell_rest ht hc,by rw [XA];exact cellR_len hs c⟩
theorem all_cases {b:yLI} {parts:yLL}:(zW b parts=([],3))∨(X0 b≤16∧zW b parts=(packs parts parts.length 0 b,0)∧(packs parts parts.length 0 b).length≤2000):=by
  unfold zW
  split
  · exact .inl rfl
  · split
    · exact .inl rfl
    · exact .inr ⟨by omega,rfl,by omega⟩
theorem all_len (b:yLI) (parts:yLL):(zW b parts).1.length≤2000:=by
  rcases all_cases (b:=b) (parts:=parts) with h | ⟨_,h,h1⟩ <;> rw [h]
  · simp
  · exact h1
theorem all_at {b:yLI} {parts:yLL} {x:Nat} (h:x < (zW b parts).1.length):((zW b parts).1[x]!).length=parts.length:=by
  rcases all_cases (b:=b) (parts:=parts) with h1 | ⟨_,h1,_⟩
  · rw [h1] at h;simp at h
  · rw [h1] at h ⊢
    exact packs_len (by rw [getElem!_pos _ x h];exact List.getElem_mem h)
theorem all_code {b:yLI} {parts:yLL} (h:(zW b parts).2≠0):(zW b parts).2=3:=by
  rcases all_cases (b:=b) (parts:=parts) with h1 | ⟨_,h1,_⟩
  · rw [h1]
  · rw [h1] at h;exact absurd rfl h

def FewTo (s:qL) (t:qM) (k:Nat):Prop:=∀ c,c < k→(zH s t c).length=0∨¬ X0 (t.qE[c]!) > 16
theorem FewTo.succ {s:qL} {t:qM} {k:Nat} (h:FewTo s t k) (h1:(zH s t k).length=0∨¬ X0 (t.qE[k]!) > 16):FewTo s t (k+1):=fun j hj=>by
  by_cases e:j=k
  · subst e;exact h1
  · exact h j qf
def GoodP (s:qL) (t:qM) (k:Nat):Prop:=∀ c,c < k→(zH s t c).length=0∨(cellP s t c).2=0
theorem GoodP.succ {s:qL} {t:qM} {k:Nat} (h:GoodP s t k) (h1:(zH s t k).length=0∨(cellP s t k).2=0):GoodP s t (k+1):=fun j hj=>by
  by_cases e:j=k
  · subst e;exact h1
  · exact h j qf
theorem bad_sum {s:qL} {t:qM} {c n:Nat} (hc:c < n) (h:¬ (zH s t c).length=0) (h1:X0 (t.qE[c]!) > 16):¬ GoodP s t n:=fun hg=>by
  rcases hg c hc with h2 | h2
  · exact h h2
  · unfold cellP at h2;rw [all_a h1] at h2;simp at h2
theorem bad_code {s:qL} {t:qM} {c n:Nat} (hc:c < n) (h:¬ (zH s t c).length=0) (h1:¬ (cellP s t c).2=0):¬ GoodP s t n:=fun hg=>(hg c hc).elim h h1
noncomputable def X3 (s:qL) (t:qM) (k:Nat):yLN:=(List.range k).filter fun c=>decide ((zH s t c).length≠0)
noncomputable def xe (s:qL) (t:qM) (k:Nat):yLL:=(X3 s t k).map (zH s t)
noncomputable def xC (s:qL) (t:qM) (k:Nat):List yLL:=(X3 s t k).map fun c=>(cellP s t c).1
theorem live_yes {s:qL} {t:qM} {k:Nat} (h:¬ (zH s t k).length=0):X3 s t (k+1)=X3 s t k++[k]:=by unfold X3;rw [List.range_succ,List.filter_append,List.filter_cons_of_pos (a:=k) (by simpa only [decide_eq_true_eq] using h),List.filter_nil]
theorem live_no {s:qL} {t:qM} {k:Nat} (h:(zH s t k).length=0):X3 s t (k+1)=X3 s t k:=by unfold X3;rw [List.range_succ,List.filter_append,List.filter_cons_of_neg (by simp only [decide_eq_true_eq];exact fun x=>x h),List.filter_nil,List.append_nil]
theorem rules_yes {s:qL} {t:qM} {k:Nat} (h:¬ (zH s t k).length=0):xe s t k++[zH s t k]=xe s t (k+1):=by simp [xe,live_yes h]
theorem rules_no {s:qL} {t:qM} {k:Nat} (h:(zH s t k).length=0):xe s t k=xe s t (k+1):=by simp [xe,live_no h]
theorem packsL_yes {s:qL} {t:qM} {k:Nat} (h:¬ (zH s t k).length=0):xC s t k++[(cellP s t k).1]=xC s t (k+1):=by simp [xC,live_yes h]
theorem packsL_no {s:qL} {t:qM} {k:Nat} (h:(zH s t k).length=0):xC s t k=xC s t (k+1):=by simp [xC,live_no h]
theorem live_le (s:qL) (t:qM) (k:Nat):(X3 s t k).length≤k:=by
  have:=List.length_filter_le (fun c=>decide ((zH s t c).length≠0)) (List.range k)
  simpa [X3] using this
theorem rules_le (s:qL) (t:qM) (k:Nat):(xe s t k).length≤k:=by simpa [xe] using live_le s t k
theorem packsL_le (s:qL) (t:qM) (k:Nat):(xC s t k).length=(xe s t k).length:=by simp [xC,xe]
theorem live_at {s:qL} {t:qM} {k i:Nat} (h:i < (xe s t k).length):∃ c,c < k∧¬ (zH s t c).length=0∧(xe s t k)[i]! =zH s t c∧(xC s t k)[i]! =(cellP s t c).1:=by
  have hl:i < (X3 s t k).length:=by simpa [xe] using h
  have hm:=List.mem_filter.1 (show (X3 s t k)[i]∈X3 s t k from List.getElem_mem hl)
  refine ⟨(X3 s t k)[i],by simpa using hm.1,by simpa using hm.2,?_,?_⟩
  · rw [getElem!_pos _ i h];simp [xe]
  · rw [getElem!_pos _ i (by rw [packsL_le];exact h)];simp [xC]

def QG (all:List yLL):Nat→Nat
  | 0=>1
  | k+1=>QG all k * (all[k]!).length
theorem prod_mul (all:List yLL) (k:Nat):((QG all k:Nat):Int) * ((all[k]!).length:Int)=((QG all (k+1):Nat):Int):=by rw [QG,Int.natCast_mul]
theorem prod_mono {all:List yLL} {n:Nat} (h:∀ j,j < n→all[j]! ≠[]):∀ {j i:Nat},i≤j→j≤n→QG all i≤QG all j
  | 0, i, hi, _ => by obtain rfl : i = 0 := by omega
                      exact Nat.le_refl _
  | j+1,i,hi,hj=>by
    by_cases e:i=j+1
    · subst e;exact Nat.le_refl _
    · have h1:=prod_mono h (show i≤j by omega) qf
      have h2:0 < (all[j]!).length:=List.length_pos_iff.2 (h j qf)
      rw [QG]
      exact Nat.le_trans h1 (Nat.le_mul_of_pos_right _ h2)
theorem prod_pre {l:List yLL} {x:yLL}:∀ {k:Nat},k≤l.length→QG (l++[x]) k=QG l k
  | 0,_=>rfl
  | k+1,h=>by
    rw [QG,QG,prod_pre qf]
    congr 1
    rw [getElem!_pos (l++[x]) k (by simp;omega),getElem!_pos l k qf,List.getElem_append_left]
theorem prod_snoc (l:List yLL) (x:yLL):QG (l++[x]) (l++[x]).length=QG l l.length * x.length:=by
  rw [List.length_append,List.length_singleton,QG,prod_pre (Nat.le_refl _)]
  congr 1
  rw [getElem!_pos (l++[x]) l.length qm];simp
theorem cellP_ne {s:qL} {t:qM} (hs:jZ s) (ht:zK s t) {c:Nat} (hc:c < t.qE.length) (h:(cellP s t c).2=0):(cellP s t c).1≠[]:=by
  unfold cellP at h ⊢
  rcases all_cases (b:=t.qE[c]!) (parts:=zi s (zH s t c)) with h1 | ⟨h0,h1,_⟩
  · rw [h1] at h;simp at h
  · rw [h1]
    exact packs_ne (cell_parts hs c) _ 0 _ (Nat.zero_add _) (cell_rest ht hc) (sum_few (cell_rest ht hc) h0) fun i hi=>by omega
theorem cellP_few {s:qL} {t:qM} (hs:jZ s) (ht:zK s t) {c:Nat} (hc:c < t.qE.length) (hr:¬ (zH s t c).length=0):(cellP s t c).1.length≤17 ^ ((zH s t c).length - 1):=by
  unfold cellP
  rcases all_cases (b:=t.qE[c]!) (parts:=zi s (zH s t c)) with h1 | ⟨h0,h1,_⟩
  · rw [h1];simp
  · rw [h1]
    have:=packs_few (cell_parts (t:=t) hs c) ((zH s t c).length - 1) 0 _ (by rw [XA];omega) (cell_rest ht hc) (sum_few (cell_rest ht hc) h0)
    rw [XA,show (zH s t c).length=(zH s t c).length - 1+1 by omega]
    exact this
noncomputable def sumR (s:qL) (t:qM):Nat→Nat
  | 0=>0
  | k+1=>sumR s t k+(zH s t k).length
theorem filter_two (f:Int→Int) (k:Int):∀ (l:yLI),(l.filter fun x=>decide (f x < k+1)).length=(l.filter fun x=>decide (f x < k)).length+(l.filter fun x=>decide (f x=k)).length
  | []=>rfl
  | x :: l=>by
    have h:=filter_two f k l
    simp only [List.filter_cons]
    by_cases h1:f x < k
    · rw [if_pos (by simp;omega),if_pos (by simpa using h1),if_neg (by simp;omega)];simp only [List.length_cons];omega
    · by_cases h2:f x=k
      · rw [if_pos (by simp;omega),if_neg (by simpa using h1),if_pos (by simpa using h2)];simp only [List.length_cons];omega
      · rw [if_neg (by simp;omega),if_neg (by simpa using h1),if_neg (by simpa using h2)];exact h
theorem sumR_eq (s:qL) (t:qM):∀ k,sumR s t k≤((appls s t).filter fun x=>decide ((s.qx[x.toNat]!).qG < (k:Int))).length
  | 0=>Nat.zero_le _
  | k+1=>by
    have h:=sumR_eq s t k
    have h2:=filter_two (fun x=>(s.qx[x.toNat]!).qG) (k:Int) (appls s t)
    rw [sumR,show ((k+1:Nat):Int)=(k:Int)+1 by omega,h2]
    exact Nat.add_le_add h (Nat.le_refl _)
theorem sumR_le {s:qL} {t:qM} (hs:jZ s) (k:Nat):sumR s t k≤16:=
  Nat.le_trans (sumR_eq s t k) (Nat.le_trans (List.length_filter_le _ _) (Nat.le_trans (applL_le s t _) hs.2.1))
theorem prod_few {s:qL} {t:qM} (hs:jZ s) (ht:zK s t):∀ k,k≤t.qE.length→QG (xC s t k) (xC s t k).length≤17 ^ (sumR s t k - 1)
  | 0,_=>by show QG [] 0≤_;rw [QG];exact Nat.one_le_pow _ _ qj
  | k+1,hk=>by
    have h:=prod_few hs ht k qf
    rw [sumR]
    by_cases e:(zH s t k).length=0
    · rw [← packsL_no e,e];exact h
    · rw [← packsL_yes e,prod_snoc]
      refine Nat.le_trans (Nat.mul_le_mul h (cellP_few hs ht qf e)) ?_
      rw [← Nat.pow_add]
      exact Nat.pow_le_pow_right qj qf
theorem packsL_ne {s:qL} {t:qM} (hs:jZ s) (ht:zK s t) {k:Nat} (hk:k≤t.qE.length) (hg:GoodP s t k):∀ j,j < (xC s t k).length→(xC s t k)[j]! ≠[]:=fun j hj=>by
  obtain ⟨c,hc,hr,_,h2⟩:=live_at (s:=s) (t:=t) (k:=k) (i:=j) (by rw [← packsL_le];exact hj)
  rw [h2]
  exact cellP_ne hs ht qf ((hg c hc).resolve_left hr)
theorem prod_bd {s:qL} {t:qM} (hs:jZ s) (ht:zK s t) {k:Nat} (hk:k≤t.qE.length) (hg:GoodP s t k):∀ j,j≤(xC s t k).length→((QG (xC s t k) j:Nat):Int)≤2862423051509815793:=fun j hj=>by
  have h1:=prod_mono (packsL_ne hs ht hk hg) hj (Nat.le_refl _)
  have h2:=prod_few hs ht k hk
  have h3:17 ^ (sumR s t k - 1)≤17 ^ 15:=Nat.pow_le_pow_right qj (by have:=sumR_le (t:=t) hs k;omega)
  have h4:17 ^ 15=2862423051509815793:=by decide
  omega

def setTo (o r x:yLI):Nat→yLI
  | 0=>o
  | k+1=>(setTo o r x k).set (r[k]!).toNat (x[k]!)
theorem setTo_len (o r x:yLI):∀ k,(setTo o r x k).length=o.length
  | 0=>rfl
  | k+1=>by rw [setTo,List.length_set,setTo_len o r x k]
def setAll (o r x:yLI):yLI:=setTo o r x r.length
theorem setAll_len (o r x:yLI):(setAll o r x).length=o.length:=setTo_len o r x _
def nextK (G:yLL) (r:yLI) (P:yLL) (k:Nat):yLL:=(G.take k).flatMap fun o=>P.map (setAll o r)
def nextX (G:yLL) (r:yLI) (P:yLL) (k x:Nat):yLL:=nextK G r P k++(P.take x).map (setAll (G[k]!) r)
theorem nextX_zero (G:yLL) (r:yLI) (P:yLL) (k:Nat):nextK G r P k=nextX G r P k 0:=by simp [nextX]
theorem nextX_succ {G:yLL} {r:yLI} {P:yLL} {k x:Nat} (h:x < P.length) {v:yLI} (hv:v=setAll (G[k]!) r (P[x]!)):nextX G r P k x++[v]=nextX G r P k (x+1):=by
  subst hv;unfold nextX;rw [List.append_assoc,← take_snoc h,List.map_append];rfl
theorem nextX_end {G:yLL} {r:yLI} {P:yLL} {k x:Nat} (hk:k < G.length) (h:x=P.length):nextX G r P k x=nextK G r P (k+1):=by
  subst h;unfold nextX nextK;rw [List.take_length,← take_snoc hk,List.flatMap_append];simp
theorem nextK_len {G:yLL} {r:yLI} {P:yLL}:∀ {k:Nat},k≤G.length→(nextK G r P k).length=k * P.length
  | 0,_=>by simp [nextK]
  | k+1,h=>by
    rw [← nextX_end (show k < G.length by omega) rfl,nextX,List.length_append,nextK_len qf,List.take_length,List.length_map,Nat.add_mul,Nat.one_mul]
theorem nextX_len {G:yLL} {r:yLI} {P:yLL} {k x:Nat} (hk:k < G.length) (hx:x≤P.length):(nextX G r P k x).length=k * P.length+x:=by
  rw [nextX,List.length_append,nextK_len qf,List.length_map,List.length_take];omega
theorem nextX_le {G:yLL} {r:yLI} {P:yLL} {k x:Nat} (hk:k < G.length) (hx:x≤P.length):(nextX G r P k x).length≤G.length * P.length:=by
  rw [nextX_len hk hx]
  have:=Nat.mul_le_mul_right P.length (show k+1≤G.length from hk)
  rw [Nat.add_mul,Nat.one_mul] at this
  omega
def jd (n:Nat) (rs:yLL) (all:List yLL):Nat→yLL
  | 0=>[List.replicate n 0]
  | i+1=>nextK (jd n rs all i) (rs[i]!) (all[i]!) (jd n rs all i).length
theorem QV {n:Nat} {rs:yLL} {all:List yLL}:∀ i,(jd n rs all i).length=QG all i
  | 0=>rfl
  | i+1=>by rw [jd,nextK_len (Nat.le_refl _),QV i,QG]
theorem mem_at_L {l:yLL} {k:Nat} (h:k < l.length):l[k]! ∈l:=by rw [getElem!_pos l k h];exact List.getElem_mem h
theorem prodG_row {n:Nat} {rs:yLL} {all:List yLL}:∀ i,∀ x∈jd n rs all i,x.length=n
  | 0,x,h=>by obtain rfl:=List.mem_singleton.1 h;simp
  | i+1,x,h=>by
    rw [jd,nextK,List.mem_flatMap] at h
    obtain ⟨o,ho,h⟩:=h
    obtain ⟨y,_,rfl⟩:=List.mem_map.1 h
    rw [setAll_len]
    exact prodG_row i o (List.mem_of_mem_take ho)
theorem prodG_at {n:Nat} {rs:yLL} {all:List yLL} {i k:Nat} (h:k < (jd n rs all i).length):((jd n rs all i)[k]!).length=n:=prodG_row i _ (mem_at_L h)
open Classical in
noncomputable def inOrder (l:yLL):yLL:=if h:∃ m,l.Perm m∧InOrder m then Classical.choose h else l
theorem inOrder_eq {n:Nat} {l m:yLL} (hn:∀ x∈l,x.length=n) (hp:l.Perm m) (ho:InOrder m):inOrder l=m:=by
  have h:∃ m,l.Perm m∧InOrder m:=⟨m,hp,ho⟩
  unfold inOrder
  rw [dif_pos h]
  have hc:=Classical.choose_spec h
  exact order_one (n:=n) (fun x hx=>hn x (hc.1.symm.subset hx)) (hc.1.symm.trans hp) hc.2 ho
open Classical in
noncomputable def zX (s:qL) (t:qM):yLL×Int:=
  if ¬ GoodP s t s.qw.length then ([],3) else if QG (xC s t s.qw.length) (xC s t s.qw.length).length > 300 then ([],3)
  else (inOrder (jd s.qx.length (xe s t s.qw.length) (xC s t s.qw.length) (xC s t s.qw.length).length),0)
theorem cho_3 {s:qL} {t:qM} (h:¬ GoodP s t s.qw.length∨QG (xC s t s.qw.length) (xC s t s.qw.length).length > 300):zX s t=([],3):=by
  unfold zX
  by_cases h1:GoodP s t s.qw.length
  · rw [if_neg (by simpa using h1),if_pos (h.resolve_left (by simpa using h1))]
  · rw [if_pos h1]
theorem cho_0 {s:qL} {t:qM} {m:yLL} (h:GoodP s t s.qw.length) (h1:¬ QG (xC s t s.qw.length) (xC s t s.qw.length).length > 300)
    (hp:(jd s.qx.length (xe s t s.qw.length) (xC s t s.qw.length) (xC s t s.qw.length).length).Perm m) (ho:InOrder m):zX s t=(m,0):=by
  unfold zX
  rw [if_neg (by simpa using h),if_neg h1,inOrder_eq (prodG_row _) hp ho]
theorem in_order {l:yLL} {i:Nat} (hi:l.length≤i) (h:∀ a b,a < b→b < i→¬ ahead (l[b]!) (l[a]!)):InOrder l:=by
  have:=(orderTo_iff (l:=l) (k:=l.length) (Nat.le_refl _)).2 fun a b hab hb=>h a b hab qf
  unfold OrderTo at this
  rwa [List.take_length] at this
theorem cho_code {s:qL} {t:qM} {b:yLI} {p:yLL} (h:¬ GoodP s t s.qw.length) (h1:¬ (zW b p).2=0):zX s t=([],(zW b p).2):=by rw [cho_3 (.inl h),all_code h1]
theorem next_le {n i k x:Nat} {rs:yLL} {all:List yLL} (h:∀ j,j < all.length→all[j]! ≠[]) (h1:¬ QG all all.length > 300) (hi:i < all.length) (hk:k < (jd n rs all i).length) (hx:x≤(all[i]!).length):(nextX (jd n rs all i) (rs[i]!) (all[i]!) k x).length≤300:=by
  have h2:=nextX_le (r:=rs[i]!) hk hx
  have h3:=prod_mono h (show i+1≤all.length from hi) (Nat.le_refl _)
  rw [QG,← QV (n:=n) (rs:=rs) i] at h3
  omega
theorem G_le {n i:Nat} {rs:yLL} {all:List yLL} (h:∀ j,j < all.length→all[j]! ≠[]) (h1:¬ QG all all.length > 300) (hi:i≤all.length):(jd n rs all i).length≤300:=by
  have h3:=prod_mono h hi (Nat.le_refl _)
  rw [QV];omega
theorem cell_few {s:qL} {t:qM} {n i:Nat} (hs:jZ s) (hi:i < (xe s t n).length):((xe s t n)[i]!).length≤8∧((xC s t n)[i]!).length≤2000:=by
  obtain ⟨c,_,_,e,e1⟩:=live_at hi
  rw [e,e1]
  exact ⟨cellR_len hs c,all_len _ _⟩
theorem choice_at {s:qL} {t:qM} {n i r:Nat} (hi:i < (xe s t n).length) (hr:r < ((xe s t n)[i]!).length):0≤((xe s t n)[i]!)[r]! ∧(((xe s t n)[i]!)[r]!).toNat < s.qx.length:=by
  obtain ⟨c,_,_,e,_⟩:=live_at hi
  rw [e] at hr ⊢
  have:=cellR_at hr
  exact ⟨this.1,this.2.1⟩
theorem pack_at {s:qL} {t:qM} {n i x:Nat} (hi:i < (xe s t n).length) (hx:x < ((xC s t n)[i]!).length):(((xC s t n)[i]!)[x]!).length=((xe s t n)[i]!).length:=by
  obtain ⟨c,_,_,e,e1⟩:=live_at hi
  rw [e1] at hx ⊢
  rw [e]
  exact (all_at hx).trans (XA _ _)
theorem perm_rows {n m:Nat} {rs:yLL} {all:List yLL} {l:yLL} (h:(jd n rs all m).Perm l):∀ j,j < l.length→(l[j]!).length=n:=fun j hj=>prodG_row m _ (h.symm.subset (mem_at_L hj))
theorem perm_swap {l m:yLL} {k:Nat} (h:l.Perm m) (hk:0 < k) (hl:k < m.length):l.Perm (swapAt m k):=h.trans (swap_perm hk hl).symm
theorem cho_len (s:qL) (t:qM):(zX s t).1.length≤300:=by
  unfold zX
  split
  · simp
  · split
    · simp
    · next h1 h2=>
      show (inOrder _).length≤300
      unfold inOrder
      split
      · next h=>rw [← (Classical.choose_spec h).1.length_eq,QV];omega
      · rw [QV];omega
noncomputable def ownL (e:TypeId) (s:qL) (t:qM) (n q:Nat):List (OwnI e):=(List.range n).map fun (c:Nat)=>⟨((appls s t).take q).filter fun x=>decide ((s.qx[x.toNat]!).qG=(c:Int))⟩
theorem ownL_len (e:TypeId) (s:qL) (t:qM) (n q:Nat):(ownL e s t n q).length=n:=by simp [ownL]
theorem ownL_get {e:TypeId} {s:qL} {t:qM} {n q c:Nat} (h:c < n):(ownL e s t n q)[c]! =⟨((appls s t).take q).filter fun x=>decide ((s.qx[x.toNat]!).qG=(c:Int))⟩:=by
  rw [getElem!_pos (ownL e s t n q) c (by rw [ownL_len];exact h)];simp [ownL]
theorem ownL_zero (e:TypeId) (s:qL) (t:qM) (n:Nat):List.replicate n (⟨[]⟩:OwnI e)=ownL e s t n 0:=by
  refine List.ext_getElem (by simp [ownL]) fun i h1 h2=>by simp [ownL]
theorem ownL_set {e:TypeId} {s:qL} {t:qM} {n q c:Nat} (hq:q < (appls s t).length) (hc:(s.qx[((appls s t)[q]!).toNat]!).qG.toNat=c) (h0:0≤(s.qx[((appls s t)[q]!).toNat]!).qG) (hn:c < n)
    {l:List (OwnI e)} (hl:l=(ownL e s t n q).set c ⟨((ownL e s t n q)[c]!).l++[(appls s t)[q]!]⟩):l=ownL e s t n (q+1):=by
  subst hl
  refine List.ext_getElem (by simp [ownL]) fun i h1 h2=>?_
  have hi:i < n:=by simpa [ownL] using h1
  rw [← getElem!_pos _ i h1,← getElem!_pos _ i h2,getset (by rw [ownL_len];exact hn),ownL_get (q:=q+1) hi]
  rw [← take_snoc hq,List.filter_append]
  by_cases e' :i=c
  · subst e'
    rw [if_pos rfl,ownL_get hi,List.filter_cons_of_pos (a:=(appls s t)[q]!) (decide_eq_true qf),List.filter_nil]
  · rw [if_neg e',ownL_get hi]
    rw [List.filter_cons_of_neg (a:=(appls s t)[q]!) (fun h=>by have:=of_decide_eq_true h;omega),List.filter_nil,List.append_nil]
theorem ownL_le {e:TypeId} {s:qL} {t:qM} {n q c:Nat} (h:c < n):((ownL e s t n q)[c]!).l.length≤(appls s t).length:=by
  rw [ownL_get h]
  exact Nat.le_trans (List.length_filter_le _ _) (by rw [List.length_take];omega)
noncomputable def cellsR (s:qL) (t:qM) (n:Nat):yLL:=(List.range n).map (zH s t)
theorem cellsR_len (s:qL) (t:qM) (n:Nat):(cellsR s t n).length=n:=by simp [cellsR]
theorem cellsR_get {s:qL} {t:qM} {n c:Nat} (h:c < n):(cellsR s t n)[c]! =zH s t c:=by
  rw [getElem!_pos (cellsR s t n) c (by rw [cellsR_len];exact h)];simp [cellsR]
theorem ownL_end {e:TypeId} {s:qL} {t:qM} {n q:Nat} (h:(appls s t).length≤q):(ownL e s t n q).map OwnI.l=cellsR s t n:=by
  unfold ownL cellsR
  rw [List.take_of_length_le h,List.map_map]
  rfl
theorem own_bad {s:qL} {t:qM} (hs:jZ s) {q:Nat} (hq:q < (appls s t).length) (h1:X0 (t.qE[(s.qx[((appls s t)[q]!).toNat]!).qG.toNat]!) > 16):¬ GoodP s t s.qw.length:=by
  have hm:(appls s t)[q]! ∈appls s t:=by rw [getElem!_pos _ q hq];exact List.getElem_mem hq
  obtain ⟨a,b,d⟩:=mem_applL.1 hm
  have hc:=(hs.rule b).1
  have hcl:=(hs.rule b).cell
  refine bad_sum (c:=(s.qx[((appls s t)[q]!).toNat]!).qG.toNat) hcl (fun h0=>?_) h1
  have:(appls s t)[q]! ∈zH s t (s.qx[((appls s t)[q]!).toNat]!).qG.toNat:=by
    unfold zH cellT
    exact List.mem_filter.2 ⟨hm,decide_eq_true (Int.toNat_of_nonneg hc.1).symm⟩
  rw [List.eq_nil_of_length_eq_zero h0] at this
  simp at this
noncomputable def Qv (s:qL) (t:qM) (k:Nat):List inCellD:=(X3 s t k).map fun c=>⟨zH s t c,(cellP s t c).1⟩
theorem cells_len (s:qL) (t:qM) (k:Nat):(Qv s t k).length=(xe s t k).length:=by simp [Qv,xe]
theorem cells_yes {s:qL} {t:qM} {k:Nat} (h:¬ (zH s t k).length=0):Qv s t k++[⟨zH s t k,(cellP s t k).1⟩]=Qv s t (k+1):=by simp [Qv,live_yes h]
theorem cells_no {s:qL} {t:qM} {k:Nat} (h:(zH s t k).length=0):Qv s t k=Qv s t (k+1):=by simp [Qv,live_no h]
theorem cells_at {s:qL} {t:qM} {k i:Nat} (h:i < (Qv s t k).length):((Qv s t k)[i]!).frules=(xe s t k)[i]! ∧((Qv s t k)[i]!).fpackings=(xC s t k)[i]! :=by
  have h1:i < (xe s t k).length:=by rw [← cells_len];exact h
  have h2:i < (xC s t k).length:=by rw [packsL_le];exact h1
  rw [getElem!_pos _ i h,getElem!_pos _ i h1,getElem!_pos _ i h2]
  simp [Qv,xe,xC]
theorem prod_stop {all:List yLL} {n i k:Nat} (h:∀ j,j < n→all[j]! ≠[]) (hi:i < n) {G:yLL} {r:yLI} (hG:G.length=QG all i) (hk:k≤G.length) (h1:(nextK G r (all[i]!) k).length > 300):QG all n > 300:=by
  rw [nextK_len hk] at h1
  have h2:=prod_mono h (show i+1≤n from hi) (Nat.le_refl _)
  rw [QG,← hG] at h2
  have h3:=Nat.mul_le_mul_right (all[i]!).length hk
  omega
theorem appls_inH {s:qL} {t:qM} {q:Nat} (hq:q < (appls s t).length):0≤(appls s t)[q]! ∧((appls s t)[q]!).toNat < s.qx.length∧Appl s t ((appls s t)[q]!).toNat:=by
  have hm:(appls s t)[q]! ∈appls s t:=by rw [getElem!_pos _ q hq];exact List.getElem_mem hq
  exact mem_applL.1 hm
theorem bagAny_okH {l:yLI}:zY (l.length:Int) l↔X4 l:=⟨fun h=>h.1,fun h=>⟨h,rfl⟩⟩
theorem sumTo_ge {l:yLI} (h:∀ k,k < l.length→0≤l[k]!):∀ n,n≤l.length→0≤sumTo l n∧∀ j,j < n→l[j]! ≤sumTo l n
  | 0,_=>⟨by simp [sumTo],fun j hj=>by omega⟩
  | n+1,hn=>by
    obtain ⟨h1,h2⟩:=sumTo_ge h n qf
    have h3:=h n qf
    rw [sumTo]
    refine ⟨by omega,fun j hj=>?_⟩
    by_cases e:j=n
    · subst e;omega
    · have:=h2 j qf;omega
theorem Vm.bags {parts:yLL} {rest:yLI} (h:Vm parts rest) (h1:1≤parts.length):
    X4 rest∧parts.length≤8∧∀ i,i < parts.length→X4 (parts[i]!)∧(parts[i]!).length=rest.length∧X0 (parts[i]!)≠0:=by
  obtain ⟨K,hK,hP,hR,hn⟩:=h
  have bag:∀ i,i < parts.length→X4 (parts[i]!)∧(parts[i]!).length=rest.length∧X0 (parts[i]!)≠0:=fun i hi=>by
    obtain ⟨hl,hb,j,hj,hp⟩:=hP i hi
    refine ⟨⟨fun k hk=>hb k qf,by omega,by omega⟩,by have:=hR.1;omega,?_⟩
    have:=(sumTo_ge (l:=parts[i]!) (fun k hk=>(hb k qf).1) _ (Nat.le_refl _)).2 j qf
    unfold X0;omega
  obtain ⟨hl,_,j,hj,_⟩:=hP 0 qf
  exact ⟨⟨fun k hk=>hR.2 k (by have:=hR.1;omega),by have:=hR.1;omega,by have:=hR.1;omega⟩,hn,bag⟩
theorem pack_begin {cs cn:yLI} {i:Nat} {n:Int} (hc:i < cn.length) (h2:cn.take i=cs.take i):(cn.set i n).take (i+1)=cs.take i++[n]:=by
  rw [List.take_add_one,List.take_set_of_le (Nat.le_refl _),h2,List.getElem?_set_self hc];rfl
theorem pack_keep {cs cn c2:yLI} {i:Nat} {n:Int} (h:c2.take (i+1)=(cn.set i n).take (i+1)) (h2:cn.take i=cs.take i):c2.take i=cs.take i:=by
  have:=congrArg (List.take i) h
  rwa [List.take_take,List.take_take,Nat.min_eq_left qf,List.take_set_of_le (Nat.le_refl _),h2] at this
theorem pack_stepI {parts:yLL} {rest cs cn:yLI} {out:yLL} {f i n:Nat} (hf:i+f=parts.length) (hp:i < parts.length) (hc:cn.length=parts.length) (h2:cn.take i=cs.take i)
    (h:(gath out (begins (cs.take i) (jm parts (f - 1) i rest n))).length≤2000):
    gath (gath out (begins (cs.take i) (jm parts (f - 1) i rest n))) (begins ((cn.set i (n:Int)).take (i+1)) (packs parts (parts.length - (i+1)) (i+1) (vY rest (parts[i]!) (-(n:Int)))))=gath out (begins (cs.take i) (jm parts (f - 1) i rest (n+1))):=by
  rw [pack_begin qf h2,← gath_step h,show parts.length - (i+1)=f - 1 by omega]
theorem pack_startI {parts:yLL} {rest cs:yLI} {out:yLL} {f i:Nat} (h:out.length≤2000):out=gath out (begins (cs.take i) (jm parts f i rest 0)):=by
  rw [packsTo_zero];exact (gath_nil qf).symm
theorem pack_fullI {parts:yLL} {rest cs:yLI} {out:yLL} {i:Nat} (hl:i=parts.length) (hc:cs.length=parts.length) (h:FullOk parts rest) (ho:out.length≤2000):
    gath out (begins (cs.take i) (packs parts (parts.length - i) i rest))=out++[cs]:=by
  rw [show parts.length - i=0 by omega,packs_full h,begins_one,gath_one ho,List.take_of_length_le qf]
theorem pack_noneI {parts:yLL} {rest cs:yLI} {out:yLL} {i:Nat} (hl:i=parts.length) (h:¬ FullOk parts rest) (ho:out.length≤2000):
    gath out (begins (cs.take i) (packs parts (parts.length - i) i rest))=out:=by
  rw [show parts.length - i=0 by omega,packs_none h];exact gath_nil qf
theorem pack_endI {parts:yLL} {rest cs:yLI} {out:yLL} {f i n:Nat} (hf:i+f=parts.length) (hp:i < parts.length) (hn:(n:Int)≤jg (parts[i]!) rest+1)
    (h0:0≤jg (parts[i]!) rest) (h:¬ (n:Int)≤jg (parts[i]!) rest∨¬ (gath out (begins (cs.take i) (jm parts (f - 1) i rest n))).length≤2000):
    gath out (begins (cs.take i) (packs parts (parts.length - i) i rest))=gath out (begins (cs.take i) (jm parts (f - 1) i rest n)):=by
  obtain ⟨f,rfl⟩:∃ g,f=g+1:=⟨f - 1,by omega⟩
  rw [show parts.length - i=f+1 by omega]
  rw [show f+1 - 1=f from rfl] at h ⊢
  exact (gath_end qf (by rcases h with h | h;(left;omega);(right;omega))).symm
theorem all_bI {b cs:yLI} {parts:yLL} (h:¬ X0 b > 16) (h1:(gath ([]:yLL) (begins (cs.take 0) (packs parts (parts.length - 0) 0 b))).length > 2000):zW b parts=([],3):=by
  rw [show cs.take 0=[] from rfl,begins_nil] at h1
  have h2:(packs parts parts.length 0 b).length > 2000:=gath_all.1 h1
  rw [zW,if_neg h,if_pos h2]
theorem all_0I {b cs:yLI} {parts:yLL} (h:¬ X0 b > 16) (h1:¬ (gath ([]:yLL) (begins (cs.take 0) (packs parts (parts.length - 0) 0 b))).length > 2000):zW b parts=(gath ([]:yLL) (begins (cs.take 0) (packs parts (parts.length - 0) 0 b)),0):=by
  rw [show cs.take 0=[] from rfl,begins_nil] at h1 ⊢
  have h2:¬ (packs parts parts.length 0 b).length > 2000:=fun h=>h1 (gath_all.2 h)
  rw [zW,if_neg h,if_neg h2,show parts.length - 0=parts.length from rfl,gath_few h2]
def dotP:yLI→yLL→Nat→Int
  | n :: y,p :: ps,q=>n * p[q]! +dotP y ps q
  | _,_,_=>0
theorem packs_mem {K:Nat} {parts:yLL} (hP:PartsOk K parts):∀ (f k:Nat) (rest y:yLI),k+f=parts.length→RestOk K rest→y∈packs parts f k rest→
    (∀ v∈y,0≤v∧v≤1000)∧∀ q,q < K→0≤rest[q]! - dotP y (parts.drop k) q
  | 0,k,rest,y,hk,hR,h=>by
    rw [packs] at h
    split at h
    · obtain rfl:=List.mem_singleton.1 h
      refine ⟨fun v hv=>by simp at hv,fun q hq=>?_⟩
      have:=(hR.2 q hq).1
      simp only [dotP];omega
    · simp at h
  | f+1,k,rest,y,hk,hR,h=>by
    rw [packs,List.mem_flatMap] at h
    obtain ⟨n,hn,h⟩:=h
    obtain ⟨y',hy,rfl⟩:=List.mem_map.1 h
    have hb:=times_bd hP hR (k:=k) qf
    rw [List.mem_range] at hn
    obtain ⟨h1,h2⟩:=packs_mem hP f (k+1) _ y' qf (hR.take hP qf (n:=(n:Int)) qf qf) hy
    refine ⟨fun v hv=>?_,fun q hq=>?_⟩
    · rcases List.mem_cons.1 hv with rfl | hv
      · omega
      · exact h1 v hv
    · have h3:=h2 q hq
      rw [plus_get (by have:=hR.1;omega),Int.neg_mul] at h3
      rw [drop_cons' (show k < parts.length by omega),dotP]
      omega
where
  drop_cons' {l:yLL} {i:Nat} (h:i < l.length):l.drop i=l[i]! :: l.drop (i+1):=by
    rw [getElem!_pos l i h];exact (List.drop_eq_getElem_cons h)
def Vz (s:qL) (x:yLI) (q:Nat):yLI→Int
  | []=>0
  | r :: l=>x[r.toNat]! * ((s.qx[r.toNat]!).xE)[q]! +Vz s x q l
theorem sumOver_cat (s:qL) (x:yLI) (q:Nat):∀ (l m:yLI),Vz s x q (l++m)=Vz s x q l+Vz s x q m
  | [],m=>by simp [Vz]
  | r :: l,m=>by rw [List.cons_append,Vz,Vz,sumOver_cat s x q l m];omega
theorem sumOver_dot {s:qL} {x:yLI} {q:Nat}:∀ {l y:yLI},y.length=l.length→(∀ j,j < l.length→x[(l[j]!).toNat]! =y[j]!)→Vz s x q l=dotP y (zi s l) q
  | [],[],_,_=>rfl
  | [],_ :: _,h,_=>by simp at h
  | _ :: _,[],h,_=>by simp at h
  | r :: l,v :: y,h,h1=>by
    have h0:=h1 0 qm
    simp only [List.getElem!_cons_zero] at h0
    show _=dotP (v :: y) ((s.qx[r.toNat]!).xE :: zi s l) q
    rw [Vz,dotP,h0,sumOver_dot (by simpa using h) fun j hj=>by simpa using h1 (j+1) (by simp;omega)]
theorem needS_cell {s:qL} {t:qM} {x:yLI} {c q:Nat} (hs:jZ s):∀ k,k≤s.qx.length→(∀ i,i < k→(s.qx[i]!).qG=(c:Int)→¬ Appl s t i→x[i]! =0)→needS s x k c q= -(Vz s x q (cellT s t k c))
  | 0,_,_=>by simp [needS,cellT,applL,Vz]
  | k+1,hk,h=>by
    have ih:=needS_cell (t:=t) (c:=c) (q:=q) hs k qf fun i hi=>h i qf
    rw [needS,ih,needF,at']
    by_cases e:(s.qx[k]!).qG=(c:Int)
    · rw [if_pos qf]
      by_cases ha:Appl s t k
      · rw [← cellT_yes ha e,sumOver_cat]
        simp only [Vz,Int.toNat_natCast]
        rw [Int.neg_mul];omega
      · rw [← Xb ha,h k qf e ha]
        simp
    · rw [if_neg (fun h' =>e (by have:=(hs.rule (i:=k) qf).1.1;omega)),← QK e];omega

theorem setTo_ne {o r x:yLI} {p:Nat}:∀ {k:Nat},(∀ j,j < k→(r[j]!).toNat≠p)→(∀ j,j < k→(r[j]!).toNat < o.length)→(setTo o r x k)[p]! =o[p]!
  | 0,_,_=>rfl
  | k+1,h,h1=>by
    rw [setTo,getset (by rw [setTo_len];exact h1 k qf),if_neg (fun e=>h k qf e.symm)]
    exact setTo_ne (fun j hj=>h j qf) fun j hj=>h1 j qf
theorem setTo_eq {o r x:yLI} {j:Nat}:∀ {k:Nat},(∀ a b,a < k→b < k→(r[a]!).toNat=(r[b]!).toNat→a=b)→(∀ j,j < k→(r[j]!).toNat < o.length)→j < k→(setTo o r x k)[(r[j]!).toNat]! =x[j]!
  | 0,_,_,h=>by omega
  | k+1,hi,h1,hj=>by
    rw [setTo,getset (by rw [setTo_len];exact h1 k qf)]
    by_cases e:j=k
    · subst e;rw [if_pos rfl]
    · rw [if_neg (fun e' =>e (hi j k qf qf e'))]
      exact setTo_eq (fun a b ha hb=>hi a b qf qf) (fun j hj=>h1 j qf) qf
theorem inj_lt {α:Type} [LT α] {l:List α} (irr:∀ x:α,¬ x < x) (h:l.Pairwise (· < ·)) {a b:Nat} (ha:a < l.length) (hb:b < l.length) (e:l[a]=l[b]):a=b:=by
  rw [List.pairwise_iff_getElem] at h
  rcases Nat.lt_trichotomy a b with h1 | h1 | h1
  · have:=h a b ha hb h1;rw [e] at this;exact absurd this (irr _)
  · exact h1
  · have:=h b a hb ha h1;rw [e] at this;exact absurd this (irr _)
theorem applL_lt (s:qL) (t:qM) (k:Nat):(applL s t k).Pairwise (· < ·):=by
  unfold applL
  rw [List.pairwise_map]
  exact (List.pairwise_lt_range.filter _).imp fun h=>by simpa using h
theorem cellR_inj {s:qL} {t:qM} {c a b:Nat} (ha:a < (zH s t c).length) (hb:b < (zH s t c).length) (h:((zH s t c)[a]!).toNat=((zH s t c)[b]!).toNat):a=b:=by
  have h1:=(cellR_at ha).1
  have h2:=(cellR_at hb).1
  have hn:(zH s t c).Pairwise (· < ·):=by unfold zH cellT;exact (applL_lt s t _).filter _
  have e:(zH s t c)[a]! =(zH s t c)[b]! :=by omega
  rw [getElem!_pos _ a ha,getElem!_pos _ b hb] at e
  exact inj_lt (fun x=>by omega) hn ha hb e
theorem live_cell {s:qL} {t:qM} {k i i' :Nat} (h:i < (xe s t k).length) (h' :i' < (xe s t k).length):∃ c c',(xe s t k)[i]! =zH s t c∧(xe s t k)[i']! =zH s t c' ∧(c=c' →i=i'):=by
  have hl:i < (X3 s t k).length:=by simpa [xe] using h
  have hl' :i' < (X3 s t k).length:=by simpa [xe] using h'
  have hn:(X3 s t k).Pairwise (· < ·):=by unfold X3;exact List.pairwise_lt_range.filter _
  refine ⟨(X3 s t k)[i],(X3 s t k)[i'],?_,?_,fun e=>inj_lt (fun x=>by omega) hn hl hl' e⟩
  · rw [getElem!_pos _ i h];simp [xe]
  · rw [getElem!_pos _ i' h'];simp [xe]
theorem rules_inj {s:qL} {t:qM} {k i i' j j' :Nat} (h:i < (xe s t k).length) (h' :i' < (xe s t k).length) (hj:j < ((xe s t k)[i]!).length) (hj' :j' < ((xe s t k)[i']!).length)
    (e:(((xe s t k)[i]!)[j]!).toNat=(((xe s t k)[i']!)[j']!).toNat):i=i' ∧j=j' :=by
  obtain ⟨c,c',e1,e2,e3⟩:=live_cell h h'
  rw [e1] at hj e
  rw [e2] at hj' e
  have h1:=cellR_at hj
  have h2:=cellR_at hj'
  have hc:c=c' :=by
    have a:=h1.2.2.2
    have b:=h2.2.2.2
    rw [e] at a
    omega
  subst hc
  exact ⟨e3 rfl,cellR_inj hj hj' e⟩
def Says (s:qL) (t:qM) (k m:Nat) (x:yLI):Prop:=
  x.length=s.qx.length∧(∀ i,i < m→∃ y,y∈(xC s t k)[i]! ∧∀ j,j < ((xe s t k)[i]!).length→x[(((xe s t k)[i]!)[j]!).toNat]! =y[j]!)∧
  ∀ r,r < s.qx.length→(∀ i,i < m→∀ j,j < ((xe s t k)[i]!).length→(((xe s t k)[i]!)[j]!).toNat≠r)→x[r]! =0
theorem prodG_says {s:qL} {t:qM} {k:Nat}:∀ m,m≤(xe s t k).length→∀ x∈jd s.qx.length (xe s t k) (xC s t k) m,Says s t k m x
  | 0,_,x,h=>by
    obtain rfl:=List.mem_singleton.1 h
    refine ⟨by simp,fun i hi=>by omega,fun r hr _=>?_⟩
    rw [getElem!_pos _ r (by simpa using hr)];simp
  | m+1,hm,x,h=>by
    rw [jd,nextK,List.mem_flatMap] at h
    obtain ⟨o,ho,h⟩:=h
    obtain ⟨y,hy,rfl⟩:=List.mem_map.1 h
    obtain ⟨h1,h2,h3⟩:=prodG_says m qf o (List.mem_of_mem_take ho)
    have hb:∀ j,j < ((xe s t k)[m]!).length→(((xe s t k)[m]!)[j]!).toNat < o.length:=fun j hj=>by rw [h1];exact (choice_at qf hj).2
    have hn:∀ a b,a < ((xe s t k)[m]!).length→b < ((xe s t k)[m]!).length→(((xe s t k)[m]!)[a]!).toNat=(((xe s t k)[m]!)[b]!).toNat→a=b:=fun a b ha hb' e=>(rules_inj (show m < _ by omega) (show m < _ by omega) ha hb' e).2
    refine ⟨by rw [setAll_len];exact h1,fun i hi=>?_,fun r hr hne=>?_⟩
    · by_cases e:i=m
      · subst e
        exact ⟨y,hy,fun j hj=>setTo_eq hn hb hj⟩
      · obtain ⟨y',hy',h4⟩:=h2 i qf
        refine ⟨y',hy',fun j hj=>?_⟩
        rw [← h4 j hj]
        exact setTo_ne (fun a ha e' =>e (rules_inj (show m < _ by omega) (show i < _ by omega) ha hj e').1.symm) hb
    · rw [← h3 r hr fun i hi j hj=>hne i qf j hj]
      exact setTo_ne (fun a ha=>hne m qf a ha) hb
theorem cell_live {s:qL} {t:qM} {k c:Nat} (hk:c < k) (h:¬ (zH s t c).length=0):∃ i,i < (xe s t k).length∧(xe s t k)[i]! =zH s t c∧(xC s t k)[i]! =(cellP s t c).1:=by
  have hm:c∈X3 s t k:=List.mem_filter.2 ⟨List.mem_range.2 hk,decide_eq_true h⟩
  obtain ⟨i,hi,e⟩:=List.mem_iff_getElem.1 hm
  refine ⟨i,by simpa [xe] using hi,?_,?_⟩
  · rw [getElem!_pos _ i (by simpa [xe] using hi)];simp [xe,e]
  · rw [getElem!_pos _ i (by simpa [xC] using hi)];simp [xC,e]
theorem says_choice {s:qL} {t:qM} (hs:jZ s) (ht:zK s t) {x:yLI} (h:Says s t s.qw.length (xe s t s.qw.length).length x):CntOk s x∧IsCh s t x:=by
  obtain ⟨h1,h2,h3⟩:=h
  have hB:=ht.2.1
  -- a packing of a cell
  have cell:∀ c,c < s.qw.length→¬ (zH s t c).length=0→∃ y,y.length=(zH s t c).length∧(∀ v∈y,0≤v∧v≤1000)∧(∀ j,j < (zH s t c).length→x[((zH s t c)[j]!).toNat]! =y[j]!)∧∀ q,q < Qj s→0≤(t.qE[c]!)[q]! - dotP y (zi s (zH s t c)) q:=fun c hc hr=>by
    obtain ⟨i,hi,e1,e2⟩:=cell_live (s:=s) (t:=t) hc hr
    obtain ⟨y,hy,h4⟩:=h2 i hi
    rw [e1] at h4
    rw [e2] at hy
    unfold cellP at hy
    rcases all_cases (b:=t.qE[c]!) (parts:=zi s (zH s t c)) with h5 | ⟨_,h5,_⟩
    · rw [h5] at hy;simp at hy
    · rw [h5] at hy
      have h6:=packs_mem (cell_parts (t:=t) hs c) _ 0 _ y (Nat.zero_add _) (cell_rest ht qf) hy
      exact ⟨y,(packs_len hy).trans (XA _ _),h6.1,h4,h6.2⟩
  have at' :∀ i,i < s.qx.length→(x[i]! =0∨Appl s t i)∧0≤x[i]! ∧x[i]! ≤1000:=fun i hi=>by
    by_cases hex:∃ a b,a < (xe s t s.qw.length).length∧b < ((xe s t s.qw.length)[a]!).length∧(((xe s t s.qw.length)[a]!)[b]!).toNat=i
    · obtain ⟨a,b,ha,hb,e⟩:=hex
      obtain ⟨c,hc,hr,e1,_⟩:=live_at ha
      rw [e1] at hb e
      obtain ⟨y,hl,hv,hx,_⟩:=cell c hc hr
      have h5:=cellR_at hb
      have h6:=hx b hb
      rw [e] at h5 h6
      have h7:=hv (y[b]!) (by rw [getElem!_pos y b qf];exact List.getElem_mem _)
      rw [h6]
      exact ⟨.inr h5.2.2.1,h7⟩
    · have h5:=h3 i hi fun a ha b hb e=>hex ⟨a,b,ha,hb,e⟩
      rw [h5]
      exact ⟨.inl rfl,by omega,by omega⟩
  have hc:CntOk s x:=⟨h1,fun i hi=>(at' i qf).2⟩
  refine ⟨hc,fun i hi hb=>?_,fun p hp q hq=>?_⟩
  · rcases (at' i qf).1 with h5 | h5
    · have:=hb.1;omega
    · exact hb.2 h5
  · rw [h1] at hq ⊢
    have he:=restR_ent hs ht hc s.qx.length (Nat.le_refl _)
    have hl:((yQ s t x s.qx.length)[p]!).length=Qj s:=(he.sh.2 p (by unfold jb;omega)).1
    have heq:=he.eq p q (by unfold jb;omega) qf
    rw [heq]
    have hn:=needS_cell (t:=t) (x:=x) (c:=p) (q:=q) hs s.qx.length (Nat.le_refl _) fun i hi _ ha=>((at' i hi).1).resolve_right ha
    rw [hn]
    have hbag:=(cell_rest (s:=s) ht hp).2 q qf
    by_cases hr:(zH s t p).length=0
    · show 0≤(t.qE[p]!)[q]! + -(Vz s x q (zH s t p))
      rw [List.eq_nil_of_length_eq_zero hr]
      simp only [Vz];omega
    · obtain ⟨y,hy,_,hx,hd⟩:=cell p qf hr
      have h6:=hd q qf
      rw [← sumOver_dot hy hx] at h6
      show 0≤(t.qE[p]!)[q]! + -(Vz s x q (zH s t p))
      omega
theorem cho_ok {s:qL} {t:qM} (hs:jZ s) (ht:zK s t) {k:Nat} (hk:k < (zX s t).1.length):CntOk s ((zX s t).1[k]!)∧IsCh s t ((zX s t).1[k]!):=by
  have hm:(zX s t).1[k]! ∈(zX s t).1:=mem_at_L hk
  generalize (zX s t).1[k]! =x at hm
  unfold zX at hm
  split at hm
  · simp at hm
  · split at hm
    · simp at hm
    · have hx:x∈inOrder (jd s.qx.length (xe s t s.qw.length) (xC s t s.qw.length) (xC s t s.qw.length).length):=hm
      unfold inOrder at hx
      have hle:=packsL_le s t s.qw.length
      split at hx
      · next h=>exact says_choice hs ht (by rw [← hle];exact prodG_says _ qf x ((Classical.choose_spec h).1.symm.subset hx))
      · exact says_choice hs ht (by rw [← hle];exact prodG_says _ qf x hx)
theorem halt_cells {s:qL} {t:qM} (h:Halted s t) (c:Nat):(zH s t c).length=0:=by
  have h1:=appls_halt.2 h
  have h2:(zH s t c).length≤(appls s t).length:=List.length_filter_le _ _
  omega
theorem halt_live {s:qL} {t:qM} (h:Halted s t):∀ k,xC s t k=[]
  | 0=>rfl
  | k+1=>by rw [← packsL_no (halt_cells h k)];exact halt_live h k
theorem halt_cho {s:qL} {t:qM} (h:Halted s t):(zX s t).2=0:=by
  unfold zX
  rw [if_neg (fun h' =>h' fun c _=>.inl (halt_cells h c)),halt_live h,if_neg (by show ¬ 1 > 300;omega)]
open Classical in
noncomputable def qX (s:qL) (t:qM):List qM×Int:=if Halted s t then ([],0) else if (zX s t).2≠0 then ([],(zX s t).2) else yX s t (zX s t).1
theorem succ_h {s:qL} {t:qM} (h:Halted s t):qX s t=([],0):=by rw [qX,if_pos h]
theorem succ_c {s:qL} {t:qM} (h:(zX s t).2≠0):qX s t=([],(zX s t).2):=by rw [qX,if_neg (fun h' =>h (halt_cho h')),if_pos h]
theorem succ_0 {s:qL} {t:qM} (h:¬ Halted s t) (h1:(zX s t).2=0):qX s t=yX s t (zX s t).1:=by rw [qX,if_neg h,if_neg (fun x=>x h1)]
theorem nextTo_ok {s:qL} {t:qM} {cs:yLL}:∀ {k:Nat},NoBad s t cs k→∀ u∈jG s t cs k,zK s u
  | 0,_,u,hu=>by simp [jG] at hu
  | k+1,h,u,hu=>by
    have ih:=nextTo_ok (s:=s) (t:=t) (cs:=cs) (k:=k) fun j hj=>h j qf
    rw [jG] at hu
    split at hu
    · exact ih u hu
    · rcases List.mem_append.1 hu with h1 | h1
      · exact ih u h1
      · obtain rfl:=List.mem_singleton.1 h1
        exact stepBy_ok (Classical.byContradiction fun hc=>h k qf hc)
theorem succ_ok {s:qL} {t:qM}:∀ u∈(qX s t).1,zK s u:=fun u hu=>by
  rw [qX] at hu
  split at hu
  · simp at hu
  · split at hu
    · simp at hu
    · rw [yX] at hu
      split at hu
      · next h=>exact nextTo_ok h u hu
      · simp at hu
theorem least_of {g:Nat→Bool}:∀ k,g k=true→∃ m,m≤k∧g m=true∧∀ j,j < m→g j=false:=fun k=>Nat.strongRecOn k fun k ih h=>by
  by_cases hx:∃ j,j < k∧g j=true
  · obtain ⟨j,hj,h1⟩:=hx
    obtain ⟨m,a,b,c⟩:=ih j hj h1
    exact ⟨m,by omega,b,c⟩
  · exact ⟨k,Nat.le_refl _,h,fun j hj=>by
      cases e:g j with
      | false=>rfl
      | true=>exact absurd ⟨j,hj,e⟩ hx⟩
theorem firstIdx_lt {g:Nat→Bool} {n:Nat} (h:0≤firstIdx g n):(firstIdx g n).toNat < n:=by
  by_cases hx:∃ k,k < n∧g k=true
  · obtain ⟨k,hk,h1⟩:=hx
    obtain ⟨m,a,b,c⟩:=least_of k h1
    rw [firstIdx_some (show m < n by omega) c b];omega
  · rw [firstIdx_none (fun j hj=>by
      cases e:g j with
      | false=>rfl
      | true=>exact absurd ⟨j,hj,e⟩ hx)] at h
    omega
def zU (S nx:List qM):Nat→List qM×yLI
  | 0=>(S,[])
  | k+1=>if firstIdx (fun j=>decide ((zU S nx k).1[j]! =nx[k]!)) (zU S nx k).1.length < 0 then ((zU S nx k).1++[nx[k]!],(zU S nx k).2++[((zU S nx k).1.length:Int)])
    else ((zU S nx k).1,(zU S nx k).2++[firstIdx (fun j=>decide ((zU S nx k).1[j]! =nx[k]!)) (zU S nx k).1.length])
theorem Vl {S nx:List qM} {k:Nat} (h:firstIdx (fun j=>decide ((zU S nx k).1[j]! =nx[k]!)) (zU S nx k).1.length < 0):
    (zU S nx k).1++[nx[k]!]=(zU S nx (k+1)).1∧(zU S nx k).2++[((zU S nx k).1.length:Int)]=(zU S nx (k+1)).2:=by
  rw [zU,if_pos h];exact ⟨rfl,rfl⟩
theorem Vk {S nx:List qM} {k:Nat} (h:¬ firstIdx (fun j=>decide ((zU S nx k).1[j]! =nx[k]!)) (zU S nx k).1.length < 0):
    (zU S nx k).1=(zU S nx (k+1)).1∧(zU S nx k).2++[firstIdx (fun j=>decide ((zU S nx k).1[j]! =nx[k]!)) (zU S nx k).1.length]=(zU S nx (k+1)).2:=by
  rw [zU,if_neg h];exact ⟨rfl,rfl⟩
theorem addSt_len {S nx:List qM}:∀ k,S.length≤(zU S nx k).1.length∧(zU S nx k).1.length≤S.length+k∧(zU S nx k).2.length=k
  | 0=>⟨Nat.le_refl _,Nat.le_refl _,rfl⟩
  | k+1=>by
    have h:=addSt_len (S:=S) (nx:=nx) k
    rw [zU]
    split <;> simp only [List.length_append,List.length_cons,List.length_nil] <;> omega
theorem addSt_mem {S nx:List qM} {p:qM→Prop} (h1:∀ u∈S,p u) (h2:∀ u∈nx,p u):∀ k,k≤nx.length→∀ u∈(zU S nx k).1,p u
  | 0,_,u,hu=>h1 u hu
  | k+1,hk,u,hu=>by
    have ih:=addSt_mem h1 h2 k qf
    rw [zU] at hu
    split at hu
    · rcases List.mem_append.1 hu with h | h
      · exact ih u h
      · obtain rfl:=List.mem_singleton.1 h
        exact h2 _ (by rw [getElem!_pos nx k qf];exact List.getElem_mem _)
    · exact ih u hu
noncomputable def grGo (s:qL):Nat→Nat→List qM→yLL→(List qM×yLL)×Int
  | 0,_,S,R=>((S,R),0)
  | f+1,i,S,R=>if S.length≤i then ((S,R),0) else if (qX s (S[i]!)).2≠0 then (([],[]),(qX s (S[i]!)).2)
    else if (zU S (qX s (S[i]!)).1 (qX s (S[i]!)).1.length).1.length > 300 then (([],[]),3)
    else grGo s f (i+1) (zU S (qX s (S[i]!)).1 (qX s (S[i]!)).1.length).1 (R++[(zU S (qX s (S[i]!)).1 (qX s (S[i]!)).1.length).2])
noncomputable def grRes (s:qL) (t:qM):(List qM×yLL)×Int:=grGo s 302 0 [t] []
theorem gr_end {s:qL} {f i:Nat} {S:List qM} {R:yLL} (h:S.length≤i):grGo s f i S R=((S,R),0):=by
  cases f with
  | zero=>rfl
  | succ f=>rw [grGo,if_pos h]
theorem gr_code {s:qL} {f i:Nat} {S:List qM} {R:yLL} (hf:0 < f) (h:i < S.length) (h1:(qX s (S[i]!)).2≠0):grGo s f i S R=(([],[]),(qX s (S[i]!)).2):=by
  obtain ⟨f,rfl⟩:∃ g,f=g+1:=⟨f - 1,by omega⟩
  rw [grGo,if_neg qf,if_pos h1]
theorem gr_many {s:qL} {f i:Nat} {S:List qM} {R:yLL} (hf:0 < f) (h:i < S.length) (h1:(qX s (S[i]!)).2=0) {k:Nat} (hk:k=(qX s (S[i]!)).1.length) (h2:(zU S (qX s (S[i]!)).1 k).1.length > 300):grGo s f i S R=(([],[]),3):=by
  obtain ⟨f,rfl⟩:∃ g,f=g+1:=⟨f - 1,by omega⟩
  subst hk
  rw [grGo,if_neg qf,if_neg (fun x=>x h1),if_pos h2]
theorem gr_go {s:qL} {f i:Nat} {S:List qM} {R:yLL} (hf:0 < f) (h:i < S.length) (h1:(qX s (S[i]!)).2=0) {k:Nat} (hk:k=(qX s (S[i]!)).1.length) (h2:¬ (zU S (qX s (S[i]!)).1 k).1.length > 300):
    grGo s f i S R=grGo s (f - 1) (i+1) (zU S (qX s (S[i]!)).1 k).1 (R++[(zU S (qX s (S[i]!)).1 k).2]):=by
  obtain ⟨f,rfl⟩:∃ g,f=g+1:=⟨f - 1,by omega⟩
  subst hk
  rw [grGo,if_neg qf,if_neg (fun x=>x h1),if_neg h2]
  rfl
structure GrOk (S:List qM) (R:yLL):Prop where
  rows:∀ i,i < R.length→∀ k,k < (R[i]!).length→0≤(R[i]!)[k]! ∧((R[i]!)[k]!).toNat < S.length
  lens:∀ i,i < R.length→(R[i]!).length≤300
  from' :∀ j,0 < j→j < S.length→∃ i,i < R.length∧i < j∧∃ k,k < (R[i]!).length∧(R[i]!)[k]! =(j:Int)
theorem addSt_rows {S nx:List qM}:∀ k,(∀ q,q < k→0≤(zU S nx k).2[q]! ∧((zU S nx k).2[q]!).toNat < (zU S nx k).1.length)∧∀ j,S.length≤j→j < (zU S nx k).1.length→∃ q,q < k∧(zU S nx k).2[q]! =(j:Int)
  | 0=>⟨fun q hq=>by omega,fun j h1 h2=>by have:j < S.length:=h2;omega⟩
  | k+1=>by
    obtain ⟨h1,h2⟩:=addSt_rows (S:=S) (nx:=nx) k
    obtain ⟨l1,l2,l3⟩:=addSt_len (S:=S) (nx:=nx) k
    have hg:∀ (x:Int) q,q < k→((zU S nx k).2++[x])[q]! =(zU S nx k).2[q]! :=fun x q hq=>by
      rw [getElem!_pos _ q (by simp;omega),getElem!_pos _ q qf,List.getElem_append_left]
    have hk:∀ (x:Int),((zU S nx k).2++[x])[k]! =x:=fun x=>by
      rw [getElem!_pos _ k (by simp;omega),List.getElem_append_right qf];simp [l3]
    rw [zU]
    split
    · refine ⟨fun q hq=>?_,fun j hj hj2=>?_⟩
      · show 0≤((zU S nx k).2++[_])[q]! ∧(((zU S nx k).2++[_])[q]!).toNat < ((zU S nx k).1++[_]).length
        rw [List.length_append,List.length_singleton]
        by_cases e:q=k
        · subst e;rw [hk];omega
        · rw [hg _ q qf];have:=h1 q qf;omega
      · have hj3:j < (zU S nx k).1.length+1:=by simpa using hj2
        by_cases e:j=(zU S nx k).1.length
        · exact ⟨k,by omega,by subst e;exact hk _⟩
        · obtain ⟨q,hq,e2⟩:=h2 j hj qf
          exact ⟨q,by omega,by rw [← e2];exact hg _ q hq⟩
    · next hn=>
      have hb:0≤firstIdx (fun j=>decide ((zU S nx k).1[j]! =nx[k]!)) (zU S nx k).1.length:=by omega
      have hb2:(firstIdx (fun j=>decide ((zU S nx k).1[j]! =nx[k]!)) (zU S nx k).1.length).toNat < (zU S nx k).1.length:=firstIdx_lt hb
      refine ⟨fun q hq=>?_,fun j hj hj2=>?_⟩
      · show 0≤((zU S nx k).2++[_])[q]! ∧(((zU S nx k).2++[_])[q]!).toNat < (zU S nx k).1.length
        by_cases e:q=k
        · subst e;rw [hk];exact ⟨hb,hb2⟩
        · rw [hg _ q qf];exact h1 q qf
      · obtain ⟨q,hq,e2⟩:=h2 j hj hj2
        exact ⟨q,by omega,by rw [← e2];exact hg _ q hq⟩
theorem GrOk.start (t:qM):GrOk [t] []:=⟨fun i hi=>by simp at hi,fun i hi=>by simp at hi,fun j h1 h2=>by simp at h2;omega⟩
theorem GrOk.next {S:List qM} {R:yLL} (h:GrOk S R) (hR:R.length < S.length) {nx:List qM} {k:Nat} (hk:k≤300):GrOk (zU S nx k).1 (R++[(zU S nx k).2]):=by
  obtain ⟨h1,h2⟩:=addSt_rows (S:=S) (nx:=nx) k
  obtain ⟨l1,l2,l3⟩:=addSt_len (S:=S) (nx:=nx) k
  have hg:∀ i,i < R.length→(R++[(zU S nx k).2])[i]! =R[i]! :=fun i hi=>by
    rw [getElem!_pos _ i (by simp;omega),getElem!_pos _ i hi,List.getElem_append_left]
  have he:(R++[(zU S nx k).2])[R.length]! =(zU S nx k).2:=by
    rw [getElem!_pos _ R.length qm];simp
  refine ⟨fun i hi q hq=>?_,fun i hi=>?_,fun j hj hj2=>?_⟩
  · rw [List.length_append,List.length_singleton] at hi
    by_cases e:i=R.length
    · subst e;rw [he] at hq ⊢;exact h1 q qf
    · rw [hg i qf] at hq ⊢;have:=h.rows i qf q hq;omega
  · rw [List.length_append,List.length_singleton] at hi
    by_cases e:i=R.length
    · subst e;rw [he];omega
    · rw [hg i qf];exact h.lens i qf
  · rw [List.length_append,List.length_singleton]
    by_cases e:j < S.length
    · obtain ⟨i,hi,hij,q,hq,e2⟩:=h.from' j hj e
      exact ⟨i,by omega,hij,q,by rw [hg i hi];exact hq,by rw [hg i hi];exact e2⟩
    · obtain ⟨q,hq,e2⟩:=h2 j qf hj2
      exact ⟨R.length,by omega,by omega,q,by rw [he];omega,by rw [he];exact e2⟩
def HaltIn (R:yLL):Nat→Nat→Prop
  | 0,_=>False
  | f+1,i=>∀ k,k < (R[i]!).length→HaltIn R f ((R[i]!)[k]!).toNat
def mxF (g:Nat→Int) (r:yLI):Nat→Int
  | 0=>0
  | k+1=>max (mxF g r k) (g ((r[k]!).toNat)+1)
def dpN (R:yLL):Nat→Nat→Int
  | 0,_=>0
  | f+1,i=>mxF (dpN R f) (R[i]!) (R[i]!).length
def Fi (R:yLL) (i:Nat) (d:Int):Prop:=∃ f,HaltIn R f i∧dpN R f i=d
def Halts (R:yLL) (i:Nat):Prop:=∃ f,HaltIn R f i
theorem mxF_congr {g g' :Nat→Int} {r:yLI}:∀ k:Nat,(∀ q,q < k→g ((r[q]!).toNat)=g' ((r[q]!).toNat))→mxF g r k=mxF g' r k
  | 0,_=>rfl
  | k+1,h=>by rw [mxF,mxF,mxF_congr k fun q hq=>h q qf,h k qf]
theorem haltIn_mono {R:yLL}:∀ f i,HaltIn R f i→∀ f',f≤f' →HaltIn R f' i∧dpN R f' i=dpN R f i
  | 0,_,h,_,_=>h.elim
  | f+1,i,h,f',hf=>by
    obtain ⟨f',rfl⟩:∃ x,f' =x+1:=⟨f' - 1,by omega⟩
    exact ⟨fun k hk=>(haltIn_mono f _ (h k hk) f' qf).1,mxF_congr _ fun q hq=>(haltIn_mono f _ (h q hq) f' qf).2⟩
theorem Fi.same {R:yLL} {i:Nat} {d d' :Int} (h:Fi R i d) (h' :Fi R i d'):d=d' :=by
  obtain ⟨f,h1,rfl⟩:=h
  obtain ⟨f',h2,rfl⟩:=h'
  by_cases hx:f≤f'
  · exact (haltIn_mono f i h1 f' hx).2.symm
  · exact (haltIn_mono f' i h2 f qf).2
theorem Fi.halts {R:yLL} {i:Nat} {d:Int} (h:Fi R i d):Halts R i:=⟨h.choose,h.choose_spec.1⟩
theorem fi_all {R:yLL} {g:Nat→Int} {r:yLI}:∀ k:Nat,(∀ q,q < k→Fi R ((r[q]!).toNat) (g ((r[q]!).toNat)))→∃ f,∀ q,q < k→HaltIn R f ((r[q]!).toNat)∧dpN R f ((r[q]!).toNat)=g ((r[q]!).toNat)
  | 0,_=>⟨0,fun q hq=>by omega⟩
  | k+1,h=>by
    obtain ⟨f,hf⟩:=fi_all k fun q hq=>h q qf
    obtain ⟨f',h1,h2⟩:=h k qf
    refine ⟨max f f',fun q hq=>?_⟩
    by_cases e:q=k
    · subst e
      obtain ⟨a,b⟩:=haltIn_mono f' _ h1 (max f f') (Nat.le_max_right ..)
      exact ⟨a,b.trans h2⟩
    · obtain ⟨c,d⟩:=hf q qf
      obtain ⟨a,b⟩:=haltIn_mono f _ c (max f f') (Nat.le_max_left ..)
      exact ⟨a,b.trans d⟩
theorem fi_step {R:yLL} {g:Nat→Int} {i:Nat} (h:∀ q,q < (R[i]!).length→Fi R (((R[i]!)[q]!).toNat) (g (((R[i]!)[q]!).toNat))):Fi R i (mxF g (R[i]!) (R[i]!).length):=by
  obtain ⟨f,hf⟩:=fi_all _ h
  exact ⟨f+1,fun k hk=>(hf k hk).1,mxF_congr _ fun q hq=>(hf q hq).2⟩
theorem not_halt {R:yLL} {p:Nat→Prop} (h:∀ j,p j→∃ k,k < (R[j]!).length∧p (((R[j]!)[k]!).toNat)) {i:Nat} (hi:p i):¬ Halts R i:=by
  rintro ⟨f,hf⟩
  induction f generalizing i with
  | zero=>exact hf
  | succ f ih=>
    obtain ⟨k,hk,hp⟩:=h i hi
    exact ih hp (hf k hk)
theorem Halts.go {R:yLL} {i k:Nat} (h:Halts R i) (hk:k < (R[i]!).length):Halts R (((R[i]!)[k]!).toNat):=by
  obtain ⟨f,hf⟩:=h
  cases f with
  | zero=>exact hf.elim
  | succ f=>exact ⟨f,hf k hk⟩
theorem halts_all {S:List qM} {R:yLL} (h:GrOk S R) (h0:Halts R 0):∀ j,j < S.length→Halts R j:=fun j=>Nat.strongRecOn j fun j ih hj=>by
  by_cases e:j=0
  · subst e;exact h0
  · obtain ⟨i,h1,h2,k,hk,he⟩:=h.from' j qf hj
    have:=(ih i h2 qf).go hk
    rwa [he] at this
structure LayI (R:yLL) (D:yLI) (O:List Bool) (left:Int):Prop where
  dl:D.length=R.length
  ol:O.length=R.length
  fi:∀ j,j < R.length→O[j]! =true→Fi R j (D[j]!)
  nn:∀ j,j < R.length→0≤D[j]! ∧D[j]! ≤R.length - left
  lf:left=R.length - (O.count true:Int)
theorem repAt1 {α:Type} [Inhabited α] {n j:Nat} {a:α} (h:j < n):(List.replicate n a)[j]! =a:=by rw [getElem!_pos _ j (by simpa using h)];simp
theorem LayI.start (R:yLL):LayI R (List.replicate R.length 0) (List.replicate R.length false) R.length:=
  ⟨by simp,by simp,fun j hj h=>by rw [repAt1 hj] at h;exact absurd h qj,fun j hj=>by rw [repAt1 hj];omega,by simp [List.count_replicate]⟩
theorem mxF_le {g:Nat→Int} {r:yLI} {m:Int} (hm:0≤m):∀ k:Nat,(∀ q,q < k→g ((r[q]!).toNat)+1≤m)→0≤mxF g r k∧mxF g r k≤m
  | 0,_=>⟨Int.le_refl _,hm⟩
  | k+1,h=>by
    have h1:=mxF_le hm k fun q hq=>h q qf
    have h2:=h k qf
    rw [mxF];omega
theorem count_set {O:List Bool}:∀ {i:Nat},i < O.length→O[i]! =false→(O.set i true).count true=O.count true+1:=by
  induction O with
  | nil=>intro i h;simp at h
  | cons a O ih=>
    intro i h h1
    cases i with
    | zero=>simp at h1;subst h1;simp
    | succ i=>
      have:=ih (i:=i) (by simpa using h) (by simpa using h1)
      rw [List.set_cons_succ,List.count_cons,List.count_cons,this];omega
theorem setAt1 {α:Type} [Inhabited α] {l:List α} {i j:Nat} {a:α} (h:j < l.length):(l.set i a)[j]! =if i=j then a else l[j]! :=by
  rw [getElem!_pos _ j (by simpa using h),List.getElem_set,getElem!_pos l j h]
theorem LayI.set {R:yLL} {D:yLI} {O:List Bool} {left:Int} (h:LayI R D O left) {i:Nat} (hi:i < R.length) (h1:O[i]! =false) (hr:∀ k,k < (R[i]!).length→(((R[i]!)[k]!).toNat) < R.length)
    (ha:∀ k,k < (R[i]!).length→O[((R[i]!)[k]!).toNat]! =true) {m:Nat} (hm:m=(R[i]!).length):LayI R (D.set i (mxF (fun j=>D[j]!) (R[i]!) m)) (O.set i true) (left - 1):=by
  subst hm
  have hb:=mxF_le (g:=fun j=>D[j]!) (r:=R[i]!) (m:=(R.length:Int) - (left - 1)) (by have:=h.nn i hi;omega) (R[i]!).length fun q hq=>by have:=h.nn _ (hr q hq);show D[_]! +1≤_;omega
  refine ⟨by simp [h.dl],by simp [h.ol],fun j hj ho=>?_,fun j hj=>?_,?_⟩
  · rw [setAt1 (by rw [h.dl];exact hj)]
    by_cases e:i=j
    · subst e;rw [if_pos rfl];exact fi_step fun q hq=>h.fi _ (hr q hq) (ha q hq)
    · rw [if_neg e];rw [setAt1 (by rw [h.ol];exact hj),if_neg e] at ho;exact h.fi j hj ho
  · rw [setAt1 (by rw [h.dl];exact hj)]
    by_cases e:i=j
    · rw [if_pos e];exact hb
    · rw [if_neg e];have:=h.nn j hj;omega
  · rw [count_set (by rw [h.ol];exact hi) h1];have:=h.lf;omega
theorem count_lt {O:List Bool}:O.count true < O.length→∃ j,j < O.length∧O[j]! =false:=by
  induction O with
  | nil=>intro h;simp at h
  | cons a O ih=>
    intro h
    cases a with
    | false=>exact ⟨0,by simp,rfl⟩
    | true=>
      rw [List.count_cons_self,List.length_cons] at h
      obtain ⟨j,h1,h2⟩:=ih qf
      exact ⟨j+1,by simpa using h1,by simpa using h2⟩
theorem count_all {O:List Bool} (h:O.length≤O.count true):∀ j,j < O.length→O[j]! =true:=fun j hj=>by
  cases e:O[j]! with
  | true=>rfl
  | false=>have:=count_set hj e;have h2:=List.count_le_length (a:=true) (l:=O.set j true);rw [List.length_set] at h2;omega
def rdTo (O:List Bool) (r:yLI):Nat→Bool
  | 0=>true
  | k+1=>rdTo O r k && O[(r[k]!).toNat]!
theorem rdTo_true {O:List Bool} {r:yLI}:∀ {k:Nat},rdTo O r k=true→∀ q,q < k→O[(r[q]!).toNat]! =true
  | 0,_,q,hq=>by omega
  | k+1,h,q,hq=>by
    rw [rdTo,Bool.and_eq_true] at h
    by_cases e:q=k
    · subst e;exact h.2
    · exact rdTo_true h.1 q qf
theorem rdTo_false {O:List Bool} {r:yLI}:∀ {k:Nat},rdTo O r k=false→∃ q,q < k∧O[(r[q]!).toNat]! =false
  | 0,h=>by cases h
  | k+1,h=>by
    rw [rdTo,Bool.and_eq_false_iff] at h
    rcases h with h | h
    · obtain ⟨q,h1,h2⟩:=rdTo_false h;exact ⟨q,by omega,h2⟩
    · exact ⟨k,by omega,h⟩
def NoneR (R:yLL) (O:List Bool) (i:Nat):Prop:=∀ j,j < i→O[j]! =false→∃ k,k < (R[j]!).length∧O[((R[j]!)[k]!).toNat]! =false
theorem NoneR.succ {R:yLL} {O:List Bool} {i:Nat} (h:NoneR R O i) (h1:O[i]! =true∨∃ k,k < (R[i]!).length∧O[((R[i]!)[k]!).toNat]! =false):NoneR R O (i+1):=fun j hj ho=>by
  by_cases e:j=i
  · subst e
    rcases h1 with h1 | h1
    · rw [h1] at ho;cases ho
    · exact h1
  · exact h j qf ho
theorem lay_end {S:List qM} {R:yLL} {D:yLI} {O:List Bool} {left:Int} (h:LayI R D O left) (h1:left≤0) (h0:0 < R.length):Fi R 0 (D[0]!):=
  h.fi 0 h0 (count_all (by have:=h.lf;rw [h.ol];omega) 0 (by rw [h.ol];exact h0))
theorem lay_not {S:List qM} {R:yLL} {D:yLI} {O:List Bool} {left:Int} (h:LayI R D O left) (h1:0 < left) (g:GrOk S R) (hl:R.length=S.length) (hn:NoneR R O R.length):¬ Halts R 0:=fun h0=>by
  obtain ⟨j,hj,ho⟩:=count_lt (O:=O) (by have:=h.lf;rw [h.ol];omega)
  rw [h.ol] at hj
  refine not_halt (p:=fun j=>j < R.length∧O[j]! =false) (fun j ⟨a,b⟩=>?_) ⟨hj,ho⟩ (halts_all g h0 j qf)
  obtain ⟨k,hk,hf⟩:=hn j a b
  exact ⟨k,hk,by have:=(g.rows j a k hk).2;omega,hf⟩
theorem succ_len (s:qL) (t:qM):(qX s t).1.length≤300:=by
  rw [qX]
  split
  · simp
  · split
    · simp
    · have:=cho_len s t
      rw [yX]
      split
      · have:=nextTo_len (s:=s) (t:=t) (cs:=(zX s t).1) (zX s t).1.length;show (jG ..).length≤_;omega
      · simp
end
end Go.Proofs.YtgjnaocffdhnbaaGreat
