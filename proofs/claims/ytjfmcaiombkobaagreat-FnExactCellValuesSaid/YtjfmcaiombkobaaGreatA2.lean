/- Walks and laws, printed by program and by hand: what each function comes to, for all arguments, part 2. -/
import Derived.Test.YtjfmcaiombkobaaGreatA1
namespace Go.Proofs.YtjfmcaiombkobaaGreat
open Go.Proofs.Tryz
set_option linter.unusedVariables false
set_option linter.unusedSimpArgs false
set_option maxRecDepth 100000
set_option maxHeartbeats 4000000
open Go.RowKit
open Go.Proofs.Tryz
open Go.Proofs.YtjfmcaiombkobaaGreat.Tot (tot)
open Go.Proofs.YtjfmcaiombkobaaGreat.Mark (cnt mrk mkd mkd_mark cnt_mark)
variable {B D M M' best c kk mode z:Int} {F Fl Fm Fx FxOrders Fy G vK xF zQ zo zu:yLN} {K c' cl g i j k n nn o off sz:Nat} {L Ns:List yLN} {P:Program} {W W0 w:World} {X xs:List Value} {a ks l m par:yLI} {al am ax axOrders ay qM xX xe xg xq:yOA} {alive:List Bool} {b b':yLL} {e e2:TypeId} {f:Fact} {fr:Bool} {lr rules z':List zZ} {p:zF} {ps:List Prv} {r:zZ} {s:qG} {t u:qH} {v:Value} {x y:Operand} {Γ Γ' Δ:List Fact} {ρ:Env}
section
variable {cl cm cx cxOrders cy : Nat}
theorem both_ok (w:World) (l:yLI) (m:yLI) (of:FuncId) (capsof:Array Value) (gof:Nat->Int) (hl:zP w Fl al cl l) (hm:zP w Fm am cm m) (p0:l.length<=m.length) (p1:l.length<=1000000) (hfof:∀ args w,(callFunc of args).run Tryz.prog w=.ok (.enter of args) w) (hofof:∀ k w',k < l.length->Ext w w' ->Calls Tryz.prog of (([yI (l[k]!),yI (m[k]!)]:List Value)++capsof.toList).toArray w' (Ret (fun v _=>v=yI (gof k)) w')):Calls Tryz.prog 167 #[Sv al l.length cl,Sv am m.length cm,.func (.func of) #[] capsof] w (Ret (fun v w' =>OwnNew w w' 2 v (tabTo gof l.length)) w):=by
 refine en func167 ntmps167 ?_
 have H:=((St.start w).arg hm).arg hl
 have nhl:=qO hl
 have nhm:=qO hm
 clear hl hm
 refine zcr (sq 1 (zjc (sw (zW H underlying27 ti2 fun b1 w2 H=>sq 1 (zjcc (sq 1 (oN rfl (sp (yI 0) (zjn (qV ?_))))))))))
 replace H:=H.boxRow 0 rfl 1 0 rfl qj
 replace H:St _ _ [rr (aa b1 0) 0 0 2 1 []] _:=H
 refine zA ((fun Z0 Z1=>fun m' ρ w3=>∃ (xQ:Env) (k:Nat) (vr7:Value),ρ=upd (upd (upd (upd (upd (upd (upd xQ 1 (Sv am m.length cm)) 2 (.func (.func of) #[] capsof)) 6 yN) 7 (vr7)) 11 (Sv al l.length cl)) 12 (yI l.length)) 13 (yI k)/\(k<=l.length)/\m' =l.length - k/\St w w3 [.row vr7 2 1 k ((tabTo gof k).map (Value.int .i64))] [Z0,Z1]) _ _) (l.length - 0) ⟨_,0,(Sv (aa b1 0) 0 0),uE7,qf,rfl,H⟩ ?_
 clear H
 rintro m' ρ w4 ⟨xQ,k,vr7,rfl,i0,rfl,H⟩
 refine zcr (sq 1 (zjn (xU (cD rfl (fun h5=>?_) (fun h5=>?_)))))
 ·refine qU (t_n (xU (qV (zcr (sp (yI k) ?_)))))
  obtain ⟨b6,o7,rfl⟩:=H.addr 0 rfl qf
  refine oI rfl rfl (oL rfl (H.zB 0 rfl k qf) (sp (yI k) (sq 1 (zjn (xK (sp vr7 (sp (.func (.func of) #[] capsof) (sq 2 (sp (yI k) ?_)))))))))
  obtain ⟨b8,o9,rfl⟩:=H.addr 1 rfl qf
  refine oI rfl rfl (oL rfl (H.zB 1 rfl k qf) (sw (o_callV [yI (l[k]!),yI (m[k]!)] rfl rfl hfof (hofof k _ qf H.base) ?_)))
  rintro _ w10 rfl x11
  replace H:=H.ext x11
  refine sw (o_build1 H underlying27 ti2 qj qj (yI (gof k)) rfl rfl fun b12 w13 H=>sw (o_append H 1 rfl 0 rfl underlying27 ti2 rfl qj rfl rfl rfl qw qp qf fun v14 w15 H=>?_))
  replace H:St _ _ [.box b12 [yI (gof k)] 2,.row v14 2 1 (k+1) (((tabTo gof k).map (Value.int .i64))++[yI (gof k)])] _:=H
  refine sp (v14) (xP (b_n (t_n (xK (sw (zi k 1 rfl rfl qf (sq 1 (xP ?_))))))))
  rw [show ((tabTo gof k).map (Value.int .i64))++[yI (gof k)]=(tabTo gof (k+1)).map (Value.int .i64) from by (rw [tabTo_succ];simp)] at H
  refine qW (m' :=l.length - (k+1)) qf ⟨_,k+1,v14,uE7,?_,rfl,H.sel _ (.cons _ (.refl _)) _ qm⟩
  ·omega
 refine zx4 (zcr (sp vr7 (sp vr7 (zjr (rH1 (vr7) H ?_)))))
 obtain rfl:k=l.length:=by omega
 exact H.newInts 0 rfl qm
theorem plus1_ok (w:World) (x:Int) (y:Int) (t:Int) (bt ot:Nat) (hpt:vg w bt ot [yI t]) (p0: -1000000000000000<=x/\x<=1000000000000000) (p1: -1000000000000000<=t * y/\t * y<=1000000000000000):Calls Tryz.prog 168 #[yI x,yI y,pp bt ot] w (Ret (fun v w' =>v=yI (x+t * y)) w):=by
 refine en func168 ntmps168 ?_
 have H:=(St.start w).Q7 hpt
 clear hpt
 refine zcr (sp (yI 0) (zjc (sp (yI x) (oL rfl (H.xW 0 rfl 0 rfl) (sp (yI y) (sw (o_mul t y rfl rfl qf (sw (zi x (t * y) rfl rfl qf (sq 1 (zjr (rH1 (yI (x+(t * y))) H ?_))))))))))))
 rfl
theorem plus_ok (w:World) (l:yLI) (m:yLI) (t:Int) (hl:zP w Fl al cl l) (hm:zP w Fm am cm m) (p0:l.length<=m.length) (p1:Mid l) (p2:SmallT m t):Calls Tryz.prog 133 #[Sv al l.length cl,Sv am m.length cm,yI t] w (Ret (fun v w' =>OwnNew w w' 2 v (jP l m t)) w):=by
 refine en func133 ntmps133 ?_
 have H:=((St.start w).arg hm).arg hl
 have nhl:=qO hl
 have nhm:=qO hm
 clear hl hm
 have p3:=p1.1
 refine zcr (sw (o_box H (yI t) rfl fun b1 w2 H=>?_))
 replace H:St _ _ [.box b1 [yI t] 2] _:=H
 refine sq 1 (zjc (sq 2 (sp (.func (.func 168) #[] #[pp b1 0]) ?_)))
 have szx4:=H.base.size
 refine sw (oc (both_ok _ l m 168 #[pp b1 0] (fun k=>l[k]! +t * m[k]!) (H.get 0 rfl).1 (H.get 1 rfl).1 qf qf call168 (fun k w' hk e=>plus1_ok w' _ _ t _ _ ((H.ext e).cells 0 rfl) (by have:=p1.2 k hk;omega) (p2 k qf))) ?_)
 rintro v5 w3 r5 x4
 replace H:=H.zt x4 r5
 refine sp (v5) (zjr (rH1 (v5) H (H.newInts 0 rfl (by simp [plusL_len]))))
theorem Xi (w:World) (l:yLI) (m:yLI) (t:Int) (hl:zP w Fl al cl l) (hm:zP w Fm am cm m) (p0:l.length<=m.length) (p1:Mid l) (p2:SmallT m t):Calls Tryz.prog 251 #[Sv al l.length cl,Sv am m.length cm,yI t] w (Ret (fun v w' =>OwnNew w w' 2 v (jP l m t)) w):=by
 refine en func251 ntmps251 ?_
 have H:=((St.start w).arg hm).arg hl
 have nhl:=qO hl
 have nhm:=qO hm
 clear hl hm
 have p3:=p1.1
 refine zcr (sq 1 (zjc (sw (zW H underlying27 ti2 fun b1 w2 H=>sq 1 (zjcc (sp (yI 0) (zjn (qV ?_))))))))
 replace H:=H.boxRow 0 rfl 1 0 rfl qj
 replace H:St _ _ [rr (aa b1 0) 0 0 2 1 []] _:=H
 refine zA ((fun Z0 Z1=>fun m' ρ w3=>∃ (xQ:Env) (k:Nat) (vr7:Value),ρ=upd (upd (upd (upd (upd (upd xQ 0 (Sv al l.length cl)) 1 (Sv am m.length cm)) 2 (yI t)) 6 yN) 7 (vr7)) 8 (yI k)/\(k<=l.length)/\m' =l.length - k/\St w w3 [.row vr7 2 1 k ((plusTo l m t k).map (Value.int .i64))] [Z0,Z1]) _ _) (l.length - 0) ⟨_,0,(Sv (aa b1 0) 0 0),uE6,qf,rfl,H⟩ ?_
 clear H
 rintro m' ρ w4 ⟨xQ,k,vr7,rfl,i0,rfl,H⟩
 refine zcc (sp (yI k) (sq 1 (oN rfl (sq 1 (zjn (cD rfl (fun h5=>?_) (fun h5=>?_)))))))
 ·refine qU (t_n (xU (qV ?_)))
  refine c_draw (fun w6=>St w w6 [] [sF false Fl al cl l,sF false Fm am cm m]) rfl ((H.ext (ext_drew _)).sel _ (.cons _ (.refl _)) _ (fun _ h=>h)) ?_
  replace H:=H.ext (ext_drew _)
  refine rtp 0 (vr7) (H.sel _ (.cons _ (.refl _)) _ (fun _ h=>h)) ?_
  refine rtl 1 (H.sel _ (.cons _ (.refl _)) _ (fun _ h=>h)) ?_
  refine rtp 2 (yI k) (H.sel _ (.cons _ (.refl _)) _ (fun _ h=>h)) ?_
  obtain ⟨b7,o8,rfl⟩:=H.addr 0 rfl qf
  refine tI 3 rfl rfl rfl (H.sel _ (.cons _ (.refl _)) _ (fun _ h=>h)) ?_
  refine tL 4 rfl rfl (fun _ h=>h.zB 0 rfl k qf) (H.sel _ (.cons _ (.refl _)) _ (fun _ h=>h)) ?_
  refine rtl 5 (H.sel _ (.cons _ (.refl _)) _ (fun _ h=>h)) ?_
  refine rtp 6 (yI k) (H.sel _ (.cons _ (.refl _)) _ (fun _ h=>h)) ?_
  obtain ⟨b9,o10,rfl⟩:=H.addr 1 rfl qf
  refine tI 7 rfl rfl rfl (H.sel _ (.cons _ (.refl _)) _ (fun _ h=>h)) ?_
  refine tL 8 rfl rfl (fun _ h=>h.zB 1 rfl k qf) (H.sel _ (.cons _ (.refl _)) _ (fun _ h=>h)) ?_
  refine rtp 9 (yI t) (H.sel _ (.cons _ (.refl _)) _ (fun _ h=>h)) ?_
  refine rt 10 _ (y_mul (m[k]!) t rfl rfl (by (have:=p1.2 k qf;have:=p2 k qf;rw [Int.mul_comm] at this;omega))) (H.sel _ (.cons _ (.refl _)) _ (fun _ h=>h)) ?_
  refine rt 11 _ (y_add (l[k]!) ((m[k]!) * t) rfl rfl (by (have:=p1.2 k qf;have:=p2 k qf;rw [Int.mul_comm] at this;omega))) (H.sel _ (.cons _ (.refl _)) _ (fun _ h=>h)) ?_
  refine ro 12 rfl (o_build1 H underlying27 ti2 qj qj (yI ((l[k]!)+((m[k]!) * t))) rfl rfl fun b11 w12 H=>?_)
  replace H:St _ _ [.box b11 [yI ((l[k]!)+((m[k]!) * t))] 2,.row vr7 2 1 k ((plusTo l m t k).map (Value.int .i64))] _:=H
  refine ⟨H.sel _ (.cons _ (.cons _ (.refl _))) _ (fun _ h=>h),(ro 13 rfl (o_append H 1 rfl 0 rfl underlying27 ti2 rfl qj rfl rfl rfl qw qp qf fun v13 w14 H=>?_))⟩
  replace H:St _ _ [.box b11 [yI ((l[k]!)+((m[k]!) * t))] 2,.row v13 2 1 (k+1) (((plusTo l m t k).map (Value.int .i64))++[yI ((l[k]!)+((m[k]!) * t))])] _:=H
  refine ⟨H.sel _ (.cons _ (.cons _ (.refl _))) _ (fun _ h=>h),(rtp 14 (v13) (H.sel _ (.cons _ (.cons _ (.refl _))) _ (fun _ h=>h)) ?_)⟩
  refine xA qh (b_n (t_n (xK (sp (yI k) (sw (zi k 1 rfl rfl (by (have:=p1.2 k qf;have:=p2 k qf;rw [Int.mul_comm] at this;omega)) (sq 1 (xP ?_))))))))
  rw [show ((plusTo l m t k).map (Value.int .i64))++[yI ((l[k]!)+((m[k]!) * t))]=(plusTo l m t (k+1)).map (Value.int .i64) from by (rw [plusTo_succ,Int.mul_comm t];simp)] at H
  refine qW (m' :=l.length - (k+1)) qf ⟨_,k+1,v13,uE6,?_,rfl,H.sel _ (.cons _ (.refl _)) _ qm⟩
  ·omega
 refine zx4 (zcr (sp vr7 (sp vr7 (zjr (rH1 (vr7) H ?_)))))
 obtain rfl:k=l.length:=by omega
 exact H.newInts 0 rfl (by simp [jP,plusTo])
theorem Xe (w:World) (l:yLI) (hl:zP w Fl al cl l) (p0:l.length<=1000000):Calls Tryz.prog 120 #[Sv al l.length cl] w (Ret (fun v w' =>OwnNew w w' 2 v l) w):=by
 refine en func120 ntmps120 ?_
 have H:=(St.start w).arg hl
 have nhl:=qO hl
 clear hl
 refine zcr (sq 1 (zjc (sw (zW H underlying27 ti2 fun b1 w2 H=>sq 1 ?_))))
 replace H:=H.boxRow 0 rfl 1 0 rfl qj
 refine sw (o_appendInts H 0 rfl 0 rfl underlying27 ti2 rfl rfl rfl qp qf fun v3 w4 H=>?_)
 replace H:St _ _ [.row v3 2 1 (0+l.length) ([]++l.map (Value.int .i64))] _:=H
 refine sp (v3) (zjr (rH1 (v3) H (H.newInts 0 rfl qf)))
theorem cloneI_ok (w:World) (l:yLI) (hl:zP w Fl al cl l) (p0:l.length<=1000000):Calls Tryz.prog 55 #[Sv al l.length cl] w (Ret (fun v w' =>OwnNew w w' 2 v l) w):=by
 refine en func55 ntmps55 ?_
 have H:=(St.start w).arg hl
 have nhl:=qO hl
 clear hl
 refine zcr (sq 1 (zjcc (sq 1 (sw (o_eqnil underlying27 al l.length cl rfl (zjn (zT _ rfl (fun h1=>?_) (fun h1=>?_))))))))
 ·refine zcr (sq 1 (zjr (t_r (rH1 yN H ?_))))
  obtain rfl:=H.nilOf 0 rfl ‹_›
  exact ownNew_nil _ _ _
 refine qU (t_n (zcr (sw (zW H underlying27 ti2 fun b2 w3 H=>sq 1 ?_))))
 replace H:=H.boxRow 0 rfl 1 0 rfl qj
 refine sw (o_appendInts H 0 rfl 0 rfl underlying27 ti2 rfl rfl rfl qp qf fun v4 w5 H=>?_)
 replace H:St _ _ [.row v4 2 1 (0+l.length) ([]++l.map (Value.int .i64))] _:=H
 refine sp (v4) (zjr (rH1 (v4) H (H.newInts 0 rfl qf)))
theorem szOrderS_ok (w:World) (x:List Q8) (left:Int) (hx:zP w Fx ax cx x) (p0:0<=left/\left<=2000000):Calls Tryz.prog 91 #[Sv ax x.length cx,yI left] w (Ret (fun v w' =>v=yI (szR (tot x) left)) w):=by
 refine en func91 ntmps91 ?_
 have H:=(St.start w).arg hx
 have nhx:=qO hx
 clear hx
 refine zcr (sp (yI 0) (zjc (sq 2 (oN rfl (sw (o_sub left x.length rfl rfl qf (sq 1 (zjcc (sq 1 (sp (Bv (decide ((left - x.length:Int) < 0))) (zjn (cD rfl (fun h1=>?_) (fun h1=>?_)))))))))))))
 ·refine zcr (sq 1 (zjr (t_r (rH1 (yI (-1)) H (congrArg (Value.int .i64) ?_)))))
  have:=szR_cases (tot x) left
  rw [tot_flat (fun _=>rfl) x] at *
  try omega
 refine qU (t_n (zcr (sq 2 (zjr (rH1 (yI (left - x.length)) H (congrArg (Value.int .i64) ?_))))))
 have:=szR_cases (tot x) left
 rw [tot_flat (fun _=>rfl) x] at *
 try omega
theorem szProgram_ok (w:World) (x:zF) (left:Int) (hxOrders:zP w FxOrders axOrders cxOrders x.qB) (p0:0<=left/\left<=2000000):Calls Tryz.prog 29 #[.agg #[yI x.qA,Sv axOrders x.qB.length cxOrders],yI left] w (Ret (fun v w' =>v=yI (szR (tot x) left)) w):=by
 refine en func29 ntmps29 ?_
 have H:=(St.start w).arg hxOrders
 have nhxOrders:=qO hxOrders
 clear hxOrders
 refine zcr (sw (o_box H (.agg #[yI x.qA,Sv axOrders x.qB.length cxOrders]) rfl fun b1 w2 H=>?_))
 replace H:St _ _ [.box b1 [yI x.qA,Sv axOrders x.qB.length cxOrders] 71] _:=H
 refine sp (yI 0) (zjc (oF rfl (oL rfl (H.cell 0 rfl rfl) (sq 1 (sw (oq (szOrderS_ok _ x.qB left (H.get 0 rfl).1 qf) H fun w3 H=>?_))))))
 have:=szR_cases (tot x.qB) left
 refine sq 1 (zjcc (sq 1 (sp (Bv (decide ((szR (tot x.qB) left:Int) < 0))) (zjn (cD rfl (fun h5=>?_) (fun h5=>?_))))))
 ·refine zcr (sq 1 (zjr (t_r (rH1 (yI (-1)) H (congrArg (Value.int .i64) ?_)))))
  have:=szR_cases (tot x) left
  rw [tot_ProgramD] at *
  try omega
 refine qU (t_n (zcr (sq 2 (zjr (rH1 (yI (szR (tot x.qB) left)) H (congrArg (Value.int .i64) ?_))))))
 have:=szR_cases (tot x) left
 rw [tot_ProgramD] at *
 try omega
theorem toInt64S_ok (w:World) (x:yLI) (hx:zP w Fx ax cx x) (p0:tot x<=2000000):Calls Tryz.prog 31 #[Sv ax x.length cx] w (Ret (fun v w' =>OwnNew w w' 2 v x) w):=by
 refine en func31 ntmps31 ?_
 have H:=(St.start w).arg hx
 have nhx:=qO hx
 clear hx
 have p1:=len_tot x
 refine zcr (sq 1 (zjc (sq 1 (oN rfl (sw (o_make1 H underlying27 ti2 rfl x.length rfl rfl qf qf fun b1 w2 H=>?_))))))
 replace H:St _ _ [.box b1 (List.replicate x.length (yI 0)) 2] _:=H
 refine sq 1 (zjcc (sp (yI 0) (zjn (qV ?_))))
 refine zA ((fun Z0=>fun m' ρ w3=>∃ (xQ:Env) (k:Nat),ρ=upd (upd (upd (upd xQ 0 (Sv ax x.length cx)) 2 yN) 3 (Sv (aa b1 0) x.length x.length)) 4 (yI k)/\(k<=x.length)/\m' =x.length - k/\St w w3 [.box b1 ((x.take k).map (Value.int .i64)++List.replicate (x.length - (k)) (yI 0)) 2] [Z0]) _) (x.length - 0) ⟨_,0,uE4,qf,rfl,H⟩ ?_
 clear H
 rintro m' ρ w4 ⟨xQ,k,rfl,i0,rfl,H⟩
 refine zcc (sp (yI k) (sq 1 (oN rfl (sq 1 (zjn (cD rfl (fun h5=>?_) (fun h5=>?_)))))))
 ·refine qU (t_n (xU (qV (xK (sq 1 (sp (yI k) (sq 1 (sp (yI k) ?_))))))))
  obtain ⟨b6,o7,rfl⟩:=H.addr 0 rfl qf
  refine oI rfl rfl (oL rfl (H.zB 0 rfl k qf) (oI rfl rfl (sw (o_store1 H 0 rfl (yI (x[k]!)) sizeOf2 rfl rfl rfl (by simp only [List.length_append,List.length_replicate];have:((x.take k).map (Value.int .i64)).length=k:=(by (simp;omega));omega) fun w9 H=>?_))))
  rw [fill_set (k:=k) (by (simp;omega)) qm qf] at H
  replace H:St _ _ [.box b1 ((x.take k).map (Value.int .i64)++[yI (x[k]!)]++List.replicate (x.length - (k+1)) (yI 0)) 2] _:=H
  refine xP (b_n (t_n (xK (sp (yI k) (sw (zi k 1 rfl rfl qf (sq 1 (xP ?_))))))))
  rw [show (x.take k).map (Value.int .i64)++[yI (x[k]!)]=(x.take (k+1)).map (Value.int .i64) from by exact map_take_snoc _ qf] at H
  refine qW (m' :=x.length - (k+1)) qf ⟨_,k+1,uE4,?_,rfl,H⟩
  ·omega
 refine zx4 (zcr (sq 2 (zjr (rH1 (Sv (aa b1 0) x.length x.length) H ?_))))
 rw [List.take_of_length_le (by omega:x.length<=k)] at H
 rw [fill_end1 qf] at H
 replace H:=H.boxRow 0 rfl 1 x.length (by (first | omega | (simp;done) | (simp;omega))) qp
 exact H.newInts 0 rfl qf
theorem toOrder_ok (w:World) (x:Q8) (p0:tot x<=2000000):Calls Tryz.prog 142 #[.agg #[yI x.fOp,yI x.zn,yI x.fTo,yI x.zf]] w (Ret (fun v w' =>New_OrderD w w' v x) w):=by
 refine en func142 ntmps142 ?_
 have H:=St.start w
 have p1:=tot_OrderD x
 refine zcr (sw (o_box H (.agg #[yI x.fOp,yI x.zn,yI x.fTo,yI x.zf]) rfl fun b1 w2 H=>sw (o_alloc H ti109 fun b3 w4 H=>zjc (sw (o_alloc H ti109 fun b5 w6 H=>zjc (oF rfl (oL rfl (H.cell 2 rfl rfl) (oF rfl (sw (o_store1 H 0 rfl (yI x.fOp) sizeOf2 rfl rfl rfl (Nat.le_of_ble_eq_true rfl) fun w7 H=>zjc (oF rfl (oL rfl (H.cell 2 rfl rfl) (oF rfl (sw (o_store1 H 0 rfl (yI x.zn) sizeOf2 rfl rfl rfl (Nat.le_of_ble_eq_true rfl) fun w8 H=>zjc (oF rfl (oL rfl (H.cell 2 rfl rfl) (oF rfl ?_))))))))))))))))))
 refine sw (o_store1 H 0 rfl (yI x.fTo) sizeOf2 rfl rfl rfl (Nat.le_of_ble_eq_true rfl) fun w9 H=>zjc (oF rfl (oL rfl (H.cell 2 rfl rfl) (oF rfl (sw (o_store1 H 0 rfl (yI x.zf) sizeOf2 rfl rfl rfl (Nat.le_of_ble_eq_true rfl) fun w10 H=>?_))))))
 replace H:St _ _ [.box b5 [yI x.fOp,yI x.zn,yI x.fTo,yI x.zf] 109,.box b3 [yI 0,yI 0,yI 0,yI 0] 109,.box b1 [yI x.fOp,yI x.zn,yI x.fTo,yI x.zf] 179] _:=H
 refine zjc (sw (x8 [yI x.fOp,yI x.zn,yI x.fTo,yI x.zf] isAgg109 sizeOf109 rfl (qF (H.cells 0 rfl) 0 4) (sw (o_store H 1 rfl (.agg #[yI x.fOp,yI x.zn,yI x.fTo,yI x.zf]) sizeOf109 rfl rfl qw (Nat.le_of_ble_eq_true rfl) fun w11 H=>?_))))
 replace H:St _ _ [.box b5 [yI x.fOp,yI x.zn,yI x.fTo,yI x.zf] 109,.box b3 [yI x.fOp,yI x.zn,yI x.fTo,yI x.zf] 109,.box b1 [yI x.fOp,yI x.zn,yI x.fTo,yI x.zf] 179] _:=H
 refine zjr (retC H 1 rfl rfl isAgg109 sizeOf109 rfl ⟨_,rfl,rfl,H.base⟩)
theorem toOrderS_ok (w:World) (x:List Q8) (hx:zP w Fx ax cx x) (p0:tot x<=2000000):Calls Tryz.prog 92 #[Sv ax x.length cx] w (Ret (fun v w' =>OwnNew w w' 109 v x) w):=by
 refine en func92 ntmps92 ?_
 have H:=(St.start w).arg hx
 have nhx:=qO hx
 clear hx
 have p1:=len_tot x
 refine zcr (sq 1 (zjc (sq 1 (oN rfl (sw (o_makeN H underlying24 ti109 rfl qj x.length rfl rfl qf qf fun b1 w2 H=>?_))))))
 replace H:St _ _ [.box b1 ((List.replicate x.length [yI 0,yI 0,yI 0,yI 0]).flatten) 109] _:=H
 refine sq 1 (zjcc (sp (yI 0) (zjn (qV ?_))))
 replace H:=H.vV (α:=Q8)
 refine zA ((fun Z0=>fun m' ρ w3=>∃ (xQ:Env) (k:Nat) (xs3:List Value) (Fr3:yLN),ρ=upd (upd (upd (upd xQ 0 (Sv ax x.length cx)) 2 yN) 3 (Sv (aa b1 0) x.length x.length)) 4 (yI k)/\(k<=x.length)/\(xs3.length=k * 4)/\(∀ b∈Fr3,w.heap.size<=b)/\(Fr3.Nodup)/\m' =x.length - k/\St w w3 [.box b1 (xs3++(List.replicate (x.length - (k)) [yI 0,yI 0,yI 0,yI 0]).flatten) 109] [xN true Fr3 xs3 (x.take k),Z0]) _) (x.length - 0) ⟨_,0,[],[],uE4,qf,(by rfl),qm,qm,rfl,H⟩ ?_
 clear H
 rintro m' ρ w4 ⟨xQ,k,xs3,Fr3,rfl,i0,hl3,nf3,nd3,rfl,H⟩
 have p2:=fun h=>tot_get (l:=x) (k:=k) h
 refine zcc (sp (yI k) (sq 1 (oN rfl (sq 1 (zjn (cD rfl (fun h5=>?_) (fun h5=>?_)))))))
 ·refine qU (t_n (xU (qV (xK (sq 1 (sp (yI k) (sq 1 (sp (yI k) ?_))))))))
  obtain ⟨b6,o7,rfl⟩:=H.addr 1 rfl qf
  obtain ⟨_,H⟩:=H.Xb 1 rfl k k qf qf qf
  refine oI rfl rfl (sw (x8 [yI ((x[k]!).fOp),yI ((x[k]!).zn),yI ((x[k]!).fTo),yI ((x[k]!).zf)] isAgg179 sizeOf179 rfl (qF (H.get 0 rfl) 0 4) ?_))
  have szx10:=H.base.size
  have lt11:=H.repsLt 1 rfl
  refine sw (oc (toOrder_ok w4 (x[k]!) qf) ?_)
  rintro v12 w9 r12 x10
  obtain ⟨_,rfl,f12,H⟩:=H.add_OrderD x10 r12
  have d12:=f12.2
  have q12:=f12.1
  replace f12:∀ b∈[],w.heap.size<=b:=fun b hb=>Nat.le_trans szx10 (f12.1 b hb)
  refine oI rfl rfl (sw (o_store H 0 rfl (.agg #[yI ((x[k]!).fOp),yI ((x[k]!).zn),yI ((x[k]!).fTo),yI ((x[k]!).zf)]) sizeOf109 rfl rfl qw (by have:(xs3).length=k * 4:=(by (exact hl3));simp [Value.cells];have:=fill_room (n:=x.length) (k:=k) (s:=4) qf;simp at this;omega) fun w14 H=>?_))
  replace H:St _ _ [.box b1 (xs3++[yI ((x[k]!).fOp),yI ((x[k]!).zn),yI ((x[k]!).fTo),yI ((x[k]!).zf)]++(List.replicate (x.length - (k+1)) [yI 0,yI 0,yI 0,yI 0]).flatten) 109] _:=(fill_put (vs:=[yI ((x[k]!).fOp),yI ((x[k]!).zn),yI ((x[k]!).fTo),yI ((x[k]!).zf)]) (zs:=[yI 0,yI 0,yI 0,yI 0]) (off:=0+(k:Int).toNat * 4) (xs:=xs3) (k:=k) (s:=4) (n:=x.length) (by (exact hl3)) qm rfl rfl qf)▸H
  replace H:St _ _ [.box b1 (xs3++[yI ((x[k]!).fOp),yI ((x[k]!).zn),yI ((x[k]!).fTo),yI ((x[k]!).zf)]++(List.replicate (x.length - (k+1)) [yI 0,yI 0,yI 0,yI 0]).flatten) 109] _:=H
  refine xP (b_n (t_n (xK (sp (yI k) (sw (zi k 1 rfl rfl qf (sq 1 (xP ?_))))))))
  replace H:=H.snoc_OrderD 1 rfl ((x[k]!).fOp) ((x[k]!).zn) ((x[k]!).fTo) ((x[k]!).zf)
  rw [show (x.take k)++[⟨(x[k]!).fOp,(x[k]!).zn,(x[k]!).fTo,(x[k]!).zf⟩]=x.take (k+1) from by exact take_snoc qf] at H
  refine qW (m' :=x.length - (k+1)) qf ⟨_,k+1,(xs3++[yI ((x[k]!).fOp),yI ((x[k]!).zn),yI ((x[k]!).fTo),yI ((x[k]!).zf)]),(Fr3++[]),uE4,?_,?_,?_,?_,rfl,H.sel _ (.refl _) _ qm⟩
  ·omega
  ·first | (simp only [List.length_append,List.length_cons,List.length_nil];omega) | (simp [hl3];done) | (simp;omega)
  ·exact fresh_snoc nf3 f12
  ·exact nodup_snoc nd3 d12 lt11 q12
 refine zx4 (zcr (sq 2 (zjr (rH1 (Sv (aa b1 0) x.length x.length) H ?_))))
 rw [List.take_of_length_le (by omega:x.length<=k)] at H
 rw [fill_endN qf] at H
 replace H:=H.boxRow 0 rfl 4 x.length qf qp
 exact H.newRow 0 rfl 0 rfl qf ql ql
theorem toProgram_ok (w:World) (x:zF) (hxOrders:zP w FxOrders axOrders cxOrders x.qB) (p0:tot x<=2000000):Calls Tryz.prog 30 #[.agg #[yI x.qA,Sv axOrders x.qB.length cxOrders]] w (Ret (fun v w' =>New_ProgramD w w' v x) w):=by
 refine en func30 ntmps30 ?_
 have H:=(St.start w).arg hxOrders
 have nhxOrders:=qO hxOrders
 clear hxOrders
 have p1:=tot_ProgramD x
 refine zcr (sw (o_box H (.agg #[yI x.qA,Sv axOrders x.qB.length cxOrders]) rfl fun b1 w2 H=>sw (o_alloc H ti26 fun b3 w4 H=>zjc (sw (o_alloc H ti26 fun b5 w6 H=>zjc (oF rfl (oL rfl (H.cell 2 rfl rfl) (oF rfl (sw (o_store1 H 0 rfl (yI x.qA) sizeOf2 rfl rfl rfl (Nat.le_of_ble_eq_true rfl) fun w7 H=>?_))))))))))
 replace H:St _ _ [.box b5 [yI x.qA,yN] 26,.box b3 [yI 0,yN] 26,.box b1 [yI x.qA,Sv axOrders x.qB.length cxOrders] 71] _:=H
 refine zjc (oF rfl (oL rfl (H.cell 2 rfl rfl) ?_))
 have szx9:=H.base.size
 refine sw (oc (toOrderS_ok _ x.qB (H.get 0 rfl).1 (by first | omega | (have:=p2 qf;omega))) ?_)
 rintro v10 w8 r10 x9
 obtain ⟨a10,c10,F10,rfl,f10,H⟩:=H.add_is x9 r10.isNew
 have d10:=f10.2
 have q10:=f10.1
 replace f10:∀ b∈F10,w.heap.size<=b:=fun b hb=>Nat.le_trans szx9 (f10.1 b hb)
 refine oF rfl (sw (o_store1 H 0 rfl (Sv a10 x.qB.length c10) sizeOf24 rfl rfl rfl (Nat.le_of_ble_eq_true rfl) fun w11 H=>?_))
 replace H:St _ _ [.box b5 [yI x.qA,Sv a10 x.qB.length c10] 26,.box b3 [yI 0,yN] 26,.box b1 [yI x.qA,Sv axOrders x.qB.length cxOrders] 71] _:=H
 refine zjc (sw (x8 [yI x.qA,Sv a10 x.qB.length c10] isAgg26 sizeOf26 rfl (qF (H.cells 0 rfl) 0 2) (sw (o_store H 1 rfl (.agg #[yI x.qA,Sv a10 x.qB.length c10]) sizeOf26 rfl rfl qw (Nat.le_of_ble_eq_true rfl) fun w12 H=>?_))))
 replace H:St _ _ [.box b5 [yI x.qA,Sv a10 x.qB.length c10] 26,.box b3 [yI x.qA,Sv a10 x.qB.length c10] 26,.box b1 [yI x.qA,Sv axOrders x.qB.length cxOrders] 71] _:=H
 refine zjr (retC H 1 rfl rfl isAgg26 sizeOf26 rfl ⟨_,rfl,(⟨_,_,_,rfl,(H.get 0 rfl).1,f10,d10,((H.get 0 rfl).2 rfl)⟩),H.base⟩)
theorem eqInt64S_ok (w:World) (x:yLI) (y:yLI) (hx:zP w Fx ax cx x) (hy:zP w Fy ay cy y):Calls Tryz.prog 32 #[Sv ax x.length cx,Sv ay y.length cy] w (Ret (fun v w' =>v=Bv (decide (x=y))) w):=by
 refine en func32 ntmps32 ?_
 have H:=((St.start w).arg hy).arg hx
 have nhx:=qO hx
 have nhy:=qO hy
 clear hx hy
 refine zcr (sp (Bv false) (zjcc (sq 1 (oN rfl (sq 1 (oN rfl (sq 1 (zjn (zT _ rfl (fun h1=>?_) (fun h1=>?_))))))))))
 ·replace h1:=bne_iff_ne.1 h1
  refine zcr (sp (Bv false) (zjr (t_r (rH1 (Bv false) H ?_))))
  first | rw [decide_eq_false (fun e=>by subst e;omega)] | rw [decide_eq_false (yV (k:=k) ‹_›)] | rw [decide_eq_true (QE (k:=k) qf qf ‹_›)]
 replace h1:=xu h1
 refine qU (t_n (zcc (sp (yI 0) (zjn (qV ?_)))))
 refine zA ((fun Z0 Z1=>fun m' ρ w2=>∃ (xQ:Env) (k:Nat),ρ=upd (upd (upd xQ 0 (Sv ax x.length cx)) 1 (Sv ay y.length cy)) 5 (yI k)/\(k<=x.length)/\(x.take k=y.take k)/\m' =x.length - k/\St w w2 [] [Z0,Z1]) _ _) (x.length - 0) ⟨_,0,uE3,qf,(by rfl),rfl,H⟩ ?_
 clear H
 rintro m' ρ w3 ⟨xQ,k,rfl,i0,i1,rfl,H⟩
 refine zcc (sp (yI k) (sq 1 (oN rfl (sq 1 (zjn (cD rfl (fun h4=>?_) (fun h4=>?_)))))))
 ·refine qU (t_n (xU (qV (xU ?_))))
  refine jw rfl H fun H=>rtl 0 H ?_
  refine rtp 1 (yI k) H ?_
  obtain ⟨b6,o7,rfl⟩:=H.addr 0 rfl qf
  refine tI 2 rfl rfl rfl H ?_
  refine tL 3 rfl rfl (fun _ h=>h.zB 0 rfl k qf) H ?_
  refine rtl 4 H ?_
  refine rtp 5 (yI k) H ?_
  obtain ⟨b8,o9,rfl⟩:=H.addr 1 rfl qf
  refine tI 6 rfl rfl rfl H ?_
  refine tL 7 rfl rfl (fun _ h=>h.zB 1 rfl k qf) H ?_
  refine rtl 8 H ?_
  refine xA qh (t_n (zT _ rfl (fun h10=>?_) (fun h10=>?_)))
  ·replace h10:=bne_iff_ne.1 h10
   refine zcr (sp (Bv false) (zjr (zr5 (rH1 (Bv false) H ?_))))
   first | rw [decide_eq_false (fun e=>by subst e;omega)] | rw [decide_eq_false (yV (k:=k) ‹_›)] | rw [decide_eq_true (QE (k:=k) qf qf ‹_›)]
  replace h10:=xu h10
  refine qU (b_n (t_n (xK (sp (yI k) (sw (zi k 1 rfl rfl qf (sq 1 (xP (qW (m' :=x.length - (k+1)) qf ⟨_,k+1,uE3,?_,?_,rfl,H⟩)))))))))
  ·omega
  ·exact eqTo_succ qf qf ‹_› qg
 refine zx4 (zcr (sp (Bv true) (zjr (rH1 (Bv true) H ?_))))
 first | rw [decide_eq_false (fun e=>by subst e;omega)] | rw [decide_eq_false (yV (k:=k) ‹_›)] | rw [decide_eq_true (QE (k:=k) qf qf ‹_›)]
theorem eqOrder_ok (w:World) (x:Q8) (y:Q8):Calls Tryz.prog 143 #[.agg #[yI x.fOp,yI x.zn,yI x.fTo,yI x.zf],.agg #[yI y.fOp,yI y.zn,yI y.fTo,yI y.zf]] w (Ret (fun v w' =>v=Bv (decide (x=y))) w):=by
 refine en func143 ntmps143 ?_
 have H:=St.start w
 refine zcr (sw (o_box H (.agg #[yI x.fOp,yI x.zn,yI x.fTo,yI x.zf]) rfl fun b1 w2 H=>sw (o_box H (.agg #[yI y.fOp,yI y.zn,yI y.fTo,yI y.zf]) rfl fun b3 w4 H=>?_)))
 replace H:St _ _ [.box b3 [yI y.fOp,yI y.zn,yI y.fTo,yI y.zf] 109,.box b1 [yI x.fOp,yI x.zn,yI x.fTo,yI x.zf] 109] _:=H
 refine sp (Bv false) (zjcc (oF rfl (oL rfl (H.cell 1 rfl rfl) (oF rfl (oL rfl (H.cell 0 rfl rfl) (sq 1 (zjn (zT _ rfl (fun h5=>?_) (fun h5=>?_)))))))))
 ·replace h5:=bne_iff_ne.1 h5
  refine zcr (sp (Bv false) (zjr (t_r (rH1 (Bv false) H ?_))))
  rw [decide_eq_false (fun e=>by subst e;simp_all)]
 replace h5:=xu h5
 refine qU (t_n (zcc (oF rfl (oL rfl (H.cell 1 rfl rfl) (oF rfl (oL rfl (H.cell 0 rfl rfl) (sq 1 (zjn (zT _ rfl (fun h6=>?_) (fun h6=>?_))))))))))
 ·replace h6:=bne_iff_ne.1 h6
  refine zcr (sp (Bv false) (zjr (t_r (rH1 (Bv false) H ?_))))
  rw [decide_eq_false (fun e=>by subst e;simp_all)]
 replace h6:=xu h6
 refine qU (t_n (zcc (oF rfl (oL rfl (H.cell 1 rfl rfl) (oF rfl (oL rfl (H.cell 0 rfl rfl) (sq 1 (zjn (zT _ rfl (fun h7=>?_) (fun h7=>?_))))))))))
 ·replace h7:=bne_iff_ne.1 h7
  refine zcr (sp (Bv false) (zjr (t_r (rH1 (Bv false) H ?_))))
  rw [decide_eq_false (fun e=>by subst e;simp_all)]
 replace h7:=xu h7
 refine qU (t_n (zcc (oF rfl (oL rfl (H.cell 1 rfl rfl) (oF rfl (oL rfl (H.cell 0 rfl rfl) (sq 1 (zjn (zT _ rfl (fun h8=>?_) (fun h8=>?_))))))))))
 ·replace h8:=bne_iff_ne.1 h8
  refine zcr (sp (Bv false) (zjr (t_r (rH1 (Bv false) H ?_))))
  rw [decide_eq_false (fun e=>by subst e;simp_all)]
 replace h8:=xu h8
 refine qU (t_n (zcr (sp (Bv true) (zjr (rH1 (Bv true) H ?_)))))
 rw [decide_eq_true (by cases x;cases y;simp_all)]
theorem eqOrderS_ok (w:World) (x:List Q8) (y:List Q8) (hx:zP w Fx ax cx x) (hy:zP w Fy ay cy y):Calls Tryz.prog 93 #[Sv ax x.length cx,Sv ay y.length cy] w (Ret (fun v w' =>v=Bv (decide (x=y))) w):=by
 refine en func93 ntmps93 ?_
 have H:=((St.start w).arg hy).arg hx
 have nhx:=qO hx
 have nhy:=qO hy
 clear hx hy
 refine zcr (sp (Bv false) (zjcc (sq 1 (oN rfl (sq 1 (oN rfl (sq 1 (zjn (zT _ rfl (fun h1=>?_) (fun h1=>?_))))))))))
 ·replace h1:=bne_iff_ne.1 h1
  refine zcr (sp (Bv false) (zjr (t_r (rH1 (Bv false) H ?_))))
  first | rw [decide_eq_false (fun e=>by subst e;omega)] | rw [decide_eq_false (yV (k:=k) ‹_›)] | rw [decide_eq_true (QE (k:=k) qf qf ‹_›)]
 replace h1:=xu h1
 refine qU (t_n (zcc (sp (yI 0) (zjn (qV ?_)))))
 refine zA ((fun Z0 Z1=>fun m' ρ w2=>∃ (xQ:Env) (k:Nat),ρ=upd (upd (upd xQ 0 (Sv ax x.length cx)) 1 (Sv ay y.length cy)) 5 (yI k)/\(k<=x.length)/\(x.take k=y.take k)/\m' =x.length - k/\St w w2 [] [Z0,Z1]) _ _) (x.length - 0) ⟨_,0,uE3,qf,(by rfl),rfl,H⟩ ?_
 clear H
 rintro m' ρ w3 ⟨xQ,k,rfl,i0,i1,rfl,H⟩
 refine zcc (sp (yI k) (sq 1 (oN rfl (sq 1 (zjn (cD rfl (fun h4=>?_) (fun h4=>?_)))))))
 ·refine qU (t_n (xU (qV (xU ?_))))
  refine jw rfl H fun H=>rtl 0 H ?_
  refine rtp 1 (yI k) H ?_
  obtain ⟨b6,o7,rfl⟩:=H.addr 0 rfl qf
  obtain ⟨_,H⟩:=H.Xb 0 rfl k k qf qf qf
  refine tI 2 rfl rfl rfl (H.sel _ (.refl _) _ (fun _ h=>List.mem_cons_of_mem _ (h))) ?_
  refine rtl 4 (H.sel _ (.refl _) _ (fun _ h=>List.mem_cons_of_mem _ (h))) ?_
  refine rtp 5 (yI k) (H.sel _ (.refl _) _ (fun _ h=>List.mem_cons_of_mem _ (h))) ?_
  obtain ⟨b9,o10,rfl⟩:=H.addr 2 rfl qf
  obtain ⟨_,H⟩:=H.Xb 2 rfl k k qf qf qf
  refine tI 6 rfl rfl rfl (H.sel _ (.refl _) _ (fun _ h=>List.mem_cons_of_mem _ (List.mem_cons_of_mem _ (h)))) ?_
  refine jb [3,7] qh qm (jM rfl ?_ (jM rfl ?_ jd))
  ·refine x8 [yI ((x[k]!).fOp),yI ((x[k]!).zn),yI ((x[k]!).fTo),yI ((x[k]!).zf)] isAgg109 sizeOf109 rfl (qF (H.get 1 rfl) 0 4) (⟨H.dF 2,(ro 7 rfl (x8 [yI ((y[k]!).fOp),yI ((y[k]!).zn),yI ((y[k]!).fTo),yI ((y[k]!).zf)] isAgg109 sizeOf109 rfl (qF (H.get 0 rfl) 0 4) (⟨H.dF 2,(ro 8 rfl (oq (eqOrder_ok w3.drew (x[k]!) (y[k]!)) H fun w12 H=>⟨H.dF 2,(rtl 9 (H.sel _ (.refl _) _ (fun _ h=>List.mem_cons_of_mem _ (List.mem_cons_of_mem _ (h)))) ?_)⟩))⟩)))⟩)
   refine xA qh (t_n (zT _ rfl (fun h14=>?_) (fun h14=>?_)))
   ·replace h14:=xm h14
    replace h14:=of_decide_eq_false h14
    refine zcr (sp (Bv false) (zjr (zr5 (rH1 (Bv false) H ?_))))
    first | rw [decide_eq_false (fun e=>by subst e;omega)] | rw [decide_eq_false (yV (k:=k) ‹_›)] | rw [decide_eq_true (QE (k:=k) qf qf ‹_›)]
   replace h14:=qY h14
   replace h14:=of_decide_eq_true h14
   refine qU (b_n (t_n (xK (sp (yI k) (sw (zi k 1 rfl rfl qf (sq 1 (xP (qW (m' :=x.length - (k+1)) qf ⟨_,k+1,uE3,?_,?_,rfl,H.sel _ (.refl _) _ qm⟩)))))))))
   ·omega
   ·exact eqTo_succ qf qf ‹_› qg
  refine x8 [yI ((y[k]!).fOp),yI ((y[k]!).zn),yI ((y[k]!).fTo),yI ((y[k]!).zf)] isAgg109 sizeOf109 rfl (qF (H.get 0 rfl) 0 4) (⟨H.dF 2,(ro 3 rfl (x8 [yI ((x[k]!).fOp),yI ((x[k]!).zn),yI ((x[k]!).fTo),yI ((x[k]!).zf)] isAgg109 sizeOf109 rfl (qF (H.get 1 rfl) 0 4) (⟨H.dF 2,(ro 8 rfl (oq (eqOrder_ok w3.drew (x[k]!) (y[k]!)) H fun w15 H=>⟨H.dF 2,(rtl 9 (H.sel _ (.refl _) _ (fun _ h=>List.mem_cons_of_mem _ (List.mem_cons_of_mem _ (h)))) ?_)⟩))⟩)))⟩)
  refine xA qh (t_n (zT _ rfl (fun h17=>?_) (fun h17=>?_)))
  ·replace h17:=xm h17
   replace h17:=of_decide_eq_false h17
   refine zcr (sp (Bv false) (zjr (zr5 (rH1 (Bv false) H ?_))))
   first | rw [decide_eq_false (fun e=>by subst e;omega)] | rw [decide_eq_false (yV (k:=k) ‹_›)] | rw [decide_eq_true (QE (k:=k) qf qf ‹_›)]
  replace h17:=qY h17
  replace h17:=of_decide_eq_true h17
  refine qU (b_n (t_n (xK (sp (yI k) (sw (zi k 1 rfl rfl qf (sq 1 (xP (qW (m' :=x.length - (k+1)) qf ⟨_,k+1,uE3,?_,?_,rfl,H.sel _ (.refl _) _ qm⟩)))))))))
  ·omega
  ·exact eqTo_succ qf qf ‹_› qg
 refine zx4 (zcr (sp (Bv true) (zjr (rH1 (Bv true) H ?_))))
 first | rw [decide_eq_false (fun e=>by subst e;omega)] | rw [decide_eq_false (yV (k:=k) ‹_›)] | rw [decide_eq_true (QE (k:=k) qf qf ‹_›)]
theorem eqProgram_ok (w:World) (x:zF) (y:zF) {ayOrders:yOA} {cyOrders:Nat} {FyOrders:yLN} (hxOrders:zP w FxOrders axOrders cxOrders x.qB) (hyOrders:zP w FyOrders ayOrders cyOrders y.qB):Calls Tryz.prog 33 #[.agg #[yI x.qA,Sv axOrders x.qB.length cxOrders],.agg #[yI y.qA,Sv ayOrders y.qB.length cyOrders]] w (Ret (fun v w' =>v=Bv (decide (x=y))) w):=by
 refine en func33 ntmps33 ?_
 have H:=((St.start w).arg hyOrders).arg hxOrders
 have nhxOrders:=qO hxOrders
 have nhyOrders:=qO hyOrders
 clear hxOrders hyOrders
 refine zcr (sw (o_box H (.agg #[yI x.qA,Sv axOrders x.qB.length cxOrders]) rfl fun b1 w2 H=>sw (o_box H (.agg #[yI y.qA,Sv ayOrders y.qB.length cyOrders]) rfl fun b3 w4 H=>?_)))
 replace H:St _ _ [.box b3 [yI y.qA,Sv ayOrders y.qB.length cyOrders] 26,.box b1 [yI x.qA,Sv axOrders x.qB.length cxOrders] 26] _:=H
 refine sp (Bv false) (zjcc (oF rfl (oL rfl (H.cell 1 rfl rfl) (oF rfl (oL rfl (H.cell 0 rfl rfl) (sq 1 (zjn (zT _ rfl (fun h5=>?_) (fun h5=>?_)))))))))
 ·replace h5:=bne_iff_ne.1 h5
  refine zcr (sp (Bv false) (zjr (t_r (rH1 (Bv false) H ?_))))
  rw [decide_eq_false (fun e=>by subst e;simp_all)]
 replace h5:=xu h5
 refine qU (t_n (zcc (oF rfl (oL rfl (H.cell 1 rfl rfl) (oF rfl (oL rfl (H.cell 0 rfl rfl) (sw (oq (eqOrderS_ok _ x.qB y.qB (H.get 0 rfl).1 (H.get 1 rfl).1) H fun w6 H=>sq 1 (zjn (zT _ rfl (fun h8=>?_) (fun h8=>?_)))))))))))
 ·replace h8:=xm h8
  replace h8:=of_decide_eq_false h8
  refine zcr (sp (Bv false) (zjr (t_r (rH1 (Bv false) H ?_))))
  rw [decide_eq_false (fun e=>by subst e;simp_all)]
 replace h8:=qY h8
 replace h8:=of_decide_eq_true h8
 refine qU (t_n (zcr (sp (Bv true) (zjr (rH1 (Bv true) H ?_)))))
 rw [decide_eq_true (by cases x;cases y;simp_all)]
end
section
theorem St.open_Int {b m c:Nat} (H:St W w ps [isF true F (Sv (some ⟨b,o,none⟩) m c) l]) (N:F.Nodup) (k:Nat) (hk:k < l.length) {y:Int} (hy:l[k]! =y):
 ∃ (xs1 xs2:List Value) (F1 F2:yLN),F=b::(F1++[]++F2)/\xs1.length=k * 1/\St W w ps [holeF b o xs1 [.int .i64 y] xs2 F1 F2 (l.take k) (l.drop (k+1))]∧
  ([b::(F1++F2)]:List yLN).flatten.Nodup:=by
 obtain ⟨cs,xs1,xs2,F1,Fk,F2,rfl,hx,hr,hfr,hlt,H⟩:=H.openAt k hk
 rw [hy] at hr
 obtain ⟨hFF,rfl⟩:=hr
 exact ⟨xs1,xs2,F1,F2,by rw [hFF],hx,H,by have N' :=nodup_hole N;rw [hFF] at N';simpa using N'⟩
instance:Mark IntoD where
 cnt x:=1+cnt x.QP
 mrk x k:=⟨mrk x.qR (k),mrk x.QP (k+1)⟩
 mkd x k:=mkd x.qR (k)/\mkd x.QP (k+1)
 mkd_mark x k:=by
  simp only [cnt_mark]
  exact ⟨mkd_mark _ _,mkd_mark _ _⟩
 cnt_mark x k:=by simp only [cnt_mark]
theorem cnt_IntoD (x:IntoD):cnt x=1+cnt x.QP:=rfl
instance:Mark zZ where
 cnt x:=1+1+cnt x.vF+cnt x.vJ+cnt x.vY+cnt x.vw+cnt x.QI+cnt x.xw+1
 mrk x k:=⟨mrk x.qR (k),mrk x.jR (k+1),mrk x.vF (k+1+1),mrk x.vJ (k+1+1+(cnt x.vF:Nat)),mrk x.vY (k+1+1+(cnt x.vF:Nat)+(cnt x.vJ:Nat)),mrk x.vw (k+1+1+(cnt x.vF:Nat)+(cnt x.vJ:Nat)+(cnt x.vY:Nat)),mrk x.QI (k+1+1+(cnt x.vF:Nat)+(cnt x.vJ:Nat)+(cnt x.vY:Nat)+(cnt x.vw:Nat)),mrk x.xw (k+1+1+(cnt x.vF:Nat)+(cnt x.vJ:Nat)+(cnt x.vY:Nat)+(cnt x.vw:Nat)+(cnt x.QI:Nat)),mrk x.jV (k+1+1+(cnt x.vF:Nat)+(cnt x.vJ:Nat)+(cnt x.vY:Nat)+(cnt x.vw:Nat)+(cnt x.QI:Nat)+(cnt x.xw:Nat))⟩
 mkd x k:=mkd x.qR (k)/\mkd x.jR (k+1)/\mkd x.vF (k+1+1)/\mkd x.vJ (k+1+1+(cnt x.vF:Nat))/\mkd x.vY (k+1+1+(cnt x.vF:Nat)+(cnt x.vJ:Nat))/\mkd x.vw (k+1+1+(cnt x.vF:Nat)+(cnt x.vJ:Nat)+(cnt x.vY:Nat))/\mkd x.QI (k+1+1+(cnt x.vF:Nat)+(cnt x.vJ:Nat)+(cnt x.vY:Nat)+(cnt x.vw:Nat))/\mkd x.xw (k+1+1+(cnt x.vF:Nat)+(cnt x.vJ:Nat)+(cnt x.vY:Nat)+(cnt x.vw:Nat)+(cnt x.QI:Nat))/\mkd x.jV (k+1+1+(cnt x.vF:Nat)+(cnt x.vJ:Nat)+(cnt x.vY:Nat)+(cnt x.vw:Nat)+(cnt x.QI:Nat)+(cnt x.xw:Nat))
 mkd_mark x k:=by
  simp only [cnt_mark]
  exact ⟨mkd_mark _ _,mkd_mark _ _,mkd_mark _ _,mkd_mark _ _,mkd_mark _ _,mkd_mark _ _,mkd_mark _ _,mkd_mark _ _,mkd_mark _ _⟩
 cnt_mark x k:=by simp only [cnt_mark]
theorem cnt_RuleD (x:zZ):cnt x=1+1+cnt x.vF+cnt x.vJ+cnt x.vY+cnt x.vw+cnt x.QI+cnt x.xw+1:=rfl
instance:Mark qH where
 cnt x:=cnt x.qI+cnt x.qP+cnt x.qN
 mrk x k:=⟨mrk x.qI (k),mrk x.qP (k+(cnt x.qI:Nat)),mrk x.qN (k+(cnt x.qI:Nat)+(cnt x.qP:Nat))⟩
 mkd x k:=mkd x.qI (k)/\mkd x.qP (k+(cnt x.qI:Nat))/\mkd x.qN (k+(cnt x.qI:Nat)+(cnt x.qP:Nat))
 mkd_mark x k:=by
  simp only [cnt_mark]
  exact ⟨mkd_mark _ _,mkd_mark _ _,mkd_mark _ _⟩
 cnt_mark x k:=by simp only [cnt_mark]
instance:Mark Q8 where
 cnt x:=1+1+1+1
 mrk x k:=⟨mrk x.fOp (k),mrk x.zn (k+1),mrk x.fTo (k+1+1),mrk x.zf (k+1+1+1)⟩
 mkd x k:=mkd x.fOp (k)/\mkd x.zn (k+1)/\mkd x.fTo (k+1+1)/\mkd x.zf (k+1+1+1)
 mkd_mark x k:=by
  simp only [cnt_mark]
  exact ⟨mkd_mark _ _,mkd_mark _ _,mkd_mark _ _,mkd_mark _ _⟩
 cnt_mark x k:=by simp only [cnt_mark]
theorem cnt_OrderD (x:Q8):cnt x=1+1+1+1:=rfl
theorem St.open_OrderD {b m c:Nat} {l:List Q8} (H:St W w ps [isF true F (Sv (some ⟨b,o,none⟩) m c) l]) (N:F.Nodup) (k:Nat) (hk:k < l.length) {y:Q8} (hy:l[k]! =y):
 ∃ (xs1 xs2:List Value) (F1 F2:yLN),F=b::(F1++[]++F2)/\xs1.length=k * 4/\St W w ps [holeF b o xs1 [.int .i64 y.fOp,.int .i64 y.zn,.int .i64 y.fTo,.int .i64 y.zf] xs2 F1 F2 (l.take k) (l.drop (k+1))]∧
  ([b::(F1++F2)]:List yLN).flatten.Nodup:=by
 obtain ⟨cs,xs1,xs2,F1,Fk,F2,rfl,hx,hr,hfr,hlt,H⟩:=H.openAt k hk
 rw [hy] at hr
 obtain ⟨rfl,hFF⟩:=hr
 exact ⟨xs1,xs2,F1,F2,by rw [hFF],hx,H,by have N' :=nodup_hole N;rw [hFF] at N';simpa using N'⟩
end
section
theorem markInt64S_ok (w:World) (x:yLI) (kk:Int) (ax:yOA) (cx:Nat) (Fx:yLN) (hx:zP w Fx ax cx x) (nd:Fx.Nodup) (fr:ve w Fx) (p0:0<=kk) (p1:kk+(cnt x:Nat)<=4611686018427387904):Calls Tryz.prog 35 #[Sv ax x.length cx,yI kk] w (RetM (fun v w' =>v=yI (kk+(cnt x:Nat))/\(isF true Fx (Sv ax x.length cx) (mrk x kk)).φ w') Fx w):=by
 refine en func35 ntmps35 ?_
 have H:=St.start w
 replace H:=H.add (sF true Fx ax cx x) ⟨hx,fun _=>fr.sub (by intro z hz;simp [hz])⟩ (start_lt hx)
 have nhx:=qO hx
 clear hx
 have C:Chg Fx w w:=Chg.refl _ _
 have N:([Fx]:List yLN).flatten.Nodup:=by simpa using nd
 refine zcr (sp (yI 0) (zjcc (sp (yI 0) (zjn (qV ?_)))))
 replace H:St w w [] [isF true Fx (Sv ax x.length cx) (Qu x kk 0)]:=by rw [markTo_zero];exact H
 refine zA (fun m' ρ w1=>∃ (xQ:Env) (k:Nat) (r:Int) (W:World),ρ=upd (upd (upd (upd xQ 0 (Sv ax x.length cx)) 1 (yI r)) 4 (yI 0)) 5 (yI k)/\(k<=x.length)/\(r=kk+(cntTo x k:Nat))/\(Chg Fx w W)/\m' =x.length - k/\St W w1 [] [isF true Fx (Sv ax x.length cx) (Qu x kk k)]) (x.length - 0) ⟨_,0,kk,w,uE4,qf,(by exact (Int.add_zero _).symm),(by exact C),rfl,H⟩ ?_
 clear H
 rintro m' ρ w2 ⟨xQ,k,r,W,rfl,i0,i1,C,rfl,H⟩
 have hc:=fun h=>cnt_get (l:=x) (k:=k) h
 refine zcc (sp (yI k) (sq 1 (oN rfl (sq 1 (zjn (cD rfl (fun h3=>?_) (fun h3=>?_)))))))
 ·refine qU (t_n (xU (qV (zcr (sq 1 (sp (yI k) (sp (yI r) ?_)))))))
  obtain ⟨b4,o5,rfl⟩:=H.addr 0 rfl (by rw [Q4 _ _ qf];omega)
  obtain ⟨xs1,xs2,G1,G2,rfl,hx,H,N⟩:=H.open_Int nd k (by rw [Q4 _ _ qf];omega) (markTo_get _ _ qf)
  refine oI rfl rfl (sw (o_storeHole H N _ 0 hx (yI r) sizeOf2 rfl rfl rfl (Nat.le_of_ble_eq_true rfl) fun w6 W7 C8 H=>?_))
  replace C:=C.trans (C8.mono (hole_sub _ _ _ _))
  replace H:St _ _ _ [holeF b4 o5 xs1 [yI r] xs2 G1 G2 ((Qu x kk k).take k) ((Qu x kk k).drop (k+1))]:=H
  refine zjn (xK (sp (yI r) (sw (zi r 1 rfl rfl (by (have:=hc qf;have e:cnt (x[k]!)=1:=rfl;omega)) (sq 1 (xP (b_n (t_n (xK (sp (yI k) (sw (zi k 1 rfl rfl (by (have:=hc qf;have e:cnt (x[k]!)=1:=rfl;omega)) (sq 1 (xP ?_))))))))))))))
  replace H:=H.closeAt (y:=mrk (x[k]!) r) (m:=x.length) (c:=cx) ⟨rfl,rfl⟩ (ve.nil _) (by intro z hz;simp at hz) (Qu x kk (k+1)) (by subst i1;exact markTo_step _ _ qf) (Q4 _ _ qf) (by rw [Q4 _ _ qf];exact nhx)
  refine qW (m' :=x.length - (k+1)) qf ⟨_,k+1,r+1,W7,uE4,?_,?_,?_,rfl,H⟩
  ·omega
  ·rw [X6];have e:cnt (x[k]!)=1:=rfl;omega
  ·exact C
 refine zx4 (zcr (sp (yI r) (sp (yI r) (zjr ?_))))
 obtain rfl:k=x.length:=by omega
 refine ret1 (yI r) rfl rfl ⟨_,rfl,⟨?_,H.get 0 rfl⟩,C.trans (Chg.ofExt H.base)⟩
 first | rfl | (refine congrArg (Value.int .i64) ?_;rw [cnt_list];omega)
theorem markOrderS_ok (w:World) (x:List Q8) (kk:Int) (ax:yOA) (cx:Nat) (Fx:yLN) (hx:zP w Fx ax cx x) (nd:Fx.Nodup) (fr:ve w Fx) (p0:0<=kk) (p1:kk+(cnt x:Nat)<=4611686018427387904):Calls Tryz.prog 94 #[Sv ax x.length cx,yI kk] w (RetM (fun v w' =>v=yI (kk+(cnt x:Nat))/\(isF true Fx (Sv ax x.length cx) (mrk x kk)).φ w') Fx w):=by
 refine en func94 ntmps94 ?_
 have H:=St.start w
 replace H:=H.add (sF true Fx ax cx x) ⟨hx,fun _=>fr.sub (by intro z hz;simp [hz])⟩ (start_lt hx)
 have nhx:=qO hx
 clear hx
 have C:Chg Fx w w:=Chg.refl _ _
 have N:([Fx]:List yLN).flatten.Nodup:=by simpa using nd
 refine zcr (sp (yI 0) (zjcc (sp (yI 0) (zjn (qV ?_)))))
 replace H:St w w [] [isF true Fx (Sv ax x.length cx) (Qu x kk 0)]:=by rw [markTo_zero];exact H
 refine zA (fun m' ρ w1=>∃ (xQ:Env) (k:Nat) (r:Int) (W:World),ρ=upd (upd (upd (upd xQ 0 (Sv ax x.length cx)) 1 (yI r)) 4 (yI 0)) 5 (yI k)/\(k<=x.length)/\(r=kk+(cntTo x k:Nat))/\(Chg Fx w W)/\m' =x.length - k/\St W w1 [] [isF true Fx (Sv ax x.length cx) (Qu x kk k)]) (x.length - 0) ⟨_,0,kk,w,uE4,qf,(by exact (Int.add_zero _).symm),(by exact C),rfl,H⟩ ?_
 clear H
 rintro m' ρ w2 ⟨xQ,k,r,W,rfl,i0,i1,C,rfl,H⟩
 have hc:=fun h=>cnt_get (l:=x) (k:=k) h
 refine zcc (sp (yI k) (sq 1 (oN rfl (sq 1 (zjn (cD rfl (fun h3=>?_) (fun h3=>?_)))))))
 ·refine qU (t_n (xU (qV (zcr (sq 1 (sp (yI k) (sp (yI r) ?_)))))))
  obtain ⟨b4,o5,rfl⟩:=H.addr 0 rfl (by rw [Q4 _ _ qf];omega)
  obtain ⟨xs1,xs2,G1,G2,rfl,hx,H,N⟩:=H.open_OrderD nd k (by rw [Q4 _ _ qf];omega) (markTo_get _ _ qf)
  refine oI rfl rfl (oF rfl (sw (o_storeHole H N _ 0 hx (yI r) sizeOf2 rfl rfl rfl (Nat.le_of_ble_eq_true rfl) fun w6 W7 C8 H=>?_)))
  replace C:=C.trans (C8.mono (hole_sub _ _ _ _))
  replace H:St _ _ _ [holeF b4 o5 xs1 [yI r,yI ((x[k]!).zn),yI ((x[k]!).fTo),yI ((x[k]!).zf)] xs2 G1 G2 ((Qu x kk k).take k) ((Qu x kk k).drop (k+1))]:=H
  refine zjc (sp (yI r) (sw (zi r 1 rfl rfl (by (have:=hc qf;have e:=cnt_OrderD (x[k]!);omega)) (sq 1 (zjc (sq 1 (sp (yI k) (sq 1 (oI rfl rfl (oF rfl (sw (o_storeHole H N _ 1 hx (yI (r+1)) sizeOf2 rfl rfl rfl (Nat.le_of_ble_eq_true rfl) fun w9 W10 C11 H=>?_))))))))))))
  replace C:=C.trans (C11.mono (hole_sub _ _ _ _))
  replace H:St _ _ _ [holeF b4 o5 xs1 [yI r,yI (r+1),yI ((x[k]!).fTo),yI ((x[k]!).zf)] xs2 G1 G2 ((Qu x kk k).take k) ((Qu x kk k).drop (k+1))]:=H
  refine zjc (sq 1 (sw (zi (r+1) 1 rfl rfl (by (have:=hc qf;have e:=cnt_OrderD (x[k]!);omega)) (sq 1 (zjc (sq 1 (sp (yI k) (sq 1 (oI rfl rfl (oF rfl (sw (o_storeHole H N _ 2 hx (yI ((r+1)+1)) sizeOf2 rfl rfl rfl (Nat.le_of_ble_eq_true rfl) fun w12 W13 C14 H=>?_))))))))))))
  replace C:=C.trans (C14.mono (hole_sub _ _ _ _))
  replace H:St _ _ _ [holeF b4 o5 xs1 [yI r,yI (r+1),yI ((r+1)+1),yI ((x[k]!).zf)] xs2 G1 G2 ((Qu x kk k).take k) ((Qu x kk k).drop (k+1))]:=H
  refine zjc (sq 1 (sw (zi ((r+1)+1) 1 rfl rfl (by (have:=hc qf;have e:=cnt_OrderD (x[k]!);omega)) (sq 1 (zjc (sq 1 (sp (yI k) (sq 1 (oI rfl rfl (oF rfl (sw (o_storeHole H N _ 3 hx (yI (((r+1)+1)+1)) sizeOf2 rfl rfl rfl (Nat.le_of_ble_eq_true rfl) fun w15 W16 C17 H=>?_))))))))))))
  replace C:=C.trans (C17.mono (hole_sub _ _ _ _))
  replace H:St _ _ _ [holeF b4 o5 xs1 [yI r,yI (r+1),yI ((r+1)+1),yI (((r+1)+1)+1)] xs2 G1 G2 ((Qu x kk k).take k) ((Qu x kk k).drop (k+1))]:=H
  refine zjn (xK (sq 1 (sw (zi (((r+1)+1)+1) 1 rfl rfl (by (have:=hc qf;have e:=cnt_OrderD (x[k]!);omega)) (sq 1 (xP (b_n (t_n (xK (sp (yI k) (sw (zi k 1 rfl rfl (by (have:=hc qf;have e:=cnt_OrderD (x[k]!);omega)) (sq 1 (xP ?_))))))))))))))
  replace H:=H.closeAt (y:=mrk (x[k]!) r) (m:=x.length) (c:=cx) ⟨rfl,rfl⟩ (ve.nil _) (by intro z hz;simp at hz) (Qu x kk (k+1)) (by subst i1;exact markTo_step _ _ qf) (Q4 _ _ qf) (by rw [Q4 _ _ qf];exact nhx)
  refine qW (m' :=x.length - (k+1)) qf ⟨_,k+1,(((r+1)+1)+1)+1,W16,uE4,?_,?_,?_,rfl,H⟩
  ·omega
  ·rw [X6];have e:=cnt_OrderD (x[k]!);omega
  ·exact C
 refine zx4 (zcr (sp (yI r) (sp (yI r) (zjr ?_))))
 obtain rfl:k=x.length:=by omega
 refine ret1 (yI r) rfl rfl ⟨_,rfl,⟨?_,H.get 0 rfl⟩,C.trans (Chg.ofExt H.base)⟩
 first | rfl | (refine congrArg (Value.int .i64) ?_;rw [cnt_list];omega)
theorem markProgram_ok (w:World) (x:zF) (kk:Int) (axOrders:yOA) (cxOrders:Nat) (FxOrders:yLN) (hxOrders:zP w FxOrders axOrders cxOrders x.qB) (nd:FxOrders.Nodup) (fr:ve w FxOrders) (p0:0<=kk) (p1:kk+(cnt x.qB:Nat)<=4611686018427387904):Calls Tryz.prog 34 #[.agg #[yI x.qA,Sv axOrders x.qB.length cxOrders],yI kk] w (RetM (fun v w' =>v=yI (kk+(cnt x.qB:Nat))/\(isF true FxOrders (Sv axOrders x.qB.length cxOrders) (mrk x.qB kk)).φ w') FxOrders w):=by
 refine en func34 ntmps34 ?_
 have H:=St.start w
 replace H:=H.add (sF true FxOrders axOrders cxOrders x.qB) ⟨hxOrders,fun _=>fr.sub (by intro z hz;simp [hz])⟩ (start_lt hxOrders)
 have nhxOrders:=qO hxOrders
 clear hxOrders
 have C:Chg FxOrders w w:=Chg.refl _ _
 have N:([FxOrders]:List yLN).flatten.Nodup:=by simpa using nd
 refine zcr (sw (o_box H (.agg #[yI x.qA,Sv axOrders x.qB.length cxOrders]) rfl fun b1 w2 H=>?_))
 replace H:St _ _ [.box b1 [yI x.qA,Sv axOrders x.qB.length cxOrders] 26] _:=H
 refine sp (yI 0) (zjc (oF rfl (oL rfl (H.cell 0 rfl rfl) (sp (yI kk) (sw (o_callM #[Sv axOrders x.qB.length cxOrders,yI kk] rfl rfl call94 (markOrderS_ok w2 x.qB kk axOrders cxOrders FxOrders (H.get 0 rfl).1 (flat_nodup N 0 rfl) ((H.get 0 rfl).2 rfl) qf qf) ?_))))))
 rintro _ w3 ⟨rfl,m7⟩ x5
 obtain ⟨W4,C6,H⟩:=H.chgAt N 0 rfl (isF true FxOrders (Sv axOrders x.qB.length cxOrders) (mrk x.qB kk)) rfl x5 m7
 replace C:=C.trans (C6.mono (by intro z hz;have hz:z∈FxOrders:=hz;simp [hz]))
 replace H:St _ _ _ [isF true FxOrders (Sv axOrders x.qB.length cxOrders) (mrk x.qB kk)]:=H
 refine sq 1 (zjc (sq 2 (zjr ?_)))
 simp_all
 refine ret1 (yI (kk+(cnt x.qB:Nat))) rfl rfl ⟨_,rfl,⟨?_,H.get 0 rfl⟩,C.trans (Chg.ofExt H.base)⟩
 first | rfl | (refine congrArg (Value.int .i64) ?_;rw [cnt_list];omega)
theorem heldInt64S_ok (w:World) (x:yLI) (kk:Int) {cx:Nat} (hx:zP w Fx ax cx x) (m:mkd x kk) (p0:0<=kk) (p1:kk+(cnt x:Nat)<=4611686018427387904):Calls Tryz.prog 36 #[Sv ax x.length cx,yI kk] w (Ret (fun v w' =>v=yI (kk+(cnt x:Nat))) w):=by
 refine en func36 ntmps36 ?_
 have H:=(St.start w).arg hx
 have nhx:=qO hx
 clear hx
 refine zcr (sp (yI 0) (zjcc (sp (yI 0) (zjn (qV ?_)))))
 refine zA ((fun Z0=>fun m' ρ w1=>∃ (xQ:Env) (k:Nat) (r:Int),ρ=upd (upd (upd xQ 0 (Sv ax x.length cx)) 1 (yI r)) 5 (yI k)/\(k<=x.length)/\(r=kk+(cntTo x k:Nat))/\m' =x.length - k/\St w w1 [] [Z0]) _) (x.length - 0) ⟨_,0,kk,uE3,qf,(by exact (Int.add_zero _).symm),rfl,H⟩ ?_
 clear H
 rintro m' ρ w2 ⟨xQ,k,r,rfl,i0,i1,rfl,H⟩
 have hc:=fun h=>cnt_get (l:=x) (k:=k) h
 refine zcc (sp (yI k) (sq 1 (oN rfl (sq 1 (zjn (cD rfl (fun h3=>?_) (fun h3=>?_)))))))
 ·have m0:=m k qf
  rw [← i1] at m0
  replace m0:x[k]! =r:=m0
  refine qU (t_n (xU (qV (zcc (sq 1 (sp (yI k) ?_))))))
  obtain ⟨b4,o5,rfl⟩:=H.addr 0 rfl qf
  refine oI rfl rfl (oL rfl (H.zB 0 rfl k qf) (sp (yI r) (sq 1 (zjn (zT _ rfl (fun h6=>?_) (fun h6=>?_))))))
  ·replace h6:=bne_iff_ne.1 h6
   refine zcr (sq 1 (zjr (t_r (zr5 (rH1 (yI (-1)) H ?_)))))
   exfalso;first | omega | (exact absurd ‹_› ‹¬ _›) | simp_all
  replace h6:=xu h6
  refine qU (t_n (xK (sp (yI r) (sw (zi r 1 rfl rfl (by (have:=hc qf;have e:cnt (x[k]!)=1:=rfl;omega)) (sq 1 (xP (b_n (t_n (xK (sp (yI k) (sw (zi k 1 rfl rfl (by (have:=hc qf;have e:cnt (x[k]!)=1:=rfl;omega)) (sq 1 (xP (qW (m' :=x.length - (k+1)) qf ⟨_,k+1,r+1,uE3,?_,?_,rfl,H⟩))))))))))))))))
  ·omega
  ·rw [X6];have e:cnt (x[k]!)=1:=rfl;omega
 refine zx4 (zcr (sp (yI r) (sp (yI r) (zjr (rH1 (yI r) H ?_)))))
 first | rfl | (refine congrArg (Value.int .i64) ?_;obtain rfl:k=x.length:=qf;exact i1)
end
section
def FrameTo (s:qG) (k:Nat):Prop:=∀ c,1<=c->c < k->0<=s.qC[c]! /\s.qC[c]! <=(c:Int) - 1
theorem FrameTo.one (s:qG):FrameTo s 1:=fun c h1 h2=>by omega
theorem FrameTo.succ (h:FrameTo s k) (h1:0<=s.qC[k]! /\s.qC[k]! <=(k:Int) - 1):FrameTo s (k+1):=fun c hc hk=>by
 by_cases e:c=k
 ·subst e;exact h1
 ·exact h c hc qf
def yD (s:qG):Prop:=(1<=s.xO/\s.xO<=8)/\(1<=s.qC.length/\s.qC.length<=6)/\s.qC[0]! = -1/\FrameTo s s.qC.length
theorem yD.up (h:yD s) (h0:0 < c) (h1:c<=(s.qC.length:Int) - 1):0<=s.qC[c.toNat]! /\s.qC[c.toNat]! < c:=by
 have:=h.2.2.2 c.toNat qf qf
 omega
inductive Lies (p:yLI) (o:Int):Int->Prop where
 | here {c:Int}:0 < c->p[c.toNat]! =o->Lies p o c
 | up {c:Int}:0 < c->Lies p o (p[c.toNat]!)->Lies p o c
theorem lies_iff {p:yLI} {o:Int}:Lies p o c<->0 < c/\(p[c.toNat]! =o\/Lies p o (p[c.toNat]!)):=by
 constructor
 ·rintro (⟨h,e⟩ | ⟨h,e⟩)
  ·exact ⟨h,.inl e⟩
  ·exact ⟨h,.inr e⟩
 ·rintro ⟨h,e | e⟩
  ·exact .here h e
  ·exact .up h e
abbrev CellIn (s:qG) (c:Int):Prop:=0<=c/\c<=(s.qC.length:Int) - 1
def IntoOk (s:qG) (r:zZ) (j:Nat):Prop:=
 CellIn s (r.xw[j]!).qR/\Lies s.qC r.qR (r.xw[j]!).qR/\vk s.xO (r.xw[j]!).QP/\Xh (r.xw[j]!).QP≠0/\(0 < j->(r.xw[j - 1]!).qR < (r.xw[j]!).qR)
def IntosTo (s:qG) (r:zZ) (k:Nat):Prop:=∀ j,j < k->IntoOk s r j
theorem IntosTo.succ (h:IntosTo s r k) (h1:IntoOk s r k):IntosTo s r (k+1):=fun j hj=>by
 by_cases e:j=k
 ·subst e;exact h1
 ·exact h j qf
def RuleOk (s:qG) (r:zZ):Prop:=
 CellIn s r.qR/\(0<=r.jR/\r.jR<=9)/\¬ (r.jV=true/\r.qR=0)/\r.xw.length<=3∧
  vk s.xO r.vF/\vk s.xO r.vJ/\vk s.xO r.vY/\vk s.xO r.vw/\vk s.xO r.QI/\Xh r.vF≠0/\IntosTo s r r.xw.length
def XG (rs:List zZ) (c:Int):Nat->Int
 | 0=>0
 | k+1=>XG rs c k+if (rs[k]!).qR=c then 1 else 0
def RulesTo (s:qG) (k:Nat):Prop:=∀ j,j < k->RuleOk s (s.qE[j]!)/\XG s.qE (s.qE[j]!).qR (j+1)<=8
theorem RulesTo.succ (h:RulesTo s k) (h1:RuleOk s (s.qE[k]!)) (h2:XG s.qE (s.qE[k]!).qR (k+1)<=8):RulesTo s (k+1):=fun j hj=>by
 by_cases e:j=k
 ·subst e;exact ⟨h1,h2⟩
 ·exact h j qf
def yj (s:qG):Prop:=yD s/\s.qE.length<=16/\RulesTo s s.qE.length
def BagsTo (s:qG) (t:qH) (k:Nat):Prop:=∀ c,c < k->vk s.xO (t.qP[c]!)/\(t.qI[c]! =false->Xh (t.qP[c]!)<=0)
theorem BagsTo.succ (h:BagsTo s t k) (h1:vk s.xO (t.qP[k]!)) (h2:t.qI[k]! =false->Xh (t.qP[k]!)<=0):BagsTo s t (k+1):=fun j hj=>by
 by_cases e:j=k
 ·subst e;exact ⟨h1,h2⟩
 ·exact h j qf
def zV (s:qG) (t:qH):Prop:=
 t.qI.length=s.qC.length/\t.qP.length=s.qC.length/\t.qI[0]! =true/\vk s.xO t.qN/\BagsTo s t t.qP.length
theorem yD.step (h:yD s) (h0:0<=c) (h1:c<=(s.qC.length:Int) - 1): -1<=s.qC[c.toNat]! /\s.qC[c.toNat]! < c:=by
 rcases Int.lt_or_eq_of_le h0 with h2 | h2
 ·have:=h.up h2 h1;omega
 ·subst h2
  have:=h.2.2.1
  simp only [Int.toNat_zero]
  omega
def climb (p:yLI) (alive:List Bool):Nat->Int->Int
 | 0,c=>c
 | n+1,c=>if 0<=c/\alive[c.toNat]! =false then climb p alive n (p[c.toNat]!) else c
theorem climb_go {p:yLI} (hn:c < n) (h0:0<=c) (h:alive[c.toNat]! =false):climb p alive n c=climb p alive (n - 1) (p[c.toNat]!):=by
 obtain ⟨m,rfl⟩:∃ m,n=m+1:=⟨n - 1,by omega⟩
 rw [climb,if_pos ⟨h0,h⟩];rfl
theorem climb_end {p:yLI} (h:¬ (0<=c/\alive[c.toNat]! =false)):climb p alive n c=c:=by
 cases n with
 | zero=>rfl
 | succ m=>rw [climb,if_neg h]
def xZ (s:qG) (t:qH) (c:Int):Int:=climb s.qC t.qI s.qC.length (s.qC[c.toNat]!)
theorem ofCell_bd (rs:List zZ) (c:Int):∀ k,0<=XG rs c k/\XG rs c k<=k
 | 0=>by simp [XG]
 | k+1=>by
  have:=ofCell_bd rs c k
  simp only [XG]
  split <;> omega
def counts (s:qG) (k:Nat):yLI:=(List.range s.qC.length).map fun c:Nat=>XG s.qE (c:Int) k
theorem counts_len (s:qG) (k:Nat):(counts s k).length=s.qC.length:=by simp [counts]
theorem counts_zero (s:qG):List.replicate s.qC.length (0:Int)=counts s 0:=by
 apply List.ext_getElem
 ·simp [counts]
 ·intro i h1 h2;simp [counts,XG]
theorem X5 (h:CellIn s c):(counts s k)[c.toNat]! =XG s.qE c k:=by
 rw [getElem!_pos _ _ (by rw [counts_len];omega)]
 simp only [counts,List.getElem_map,List.getElem_range]
 rw [show ((c.toNat:Nat):Int)=c by omega]
theorem counts_succ (h:CellIn s (s.qE[k]!).qR):
 (counts s k).set (s.qE[k]!).qR.toNat ((counts s k)[(s.qE[k]!).qR.toNat]! +1)=counts s (k+1):=by
 rw [X5 h]
 apply List.ext_getElem
 ·simp [counts]
 ·intro i h1 h2
  rw [List.getElem_set]
  simp only [counts,List.getElem_map,List.getElem_range,XG]
  by_cases e:(s.qE[k]!).qR.toNat=i
  ·subst e
   rw [if_pos rfl,if_pos qf,show (((s.qE[k]!).qR.toNat:Nat):Int)=(s.qE[k]!).qR by omega]
  ·rw [if_neg e,if_neg qf];omega
end
section
variable {bs os qL qX bt ot xn xM qZ : Nat}
theorem l01Bag_ok (w:World) (l:yLI) (hl:zP w Fl al cl l):Calls Tryz.prog 232 #[Sv al l.length cl] w (Ret (fun v w' =>v=Bv (dec (BagAny l))) w):=by
 refine en func232 ntmps232 ?_
 have H:=(St.start w).arg hl
 have nhl:=qO hl
 clear hl
 refine zcr (sp (Bv false) (zjcc (sp (yI 0) (zjn (qV ?_)))))
 refine zA ((fun Z0=>fun m' ρ w1=>∃ (xQ:Env) (k:Nat),ρ=upd (upd xQ 0 (Sv al l.length cl)) 3 (yI k)/\(k<=l.length)/\(Counts l k)/\m' =l.length - k/\St w w1 [] [Z0]) _) (l.length - 0) ⟨_,0,uE2,qf,(by exact Counts.zero l),rfl,H⟩ ?_
 clear H
 rintro m' ρ w2 ⟨xQ,k,rfl,i0,i1,rfl,H⟩
 refine zcc (sp (yI k) (sq 1 (oN rfl (sq 1 (zjn (cD rfl (fun h3=>?_) (fun h3=>?_)))))))
 ·refine qU (t_n (xU (qV (zcr (sq 1 (sp (yI k) ?_))))))
  obtain ⟨b4,o5,rfl⟩:=H.addr 0 rfl qf
  refine oI rfl rfl (oL rfl (H.zB 0 rfl k qf) (sw (oq (QN w2 (l[k]!) 0 1000) H fun w6 H=>sq 1 (zjn (zT _ rfl (fun h8=>?_) (fun h8=>?_))))))
  ·replace h8:=xm h8
   replace h8:=yu h8
   refine zcr (sp (Bv false) (zjr (zr5 (rH1 (Bv false) H ?_))))
   rw [xh (fun h=>‹¬ (0<=l[k]! /\l[k]! <=1000)› (h.1 k qf))]
  replace h8:=qY h8
  replace h8:=jL.1 h8
  refine qU (b_n (t_n (xK (sp (yI k) (sw (zi k 1 rfl rfl qf (sq 1 (xP (qW (m' :=l.length - (k+1)) qf ⟨_,k+1,uE2,?_,?_,rfl,H⟩)))))))))
  ·omega
  ·exact i1.succ ‹_›
 refine zx4 (zcr (sq 1 (oN rfl (sw (oq (QN w2 l.length 1 8) H fun w9 H=>sq 1 (zjr (rH1 (Bv (inR l.length 1 8)) H ?_)))))))
 obtain rfl:k=l.length:=by omega
 refine congrArg Value.bool (dec_eq ?_)
 rw [jL]
 exact ⟨fun h=>⟨i1,by omega,by omega⟩,fun h=>by have:=h.2;omega⟩
theorem QM (w:World) (s:qG) (b:yLI) {ab:yOA} {cb:Nat} {Fb:yLN} (hs:vg w bs os (yS s qM qL xg qX)) (xf:zP w xF qM qL s.qC) (xE:zP w zu xg qX s.qE) (hb:zP w Fb ab cb b):Calls Tryz.prog 212 #[pp bs os,Sv ab b.length cb] w (Ret (fun v w' =>v=Bv (dec (vk s.xO b))) w):=by
 refine en func212 ntmps212 ?_
 have H:=((((St.start w).arg hb).arg xE).arg xf).Q7 hs
 have vH:=qO xf
 have jD:=qO xE
 have nhb:=qO hb
 clear hs xf xE hb
 refine zcr (sp (Bv false) (zjc (sq 1 (sw (oq (l01Bag_ok _ b (H.get 3 rfl).1) H fun w1 H=>sp (Bv (dec (BagAny b))) ?_)))))
 cases h3:(dec (BagAny b))
 ·replace h3:=zX h3
  refine xR (zR 8 7) (sp (Bv false) (sp (Bv false) (zjr (rH1 (Bv false) H ?_))))
  rw [xh (fun h=>‹¬ BagAny b› h.1)]
 replace h3:=yU h3
 refine qJ 7 rfl rfl (sq 1 (qJ 7 rfl rfl (oN rfl (qJ 7 rfl rfl (sq 1 (qJ 7 rfl rfl (sq 1 (qJ 7 rfl rfl (oF rfl (qJ 7 rfl rfl (oL rfl (H.xW 0 rfl 0 rfl) (qJ 7 rfl rfl (sq 3 (zjr (rH1 (Bv ((b.length:Int) == s.xO)) H (congrArg Value.bool (dec_eq ?_)))))))))))))))))
 rw [beq_iff_eq]
 exact ⟨fun h=>⟨‹_›,h⟩,fun h=>h.2⟩
theorem l02Frame_ok (w:World) (s:qG) (hs:vg w bs os (yS s qM qL xg qX)) (xf:zP w xF qM qL s.qC) (xE:zP w zu xg qX s.qE):Calls Tryz.prog 210 #[pp bs os] w (Ret (fun v w' =>v=Bv (dec (yD s))) w):=by
 refine en func210 ntmps210 ?_
 have H:=(((St.start w).arg xE).arg xf).Q7 hs
 have vH:=qO xf
 have jD:=qO xE
 clear hs xf xE
 refine zcr (sp (Bv false) (zjcc (sq 2 (oF rfl (oL rfl (H.xW 0 rfl 0 rfl) (sw (oq (QN w s.xO 1 8) H fun w1 H=>sp (Bv (!(inR s.xO 1 8))) (sp (Bv (!(inR s.xO 1 8))) ?_))))))))
 cases h3:(!(inR s.xO 1 8))
 ·replace h3:=qY h3
  replace h3:=jL.1 h3
  refine qJ 10 rfl rfl (sq 1 (qJ 10 rfl rfl (sq 1 (qJ 10 rfl rfl (oF rfl (qJ 10 rfl rfl (oL rfl (H.xW 0 rfl 1 rfl) (qJ 10 rfl rfl (oN rfl (qJ 10 rfl rfl (sw (oq (QN w1 s.qC.length 1 6) H fun w4 H=>qJ 10 rfl rfl (sp (Bv (!(inR s.qC.length 1 6))) (sp (Bv (!(inR s.qC.length 1 6))) (sp (Bv (!(inR s.qC.length 1 6))) ?_)))))))))))))))
  cases h6:(!(inR s.qC.length 1 6))
  ·replace h6:=qY h6
   replace h6:=jL.1 h6
   refine qJ 19 rfl rfl (sq 1 (qJ 19 rfl rfl (sq 1 (qJ 19 rfl rfl (oF rfl (qJ 19 rfl rfl (oL rfl (H.xW 0 rfl 1 rfl) (qJ 19 rfl rfl ?_))))))))
   obtain ⟨b7,o8,rfl⟩:=H.addr 1 rfl qf
   refine oI rfl rfl (qJ 19 rfl rfl (oL rfl (H.zB 1 rfl 0 qf) (qJ 19 rfl rfl (sp (Bv ((s.qC[0]! :Int) != (-1))) (sp (Bv ((s.qC[0]! :Int) != (-1))) (zjn (zT ((s.qC[0]! :Int) != (-1)) rfl (fun h9=>?_) (fun h9=>?_))))))))
   ·replace h9:=bne_iff_ne.1 h9
    refine zcr (sp (Bv false) (zjr (t_r (rH1 (Bv false) H ?_))))
    rw [xh (fun h=>by obtain ⟨h1,h2,h3,h4⟩:=h;first | omega | (have:=h4 k qf qf;omega))]
   replace h9:=xu h9
   refine qU (t_n (zcc (sp (yI 1) (zjn (qV ?_)))))
   refine zA ((fun Z0 Z1 Z2=>fun m' ρ w10=>∃ (xQ:Env) (k:Nat),ρ=upd (upd xQ 0 (pp bs os)) 3 (yI k)/\(k<=s.qC.length)/\(1<=k)/\(FrameTo s k)/\m' =s.qC.length - k/\St w w10 [] [Z0,Z1,Z2]) _ _ _) (s.qC.length - 1) ⟨_,1,uE2,qf,qf,(by exact FrameTo.one s),rfl,H⟩ ?_
   clear H
   rintro m' ρ w11 ⟨xQ,k,rfl,i0,i2,i1,rfl,H⟩
   refine zcc (sp (yI k) (sq 2 (oF rfl (oL rfl (H.xW 0 rfl 1 rfl) (oN rfl (sq 1 (zjn (cD rfl (fun h12=>?_) (fun h12=>?_)))))))))
   ·refine qU (t_n (xU (qV (zcr (sq 2 (oF rfl (oL rfl (H.xW 0 rfl 1 rfl) (sp (yI k) (oI rfl rfl (oL rfl (H.zB 1 rfl k qf) (sp (yI k) (sw (o_sub k 1 rfl rfl qf (sw (oq (QN w11 (s.qC[k]!) 0 (k - 1)) H fun w13 H=>sq 1 (zjn (zT _ rfl (fun h15=>?_) (fun h15=>?_))))))))))))))))))
    ·replace h15:=xm h15
     replace h15:=yu h15
     refine zcr (sp (Bv false) (zjr (zr5 (rH1 (Bv false) H ?_))))
     rw [xh (fun h=>by obtain ⟨h1,h2,h3,h4⟩:=h;first | omega | (have:=h4 k qf qf;omega))]
    replace h15:=qY h15
    replace h15:=jL.1 h15
    refine qU (b_n (t_n (xK (sp (yI k) (sw (zi k 1 rfl rfl qf (sq 1 (xP (qW (m' :=s.qC.length - (k+1)) qf ⟨_,k+1,uE2,?_,?_,?_,rfl,H⟩)))))))))
    ·omega
    ·omega
    ·exact i1.succ ‹_›
   refine zx4 (zcr (sp (Bv true) (zjr (rH1 (Bv true) H ?_))))
   obtain rfl:k=s.qC.length:=by omega
   rw [jS ⟨by omega,by omega,by omega,i1⟩]
  replace h6:=xm h6
  replace h6:=yu h6
  refine xR (zR 20 7) (sp (Bv true) (zjn (cTr rfl (zcr (sp (Bv false) (zjr (t_r (rH1 (Bv false) H ?_))))))))
  rw [xh (fun h=>by obtain ⟨h1,h2,h3,h4⟩:=h;first | omega | (have:=h4 k qf qf;omega))]
 replace h3:=xm h3
 replace h3:=yu h3
 refine xR (zR 11 7) (sp (Bv true) (sp (Bv true) (xR (zR 20 7) (sp (Bv true) (zjn (cTr rfl (zcr (sp (Bv false) (zjr (t_r (rH1 (Bv false) H ?_)))))))))))
 rw [xh (fun h=>by obtain ⟨h1,h2,h3,h4⟩:=h;first | omega | (have:=h4 k qf qf;omega))]
theorem l02In_ok (w:World) (s:qG) (c:Int) (other:Int) (hs:vg w bs os (yS s qM qL xg qX)) (xf:zP w xF qM qL s.qC) (xE:zP w zu xg qX s.qE) (p0:yD s) (p1:CellIn s c):Calls Tryz.prog 231 #[pp bs os,yI c,yI other] w (Ret (fun v w' =>v=Bv (dec (Lies s.qC other c))) w):=by
 refine en func231 ntmps231 ?_
 have H:=(((St.start w).arg xE).arg xf).Q7 hs
 have vH:=qO xf
 have jD:=qO xE
 clear hs xf xE
 refine zcr (sp (Bv false) (zjn (xU (qV ?_))))
 refine zA ((fun Z0 Z1 Z2=>fun m' ρ w1=>∃ (xQ:Env) (y:Int),ρ=upd (upd (upd xQ 0 (pp bs os)) 1 (yI y)) 2 (yI other)/\(0<=y/\y<=(s.qC.length:Int) - 1)/\(Lies s.qC other c<->Lies s.qC other y)/\m' =y.toNat/\St w w1 [] [Z0,Z1,Z2]) _ _ _) (c.toNat) ⟨_,c,uE3,(by exact p1),(by exact Iff.rfl),rfl,H⟩ ?_
 clear H
 rintro m' ρ w2 ⟨xQ,y,rfl,i0,i1,rfl,H⟩
 have up:=fun h=>p0.up (c:=y) h i0.2
 refine zcc (sp (yI y) (sp (Bv (decide ((y:Int) > 0))) (zjn (cD rfl (fun h3=>?_) (fun h3=>?_)))))
 ·refine qU (t_n (qV (zcr (sq 2 (oF rfl (oL rfl (H.xW 0 rfl 1 rfl) (sp (yI y) ?_)))))))
  obtain ⟨b4,o5,rfl⟩:=H.addr 1 rfl qf
  refine oI rfl rfl (oL rfl (H.XX 1 rfl y qf qf) (sq 1 (zjc (sq 3 (zjn (cE rfl (fun h6=>?_) (fun h6=>?_)))))))
  ·refine zcr (sp (Bv true) (zjr (b_r (t_r (b_r (t_r (rH1 (Bv true) H ?_)))))))
   rw [jS (i1.2 (.here qf ‹_›))]
  refine qU (b_n ?_)
  have up1:=up qf
  refine qW (m' :=(s.qC[y.toNat]!).toNat) qf ⟨_,(s.qC[y.toNat]!),uE3,?_,?_,rfl,H⟩
  ·have:=up qf;omega
  ·exact i1.trans (lies_iff.trans ⟨fun h=>h.2.resolve_left ‹_›,fun h=>⟨by omega,.inr h⟩⟩)
 refine zx4 (zcr (sp (Bv false) (zjr (rH1 (Bv false) H ?_))))
 rw [xh (fun h=>by have:=(lies_iff.1 (i1.1 h)).1;omega)]
theorem l02Rule_ok (w:World) (s:qG) (r:zZ) {br or:Nat} {arNeed:yOA} {crNeed:Nat} {FrNeed:yLN} {arHave:yOA} {crHave:Nat} {FrHave:yLN} {arLack:yOA} {crLack:Nat} {FrLack:yLN} {arHere:yOA} {crHere:Nat} {FrHere:yLN} {arOut:yOA} {crOut:Nat} {FrOut:yLN} {XN:yOA} {XK:Nat} {FrInto:yLN} (hs:vg w bs os (yS s qM qL xg qX)) (xf:zP w xF qM qL s.qC) (xE:zP w zu xg qX s.qE) (hr:vg w br or [yI r.qR,yI r.jR,Sv arNeed r.vF.length crNeed,Sv arHave r.vJ.length crHave,Sv arLack r.vY.length crLack,Sv arHere r.vw.length crHere,Sv arOut r.QI.length crOut,Sv XN r.xw.length XK,Bv r.jV]) (hrNeed:zP w FrNeed arNeed crNeed r.vF) (hrHave:zP w FrHave arHave crHave r.vJ) (hrLack:zP w FrLack arLack crLack r.vY) (hrHere:zP w FrHere arHere crHere r.vw) (hrOut:zP w FrOut arOut crOut r.QI) (hrInto:zP w FrInto XN XK r.xw) (p0:yD s):Calls Tryz.prog 211 #[pp bs os,pp br or] w (Ret (fun v w' =>v=Bv (dec (RuleOk s r))) w):=by
 refine en func211 ntmps211 ?_
 have H:=((((((((((St.start w).arg hrInto).arg hrOut).arg hrHere).arg hrLack).arg hrHave).arg hrNeed).Q7 hr).arg xE).arg xf).Q7 hs
 have vH:=qO xf
 have jD:=qO xE
 have nhrNeed:=qO hrNeed
 have nhrHave:=qO hrHave
 have nhrLack:=qO hrLack
 have nhrHere:=qO hrHere
 have nhrOut:=qO hrOut
 have nhrInto:=qO hrInto
 clear hs xf xE hr hrNeed hrHave hrLack hrHere hrOut hrInto
 refine zcr (sp (Bv false) (zjn (xU (xU ?_))))
 refine jw rfl H fun H=>rtl 0 H ?_
 refine rtl 1 H ?_
 refine tF 2 rfl rfl H ?_
 refine tL 3 rfl rfl (fun _ h=>h.xW 3 rfl 0 rfl) H ?_
 refine rtl 4 H ?_
 refine rtl 5 H ?_
 refine tF 6 rfl rfl H ?_
 refine tL 7 rfl rfl (fun _ h=>h.xW 0 rfl 1 rfl) H ?_
 refine tN 8 rfl rfl H ?_
 refine rt 9 _ (y_sub s.qC.length 1 rfl rfl qf) H ?_
 refine ro 10 rfl (oq (QN w.drew r.qR 0 (s.qC.length - 1)) H fun w2 H=>⟨H,(rtp 11 (Bv (!(inR r.qR 0 (s.qC.length - 1)))) H ?_)⟩)
 refine rtp 12 (Bv (!(inR r.qR 0 (s.qC.length - 1)))) H ?_
 cases h4:(!(inR r.qR 0 (s.qC.length - 1)))
 ·replace h4:=qY h4
  replace h4:=jL.1 h4
  refine rgl 13 19 H ?_
  refine rgl 14 19 H ?_
  refine gF 15 rfl rfl H ?_
  refine gL 16 rfl rfl (fun _ h=>h.xW 3 rfl 1 rfl) H ?_
  refine jb [17] qh qm (XI rfl (e:=19) rfl rfl (oq (QN w2 r.jR 0 9) H fun w5 H=>⟨H,(rgp 18 (Bv (!(inR r.jR 0 9))) 19 H ?_)⟩) jd)
  refine rtp 19 (Bv (!(inR r.jR 0 9))) H ?_
  refine rtp 20 (Bv (!(inR r.jR 0 9))) H ?_
  cases h7:(!(inR r.jR 0 9))
  ·replace h7:=qY h7
   replace h7:=jL.1 h7
   refine rgl 21 27 H ?_
   refine rgl 22 27 H ?_
   refine gF 23 rfl rfl H ?_
   refine gL 24 rfl rfl (fun _ h=>h.xW 3 rfl 8 rfl) H ?_
   refine rgp 25 (Bv r.jV) 27 H ?_
   cases h8:(r.jV)
   ·rw [h8] at H
    refine zS (zR 26 5) 5 (H) (rgp 31 (Bv false) 27 H ?_)
    refine rtp 32 (Bv false) H ?_
    refine rtp 33 (Bv false) H ?_
    refine rgl 34 40 H ?_
    refine rgl 35 40 H ?_
    refine gF 36 rfl rfl H ?_
    refine gL 37 rfl rfl (fun _ h=>h.xW 3 rfl 7 rfl) H ?_
    refine gN 38 rfl rfl H ?_
    refine rgp 39 (Bv (decide ((r.xw.length:Int) > 3))) 40 H ?_
    refine rtp 40 (Bv (decide ((r.xw.length:Int) > 3))) H ?_
    refine xA qh (t_n (cD rfl (fun h9=>?_) (fun h9=>?_)))
    ·refine zcr (sp (Bv false) (zjr (t_r (rH1 (Bv false) H ?_))))
     rw [xh (fun h=>by obtain ⟨h1,h2,h3,h4,h5,h6,h7,h8,h9,h10,h11⟩:=h;first | contradiction | omega | exact h3 ⟨‹_›,‹_›⟩ | (obtain ⟨q1,q2,q3,q4,q5⟩:=h11 k qf;first | contradiction | omega | (have:=q5 qf;omega)))]
    refine qU (t_n (zcc (sq 3 (oF rfl (oL rfl (H.xW 3 rfl 2 rfl) (sw (oq (QM _ s r.vF (qF (H.get 0 rfl) 0 3) (H.get 1 rfl).1 (H.get 2 rfl).1 (H.get 4 rfl).1) H fun w10 H=>sp (Bv (!(dec (vk s.xO r.vF)))) (sp (Bv (!(dec (vk s.xO r.vF)))) ?_))))))))
    cases h12:(!(dec (vk s.xO r.vF)))
    ·replace h12:=qY h12
     replace h12:=yU h12
     refine qJ 55 rfl rfl (sq 1 (qJ 55 rfl rfl (sq 1 (qJ 55 rfl rfl (sq 1 (qJ 55 rfl rfl (oF rfl (qJ 55 rfl rfl (oL rfl (H.xW 3 rfl 3 rfl) (qJ 55 rfl rfl (sw (oq (QM _ s r.vJ (qF (H.get 0 rfl) 0 3) (H.get 1 rfl).1 (H.get 2 rfl).1 (H.get 5 rfl).1) H fun w13 H=>qJ 55 rfl rfl (sp (Bv (!(dec (vk s.xO r.vJ)))) (sp (Bv (!(dec (vk s.xO r.vJ)))) (sp (Bv (!(dec (vk s.xO r.vJ)))) ?_)))))))))))))))
     cases h15:(!(dec (vk s.xO r.vJ)))
     ·replace h15:=qY h15
      replace h15:=yU h15
      refine qJ 64 rfl rfl (sq 1 (qJ 64 rfl rfl (sq 1 (qJ 64 rfl rfl (sq 1 (qJ 64 rfl rfl (oF rfl (qJ 64 rfl rfl (oL rfl (H.xW 3 rfl 4 rfl) (qJ 64 rfl rfl (sw (oq (QM _ s r.vY (qF (H.get 0 rfl) 0 3) (H.get 1 rfl).1 (H.get 2 rfl).1 (H.get 6 rfl).1) H fun w16 H=>qJ 64 rfl rfl (sp (Bv (!(dec (vk s.xO r.vY)))) (sp (Bv (!(dec (vk s.xO r.vY)))) (sp (Bv (!(dec (vk s.xO r.vY)))) ?_)))))))))))))))
      cases h18:(!(dec (vk s.xO r.vY)))
      ·replace h18:=qY h18
       replace h18:=yU h18
       refine qJ 73 rfl rfl (sq 1 (qJ 73 rfl rfl (sq 1 (qJ 73 rfl rfl (sq 1 (qJ 73 rfl rfl (oF rfl (qJ 73 rfl rfl (oL rfl (H.xW 3 rfl 5 rfl) (qJ 73 rfl rfl (sw (oq (QM _ s r.vw (qF (H.get 0 rfl) 0 3) (H.get 1 rfl).1 (H.get 2 rfl).1 (H.get 7 rfl).1) H fun w19 H=>qJ 73 rfl rfl (sp (Bv (!(dec (vk s.xO r.vw)))) (sp (Bv (!(dec (vk s.xO r.vw)))) (sp (Bv (!(dec (vk s.xO r.vw)))) ?_)))))))))))))))
       cases h21:(!(dec (vk s.xO r.vw)))
       ·replace h21:=qY h21
        replace h21:=yU h21
        refine qJ 82 rfl rfl (sq 1 (qJ 82 rfl rfl (sq 1 (qJ 82 rfl rfl (sq 1 (qJ 82 rfl rfl (oF rfl (qJ 82 rfl rfl (oL rfl (H.xW 3 rfl 6 rfl) (qJ 82 rfl rfl (sw (oq (QM _ s r.QI (qF (H.get 0 rfl) 0 3) (H.get 1 rfl).1 (H.get 2 rfl).1 (H.get 8 rfl).1) H fun w22 H=>qJ 82 rfl rfl (sp (Bv (!(dec (vk s.xO r.QI)))) (sp (Bv (!(dec (vk s.xO r.QI)))) (sp (Bv (!(dec (vk s.xO r.QI)))) ?_)))))))))))))))
        cases h24:(!(dec (vk s.xO r.QI)))
        ·replace h24:=qY h24
         replace h24:=yU h24
         refine qJ 91 rfl rfl (sq 1 (qJ 91 rfl rfl (sq 1 (qJ 91 rfl rfl (oF rfl (qJ 91 rfl rfl (oL rfl (H.xW 3 rfl 2 rfl) (qJ 91 rfl rfl (sw (oq (X4 _ r.vF (H.get 4 rfl).1 (by first | assumption | exact vP ql | exact yX ql)) H fun w25 H=>qJ 91 rfl rfl (sp (Bv ((Xh r.vF:Int) == 0)) (sp (Bv ((Xh r.vF:Int) == 0)) (zjn (cE rfl (fun h27=>?_) (fun h27=>?_)))))))))))))))
         ·refine zcr (sp (Bv false) (zjr (t_r (rH1 (Bv false) H ?_))))
          rw [xh (fun h=>by obtain ⟨h1,h2,h3,h4,h5,h6,h7,h8,h9,h10,h11⟩:=h;first | contradiction | omega | exact h3 ⟨‹_›,‹_›⟩ | (obtain ⟨q1,q2,q3,q4,q5⟩:=h11 k qf;first | contradiction | omega | (have:=q5 qf;omega)))]
         refine qU (t_n (zcc (sp (yI 0) (zjn (qV ?_)))))
         refine zA ((fun Z0 Z1 Z2 Z3 Z4 Z5 Z6 Z7 Z8 Z9=>fun m' ρ w28=>∃ (xQ:Env) (k:Nat),ρ=upd (upd (upd xQ 0 (pp bs os)) 1 (pp br or)) 5 (yI k)/\(k<=r.xw.length)/\(IntosTo s r k)/\m' =r.xw.length - k/\St w w28 [] [Z0,Z1,Z2,Z3,Z4,Z5,Z6,Z7,Z8,Z9]) _ _ _ _ _ _ _ _ _ _) (r.xw.length - 0) ⟨_,0,uE3,qf,qx,rfl,H⟩ ?_
         clear H
         rintro m' ρ w29 ⟨xQ,k,rfl,i0,i1,rfl,H⟩
         refine zcc (sp (yI k) (sq 2 (oF rfl (oL rfl (H.xW 3 rfl 7 rfl) (oN rfl (sq 1 (zjn (cD rfl (fun h30=>?_) (fun h30=>?_)))))))))
         ·refine qU (t_n (xU (qV (zcr (sq 2 (oF rfl (oL rfl (H.xW 3 rfl 7 rfl) (sp (yI k) ?_))))))))
          obtain ⟨b31,o32,rfl⟩:=H.addr 9 rfl qf
          obtain ⟨ae33Bag,ce33Bag,Fe33Bag,H⟩:=H.yY 9 rfl k k qf qf qf
          refine oI rfl rfl (sq 1 (zjn (xU (xU ?_))))
          refine jw rfl H fun H=>rtl 0 H ?_
          refine rtl 1 H ?_
          refine tF 2 rfl rfl H ?_
          refine tL 3 rfl rfl (fun _ h=>h.xW 1 rfl 0 rfl) H ?_
          refine rtl 4 H ?_
          refine rtl 5 H ?_
          refine tF 6 rfl rfl H ?_
          refine tL 7 rfl rfl (fun _ h=>h.xW 2 rfl 1 rfl) H ?_
          refine tN 8 rfl rfl H ?_
          refine rt 9 _ (y_sub s.qC.length 1 rfl rfl qf) H ?_
          refine ro 10 rfl (oq (QN w29.drew ((r.xw[k]!).qR) 0 (s.qC.length - 1)) H fun w35 H=>⟨H,(rtp 11 (Bv (!(inR ((r.xw[k]!).qR) 0 (s.qC.length - 1)))) H ?_)⟩)
          refine rtp 12 (Bv (!(inR ((r.xw[k]!).qR) 0 (s.qC.length - 1)))) H ?_
          cases h37:(!(inR ((r.xw[k]!).qR) 0 (s.qC.length - 1)))
          ·replace h37:=qY h37
           replace h37:=jL.1 h37
           refine rgl 13 126 H ?_
           refine rgl 14 126 H ?_
           refine rgl 15 126 H ?_
           refine gF 16 rfl rfl H ?_
           refine gL 17 rfl rfl (fun _ h=>h.xW 1 rfl 0 rfl) H ?_
           refine rgl 18 126 H ?_
           refine rgl 19 126 H ?_
           refine gF 20 rfl rfl H ?_
           refine gL 21 rfl rfl (fun _ h=>h.xW 5 rfl 0 rfl) H ?_
           refine jb [22] qh qm (XI rfl (e:=126) rfl rfl (oq (l02In_ok _ s ((r.xw[k]!).qR) r.qR (qF (H.get 2 rfl) 0 3) (H.get 3 rfl).1 (H.get 4 rfl).1 ql ql) H fun w38 H=>⟨H,(rgp 23 (Bv (!(dec (Lies s.qC r.qR ((r.xw[k]!).qR))))) 126 H ?_)⟩) jd)
           refine rtp 24 (Bv (!(dec (Lies s.qC r.qR ((r.xw[k]!).qR))))) H ?_
           refine rtp 25 (Bv (!(dec (Lies s.qC r.qR ((r.xw[k]!).qR))))) H ?_
           cases h40:(!(dec (Lies s.qC r.qR ((r.xw[k]!).qR))))
           ·replace h40:=qY h40
            replace h40:=yU h40
            refine rgl 26 139 H ?_
            refine rgl 27 139 H ?_
            refine rgl 28 139 H ?_
            refine gF 29 rfl rfl H ?_
            refine gL 30 rfl rfl (fun _ h=>h.xW 1 rfl 1 rfl) H ?_
            refine jb [31] qh qm (XI rfl (e:=139) rfl rfl (oq (QM _ s ((r.xw[k]!).QP) (qF (H.get 2 rfl) 0 3) (H.get 3 rfl).1 (H.get 4 rfl).1 (H.get 0 rfl).1) H fun w41 H=>⟨H,(rgp 32 (Bv (!(dec (vk s.xO ((r.xw[k]!).QP))))) 139 H ?_)⟩) jd)
            refine rtp 33 (Bv (!(dec (vk s.xO ((r.xw[k]!).QP))))) H ?_
            refine rtp 34 (Bv (!(dec (vk s.xO ((r.xw[k]!).QP))))) H ?_
            cases h43:(!(dec (vk s.xO ((r.xw[k]!).QP))))
            ·replace h43:=qY h43
             replace h43:=yU h43
             refine rgl 35 148 H ?_
             refine rgl 36 148 H ?_
             refine gF 37 rfl rfl H ?_
             refine gL 38 rfl rfl (fun _ h=>h.xW 1 rfl 1 rfl) H ?_
             refine jb [39] qh qm (XI rfl (e:=148) rfl rfl (oq (X4 _ ((r.xw[k]!).QP) (H.get 0 rfl).1 (by first | assumption | exact vP ql | exact yX ql)) H fun w44 H=>⟨H,(rgp 40 (Bv ((Xh ((r.xw[k]!).QP):Int) == 0)) 148 H ?_)⟩) jd)
             refine rtp 41 (Bv ((Xh ((r.xw[k]!).QP):Int) == 0)) H ?_
             refine xA qh (t_n (cE rfl (fun h46=>?_) (fun h46=>?_)))
             ·refine zcr (sp (Bv false) (zjr (t_r (zr5 (rH1 (Bv false) H ?_)))))
              rw [xh (fun h=>by obtain ⟨h1,h2,h3,h4,h5,h6,h7,h8,h9,h10,h11⟩:=h;first | contradiction | omega | exact h3 ⟨‹_›,‹_›⟩ | (obtain ⟨q1,q2,q3,q4,q5⟩:=h11 k qf;first | contradiction | omega | (have:=q5 qf;omega)))]
             refine qU (t_n (xU ?_))
             refine jw rfl H fun H=>rtp 0 (yI k) H ?_
             refine rtp 1 (Bv (decide ((k:Int) > 0))) H ?_
             refine rtp 2 (Bv (decide ((k:Int) > 0))) H ?_
             cases h48:(decide ((k:Int) > 0))
             ·replace h48:=of_decide_eq_false h48
              refine zS (zR 3 14) 14 (H) (rtp 17 (Bv false) H ?_)
              refine xA qh (t_n (cFr rfl (qU (b_n (t_n (xK (sp (yI k) (sw (zi k 1 rfl rfl qf (sq 1 (xP (qW (m' :=r.xw.length - (k+1)) qf ⟨_,k+1,uE3,?_,?_,rfl,H.sel _ (.refl _) _ qm⟩))))))))))))
              ·omega
              ·exact i1.succ ⟨‹_›,‹_›,‹_›,‹_›,fun hk=>by omega⟩
             replace h48:=of_decide_eq_true h48
             refine rgl 3 158 H ?_
             refine rgl 4 158 H ?_
             refine gF 5 rfl rfl H ?_
             refine gL 6 rfl rfl (fun _ h=>h.xW 5 rfl 7 rfl) H ?_
             refine rgp 7 (yI k) 158 H ?_
             refine rg 8 _ 158 (y_sub k 1 rfl rfl qf) H ?_
             obtain ⟨ae49Bag,ce49Bag,Fe49Bag,H⟩:=H.yY 11 rfl (k - 1) (k - 1) qf qf qf
             refine gI 9 rfl rfl rfl (H.sel _ (.refl _) _ (fun _ h=>List.mem_cons_of_mem _ (List.mem_cons_of_mem _ (h)))) ?_
             refine gF 10 rfl rfl (H.sel _ (.refl _) _ (fun _ h=>List.mem_cons_of_mem _ (List.mem_cons_of_mem _ (h)))) ?_
             refine rgl 12 158 (H.sel _ (.refl _) _ (fun _ h=>List.mem_cons_of_mem _ (List.mem_cons_of_mem _ (h)))) ?_
             refine rgl 13 158 (H.sel _ (.refl _) _ (fun _ h=>List.mem_cons_of_mem _ (List.mem_cons_of_mem _ (h)))) ?_
             refine gF 14 rfl rfl (H.sel _ (.refl _) _ (fun _ h=>List.mem_cons_of_mem _ (List.mem_cons_of_mem _ (h)))) ?_
             refine gL 15 rfl rfl (fun _ h=>h.xW 1 rfl 0 rfl) (H.sel _ (.refl _) _ (fun _ h=>List.mem_cons_of_mem _ (List.mem_cons_of_mem _ (h)))) ?_
             refine jb [11] qh qm (XI rfl (e:=158) rfl rfl (zK (yI ((r.xw[k - 1]!).qR)) isAgg2 rfl (H.xW 1 rfl 0 rfl) (⟨H.dF 2,(rgl 16 158 (H.sel _ (.refl _) _ (fun _ h=>List.mem_cons_of_mem _ (List.mem_cons_of_mem _ (h)))) ?_)⟩)) jd)
             refine rtl 17 (H.sel _ (.refl _) _ (fun _ h=>List.mem_cons_of_mem _ (List.mem_cons_of_mem _ (h)))) ?_
             refine xA qh (t_n (cD rfl (fun h50=>?_) (fun h50=>?_)))
             ·refine zcr (sp (Bv false) (zjr (zr5 (rH1 (Bv false) H ?_))))
              rw [xh (fun h=>by obtain ⟨h1,h2,h3,h4,h5,h6,h7,h8,h9,h10,h11⟩:=h;first | contradiction | omega | exact h3 ⟨‹_›,‹_›⟩ | (obtain ⟨q1,q2,q3,q4,q5⟩:=h11 k qf;first | contradiction | omega | (have:=q5 qf;omega)))]
             refine qU (b_n (t_n (xK (sp (yI k) (sw (zi k 1 rfl rfl qf (sq 1 (xP (qW (m' :=r.xw.length - (k+1)) qf ⟨_,k+1,uE3,?_,?_,rfl,H.sel _ (.refl _) _ qm⟩)))))))))
             ·omega
             ·exact i1.succ ⟨‹_›,‹_›,‹_›,‹_›,fun hk=>by omega⟩
            replace h43:=xm h43
            replace h43:=zX h43
            refine zS (zR 35 6) 6 (H) (rtp 41 (Bv true) H ?_)
            refine xA qh (t_n (cTr rfl (zcr (sp (Bv false) (zjr (t_r (zr5 (rH1 (Bv false) H ?_))))))))
            rw [xh (fun h=>by obtain ⟨h1,h2,h3,h4,h5,h6,h7,h8,h9,h10,h11⟩:=h;first | contradiction | omega | exact h3 ⟨‹_›,‹_›⟩ | (obtain ⟨q1,q2,q3,q4,q5⟩:=h11 k qf;first | contradiction | omega | (have:=q5 qf;omega)))]
           replace h40:=xm h40
           replace h40:=zX h40
           refine zS (zR 26 7) 7 (H) (rtp 33 (Bv true) H ?_)
           refine rtp 34 (Bv true) H ?_
           refine zS (zR 35 6) 6 (H) (rtp 41 (Bv true) H ?_)
           refine xA qh (t_n (cTr rfl (zcr (sp (Bv false) (zjr (t_r (zr5 (rH1 (Bv false) H ?_))))))))
           rw [xh (fun h=>by obtain ⟨h1,h2,h3,h4,h5,h6,h7,h8,h9,h10,h11⟩:=h;first | contradiction | omega | exact h3 ⟨‹_›,‹_›⟩ | (obtain ⟨q1,q2,q3,q4,q5⟩:=h11 k qf;first | contradiction | omega | (have:=q5 qf;omega)))]
          replace h37:=xm h37
          replace h37:=yu h37
          refine zS (zR 13 11) 11 (H) (rtp 24 (Bv true) H ?_)
          refine rtp 25 (Bv true) H ?_
          refine zS (zR 26 7) 7 (H) (rtp 33 (Bv true) H ?_)
          refine rtp 34 (Bv true) H ?_
          refine zS (zR 35 6) 6 (H) (rtp 41 (Bv true) H ?_)
          refine xA qh (t_n (cTr rfl (zcr (sp (Bv false) (zjr (t_r (zr5 (rH1 (Bv false) H ?_))))))))
          rw [xh (fun h=>by obtain ⟨h1,h2,h3,h4,h5,h6,h7,h8,h9,h10,h11⟩:=h;first | contradiction | omega | exact h3 ⟨‹_›,‹_›⟩ | (obtain ⟨q1,q2,q3,q4,q5⟩:=h11 k qf;first | contradiction | omega | (have:=q5 qf;omega)))]
         refine zx4 (zcr (sp (Bv true) (zjr (rH1 (Bv true) H ?_))))
         obtain rfl:k=r.xw.length:=by omega
         rw [jS ⟨by assumption,by omega,by simp_all,by omega,by assumption,by assumption,by assumption,by assumption,by assumption,by assumption,i1⟩]
        replace h24:=xm h24
        replace h24:=zX h24
        refine xR (zR 92 6) (sp (Bv true) (zjn (cTr rfl (zcr (sp (Bv false) (zjr (t_r (rH1 (Bv false) H ?_))))))))
        rw [xh (fun h=>by obtain ⟨h1,h2,h3,h4,h5,h6,h7,h8,h9,h10,h11⟩:=h;first | contradiction | omega | exact h3 ⟨‹_›,‹_›⟩ | (obtain ⟨q1,q2,q3,q4,q5⟩:=h11 k qf;first | contradiction | omega | (have:=q5 qf;omega)))]
       replace h21:=xm h21
       replace h21:=zX h21
       refine xR (zR 83 7) (sp (Bv true) (sp (Bv true) (xR (zR 92 6) (sp (Bv true) (zjn (cTr rfl (zcr (sp (Bv false) (zjr (t_r (rH1 (Bv false) H ?_)))))))))))
       rw [xh (fun h=>by obtain ⟨h1,h2,h3,h4,h5,h6,h7,h8,h9,h10,h11⟩:=h;first | contradiction | omega | exact h3 ⟨‹_›,‹_›⟩ | (obtain ⟨q1,q2,q3,q4,q5⟩:=h11 k qf;first | contradiction | omega | (have:=q5 qf;omega)))]
      replace h18:=xm h18
      replace h18:=zX h18
      refine xR (zR 74 7) (sp (Bv true) (sp (Bv true) (xR (zR 83 7) (sp (Bv true) (sp (Bv true) (xR (zR 92 6) (sp (Bv true) (zjn (cTr rfl (zcr (sp (Bv false) (zjr (t_r (rH1 (Bv false) H ?_))))))))))))))
      rw [xh (fun h=>by obtain ⟨h1,h2,h3,h4,h5,h6,h7,h8,h9,h10,h11⟩:=h;first | contradiction | omega | exact h3 ⟨‹_›,‹_›⟩ | (obtain ⟨q1,q2,q3,q4,q5⟩:=h11 k qf;first | contradiction | omega | (have:=q5 qf;omega)))]
     replace h15:=xm h15
     replace h15:=zX h15
     refine xR (zR 65 7) (sp (Bv true) (sp (Bv true) (xR (zR 74 7) (sp (Bv true) (sp (Bv true) (xR (zR 83 7) (sp (Bv true) (sp (Bv true) (xR (zR 92 6) (sp (Bv true) (zjn (cTr rfl (zcr (sp (Bv false) (zjr (t_r (rH1 (Bv false) H ?_)))))))))))))))))
     rw [xh (fun h=>by obtain ⟨h1,h2,h3,h4,h5,h6,h7,h8,h9,h10,h11⟩:=h;first | contradiction | omega | exact h3 ⟨‹_›,‹_›⟩ | (obtain ⟨q1,q2,q3,q4,q5⟩:=h11 k qf;first | contradiction | omega | (have:=q5 qf;omega)))]
    replace h12:=xm h12
    replace h12:=zX h12
    refine xR (zR 56 7) (sp (Bv true) (sp (Bv true) (xR (zR 65 7) (sp (Bv true) (sp (Bv true) (xR (zR 74 7) (sp (Bv true) (sp (Bv true) (xR (zR 83 7) (sp (Bv true) (sp (Bv true) (xR (zR 92 6) (sp (Bv true) (zjn (cTr rfl (zcr (sp (Bv false) (zjr (t_r (rH1 (Bv false) H ?_))))))))))))))))))))
    rw [xh (fun h=>by obtain ⟨h1,h2,h3,h4,h5,h6,h7,h8,h9,h10,h11⟩:=h;first | contradiction | omega | exact h3 ⟨‹_›,‹_›⟩ | (obtain ⟨q1,q2,q3,q4,q5⟩:=h11 k qf;first | contradiction | omega | (have:=q5 qf;omega)))]
   rw [h8] at H
   refine rgl 26 32 H ?_
   refine rgl 27 32 H ?_
   refine gF 28 rfl rfl H ?_
   refine gL 29 rfl rfl (fun _ h=>h.xW 3 rfl 0 rfl) H ?_
   refine rgp 30 (Bv ((r.qR:Int) == 0)) 32 H ?_
   refine rgp 31 (Bv ((r.qR:Int) == 0)) 27 H ?_
   refine rtp 32 (Bv ((r.qR:Int) == 0)) H ?_
   refine rtp 33 (Bv ((r.qR:Int) == 0)) H ?_
   cases h51:((r.qR:Int) == 0)
   ·replace h51:=ne_of_beq_false h51
    refine rgl 34 40 H ?_
    refine rgl 35 40 H ?_
    refine gF 36 rfl rfl H ?_
    refine gL 37 rfl rfl (fun _ h=>h.xW 3 rfl 7 rfl) H ?_
    refine gN 38 rfl rfl H ?_
    refine rgp 39 (Bv (decide ((r.xw.length:Int) > 3))) 40 H ?_
    refine rtp 40 (Bv (decide ((r.xw.length:Int) > 3))) H ?_
    refine xA qh (t_n (cD rfl (fun h52=>?_) (fun h52=>?_)))
    ·refine zcr (sp (Bv false) (zjr (t_r (rH1 (Bv false) H ?_))))
     rw [xh (fun h=>by obtain ⟨h1,h2,h3,h4,h5,h6,h7,h8,h9,h10,h11⟩:=h;first | contradiction | omega | exact h3 ⟨‹_›,‹_›⟩ | (obtain ⟨q1,q2,q3,q4,q5⟩:=h11 k qf;first | contradiction | omega | (have:=q5 qf;omega)))]
    refine qU (t_n (zcc (sq 3 (oF rfl (oL rfl (H.xW 3 rfl 2 rfl) (sw (oq (QM _ s r.vF (qF (H.get 0 rfl) 0 3) (H.get 1 rfl).1 (H.get 2 rfl).1 (H.get 4 rfl).1) H fun w53 H=>sp (Bv (!(dec (vk s.xO r.vF)))) (sp (Bv (!(dec (vk s.xO r.vF)))) ?_))))))))
    cases h55:(!(dec (vk s.xO r.vF)))
    ·replace h55:=qY h55
     replace h55:=yU h55
     refine qJ 55 rfl rfl (sq 1 (qJ 55 rfl rfl (sq 1 (qJ 55 rfl rfl (sq 1 (qJ 55 rfl rfl (oF rfl (qJ 55 rfl rfl (oL rfl (H.xW 3 rfl 3 rfl) (qJ 55 rfl rfl (sw (oq (QM _ s r.vJ (qF (H.get 0 rfl) 0 3) (H.get 1 rfl).1 (H.get 2 rfl).1 (H.get 5 rfl).1) H fun w56 H=>qJ 55 rfl rfl (sp (Bv (!(dec (vk s.xO r.vJ)))) (sp (Bv (!(dec (vk s.xO r.vJ)))) (sp (Bv (!(dec (vk s.xO r.vJ)))) ?_)))))))))))))))
     cases h58:(!(dec (vk s.xO r.vJ)))
     ·replace h58:=qY h58
      replace h58:=yU h58
      refine qJ 64 rfl rfl (sq 1 (qJ 64 rfl rfl (sq 1 (qJ 64 rfl rfl (sq 1 (qJ 64 rfl rfl (oF rfl (qJ 64 rfl rfl (oL rfl (H.xW 3 rfl 4 rfl) (qJ 64 rfl rfl (sw (oq (QM _ s r.vY (qF (H.get 0 rfl) 0 3) (H.get 1 rfl).1 (H.get 2 rfl).1 (H.get 6 rfl).1) H fun w59 H=>qJ 64 rfl rfl (sp (Bv (!(dec (vk s.xO r.vY)))) (sp (Bv (!(dec (vk s.xO r.vY)))) (sp (Bv (!(dec (vk s.xO r.vY)))) ?_)))))))))))))))
      cases h61:(!(dec (vk s.xO r.vY)))
      ·replace h61:=qY h61
       replace h61:=yU h61
       refine qJ 73 rfl rfl (sq 1 (qJ 73 rfl rfl (sq 1 (qJ 73 rfl rfl (sq 1 (qJ 73 rfl rfl (oF rfl (qJ 73 rfl rfl (oL rfl (H.xW 3 rfl 5 rfl) (qJ 73 rfl rfl (sw (oq (QM _ s r.vw (qF (H.get 0 rfl) 0 3) (H.get 1 rfl).1 (H.get 2 rfl).1 (H.get 7 rfl).1) H fun w62 H=>qJ 73 rfl rfl (sp (Bv (!(dec (vk s.xO r.vw)))) (sp (Bv (!(dec (vk s.xO r.vw)))) (sp (Bv (!(dec (vk s.xO r.vw)))) ?_)))))))))))))))
       cases h64:(!(dec (vk s.xO r.vw)))
       ·replace h64:=qY h64
        replace h64:=yU h64
        refine qJ 82 rfl rfl (sq 1 (qJ 82 rfl rfl (sq 1 (qJ 82 rfl rfl (sq 1 (qJ 82 rfl rfl (oF rfl (qJ 82 rfl rfl (oL rfl (H.xW 3 rfl 6 rfl) (qJ 82 rfl rfl (sw (oq (QM _ s r.QI (qF (H.get 0 rfl) 0 3) (H.get 1 rfl).1 (H.get 2 rfl).1 (H.get 8 rfl).1) H fun w65 H=>qJ 82 rfl rfl (sp (Bv (!(dec (vk s.xO r.QI)))) (sp (Bv (!(dec (vk s.xO r.QI)))) (sp (Bv (!(dec (vk s.xO r.QI)))) ?_)))))))))))))))
        cases h67:(!(dec (vk s.xO r.QI)))
        ·replace h67:=qY h67
         replace h67:=yU h67
         refine qJ 91 rfl rfl (sq 1 (qJ 91 rfl rfl (sq 1 (qJ 91 rfl rfl (oF rfl (qJ 91 rfl rfl (oL rfl (H.xW 3 rfl 2 rfl) (qJ 91 rfl rfl (sw (oq (X4 _ r.vF (H.get 4 rfl).1 (by first | assumption | exact vP ql | exact yX ql)) H fun w68 H=>qJ 91 rfl rfl (sp (Bv ((Xh r.vF:Int) == 0)) (sp (Bv ((Xh r.vF:Int) == 0)) (zjn (cE rfl (fun h70=>?_) (fun h70=>?_)))))))))))))))
         ·refine zcr (sp (Bv false) (zjr (t_r (rH1 (Bv false) H ?_))))
          rw [xh (fun h=>by obtain ⟨h1,h2,h3,h4,h5,h6,h7,h8,h9,h10,h11⟩:=h;first | contradiction | omega | exact h3 ⟨‹_›,‹_›⟩ | (obtain ⟨q1,q2,q3,q4,q5⟩:=h11 k qf;first | contradiction | omega | (have:=q5 qf;omega)))]
         refine qU (t_n (zcc (sp (yI 0) (zjn (qV ?_)))))
         refine zA ((fun Z0 Z1 Z2 Z3 Z4 Z5 Z6 Z7 Z8 Z9=>fun m' ρ w71=>∃ (xQ:Env) (k:Nat),ρ=upd (upd (upd xQ 0 (pp bs os)) 1 (pp br or)) 5 (yI k)/\(k<=r.xw.length)/\(IntosTo s r k)/\m' =r.xw.length - k/\St w w71 [] [Z0,Z1,Z2,Z3,Z4,Z5,Z6,Z7,Z8,Z9]) _ _ _ _ _ _ _ _ _ _) (r.xw.length - 0) ⟨_,0,uE3,qf,qx,rfl,H⟩ ?_
         clear H
         rintro m' ρ w72 ⟨xQ,k,rfl,i0,i1,rfl,H⟩
         refine zcc (sp (yI k) (sq 2 (oF rfl (oL rfl (H.xW 3 rfl 7 rfl) (oN rfl (sq 1 (zjn (cD rfl (fun h73=>?_) (fun h73=>?_)))))))))
         ·refine qU (t_n (xU (qV (zcr (sq 2 (oF rfl (oL rfl (H.xW 3 rfl 7 rfl) (sp (yI k) ?_))))))))
          obtain ⟨b74,o75,rfl⟩:=H.addr 9 rfl qf
          obtain ⟨ae76Bag,ce76Bag,Fe76Bag,H⟩:=H.yY 9 rfl k k qf qf qf
          refine oI rfl rfl (sq 1 (zjn (xU (xU ?_))))
          refine jw rfl H fun H=>rtl 0 H ?_
          refine rtl 1 H ?_
          refine tF 2 rfl rfl H ?_
          refine tL 3 rfl rfl (fun _ h=>h.xW 1 rfl 0 rfl) H ?_
          refine rtl 4 H ?_
          refine rtl 5 H ?_
          refine tF 6 rfl rfl H ?_
          refine tL 7 rfl rfl (fun _ h=>h.xW 2 rfl 1 rfl) H ?_
          refine tN 8 rfl rfl H ?_
          refine rt 9 _ (y_sub s.qC.length 1 rfl rfl qf) H ?_
          refine ro 10 rfl (oq (QN w72.drew ((r.xw[k]!).qR) 0 (s.qC.length - 1)) H fun w78 H=>⟨H,(rtp 11 (Bv (!(inR ((r.xw[k]!).qR) 0 (s.qC.length - 1)))) H ?_)⟩)
          refine rtp 12 (Bv (!(inR ((r.xw[k]!).qR) 0 (s.qC.length - 1)))) H ?_
          cases h80:(!(inR ((r.xw[k]!).qR) 0 (s.qC.length - 1)))
          ·replace h80:=qY h80
           replace h80:=jL.1 h80
           refine rgl 13 126 H ?_
           refine rgl 14 126 H ?_
           refine rgl 15 126 H ?_
           refine gF 16 rfl rfl H ?_
           refine gL 17 rfl rfl (fun _ h=>h.xW 1 rfl 0 rfl) H ?_
           refine rgl 18 126 H ?_
           refine rgl 19 126 H ?_
           refine gF 20 rfl rfl H ?_
           refine gL 21 rfl rfl (fun _ h=>h.xW 5 rfl 0 rfl) H ?_
           refine jb [22] qh qm (XI rfl (e:=126) rfl rfl (oq (l02In_ok _ s ((r.xw[k]!).qR) r.qR (qF (H.get 2 rfl) 0 3) (H.get 3 rfl).1 (H.get 4 rfl).1 ql ql) H fun w81 H=>⟨H,(rgp 23 (Bv (!(dec (Lies s.qC r.qR ((r.xw[k]!).qR))))) 126 H ?_)⟩) jd)
           refine rtp 24 (Bv (!(dec (Lies s.qC r.qR ((r.xw[k]!).qR))))) H ?_
           refine rtp 25 (Bv (!(dec (Lies s.qC r.qR ((r.xw[k]!).qR))))) H ?_
           cases h83:(!(dec (Lies s.qC r.qR ((r.xw[k]!).qR))))
           ·replace h83:=qY h83
            replace h83:=yU h83
            refine rgl 26 139 H ?_
            refine rgl 27 139 H ?_
            refine rgl 28 139 H ?_
            refine gF 29 rfl rfl H ?_
            refine gL 30 rfl rfl (fun _ h=>h.xW 1 rfl 1 rfl) H ?_
            refine jb [31] qh qm (XI rfl (e:=139) rfl rfl (oq (QM _ s ((r.xw[k]!).QP) (qF (H.get 2 rfl) 0 3) (H.get 3 rfl).1 (H.get 4 rfl).1 (H.get 0 rfl).1) H fun w84 H=>⟨H,(rgp 32 (Bv (!(dec (vk s.xO ((r.xw[k]!).QP))))) 139 H ?_)⟩) jd)
            refine rtp 33 (Bv (!(dec (vk s.xO ((r.xw[k]!).QP))))) H ?_
            refine rtp 34 (Bv (!(dec (vk s.xO ((r.xw[k]!).QP))))) H ?_
            cases h86:(!(dec (vk s.xO ((r.xw[k]!).QP))))
            ·replace h86:=qY h86
             replace h86:=yU h86
             refine rgl 35 148 H ?_
             refine rgl 36 148 H ?_
             refine gF 37 rfl rfl H ?_
             refine gL 38 rfl rfl (fun _ h=>h.xW 1 rfl 1 rfl) H ?_
             refine jb [39] qh qm (XI rfl (e:=148) rfl rfl (oq (X4 _ ((r.xw[k]!).QP) (H.get 0 rfl).1 (by first | assumption | exact vP ql | exact yX ql)) H fun w87 H=>⟨H,(rgp 40 (Bv ((Xh ((r.xw[k]!).QP):Int) == 0)) 148 H ?_)⟩) jd)
             refine rtp 41 (Bv ((Xh ((r.xw[k]!).QP):Int) == 0)) H ?_
             refine xA qh (t_n (cE rfl (fun h89=>?_) (fun h89=>?_)))
             ·refine zcr (sp (Bv false) (zjr (t_r (zr5 (rH1 (Bv false) H ?_)))))
              rw [xh (fun h=>by obtain ⟨h1,h2,h3,h4,h5,h6,h7,h8,h9,h10,h11⟩:=h;first | contradiction | omega | exact h3 ⟨‹_›,‹_›⟩ | (obtain ⟨q1,q2,q3,q4,q5⟩:=h11 k qf;first | contradiction | omega | (have:=q5 qf;omega)))]
             refine qU (t_n (xU ?_))
             refine jw rfl H fun H=>rtp 0 (yI k) H ?_
             refine rtp 1 (Bv (decide ((k:Int) > 0))) H ?_
             refine rtp 2 (Bv (decide ((k:Int) > 0))) H ?_
             cases h91:(decide ((k:Int) > 0))
             ·replace h91:=of_decide_eq_false h91
              refine zS (zR 3 14) 14 (H) (rtp 17 (Bv false) H ?_)
              refine xA qh (t_n (cFr rfl (qU (b_n (t_n (xK (sp (yI k) (sw (zi k 1 rfl rfl qf (sq 1 (xP (qW (m' :=r.xw.length - (k+1)) qf ⟨_,k+1,uE3,?_,?_,rfl,H.sel _ (.refl _) _ qm⟩))))))))))))
              ·omega
              ·exact i1.succ ⟨‹_›,‹_›,‹_›,‹_›,fun hk=>by omega⟩
             replace h91:=of_decide_eq_true h91
             refine rgl 3 158 H ?_
             refine rgl 4 158 H ?_
             refine gF 5 rfl rfl H ?_
             refine gL 6 rfl rfl (fun _ h=>h.xW 5 rfl 7 rfl) H ?_
             refine rgp 7 (yI k) 158 H ?_
             refine rg 8 _ 158 (y_sub k 1 rfl rfl qf) H ?_
             obtain ⟨ae92Bag,ce92Bag,Fe92Bag,H⟩:=H.yY 11 rfl (k - 1) (k - 1) qf qf qf
             refine gI 9 rfl rfl rfl (H.sel _ (.refl _) _ (fun _ h=>List.mem_cons_of_mem _ (List.mem_cons_of_mem _ (h)))) ?_
             refine gF 10 rfl rfl (H.sel _ (.refl _) _ (fun _ h=>List.mem_cons_of_mem _ (List.mem_cons_of_mem _ (h)))) ?_
             refine rgl 12 158 (H.sel _ (.refl _) _ (fun _ h=>List.mem_cons_of_mem _ (List.mem_cons_of_mem _ (h)))) ?_
             refine rgl 13 158 (H.sel _ (.refl _) _ (fun _ h=>List.mem_cons_of_mem _ (List.mem_cons_of_mem _ (h)))) ?_
             refine gF 14 rfl rfl (H.sel _ (.refl _) _ (fun _ h=>List.mem_cons_of_mem _ (List.mem_cons_of_mem _ (h)))) ?_
             refine gL 15 rfl rfl (fun _ h=>h.xW 1 rfl 0 rfl) (H.sel _ (.refl _) _ (fun _ h=>List.mem_cons_of_mem _ (List.mem_cons_of_mem _ (h)))) ?_
             refine jb [11] qh qm (XI rfl (e:=158) rfl rfl (zK (yI ((r.xw[k - 1]!).qR)) isAgg2 rfl (H.xW 1 rfl 0 rfl) (⟨H.dF 2,(rgl 16 158 (H.sel _ (.refl _) _ (fun _ h=>List.mem_cons_of_mem _ (List.mem_cons_of_mem _ (h)))) ?_)⟩)) jd)
             refine rtl 17 (H.sel _ (.refl _) _ (fun _ h=>List.mem_cons_of_mem _ (List.mem_cons_of_mem _ (h)))) ?_
             refine xA qh (t_n (cD rfl (fun h93=>?_) (fun h93=>?_)))
             ·refine zcr (sp (Bv false) (zjr (zr5 (rH1 (Bv false) H ?_))))
              rw [xh (fun h=>by obtain ⟨h1,h2,h3,h4,h5,h6,h7,h8,h9,h10,h11⟩:=h;first | contradiction | omega | exact h3 ⟨‹_›,‹_›⟩ | (obtain ⟨q1,q2,q3,q4,q5⟩:=h11 k qf;first | contradiction | omega | (have:=q5 qf;omega)))]
             refine qU (b_n (t_n (xK (sp (yI k) (sw (zi k 1 rfl rfl qf (sq 1 (xP (qW (m' :=r.xw.length - (k+1)) qf ⟨_,k+1,uE3,?_,?_,rfl,H.sel _ (.refl _) _ qm⟩)))))))))
             ·omega
             ·exact i1.succ ⟨‹_›,‹_›,‹_›,‹_›,fun hk=>by omega⟩
            replace h86:=xm h86
            replace h86:=zX h86
            refine zS (zR 35 6) 6 (H) (rtp 41 (Bv true) H ?_)
            refine xA qh (t_n (cTr rfl (zcr (sp (Bv false) (zjr (t_r (zr5 (rH1 (Bv false) H ?_))))))))
            rw [xh (fun h=>by obtain ⟨h1,h2,h3,h4,h5,h6,h7,h8,h9,h10,h11⟩:=h;first | contradiction | omega | exact h3 ⟨‹_›,‹_›⟩ | (obtain ⟨q1,q2,q3,q4,q5⟩:=h11 k qf;first | contradiction | omega | (have:=q5 qf;omega)))]
           replace h83:=xm h83
           replace h83:=zX h83
           refine zS (zR 26 7) 7 (H) (rtp 33 (Bv true) H ?_)
           refine rtp 34 (Bv true) H ?_
           refine zS (zR 35 6) 6 (H) (rtp 41 (Bv true) H ?_)
           refine xA qh (t_n (cTr rfl (zcr (sp (Bv false) (zjr (t_r (zr5 (rH1 (Bv false) H ?_))))))))
           rw [xh (fun h=>by obtain ⟨h1,h2,h3,h4,h5,h6,h7,h8,h9,h10,h11⟩:=h;first | contradiction | omega | exact h3 ⟨‹_›,‹_›⟩ | (obtain ⟨q1,q2,q3,q4,q5⟩:=h11 k qf;first | contradiction | omega | (have:=q5 qf;omega)))]
          replace h80:=xm h80
          replace h80:=yu h80
          refine zS (zR 13 11) 11 (H) (rtp 24 (Bv true) H ?_)
          refine rtp 25 (Bv true) H ?_
          refine zS (zR 26 7) 7 (H) (rtp 33 (Bv true) H ?_)
          refine rtp 34 (Bv true) H ?_
          refine zS (zR 35 6) 6 (H) (rtp 41 (Bv true) H ?_)
          refine xA qh (t_n (cTr rfl (zcr (sp (Bv false) (zjr (t_r (zr5 (rH1 (Bv false) H ?_))))))))
          rw [xh (fun h=>by obtain ⟨h1,h2,h3,h4,h5,h6,h7,h8,h9,h10,h11⟩:=h;first | contradiction | omega | exact h3 ⟨‹_›,‹_›⟩ | (obtain ⟨q1,q2,q3,q4,q5⟩:=h11 k qf;first | contradiction | omega | (have:=q5 qf;omega)))]
         refine zx4 (zcr (sp (Bv true) (zjr (rH1 (Bv true) H ?_))))
         obtain rfl:k=r.xw.length:=by omega
         rw [jS ⟨by assumption,by omega,by simp_all,by omega,by assumption,by assumption,by assumption,by assumption,by assumption,by assumption,i1⟩]
        replace h67:=xm h67
        replace h67:=zX h67
        refine xR (zR 92 6) (sp (Bv true) (zjn (cTr rfl (zcr (sp (Bv false) (zjr (t_r (rH1 (Bv false) H ?_))))))))
        rw [xh (fun h=>by obtain ⟨h1,h2,h3,h4,h5,h6,h7,h8,h9,h10,h11⟩:=h;first | contradiction | omega | exact h3 ⟨‹_›,‹_›⟩ | (obtain ⟨q1,q2,q3,q4,q5⟩:=h11 k qf;first | contradiction | omega | (have:=q5 qf;omega)))]
       replace h64:=xm h64
       replace h64:=zX h64
       refine xR (zR 83 7) (sp (Bv true) (sp (Bv true) (xR (zR 92 6) (sp (Bv true) (zjn (cTr rfl (zcr (sp (Bv false) (zjr (t_r (rH1 (Bv false) H ?_)))))))))))
       rw [xh (fun h=>by obtain ⟨h1,h2,h3,h4,h5,h6,h7,h8,h9,h10,h11⟩:=h;first | contradiction | omega | exact h3 ⟨‹_›,‹_›⟩ | (obtain ⟨q1,q2,q3,q4,q5⟩:=h11 k qf;first | contradiction | omega | (have:=q5 qf;omega)))]
      replace h61:=xm h61
      replace h61:=zX h61
      refine xR (zR 74 7) (sp (Bv true) (sp (Bv true) (xR (zR 83 7) (sp (Bv true) (sp (Bv true) (xR (zR 92 6) (sp (Bv true) (zjn (cTr rfl (zcr (sp (Bv false) (zjr (t_r (rH1 (Bv false) H ?_))))))))))))))
      rw [xh (fun h=>by obtain ⟨h1,h2,h3,h4,h5,h6,h7,h8,h9,h10,h11⟩:=h;first | contradiction | omega | exact h3 ⟨‹_›,‹_›⟩ | (obtain ⟨q1,q2,q3,q4,q5⟩:=h11 k qf;first | contradiction | omega | (have:=q5 qf;omega)))]
     replace h58:=xm h58
     replace h58:=zX h58
     refine xR (zR 65 7) (sp (Bv true) (sp (Bv true) (xR (zR 74 7) (sp (Bv true) (sp (Bv true) (xR (zR 83 7) (sp (Bv true) (sp (Bv true) (xR (zR 92 6) (sp (Bv true) (zjn (cTr rfl (zcr (sp (Bv false) (zjr (t_r (rH1 (Bv false) H ?_)))))))))))))))))
     rw [xh (fun h=>by obtain ⟨h1,h2,h3,h4,h5,h6,h7,h8,h9,h10,h11⟩:=h;first | contradiction | omega | exact h3 ⟨‹_›,‹_›⟩ | (obtain ⟨q1,q2,q3,q4,q5⟩:=h11 k qf;first | contradiction | omega | (have:=q5 qf;omega)))]
    replace h55:=xm h55
    replace h55:=zX h55
    refine xR (zR 56 7) (sp (Bv true) (sp (Bv true) (xR (zR 65 7) (sp (Bv true) (sp (Bv true) (xR (zR 74 7) (sp (Bv true) (sp (Bv true) (xR (zR 83 7) (sp (Bv true) (sp (Bv true) (xR (zR 92 6) (sp (Bv true) (zjn (cTr rfl (zcr (sp (Bv false) (zjr (t_r (rH1 (Bv false) H ?_))))))))))))))))))))
    rw [xh (fun h=>by obtain ⟨h1,h2,h3,h4,h5,h6,h7,h8,h9,h10,h11⟩:=h;first | contradiction | omega | exact h3 ⟨‹_›,‹_›⟩ | (obtain ⟨q1,q2,q3,q4,q5⟩:=h11 k qf;first | contradiction | omega | (have:=q5 qf;omega)))]
   replace h51:=eq_of_beq h51
   refine zS (zR 34 6) 6 (H) (rtp 40 (Bv true) H ?_)
   refine xA qh (t_n (cTr rfl (zcr (sp (Bv false) (zjr (t_r (rH1 (Bv false) H ?_)))))))
   rw [xh (fun h=>by obtain ⟨h1,h2,h3,h4,h5,h6,h7,h8,h9,h10,h11⟩:=h;first | contradiction | omega | exact h3 ⟨‹_›,‹_›⟩ | (obtain ⟨q1,q2,q3,q4,q5⟩:=h11 k qf;first | contradiction | omega | (have:=q5 qf;omega)))]
  replace h7:=xm h7
  replace h7:=yu h7
  refine zS (zR 21 11) 11 (H) (rtp 32 (Bv true) H ?_)
  refine rtp 33 (Bv true) H ?_
  refine zS (zR 34 6) 6 (H) (rtp 40 (Bv true) H ?_)
  refine xA qh (t_n (cTr rfl (zcr (sp (Bv false) (zjr (t_r (rH1 (Bv false) H ?_)))))))
  rw [xh (fun h=>by obtain ⟨h1,h2,h3,h4,h5,h6,h7,h8,h9,h10,h11⟩:=h;first | contradiction | omega | exact h3 ⟨‹_›,‹_›⟩ | (obtain ⟨q1,q2,q3,q4,q5⟩:=h11 k qf;first | contradiction | omega | (have:=q5 qf;omega)))]
 replace h4:=xm h4
 replace h4:=yu h4
 refine zS (zR 13 6) 6 (H) (rtp 19 (Bv true) H ?_)
 refine rtp 20 (Bv true) H ?_
 refine zS (zR 21 11) 11 (H) (rtp 32 (Bv true) H ?_)
 refine rtp 33 (Bv true) H ?_
 refine zS (zR 34 6) 6 (H) (rtp 40 (Bv true) H ?_)
 refine xA qh (t_n (cTr rfl (zcr (sp (Bv false) (zjr (t_r (rH1 (Bv false) H ?_)))))))
 rw [xh (fun h=>by obtain ⟨h1,h2,h3,h4,h5,h6,h7,h8,h9,h10,h11⟩:=h;first | contradiction | omega | exact h3 ⟨‹_›,‹_›⟩ | (obtain ⟨q1,q2,q3,q4,q5⟩:=h11 k qf;first | contradiction | omega | (have:=q5 qf;omega)))]
theorem l02State_ok (w:World) (s:qG) (t:qH) (hs:vg w bs os (yS s qM qL xg qX)) (xf:zP w xF qM qL s.qC) (xE:zP w zu xg qX s.qE) (ht:vg w bt ot (yT t xq xn xX xM xe qZ)) (zk:zP w zQ xq xn t.qI) (zO:zP w vK xX xM t.qP) (xJ:zP w zo xe qZ t.qN) (p0:yD s):Calls Tryz.prog 190 #[pp bs os,pp bt ot] w (Ret (fun v w' =>v=Bv (dec (zV s t))) w):=by
 refine en func190 ntmps190 ?_
 have H:=(((((((St.start w).arg xJ).arg zO).arg zk).Q7 ht).arg xE).arg xf).Q7 hs
 have vH:=qO xf
 have jD:=qO xE
 have yL:=qO zk
 have Qv:=qO zO
 have jQ:=qO xJ
 clear hs xf xE ht zk zO xJ
 have p1:=p0.2.1
 refine zcr (sp (Bv false) (zjn (xU (xU ?_))))
 refine jw rfl H fun H=>rtl 0 H ?_
 refine rtl 1 H ?_
 refine tF 2 rfl rfl H ?_
 refine tL 3 rfl rfl (fun _ h=>h.xW 3 rfl 0 rfl) H ?_
 refine tN 4 rfl rfl H ?_
 refine rtl 5 H ?_
 refine rtl 6 H ?_
 refine tF 7 rfl rfl H ?_
 refine tL 8 rfl rfl (fun _ h=>h.xW 0 rfl 1 rfl) H ?_
 refine tN 9 rfl rfl H ?_
 refine rtp 10 (Bv ((t.qI.length:Int) != s.qC.length)) H ?_
 refine rtp 11 (Bv ((t.qI.length:Int) != s.qC.length)) H ?_
 cases h2:((t.qI.length:Int) != s.qC.length)
 ·replace h2:=xu h2
  refine rgl 12 17 H ?_
  refine rgl 13 17 H ?_
  refine gF 14 rfl rfl H ?_
  refine gL 15 rfl rfl (fun _ h=>h.xW 3 rfl 1 rfl) H ?_
  refine gN 16 rfl rfl H ?_
  refine rgl 17 17 H ?_
  refine rgl 18 17 H ?_
  refine gF 19 rfl rfl H ?_
  refine gL 20 rfl rfl (fun _ h=>h.xW 0 rfl 1 rfl) H ?_
  refine gN 21 rfl rfl H ?_
  refine rgp 22 (Bv ((t.qP.length:Int) != s.qC.length)) 17 H ?_
  refine rtp 23 (Bv ((t.qP.length:Int) != s.qC.length)) H ?_
  refine rtp 24 (Bv ((t.qP.length:Int) != s.qC.length)) H ?_
  cases h3:((t.qP.length:Int) != s.qC.length)
  ·replace h3:=xu h3
   refine rgl 25 30 H ?_
   refine rgl 26 30 H ?_
   refine gF 27 rfl rfl H ?_
   refine gL 28 rfl rfl (fun _ h=>h.xW 3 rfl 0 rfl) H ?_
   obtain ⟨b4,o5,rfl⟩:=H.addr 4 rfl qf
   refine gI 29 rfl rfl rfl H ?_
   refine gL 30 rfl rfl (fun _ h=>h.elemBoolN 4 rfl 0 qf) H ?_
   refine rgp 31 (Bv (!(t.qI[0]!))) 30 H ?_
   refine rtp 32 (Bv (!(t.qI[0]!))) H ?_
   refine rtp 33 (Bv (!(t.qI[0]!))) H ?_
   cases h6:(!(t.qI[0]!))
   ·replace h6:=qY h6
    refine rgl 34 39 H ?_
    refine rgl 35 39 H ?_
    refine rgl 36 39 H ?_
    refine gF 37 rfl rfl H ?_
    refine gL 38 rfl rfl (fun _ h=>h.xW 3 rfl 2 rfl) H ?_
    refine jb [39] qh qm (XI rfl (e:=39) rfl rfl (oq (QM _ s t.qN (qF (H.get 0 rfl) 0 3) (H.get 1 rfl).1 (H.get 2 rfl).1 (H.get 6 rfl).1) H fun w7 H=>⟨H,(rgl 40 39 H ?_)⟩) jd)
    refine rtl 41 H ?_
    refine xA qh (t_n (cQ rfl (fun h9=>?_) (fun h9=>?_)))
    ·refine zcr (sp (Bv false) (zjr (t_r (rH1 (Bv false) H ?_))))
     rw [xh (fun h=>by obtain ⟨h1,h2,h3,h4,h5⟩:=h;first | contradiction | omega | (simp_all;done) | (obtain ⟨q1,q2⟩:=h5 k qf;first | contradiction | (have:=q2 ql;omega)))]
    refine qU (t_n (zcc (sp (yI 0) (zjn (qV ?_)))))
    refine zA ((fun Z0 Z1 Z2 Z3 Z4 Z5 Z6=>fun m' ρ w10=>∃ (xQ:Env) (k:Nat),ρ=upd (upd (upd xQ 0 (pp bs os)) 1 (pp bt ot)) 5 (yI k)/\(k<=t.qP.length)/\(BagsTo s t k)/\m' =t.qP.length - k/\St w w10 [] [Z0,Z1,Z2,Z3,Z4,Z5,Z6]) _ _ _ _ _ _ _) (t.qP.length - 0) ⟨_,0,uE3,qf,qx,rfl,H⟩ ?_
    clear H
    rintro m' ρ w11 ⟨xQ,k,rfl,i0,i1,rfl,H⟩
    refine zcc (sp (yI k) (sq 2 (oF rfl (oL rfl (H.xW 3 rfl 1 rfl) (oN rfl (sq 1 (zjn (cD rfl (fun h12=>?_) (fun h12=>?_)))))))))
    ·refine qU (t_n (xU (qV (zcr (sq 3 (oF rfl (oL rfl (H.xW 3 rfl 1 rfl) (sp (yI k) ?_))))))))
     obtain ⟨b13,o14,rfl⟩:=H.addr 5 rfl qf
     obtain ⟨ae15,ce15,Fe15,H⟩:=H.ji 5 rfl k k qf qf qf
     refine oI rfl rfl (oL rfl (H.xW 1 rfl 0 rfl) (sw (oq (QM _ s (t.qP[k]!) (qF (H.get 2 rfl) 0 3) (H.get 3 rfl).1 (H.get 4 rfl).1 (H.get 0 rfl).1) H fun w16 H=>sp (Bv (!(dec (vk s.xO (t.qP[k]!))))) (sp (Bv (!(dec (vk s.xO (t.qP[k]!))))) ?_))))
     cases h18:(!(dec (vk s.xO (t.qP[k]!))))
     ·replace h18:=qY h18
      replace h18:=yU h18
      refine qJ 67 rfl rfl (sq 1 (qJ 67 rfl rfl (sq 1 (qJ 67 rfl rfl (oF rfl (qJ 67 rfl rfl (oL rfl (H.xW 5 rfl 0 rfl) (qJ 67 rfl rfl (sp (yI k) (qJ 67 rfl rfl (oI rfl rfl (qJ 67 rfl rfl (oL rfl (H.elemBoolN 6 rfl k qf) (qJ 67 rfl rfl (sp (Bv (!(t.qI[k]!))) (qJ 67 rfl rfl (sp (Bv (!(t.qI[k]!))) ?_)))))))))))))))))
      cases h19:(!(t.qI[k]!))
      ·replace h19:=qY h19
       refine xR (zR 77 9) (qJ 67 rfl rfl (sp (Bv false) (sp (Bv false) (zjn (cFr rfl (qU (b_n (t_n (xK (sp (yI k) (sw (zi k 1 rfl rfl qf (sq 1 (xP (qW (m' :=t.qP.length - (k+1)) qf ⟨_,k+1,uE3,?_,?_,rfl,H.sel _ (.refl _) _ qm⟩)))))))))))))))
       ·omega
       ·exact i1.succ ‹_› (fun hk=>by first | omega | simp_all)
      replace h19:=xm h19
      refine qJ 76 rfl rfl (sq 1 (qJ 76 rfl rfl (sq 1 (qJ 76 rfl rfl (oF rfl (qJ 76 rfl rfl (oL rfl (H.xW 5 rfl 1 rfl) (qJ 76 rfl rfl (sp (yI k) (qJ 76 rfl rfl (oI rfl rfl (qJ 76 rfl rfl (oL rfl (H.xW 1 rfl 0 rfl) (qJ 76 rfl rfl (sw (oq (X4 _ (t.qP[k]!) (H.get 0 rfl).1 (by first | assumption | exact vP ql | exact yX ql)) H fun w20 H=>qJ 76 rfl rfl (sp (Bv (decide ((Xh (t.qP[k]!):Int) > 0))) (qJ 67 rfl rfl ?_))))))))))))))))))
      refine sp (Bv (decide ((Xh (t.qP[k]!):Int) > 0))) (sp (Bv (decide ((Xh (t.qP[k]!):Int) > 0))) (zjn (cD rfl (fun h22=>?_) (fun h22=>?_))))
      ·refine zcr (sp (Bv false) (zjr (zr5 (rH1 (Bv false) H ?_))))
       rw [xh (fun h=>by obtain ⟨h1,h2,h3,h4,h5⟩:=h;first | contradiction | omega | (simp_all;done) | (obtain ⟨q1,q2⟩:=h5 k qf;first | contradiction | (have:=q2 ql;omega)))]
      refine qU (b_n (t_n (xK (sp (yI k) (sw (zi k 1 rfl rfl qf (sq 1 (xP (qW (m' :=t.qP.length - (k+1)) qf ⟨_,k+1,uE3,?_,?_,rfl,H.sel _ (.refl _) _ qm⟩)))))))))
      ·omega
      ·exact i1.succ ‹_› (fun hk=>by first | omega | simp_all)
     replace h18:=xm h18
     replace h18:=zX h18
     refine xR (zR 68 19) (sp (Bv true) (zjn (cTr rfl (zcr (sp (Bv false) (zjr (zr5 (rH1 (Bv false) H ?_))))))))
     rw [xh (fun h=>by obtain ⟨h1,h2,h3,h4,h5⟩:=h;first | contradiction | omega | (simp_all;done) | (obtain ⟨q1,q2⟩:=h5 k qf;first | contradiction | (have:=q2 ql;omega)))]
    refine zx4 (zcr (sp (Bv true) (zjr (rH1 (Bv true) H ?_))))
    obtain rfl:k=t.qP.length:=by omega
    rw [jS ⟨by omega,by omega,by first | assumption | simp_all,by assumption,i1⟩]
   replace h6:=xm h6
   refine zS (zR 34 7) 7 (H) (rtp 41 (Bv true) H ?_)
   refine xA qh (t_n (cTr rfl (zcr (sp (Bv false) (zjr (t_r (rH1 (Bv false) H ?_)))))))
   rw [xh (fun h=>by obtain ⟨h1,h2,h3,h4,h5⟩:=h;first | contradiction | omega | (simp_all;done) | (obtain ⟨q1,q2⟩:=h5 k qf;first | contradiction | (have:=q2 ql;omega)))]
  replace h3:=bne_iff_ne.1 h3
  refine zS (zR 25 7) 7 (H) (rtp 32 (Bv true) H ?_)
  refine rtp 33 (Bv true) H ?_
  refine zS (zR 34 7) 7 (H) (rtp 41 (Bv true) H ?_)
  refine xA qh (t_n (cTr rfl (zcr (sp (Bv false) (zjr (t_r (rH1 (Bv false) H ?_)))))))
  rw [xh (fun h=>by obtain ⟨h1,h2,h3,h4,h5⟩:=h;first | contradiction | omega | (simp_all;done) | (obtain ⟨q1,q2⟩:=h5 k qf;first | contradiction | (have:=q2 ql;omega)))]
 replace h2:=bne_iff_ne.1 h2
 refine zS (zR 12 11) 11 (H) (rtp 23 (Bv true) H ?_)
 refine rtp 24 (Bv true) H ?_
 refine zS (zR 25 7) 7 (H) (rtp 32 (Bv true) H ?_)
 refine rtp 33 (Bv true) H ?_
 refine zS (zR 34 7) 7 (H) (rtp 41 (Bv true) H ?_)
 refine xA qh (t_n (cTr rfl (zcr (sp (Bv false) (zjr (t_r (rH1 (Bv false) H ?_)))))))
 rw [xh (fun h=>by obtain ⟨h1,h2,h3,h4,h5⟩:=h;first | contradiction | omega | (simp_all;done) | (obtain ⟨q1,q2⟩:=h5 k qf;first | contradiction | (have:=q2 ql;omega)))]
theorem l02Parent_ok (w:World) (s:qG) (t:qH) (c:Int) (hs:vg w bs os (yS s qM qL xg qX)) (xf:zP w xF qM qL s.qC) (xE:zP w zu xg qX s.qE) (ht:vg w bt ot (yT t xq xn xX xM xe qZ)) (zk:zP w zQ xq xn t.qI) (zO:zP w vK xX xM t.qP) (xJ:zP w zo xe qZ t.qN) (p0:yD s) (p1:CellIn s c) (p2:t.qI.length=s.qC.length):Calls Tryz.prog 238 #[pp bs os,pp bt ot,yI c] w (Ret (fun v w' =>v=yI (xZ s t c)) w):=by
 refine en func238 ntmps238 ?_
 have H:=(((((((St.start w).arg xJ).arg zO).arg zk).Q7 ht).arg xE).arg xf).Q7 hs
 have vH:=qO xf
 have jD:=qO xE
 have yL:=qO zk
 have Qv:=qO zO
 have jQ:=qO xJ
 clear hs xf xE ht zk zO xJ
 have p3:=p0.step p1.1 p1.2
 refine zcr (sp (yI 0) (zjc (sq 2 (oF rfl (oL rfl (H.xW 0 rfl 1 rfl) (sp (yI c) ?_))))))
 obtain ⟨b1,o2,rfl⟩:=H.addr 1 rfl qf
 refine oI rfl rfl (oL rfl (H.XX 1 rfl c qf qf) (sq 1 (zjn (xU (qV ?_)))))
 refine zA ((fun Z0 Z1 Z2 Z3 Z4 Z5 Z6=>fun m' ρ w3=>∃ (xQ:Env) (y:Int) (n:Nat),ρ=upd (upd (upd (upd xQ 0 (pp bs os)) 1 (pp bt ot)) 6 (yI 0)) 7 (yI y)/\(-1<=y/\y<=(s.qC.length:Int) - 1)/\(y < n)/\(xZ s t c=climb s.qC t.qI n y)/\m' =(y+1).toNat/\St w w3 [] [Z0,Z1,Z2,Z3,Z4,Z5,Z6]) _ _ _ _ _ _ _) (((s.qC[c.toNat]!)+1).toNat) ⟨_,s.qC[c.toNat]!,s.qC.length,uE4,qf,qf,(by rfl),rfl,H⟩ ?_
 clear H
 rintro m' ρ w4 ⟨xQ,y,n,rfl,i0,i1,i2,rfl,H⟩
 have up:=fun h=>p0.step (c:=y) h i0.2
 refine zcc (sp (yI y) (sp (Bv (decide ((y:Int)>=0))) (sp (Bv (decide ((y:Int)>=0))) ?_)))
 cases h5:(decide ((y:Int)>=0))
 ·replace h5:=of_decide_eq_false h5
  refine xR (zR 18 8) (sp (Bv false) (zjn (cFr rfl (zx4 (zcr (sp (yI y) (sp (yI y) (zjr (rH1 (yI y) H ?_)))))))))
  rw [i2,climb_end (by first | omega | simp_all)]
 replace h5:=of_decide_eq_true h5
 refine qJ 17 rfl rfl (sq 1 (qJ 17 rfl rfl (sq 1 (qJ 17 rfl rfl (oF rfl (qJ 17 rfl rfl (oL rfl (H.xW 3 rfl 0 rfl) (qJ 17 rfl rfl (sp (yI y) (qJ 17 rfl rfl ?_))))))))))
 obtain ⟨b6,o7,rfl⟩:=H.addr 4 rfl qf
 refine oI rfl rfl (qJ 17 rfl rfl (oL rfl (H.elemBool 4 rfl y qf qf) (qJ 17 rfl rfl (sq 2 (zjn (zT _ rfl (fun h8=>?_) (fun h8=>?_)))))))
 ·replace h8:=xm h8
  refine qU (t_n (qV (xK (sq 2 (oF rfl (oL rfl (H.xW 0 rfl 1 rfl) (sp (yI y) (oI rfl rfl (oL rfl (H.XX 1 rfl y qf qf) (sq 1 (xP (b_n ?_))))))))))))
  have up1:=up qf
  refine qW (m' :=((s.qC[y.toNat]!)+1).toNat) qf ⟨_,(s.qC[y.toNat]!),n - 1,uE4,?_,?_,?_,rfl,H⟩
  ·omega
  ·omega
  ·exact i2.trans (climb_go qf qf ‹_›)
 replace h8:=qY h8
 refine zx4 (zcr (sp (yI y) (sp (yI y) (zjr (rH1 (yI y) H ?_)))))
 rw [i2,climb_end (by first | omega | simp_all)]
theorem l02Ok_ok (w:World) (s:qG) (hs:vg w bs os (yS s qM qL xg qX)) (xf:zP w xF qM qL s.qC) (xE:zP w zu xg qX s.qE):Calls Tryz.prog 189 #[pp bs os] w (Ret (fun v w' =>v=Bv (dec (yj s))) w):=by
 refine en func189 ntmps189 ?_
 have H:=(((St.start w).arg xE).arg xf).Q7 hs
 have vH:=qO xf
 have jD:=qO xE
 clear hs xf xE
 have p1:=fun h:yD s=>h.2.1
 refine zcr (sp (Bv false) (zjcc (sq 1 (sw (oq (l02Frame_ok _ s (qF (H.get 0 rfl) 0 3) (H.get 1 rfl).1 (H.get 2 rfl).1) H fun w1 H=>sp (Bv (!(dec (yD s)))) (sp (Bv (!(dec (yD s)))) ?_))))))
 cases h3:(!(dec (yD s)))
 ·replace h3:=qY h3
  replace h3:=yU h3
  refine qJ 8 rfl rfl (sq 1 (qJ 8 rfl rfl (sq 1 (qJ 8 rfl rfl (oF rfl (qJ 8 rfl rfl (oL rfl (H.xW 0 rfl 2 rfl) (qJ 8 rfl rfl (oN rfl (qJ 8 rfl rfl (sp (Bv (decide ((s.qE.length:Int) > 16))) (sp (Bv (decide ((s.qE.length:Int) > 16))) (zjn (cD rfl (fun h4=>?_) (fun h4=>?_)))))))))))))))
  ·refine zcr (sp (Bv false) (zjr (t_r (rH1 (Bv false) H ?_))))
   rw [xh (fun h=>by obtain ⟨h1,h2,h3⟩:=h;first | contradiction | omega | (obtain ⟨q1,q2⟩:=h3 k qf;first | contradiction | (have:=X5 (k:=k+1) q;omega)))]
  have p2:=p1 ql
  refine qU (t_n (zcr (sq 2 (oF rfl (oL rfl (H.xW 0 rfl 1 rfl) (oN rfl (sw (o_make1 H underlying27 ti2 rfl s.qC.length rfl rfl qf qf fun b5 w6 H=>?_))))))))
  replace H:St _ _ [.box b5 (List.replicate s.qC.length (yI 0)) 2] _:=H
  refine sq 1 (zjcc (sp (yI 0) (zjn (qV ?_))))
  rw [ints_zero,counts_zero] at H
  refine zA ((fun Z0 Z1 Z2=>fun m' ρ w7=>∃ (xQ:Env) (k:Nat),ρ=upd (upd (upd xQ 0 (pp bs os)) 3 (Sv (aa b5 0) s.qC.length s.qC.length)) 4 (yI k)/\(k<=s.qE.length)/\(RulesTo s k)/\m' =s.qE.length - k/\St w w7 [.box b5 ((counts s k).map (Value.int .i64)) 2] [Z0,Z1,Z2]) _ _ _) (s.qE.length - 0) ⟨_,0,uE3,qf,qx,rfl,H⟩ ?_
  clear H
  rintro m' ρ w8 ⟨xQ,k,rfl,i0,i1,rfl,H⟩
  refine zcc (sp (yI k) (sq 2 (oF rfl (oL rfl (H.xW 0 rfl 2 rfl) (oN rfl (sq 1 (zjn (cD rfl (fun h9=>?_) (fun h9=>?_)))))))))
  ·refine qU (t_n (xU (qV (zcc (sq 3 (oF rfl (oL rfl (H.xW 0 rfl 2 rfl) (sp (yI k) ?_))))))))
   obtain ⟨b10,o11,rfl⟩:=H.addr 2 rfl qf
   obtain ⟨ae12Need,ce12Need,Fe12Need,ae12Have,ce12Have,Fe12Have,ae12Lack,ce12Lack,Fe12Lack,ae12Here,ce12Here,Fe12Here,ae12Out,ce12Out,Fe12Out,ae12Into,ce12Into,Fe12Into,H⟩:=H.Qc 2 rfl k k qf qf qf
   refine oI rfl rfl (sw (oq (l02Rule_ok _ s (s.qE[k]!) (qF (H.get 7 rfl) 0 3) (H.get 8 rfl).1 (H.get 9 rfl).1 (qF (H.get 6 rfl) 0 9) (H.get 0 rfl).1 (H.get 1 rfl).1 (H.get 2 rfl).1 (H.get 3 rfl).1 (H.get 4 rfl).1 (H.get 5 rfl).1 ql) H fun w13 H=>sq 1 (zjn (cQ rfl (fun h15=>?_) (fun h15=>?_)))))
   ·refine zcr (sp (Bv false) (zjr (t_r (zr5 (rH1 (Bv false) H ?_)))))
    rw [xh (fun h=>by obtain ⟨h1,h2,h3⟩:=h;first | contradiction | omega | (obtain ⟨q1,q2⟩:=h3 k qf;first | contradiction | (have:=X5 (k:=k+1) q;omega)))]
   have q:=(h15).1
   refine qU (t_n (zcr (sq 3 (oF rfl (oL rfl (H.xW 7 rfl 2 rfl) (sp (yI k) (oI rfl rfl (oF rfl (oL rfl (H.xW 6 rfl 0 rfl) (oI rfl rfl (oL rfl (H.cell 0 rfl (ints_get (by rw [counts_len];omega))) (sw (zi ((counts s k)[((s.qE[k]!).qR:Int).toNat]!) 1 rfl rfl (by (first | omega | (rw [X5 q];have:=ofCell_bd s.qE (s.qE[k]!).qR k;omega))) (oI rfl rfl ?_))))))))))))))
   refine sw (o_store1 H 0 rfl (yI (((counts s k)[((s.qE[k]!).qR:Int).toNat]!)+1)) sizeOf2 rfl rfl rfl (ints_lt (by rw [counts_len];omega)) fun w16 H=>?_)
   rw [ints_set] at H
   rw [counts_succ q] at H
   replace H:St _ _ [.box b5 ((counts s (k+1)).map (Value.int .i64)) 2] _:=H
   refine zjc (sq 3 (oF rfl (oL rfl (H.xW 7 rfl 2 rfl) (sp (yI k) (oI rfl rfl (oF rfl (oL rfl (H.xW 6 rfl 0 rfl) (oI rfl rfl (oL rfl (H.cell 0 rfl (ints_get (by rw [counts_len];omega))) (sp (Bv (decide (((counts s (k+1))[((s.qE[k]!).qR:Int).toNat]! :Int) > 8))) (zjn (cD rfl (fun h17=>?_) (fun h17=>?_)))))))))))))
   ·refine zcr (sp (Bv false) (zjr (zr5 (rH1 (Bv false) H ?_))))
    rw [xh (fun h=>by obtain ⟨h1,h2,h3⟩:=h;first | contradiction | omega | (obtain ⟨q1,q2⟩:=h3 k qf;first | contradiction | (have:=X5 (k:=k+1) q;omega)))]
   refine qU (b_n (t_n (xK (sp (yI k) (sw (zi k 1 rfl rfl (by (first | omega | (rw [X5 q];have:=ofCell_bd s.qE (s.qE[k]!).qR k;omega))) (sq 1 (xP (qW (m' :=s.qE.length - (k+1)) qf ⟨_,k+1,uE3,?_,?_,rfl,H.sel _ (.refl _) _ qm⟩)))))))))
   ·omega
   ·exact i1.succ ‹_› (by have:=X5 (k:=k+1) q;omega)
  refine zx4 (zcr (sp (Bv true) (zjr (rH1 (Bv true) H ?_))))
  obtain rfl:k=s.qE.length:=by omega
  rw [jS ⟨by assumption,by omega,i1⟩]
 replace h3:=xm h3
 replace h3:=zX h3
 refine xR (zR 9 6) (sp (Bv true) (zjn (cTr rfl (zcr (sp (Bv false) (zjr (t_r (rH1 (Bv false) H ?_))))))))
 rw [xh (fun h=>by obtain ⟨h1,h2,h3⟩:=h;first | contradiction | omega | (obtain ⟨q1,q2⟩:=h3 k qf;first | contradiction | (have:=X5 (k:=k+1) q;omega)))]
end
section
theorem climb_in {s:qG} {t:qH} (hs:yD s) (h0:t.qI[0]! =true):∀ (n:Nat) (c:Int),0<=c->c < n->c<=(s.qC.length:Int) - 1→
 0<=climb s.qC t.qI n c/\climb s.qC t.qI n c<=c/\t.qI[(climb s.qC t.qI n c).toNat]! =true
 | 0,c,h1,h2,h3=>by omega
 | n+1,c,h1,h2,h3=>by
  rw [climb]
  by_cases ha:0<=c/\t.qI[c.toNat]! =false
  ·rw [if_pos ha]
   have hc:0 < c:=by
    rcases Int.lt_or_eq_of_le h1 with h | h
    ·exact h
    ·rw [← h] at ha;simp [h0] at ha
   have hu:=hs.up hc h3
   have:=climb_in hs h0 n (s.qC[c.toNat]!) hu.1 qf qf
   exact ⟨this.1,by omega,this.2.2⟩
  ·rw [if_neg ha]
   refine ⟨h1,Int.le_refl _,?_⟩
   cases hx:t.qI[c.toNat]! with
   | true=>rfl
   | false=>exact absurd ⟨h1,hx⟩ ha
theorem X3 (hs:yD s) (h0:t.qI[0]! =true) (h1:0 < c) (h2:c<=(s.qC.length:Int) - 1):0<=xZ s t c/\xZ s t c < c/\t.qI[(xZ s t c).toNat]! =true:=by
 have hu:=hs.up h1 h2
 have:=climb_in hs h0 s.qC.length (s.qC[c.toNat]!) hu.1 qf qf
 exact ⟨this.1,by have:=this.2.1;unfold xZ;omega,this.2.2⟩
def melted (s:qG) (t:qH) (c:Int):qH:=
 ⟨t.qI.set c.toNat false,(t.qP.set (xZ s t c).toNat (jP (t.qP[(xZ s t c).toNat]!) (t.qP[c.toNat]!) 1)).set c.toNat (List.replicate s.xO.toNat 0),t.qN⟩
open Classical in
noncomputable def told (s:qG) (t:qH):qH×Int:=if zV s t then (t,0) else (default,3)
theorem told_yes (h:zV s t):told s t=(t,0):=by rw [told,if_pos h]
theorem told_no (h:¬ zV s t):told s t=(default,3):=by rw [told,if_neg h]
theorem zV.bagLen (h:zV s t) (hk:k < t.qP.length):vk s.xO (t.qP[k]!):=(h.2.2.2.2 k hk).1
theorem bagOk_smallT {n:Int} (h:vk n l) {t:Int} (ht: -1000000<=t/\t<=1000000):SmallT l t:=fun k hk=>by
 have:=h.1.1 k hk
 constructor
 ·have h1: -(1000000 * 1000)<=t * l[k]! :=by
   rcases Int.le_total 0 t with h0 | h0
   ·have:=Int.mul_nonneg h0 this.1;omega
   ·have h2:=Int.mul_le_mul_of_nonneg_left this.2 (show 0<= -t by omega)
    have h3: -t * l[k]! = -(t * l[k]!):=Int.neg_mul ..
    have h4: -t * 1000<=1000000 * 1000:=by omega
    omega
  omega
 ·have h1:t * l[k]! <=1000000 * 1000:=by
   rcases Int.le_total 0 t with h0 | h0
   ·have h2:=Int.mul_le_mul_of_nonneg_left this.2 h0
    omega
   ·have h2:=Int.mul_nonneg (show 0<= -t by omega) this.1
    have h3: -t * l[k]! = -(t * l[k]!):=Int.neg_mul ..
    omega
  omega
theorem zV.sizes (hs:yD s) (h:zV s t):t.qI.length<=6/\t.qN.length<=8/\t.qP.length<=6/\∀ k,k < t.qP.length->(t.qP[k]!).length<=8:=
 ⟨by have:=h.1;have:=hs.2.1;omega,h.2.2.2.1.1.2.2,by have:=h.2.1;have:=hs.2.1;omega,fun k hk=>(h.bagLen hk).1.2.2⟩
theorem zV.add (h:zV s t) (hj:j < t.qP.length) (hk:k < t.qP.length):(t.qP[j]!).length<=(t.qP[k]!).length/\Mid (t.qP[j]!)/\SmallT (t.qP[k]!) 1:=by
 have h1:=h.bagLen hj
 have h2:=h.bagLen hk
 exact ⟨by have:=h1.2;have:=h2.2;omega,(vP h1).mid,bagOk_smallT h2 qf⟩
theorem drop_get (h:k+1 < l.length):(l.drop 1)[k]! =l[k+1]! :=by
 rw [getElem!_pos (l.drop 1) k (by rw [List.length_drop];omega),getElem!_pos l (k+1) h]
 simp [Nat.add_comm]
theorem lies_up (hs:yD s) {o:Int} (hc:CellIn s c):Lies s.qC o c<->0<=s.qC[c.toNat]! /\(s.qC[c.toNat]! =o\/Lies s.qC o (s.qC[c.toNat]!)):=by
 rw [lies_iff]
 rcases Int.lt_or_eq_of_le hc.1 with h | h
 ·have:=hs.up h hc.2
  constructor
  ·rintro ⟨_,h1⟩;exact ⟨this.1,h1⟩
  ·rintro ⟨_,h1⟩;exact ⟨h,h1⟩
 ·subst h
  have:=hs.2.2.1
  simp only [Int.toNat_zero] at *
  constructor
  ·rintro ⟨h1,_⟩;omega
  ·rintro ⟨h1,_⟩;omega
def counts6 (s:qG) (k:Nat):yLI:=(List.range 6).map fun c:Nat=>XG s.qE (c:Int) k
theorem counts6_len (s:qG) (k:Nat):(counts6 s k).length=6:=by simp [counts6]
theorem counts6_zero (s:qG):([0,0,0,0,0,0]:yLI)=counts6 s 0:=by simp [counts6,List.range_succ,XG]
theorem XY (h:0<=c) (h1:c<=5):(counts6 s k)[c.toNat]! =XG s.qE c k:=by
 rw [getElem!_pos _ _ (by rw [counts6_len];omega)]
 simp only [counts6,List.getElem_map,List.getElem_range]
 rw [show ((c.toNat:Nat):Int)=c by omega]
theorem counts6_succ (h:0<=(s.qE[k]!).qR) (h1:(s.qE[k]!).qR<=5):
 (counts6 s k).set (s.qE[k]!).qR.toNat ((counts6 s k)[(s.qE[k]!).qR.toNat]! +1)=counts6 s (k+1):=by
 rw [XY h h1]
 apply List.ext_getElem
 ·simp [counts6]
 ·intro i h1 h2
  rw [List.getElem_set]
  simp only [counts6,List.getElem_map,List.getElem_range,XG]
  by_cases e:(s.qE[k]!).qR.toNat=i
  ·subst e
   rw [if_pos rfl,if_pos qf,show (((s.qE[k]!).qR.toNat:Nat):Int)=(s.qE[k]!).qR by omega]
  ·rw [if_neg e,if_neg qf];omega
theorem sum_nonneg (h:BagAny l):0<=Xh l:=by
 have:∀ k,k<=l.length->0<=sumTo l k:=fun k=>by
  induction k with
  | zero=>intro _;exact Int.le_refl _
  | succ k ih=>intro hk;have:=ih qf;have:=h.1 k qf;simp only [sumTo];omega
 exact this _ (Nat.le_refl _)
end
section
theorem cloneB_ok (w:World) (l:List Bool) (hl:zP w Fl al cl l) (p0:l.length<=1000000):Calls Tryz.prog 127 #[Sv al l.length cl] w (Ret (fun v w' =>∃ (ra:yOA) (rn:Nat) (rc:Nat),v=Sv ra rn rc/\Fresh w.heap.size []/\St w w' [rr ra rn rc 4 1 (l.map (Value.bool))] []) w):=by
 refine en func127 ntmps127 ?_
 have H:=(St.start w).arg hl
 have nhl:=qO hl
 clear hl
 have N:=Fresh.nil w.heap.size
 refine zcr (sq 1 (zjcc (sq 1 (sw (o_eqnil underlying40 al l.length cl rfl (zjn (zT _ rfl (fun h1=>?_) (fun h1=>?_))))))))
 ·refine zcr (sq 1 (zjr (t_r ?_)))
  replace H:=H.nilRowB 4
  refine rH1 yN H ?_
  obtain rfl:=H.nilOf 0 rfl ‹_›
  exact ⟨none,0,0,rfl,N,H.pick [0] []⟩
 refine qU (t_n (zcr (sw (zW H underlying40 ti4 fun b2 w3 H=>sq 1 ?_))))
 replace H:=H.boxRowB 0 [] 0
 refine sw (o_appendFR H 0 rfl 0 rfl underlying40 ti4 rfl qj rfl rfl qp qf fun a4 c5 w6 us7 G8 H hG9=>?_)
 obtain ⟨_,rfl⟩:=reps_bools (H.get 0 rfl).1
 replace H:=H.sub _ fun f hf=>List.mem_cons_of_mem _ hf
 rw [catB] at H
 refine sq 1 (zjr (rH1 (Sv a4 (0+l.length) c5) H (⟨a4,0+l.length,c5,rfl,N,H.pick [0] []⟩)))
theorem l02Own_ok (w:World) (t:qH) {bt ot:Nat} {xn:Nat} {xM:Nat} {qZ:Nat} (ht:vg w bt ot (yT t xq xn xX xM xe qZ)) (zk:zP w zQ xq xn t.qI) (zO:zP w vK xX xM t.qP) (xJ:zP w zo xe qZ t.qN) (p0:t.qI.length<=1000000) (p1:t.qN.length<=1000000) (p2:t.qP.length<=1000000) (p3:∀ k,k < t.qP.length->(t.qP[k]!).length<=1000000):Calls Tryz.prog 153 #[pp bt ot] w (Ret (fun v w' =>∃ (raAlive:yOA) (rnAlive:Nat) (rcAlive:Nat) (raBags:yOA) (rnBags:Nat) (rcBags:Nat) (rxBags:List Value) (rFBags:yLN) (raAround:yOA) (rnAround:Nat) (rcAround:Nat),v=.agg #[Sv raAlive rnAlive rcAlive,Sv raBags rnBags rcBags,Sv raAround rnAround rcAround]/\Fresh w.heap.size [rFBags]/\St w w' [rr raAlive rnAlive rcAlive 4 1 (t.qI.map (Value.bool)),rr raBags rnBags rcBags 27 1 rxBags,rr raAround rnAround rcAround 2 1 (t.qN.map (Value.int .i64))] [xN true rFBags rxBags t.qP]) w):=by
 refine en func153 ntmps153 ?_
 have H:=((((St.start w).arg xJ).arg zO).arg zk).Q7 ht
 have yL:=qO zk
 have Qv:=qO zO
 have jQ:=qO xJ
 clear ht zk zO xJ
 have N:=Fresh.nil w.heap.size
 refine zcr (sw (xH H ti43 [yN,yN,yN] fun b1 w2 H=>zjn (xU ?_)))
 refine c_cut (fun ρ w8=>∃ (xQ:Env) (b3:Nat) (a4:yOA) (c5:Nat) (a6:yOA) (c7:Nat),ρ=upd (upd (upd xQ 0 (pp bt ot)) 2 (pp b1 0)) 3 (pp b3 0)/\Fresh w.heap.size []/\St w w8 [.box b3 [Sv a4 (0+t.qI.length) c5,yN,Sv a6 t.qN.length c7] 43,rr a6 t.qN.length c7 2 1 (t.qN.map (Value.int .i64)),rr a4 (0+t.qI.length) c5 4 1 ((([]:List Bool)++t.qI).map (Value.bool)),.box b1 [yN,yN,yN] 43] [atF bt ot (yT t xq xn xX xM xe qZ),sF false zQ xq xn t.qI,sF false vK xX xM t.qP,sF false zo xe qZ t.qN]) ?_ ?_
 ·refine jw rfl H fun H=>rtl 1 H ?_
  refine rtl 2 H ?_
  refine tF 3 rfl rfl H ?_
  refine tL 4 rfl rfl (fun _ h=>h.xW 0 rfl 0 rfl) H ?_
  refine rtl 6 H ?_
  refine rtl 7 H ?_
  refine tF 8 rfl rfl H ?_
  refine tL 9 rfl rfl (fun _ h=>h.xW 0 rfl 2 rfl) H ?_
  refine jb [0,12] qh qm (jM rfl ?_ (jM rfl ?_ jd))
  ·refine zW H underlying40 ti4 fun b10 w11 H=>⟨H.pick [1] (zR 0 4),(jb [5,12] qh qm (jM rfl ?_ (jM rfl ?_ jd)))⟩
   ·replace H:=H.boxRowB 0 [] 0
    refine o_appendFR H 0 rfl 1 rfl underlying40 ti4 rfl qj rfl rfl qp qf fun a12 c13 w14 us15 G16 H hG17=>?_
    obtain ⟨_,rfl⟩:=reps_bools (H.get 0 rfl).1
    replace H:=H.sub _ fun f hf=>List.mem_cons_of_mem _ hf
    rw [catB] at H
    refine ⟨H.pick [1] (zR 0 4),(jb [10,12] qh qm (jM rfl ?_ (jM rfl ?_ jd)))⟩
    ·have sz18:=H.base.size
     refine oc (Xe _ t.qN (H.get 3 rfl).1 qg) ?_
     rintro v23 w21 r23 x22
     replace H:=H.zt x22 r23
     obtain ⟨a24,c25,rfl,hc26,hm27⟩:=H.jm 0 rfl
     refine ⟨H.pick [2] (zR 0 4),(jb [11,12] qh qm (jM rfl ?_ (jM rfl ?_ jd)))⟩
     ·refine vG [Sv a12 (0+t.qI.length) c13,yN,Sv a24 t.qN.length c25] [(0,Sv a12 (0+t.qI.length) c13),(2,Sv a24 t.qN.length c25)] (⟨H.pick [2] (zR 0 4),(ro 12 rfl (xH H ti43 [yN,yN,yN] fun b28 w29 H=>⟨H.pick [3] (zR 0 4),(ro 13 rfl (xY H 0 [Sv a12 (0+t.qI.length) c13,yN,Sv a24 t.qN.length c25] sizeOf43 fun w30 H=>⟨H.pick [3] (zR 0 4),(xA qh ((meet ⟨_,b28,a12,c13,a24,c25,uE3,N,H⟩)))⟩))⟩))⟩)
     refine xH H ti43 [yN,yN,yN] fun b31 w32 H=>⟨H.pick [3] (zR 0 4),(ro 11 rfl (vG [Sv a12 (0+t.qI.length) c13,yN,Sv a24 t.qN.length c25] [(0,Sv a12 (0+t.qI.length) c13),(2,Sv a24 t.qN.length c25)] (⟨H.pick [3] (zR 0 4),(ro 13 rfl (xY H 0 [Sv a12 (0+t.qI.length) c13,yN,Sv a24 t.qN.length c25] sizeOf43 fun w33 H=>⟨H.pick [3] (zR 0 4),(xA qh ((meet ⟨_,b31,a12,c13,a24,c25,uE3,N,H⟩)))⟩))⟩)))⟩
    refine xH H ti43 [yN,yN,yN] fun b34 w35 H=>⟨H.pick [2] (zR 0 4),(ro 10 rfl ?_)⟩
    have sz36:=H.base.size
    refine oc (Xe _ t.qN (H.get 3 rfl).1 qg) ?_
    rintro v41 w39 r41 x40
    replace H:=H.zt x40 r41
    obtain ⟨a42,c43,rfl,hc44,hm45⟩:=H.jm 0 rfl
    refine ⟨H.pick [3] (zR 0 4),(ro 11 rfl (vG [Sv a12 (0+t.qI.length) c13,yN,Sv a42 t.qN.length c43] [(0,Sv a12 (0+t.qI.length) c13),(2,Sv a42 t.qN.length c43)] (⟨H.pick [3] (zR 0 4),(ro 13 rfl (xY H 1 [Sv a12 (0+t.qI.length) c13,yN,Sv a42 t.qN.length c43] sizeOf43 fun w46 H=>⟨H.pick [3] (zR 0 4),(xA qh ((meet ⟨_,b34,a12,c13,a42,c43,uE3,N,H.pick [1,0,2,3] (zR 0 4)⟩)))⟩))⟩)))⟩
   refine xH H ti43 [yN,yN,yN] fun b47 w48 H=>⟨H.pick [2] (zR 0 4),(ro 5 rfl ?_)⟩
   replace H:=H.boxRowB 1 [] 0
   refine o_appendFR H 1 rfl 1 rfl underlying40 ti4 rfl qj rfl rfl qp qf fun a49 c50 w51 us52 G53 H hG54=>?_
   obtain ⟨_,rfl⟩:=reps_bools (H.get 0 rfl).1
   replace H:=H.sub _ fun f hf=>List.mem_cons_of_mem _ hf
   rw [catB] at H
   refine ⟨H.pick [2] (zR 0 4),(ro 10 rfl ?_)⟩
   have sz55:=H.base.size
   refine oc (Xe _ t.qN (H.get 3 rfl).1 qg) ?_
   rintro v60 w58 r60 x59
   replace H:=H.zt x59 r60
   obtain ⟨a61,c62,rfl,hc63,hm64⟩:=H.jm 0 rfl
   refine ⟨H.pick [3] (zR 0 4),(ro 11 rfl (vG [Sv a49 (0+t.qI.length) c50,yN,Sv a61 t.qN.length c62] [(0,Sv a49 (0+t.qI.length) c50),(2,Sv a61 t.qN.length c62)] (⟨H.pick [3] (zR 0 4),(ro 13 rfl (xY H 1 [Sv a49 (0+t.qI.length) c50,yN,Sv a61 t.qN.length c62] sizeOf43 fun w65 H=>⟨H.pick [3] (zR 0 4),(xA qh ((meet ⟨_,b47,a49,c50,a61,c62,uE3,N,H.pick [1,0,2,3] (zR 0 4)⟩)))⟩))⟩)))⟩
  refine xH H ti43 [yN,yN,yN] fun b66 w67 H=>⟨H.pick [1] (zR 0 4),(ro 0 rfl (zW H underlying40 ti4 fun b68 w69 H=>⟨H.pick [2] (zR 0 4),(ro 5 rfl ?_)⟩))⟩
  replace H:=H.boxRowB 0 [] 0
  refine o_appendFR H 0 rfl 1 rfl underlying40 ti4 rfl qj rfl rfl qp qf fun a70 c71 w72 us73 G74 H hG75=>?_
  obtain ⟨_,rfl⟩:=reps_bools (H.get 0 rfl).1
  replace H:=H.sub _ fun f hf=>List.mem_cons_of_mem _ hf
  rw [catB] at H
  refine ⟨H.pick [2] (zR 0 4),(ro 10 rfl ?_)⟩
  have sz76:=H.base.size
  refine oc (Xe _ t.qN (H.get 3 rfl).1 qg) ?_
  rintro v81 w79 r81 x80
  replace H:=H.zt x80 r81
  obtain ⟨a82,c83,rfl,hc84,hm85⟩:=H.jm 0 rfl
  refine ⟨H.pick [3] (zR 0 4),(ro 11 rfl (vG [Sv a70 (0+t.qI.length) c71,yN,Sv a82 t.qN.length c83] [(0,Sv a70 (0+t.qI.length) c71),(2,Sv a82 t.qN.length c83)] (⟨H.pick [3] (zR 0 4),(ro 13 rfl (xY H 2 [Sv a70 (0+t.qI.length) c71,yN,Sv a82 t.qN.length c83] sizeOf43 fun w86 H=>⟨H.pick [3] (zR 0 4),(xA qh ((meet ⟨_,b66,a70,c71,a82,c83,uE3,N,H.pick [2,0,1,3] (zR 0 4)⟩)))⟩))⟩)))⟩
 clear H N
 rintro ρ w87 ⟨xQ,b3,a4,c5,a6,c7,rfl,N,H⟩
 refine t_n (zcc (sp (yI 0) (zjn (qV ?_))))
 replace H:=H.nilRow 27 1
 replace H:=H.vV (α:=yLI)
 refine zA ((fun Z0 Z1 Z2 Z3 Z4 Z5 Z6=>fun m' ρ w88=>∃ (xQ:Env) (c:Nat) (jX:yOA) (vN:Nat) (jW:Nat) (out_Bags:yLL) (vM:List Value) (zy:yLN),ρ=upd (upd (upd (upd xQ 0 (pp bt ot)) 2 (pp b1 0)) 3 (pp b3 0)) 4 (yI c)/\out_Bags=t.qP.take c/\((c:Int)<=t.qP.length)/\m' =(t.qP.length - (c:Int)).toNat/\Fresh w.heap.size [zy]/\St w w88 [rr jX vN jW 27 1 vM,.box b3 [Sv a4 (0+t.qI.length) c5,Sv jX vN jW,Sv a6 t.qN.length c7] 43,Z0,Z1,Z2] [xN true zy vM out_Bags,Z3,Z4,Z5,Z6]) _ _ _ _ _ _ _) ((t.qP.length - (0:Int)).toNat) ⟨_,0,none,0,0,([]:yLL),[],[],uE4,(by rfl),qf,rfl,N.emp,H⟩ ?_
 clear H N
 rintro m' ρ w89 ⟨xQ,c,jX,vN,jW,out_Bags,vM,zy,rfl,rfl,i0,rfl,N,H⟩
 have XV:=H.xB (α:=yLI) 0 rfl 0 rfl qj
 have p4:=p3 c
 rw [List.length_take_of_le qf] at XV
 refine zcc (sp (yI c) (sq 2 (oF rfl (oL rfl (H.xW 1 rfl 1 rfl) (oN rfl (sq 1 (zjn (cD rfl (fun h90=>?_) (fun h90=>?_)))))))))
 ·refine qU (t_n (xU (qV ?_)))
  obtain ⟨b91,o92,rfl⟩:=H.addr 3 rfl qf
  refine c_cut (fun ρ w102=>∃ (xQ:Env) (a94:yOA) (c95:Nat) (a96:yOA) (c97:Nat) (G98:yLN) (F99:yLN) (a100:yOA) (c101:Nat),ρ=upd (upd (upd (upd xQ 0 (pp bt ot)) 2 (pp b1 0)) 3 (pp b3 0)) 4 (yI c)/\Fresh w.heap.size [(zy++G98)]/\St w w102 [rr a94 (vN+1) c95 27 1 (vM++[Sv a96 ((t.qP[c]!).length) c97]),.box b3 [Sv a4 (0+t.qI.length) c5,Sv a94 (vN+1) c95,Sv a6 t.qN.length c7] 43,rr a6 t.qN.length c7 2 1 (t.qN.map (Value.int .i64)),rr a4 (0+t.qI.length) c5 4 1 ((([]:List Bool)++t.qI).map (Value.bool)),.box b1 [yN,yN,yN] 43] [xN true (zy++G98) (vM++[Sv a96 ((t.qP[c]!).length) c97]) ((t.qP.take c)++[(t.qP[c]!)]),sF true G98 a96 c97 (t.qP[c]!),sF false F99 a100 c101 (t.qP[c]!),atF b91 (o92+(c:Int).toNat * 1) [Sv a100 ((t.qP[c]!).length) c101],atF bt ot [Sv xq t.qI.length xn,Sv (aa b91 o92) t.qP.length xM,Sv xe t.qN.length qZ],sF false zQ xq xn t.qI,sF false vK (aa b91 o92) xM t.qP,sF false zo xe qZ t.qN]) ?_ ?_
  ·refine Qb rfl H [2,3,4] fun H=>?_
   have S:=H.jr [2,3,4] (zR 0 5)
   refine tF 0 rfl rfl S ?_
   refine rtl 2 S ?_
   refine rtl 3 S ?_
   refine tF 4 rfl rfl S ?_
   refine tL 5 rfl rfl (fun _ h=>h.xW 1 rfl 1 rfl) S ?_
   refine rtp 6 (yI c) S ?_
   obtain ⟨ae104,ce104,Fe104,H⟩:=H.ji 3 rfl c c qf qf qf
   refine tI 7 rfl rfl rfl (H.pick [2,3,4] (zR 2 5)) ?_
   refine jb [1,8] qh qm (jM rfl ?_ (jM rfl ?_ jd))
   ·refine zK (Sv jX vN jW) isAgg41 rfl (H.cell 1 rfl rfl) (⟨H.pick [2,3,4] (zR 2 5),(ro 8 rfl (zK (Sv ae104 ((t.qP[c]!).length) ce104) isAgg27 rfl (H.xW 1 rfl 0 rfl) (⟨H.pick [2,3,4] (zR 2 5),(ro 9 rfl ?_)⟩)))⟩)
    have sz105:=H.base.size
    have lt106:=H.ltN (L:=[zy]) [2]
    refine oc (Xe _ (t.qP[c]!) (H.get 0 rfl).1 qg) ?_
    rintro v110 w108 r110 x109
    replace H:=H.zt x109 r110
    obtain ⟨a111,c112,rfl,hc113,hm114⟩:=H.jm 0 rfl
    refine ⟨H.pick [3,4,5] (zR 2 5),(ro 10 rfl (xx H underlying41 ti27 [Sv a111 ((t.qP[c]!).length) c112] fun b115 w116 H=>⟨H.pick [4,5,6] (zR 2 5),(ro 11 rfl ?_)⟩))⟩
    obtain ⟨G120,N,hn121,H⟩:=H.zh 1 rfl N (H.vz [2])
    refine zG H 2 rfl 0 rfl underlying41 ti27 rfl qj rfl rfl rfl qw qp qf fun a117 c118 w119 H=>?_
    replace H:=H.yC 3 rfl 0 rfl
    replace N:Fresh w.heap.size [(zy++G120)]:=(N.pick [1,0]).join
    refine ⟨H.pick [4,5,6] (zR 4 5),(tF 12 rfl rfl (H.pick [4,5,6] (zR 4 5)) ?_)⟩
    refine ro 13 rfl (zI H 3 [Sv a4 (0+t.qI.length) c5,Sv a117 (vN+1) c118,Sv a6 t.qN.length c7] sizeOf41 fun w122 H=>⟨H.pick [4,5,6] (zR 4 5),(xA qh ((meet ⟨_,a117,c118,a111,c112,G120,Fe104,ae104,ce104,uE4,N,H.pick (zR 2 5) [0,1,2,3,5,6,7,8]⟩)))⟩)
   refine zK (Sv ae104 ((t.qP[c]!).length) ce104) isAgg27 rfl (H.xW 1 rfl 0 rfl) (⟨H.pick [2,3,4] (zR 2 5),(jb [1,9] qh qm (jM rfl ?_ (jM rfl ?_ jd)))⟩)
   ·refine zK (Sv jX vN jW) isAgg41 rfl (H.cell 1 rfl rfl) (⟨H.pick [2,3,4] (zR 2 5),(ro 9 rfl ?_)⟩)
    have sz123:=H.base.size
    have lt124:=H.ltN (L:=[zy]) [2]
    refine oc (Xe _ (t.qP[c]!) (H.get 0 rfl).1 qg) ?_
    rintro v128 w126 r128 x127
    replace H:=H.zt x127 r128
    obtain ⟨a129,c130,rfl,hc131,hm132⟩:=H.jm 0 rfl
    refine ⟨H.pick [3,4,5] (zR 2 5),(ro 10 rfl (xx H underlying41 ti27 [Sv a129 ((t.qP[c]!).length) c130] fun b133 w134 H=>⟨H.pick [4,5,6] (zR 2 5),(ro 11 rfl ?_)⟩))⟩
    obtain ⟨G138,N,hn139,H⟩:=H.zh 1 rfl N (H.vz [2])
    refine zG H 2 rfl 0 rfl underlying41 ti27 rfl qj rfl rfl rfl qw qp qf fun a135 c136 w137 H=>?_
    replace H:=H.yC 3 rfl 0 rfl
    replace N:Fresh w.heap.size [(zy++G138)]:=(N.pick [1,0]).join
    refine ⟨H.pick [4,5,6] (zR 4 5),(tF 12 rfl rfl (H.pick [4,5,6] (zR 4 5)) ?_)⟩
    refine ro 13 rfl (zI H 3 [Sv a4 (0+t.qI.length) c5,Sv a135 (vN+1) c136,Sv a6 t.qN.length c7] sizeOf41 fun w140 H=>⟨H.pick [4,5,6] (zR 4 5),(xA qh ((meet ⟨_,a135,c136,a129,c130,G138,Fe104,ae104,ce104,uE4,N,H.pick (zR 2 5) [0,1,2,3,5,6,7,8]⟩)))⟩)
   have sz141:=H.base.size
   have lt142:=H.ltN (L:=[zy]) [2]
   refine oc (Xe _ (t.qP[c]!) (H.get 0 rfl).1 qg) ?_
   rintro v146 w144 r146 x145
   replace H:=H.zt x145 r146
   obtain ⟨a147,c148,rfl,hc149,hm150⟩:=H.jm 0 rfl
   refine ⟨H.pick [3,4,5] (zR 2 5),(jb [1,10] qh qm (jM rfl ?_ (jM rfl ?_ jd)))⟩
   ·refine zK (Sv jX vN jW) isAgg41 rfl (H.cell 2 rfl rfl) (⟨H.pick [3,4,5] (zR 2 5),(ro 10 rfl (xx H underlying41 ti27 [Sv a147 ((t.qP[c]!).length) c148] fun b151 w152 H=>⟨H.pick [4,5,6] (zR 2 5),(ro 11 rfl ?_)⟩))⟩)
    obtain ⟨G156,N,hn157,H⟩:=H.zh 1 rfl N (H.vz [2])
    refine zG H 2 rfl 0 rfl underlying41 ti27 rfl qj rfl rfl rfl qw qp qf fun a153 c154 w155 H=>?_
    replace H:=H.yC 3 rfl 0 rfl
    replace N:Fresh w.heap.size [(zy++G156)]:=(N.pick [1,0]).join
    refine ⟨H.pick [4,5,6] (zR 4 5),(tF 12 rfl rfl (H.pick [4,5,6] (zR 4 5)) ?_)⟩
    refine ro 13 rfl (zI H 3 [Sv a4 (0+t.qI.length) c5,Sv a153 (vN+1) c154,Sv a6 t.qN.length c7] sizeOf41 fun w158 H=>⟨H.pick [4,5,6] (zR 4 5),(xA qh ((meet ⟨_,a153,c154,a147,c148,G156,Fe104,ae104,ce104,uE4,N,H.pick (zR 2 5) [0,1,2,3,5,6,7,8]⟩)))⟩)
   refine xx H underlying41 ti27 [Sv a147 ((t.qP[c]!).length) c148] fun b159 w160 H=>⟨H.pick [4,5,6] (zR 2 5),(ro 1 rfl (zK (Sv jX vN jW) isAgg41 rfl (H.cell 3 rfl rfl) (⟨H.pick [4,5,6] (zR 2 5),(ro 11 rfl ?_)⟩)))⟩
   obtain ⟨G164,N,hn165,H⟩:=H.zh 1 rfl N (H.vz [2])
   refine zG H 2 rfl 0 rfl underlying41 ti27 rfl qj rfl rfl rfl qw qp qf fun a161 c162 w163 H=>?_
   replace H:=H.yC 3 rfl 0 rfl
   replace N:Fresh w.heap.size [(zy++G164)]:=(N.pick [1,0]).join
   refine ⟨H.pick [4,5,6] (zR 4 5),(tF 12 rfl rfl (H.pick [4,5,6] (zR 4 5)) ?_)⟩
   refine ro 13 rfl (zI H 3 [Sv a4 (0+t.qI.length) c5,Sv a161 (vN+1) c162,Sv a6 t.qN.length c7] sizeOf41 fun w166 H=>⟨H.pick [4,5,6] (zR 4 5),(xA qh ((meet ⟨_,a161,c162,a147,c148,G164,Fe104,ae104,ce104,uE4,N,H.pick (zR 2 5) [0,1,2,3,5,6,7,8]⟩)))⟩)
  clear H N
  rintro ρ w167 ⟨xQ,a94,c95,a96,c97,G98,F99,a100,c101,rfl,N,H⟩
  refine b_n (t_n (xK (sp (yI c) (sw (zi c 1 rfl rfl qf (sq 1 (xP (qW (m' :=(t.qP.length - ((c+1):Int)).toNat) qf ⟨_,c+1,_,_,_,_,_,_,uE4,?_,?_,rfl,N,H.pick (zR 0 5) [0,4,5,6,7]⟩))))))))
  ·exact take_snoc qf
  ·omega
 refine zx4 (zcr (sw (x8 [Sv a4 (0+t.qI.length) c5,Sv jX vN jW,Sv a6 t.qN.length c7] isAgg43 sizeOf43 rfl (qF (H.cells 1 rfl) 0 3) (sw (xY H 4 [Sv a4 (0+t.qI.length) c5,Sv jX vN jW,Sv a6 t.qN.length c7] sizeOf43 fun w168 H=>zjr (retC H 4 rfl rfl isAgg43 sizeOf43 rfl ⟨_,rfl,?_,H.base⟩))))))
 obtain rfl:c=t.qP.length:=by omega
 rw [List.take_length] at H
 exact ⟨a4,0+t.qI.length,c5,jX,vN,jW,vM,zy,a6,t.qN.length,c7,rfl,N,H.pick [3,0,2] [0]⟩
end
section
def OrderOk (p:zF) (o:Q8):Prop:=
 (1<=o.fOp/\o.fOp<=3)/\(0<=o.zn/\o.zn<=p.qA - 1)/\(0<=o.fTo/\o.fTo<=(p.qB.length:Int))/\(0<=o.zf/\o.zf<=(p.qB.length:Int))/\(o.fOp=3->o.zn=0/\o.fTo=0/\o.zf=0)
def OrdersTo (p:zF) (k:Nat):Prop:=∀ j,j < k->OrderOk p (p.qB[j]!)
theorem OrdersTo.succ (h:OrdersTo p k) (h1:OrderOk p (p.qB[k]!)):OrdersTo p (k+1):=fun j hj=>by
 by_cases e:j=k
 ·subst e;exact h1
 ·exact h j qf
def yw (p:zF):Prop:=(1<=p.qA/\p.qA<=3)/\(1<=p.qB.length/\p.qB.length<=6)/\OrdersTo p p.qB.length
def PMode (m:Int):Prop:=1<=m/\m<=3
def zg (p:zF):Nat->Int
 | 0=>0
 | k+1=>zg p k+(if (p.qB[k]!).fOp=2 then 1 else 0)
theorem subsTo_le (p:zF) (k:Nat):0<=zg p k/\zg p k<=k:=by
 induction k with
 | zero=>exact ⟨Int.le_refl _,Int.le_refl _⟩
 | succ k ih=>rw [zg];split <;> omega
theorem subsTo_mono (p:zF) (h:k<=n):zg p k<=zg p n:=by
  induction n with
  | zero => obtain rfl : k = 0 := by omega
            exact Int.le_refl _
  | succ n ih=>
    by_cases e:k=n+1
    · subst e;exact Int.le_refl _
    · have:=ih qf
      rw [zg];split <;> omega
theorem subs_yes (h:(p.qB[k]!).fOp=2):zg p k+1=zg p (k+1):=by rw [zg,if_pos h]
theorem subs_no (h:(p.qB[k]!).fOp≠2):zg p k=zg p (k+1):=by rw [zg,if_neg h,Int.add_zero]
def qQ (p:zF) (mode:Int):Int:=p.qA+p.qB.length+1+(if mode=3 then zg p p.qB.length+1 else 0)
theorem kinds_trap (h:mode=3):p.qA+p.qB.length+1+(zg p p.qB.length+1)=qQ p mode:=by unfold qQ;rw [if_pos h]
theorem kinds_else (h:mode≠3):p.qA+p.qB.length+1=qQ p mode:=by unfold qQ;rw [if_neg h,Int.add_zero]
theorem Qg (p:zF) (mode:Int):p.qA+p.qB.length+1<=qQ p mode/\qQ p mode<=p.qA+2 * p.qB.length+2:=by
 have:=subsTo_le p p.qB.length
 unfold qQ;split <;> omega
theorem yF (h:yw p) (mode:Int):qQ p mode<=17:=by
 have h1:=Qg p mode
 have h2:=h.1
 have h3:=h.2.1
 omega
def incL (b:yLI) (k:Int):yLI:=b.set k.toNat (b[k.toNat]! +1)
theorem incL_len (b:yLI) (k:Int):(incL b k).length=b.length:=List.length_set ..
def bagTo (n:Nat) (ks:yLI) (i:Nat):yLI:=(ks.take i).foldl incL (List.replicate n 0)
theorem bagTo_len (n:Nat) (ks:yLI) (i:Nat):(bagTo n ks i).length=n:=by
 have key:∀ (ks acc:yLI),(ks.foldl incL acc).length=acc.length:=by
  intro ks
  induction ks with
  | nil=>exact fun _=>rfl
  | cons k ks ih=>intro acc;rw [List.foldl_cons,ih,incL_len]
 unfold bagTo;rw [key,List.length_replicate]
theorem bagTo_succ (h:i < ks.length):(bagTo n ks i).set (ks[i]!).toNat ((bagTo n ks i)[(ks[i]!).toNat]! +1)=bagTo n ks (i+1):=by
 unfold bagTo
 rw [← take_snoc h,List.foldl_append];rfl
theorem bagTo_ge (j:Nat):0<=(bagTo n ks i)[j]! /\(bagTo n ks i)[j]! <=i:=by
 induction i with
 | zero=>
  unfold bagTo
  simp only [List.take_zero,List.foldl_nil]
  by_cases h:j < n
  ·rw [getElem!_pos (List.replicate n (0:Int)) j (by simpa using h)];simp
  ·rw [getElem!_neg (List.replicate n (0:Int)) j (by simpa using h)];exact ⟨Int.le_refl _,Int.le_refl _⟩
 | succ i ih=>
  by_cases h:i < ks.length
  ·rw [← bagTo_succ h]
   by_cases hj:j < (bagTo n ks i).length
   ·rw [getElem!_pos ((bagTo n ks i).set (ks[i]!).toNat ((bagTo n ks i)[(ks[i]!).toNat]! +1)) j (by simpa using hj),List.getElem_set]
    rw [getElem!_pos (bagTo n ks i) j hj] at ih
    split
    ·rename_i e
     rw [e,getElem!_pos (bagTo n ks i) j hj];omega
    ·omega
   ·rw [getElem!_neg ((bagTo n ks i).set (ks[i]!).toNat ((bagTo n ks i)[(ks[i]!).toNat]! +1)) j (by simpa using hj)]
    exact ⟨Int.le_refl _,by show (0:Int)<=_;omega⟩
  ·have e:bagTo n ks (i+1)=bagTo n ks i:=by unfold bagTo;rw [List.take_of_length_le qf,List.take_of_length_le qf]
   rw [e];omega
theorem bagTo_zero (n:Nat) (ks:yLI):bagTo n ks 0=List.replicate n 0:=rfl
def vZ (K:Int) (ks:yLI):Prop:=∀ j,j < ks.length->0<=ks[j]! /\ks[j]! < K
theorem vZ.at {K:Int} (h:vZ K ks) (hi:i < ks.length):0<=ks[i]! /\ks[i]! < K:=h i hi
theorem vZ.nil (K:Int):vZ K []:=fun j hj=>by simp at hj
theorem vZ.one {K a:Int} (h:0<=a/\a < K):vZ K [a]:=fun j hj=>by
 obtain rfl:j=0:=by simpa using hj
 exact h
theorem vZ.two {K a b:Int} (h:0<=a/\a < K) (h2:0<=b/\b < K):vZ K [a,b]:=fun j hj=>by
 rcases (show j=0\/j=1 by simp at hj;omega) with rfl | rfl
 ·exact h
 ·exact h2
def je (n:Nat) (ks:yLI):yLI:=bagTo n ks ks.length
theorem bagK_len (n:Nat) (ks:yLI):(je n ks).length=n:=bagTo_len _ _ _
def zM (n:Nat) (rank:Int) (need have_ lack here:yLI):zZ:=⟨0,rank,je n need,je n have_,je n lack,je n here,je n [],[],false⟩
theorem bagK_snoc (n:Nat) (ks:yLI) (k:Int):(je n ks).set k.toNat ((je n ks)[k.toNat]! +1)=je n (ks++[k]):=by
 unfold je bagTo
 rw [List.take_of_length_le (Nat.le_refl _),List.take_of_length_le (Nat.le_refl _),List.foldl_append];rfl
section
variable {lr z : List zZ} {n i : Nat} {rk k : Int} {nd hv lk hr : yLI}
theorem last_at (hi:i=lr.length):(lr++[r])[i]! =r:=by subst hi;simp
theorem last_set (hi:i=lr.length) {r':zZ}:(lr++[r]).set i r' =lr++[r']:=by subst hi;simp
theorem rule_new (lr:List zZ) (n:Nat) (nd:yLI) (to:Int):(lr++[zM n 0 nd [] [] [to]]).length=lr.length+1∧
 ((lr++[zM n 0 nd [] [] [to]])[lr.length]!).vJ.length=n/\((lr++[zM n 0 nd [] [] [to]])[lr.length]!).vY.length=n/\((lr++[zM n 0 nd [] [] [to]])[lr.length]!).vw.length=n∧
 (∀ j:Nat,0<=((lr++[zM n 0 nd [] [] [to]])[lr.length]!).vJ[j]! /\((lr++[zM n 0 nd [] [] [to]])[lr.length]!).vJ[j]! <=1)/\(∀ j:Nat,0<=((lr++[zM n 0 nd [] [] [to]])[lr.length]!).vY[j]! /\((lr++[zM n 0 nd [] [] [to]])[lr.length]!).vY[j]! <=1)∧
  (∀ j:Nat,0<=((lr++[zM n 0 nd [] [] [to]])[lr.length]!).vw[j]! /\((lr++[zM n 0 nd [] [] [to]])[lr.length]!).vw[j]! <=1):=by
 rw [last_at rfl]
 have z:∀ j:Nat,(0:Int)<=(je n [])[j]! /\(je n [])[j]! <=1:=fun j=>by
  have h:(0:Int)<=(je n [])[j]! /\(je n [])[j]! <=((0:Nat):Int):=bagTo_ge j
  omega
 exact ⟨by simp,bagK_len _ _,bagK_len _ _,bagK_len _ _,z,z,fun j=>bagTo_ge j⟩
theorem QL {z:List zZ} {nd:yLI} {to:Int} (e:z=lr++[zM n 0 nd [] [] [to]]):z.length=lr.length+1/\(z[lr.length]!).vJ.length=n/\(z[lr.length]!).vY.length=n/\(z[lr.length]!).vw.length=n∧
 (∀ j:Nat,0<=(z[lr.length]!).vJ[j]! /\(z[lr.length]!).vJ[j]! <=1)/\(∀ j:Nat,0<=(z[lr.length]!).vY[j]! /\(z[lr.length]!).vY[j]! <=1)/\(∀ j:Nat,0<=(z[lr.length]!).vw[j]! /\(z[lr.length]!).vw[j]! <=1):=by
 rw [e];exact rule_new lr n nd to
theorem last_len {z:List zZ} (e:z=lr++[r]):z.length=lr.length+1:=by rw [e];simp
theorem up1 {x:Int} (h:0<=x/\x<=1): -9223372036854775808<=x+1/\x+1<=9223372036854775807:=by omega
theorem poke_here (hi:i=lr.length):(lr++[zM n rk nd hv lk hr]).set i { (lr++[zM n rk nd hv lk hr])[i]! with vw:=(((lr++[zM n rk nd hv lk hr])[i]!).vw).set k.toNat ((((lr++[zM n rk nd hv lk hr])[i]!).vw)[k.toNat]! +1)}=lr++[zM n rk nd hv lk (hr++[k])]:=by
 rw [last_at hi,last_set hi]
 show lr++[(⟨_,_,_,_,_,(je n hr).set k.toNat ((je n hr)[k.toNat]! +1),_,_,_⟩:zZ)]=_
 rw [bagK_snoc];rfl
theorem poke_have (hi:i=lr.length):(lr++[zM n rk nd hv lk hr]).set i { (lr++[zM n rk nd hv lk hr])[i]! with vJ:=(((lr++[zM n rk nd hv lk hr])[i]!).vJ).set k.toNat ((((lr++[zM n rk nd hv lk hr])[i]!).vJ)[k.toNat]! +1)}=lr++[zM n rk nd (hv++[k]) lk hr]:=by
 rw [last_at hi,last_set hi]
 show lr++[(⟨_,_,_,(je n hv).set k.toNat ((je n hv)[k.toNat]! +1),_,_,_,_,_⟩:zZ)]=_
 rw [bagK_snoc];rfl
theorem poke_lack (hi:i=lr.length):(lr++[zM n rk nd hv lk hr]).set i { (lr++[zM n rk nd hv lk hr])[i]! with vY:=(((lr++[zM n rk nd hv lk hr])[i]!).vY).set k.toNat ((((lr++[zM n rk nd hv lk hr])[i]!).vY)[k.toNat]! +1)}=lr++[zM n rk nd hv (lk++[k]) hr]:=by
 rw [last_at hi,last_set hi]
 show lr++[(⟨_,_,_,_,(je n lk).set k.toNat ((je n lk)[k.toNat]! +1),_,_,_,_⟩:zZ)]=_
 rw [bagK_snoc];rfl
theorem poke_rank (hi:i=lr.length):(lr++[zM n rk nd hv lk hr]).set i { (lr++[zM n rk nd hv lk hr])[i]! with jR:=k }=lr++[zM n k nd hv lk hr]:=by
 rw [last_at hi,last_set hi];rfl
theorem pokeE_here (e:z=lr++[zM n rk nd hv lk hr]) (e2:z' =z.set lr.length { z[lr.length]! with vw:=((z[lr.length]!).vw).set k.toNat (((z[lr.length]!).vw)[k.toNat]! +1)}):z' =lr++[zM n rk nd hv lk (hr++[k])]:=by rw [e2,e];exact poke_here rfl
theorem pokeE_have (e:z=lr++[zM n rk nd hv lk hr]) (e2:z' =z.set lr.length { z[lr.length]! with vJ:=((z[lr.length]!).vJ).set k.toNat (((z[lr.length]!).vJ)[k.toNat]! +1)}):z' =lr++[zM n rk nd (hv++[k]) lk hr]:=by rw [e2,e];exact poke_have rfl
theorem pokeE_lack (e:z=lr++[zM n rk nd hv lk hr]) (e2:z' =z.set lr.length { z[lr.length]! with vY:=((z[lr.length]!).vY).set k.toNat (((z[lr.length]!).vY)[k.toNat]! +1)}):z' =lr++[zM n rk nd hv (lk++[k]) hr]:=by rw [e2,e];exact poke_lack rfl
theorem pokeE_rank (e:z=lr++[zM n rk nd hv lk hr]) (e2:z' =z.set lr.length { z[lr.length]! with jR:=k }):z' =lr++[zM n k nd hv lk hr]:=by rw [e2,e];exact poke_rank rfl
end
def rulesOf (p:zF) (mode:Int) (i:Nat):List zZ:=
 if (p.qB[i]!).fOp=1 then
  (if (p.qB[i]!).zf=(p.qB[i]!).fTo then [zM (qQ p mode).toNat 0 [p.qA+i] [] [] [(p.qB[i]!).zn,p.qA+(p.qB[i]!).fTo]]
   else [zM (qQ p mode).toNat 0 [p.qA+i] [] [] [(p.qB[i]!).zn,p.qA+(p.qB[i]!).fTo],zM (qQ p mode).toNat 0 [p.qA+i] [] [] [(p.qB[i]!).zn,p.qA+(p.qB[i]!).zf]])
 else if (p.qB[i]!).fOp≠2 then []
 else if mode=1 then [zM (qQ p mode).toNat 1 [p.qA+i,(p.qB[i]!).zn] [] [] [p.qA+(p.qB[i]!).fTo],zM (qQ p mode).toNat 0 [p.qA+i] [] [] [p.qA+(p.qB[i]!).zf]]
 else if mode=2 then [zM (qQ p mode).toNat 0 [p.qA+i,(p.qB[i]!).zn] [] [] [p.qA+(p.qB[i]!).fTo],zM (qQ p mode).toNat 0 [p.qA+i] [] [(p.qB[i]!).zn] [p.qA+(p.qB[i]!).zf]]
 else [zM (qQ p mode).toNat 0 [p.qA+i,(p.qB[i]!).zn] [] [] [p.qA+(p.qB[i]!).fTo],zM (qQ p mode).toNat 0 [p.qA+i] [] [] [p.qA+p.qB.length+1+zg p i],
  zM (qQ p mode).toNat 0 [p.qA+p.qB.length+1+zg p i] [] [] [p.qA+(p.qB[i]!).zf],zM (qQ p mode).toNat 0 [(p.qB[i]!).zn] [p.qA+p.qB.length+1+zg p i] [] [qQ p mode - 1]]
theorem rulesOf_len (p:zF) (mode:Int) (i:Nat):(rulesOf p mode i).length<=4:=by
 unfold rulesOf
 repeat' split
 all_goals simp
def xk (p:zF) (mode:Int):Nat->List zZ
 | 0=>[]
 | k+1=>xk p mode k++rulesOf p mode k
theorem rulesTo_len (p:zF) (mode:Int) (k:Nat):(xk p mode k).length<=4 * k:=by
 induction k with
 | zero=>simp [xk]
 | succ k ih=>have:=rulesOf_len p mode k;rw [xk,List.length_append];omega
def jO (p:zF) (mode:Int):List zZ:=xk p mode p.qB.length++(if mode=3 then [zM (qQ p mode).toNat 0 [qQ p mode - 1] [] [] [qQ p mode - 1]] else [])
theorem prules_trap (h:mode=3):xk p mode p.qB.length++[zM (qQ p mode).toNat 0 [qQ p mode - 1] [] [] [qQ p mode - 1]]=jO p mode:=by unfold jO;rw [if_pos h]
theorem prules_else (h:mode≠3):xk p mode p.qB.length=jO p mode:=by unfold jO;rw [if_neg h,List.append_nil]
def Qh (p:zF) (mode:Int) (k:Nat):yLI:=(List.range k).map fun i=>((xk p mode i).length:Int)
theorem firsts_succ (p:zF) (mode:Int) (k:Nat):Qh p mode k++[((xk p mode k).length:Int)]=Qh p mode (k+1):=by unfold Qh;rw [List.range_succ,List.map_append];rfl
theorem firsts_len (p:zF) (mode:Int) (k:Nat):(Qh p mode k).length=k:=by simp [Qh]
def zC (p:zF) (mode:Int):qG:=⟨qQ p mode,[-1],jO p mode⟩
theorem progSys_eq {R:List zZ} (h:R=jO p mode):zC p mode=⟨qQ p mode,[-1],R⟩:=by rw [h];rfl
section
variable {p : zF} {mode : Int} {i : Nat}
theorem QU (h:(p.qB[i]!).fOp=1) (h2:(p.qB[i]!).zf=(p.qB[i]!).fTo):xk p mode i++[zM (qQ p mode).toNat 0 [p.qA+i] [] [] [(p.qB[i]!).zn,p.qA+(p.qB[i]!).fTo]]=xk p mode (i+1):=by
 rw [xk,rulesOf,if_pos h,if_pos h2]
theorem QT (h:(p.qB[i]!).fOp=1) (h2:(p.qB[i]!).zf≠(p.qB[i]!).fTo):xk p mode i++[zM (qQ p mode).toNat 0 [p.qA+i] [] [] [(p.qB[i]!).zn,p.qA+(p.qB[i]!).fTo]]++[zM (qQ p mode).toNat 0 [p.qA+i] [] [] [(p.qB[i]!).zn,p.qA+(p.qB[i]!).zf]]=xk p mode (i+1):=by
 rw [xk,rulesOf,if_pos h,if_neg h2,List.append_assoc];rfl
theorem QD (h:(p.qB[i]!).fOp≠1) (h2:(p.qB[i]!).fOp≠2):xk p mode i=xk p mode (i+1):=by
 rw [xk,rulesOf,if_neg h,if_pos h2,List.append_nil]
theorem QB (h:(p.qB[i]!).fOp=2) (hm:mode=1):xk p mode i++[zM (qQ p mode).toNat 1 [p.qA+i,(p.qB[i]!).zn] [] [] [p.qA+(p.qB[i]!).fTo]]++[zM (qQ p mode).toNat 0 [p.qA+i] [] [] [p.qA+(p.qB[i]!).zf]]=xk p mode (i+1):=by
 rw [xk,rulesOf,if_neg qf,if_neg qf,if_pos hm,List.append_assoc];rfl
theorem QC (h:(p.qB[i]!).fOp=2) (hm:mode=2):xk p mode i++[zM (qQ p mode).toNat 0 [p.qA+i,(p.qB[i]!).zn] [] [] [p.qA+(p.qB[i]!).fTo]]++[zM (qQ p mode).toNat 0 [p.qA+i] [] [(p.qB[i]!).zn] [p.qA+(p.qB[i]!).zf]]=xk p mode (i+1):=by
 rw [xk,rulesOf,if_neg qf,if_neg qf,if_neg qf,if_pos hm,List.append_assoc];rfl
theorem QA (h:(p.qB[i]!).fOp=2) (h1:mode≠1) (h2:mode≠2):xk p mode i++[zM (qQ p mode).toNat 0 [p.qA+i,(p.qB[i]!).zn] [] [] [p.qA+(p.qB[i]!).fTo]]++[zM (qQ p mode).toNat 0 [p.qA+i] [] [] [p.qA+p.qB.length+1+zg p i]]++[zM (qQ p mode).toNat 0 [p.qA+p.qB.length+1+zg p i] [] [] [p.qA+(p.qB[i]!).zf]]++[zM (qQ p mode).toNat 0 [(p.qB[i]!).zn] [p.qA+p.qB.length+1+zg p i] [] [qQ p mode - 1]]=xk p mode (i+1):=by
 rw [xk,rulesOf,if_neg qf,if_neg qf,if_neg h1,if_neg h2,List.append_assoc,List.append_assoc,List.append_assoc];rfl
end
def putTo (n:Nat) (l:yLI) (k:Nat):yLI:=l.take k++List.replicate (n - k) 0
theorem putTo_zero (n:Nat) (l:yLI):putTo n l 0=List.replicate n 0:=by simp [putTo]
theorem putTo_len (h:k<=l.length) (h2:k<=n):(putTo n l k).length=n:=by simp [putTo];omega
theorem putTo_succ (h:k < l.length) (h2:k < n):(putTo n l k).set k (l[k]!)=putTo n l (k+1):=by
 unfold putTo
 rw [List.set_append_right _ _ (by rw [List.length_take];omega),List.length_take,show k - min k l.length=0 by omega,show n - k=(n - (k+1))+1 by omega,List.replicate_succ,List.set_cons_zero,← take_snoc h,List.append_assoc];rfl
def stK (p:zF) (n:Nat) (c:vS):qH:=⟨[true],[(c.XW++List.replicate (n - c.XW.length) 0).set (p.qA+c.fAt).toNat 1],List.replicate n 0⟩
theorem put_up (h:l.length<=j):(putTo n l l.length).set j ((putTo n l l.length)[j]! +1)=(l++List.replicate (n - l.length) 0).set j 1:=by
 have e:putTo n l l.length=l++List.replicate (n - l.length) 0:=by unfold putTo;rw [List.take_length]
 rw [e]
 by_cases hj:j < (l++List.replicate (n - l.length) (0:Int)).length
 ·rw [getElem!_pos _ j hj,List.getElem_append_right h];simp
 ·rw [List.set_eq_of_length_le qf,List.set_eq_of_length_le qf]
theorem put_zero (h:l.length<=j):(putTo n l l.length)[j]! =0:=by
 have e:putTo n l l.length=l++List.replicate (n - l.length) 0:=by unfold putTo;rw [List.take_length]
 rw [e]
 by_cases hj:j < (l++List.replicate (n - l.length) (0:Int)).length
 ·rw [getElem!_pos _ j hj,List.getElem_append_right h];simp
 ·rw [getElem!_neg _ j hj];rfl
theorem stK_eq {c:vS} (h:i=c.XW.length) (hr:c.XW.length<=(p.qA+c.fAt).toNat):
 stK p n c=⟨[true],[(putTo n c.XW i).set (p.qA+c.fAt).toNat ((putTo n c.XW i)[(p.qA+c.fAt).toNat]! +1)],List.replicate n 0⟩:=by subst h;rw [put_up hr];rfl
def zq (p:zF) (mode:Int) (c:vS):qH:=stK p (qQ p mode).toNat c
theorem stP_eq (p:zF) (mode:Int) (c:vS):zq p mode c=⟨[true],[(c.XW++(List.replicate (qQ p mode).toNat (0:Int)).drop c.XW.length).set (p.qA+c.fAt).toNat 1],List.replicate (qQ p mode).toNat 0⟩:=by
 rw [List.drop_replicate];rfl
theorem stP_len (h:(l.length:Int)<=qQ p mode):(l++(List.replicate (qQ p mode).toNat (0:Int)).drop l.length).length=(qQ p mode).toNat:=by
 rw [List.length_append,List.length_drop,List.length_replicate];omega
open Classical in
noncomputable def mdCode (p:zF) (mode:Int) (right:Prop):Int:=if ¬ yw p then 1 else if ¬ (PMode mode/\right) then 2 else if 8 < qQ p mode\/8 < (jO p mode).length then 3 else 0
section
variable {p : zF} {mode : Int} {right : Prop}
theorem md_1 (h:¬ yw p):mdCode p mode right=1:=if_pos h
theorem md_2 (h:yw p) (h2:¬ (PMode mode/\right)):mdCode p mode right=2:=(if_neg (fun n=>n h)).trans (if_pos h2)
theorem md_3 (h:yw p) (h2:PMode mode) (h3:right) (h4:8 < qQ p mode\/8 < (jO p mode).length):mdCode p mode right=3:=(if_neg (fun n=>n h)).trans ((if_neg (fun n=>n ⟨h2,h3⟩)).trans (if_pos h4))
theorem md_0 (h:yw p) (h2:PMode mode) (h3:right) (h4:qQ p mode<=8) (h5:(jO p mode).length<=8):mdCode p mode right=0:=(if_neg (fun n=>n h)).trans ((if_neg (fun n=>n ⟨h2,h3⟩)).trans (if_neg qf))
end
end
section
structure OwnI (e:TypeId) where
 l:yLI
instance (e:TypeId):Inhabited (OwnI e):=⟨⟨[]⟩⟩
def OwnAt (e:TypeId) (w:World) (F:yLN) (v:Value) (l:yLI):Prop:=
 (v=Sv none 0 0/\l=[]/\F=[])\/∃ g cap cur,v=Sv (some ⟨g,0,none⟩) l.length cap/\F=[g]/\w.heap[g]? =some (.cells cur e (0,0))/\l.length<=cap/\cap<=maxLen/\cur.size=cap/\cur.toList.take l.length=l.map (Value.int .i64)
theorem OwnAt.slice (h:OwnAt e w F v l):∃ a c,v=Sv a l.length c:=by
 rcases h with ⟨rfl,rfl,_⟩ | ⟨g,cap,cur,rfl,_⟩
 ·exact ⟨none,0,rfl⟩
 ·exact ⟨_,_,rfl⟩
instance (e:TypeId):qK (OwnI e) where
 size:=1
 rep:=fun w F cs x=>∃ v,cs=[v]/\OwnAt e w F v x.l
 len:=by rintro w F cs x ⟨v,rfl,_⟩;rfl
 one:=by
  rintro w F cs x ⟨v,rfl,h⟩ u hu
  simp only [List.mem_singleton] at hu
  subst hu
  obtain ⟨a,c,rfl⟩:=h.slice
  rfl
 lt:=by
  rintro w F cs x ⟨v,rfl,h⟩ b hb
  rcases h with ⟨_,_,rfl⟩ | ⟨g,cap,cur,_,rfl,hg,_⟩
  ·simp at hb
  ·obtain rfl:=List.mem_singleton.1 hb
   exact (Array.getElem?_eq_some_iff.1 hg).1
 stay:=by
  rintro w w' F cs x ⟨v,rfl,h⟩ hs
  refine ⟨v,rfl,?_⟩
  rcases h with h | ⟨g,cap,cur,h1,rfl,hg,h2⟩
  ·exact Or.inl h
  ·exact Or.inr ⟨g,cap,cur,h1,rfl,(hs g qm).trans hg,h2⟩
theorem OwnAt.rep (h:OwnAt e w F v l):qK.rep w F [v] l:=by
 rcases h with ⟨rfl,rfl,rfl⟩ | ⟨g,cap,cur,rfl,rfl,hg,h1,h2,h3,h4⟩
 ·exact ⟨none,0,rfl,by simp,Or.inl ⟨rfl,rfl⟩⟩
 ·refine ⟨_,cap,rfl,by unfold maxLen at h2;omega,Or.inr ⟨g,0,[],_,rfl,rfl,(Array.getElem?_eq_some_iff.1 hg).1,reps_of_ints w l,?_⟩⟩
  intro i u hi
  rw [Nat.zero_add,World.cell?,hg]
  rw [← h4,List.getElem?_take] at hi
  split at hi
  ·simpa using hi
  ·cases hi
theorem reps_ofOwn {e:TypeId} {w:World}:∀ {F:yLN} {xs:List Value} {l:List (OwnI e)},reps w F xs l->reps w F xs (l.map OwnI.l)
 | _,_,[],h=>h
 | _,_,x::l,⟨F1,F2,c1,c2,hF,hv,⟨v,hc,h1⟩,h2⟩=>⟨F1,F2,c1,c2,hF,hv,hc▸h1.rep,reps_ofOwn h2⟩
section
variable {W0 w : World} {ps : List Prv} {Γ : List Fact}
theorem St.ofOwn (H:St W0 w ps Γ) (j:Nat) {l:List (OwnI e)} (hf:Γ[j]? =some (xN fr F xs l)):St W0 w ps (xN fr F xs (l.map OwnI.l)::Γ):=
 H.jy j hf _ ⟨reps_ofOwn (H.get j hf).1,(H.get j hf).2⟩ fun _ h=>h
theorem St.rowCountO (H:St W0 w ps Γ) (k:Nat) (hp:ps[k]? =some (.row v e2 1 nn xs)) (j:Nat) {l:List (OwnI e)} (hf:Γ[j]? =some (xN fr F xs l)):nn=l.length:=
 H.xB (α:=OwnI e) k hp j hf (show 0 < qK.size (OwnI e) from Nat.one_pos)
theorem St.openI (H:St W0 w ps Γ) (k:Nat) {b:Nat} (hp:ps[k]? =some (.row (Sv (some ⟨b,0,none⟩) nn c') e2 1 nn xs)) (j:Nat) {l:List (OwnI e)} (hf:Γ[j]? =some (xN true F xs l))
 {L:List yLN} (N:Fresh W0.heap.size (F::L)) {iv:Int} (c:Nat) (hi:iv.toNat=c) (hc:c < nn) (Γ' :List Fact) (hΓ:∀ f∈Γ',f∈Γ/\∀ x∈f.F,x∉F):
 ∃ a m F',w.cell? ⟨b,0+iv.toNat * 1,none⟩=some (Sv a (l[c]!).l.length m)/\Fresh W0.heap.size (F'::L)∧
  St W0 w (.row (Sv a (l[c]!).l.length m) e 1 (l[c]!).l.length ((l[c]!).l.map (Value.int .i64))::ps) (xN true F' (xs.set c (Sv none 0 0)) (l.set c ⟨[]⟩)::Γ'):=by
 subst hi
 have hn:nn=l.length:=H.rowCountO k hp j hf
 have hlen:=H.rowLen k hp
 have hF:=(H.facts _ (List.mem_of_getElem? hf)).2
 obtain ⟨F1,Fk,F2,v1,cs,v2,hFe,hxe,hl1,hl2,⟨u,rfl,hu⟩,hr1,hr2⟩:=reps_get (H.get j hf).1 iv.toNat qf
 have hl1' :v1.length=iv.toNat:=by rw [hl1];exact Nat.mul_one _
 obtain ⟨a,m,rfl⟩:=hu.slice
 have el:l[iv.toNat]! =l[iv.toNat]:=getElem!_pos l _ qf
 have hxc:xs[iv.toNat]? =some (Sv a (l[iv.toNat]).l.length m):=by
  refine (congrArg (fun z:List Value=>z[iv.toNat]?) hxe).trans ?_
  show (v1++[_]++v2)[iv.toNat]? =_
  rw [List.append_assoc,List.getElem?_append_right qf]
  simp [hl1']
 have hset:xs.set iv.toNat (Sv none 0 0)=v1++[Sv none 0 0]++v2:=by
  rw [hxe,List.append_assoc,List.set_append_right _ _ qf]
  simp [hl1']
 have hlset:l.set iv.toNat (⟨[]⟩:OwnI e)=l.take iv.toNat++((⟨[]⟩:OwnI e)::l.drop (iv.toNat+1)):=by
  rw [List.set_eq_take_append_cons_drop,if_pos qf]
 have hreps:reps w (F1++F2) (xs.set iv.toNat (Sv none 0 0)) (l.set iv.toNat ⟨[]⟩):=by
  rw [hset,hlset,List.append_assoc]
  exact jJ hr1 ⟨[],F2,[Sv none 0 0],v2,rfl,rfl,⟨_,rfl,Or.inl ⟨rfl,rfl,rfl⟩⟩,hr2⟩
 have hndF:F.Nodup:=N.nd F qm
 have hsub:∀ x∈F1++F2,x∈F:=by
  intro x hx
  rw [hFe]
  simp only [List.mem_append] at hx ⊢
  rcases hx with h | h
  ·exact Or.inl (Or.inl h)
  ·exact Or.inr h
 have hkF:∀ x∈Fk,x∈F:=fun x hx=>by rw [hFe];simp [hx]
 have hdis:∀ x∈Fk,x∉F1++F2:=by
  intro x hx hx'
  rw [hFe] at hndF
  have h1:=List.nodup_append.1 hndF
  have h2:=List.nodup_append.1 h1.1
  rcases List.mem_append.1 hx' with h | h
  ·exact h2.2.2 x h x hx rfl
  ·exact h1.2.2 x (List.mem_append_right _ hx) x h rfl
 refine ⟨a,m,F1++F2,?_,N.less hsub (fun _=>?_),?_⟩
 ·rw [el]
  have:=H.rowGet k hp hxc
  rw [Nat.zero_add,Nat.mul_one]
  exact this
 ·rw [hFe] at hndF
  have h1:=List.nodup_append.1 hndF
  have h2:=List.nodup_append.1 h1.1
  exact List.nodup_append.2 ⟨h2.1,h1.2.1,fun x hx y hy=>h1.2.2 x (List.mem_append_left _ hx) y hy⟩
 ·rw [el]
  have hbk:∀ x,(Value.slice a (l[iv.toNat]).l.length m).ownBlock=some x->Fk=[x]:=by
   intro x hx
   rcases hu with ⟨h,_,_⟩ | ⟨g,cap,cur,h,hg,_⟩
   ·injection h with h1;subst h1;simp [Value.ownBlock] at hx
   ·injection h with h1;subst h1
    simp only [Value.ownBlock,Option.some.injEq] at hx
    rw [hg,hx]
  have hzero:jq (.row (Sv a (l[iv.toNat]).l.length m) e 1 (l[iv.toNat]).l.length ((l[iv.toNat]).l.map (Value.int .i64))::ps) 0=(Value.slice a (l[iv.toNat]).l.length m).ownBlock:=rfl
  refine ⟨H.base,fun p hp' =>?_,fun i i' x h1 h2=>?_,fun f hf' =>?_⟩
  ·rcases List.mem_cons.1 hp' with rfl | h
   ·refine ⟨by simp,?_⟩
    rcases hu with ⟨h,hl,_⟩ | ⟨g,cap,cur,h,hg,hh,h1,h2,h3,h4⟩
    ·exact Or.inl ⟨h,by rw [hl];rfl⟩
    ·exact Or.inr ⟨g,cap,cur,h,N.ge F qm g (hkF g (by simp [hg])),hh,h1,h2,by omega,by rw [Nat.mul_one];exact h4⟩
   ·exact H.has p h
  ·cases i with
   | zero=>
    cases i' with
    | zero=>rfl
    | succ i' =>
     rw [hzero] at h1
     have:=hbk x h1
     exact absurd h2 ((hF x (hkF x (by simp [this]))).2 i')
   | succ i=>
    cases i' with
    | zero=>
     rw [hzero] at h2
     have:=hbk x h2
     exact absurd h1 ((hF x (hkF x (by simp [this]))).2 i)
    | succ i' =>rw [H.dist i i' x h1 h2]
  ·have key:∀ x,x < w.heap.size->(∀ i,jq ps i≠some x)->x∉Fk->∀ i,jq (.row (Sv a (l[iv.toNat]).l.length m) e 1 (l[iv.toNat]).l.length ((l[iv.toNat]).l.map (Value.int .i64))::ps) i≠some x:=by
    intro x _ h2 h3 i
    cases i with
    | zero=>intro h;rw [hzero] at h;exact h3 (by simp [hbk x h])
    | succ i=>exact h2 i
   rcases List.mem_cons.1 hf' with rfl | h
   ·refine ⟨⟨hreps,fun _ x hx=>(H.get j hf).2 rfl x (hsub x hx)⟩,fun x hx=>⟨(hF x (hsub x hx)).1,key x (hF x (hsub x hx)).1 (hF x (hsub x hx)).2 fun h=>hdis x h hx⟩⟩
   ·obtain ⟨h1,h2⟩:=hΓ f h
    have h3:=H.facts f h1
    exact ⟨h3.1,fun x hx=>⟨(h3.2 x hx).1,key x (h3.2 x hx).1 (h3.2 x hx).2 fun h=>h2 x hx (hkF x h)⟩⟩
end
section
variable {P : Program} {Q : Exit -> Act -> World -> Prop} {n : Nat} {ρ : Env} {W0 w : World} {ps : List Prv} {Γ : List Fact}
 {d:Nat} {ty:TypeId} {pos:String} {af:Array Edge} {K:Env->World->Prop}
theorem o_closeI [Dfr] {t:TypeId} {b:Nat} (H:St W0 w ps Γ) (k:Nat) (hp:ps[k]? =some (.row (Sv (some ⟨b,0,none⟩) nn c') e2 1 nn xs)) (i:Nat) (hik:i≠k) {m:Nat} {z:yLI}
 (hq:ps[i]? =some (.row v e 1 m (z.map (Value.int .i64)))) (j:Nat) {F:yLN} {l:List (OwnI e)} {c:Nat} (hf:Γ[j]? =some (xN true F (xs.set c (Sv none 0 0)) l)) {L:List yLN} (N:Fresh W0.heap.size (F::L))
 (ha:∀ K∈L,∀ b∈K,∀ i,jq ps i≠some b)
 {iv:Int} (hs:∀ w,(Go.sizeOf t).run P w=.ok 1 w) (hx:ev n ρ x=.pointer (some ⟨b,0+iv.toNat * 1,none⟩)) (hy:ev n ρ y=v) (hi:iv.toNat=c) (h2:c < nn)
 (kk:∀ w' F',Fresh W0.heap.size (F'::L)->St W0 w' ((ps.set i (.row (Sv none 0 0) 0 1 0 [])).set k (.row (Sv (some ⟨b,0,none⟩) nn c') e2 1 nn (xs.set c v))) (xN true F' (xs.set c v) (l.set c ⟨z⟩)::Γ)->K ρ w'):
 OW P Q ⟨none,.store t x y,ty,pos,af,none⟩ n ρ w K:=by
 subst hi
 have hxl:=H.rowLen k hp
 have hll:(xs.set iv.toNat (Sv none 0 0)).length=l.length * 1:=XA (H.get j hf).1
 rw [List.length_set] at hll
 have hF:=(H.facts _ (List.mem_of_getElem? hf)).2
 have ho:=(H.has _ (List.mem_of_getElem? hq):w.ownsRow W0.heap.size e 1 v m (z.map (Value.int .i64)))
 have hm:m=z.length:=by have:=ho.1;simp at this;omega
 subst hm
 obtain ⟨G,hG,hGb,hGf⟩:∃ G,OwnAt e w G v z/\(∀ x∈G,jq ps i=some x)/\ve w G:=by
  rcases ho.2 with ⟨rfl,h0⟩ | ⟨g,cap,cur,rfl,hb,hg,hnc,hcm,hcs,htake⟩
  ·exact ⟨[],Or.inl ⟨rfl,List.eq_nil_of_length_eq_zero h0,rfl⟩,by simp,ve.nil _⟩
  ·refine ⟨[g],Or.inr ⟨g,cap,cur,rfl,rfl,hg,hnc,hcm,by omega,by rw [Nat.mul_one] at htake;exact htake⟩,fun x hx=>?_,fun x hx=>?_⟩
   ·obtain rfl:=List.mem_singleton.1 hx
    simp [jq,hq,Prv.blk,Value.ownBlock]
   ·obtain rfl:=List.mem_singleton.1 hx
    exact ⟨_,_,hg⟩
 have hgn:G.Nodup:=by
  rcases hG with ⟨_,_,rfl⟩ | ⟨g,cap,cur,_,rfl,_⟩ <;> simp
 have hset:∀ (b' i' :Nat),jq (ps.set i (.row (Sv none 0 0) 0 1 0 [])) i' =some b' ->i' ≠i/\jq ps i' =some b' :=by
  intro b' i' h
  unfold jq at h ⊢
  by_cases hi:i' =i
  ·subst hi
   rw [set_at hq] at h
   simp [Prv.blk,Value.ownBlock] at h
  ·rw [List.getElem?_set_ne (Ne.symm hi)] at h
   exact ⟨hi,h⟩
 obtain ⟨F',hr,hs1,hs2⟩:=reps_set (H.get j hf).1 (show qK.rep w G [v] (⟨z⟩:OwnI e) from ⟨v,rfl,hG⟩) iv.toNat qf
 have e1:(xs.set iv.toNat (Sv none 0 0)).take (iv.toNat * qK.size (OwnI e))++[v]++(xs.set iv.toNat (Sv none 0 0)).drop (iv.toNat * qK.size (OwnI e)+[v].length)=xs.set iv.toNat v:=by
  show (xs.set iv.toNat (Sv none 0 0)).take (iv.toNat * 1)++[v]++(xs.set iv.toNat (Sv none 0 0)).drop (iv.toNat * 1+1)=xs.set iv.toNat v
  rw [Nat.mul_one,List.take_set_of_le (Nat.le_refl _),List.drop_set_of_lt qf,List.set_eq_take_append_cons_drop,if_pos qf]
  simp
 rw [e1] at hr
 have hGF:∀ x∈G,x∉F:=fun x hx h=>(hF x h).2 i (hGb x hx)
 have hGL:∀ K∈L,∀ x∈K,x∉G:=fun K hK x hx h=>ha K hK x hx i (hGb x h)
 have N1:Fresh W0.heap.size (F'::L):=by
  have hge:∀ x∈G,W0.heap.size<=x:=fun x hx=>(Q5 H (hGb x hx)).1
  refine ⟨fun K hK=>?_,fun K hK x hx=>?_,?_⟩
  ·rcases List.mem_cons.1 hK with rfl | h
   ·exact hs2 (N.nd F qm) hgn fun x hx h=>hGF x h hx
   ·exact N.nd K (List.mem_cons_of_mem _ h)
  ·rcases List.mem_cons.1 hK with rfl | h
   ·rcases hs1 x hx with h | h
    ·exact N.ge F qm x h
    ·exact hge x h
   ·exact N.ge K (List.mem_cons_of_mem _ h) x hx
  ·have hd:=List.pairwise_cons.1 N.dj
   refine List.pairwise_cons.2 ⟨fun K hK x hx=>?_,hd.2⟩
   rcases hs1 x hx with h | h
   ·exact hd.1 K hK x h
   ·exact fun hxK=>hGL K hK x hxK h
 have H1:St W0 w (ps.set i (.row (Sv none 0 0) 0 1 0 [])) (xN true F' (xs.set iv.toNat v) (l.set iv.toNat ⟨z⟩)::Γ):=by
  refine (H.dead i hq).add _ ⟨hr,fun _ x hx=>?_⟩ fun x hx=>?_
  ·rcases hs1 x hx with h | h
   ·exact (H.get j hf).2 rfl x h
   ·exact hGf x h
  ·rcases hs1 x hx with h | h
   ·exact ⟨(hF x h).1,fun i' hi' =>(hF x h).2 i' (hset x i' hi').2⟩
   ·exact ⟨(Q5 H (hGb x h)).2,fun i' hi' =>(hset x i' hi').1 (H.dist i' i x (hset x i' hi').2 (hGb x h))⟩
 have hp1:(ps.set i (.row (Sv none 0 0) 0 1 0 []))[k]? =some (.row (Sv (some ⟨b,0,none⟩) nn c') e2 1 nn xs):=by rw [List.getElem?_set_ne hik];exact hp
 obtain ⟨a,cc,hv⟩:=hG.slice
 exact o_storeRow1 H1 k hp1 v hs hx hy (by rw [hv];rfl) h2 fun w' H' =>kk w' F' N1 H'
end
theorem keepA {B:Nat} {LA:List yLN} (A:∀ G∈LA,∀ b∈G,b < B) (N:Fresh B (F::L)) (js:yLN) (he:js.map (fun j=>Γ[j]?)=Γ'.map some) (hF:Γ'.map Fact.F=LA):∀ f∈Γ',f∈Γ/\∀ x∈f.F,x∉F:=fun f hf=>by
 constructor
 ·have h1:some f∈js.map (fun j=>Γ[j]?):=by rw [he];exact List.mem_map_of_mem hf
  obtain ⟨j,_,h2⟩:=List.mem_map.1 h1
  exact List.mem_of_getElem? h2
 ·intro x hx hxF
  have h1:=A f.F (by rw [← hF];exact List.mem_map_of_mem hf) x hx
  have h2:=N.ge F qm x hxF
  omega
section
variable {α : Type}
def pickL (l:List α) (n:Nat) (is:yLN):List α:=(is.filterMap fun i=>l[i]?)++l.drop n
def pickI (len n:Nat) (is:yLN):yLN:=is++(List.range (len - n)).map (·+n)
theorem pickI_map (l:List α) (n:Nat) (is:yLN) (h:is.all (fun i=>Nat.blt i n)=true) (hn:n<=l.length):(pickI l.length n is).map (fun i=>l[i]?)=(pickL l n is).map some:=by
 unfold pickI pickL
 rw [List.map_append,List.map_append]
 congr 1
 ·refine Xr l is ?_
  rw [List.all_eq_true] at h ⊢
  intro i hi
  have:=h i hi
  simp only [Nat.blt_eq] at this ⊢
  omega
 ·apply List.ext_getElem?
  intro i
  rcases Nat.lt_or_ge i (l.length - n) with h1 | h1
  ·simp [h1,Nat.add_comm]
  ·simp [h1]
theorem pickI_nodup (len n:Nat) (is:yLN) (h:is.all (fun i=>Nat.blt i n)=true) (hd:is.Nodup):(pickI len n is).Nodup:=by
 unfold pickI
 refine List.nodup_append.2 ⟨hd,?_,?_⟩
 ·exact List.Pairwise.map _ (fun a b (hab:a≠b)=>by omega) List.nodup_range
 ·intro a ha b hb
  rw [List.all_eq_true] at h
  have:=h a ha
  simp only [Nat.blt_eq] at this
  obtain ⟨c,_,rfl⟩:=List.mem_map.1 hb
  omega
end
section
variable {W0 w : World} {ps : List Prv} {Γ : List Fact}
theorem St.vW (H:St W0 w ps Γ) (n m:Nat) (is js:yLN) (hn:n<=ps.length) (hm:m<=Γ.length) (hi:is.all (fun i=>Nat.blt i n)=true:=by exact rfl) (hj:js.all (fun i=>Nat.blt i m)=true:=by exact rfl) (hd:is.Nodup:=by decide):
 St W0 w (pickL ps n is) (pickL Γ m js):=
 H.pick (pickI ps.length n is) (pickI Γ.length m js) (pickI_map ps n is hi hn) (pickI_map Γ m js hj hm) (pickI_nodup _ _ _ hi hd)
theorem St.pickE {ps' :List Prv} {Γ' :List Fact} (H:St W0 w ps Γ) (n m:Nat) (is js:yLN) (hn:n<=ps.length) (hm:m<=Γ.length)
 (hp:pickL ps n is=ps' :=by simp only [pickL,List.filterMap_cons,List.filterMap_nil,List.getElem?_cons_zero,List.getElem?_cons_succ,List.drop_succ_cons,List.drop_zero,List.cons_append,List.nil_append];exact rfl)
 (hg:pickL Γ m js=Γ' :=by simp only [pickL,List.filterMap_cons,List.filterMap_nil,List.getElem?_cons_zero,List.getElem?_cons_succ,List.drop_succ_cons,List.drop_zero,List.cons_append,List.nil_append];exact rfl)
 (hi:is.all (fun i=>Nat.blt i n)=true:=by exact rfl) (hj:js.all (fun i=>Nat.blt i m)=true:=by exact rfl) (hd:is.Nodup:=by decide):St W0 w ps' Γ' :=hp▸hg▸H.vW n m is js hn hm hi hj hd
theorem Fresh.vW {B:Nat} (N:Fresh B L) (n:Nat) (is:yLN) (hn:n<=L.length) (hi:is.all (fun i=>Nat.blt i n)=true:=by exact rfl) (hd:is.Nodup:=by decide):Fresh B (pickL L n is):=
 N.pick (pickI L.length n is) (pickI_map L n is hi hn) (pickI_nodup _ _ _ hi hd)
def Kept (Ns:List yLN) (Γ:List Fact):Prop:=∀ F∈Ns,∃ f∈Γ,f.F=F
theorem Kept.up (h:Kept Ns Γ) (f:Fact):Kept Ns (f::Γ):=fun F hF=>by
 obtain ⟨g,h1,h2⟩:=h F hF
 exact ⟨g,List.mem_cons_of_mem _ h1,h2⟩
theorem Kept.behind (h:Kept Ns Γ) (m:Nat) (e:Γ'.drop m=Γ):Kept Ns Γ' :=fun F hF=>by
 obtain ⟨g,h1,h2⟩:=h F hF
 exact ⟨g,List.mem_of_mem_drop (e▸h1),h2⟩
theorem Kept.nil (Γ:List Fact):Kept [] Γ:=fun F hF=>by cases hF
theorem Kept.cons (h:Kept Ns Γ) (i:Nat) (hf:Γ[i]? =some f) (e:f.F=F):Kept (F::Ns) Γ:=fun G hG=>by
 rcases List.mem_cons.1 hG with rfl | hG
 ·exact ⟨f,List.mem_of_getElem? hf,e⟩
 ·exact h G hG
theorem St.ltK (H:St W0 w ps Γ) (h:Kept Ns Γ):∀ F∈Ns,∀ b∈F,b < w.heap.size:=fun F hF b hb=>by
 obtain ⟨f,h1,h2⟩:=h F hF
 exact ((H.facts f h1).2 b (h2▸hb)).1
theorem St.XM (H:St W0 w ps Γ) (h:Kept Ns Γ):∀ F∈Ns,∀ b∈F,∀ i,jq ps i≠some b:=fun F hF b hb=>by
 obtain ⟨f,h1,h2⟩:=h F hF
 exact ((H.facts f h1).2 b (h2▸hb)).2
theorem all_two {M:List yLN} {p:Nat->Prop} (h1:∀ F∈L,∀ b∈F,p b) (h2:∀ F∈M,∀ b∈F,p b):∀ F∈L++M,∀ b∈F,p b:=fun F hF b hb=>
 (List.mem_append.1 hF).elim (fun h=>h1 F h b hb) fun h=>h2 F h b hb
end
theorem c_drawK2 [Dfr] {Q:Exit->Act->World->Prop} {l:List Oper} {id:Nat} (hm:P.follows .mixedOrders=true) (H:St W0 w ps Γ) (is js:yLN)
 (k:St W0 w.drew ps Γ->RW P l Q (fun w=>St W0 w (is.filterMap fun i=>ps[i]?) (js.filterMap fun i=>Γ[i]?)) n l.toArray.size (Array.replicate l.toArray.size false) ρ w.drew)
 (hi:is.all (fun i=>Nat.blt i ps.length)=true:=by simp) (hj:js.all (fun i=>Nat.blt i Γ.length)=true:=by simp) (hd:is.Nodup:=by decide):(Code.region id l.toArray true).wp P Q (mk n ρ) w:=by
 have H' :=H.ext (ext_drew _)
 exact c_draw (fun w=>St W0 w (is.filterMap fun i=>ps[i]?) (js.filterMap fun i=>Γ[i]?)) hm (H'.pick is js (Xr ps is hi) (Xr Γ js hj) hd) (k H')
theorem jg [Dfr] {Q:Exit->Act->World->Prop} {d:Nat} {ty:TypeId} {pos:String} {af:Array Edge} {K:Env->World->Prop} {xs:Array Operand} {ts:Array TypeId} {f:FuncId} {fst caps:Array Value} {R:Value->World->Prop} (args:Array Value) (hv:ev n ρ x=.func (.func f) fst caps)
 (hargs:fst.toList++xs.toList.map (ev n ρ)++caps.toList=args.toList) (hf:∀ args w,(callFunc f args).run P w=.ok (.enter f args) w)
 (hc:Calls P f args w fun e w' =>∃ v,e=.returned v/\R v w') (k:∀ v w',R v w' ->K (upd ρ d v) w'):OW P Q ⟨some d,.call ⟨.value x,xs,ts⟩,ty,pos,af,none⟩ n ρ w K:=
 zN args hv hargs hf (hc.mono fun _ w' ⟨v,he,hR⟩=>⟨v,he,k v w' hR⟩)
end
section
section
variable {W0 w : World} {ps : List Prv} {Γ : List Fact}
theorem own_at (H:St W0 w ps Γ) (i:Nat) {m:Nat} {z:yLI} (hq:ps[i]? =some (.row v e 1 m (z.map (Value.int .i64)))):
 ∃ G,OwnAt e w G v z/\(∀ x∈G,jq ps i=some x)/\ve w G/\G.Nodup:=by
 have ho:=(H.has _ (List.mem_of_getElem? hq):w.ownsRow W0.heap.size e 1 v m (z.map (Value.int .i64)))
 have hm:m=z.length:=by have:=ho.1;simp at this;omega
 subst hm
 rcases ho.2 with ⟨rfl,h0⟩ | ⟨g,cap,cur,rfl,hb,hg,hnc,hcm,hcs,htake⟩
 ·exact ⟨[],Or.inl ⟨rfl,List.eq_nil_of_length_eq_zero h0,rfl⟩,by simp,ve.nil _,by simp⟩
 ·refine ⟨[g],Or.inr ⟨g,cap,cur,rfl,rfl,hg,hnc,hcm,by omega,by rw [Nat.mul_one] at htake;exact htake⟩,fun x hx=>?_,fun x hx=>?_,by simp⟩
  ·obtain rfl:=List.mem_singleton.1 hx
   simp [jq,hq,Prv.blk,Value.ownBlock]
  ·obtain rfl:=List.mem_singleton.1 hx
   exact ⟨_,_,hg⟩
theorem dead_at {p:Prv} (hq:ps[i]? =some p):∀ (b' i' :Nat),jq (ps.set i (.row (Sv none 0 0) 0 1 0 [])) i' =some b' ->i' ≠i/\jq ps i' =some b' :=by
 intro b' i' h
 unfold jq at h ⊢
 by_cases hi:i' =i
 ·subst hi
  rw [set_at hq] at h
  simp [Prv.blk,Value.ownBlock] at h
 ·rw [List.getElem?_set_ne (Ne.symm hi)] at h
  exact ⟨hi,h⟩
theorem St.snocI (H:St W0 w ps Γ) (i:Nat) {m:Nat} {z:yLI} (hq:ps[i]? =some (.row v e 1 m (z.map (Value.int .i64)))) (j:Nat) {l:List (OwnI e)} (hf:Γ[j]? =some (xN true F xs l))
 {L:List yLN} (N:Fresh W0.heap.size (F::L)) (ha:∀ K∈L,∀ b∈K,∀ i,jq ps i≠some b):
 ∃ F',Fresh W0.heap.size (F'::L)/\St W0 w (ps.set i (.row (Sv none 0 0) 0 1 0 [])) (xN true F' (xs++[v]) (l++[⟨z⟩])::Γ):=by
 have hF:=(H.facts _ (List.mem_of_getElem? hf)).2
 obtain ⟨G,hG,hGb,hGf,hgn⟩:=own_at H i hq
 have hGF:∀ x∈G,x∉F:=fun x hx h=>(hF x h).2 i (hGb x hx)
 have hGL:∀ K∈L,∀ x∈K,x∉G:=fun K hK x hx h=>ha K hK x hx i (hGb x h)
 have hge:∀ x∈G,W0.heap.size<=x:=fun x hx=>(Q5 H (hGb x hx)).1
 have hset:=dead_at hq
 refine ⟨F++G,⟨fun K hK=>?_,fun K hK x hx=>?_,?_⟩,?_⟩
 ·rcases List.mem_cons.1 hK with rfl | h
  ·exact List.nodup_append.2 ⟨N.nd F qm,hgn,fun x hx y hy e=>hGF y hy (e▸hx)⟩
  ·exact N.nd K (List.mem_cons_of_mem _ h)
 ·rcases List.mem_cons.1 hK with rfl | h
  ·rcases List.mem_append.1 hx with h | h
   ·exact N.ge F qm x h
   ·exact hge x h
  ·exact N.ge K (List.mem_cons_of_mem _ h) x hx
 ·have hd:=List.pairwise_cons.1 N.dj
  refine List.pairwise_cons.2 ⟨fun K hK x hx=>?_,hd.2⟩
  rcases List.mem_append.1 hx with h | h
  ·exact hd.1 K hK x h
  ·exact fun hxK=>hGL K hK x hxK h
 ·refine (H.dead i hq).add _ ⟨jJ (H.get j hf).1 (reps_one (show qK.rep w G [v] (⟨z⟩:OwnI e) from ⟨v,rfl,hG⟩)),fun _ x hx=>?_⟩ fun x hx=>?_
  ·rcases List.mem_append.1 hx with h | h
   ·exact (H.get j hf).2 rfl x h
   ·exact hGf x h
  ·rcases List.mem_append.1 hx with h | h
   ·exact ⟨(hF x h).1,fun i' hi' =>(hF x h).2 i' (hset x i' hi').2⟩
   ·exact ⟨(Q5 H (hGb x h)).2,fun i' hi' =>(hset x i' hi').1 (H.dist i' i x (hset x i' hi').2 (hGb x h))⟩
end
section
variable {P : Program} {Q : Exit -> Act -> World -> Prop} {n : Nat} {ρ : Env} {W0 w : World} {ps : List Prv} {Γ : List Fact}
 {d:Nat} {ty:TypeId} {pos:String} {af:Array Edge} {K:Env->World->Prop}
end
section
variable {B : Nat} {F : yLN} {L : List yLN}
theorem away_new (N:Fresh B (F::L)) (i:Nat) (h:L[i]? =some G):∀ x∈G,x∉F:=fun x hx hF=>(List.pairwise_cons.1 N.dj).1 G (List.mem_of_getElem? h) x hF hx
theorem kept (j:Nat) (hf:Γ[j]? =some f) (h:∀ x∈f.F,x∉F):f∈Γ/\∀ x∈f.F,x∉F:=⟨List.mem_of_getElem? hf,h⟩
theorem Xj (h:f∈Γ/\∀ x∈f.F,x∉F) (k:∀ f∈Δ,f∈Γ/\∀ x∈f.F,x∉F):∀ g∈f::Δ,g∈Γ/\∀ x∈g.F,x∉F:=fun g hg=>by
 rcases List.mem_cons.1 hg with rfl | hg
 ·exact h
 ·exact k g hg
end
theorem St.rebase (H:St W0 w ps Γ) (Δ:List Fact) (h:∀ f∈Δ,f.φ w/\∀ b∈f.F,b < w.heap.size):St w w [] Δ:=
 ⟨Below.refl _ _,by simp,by intro i j b hi;simp [jq] at hi,fun f hf=>⟨(h f hf).1,fun b hb=>⟨(h f hf).2 b hb,fun i=>by simp [jq]⟩⟩⟩
theorem away_lt {B:Nat} (h:∀ b∈G,b < B) (N:Fresh B (F::L)):∀ x∈G,x∉F:=fun x hx hF=>by
 have h1:=h x hx
 have h2:=N.ge F qm x hF
 omega
end
section
class CntTot (α:Type) [Mark α] [Tot α]:Prop where
 le:∀ x:α,cnt x<=10+10 * tot x
instance:CntTot Int:=⟨fun _=>by show 1<=_;omega⟩
instance:CntTot Bool:=⟨fun _=>by show 1<=_;omega⟩
section
variable {α : Type} [Mark α] [Tot α] [Inhabited α] [CntTot α]
theorem cntTo_tot (l:List α):∀ k,cntTo l k<=10 * k+10 * totTo l k
 | 0=>Nat.zero_le _
 | k+1=>by
  have h1:=cntTo_tot l k
  have h2:=CntTot.le (l[k]!)
  rw [X6,totTo_succ]
  omega
theorem cntL_tot (l:List α):cnt l<=10 * tot l:=by
 have:=cntTo_tot l l.length
 rw [cnt_list,tot_list]
 omega
instance:CntTot (List α):=⟨fun l=>by have:=cntL_tot l;omega⟩
end
instance:CntTot IntoD:=⟨fun x=>by
 have h1:=cntL_tot x.QP
 have h2:=tot_IntoD x
 have h3:=cnt_IntoD x
 omega⟩
instance:CntTot zZ:=⟨fun x=>by
 have h1:=cntL_tot x.vF
 have h2:=cntL_tot x.vJ
 have h3:=cntL_tot x.vY
 have h4:=cntL_tot x.vw
 have h5:=cntL_tot x.QI
 have h6:=cntL_tot x.xw
 have h7:=tot_RuleD x
 have h8:=cnt_RuleD x
 omega⟩
theorem cnt_ints (l:yLI):cnt l=l.length:=by
 have:∀ k,cntTo l k=k:=fun k=>by
  induction k with
  | zero=>rfl
  | succ k ih=>rw [X6,ih];rfl
 rw [cnt_list,this]
theorem ft {b:Bool} (h:b=true) (h' :b=false):False:=by rw [h] at h';cases h'
theorem getset {α:Type} [Inhabited α] {l:List α} {c p:Nat} {v:α} (hc:c < l.length):(l.set c v)[p]! =if p=c then v else l[p]! :=by
 by_cases hp:p < l.length
 ·rw [getElem!_pos _ _ (by simpa using hp),getElem!_pos l p hp,List.getElem_set]
  by_cases e:c=p
  ·rw [if_pos e,if_pos e.symm]
  ·rw [if_neg e,if_neg (fun h=>e h.symm)]
 ·rw [if_neg qf,getElem!_neg (l.set c v) p (by simpa using hp),getElem!_neg l p hp]
theorem plus_get {t:Int} (hk:k < l.length):(jP l m t)[k]! =l[k]! +t * m[k]! :=by
 rw [getElem!_pos (jP l m t) k (by rw [plusL_len];exact hk)]
 simp [jP,plusTo]
theorem ext_get {α:Type} [Inhabited α] {l m:List α} (hl:l.length=m.length) (h:∀ k,k < l.length->l[k]! =m[k]!):l=m:=by
 apply List.ext_getElem hl
 intro i h1 h2
 have:=h i h1
 rwa [getElem!_pos l i h1,getElem!_pos m i h2] at this
def Shape (n K:Nat) (B:Int) (b:yLL):Prop:=b.length=n/\∀ p,p < n->(b[p]!).length=K/\∀ k,k < K-> -B<=(b[p]!)[k]! /\(b[p]!)[k]! <=B
structure Ent (n K:Nat) (f:Nat->Nat->Int) (B:Int) (b:yLL):Prop where
 sh:Shape n K B b
 eq:∀ p k,p < n->k < K->(b[p]!)[k]! =f p k
def at' (p c:Nat) (x:Int):Int:=if p=c then x else 0
theorem Shape.set (h:Shape n K B b) {c:Nat} {v:yLI} (hc:c < n) (hv:v.length=K) (hb:∀ k,k < K-> -D<=v[k]! /\v[k]! <=D) (hD:B<=D):Shape n K D (b.set c v):=by
 refine ⟨by simp [h.1],fun p hp=>?_⟩
 rw [getset (by rw [h.1];exact hc)]
 by_cases e:p=c
 ·rw [if_pos e];exact ⟨hv,hb⟩
 ·rw [if_neg e]
  refine ⟨(h.2 p hp).1,fun k hk=>?_⟩
  have:=(h.2 p hp).2 k hk
  omega
theorem Shape.plus (h:Shape n K B b) {c:Nat} {t:Int} (hc:c < n) (ht:∀ k,k < K-> -D<=t * m[k]! /\t * m[k]! <=D) (hD:0<=D):
 Shape n K (B+D) (b.set c (jP (b[c]!) m t)):=by
 have h1:=h.2 c hc
 refine h.set hc (by rw [plusL_len];exact h1.1) (fun k hk=>?_) qf
 rw [plus_get (by rw [h1.1];exact hk)]
 have:=h1.2 k hk
 have:=ht k hk
 omega
theorem Shape.row (h:Shape n K B b) (hB:B<=1000000000000000) (hK:K<=8) {c:Nat} (hc:c < n):(b[c]!).length=K/\Mid (b[c]!):=by
 have h1:=h.2 c hc
 refine ⟨h1.1,by have:=h1.1;omega,fun k hk=>?_⟩
 have:=h1.2 k (by have:=h1.1;omega)
 omega
theorem Ent.add {f:Nat->Nat->Int} (h:Ent n K f B b) {c:Nat} {t:Int} (e:b' =b.set c (jP (b[c]!) m t)) (hc:c < n) (ht:∀ k,k < K-> -D<=t * m[k]! /\t * m[k]! <=D) (hD:0<=D):
 Ent n K (fun p k=>f p k+at' p c (t * m[k]!)) (B+D) b' :=by
 subst e
 refine ⟨h.sh.plus hc ht hD,fun p k hp hk=>?_⟩
 rw [getset (by rw [h.sh.1];exact hc)]
 unfold at'
 by_cases e:p=c
 ·subst e
  rw [if_pos rfl,if_pos rfl,plus_get (by rw [(h.sh.2 p hp).1];exact hk),h.eq p k hp hk]
 ·rw [if_neg e,if_neg e,h.eq p k hp hk];omega
theorem Shape.mono (h:Shape n K B b) (hD:B<=D):Shape n K D b:=⟨h.1,fun p hp=>⟨(h.2 p hp).1,fun k hk=>by have:=(h.2 p hp).2 k hk;omega⟩⟩
theorem Ent.to {f g:Nat->Nat->Int} (h:Ent n K f B b) (e:∀ p k,f p k=g p k) (hD:B<=D):Ent n K g D b:=⟨h.sh.mono hD,fun p k hp hk=>(h.eq p k hp hk).trans (e p k)⟩
theorem Ent.same {f g:Nat->Nat->Int} {c:yLL} (h:Ent n K f B b) (h' :Ent n K g D c) (e:∀ p k,p < n->k < K->f p k=g p k):b=c:=by
 refine ext_get (by rw [h.sh.1,h'.sh.1]) fun p hp=>?_
 rw [h.sh.1] at hp
 refine ext_get (by rw [(h.sh.2 p hp).1,(h'.sh.2 p hp).1]) fun k hk=>?_
 rw [(h.sh.2 p hp).1] at hk
 rw [h.eq p k hp hk,h'.eq p k hp hk,e p k hp hk]
def tab2 (n K:Nat) (f:Nat->Nat->Int):yLL:=(List.range n).map fun p=>(List.range K).map (f p)
theorem tab2_len (n K:Nat) (f:Nat->Nat->Int):(tab2 n K f).length=n:=by simp [tab2]
theorem tab2_row {f:Nat->Nat->Int} {p:Nat} (hp:p < n):(tab2 n K f)[p]! =(List.range K).map (f p):=by
 rw [getElem!_pos (tab2 n K f) p (by rw [tab2_len];exact hp)];simp [tab2]
theorem Ent.tab {f:Nat->Nat->Int} (h:Ent n K f B b):b=tab2 n K f:=by
 refine ext_get (by rw [h.sh.1,tab2_len]) fun p hp=>?_
 rw [h.sh.1] at hp
 rw [tab2_row hp]
 refine ext_get (by rw [(h.sh.2 p hp).1];simp) fun k hk=>?_
 rw [(h.sh.2 p hp).1] at hk
 rw [h.eq p k hp hk,getElem!_pos ((List.range K).map (f p)) k (by simpa using hk)];simp
theorem Ent.snoc {f:Nat->Nat->Int} (h:Ent n K f B b) (ha:a.length=K) (hb:∀ k,k < K-> -B<=a[k]! /\a[k]! <=B) (he:∀ k,k < K->a[k]! =f n k):Ent (n+1) K f B (b++[a]):=by
 have hl:(b++[a]).length=n+1:=by simp [h.sh.1]
 have h1:∀ p,p < n->(b++[a])[p]! =b[p]! :=fun p hp=>by
  rw [getElem!_pos (b++[a]) p qf,getElem!_pos b p (by rw [h.sh.1];exact hp),List.getElem_append_left]
 have h2:(b++[a])[n]! =a:=by
  rw [getElem!_pos (b++[a]) n qf,List.getElem_append_right (by rw [h.sh.1];exact Nat.le_refl _)];simp
 refine ⟨⟨hl,fun p hp=>?_⟩,fun p k hp hk=>?_⟩
 ·by_cases e:p=n
  ·subst e;rw [h2];exact ⟨ha,hb⟩
  ·rw [h1 p qf];exact h.sh.2 p qf
 ·by_cases e:p=n
  ·subst e;rw [h2];exact he k hk
  ·rw [h1 p qf];exact h.eq p k qf hk
def Qm (s:qG):Nat:=s.xO.toNat
abbrev jC (s:qG):Nat:=s.qC.length
def IntoUp (s:qG) (t:qH) (r:zZ) (k:Nat):Prop:=∀ j,j < k->t.qI[(r.xw[j]!).qR.toNat]! =true/\xZ s t (r.xw[j]!).qR=r.qR
theorem IntoUp.succ (h:IntoUp s t r k) (h1:t.qI[(r.xw[k]!).qR.toNat]! =true) (h2:xZ s t (r.xw[k]!).qR=r.qR):IntoUp s t r (k+1):=fun j hj=>by
 by_cases e:j=k
 ·subst e;exact ⟨h1,h2⟩
 ·exact h j qf
def EnOk (s:qG) (t:qH) (r:zZ):Prop:=
 t.qI[r.qR.toNat]! =true/\within r.vF (t.qP[r.qR.toNat]!)=true/\within r.vJ (t.qP[r.qR.toNat]!)=true/\¬ (0 < Xh r.vY/\within r.vY (t.qP[r.qR.toNat]!)=true)/\IntoUp s t r r.xw.length
open Classical in
noncomputable def bestOf (s:qG) (t:qH) (z:Int) (c:Nat):Nat->Int
 | 0=>z
 | k+1=>if EnOk s t (s.qE[k]!)/\(s.qE[k]!).qR.toNat=c then max (bestOf s t z c k) (s.qE[k]!).jR else bestOf s t z c k
noncomputable def bests (s:qG) (t:qH) (z:Int) (n k:Nat):yLI:=tabTo (fun c=>bestOf s t z c k) n
theorem Xf (s:qG) (t:qH) (z:Int) (n k:Nat):(bests s t z n k).length=n:=tabTo_len _ _
theorem tab_get {g:Nat->Int} {c:Nat} (h:c < n):(tabTo g n)[c]! =g c:=by
 rw [getElem!_pos (tabTo g n) c (by rw [tabTo_len];exact h)];simp [tabTo]
theorem bests_zero (s:qG) (t:qH) (z:Int) (n:Nat):List.replicate n z=bests s t z n 0:=by
 refine ext_get (by simp [Xf]) fun k hk=>?_
 rw [List.length_replicate] at hk
 rw [bests,tab_get hk,getElem!_pos (List.replicate n z) k (by simpa using hk)];simp [bestOf]
theorem bests_get {c:Nat} (h:c < n):(bests s t z n k)[c]! =bestOf s t z c k:=tab_get h
theorem bests_set (h:EnOk s t (s.qE[k]!)) (hc:(s.qE[k]!).qR.toNat < n):
 (bests s t z n k).set (s.qE[k]!).qR.toNat (max ((bests s t z n k)[(s.qE[k]!).qR.toNat]!) (s.qE[k]!).jR)=bests s t z n (k+1):=by
 refine ext_get (by simp [Xf]) fun p hp=>?_
 rw [List.length_set,Xf] at hp
 rw [getset (by rw [Xf];exact hc),bests_get hc,bests_get hp,bests_get hp,bestOf]
 by_cases e:p=(s.qE[k]!).qR.toNat
 ·rw [if_pos e,if_pos ⟨h,e.symm⟩,e]
 ·rw [if_neg e,if_neg fun x=>e x.2.symm]
theorem bests_skip (h:¬ EnOk s t (s.qE[k]!)):bests s t z n k=bests s t z n (k+1):=by
 refine ext_get (by simp [Xf]) fun p hp=>?_
 rw [Xf] at hp
 rw [bests_get hp,bests_get hp,bestOf,if_neg fun x=>h x.1]
def Appl (s:qG) (t:qH) (i:Nat):Prop:=
 EnOk s t (s.qE[i]!)/\∀ j,j < s.qE.length->EnOk s t (s.qE[j]!)->(s.qE[j]!).qR.toNat=(s.qE[i]!).qR.toNat->(s.qE[j]!).jR<=(s.qE[i]!).jR
theorem best_ge {s:qG} {t:qH} {z:Int} {c:Nat}:∀ {k j:Nat},j < k->EnOk s t (s.qE[j]!)->(s.qE[j]!).qR.toNat=c->(s.qE[j]!).jR<=bestOf s t z c k
 | k+1,j,h,h1,h2=>by
  rw [bestOf]
  by_cases e:j=k
  ·subst e;rw [if_pos ⟨h1,h2⟩];omega
  ·have:=best_ge (z:=z) (show j < k by omega) h1 h2
   split <;> omega
theorem best_le {s:qG} {t:qH} {z:Int} {c:Nat} {x:Int} (hz:z<=x):∀ {k:Nat},(∀ j,j < k->EnOk s t (s.qE[j]!)->(s.qE[j]!).qR.toNat=c->(s.qE[j]!).jR<=x)->bestOf s t z c k<=x
 | 0,_=>hz
 | k+1,h=>by
  rw [bestOf]
  have h1:=best_le hz (k:=k) fun j hj=>h j qf
  split
  ·next h2=>have:=h k qf h2.1 h2.2;omega
  ·exact h1
theorem appl_iff (hi:i < s.qE.length) (hz:z<=(s.qE[i]!).jR):
 Appl s t i<->EnOk s t (s.qE[i]!)/\(s.qE[i]!).jR=bestOf s t z (s.qE[i]!).qR.toNat s.qE.length:=by
 constructor
 ·rintro ⟨h1,h2⟩
  refine ⟨h1,?_⟩
  have h3:=best_ge (z:=z) hi h1 rfl
  have h4:=best_le (c:=(s.qE[i]!).qR.toNat) hz (k:=s.qE.length) h2
  omega
 ·rintro ⟨h1,h2⟩
  exact ⟨h1,fun j hj h3 h4=>by rw [h2];exact best_ge hj h3 h4⟩
noncomputable def applB (s:qG) (t:qH) (k m:Nat):List Bool:=(List.range m).map fun j=>if j < k then dec (Appl s t j) else dec (EnOk s t (s.qE[j]!))
theorem applB_len (s:qG) (t:qH) (k m:Nat):(applB s t k m).length=m:=by simp [applB]
theorem applB_get {m:Nat} (h:j < m):(applB s t k m)[j]! =if j < k then dec (Appl s t j) else dec (EnOk s t (s.qE[j]!)):=by
 rw [getElem!_pos (applB s t k m) j (by rw [applB_len];exact h)];simp [applB]
theorem applB_snoc (s:qG) (t:qH) (m:Nat):applB s t 0 m++[dec (EnOk s t (s.qE[m]!))]=applB s t 0 (m+1):=by simp [applB,List.range_succ]
theorem applB_set {m:Nat} {x:Bool} (hk:k < m) (hx:x=dec (Appl s t k)):(applB s t k m).set k x=applB s t (k+1) m:=by
 refine ext_get (by simp [applB_len]) fun p hp=>?_
 rw [List.length_set,applB_len] at hp
 rw [getset (by rw [applB_len];exact hk),applB_get hp,applB_get hp]
 by_cases e:p=k
 ·subst e;rw [if_pos rfl,if_pos qf,hx]
 ·rw [if_neg e]
  by_cases e1:p < k
  ·rw [if_pos e1,if_pos qf]
  ·rw [if_neg e1,if_neg qf]
theorem applB_step0 {m:Nat} (hk:k < m) (h:(applB s t k m)[k]! =false):false=dec (Appl s t k):=by
 rw [applB_get hk,if_neg qf] at h
 exact (xh fun x=>zX h x.1).symm
theorem applB_step1 {m:Nat} (hk:k < m) (h:(applB s t k m)[k]! =true) (hm:m=s.qE.length) (hc:(s.qE[k]!).qR.toNat < n) (hz:z<=(s.qE[k]!).jR) (hi:i=s.qE.length):
 ((s.qE[k]!).jR == (bests s t z n i)[(s.qE[k]!).qR.toNat]!)=dec (Appl s t k):=by
 rw [applB_get hk,if_neg qf] at h
 refine dec_eq ?_
 rw [beq_iff_eq,bests_get hc,hi,appl_iff qf hz]
 exact ⟨fun e=>⟨yU h,e⟩,fun e=>e.2⟩
noncomputable def appl (s:qG) (t:qH):List Bool:=applB s t s.qE.length s.qE.length
theorem appl_len (s:qG) (t:qH):(appl s t).length=s.qE.length:=applB_len _ _ _ _
theorem appl_get (h:j < s.qE.length):(appl s t)[j]! =dec (Appl s t j):=by rw [appl,applB_get h,if_pos h]
theorem QH (h:j < s.qE.length) (h1:(appl s t)[j]! =true):Appl s t j:=yU (appl_get (s:=s) (t:=t) h▸h1)
theorem Qd (h:j < s.qE.length) (h1:(appl s t)[j]! =false):¬ Appl s t j:=zX (appl_get (s:=s) (t:=t) h▸h1)
def HaltTo (s:qG) (t:qH) (k:Nat):Prop:=∀ j,j < k->¬ Appl s t j
theorem HaltTo.succ (h:HaltTo s t k) (h1:¬ Appl s t k):HaltTo s t (k+1):=fun j hj=>by
 by_cases e:j=k
 ·subst e;exact h1
 ·exact h j qf
abbrev Halted (s:qG) (t:qH):Prop:=HaltTo s t s.qE.length
noncomputable def applL (s:qG) (t:qH) (k:Nat):yLI:=((List.range k).filter fun j=>dec (Appl s t j)).map Int.ofNat
theorem applL_yes (h:Appl s t k):applL s t k++[(k:Int)]=applL s t (k+1):=by simp [applL,List.range_succ,List.filter_append,jS h]
theorem applL_no (h:¬ Appl s t k):applL s t k=applL s t (k+1):=by simp [applL,List.range_succ,List.filter_append,xh h]
noncomputable def appls (s:qG) (t:qH):yLI:=applL s t s.qE.length
theorem applL_le (s:qG) (t:qH) (k:Nat):(applL s t k).length<=k:=by
 have:=List.length_filter_le (fun j=>dec (Appl s t j)) (List.range k)
 simpa [applL] using this
theorem mem_applL {x:Int}:x∈applL s t k<->0<=x/\x.toNat < k/\Appl s t x.toNat:=by
 simp only [applL,List.mem_map,List.mem_filter,List.mem_range]
 constructor
 ·rintro ⟨j,⟨h1,h2⟩,rfl⟩
  exact ⟨Int.natCast_nonneg j,h1,yU h2⟩
 ·rintro ⟨h0,h1,h2⟩
  exact ⟨x.toNat,⟨h1,jS h2⟩,by show ((x.toNat:Nat):Int)=x;omega⟩
theorem yj.rule (h:yj s) (hi:i < s.qE.length):RuleOk s (s.qE[i]!):=(h.2.2 i hi).1
theorem RuleOk.cell (h:RuleOk s r):r.qR.toNat < jC s:=by have:=h.1.1;have:=h.1.2;unfold jC;omega
theorem vk.len (h:vk s.xO l):l.length=Qm s:=by have:=h.2;unfold Qm;omega
theorem vk.get {n:Int} (h:vk n l) (hk:k < l.length):0<=l[k]! /\l[k]! <=1000:=h.1.1 k hk
theorem vk.mul (h:vk s.xO m) {t:Int} (ht: -1000<=t/\t<=1000):∀ k,k < Qm s-> -1000000<=t * m[k]! /\t * m[k]! <=1000000:=fun k hk=>by
 have h1:=h.1.1 k (by rw [h.len];exact hk)
 rcases Int.le_total 0 t with h0 | h0
 ·have h2:=Int.mul_nonneg h0 h1.1
  have h3:=Int.mul_le_mul_of_nonneg_left h1.2 h0
  omega
 ·have h2:=Int.mul_nonneg (show 0<= -t by omega) h1.1
  have h3:=Int.mul_le_mul_of_nonneg_left h1.2 (show 0<= -t by omega)
  have h4: -t * m[k]! = -(t * m[k]!):=Int.neg_mul ..
  omega
theorem vk.yE (h:vk s.xO m) {t:Int} (ht: -1000<=t/\t<=1000):SmallT m t:=bagOk_smallT h qf
theorem kinds_le (h:yj s):Qm s<=8:=by have:=h.1.1.2;unfold Qm;omega
theorem zV.shape (h:zV s t):Shape (jC s) (Qm s) 1000 t.qP:=by
 refine ⟨h.2.1,fun p hp=>?_⟩
 have hb:=h.bagLen (k:=p) (by rw [h.2.1];exact hp)
 refine ⟨hb.len,fun k hk=>?_⟩
 have:=hb.get (k:=k) (by rw [hb.len];exact hk)
 omega
def CntOk (s:qG) (counts:yLI):Prop:=counts.length=s.qE.length/\∀ i,i < counts.length->0<=counts[i]! /\counts[i]! <=1000
theorem CntOk.bd {counts:yLI} (h:CntOk s counts) (hi:i < s.qE.length):0<=counts[i]! /\counts[i]! <=1000:=h.2 i (by rw [h.1];exact hi)
def QR (s:qG) (t:qH) (counts:yLI):Nat->yLL
 | 0=>t.qP
 | k+1=>(QR s t counts k).set (s.qE[k]!).qR.toNat (jP ((QR s t counts k)[(s.qE[k]!).qR.toNat]!) (s.qE[k]!).vF (-(counts[k]!)))
def needF (s:qG) (counts:yLI) (i p k:Nat):Int:=at' p (s.qE[i]!).qR.toNat (-(counts[i]!) * ((s.qE[i]!).vF)[k]!)
def needS (s:qG) (counts:yLI):Nat->Nat->Nat->Int
 | 0,_,_=>0
 | i+1,p,k=>needS s counts i p k+needF s counts i p k
theorem restR_ent {s:qG} {t:qH} {counts:yLI} (hs:yj s) (ht:zV s t) (hc:CntOk s counts):∀ k,k<=s.qE.length→
 Ent (jC s) (Qm s) (fun p q=>(t.qP[p]!)[q]! +needS s counts k p q) (1000+1000000 * k) (QR s t counts k)
 | 0,_=>⟨by simpa [QR] using ht.shape,fun p k hp hk=>by simp [QR,needS]⟩
 | k+1,h=>by
  have hr:=hs.rule (i:=k) qf
  have hcb:=hc.bd (i:=k) qf
  refine ((restR_ent hs ht hc k qf).add (D:=1000000) rfl hr.cell (hr.2.2.2.2.1.mul qf) qf).to (fun p q=>?_) qf
  show _=_+(needS s counts k p q+needF s counts k p q)
  unfold needF;omega
theorem restR_row {counts:yLI} (hs:yj s) (ht:zV s t) (hc:CntOk s counts) {c:Nat} (hk:k<=s.qE.length) (h:c < jC s):
 ((QR s t counts k)[c]!).length=Qm s/\Mid ((QR s t counts k)[c]!):=(restR_ent hs ht hc k hk).sh.row (by have:=hs.2.1;omega) (kinds_le hs) h
theorem restR_len {s:qG} {t:qH} {counts:yLI}:∀ k,(QR s t counts k).length=t.qP.length
 | 0=>rfl
 | k+1=>by rw [QR,List.length_set];exact restR_len k
open Classical in
noncomputable def Xo (P:Nat->Prop):Nat->Nat
 | 0=>0
 | n+1=>if Xo P n < n then Xo P n else if P n then n else n+1
theorem stop_none {P:Nat->Prop}:∀ {n:Nat},(∀ j,j < n->¬ P j)->Xo P n=n
 | 0,_=>rfl
 | n+1,h=>by rw [Xo,stop_none (n:=n) (fun j hj=>h j qf),if_neg qf,if_neg (h n qf)]
theorem stop_first {P:Nat->Prop}:∀ {n k:Nat},(∀ j,j < k->¬ P j)->k < n->P k->Xo P n=k
 | n+1,k,h,hk,hp=>by
  rw [Xo]
  by_cases e:k=n
  ·subst e;rw [stop_none h,if_neg qf,if_pos hp]
  ·rw [stop_first (n:=n) h qf hp,if_pos qf]
def BadAt (s:qG) (t:qH) (counts:yLI) (i:Nat):Prop:=0 < counts[i]! /\¬ Appl s t i
def GoodTo (s:qG) (t:qH) (counts:yLI) (k:Nat):Prop:=∀ i,i < k->¬ BadAt s t counts i
theorem GoodTo.succ {counts:yLI} (h:GoodTo s t counts k) (h1:¬ BadAt s t counts k):GoodTo s t counts (k+1):=fun j hj=>by
 by_cases e:j=k
 ·subst e;exact h1
 ·exact h j qf
def NonNeg (b:yLL) (n:Nat):Prop:=∀ p,p < n->∀ k,k < (b[p]!).length->0<=(b[p]!)[k]!
theorem NonNeg.succ (h:NonNeg b n) (h1:∀ k,k < (b[n]!).length->0<=(b[n]!)[k]!):NonNeg b (n+1):=fun j hj=>by
 by_cases e:j=n
 ·subst e;exact h1
 ·exact h j qf
def IsCh (s:qG) (t:qH) (counts:yLI):Prop:=GoodTo s t counts counts.length/\NonNeg (QR s t counts counts.length) t.qP.length
def Qq (l m:yLI):Nat->Int
 | 0=>1000
 | k+1=>if 0 < l[k]! then min (Qq l m k) (m[k]! / l[k]!) else Qq l m k
def jF (l m:yLI):Int:=Qq l m l.length
theorem timesTo_pos (h:0 < l[k]!):Qq l m (k+1)=min (Qq l m k) (m[k]! / l[k]!):=by rw [Qq,if_pos h]
theorem timesTo_skip (h:¬ 0 < l[k]!):Qq l m (k+1)=Qq l m k:=by rw [Qq,if_neg h]
theorem timesTo_bd {l m:yLI} (hm:∀ k,k < l.length->0<=m[k]!):∀ k,k<=l.length->0<=Qq l m k/\Qq l m k<=1000
 | 0,_=>by simp [Qq]
 | k+1,h=>by
  have:=timesTo_bd hm k qf
  rw [Qq]
  split
  ·next h1=>have:=Int.ediv_nonneg (hm k qf) (show 0<=l[k]! by omega);omega
  ·exact this
theorem timesTo_le {l m:yLI}:∀ {k j:Nat},j < k->0 < l[j]! ->Qq l m k<=m[j]! / l[j]!
 | k+1,j,h,h1=>by
  rw [Qq]
  by_cases e:j=k
  ·subst e;rw [if_pos h1];omega
  ·have:=timesTo_le (m:=m) (show j < k by omega) h1
   split <;> omega
theorem timesL_left (hl:∀ k,k < l.length->0<=l[k]!) (hm:∀ k,k < l.length->0<=m[k]!) (hk:k < l.length):0<=m[k]! + -(jF l m) * l[k]! :=by
 have h0:=timesTo_bd hm l.length (Nat.le_refl _)
 rcases Int.lt_or_eq_of_le (hl k hk) with h | h
 ·have h1:=timesTo_le (m:=m) hk h
  have h2:m[k]! / l[k]! * l[k]! <=m[k]! :=Int.ediv_mul_le _ qf
  have h3:=Int.mul_le_mul_of_nonneg_right h1 (show 0<=l[k]! by omega)
  have h4: -(jF l m) * l[k]! = -(jF l m * l[k]!):=Int.neg_mul ..
  unfold jF at *
  omega
 ·rw [← h];have:=hm k hk;omega
def QS (l m:yLI) (i:Nat) (best:Int):Prop:=(best=Qq l m i/\∃ j,j < i/\0 < l[j]!)\/(best= -1/\Qq l m i=1000/\∀ j,j < i->l[j]! <=0)
theorem QS.zero (l m:yLI):QS l m 0 (-1):=.inr ⟨rfl,rfl,fun j hj=>by omega⟩
theorem QS.take (h:QS l m i best) (hm:0<=m[i]! /\m[i]! <=1000) (hl:0 < l[i]!) (hb:best < 0\/m[i]! / l[i]! < best) (hn:0<=Qq l m i):QS l m (i+1) (m[i]! / l[i]!):=by
 refine .inl ⟨?_,i,by omega,hl⟩
 rw [timesTo_pos hl]
 have h1:m[i]! / l[i]! <=m[i]! :=Int.ediv_le_self _ hm.1
 rcases h with ⟨h,_⟩ | ⟨h,h2,_⟩ <;> omega
theorem QS.keep (h:QS l m i best) (hl:¬ 0 < l[i]!):QS l m (i+1) best:=by
 unfold QS
 rw [timesTo_skip hl]
 rcases h with ⟨h,j,h1,h2⟩ | ⟨h,h2,h3⟩
 ·exact .inl ⟨h,j,by omega,h2⟩
 ·refine .inr ⟨h,h2,fun j hj=>?_⟩
  by_cases e:j=i
  ·subst e;omega
  ·exact h3 j qf
theorem QS.keep2 (h:QS l m i best) (hl:0 < l[i]!) (hb:¬ best < 0) (hn:¬ m[i]! / l[i]! < best):QS l m (i+1) best:=by
 refine .inl ⟨?_,i,by omega,hl⟩
 rw [timesTo_pos hl]
 rcases h with ⟨h,_⟩ | ⟨h,_⟩ <;> omega
theorem QS.done (h:QS l m i best) (hp:∃ j,j < i/\0 < l[j]!):best=Qq l m i:=by
 rcases h with ⟨h,_⟩ | ⟨_,_,h3⟩
 ·exact h
 ·obtain ⟨j,h1,h2⟩:=hp
  have:=h3 j h1;omega
theorem sum_pos (h:BagAny l) (h1:Xh l≠0):∃ j,j < l.length/\0 < l[j]! :=by
 apply Classical.byContradiction
 intro hn
 have h0:∀ k,k<=l.length->sumTo l k=0:=by
  intro k
  induction k with
  | zero=>intro _;rfl
  | succ k ih=>
   intro hk
   have h2:=h.1 k qf
   have h3:¬ 0 < l[k]! :=fun h4=>hn ⟨k,by omega,h4⟩
   rw [sumTo,ih qf];omega
 exact h1 (h0 _ (Nat.le_refl _))
def Box (n K:Nat) (b:yLL):Prop:=b.length=n/\∀ p,p < n->(b[p]!).length=K/\∀ k,k < K->0<=(b[p]!)[k]! /\(b[p]!)[k]! <=1000
theorem zV.box (h:zV s t):Box (jC s) (Qm s) t.qP:=by
 refine ⟨h.2.1,fun p hp=>?_⟩
 have hb:=h.bagLen (k:=p) (by rw [h.2.1];exact hp)
 exact ⟨hb.len,fun k hk=>hb.get (by rw [hb.len];exact hk)⟩
theorem parentNow_root (hs:yD s):xZ s t 0= -1:=by
 unfold xZ
 rw [show s.qC[(0:Int).toNat]! = -1 from hs.2.2.1]
 exact climb_end fun h=>by omega
def outPl (s:qG) (t:qH) (r:zZ):Nat:=if r.qR=0 then jC s else (xZ s t r.qR).toNat
theorem outPl_root (h:r.qR=0):outPl s t r=jC s:=by rw [outPl,if_pos h]
theorem outPl_up (h:r.qR≠0):outPl s t r=(xZ s t r.qR).toNat:=by rw [outPl,if_neg h]
def intoF (r:zZ) (c:Int):Nat->Nat->Nat->Int
 | 0,_,_=>0
 | j+1,p,k=>intoF r c j p k+at' p (r.xw[j]!).qR.toNat (c * ((r.xw[j]!).QP)[k]!)
def putF (s:qG) (t:qH) (r:zZ) (c:Int) (p k:Nat):Int:=at' p r.qR.toNat (c * r.vw[k]!)+at' p (outPl s t r) (c * r.QI[k]!)+intoF r c r.xw.length p k
def putS (s:qG) (t:qH) (counts:yLI):Nat->Nat->Nat->Int
 | 0,_,_=>0
 | i+1,p,k=>putS s t counts i p k+putF s t (s.qE[i]!) (counts[i]!) p k
def allS (s:qG) (t:qH) (counts:yLI):Nat->Nat->Nat->Int
 | 0,_,_=>0
 | i+1,p,k=>allS s t counts i p k+needF s counts i p k+putF s t (s.qE[i]!) (counts[i]!) p k
theorem allS_eq (s:qG) (t:qH) (counts:yLI) (p k:Nat):∀ i,allS s t counts i p k=needS s counts i p k+putS s t counts i p k
 | 0=>rfl
 | i+1=>by
  have:=allS_eq s t counts p k i
  simp only [allS,needS,putS]
  omega
theorem at_zero (p c:Nat) (x:Int):at' p c (0 * x)=0:=by unfold at';split <;> simp
theorem intoF_zero (r:zZ) (p k:Nat):∀ j,intoF r 0 j p k=0
 | 0=>rfl
 | j+1=>by rw [intoF,intoF_zero r p k j,at_zero];rfl
theorem putF_zero (s:qG) (t:qH) (r:zZ) (h:c=0) (p k:Nat):putF s t r c p k=0:=by
 subst h;rw [putF,at_zero,at_zero,intoF_zero];rfl
theorem putS_skip {counts:yLI} (h:counts[i]! =0) (p k:Nat):putS s t counts (i+1) p k=putS s t counts i p k:=by
 rw [putS,putF_zero s t _ h];omega
def base0 (s:qG) (t:qH) (p k:Nat):Int:=if p < jC s then (t.qP[p]!)[k]! else t.qN[k]!
def stepF (s:qG) (t:qH) (counts:yLI) (p k:Nat):Int:=base0 s t p k+allS s t counts s.qE.length p k
noncomputable def xI (s:qG) (t:qH) (counts:yLI):qH:=
 ⟨t.qI,(tab2 (jC s+1) (Qm s) (stepF s t counts)).take (jC s),(tab2 (jC s+1) (Qm s) (stepF s t counts))[jC s]!⟩
theorem zV.around (h:zV s t):t.qN.length=Qm s/\∀ k,k < Qm s->0<=t.qN[k]! /\t.qN[k]! <=1000:=by
 have hb:=h.2.2.2.1
 exact ⟨hb.len,fun k hk=>hb.get (by rw [hb.len];exact hk)⟩
theorem start_ent {counts:yLI} (ht:zV s t):Ent (jC s+1) (Qm s) (fun p k=>base0 s t p k+allS s t counts 0 p k) 1000 (t.qP++[t.qN]):=by
 have h1:Ent (jC s) (Qm s) (fun p k=>base0 s t p k+allS s t counts 0 p k) 1000 t.qP:=⟨ht.shape,fun p k hp hk=>by simp [base0,hp,allS]⟩
 refine h1.snoc ht.around.1 (fun k hk=>by have:=ht.around.2 k hk;omega) fun k hk=>?_
 simp [base0,allS]
theorem rest_ent {counts:yLI} (hs:yj s) (ht:zV s t) (hc:CntOk s counts):
 Ent (jC s+1) (Qm s) (fun p k=>base0 s t p k+needS s counts s.qE.length p k+putS s t counts 0 p k) (1000+1000000 * s.qE.length) (QR s t counts s.qE.length++[t.qN]):=by
 have h1:Ent (jC s) (Qm s) (fun p k=>base0 s t p k+needS s counts s.qE.length p k+putS s t counts 0 p k) (1000+1000000 * s.qE.length) (QR s t counts s.qE.length):=by
  have h0:=restR_ent hs ht hc _ (Nat.le_refl _)
  exact ⟨h0.sh,fun p k hp hk=>by rw [h0.eq p k hp hk];simp [base0,hp,putS]⟩
 refine h1.snoc ht.around.1 (fun k hk=>by have:=ht.around.2 k hk;omega) fun k hk=>?_
 have h2:∀ i,i<=s.qE.length->needS s counts i (jC s) k=0:=by
  intro i
  induction i with
  | zero=>intro _;rfl
  | succ i ih=>
   intro hi
   have:=(hs.rule (i:=i) qf).cell
   rw [needS,ih qf,needF,at',if_neg qf];rfl
 rw [h2 _ (Nat.le_refl _)]
 simp [base0,putS]
theorem step_tab {counts:yLI} (h:Ent (jC s+1) (Qm s) (fun p k=>base0 s t p k+allS s t counts s.qE.length p k) B b):
 b.take (jC s)=(xI s t counts).qP/\b[jC s]! =(xI s t counts).qN:=by
 have e:=h.tab
 constructor
 ·show _=(tab2 _ _ _).take _
  rw [e];rfl
 ·show _=(tab2 _ _ _)[_]!
  rw [e];rfl
theorem step_tab2 {counts:yLI} (hb:b.length=jC s) (h:Ent (jC s+1) (Qm s) (fun p k=>base0 s t p k+needS s counts s.qE.length p k+putS s t counts s.qE.length p k) B (b++[a])):
 b=(xI s t counts).qP/\a=(xI s t counts).qN:=by
 have h1:=step_tab (h.to (g:=fun p k=>base0 s t p k+allS s t counts s.qE.length p k) (fun p k=>by rw [allS_eq];omega) (Int.le_refl _))
 rw [← hb,List.take_left] at h1
 refine ⟨h1.1,?_⟩
 rw [← h1.2,getElem!_pos (b++[a]) b.length qm,List.getElem_append_right (Nat.le_refl _)];simp
theorem cat_set {v:yLI} {c:Nat} (hc:c < b.length):(b++[a]).set c v=b.set c v++[a]:=List.set_append_left c v hc
theorem cat_setN {v:yLI} (h:b.length=n):(b++[a]).set n v=b++[v]:=by
 rw [List.set_append_right _ _ qf,h];simp
theorem cat_get {c:Nat} (hc:c < b.length):(b++[a])[c]! =b[c]! :=by
 rw [getElem!_pos (b++[a]) c qy,getElem!_pos b c hc,List.getElem_append_left hc]
theorem cat_getN (h:b.length=n):(b++[a])[n]! =a:=by
 rw [getElem!_pos (b++[a]) n qy,List.getElem_append_right qf];simp [h]
theorem Ent.addL {f:Nat->Nat->Int} (h:Ent (n+1) K f B (b++[a])) {c:Nat} {t:Int} (e:b' =b.set c (jP (b[c]!) m t)) (hb:b.length=n) (hc:c < n) (ht:∀ k,k < K-> -D<=t * m[k]! /\t * m[k]! <=D) (hD:0<=D):
 Ent (n+1) K (fun p k=>f p k+at' p c (t * m[k]!)) (B+D) (b' ++[a]):=
 h.add (by rw [e,← cat_set qf,cat_get qf]) qf ht hD
theorem Ent.addN {f:Nat->Nat->Int} (h:Ent (n+1) K f B (b++[a])) {t:Int} {a' :yLI} (e:a' =jP a m t) (hb:b.length=n) (ht:∀ k,k < K-> -D<=t * m[k]! /\t * m[k]! <=D) (hD:0<=D):
 Ent (n+1) K (fun p k=>f p k+at' p n (t * m[k]!)) (B+D) (b++[a']):=
 h.add (by rw [e,cat_setN hb,cat_getN hb]) qf ht hD
theorem Ent.rowL {f:Nat->Nat->Int} (h:Ent (n+1) K f B (b++[a])) (hb:b.length=n) (hB:B<=1000000000000000) (hK:K<=8) {c:Nat} (hc:c < n):(b[c]!).length=K/\Mid (b[c]!):=by
 have:=h.sh.row hB hK (c:=c) qf
 rwa [cat_get qf] at this
theorem Ent.rowN {f:Nat->Nat->Int} (h:Ent (n+1) K f B (b++[a])) (hb:b.length=n) (hB:B<=1000000000000000) (hK:K<=8):a.length=K/\Mid a:=by
 have:=h.sh.row hB hK (c:=n) qf
 rwa [cat_getN hb] at this
def QQ (s:qG) (counts:yLI) (c:Int) (k:Nat):Prop:=∃ i,i < k/\0 < counts[i]! /\(s.qE[i]!).jV=true/\(s.qE[i]!).qR=c
theorem melts_zero (s:qG) (counts:yLI) (c:Int):¬ QQ s counts c 0:=fun ⟨i,h,_⟩=>by omega
theorem melts_succ {counts:yLI}:QQ s counts c (k+1)<->QQ s counts c k\/(0 < counts[k]! /\(s.qE[k]!).jV=true/\(s.qE[k]!).qR=c):=by
 constructor
 ·rintro ⟨i,h,h1⟩
  by_cases e:i=k
  ·subst e;exact .inr h1
  ·exact .inl ⟨i,by omega,h1⟩
 ·rintro (⟨i,h,h1⟩ | h)
  ·exact ⟨i,by omega,h1⟩
  ·exact ⟨k,by omega,h⟩
theorem melts_1 {counts:yLI} (h:dec (QQ s counts c k)=true):true=dec (QQ s counts c (k+1)):=(jS (melts_succ.2 (.inl (yU h)))).symm
theorem melts_2 {counts:yLI} (h:dec (QQ s counts c k)=false) (h1:¬ counts[k]! > 0):false=dec (QQ s counts c (k+1)):=
 (xh fun x=>(melts_succ.1 x).elim (zX h) fun y=>h1 y.1).symm
theorem melts_3 {counts:yLI} (h:dec (QQ s counts c k)=false) (h1:(s.qE[k]!).jV=false):false=dec (QQ s counts c (k+1)):=
 (xh fun x=>(melts_succ.1 x).elim (zX h) fun y=>ft y.2.1 h1).symm
theorem melts_4 {counts:yLI} (h:dec (QQ s counts c k)=false) (h1:counts[k]! > 0) (h2:(s.qE[k]!).jV=true):((s.qE[k]!).qR == c)=dec (QQ s counts c (k+1)):=by
 refine dec_eq ?_
 rw [beq_iff_eq,melts_succ]
 exact ⟨fun e=>.inr ⟨h1,h2,e⟩,fun x=>x.elim (fun y=>absurd y (zX h)) fun y=>y.2.2⟩
abbrev Melts (s:qG) (counts:yLI) (c:Int):Prop:=QQ s counts c s.qE.length
noncomputable def Qs (s:qG) (counts:yLI) (n k:Nat):List Bool:=(List.range n).map fun c:Nat=>dec (QQ s counts (c:Int) k)
theorem meltsL_len (s:qG) (counts:yLI) (n k:Nat):(Qs s counts n k).length=n:=by simp [Qs]
theorem meltsL_get {counts:yLI} {c:Nat} (h:c < n):(Qs s counts n k)[c]! =dec (QQ s counts (c:Int) k):=by
 rw [getElem!_pos (Qs s counts n k) c (by rw [meltsL_len];exact h)];simp [Qs]
theorem meltsL_zero (s:qG) (counts:yLI) (n:Nat):List.replicate n false=Qs s counts n 0:=by
 refine ext_get (by simp [meltsL_len]) fun k hk=>?_
 rw [List.length_replicate] at hk
 rw [meltsL_get hk,xh (melts_zero _ _ _),getElem!_pos (List.replicate n false) k (by simpa using hk)];simp
theorem meltsL_set {counts:yLI} (h0:0<=(s.qE[k]!).qR) (h:(s.qE[k]!).qR.toNat < n) {x:Bool} (hx:x=true<->((Qs s counts n k)[(s.qE[k]!).qR.toNat]! =true\/(0 < counts[k]! /\(s.qE[k]!).jV=true))):
 (Qs s counts n k).set (s.qE[k]!).qR.toNat x=Qs s counts n (k+1):=by
 refine ext_get (by simp [meltsL_len]) fun p hp=>?_
 rw [List.length_set,meltsL_len] at hp
 rw [getset (by rw [meltsL_len];exact h),meltsL_get hp,meltsL_get hp]
 rw [meltsL_get h] at hx
 by_cases e:p=(s.qE[k]!).qR.toNat
 ·rw [if_pos e]
  refine dec_eq (hx.trans ?_)
  rw [melts_succ,e,show (((s.qE[k]!).qR.toNat:Nat):Int)=(s.qE[k]!).qR by omega]
  constructor
  ·rintro (h1 | h1)
   ·exact .inl (yU h1)
   ·exact .inr ⟨h1.1,h1.2,rfl⟩
  ·rintro (h1 | h1)
   ·exact .inl (jS h1)
   ·exact .inr ⟨h1.1,h1.2.1⟩
 ·rw [if_neg e]
  refine dec_congr ?_
  rw [melts_succ]
  constructor
  ·exact .inl
  ·rintro (h1 | ⟨_,_,h1⟩)
   ·exact h1
   ·exfalso;omega
open Classical in
noncomputable def xC (s:qG) (counts:yLI) (u:qH):Nat->qH
 | 0=>u
 | j+1=>if Melts s counts ((jC s:Int) - 1 - j) then melted s (xC s counts u j) ((jC s:Int) - 1 - j) else xC s counts u j
theorem meltDown_yes {counts:yLI} (h:Melts s counts c) (hc:c=(jC s:Int) - 1 - j):xC s counts u (j+1)=melted s (xC s counts u j) c:=by subst hc;rw [xC,if_pos h]
theorem meltDown_no {counts:yLI} (h:¬ Melts s counts c) (hc:c=(jC s:Int) - 1 - j):xC s counts u (j+1)=xC s counts u j:=by subst hc;rw [xC,if_neg h]
theorem Qw {counts:yLI} (h:dec (QQ s counts c i)=true) (hi:i=s.qE.length) (hc:c=(jC s:Int) - 1 - j):xC s counts u (j+1)=melted s (xC s counts u j) c:=by subst hi;exact meltDown_yes (yU h) hc
theorem meltDown_no' {counts:yLI} (h:dec (QQ s counts c i)=false) (hi:i=s.qE.length) (hc:c=(jC s:Int) - 1 - j):xC s counts u (j+1)=xC s counts u j:=by subst hi;exact meltDown_no (zX h) hc
theorem Qi (s:qG) (counts:yLI) (u:qH):∀ j,(xC s counts u j).qN=u.qN
 | 0=>rfl
 | j+1=>by
  rw [xC]
  split
  ·exact Qi s counts u j
  ·exact Qi s counts u j
structure Live (s:qG) (B:Int) (u:qH):Prop where
 alive:u.qI.length=jC s
 root:u.qI[0]! =true
 bags:Shape (jC s) (Qm s) B u.qP
 around:u.qN.length=Qm s
theorem Live.melt (hs:yj s) (h:Live s B u) (hB:0<=B) (h0:0 < c) (h1:c<=(jC s:Int) - 1):Live s (2 * B) (melted s u c):=by
 have hp:=X3 (t:=u) hs.1 h.root h0 h1
 have hpc:(xZ s u c).toNat < jC s:=by omega
 have hcc:c.toNat < jC s:=by omega
 refine ⟨by simp [melted,h.alive],?_,?_,h.around⟩
 ·show (u.qI.set c.toNat false)[0]! =true
  rw [getset (by rw [h.alive];exact hcc),if_neg qf];exact h.root
 ·have hr:=(h.bags.2 _ hcc).2
  have hk:=(h.bags.2 _ hcc).1
  have h2:=h.bags.plus (m:=u.qP[c.toNat]!) (t:=1) (D:=B) hpc (fun k hk=>by have:=hr k hk;omega) hB
  refine (h2.set (D:=B+B) hcc (by simp [Qm]) (fun k hk=>?_) qf).mono qf
  rw [getElem!_pos (List.replicate s.xO.toNat (0:Int)) k (by simpa [Qm] using hk)]
  simp;omega
def bnd:Nat->Int
 | 0=>200000000
 | j+1=>2 * bnd j
theorem bnd_pos:∀ j,0<=bnd j
 | 0=>by simp [bnd]
 | j+1=>by have:=bnd_pos j;simp only [bnd];omega
theorem bnd_mono:∀ {i j:Nat},i<=j->bnd i<=bnd j
  | i, 0, h => by obtain rfl : i = 0 := by omega
                  exact Int.le_refl _
  | i,j+1,h=>by
    by_cases e:i=j+1
    · subst e;exact Int.le_refl _
    · have:=bnd_mono (show i<=j by omega)
      have:=bnd_pos j
      simp only [bnd];omega
theorem bnd_le (h:j<=6):bnd j<=12800000000:=Int.le_trans (bnd_mono h) (by simp [bnd])
theorem Live.mono {s:qG} {B D:Int} {u:qH} (h:Live s B u) (hD:B<=D):Live s D u:=⟨h.alive,h.root,h.bags.mono hD,h.around⟩
theorem stepped_live {counts:yLI} (ht:zV s t) (h:Ent (jC s+1) (Qm s) (fun p k=>base0 s t p k+allS s t counts s.qE.length p k) B b) (hB:B<=200000000):Live s (bnd 0) (xI s t counts):=by
 have h1:=step_tab h
 have hr:=h.sh.2 (jC s) qf
 refine ⟨ht.1,ht.2.2.1,?_,by rw [← h1.2];exact hr.1⟩
 rw [← h1.1]
 refine ⟨by rw [List.length_take,h.sh.1];omega,fun p hp=>?_⟩
 have e:(b.take (jC s))[p]! =b[p]! :=by
  rw [getElem!_pos (b.take (jC s)) p (by rw [List.length_take,h.sh.1];omega),getElem!_pos b p (by rw [h.sh.1];omega)];simp
 rw [e]
 have:=h.sh.2 p qf
 exact ⟨this.1,fun k hk=>by have:=this.2 k hk;simp only [bnd];omega⟩
theorem meltDown_live {s:qG} {counts:yLI} {u:qH} (hs:yj s) (h:Live s (bnd 0) u):∀ j,j+1<=jC s->Live s (bnd j) (xC s counts u j)
 | 0,_=>h
 | j+1,hj=>by
  have ih:=meltDown_live (counts:=counts) hs h j qf
  by_cases hm:Melts s counts ((jC s:Int) - 1 - j)
  ·rw [meltDown_yes hm rfl];exact ih.melt hs (bnd_pos j) qf qf
  ·rw [meltDown_no hm rfl];exact ih.mono (bnd_mono qf)
theorem Live.rows (hs:yj s) (h:Live s B u) (hB:B<=12800000000) {p c:Nat} (hp:p < jC s) (hc:c < jC s):
 (u.qP[p]!).length<=(u.qP[c]!).length/\Mid (u.qP[p]!)/\SmallT (u.qP[c]!) 1:=by
 have h1:=h.bags.row qf (kinds_le hs) hp
 have h2:=h.bags.row qf (kinds_le hs) hc
 refine ⟨by omega,h1.2,fun k hk=>?_⟩
 have:=h2.2.2 k hk
 omega
noncomputable def stepRes (s:qG) (t:qH) (counts:yLI):qH×Int:=told s (xC s counts (xI s t counts) (jC s - 1))
open Classical in
noncomputable def jf (s:qG) (t:qH) (counts:yLI):qH×Int:=if IsCh s t counts then stepRes s t counts else (default,4)
theorem stepBy_yes {counts:yLI} (h:IsCh s t counts):jf s t counts=stepRes s t counts:=by rw [jf,if_pos h]
theorem stepBy_no {counts:yLI} (h:¬ IsCh s t counts):jf s t counts=(default,4):=by rw [jf,if_neg h]
def minus (k:Nat):yLI:=(List.range 6).map fun j=>if j < k then -1 else 0
theorem minus_len (k:Nat):(minus k).length=6:=by simp [minus]
theorem minus_get (h:j < 6):(minus k)[j]! =if j < k then -1 else 0:=by
 rw [getElem!_pos (minus k) j (by rw [minus_len];exact h)];simp [minus]
theorem minus_set (h:k < 6):(minus k).set k (-1)=minus (k+1):=by
 refine ext_get (by simp [minus_len]) fun p hp=>?_
 rw [List.length_set,minus_len] at hp
 rw [getset (by rw [minus_len];exact h),minus_get hp,minus_get hp]
 by_cases e:p=k
 ·rw [if_pos e,if_pos qf]
 ·rw [if_neg e]
  by_cases h1:p < k
  ·rw [if_pos h1,if_pos qf]
  ·rw [if_neg h1,if_neg qf]
theorem minus_six (h:k=6) (s:qG) (t:qH):minus k=bests s t (-1) 6 0:=by
 subst h
 rw [← bests_zero];rfl
theorem appl_yes (hk:k=s.qE.length) (hi:i < s.qE.length) (hz:z<=(s.qE[i]!).jR) (hc:(s.qE[i]!).qR.toNat < n) (h1:(s.qE[i]!).jR=(bests s t z n k)[(s.qE[i]!).qR.toNat]!) (h2:EnOk s t (s.qE[i]!)):Appl s t i:=by
 rw [bests_get hc,hk] at h1
 exact (appl_iff hi hz).2 ⟨h2,h1⟩
theorem appl_no (hk:k=s.qE.length) (hi:i < s.qE.length) (hz:z<=(s.qE[i]!).jR) (hc:(s.qE[i]!).qR.toNat < n) (h1:(s.qE[i]!).jR≠(bests s t z n k)[(s.qE[i]!).qR.toNat]!):¬ Appl s t i:=fun h=>by
 rw [bests_get hc,hk] at h1
 exact h1 ((appl_iff hi hz).1 h).2
theorem appls_halt:(appls s t).length=0<->Halted s t:=by
 constructor
 ·intro h j hj ha
  have:(j:Int)∈appls s t:=mem_applL.2 ⟨Int.natCast_nonneg j,by simpa using hj,by simpa using ha⟩
  rw [List.length_eq_zero_iff.1 h] at this;cases this
 ·intro h
  rw [List.length_eq_zero_iff]
  apply List.eq_nil_iff_forall_not_mem.2
  intro x hx
  obtain ⟨h0,h1,h2⟩:=mem_applL.1 hx
  exact h _ h1 h2
theorem outPl_in (hs:yD s) (h:0<=xZ s t r.qR):outPl s t r=(xZ s t r.qR).toNat:=by
 refine outPl_up fun e=>?_
 rw [e,parentNow_root hs] at h;omega
theorem outPl_out (hs:yD s) (h0:t.qI[0]! =true) (hc:CellIn s r.qR) (h:¬ 0<=xZ s t r.qR):outPl s t r=s.qC.length:=by
 refine outPl_root ?_
 rcases Int.lt_or_eq_of_le hc.1 with h1 | h1
 ·exact absurd (X3 hs h0 h1 hc.2).1 h
 ·exact h1.symm
theorem parentNow_lt (hs:yD s) (h0:t.qI[0]! =true) (hc:CellIn s c):xZ s t c<=(s.qC.length:Int) - 1:=by
 rcases Int.lt_or_eq_of_le hc.1 with h1 | h1
 ·have:=X3 hs h0 h1 hc.2;have:=hc.2;omega
 ·rw [← h1,parentNow_root hs];have:=hs.2.1;omega
theorem stepBy_ok {counts:yLI} (h:(jf s t counts).2=0):zV s (jf s t counts).1:=by
 by_cases hc:IsCh s t counts
 ·rw [stepBy_yes hc] at h ⊢
  unfold stepRes at h ⊢
  by_cases ho:zV s (xC s counts (xI s t counts) (jC s - 1))
  ·rw [told_yes ho];exact ho
  ·rw [told_no ho] at h;cases h
 ·rw [stepBy_no hc] at h;cases h
theorem meltsL_1 {counts:yLI} (h0:0<=(s.qE[k]!).qR) (h:(s.qE[k]!).qR.toNat < n) (h1:(Qs s counts n k)[(s.qE[k]!).qR.toNat]! =true):(Qs s counts n k).set (s.qE[k]!).qR.toNat true=Qs s counts n (k+1):=
 meltsL_set h0 h ⟨fun _=>.inl h1,fun _=>rfl⟩
theorem meltsL_2 {counts:yLI} (h0:0<=(s.qE[k]!).qR) (h:(s.qE[k]!).qR.toNat < n) (h1:(Qs s counts n k)[(s.qE[k]!).qR.toNat]! =false) (h2:¬ counts[k]! > 0):(Qs s counts n k).set (s.qE[k]!).qR.toNat false=Qs s counts n (k+1):=
 meltsL_set h0 h ⟨fun h=>(by cases h),fun h=>h.elim (fun h=>(ft h h1).elim) fun h=>(h2 h.1).elim⟩
theorem meltsL_3 {counts:yLI} (h0:0<=(s.qE[k]!).qR) (h:(s.qE[k]!).qR.toNat < n) (h1:(Qs s counts n k)[(s.qE[k]!).qR.toNat]! =false) (h2:counts[k]! > 0):(Qs s counts n k).set (s.qE[k]!).qR.toNat (s.qE[k]!).jV=Qs s counts n (k+1):=
 meltsL_set h0 h ⟨fun h=>.inr ⟨h2,h⟩,fun h=>h.elim (fun h=>(ft h h1).elim) fun h=>h.2⟩
theorem meltDown_yesL {counts:yLI} (h:(Qs s counts n i)[c.toNat]! =true) (hn:c.toNat < n) (h0:0<=c) (hi:i=s.qE.length) (hc:c=(jC s:Int) - 1 - j):xC s counts u (j+1)=melted s (xC s counts u j) c:=by
 rw [meltsL_get hn,show ((c.toNat:Nat):Int)=c by omega] at h
 exact Qw h hi hc
theorem meltDown_noL {counts:yLI} (h:(Qs s counts n i)[c.toNat]! =false) (hn:c.toNat < n) (h0:0<=c) (hi:i=s.qE.length) (hc:c=(jC s:Int) - 1 - j):xC s counts u (j+1)=xC s counts u j:=by
 rw [meltsL_get hn,show ((c.toNat:Nat):Int)=c by omega] at h
 exact meltDown_no' h hi hc
theorem copy_pre {f:Nat->Nat->Int} {al:List Bool} (h:Ent (n+1) K f B b) (hK:K<=8) (hn:n<=6) (ha:al.length=n):
 (⟨al,b.take n,b[n]!⟩:qH).qI.length<=1000000/\(⟨al,b.take n,b[n]!⟩:qH).qN.length<=1000000/\(⟨al,b.take n,b[n]!⟩:qH).qP.length<=1000000∧
  ∀ j,j < (⟨al,b.take n,b[n]!⟩:qH).qP.length->((⟨al,b.take n,b[n]!⟩:qH).qP[j]!).length<=1000000:=by
 have hl:(b.take n).length=n:=by rw [List.length_take,h.sh.1];omega
 have hr:=h.sh.2 n qf
 refine ⟨?_,?_,?_,fun j hj=>?_⟩
 ·show al.length<=1000000;omega
 ·show (b[n]!).length<=1000000;omega
 ·show (b.take n).length<=1000000;omega
 ·have hj:j < (b.take n).length:=hj
  show ((b.take n)[j]!).length<=1000000
  rw [getElem!_pos (b.take n) j hj,List.getElem_take,← getElem!_pos b j (by rw [h.sh.1];omega)]
  have:=(h.sh.2 j qf).1;omega
def single (s:qG) (i:Nat):yLI:=(List.replicate s.qE.length (0:Int)).set i 1
def Qp (kk M:Int) (l:yLI):Prop:=l.length=kk.toNat/\∀ j,j < l.length->0<=l[j]! /\l[j]! <=M
theorem Qp.len (h:Qp kk M l) (h0:0<=kk):(l.length:Int)=kk:=by have:=h.1;omega
theorem Qp.zero (h0:0<=kk) (hM:0<=M):Qp kk M (List.replicate kk.toNat 0):=⟨by simp,fun j hj=>by
 have hj' :j < kk.toNat:=by simpa using hj
 rw [getElem!_pos (List.replicate kk.toNat (0:Int)) j hj,List.getElem_replicate]
 omega⟩
theorem Qp.mono (h:Qp kk M l) (hM:M<=M'):Qp kk M' l:=⟨h.1,fun j hj=>by have:=h.2 j hj;omega⟩
theorem Qp.put {v:Int} (h:Qp kk M l) (h0:0<=v/\v<=M):Qp kk M (l.set i v):=⟨by rw [List.length_set];exact h.1,fun j hj=>by
 rw [List.length_set] at hj
 rw [getElem!_pos (l.set i v) j (by rw [List.length_set];exact hj),List.getElem_set]
 split
 ·exact h0
 ·have:=h.2 j hj
  rwa [getElem!_pos l j hj] at this⟩
theorem Qp.up (h:Qp kk M l) (hi:i < l.length) (hM:M+1<=M'):Qp kk M' (l.set i (l[i]! +1)):=
 (h.mono (by omega:M<=M')).put (by have:=h.2 i hi;omega)
theorem Qp.ok (h:Qp kk M l) (hk:1<=kk/\kk<=8) (hM:M<=1000):vk kk l:=
 ⟨⟨fun j hj=>by have:=h.2 j hj;omega,by have:=h.len qf;omega,by have:=h.len qf;omega⟩,h.len qf⟩
theorem Qp.small (h:Qp kk M l) (hk:1<=kk/\kk<=8) (hM:M<=1000):Small l:=vP (h.ok hk hM)
theorem sumTo_up {l:yLI} (h:∀ j,j < l.length->0<=l[j]!):∀ k,k<=l.length->0<=sumTo l k/\∀ i,i < k->l[i]! <=sumTo l k
 | 0,_=>⟨Int.le_refl _,fun i hi=>by omega⟩
 | k+1,hk=>by
  obtain ⟨h1,h2⟩:=sumTo_up h k qf
  have h3:=h k qf
  refine ⟨by simp only [sumTo];omega,fun i hi=>?_⟩
  simp only [sumTo]
  rcases Nat.lt_or_eq_of_le (Nat.le_of_lt_succ hi) with h4 | h4
  ·have:=h2 i h4;omega
  ·subst h4;omega
theorem Qp.one (h:Qp kk M l) (hk:1<=kk/\kk<=8) (hM:1<=M) (hs:Xh l=0) (hi:i < l.length):Xh (l.set i 1)≠0:=by
 have h1:=h.put (i:=i) (v:=1) qf
 have h2:=(sumTo_up (l:=l.set i 1) (fun j hj=>(h1.2 j hj).1) _ (Nat.le_refl _)).2 i (by rw [List.length_set];exact hi)
 rw [getElem!_pos (l.set i 1) i (by rw [List.length_set];exact hi),List.getElem_set_self] at h2
 show sumTo _ _≠0
 omega
def IntoDr (kk:Int) (par:yLI) (cell:Int) (l:List IntoD) (c:Int):Prop:=
 ∀ j,j < l.length->(0<=(l[j]!).qR/\(l[j]!).qR < c)/\Lies par cell (l[j]!).qR/\Qp kk 1 (l[j]!).QP/\Xh (l[j]!).QP≠0/\(0 < j->(l[j - 1]!).qR < (l[j]!).qR)
theorem IntoDr.nil (kk:Int) (par:yLI) (cell c:Int):IntoDr kk par cell [] c:=fun j hj=>by simp at hj
theorem IntoDr.mono {cell c':Int} {l:List IntoD} (h:IntoDr kk par cell l c) (hc:c<=c'):IntoDr kk par cell l c' :=fun j hj=>by
 obtain ⟨h1,h2⟩:=h j hj
 exact ⟨by omega,h2⟩
theorem get_snoc {α:Type} [Inhabited α] {l:List α} {x:α}:(l++[x])[j]! =if j < l.length then l[j]! else if j=l.length then x else default:=by
 by_cases h:j < l.length
 ·rw [if_pos h,getElem!_pos (l++[x]) j qy,getElem!_pos l j h,List.getElem_append_left h]
 ·rw [if_neg h]
  by_cases h2:j=l.length
  ·subst h2
   rw [if_pos rfl,getElem!_pos (l++[x]) l.length qm]
   simp
  ·rw [if_neg h2,getElem!_neg (l++[x]) j qy]
theorem IntoDr.snoc {cell:Int} {l:List IntoD} {b:yLI} (h:IntoDr kk par cell l c) (hc:0<=c) (hl:Lies par cell c) (hb:Qp kk 1 b) (hs:Xh b≠0):IntoDr kk par cell (l++[⟨c,b⟩]) (c+1):=fun j hj=>by
 have hj' :j < l.length\/j=l.length:=by simp at hj;omega
 rcases hj' with hj' | hj'
 ·obtain ⟨h1,h2,h3,h4,h5⟩:=h j hj'
  rw [get_snoc,if_pos hj',get_snoc,if_pos qf]
  exact ⟨by omega,h2,h3,h4,h5⟩
 ·subst hj'
  rw [get_snoc,if_neg qf,if_pos rfl]
  refine ⟨⟨hc,by show c < c+1;omega⟩,hl,hb,hs,fun h0=>?_⟩
  rw [get_snoc,if_pos qf]
  exact (h (l.length - 1) qf).1.2
structure RuleDr (kk:Int) (par:yLI) (r:zZ):Prop where
 cell:0<=r.qR/\r.qR < par.length
 rank:0<=r.jR/\r.jR<=2
 melts:¬ (r.jV=true/\r.qR=0)
 need:Qp kk 2 r.vF/\Xh r.vF≠0
 hav:Qp kk 1 r.vJ
 lack:Qp kk 1 r.vY
 here:Qp kk 2 r.vw
 out:Qp kk 2 r.QI
 many:r.xw.length<=3
 into:IntoDr kk par r.qR r.xw par.length
theorem RuleDr.ok {s:qG} {r:zZ} (h:RuleDr s.xO s.qC r) (hk:1<=s.xO/\s.xO<=8):RuleOk s r:=
 ⟨⟨h.cell.1,by have:=h.cell.2;omega⟩,by have:=h.rank;omega,h.melts,h.many,h.need.1.ok hk qf,h.hav.ok hk qf,h.lack.ok hk qf,h.here.ok hk qf,h.out.ok hk qf,h.need.2,
  fun j hj=>by
   obtain ⟨h1,h2,h3,h4,h5⟩:=h.into j hj
   exact ⟨⟨h1.1,by omega⟩,h2,h3.ok hk qf,h4,h5⟩⟩
def QJ (kk:Int) (par:yLI) (l:List zZ):Prop:=∀ j,j < l.length->RuleDr kk par (l[j]!)
theorem QJ.nil (kk:Int) (par:yLI):QJ kk par []:=fun j hj=>by simp at hj
theorem QJ.snoc {l:List zZ} (h:QJ kk par l) (hr:RuleDr kk par r):QJ kk par (l++[r]):=fun j hj=>by
 rw [get_snoc]
 by_cases h1:j < l.length
 ·rw [if_pos h1];exact h j h1
 ·rw [if_neg h1,if_pos (by simp at hj;omega)];exact hr
theorem QJ.set {kk:Int} {par:yLI} {l:List zZ} {r:zZ} {i:Nat} (h:QJ kk par l) (hr:RuleDr kk par r):QJ kk par (l.set i r):=fun j hj=>by
 rw [List.length_set] at hj
 rw [getElem!_pos (l.set i r) j (by rw [List.length_set];exact hj),List.getElem_set]
 split
 ·exact hr
 ·have:=h j hj;rwa [getElem!_pos l j hj] at this
def ParDr (par:yLI):Prop:=1<=par.length/\par[0]! = -1/\∀ c,1<=c->c < par.length->0<=par[c]! /\par[c]! <=(c:Int) - 1
theorem ParDr.one:ParDr [-1]:=⟨by simp,rfl,fun c h1 h2=>by simp at h2;omega⟩
theorem ParDr.snoc {v:Int} (h:ParDr par) (hv:0<=v/\v < par.length):ParDr (par++[v]):=by
 obtain ⟨h1,h2,h3⟩:=h
 refine ⟨by simp,by rw [get_snoc,if_pos qf];exact h2,fun c hc hl=>?_⟩
 rw [get_snoc]
 by_cases h4:c < par.length
 ·rw [if_pos h4];exact h3 c hc h4
 ·have h5:c=par.length:=by simp at hl;omega
  rw [if_neg h4,if_pos h5];omega
structure SysDr (kk:Int) (par:yLI) (rules:List zZ):Prop where
 kinds:1<=kk/\kk<=3
 cells:1<=par.length/\par.length<=3
 skin:par[0]! = -1
 up:∀ c,1<=c->c < par.length->0<=par[c]! /\par[c]! <=(c:Int) - 1
 few:rules.length<=5
 rules:QJ kk par rules
theorem SysDr.frame (h:SysDr kk par rules):yD ⟨kk,par,rules⟩:=by
 have h1:=h.kinds
 have h2:=h.cells
 exact ⟨⟨h1.1,by show kk<=8;omega⟩,⟨h2.1,by show par.length<=6;omega⟩,h.skin,h.up⟩
theorem SysDr.ok {kk:Int} {par:yLI} {rules:List zZ} (h:SysDr kk par rules):yj ⟨kk,par,rules⟩:=by
 have h1:=h.kinds
 have h3:=h.few
 refine ⟨h.frame,by show rules.length<=16;omega,fun j hj=>⟨(h.rules j hj).ok (s:=⟨kk,par,rules⟩) ⟨h1.1,by show kk<=8;omega⟩,?_⟩⟩
 have h4:=(ofCell_bd rules (rules[j]!).qR (j+1)).2
 have h5:j < rules.length:=hj
 show XG rules (rules[j]!).qR (j+1)<=8
 omega
structure StDr (kk:Int) (n:Nat) (M:Int) (alive:List Bool) (bags:yLL) (around:yLI):Prop where
 la:alive.length=n
 lb:bags.length=n
 skin:alive[0]! =true
 around:Qp kk 2 around
 bags:∀ c,c < bags.length->Qp kk M (bags[c]!)/\(alive[c]! =false->Xh (bags[c]!)<=0)
theorem StDr.ok {kk M:Int} {par:yLI} {rules:List zZ} {alive:List Bool} {bags:yLL} {around:yLI} (h:StDr kk par.length M alive bags around) (hs:SysDr kk par rules) (hM:M<=1000):zV ⟨kk,par,rules⟩ ⟨alive,bags,around⟩:=by
 have h1:=hs.kinds
 exact ⟨h.la,h.lb,h.skin,h.around.ok ⟨h1.1,by omega⟩ qf,fun c hc=>⟨(h.bags c hc).1.ok ⟨h1.1,by show kk<=8;omega⟩ hM,(h.bags c hc).2⟩⟩
structure StTo (kk M:Int) (c:Nat) (alive:List Bool) (bags:yLL):Prop where
 la:alive.length=c
 lb:bags.length=c
 skin:0 < c->alive[0]! =true
 bags:∀ j,j < bags.length->Qp kk M (bags[j]!)/\(alive[j]! =false->Xh (bags[j]!)<=0)
theorem StTo.nil (kk M:Int):StTo kk M 0 [] []:=⟨rfl,rfl,fun h=>by omega,fun j hj=>by simp at hj⟩
theorem StTo.snoc {c:Nat} {bags:yLL} {a:Bool} {b:yLI} (h:StTo kk M c alive bags) (ha:c=0->a=true) (hb:Qp kk M b) (hz:a=false->Xh b<=0):StTo kk M (c+1) (alive++[a]) (bags++[b]):=by
 have la:=h.la
 have lb:=h.lb
 refine ⟨by simp [la],by simp [lb],fun _=>?_,fun j hj=>?_⟩
 ·rw [get_snoc]
  by_cases h0:0 < c
  ·rw [if_pos qf];exact h.skin h0
  ·rw [if_neg qf,if_pos qf];exact ha qf
 ·rw [get_snoc,get_snoc]
  by_cases h1:j < c
  ·rw [if_pos qf,if_pos qf];exact h.bags j qf
  ·rw [if_neg qf,if_pos (by simp at hj;omega),if_neg qf,if_pos (by simp at hj;omega)];exact ⟨hb,hz⟩
end
section
instance:qK UInt8 where
 size:=1
 rep:=fun _ F cs x=>F=[]/\cs=[.int .u8 (x.toNat:Int)]
 len:=by rintro w F cs x ⟨_,rfl⟩;rfl
 one:=by rintro w F cs x ⟨_,rfl⟩ u hu;simp only [List.mem_singleton] at hu;subst hu;rfl
 stay:=by rintro w w' F cs x h _;exact h
 lt:=by rintro w F cs x ⟨rfl,_⟩ b hb;simp at hb
section
variable {P : Program} {ops : Array Oper} {Q : Exit -> Act -> World -> Prop} {n : Nat} {ρ : Env} {W0 w : World} {rest : List Oper} {ps : List Prv} {Γ : List Fact}
 {d:Nat} {ty:TypeId} {pos:String} {af:Array Edge} {K:Env->World->Prop}
end
section
variable {P : Program} {n : Nat} {ρ : Env} {W0 w : World} {ps : List Prv} {Γ : List Fact}
end
section
variable {P : Program} {ops : Array Oper} {Q : Exit -> Act -> World -> Prop} {n : Nat} {ρ : Env} {W0 w : World} {rest : List Oper} {ps : List Prv} {Γ : List Fact}
 {d:Nat} {ty:TypeId} {pos:String} {af:Array Edge} {K:Env->World->Prop}
end
theorem reps_part {α:Type} [qK α] [Inhabited α] {l:List α} {f:α} (i q:Nat) (hi:i < l.length) (hq:q < qK.size α)
 (hr:∀ Fk ck,qK.rep w Fk ck (l[i]!)->∃ F',qK.rep w F' (ck.set q v) f/\∀ b∈F',b∈Fk\/b∈G) (h:reps w F X l):
 ∃ F',reps w F' (X.set (i * qK.size α+q) v) (l.set i f)/\∀ b∈F',b∈F\/b∈G:=by
 obtain ⟨F1,Fk,F2,v1,cs,v2,hF,hv,hl1,hlc,h1,h2,h3⟩:=reps_get h i hi
 obtain ⟨F',hr',hs⟩:=hr Fk cs (by rw [getElem!_pos l i hi];exact h1)
 refine ⟨F1++F' ++F2,?_,fun b hb=>?_⟩
 ·rw [hv,← hl1,List.append_assoc v1,List.set_append_right _ _ qf,Nat.add_sub_cancel_left,List.set_append_left _ _ qf,List.set_eq_take_append_cons_drop (l:=l),if_pos hi,← List.append_assoc]
  have:=jJ (jJ h2 (reps_one hr')) h3
  simpa using this
 ·simp only [List.mem_append] at hb
  rw [hF]
  rcases hb with (hb | hb) | hb
  ·exact .inl (by simp [hb])
  ·rcases hs b hb with h | h
   ·exact .inl (by simp [h])
   ·exact .inr h
  ·exact .inl (by simp [hb])
section
variable {W0 w : World} {ps : List Prv} {Γ : List Fact}
theorem St.part {β:Type} [qK β] (H:St W0 w ps Γ) (j:Nat) {l:List zZ} (hf:Γ[j]? =some (xN fr F X l)) (m:Nat) {fr' :Bool} {z:β} (hg:Γ[m]? =some (isF fr' G v z))
 {iv:Int} (i:Nat) (hi:iv.toNat=i) (h1:i < l.length) (q:Nat) (hq:q < 9) (f:zZ) (hr:∀ Fk ck,qK.rep w Fk ck (l[i]!)->∃ F',qK.rep w F' (ck.set q v) f/\∀ b∈F',b∈Fk\/b∈G):
 ∃ F',St W0 w ps (xN false F' (X.set (0+iv.toNat * 9+q) v) (l.set i f)::Γ):=by
 subst hi
 obtain ⟨F',h2,h3⟩:=reps_part (α:=zZ) iv.toNat q h1 hq hr (H.get j hf).1
 refine ⟨F',H.add _ ⟨by rw [Nat.zero_add];exact h2,by simp⟩ fun b hb=>?_⟩
 rcases h3 b hb with h | h
 ·exact (H.facts _ (List.mem_of_getElem? hf)).2 b h
 ·exact (H.facts _ (List.mem_of_getElem? hg)).2 b h
end
theorem QJ.here {l:List zZ} {b:yLI} (h:QJ kk par l) (hi:i < l.length) (hb:Qp kk 2 b):QJ kk par (l.set i { l[i]! with vw:=b }):=
 h.set (let r:=h i hi;⟨r.cell,r.rank,r.melts,r.need,r.hav,r.lack,hb,r.out,r.many,r.into⟩)
theorem QJ.out {l:List zZ} {b:yLI} (h:QJ kk par l) (hi:i < l.length) (hb:Qp kk 2 b):QJ kk par (l.set i { l[i]! with QI:=b }):=
 h.set (let r:=h i hi;⟨r.cell,r.rank,r.melts,r.need,r.hav,r.lack,r.here,hb,r.many,r.into⟩)
theorem QJ.into {l:List zZ} (h:QJ kk par l) (hi:i < l.length):QJ kk par (l.set i { l[i]! with xw:=[]}):=
 h.set (let r:=h i hi;⟨r.cell,r.rank,r.melts,r.need,r.hav,r.lack,r.here,r.out,by simp,IntoDr.nil _ _ _ _⟩)
theorem QJ.still {l:List zZ} (h:QJ kk par l) (hi:i < l.length):QJ kk par (l.set i { l[i]! with jV:=false }):=
 h.set (let r:=h i hi;⟨r.cell,r.rank,(fun e=>Bool.noConfusion e.1),r.need,r.hav,r.lack,r.here,r.out,r.many,r.into⟩)
theorem SysDr.with {rules':List zZ} (h:SysDr kk par rules) (h1:rules'.length<=5) (h2:QJ kk par rules'):SysDr kk par rules' :=⟨h.kinds,h.cells,h.skin,h.up,h1,h2⟩
def HereTo (kk:Int) (k:Nat) (l:yLI):Prop:=Qp kk 2 l/\∀ j,j < l.length->k<=j+1->l[j]! =0
theorem HereTo.zero {kk:Int} (h0:0<=kk):HereTo kk 1 (List.replicate kk.toNat 0):=⟨Qp.zero h0 qf,fun j hj _=>by rw [getElem!_pos (List.replicate kk.toNat (0:Int)) j hj,List.getElem_replicate]⟩
theorem HereTo.go (h:HereTo kk k l):HereTo kk (k+1) l:=⟨h.1,fun j hj hk=>h.2 j hj qf⟩
theorem HereTo.put {kk:Int} {k i:Nat} {l:yLI} {v:Int} (h:HereTo kk k l) (hi:i < l.length) (hk:i+1=k) (hv:0<=v/\v<=2):HereTo kk (k+1) (l.set i (l[i]! +v)):=by
 have h0:=h.2 i hi qf
 refine ⟨h.1.put qf,fun j hj hk' =>?_⟩
 rw [List.length_set] at hj
 rw [getElem!_pos (l.set i _) j (by rw [List.length_set];exact hj),List.getElem_set,if_neg qf]
 have:=h.2 j hj qf
 rwa [getElem!_pos l j hj] at this
structure Xg (α β:Type) [qK α] [qK β] (q:Nat) (get:α->β) (put:α->β->α):Prop where
 cut:∀ {w:World} {F:yLN} {cs:List Value} {x:α},qK.rep w F cs x->∃ (c1 cm c2:List Value) (F1 Fm F2:yLN),cs=c1++cm++c2/\c1.length=q/\F=F1++Fm++F2/\qK.rep w Fm cm (get x)∧
  ∀ (w' :World) (F' :yLN) (c' :List Value) (y:β),(∀ b∈F1++F2,w'.heap[b]? =w.heap[b]?)->qK.rep w' F' c' y->qK.rep w' (F1++F' ++F2) (c1++c' ++c2) (put x y)
theorem Xg.refl {α:Type} [qK α]:Xg α α 0 (fun x=>x) (fun _ y=>y):=
 ⟨fun {w F cs x} h=>⟨[],cs,[],[],F,[],by simp,rfl,by simp,h,fun w' F' c' y _ h' =>by simpa using h'⟩⟩
theorem Xg.trans {α β γ:Type} [qK α] [qK β] [qK γ] {q r:Nat} {get:α->β} {put:α->β->α} {get' :β->γ} {put' :β->γ->β} (S:Xg α β q get put) (T:Xg β γ r get' put'):
 Xg α γ (q+r) (fun x=>get' (get x)) (fun x y=>put x (put' (get x) y)):=
 ⟨fun {w F cs x} h=>by
  obtain ⟨c1,cm,c2,F1,Fm,F2,rfl,h1,rfl,h2,h3⟩:=S.cut h
  obtain ⟨d1,dm,d2,G1,Gm,G2,rfl,h4,rfl,h5,h6⟩:=T.cut h2
  refine ⟨c1++d1,dm,d2++c2,F1++G1,Gm,G2++F2,by simp,by simp [h1,h4],by simp,h5,fun w' F' c' y hs hr=>?_⟩
  have h7:=h6 w' F' c' y (fun b hb=>hs b (by simp only [List.mem_append] at hb ⊢;rcases hb with hb | hb <;> simp [hb])) hr
  have h8:=h3 w' _ _ _ (fun b hb=>hs b (by simp only [List.mem_append] at hb ⊢;rcases hb with hb | hb <;> simp [hb])) h7
  simpa using h8⟩
section
variable {α β : Type} [qK α] [qK β] [Inhabited α] {q : Nat} {get : α -> β} {put : α -> β -> α}
theorem Xg.el (S:Xg α β q get put) {l:List α} (h:reps w F xs l) (k:Nat) (hk:k < l.length):
 ∃ (c1 cm c2:List Value) (F1 Fm F2:yLN),xs=c1++cm++c2/\c1.length=k * qK.size α+q/\F=F1++Fm++F2/\qK.rep w Fm cm (get (l[k]!))∧
 ∀ (w' :World) (F' :yLN) (c' :List Value) (y:β),(∀ b∈F1++F2,w'.heap[b]? =w.heap[b]?)->qK.rep w' F' c' y->reps w' (F1++F' ++F2) (c1++c' ++c2) (l.set k (put (l[k]!) y)):=by
 obtain ⟨G1,Gk,G2,v1,cs,v2,rfl,rfl,hl1,hl2,hr,hr1,hr2⟩:=reps_get h k hk
 obtain ⟨c1,cm,c2,F1,Fm,F2,rfl,h1,rfl,h2,h3⟩:=S.cut hr
 have ek:l[k]! =l[k]:=getElem!_pos l k hk
 refine ⟨v1++c1,cm,c2++v2,G1++F1,Fm,F2++G2,by simp,by simp [hl1,h1],by simp,by rw [ek];exact h2,fun w' F' c' y hs hr' =>?_⟩
 have h4:=h3 w' F' c' y (fun b hb=>hs b (by simp only [List.mem_append] at hb ⊢;rcases hb with hb | hb <;> simp [hb])) hr'
 have h5:=XJ hr1 (w' :=w') (fun b hb=>hs b (by simp [hb]))
 have h6:=XJ hr2 (w' :=w') (fun b hb=>hs b (by simp [hb]))
 rw [ek,List.set_eq_take_append_cons_drop,if_pos hk]
 have h7:=jJ h5 (jJ (reps_one h4) h6)
 simpa using h7
end
section
variable {α β : Type} [qK α] [qK β] [Inhabited α] {q : Nat} {get : α -> β} {put : α -> β -> α}
variable {W0 w : World} {ps : List Prv} {Γ : List Fact}
theorem mid_swap {F1 F2:yLN}:(∀ b∈F1++G++F2,b∈F1++Fm++F2\/b∈G)/\((F1++Fm++F2).Nodup->G.Nodup->(∀ b∈F1++Fm++F2,b∉G)->(F1++G++F2).Nodup):=by
 refine ⟨fun b hb=>?_,fun h1 h2 h3=>?_⟩
 ·simp only [List.mem_append] at hb ⊢
  rcases hb with (hb | hb) | hb <;> simp [hb]
 ·rw [List.append_assoc,List.nodup_append,List.nodup_append] at h1 ⊢
  obtain ⟨a1,⟨a2,a3,a4⟩,a5⟩:=h1
  refine ⟨a1,⟨h2,a3,fun x hx y hy e=>h3 y (by simp [hy]) (e▸hx)⟩,fun x hx y hy=>?_⟩
  rcases List.mem_append.1 hy with h | h
  ·exact fun e=>h3 x (by simp [hx]) (e▸h)
  ·exact a5 x hx y (by simp [h])
end
section
variable {α β : Type} [qK α] [qK β] [Inhabited α] {q : Nat} {get : α -> β} {put : α -> β -> α}
variable {P : Program} {Q : Exit -> Act -> World -> Prop} {n : Nat} {ρ : Env} {W0 w : World} {ps : List Prv} {Γ : List Fact}
 {d:Nat} {ty:TypeId} {pos:String} {af:Array Edge} {K:Env->World->Prop}
theorem putPart [Dfr] (S:Xg α β q get put) {t:TypeId} {b c:Nat} {xs0:List Value} {l' :List α} (H:St W0 w ps Γ) (k:Nat) (hp:ps[k]? =some (.row (Sv (some ⟨b,0,none⟩) nn c) e sz nn xs0))
 (j:Nat) {F:yLN} {l:List α} (hf:Γ[j]? =some (xN true F xs l)) {G:yLN} {us:List Value} {z:β} (hG:qK.rep w G us z/\ve w G) (hgo:∀ b∈G,b < w.heap.size/\∀ i,jq ps i≠some b) {v:Value}
 (hv:v.cells.toList=us) (hs:∀ w,(Go.sizeOf t).run P w=.ok v.cells.size w) (hx:ev n ρ x=.pointer (some ⟨b,off,none⟩)) (hy:ev n ρ y=v) (hsz:qK.size α=sz) (hz:0 < sz) (i:Nat) (h1:i < nn) (ho:off=i * sz+q) (hl' :l' =l.set i (put (l[i]!) z))
 (hxl:xs0.length=xs.length) (hxx:off+us.length<=xs.length->xs0.take off++us++xs0.drop (off+us.length)=xs.take off++us++xs.drop (off+us.length))
 (kk:∀ w' xs' F',((∀ b∈F',b∈F\/b∈G)/\(F.Nodup->G.Nodup->(∀ b∈F,b∉G)->F'.Nodup))->St W0 w' (ps.set k (.row (Sv (some ⟨b,0,none⟩) nn c) e sz nn xs')) (xN true F' xs' l'::Γ)->K ρ w'):
 OW P Q ⟨none,.store t x y,ty,pos,af,none⟩ n ρ w K:=by
 subst hsz
 subst hl'
 have hl0:=H.rowLen k hp
 have hl1:xs.length=l.length * qK.size α:=XA (H.get j hf).1
 have hn:nn=l.length:=Nat.eq_of_mul_eq_mul_right hz (by rw [← hl0,hxl,hl1])
 obtain ⟨c1,cm,c2,F1,Fm,F2,rfl,h2,rfl,h3,h4⟩:=S.el (H.get j hf).1 i qf
 have lm:cm.length=us.length:=(qK.len h3).trans (qK.len hG.1).symm
 have lv:v.cells.size=us.length:=by rw [← hv];simp
 have e1:(c1++cm++c2).take off++us++(c1++cm++c2).drop (off+us.length)=c1++us++c2:=by
  rw [ho,← h2,← lm]
  simp
 have hle:off+us.length<=(c1++cm++c2).length:=by rw [ho];simp [h2,lm]
 have e0:=(hxx hle).trans e1
 have H1:St W0 w ps (xN true (F1++G++F2) (c1++us++c2) (l.set i (put (l[i]!) z))::Γ):=by
  refine H.add _ ⟨h4 w G us z (fun _ _=>rfl) hG.1,fun _ x hx=>?_⟩ fun x hx=>?_
  ·rcases (mid_swap (Fm:=Fm)).1 x hx with h | h
   ·exact (H.get j hf).2 rfl x h
   ·exact hG.2 x h
  ·rcases (mid_swap (Fm:=Fm)).1 x hx with h | h
   ·exact (H.facts _ (List.mem_of_getElem? hf)).2 x h
   ·exact hgo x h
 refine o_storeRow H1 k hp v hs hx hy (fun u hu=>qK.one hG.1 u (hv▸hu)) (by rw [lv,hxl];exact hle) fun w' H' =>?_
 rw [lv,hv,e0] at H'
 exact kk w' _ _ mid_swap H'
end
theorem St.poke (H:St W0 w ps Γ) {w' :World} (ho:w'.os=w.os) (ht:w'.tape=w.tape) (hu:w'.output=w.output) (hz:w'.heap.size=w.heap.size)
 (hh:∀ b,b≠g->w'.heap[b]? =w.heap[b]?) (hg:W0.heap.size<=g) (hp:∀ i,jq ps i≠some g) (Γ' :List Fact) (hΓ:∀ f∈Γ',f∈Γ/\g∉f.F):St W0 w' ps Γ' :=
 ⟨⟨ho.trans H.base.os,ht.trans H.base.tape,hu.trans H.base.output,by rw [hz];exact H.base.size,fun k hk=>(hh k qf).trans (H.base.block k hk)⟩,
  fun p hp' =>(H.has p hp').stay fun b hb=>hh b fun e=>by
   obtain ⟨i,hi⟩:=List.getElem?_of_mem hp'
   exact hp i (by simp [jq,hi,hb,e]),
  H.dist,fun f hf=>by
   obtain ⟨h1,h2⟩:=hΓ f hf
   have h3:=H.facts f h1
   exact ⟨f.stay w w' h3.1 fun b hb=>hh b fun e=>h2 (e▸hb),fun b hb=>⟨by rw [hz];exact (h3.2 b hb).1,(h3.2 b hb).2⟩⟩⟩
theorem slice_poke {γ:Type} [qK γ] [Inhabited γ] {m c:Nat} {l:List γ} (h:qK.rep w F [Sv (some ⟨g,o,none⟩) m c] l) (hfr:ve w F) (hnd:F.Nodup) {p:Nat} (hp:p < l.length) (hz:0 < qK.size γ) {us:List Value} {z:γ} (hG:qK.rep w G us z) (hGn:G.Nodup) (hd:∀ b∈F,b∉G):
 g∈F/\∃ w' F',(storeCells ⟨g,o+p * qK.size γ,none⟩ us).run P w=.ok () w' /\w'.os=w.os/\w'.tape=w.tape/\w'.output=w.output/\w'.heap.size=w.heap.size/\(∀ b,b≠g->w'.heap[b]? =w.heap[b]?)/\(∃ cs t,w'.heap[g]? =some (.cells cs t (0,0)))∧
  qK.rep w' F' [Sv (some ⟨g,o,none⟩) m c] (l.set p z)/\(∀ b∈F',b∈F\/b∈G)/\F'.Nodup:=by
 obtain ⟨a,cap,hc,hl,hcase⟩:=id h
 simp only [List.cons.injEq,Value.slice.injEq,and_true] at hc
 obtain ⟨rfl,rfl,rfl⟩:=hc
 rcases hcase with ⟨h0,_⟩ | ⟨b,off,F1,vs,ha,rfl,hlt,hr,hcells⟩
 ·rw [h0] at hp;simp at hp
 simp only [Option.some.injEq,Addr.mk.injEq,and_true] at ha
 obtain ⟨rfl,rfl⟩:=ha
 obtain ⟨v1,cm,v2,G1,Gm,G2,rfl,hl1,rfl,hr1,hput⟩:=(Xg.refl (α:=γ)).el hr p hp
 obtain ⟨cur,t,hcur⟩:=hfr g qm
 have hone:=qK.one hG
 have lg:=qK.len hG
 have lm:cm.length=us.length:=(qK.len hr1).trans lg.symm
 have hvs:∀ i v,(v1++cm++v2)[i]? =some v->cur[o+i]? =some v:=fun i v hi=>by
  have:=hcells i v hi
  rw [World.cell?,hcur] at this
  simpa using this
 have hlen:o+(v1.length+cm.length+v2.length)<=cur.size:=by
  have h1:v1.length+cm.length+v2.length - 1 < (v1++cm++v2).length:=by simp;omega
  obtain ⟨h2,_⟩:=Array.getElem?_eq_some_iff.1 (hvs _ _ (List.getElem?_eq_getElem h1))
  omega
 have hrun:=run_storeCells_at P g (o+p * qK.size γ) t us 0 cur w hcur qf hone
 simp only [Nat.add_zero] at hrun hl1
 have hnd1:=List.nodup_cons.1 hnd
 have hdF:∀ b∈G1++Gm++G2,b∉G:=fun b hb=>hd b (List.mem_cons_of_mem _ hb)
 have hgG:g∉G:=hd g (List.mem_cons_self ..)
 have hoth:∀ b,b≠g->(w.setRow g (cur.toList.take (o+p * qK.size γ)++us++cur.toList.drop (o+p * qK.size γ+us.length)).toArray).heap[b]? =w.heap[b]? :=fun b hb=>by
  simp [World.setRow,Array.getElem?_modify,Ne.symm hb]
 have hself:(w.setRow g (cur.toList.take (o+p * qK.size γ)++us++cur.toList.drop (o+p * qK.size γ+us.length)).toArray).heap[g]? =some (.cells (cur.toList.take (o+p * qK.size γ)++us++cur.toList.drop (o+p * qK.size γ+us.length)).toArray t (0,0)):=by
  simp [World.setRow,Array.getElem?_modify,hcur]
 have hms:=mid_swap (F1:=G1) (Fm:=Gm) (F2:=G2) (G:=G)
 refine ⟨List.mem_cons_self ..,_,g::(G1++G++G2),hrun,rfl,rfl,rfl,by simp [World.setRow],hoth,⟨_,_,hself⟩,⟨_,c,by rw [List.length_set],by rw [List.length_set];exact hl,Or.inr ⟨g,o,_,v1++us++v2,rfl,rfl,?_,?_,?_⟩⟩,fun b hb=>?_,List.nodup_cons.2 ⟨fun hb=>?_,hms.2 hnd1.2 hGn hdF⟩⟩
 ·simpa [World.setRow] using hlt
 ·refine hput _ G us z (fun b hb=>hoth b fun e=>?_) (qK.stay hG fun b hb=>hoth b fun e=>hgG (e▸hb))
  subst e
  exact hnd1.1 (by simp only [List.mem_append] at hb ⊢;rcases hb with hb | hb <;> simp [hb])
 ·intro i v hi
  rw [World.cell?,hself]
  have hi' :i < v1.length+us.length+v2.length:=by
   have:=(List.getElem?_eq_some_iff.1 hi).1
   simpa [Nat.add_assoc] using this
  simp only [Option.bind_some]
  show (cur.toList.take (o+p * qK.size γ)++us++cur.toList.drop (o+p * qK.size γ+us.length)).toArray[o+i]? =some v
  rw [List.getElem?_toArray]
  by_cases h1:i < v1.length
  ·rw [List.append_assoc,List.getElem?_append_left qy,List.getElem?_take,if_pos qf,Array.getElem?_toList]
   refine hvs i v ?_
   rw [List.append_assoc,List.getElem?_append_left h1] at hi ⊢
   exact hi
  ·by_cases h2:i < v1.length+us.length
   ·rw [List.append_assoc,List.getElem?_append_right qy,List.getElem?_append_left qy]
    rw [List.append_assoc,List.getElem?_append_right qf,List.getElem?_append_left qf] at hi
    rw [← hi];congr 1;simp;omega
   ·rw [List.getElem?_append_right qy,List.getElem?_drop,Array.getElem?_toList]
    have h3:=hvs i v (by
     rw [List.getElem?_append_right qy] at hi ⊢
     rw [← hi];congr 1;simp;omega)
    rw [← h3];congr 1;simp;omega
 ·rcases List.mem_cons.1 hb with rfl | hb
  ·exact .inl (List.mem_cons_self ..)
  ·rcases hms.1 b hb with h | h
   ·exact .inl (List.mem_cons_of_mem _ h)
   ·exact .inr h
 ·rcases hms.1 g hb with h | h
  ·exact hnd1.1 h
  ·exact hgG h
section
variable {α γ : Type} [qK α] [qK γ] [Inhabited α] [Inhabited γ] {q : Nat} {get : α -> List γ} {put : α -> List γ -> α}
variable {P : Program} {Q : Exit -> Act -> World -> Prop} {n : Nat} {ρ : Env} {W0 w : World} {ps : List Prv} {Γ : List Fact}
 {d:Nat} {ty:TypeId} {pos:String} {af:Array Edge} {K:Env->World->Prop}
theorem pokePart [Dfr] (S:Xg α (List γ) q get put) {t:TypeId} {l l' :List α} (H:St W0 w ps Γ)
 (j:Nat) (hf:Γ[j]? =some (xN true F xs l)) {G:yLN} {L:List yLN} (N:Fresh W0.heap.size (F::G::L)) {us:List Value} {z:γ} (hG:qK.rep w G us z) (hGf:ve w G) (hGo:∀ b∈G,b < w.heap.size/\∀ i,jq ps i≠some b)
 (Γ' :List Fact) (hΓ:∀ f∈Γ',f∈Γ/\∀ x∈f.F,x∉F) (i:Nat) (h1:i < l.length) {g o m c sz:Nat} (hsz:qK.size α=sz) (h2:xs[i * sz+q]? =some (Sv (some ⟨g,o,none⟩) m c)) (p:Nat) (h3:p < (get (l[i]!)).length) (hz:0 < qK.size γ) {v:Value}
 (hv:v.cells.toList=us) (hs:∀ w,(Go.sizeOf t).run P w=.ok v.cells.size w) {off:Nat} (hx:ev n ρ x=.pointer (some ⟨g,off,none⟩)) (ho:off=o+p * qK.size γ) (hy:ev n ρ y=v)
 (hl' :l' =l.set i (put (l[i]!) ((get (l[i]!)).set p z))) (kk:∀ w' F',Fresh W0.heap.size (F'::L)->St W0 w' ps (xN true F' xs l'::Γ')->K ρ w'):
 OW P Q ⟨none,.store t x y,ty,pos,af,none⟩ n ρ w K:=by
 subst hsz
 subst hl'
 have hFF:=H.facts _ (List.mem_of_getElem? hf)
 have hb:∀ b∈F,b < w.heap.size/\∀ i,jq ps i≠some b:=hFF.2
 obtain ⟨hr0,hfr0⟩:=hFF.1
 have hfr:=hfr0 rfl
 obtain ⟨c1,cm,c2,F1,Fm,F2,rfl,e1,rfl,hr,hput⟩:=S.el hr0 i h1
 have ecm:cm=[Sv (some ⟨g,o,none⟩) m c]:=by
  obtain ⟨a,cap,hc,_⟩:=id hr
  subst hc
  rw [List.append_assoc,List.getElem?_append_right qf,e1] at h2
  simpa using h2
 subst ecm
 have hnF:=N.nd _ (List.mem_cons_self ..)
 have hnG:=N.nd G qm
 have hFG:∀ b∈F1++Fm++F2,b∉G:=fun b hb' =>(List.pairwise_cons.1 N.dj).1 G qm b hb'
 have hnm:Fm.Nodup:=(List.nodup_append.1 (List.nodup_append.1 hnF).1).2.1
 obtain ⟨hg,w',F',hrun,k1,k2,k3,k4,k5,k6,k7,k8,k9⟩:=slice_poke hr (hfr.sub fun b hb' =>by simp [hb']) hnm h3 hz hG hnG (fun b hb' =>hFG b (by simp [hb'])) (P:=P)
 have hgb:=hb g (by simp [hg])
 have hout:∀ b∈F1++F2,w'.heap[b]? =w.heap[b]? :=fun b hb' =>k5 b fun e=>by
  subst e
  have h4:=List.nodup_append.1 hnF
  have h5:=List.nodup_append.1 h4.1
  rcases List.mem_append.1 hb' with h | h
  ·exact h5.2.2 b h b hg rfl
  ·exact h4.2.2 b (by simp [hg]) b h rfl
 have hms:∀ b∈F1++F' ++F2,b∈F1++Fm++F2\/b∈G:=fun b hb' =>by
  simp only [List.mem_append] at hb' ⊢
  rcases hb' with (h | h) | h
  ·simp [h]
  ·rcases k8 b h with h | h <;> simp [h]
  ·simp [h]
 have N' :Fresh W0.heap.size ((F1++F' ++F2)::L):=N.repl ⟨hms,fun _ _ _=>by
  have h4:=List.nodup_append.1 hnF
  have h5:=List.nodup_append.1 h4.1
  refine List.nodup_append.2 ⟨List.nodup_append.2 ⟨h5.1,k9,fun a ha b hb' e=>?_⟩,h4.2.1,fun a ha b hb' e=>?_⟩
  ·subst e
   rcases k8 a hb' with h | h
   ·exact h5.2.2 a ha a h rfl
   ·exact hFG a (by simp [ha]) h
  ·subst e
   rcases List.mem_append.1 ha with h | h
   ·exact h4.2.2 a (by simp [h]) a hb' rfl
   ·rcases k8 a h with h | h
    ·exact h4.2.2 a (by simp [h]) a hb' rfl
    ·exact hFG a (by simp [hb']) h⟩
 have H' :=H.poke k1 k2 k3 k4 k5 (N.ge _ (List.mem_cons_self ..) g (by simp [hg])) hgb.2 Γ' fun f hf' =>⟨(hΓ f hf').1,fun h=>(hΓ f hf').2 g h (by simp [hg])⟩
 refine o_unit (w' :=w') ?_ (kk w' _ N' (H'.add _ ⟨hput w' F' _ _ hout k7,fun _ b hb' =>?_⟩ fun b hb' =>?_))
 ·subst hv
  simp [execOp,hx,hy,Instr.storeAt,Instr.sureAddr,storeVar,hs,ho,hrun]
 ·by_cases e:b=g
  ·subst e;exact k6
  ·rw [k5 b e]
   rcases hms b hb' with h | h
   ·exact hfr b h
   ·exact hGf b h
 ·rw [k4]
  rcases hms b hb' with h | h
  ·exact hb b h
  ·exact hGo b h
end
section
variable {W0 w : World} {ps : List Prv} {Γ : List Fact}
theorem St.deepGet (H:St W0 w ps Γ) (k:Nat) {b c:Nat} (hp:ps[k]? =some (.row (Sv (some ⟨b,0,none⟩) nn c) e sz nn xs)) (hv:xs[i]? =some v) (ho:off=i):w.cell? ⟨b,off,none⟩=some v:=by
 subst ho;exact H.rowGet k hp hv
end
section
variable {α β : Type} [qK α] [qK β] [Inhabited α] {q : Nat} {get : α -> β} {put : α -> β -> α}
variable {P : Program} {Q : Exit -> Act -> World -> Prop} {n : Nat} {ρ : Env} {W0 w : World} {ps : List Prv} {Γ : List Fact}
 {d:Nat} {ty:TypeId} {pos:String} {af:Array Edge} {K:Env->World->Prop}
end
theorem old_away {B:Nat} (OL:∀ f∈Γ,∀ b∈f.F,b < B) (j:Nat) (hf:Γ[j]? =some f) (N:Fresh B (F::L)):∀ x∈f.F,x∉F:=away_lt (OL f (List.mem_of_getElem? hf)) N
theorem drop_mem {α:Type} {l m:List α} (n:Nat) (h:l.drop n=m) {x:α} (hx:x∈m):x∈l:=List.mem_of_mem_drop (h▸hx)
theorem keeps_old {B:Nat} {Γ0:List Fact} (n:Nat) (hn:Γ.drop n=Δ) (OL:∀ f∈Γ0,∀ b∈f.F,b < B) (m:Nat) (hm:Γ0.drop m=Δ) (N:Fresh B (F::L)):∀ f∈Δ,f∈Γ/\∀ x∈f.F,x∉F:=
 fun f hf=>⟨drop_mem n hn hf,away_lt (OL f (drop_mem m hm hf)) N⟩
theorem olds_none {B:Nat}:∀ f∈([]:List Fact),∀ b∈f.F,b < B:=fun f hf=>by cases hf
theorem olds_one {B:Nat} (h:∀ b∈f.F,b < B) (k:∀ f∈Γ,∀ b∈f.F,b < B):∀ g∈f::Γ,∀ b∈g.F,b < B:=fun g hg=>by
 rcases List.mem_cons.1 hg with rfl | hg
 ·exact h
 ·exact k g hg
end
end Go.Proofs.YtjfmcaiombkobaaGreat
