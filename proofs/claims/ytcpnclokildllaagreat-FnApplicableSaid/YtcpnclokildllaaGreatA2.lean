/- Walks and laws, printed by program and by hand: what each function comes to, for all arguments, part 2. -/
import Derived.Test.YtcpnclokildllaaGreatA1
namespace Go.Proofs.YtcpnclokildllaaGreat
open Go.Proofs.Tryz
set_option linter.unusedVariables false
set_option linter.unusedSimpArgs false
open Go.Proofs.YtcpnclokildllaaGreat.Tot (tot)
open Go.Proofs.YtcpnclokildllaaGreat.Mark (cnt mrk mkd mkd_mark cnt_mark)
section
open Go.Proofs.Tryz
open Go.RowKit
set_option linter.unusedVariables false
set_option linter.unusedSimpArgs false
set_option maxRecDepth 100000
set_option maxHeartbeats 4000000
variable {cl cm : Nat}
theorem both_ok (w:World) (l:yLI) (m:yLI) (of:FuncId) (capsof:Array Value) (gof:Nat→Int) {al:yOA} {Fl:yLN} {am:yOA} {Fm:yLN} (hl:qX.rep w Fl [Sv al l.length cl] l) (hm:qX.rep w Fm [Sv am m.length cm] m) (p0:l.length≤m.length) (p1:l.length≤1000000) (hfof:∀ args w,(callFunc of args).run Tryz.prog w=.ok (.enter of args) w) (hofof:∀ k w',k < l.length→Ext w w' →Calls Tryz.prog of (([yI (l[k]!),yI (m[k]!)]:List Value)++capsof.toList).toArray w' (Ret (fun v _=>v=yI (gof k)) w')):Calls Tryz.prog 155 #[Sv al l.length cl,Sv am m.length cm,.func (.func of) #[] capsof] w (Ret (fun v w' =>OwnNew w w' 2 v (tabTo gof l.length)) w):=by
 refine en func155 ntmps155 ?_
 have H:=((St.start w).arg hm).arg hl
 have nhl:=qV hl
 have nhm:=qV hm
 clear hl hm
 refine zcr (sp yN (zjc (sw (je H underlying24 ti2 fun b1 w2 H=>sp (Sv (aa b1 0) 0 0) (zjcc (sp (Sv al l.length cl) (oN rfl (sp (yI 0) (zjn (xg ?_))))))))))
 replace H:=H.boxRow 0 rfl 1 0 rfl qj
 replace H:St _ _ [rr (aa b1 0) 0 0 2 1 []] _:=H
 refine zJ (fun m' ρ w3=>∃ (xY:Env) (k:Nat) (vr7:Value),ρ=upd (upd (upd (upd (upd (upd (upd xY 1 (Sv am m.length cm)) 2 (.func (.func of) #[] capsof)) 6 yN) 7 (vr7)) 11 (Sv al l.length cl)) 12 (yI l.length)) 13 (yI k)∧(k≤l.length)∧m' =l.length - k∧St w w3 [.row vr7 2 1 k ((tabTo gof k).map (Value.int .i64))] [sF false Fl al cl l,sF false Fm am cm m]) (l.length - 0) ⟨_,0,(Sv (aa b1 0) 0 0),uE7,qf,rfl,H⟩ ?_
 clear H
 rintro m' ρ w4 ⟨xY,k,vr7,rfl,i0,rfl,H⟩
 refine zcr (sp (Bv (decide ((k:Int) < l.length))) (zjn (zf (cD rfl (fun h5=>?_) (fun h5=>?_)))))
 ·skip
  refine xk (t_n (zf (xg (zcr (sp (yI k) ?_)))))
  obtain ⟨b6,o7,rfl⟩:=H.addr 0 rfl qf
  refine oI rfl rfl (oL rfl (H.yF 0 rfl k qf qf) (sps [yI k,yI (l[k]!)] (zjn (zg (sps [vr7,.func (.func of) #[] capsof,yI (l[k]!),Sv am m.length cm,yI k] ?_)))))
  obtain ⟨b8,o9,rfl⟩:=H.addr 1 rfl qf
  refine oI rfl rfl (oL rfl (H.yF 1 rfl k qf qf) (sw (o_callV [yI (l[k]!),yI (m[k]!)] rfl rfl hfof (hofof k _ qf H.base) ?_)))
  rintro _ w10 rfl x11
  replace H:=H.ext x11
  refine sw (o_build1 H underlying24 ti2 qj qj (yI (gof k)) rfl rfl fun b12 w13 H=>sw (o_append H 1 rfl 0 rfl underlying24 ti2 rfl qj rfl rfl rfl qw qp qf fun v14 w15 H=>?_))
  replace H:St _ _ [.box b12 [yI (gof k)] 2,.row v14 2 1 (k+1) (((tabTo gof k).map (Value.int .i64))++[yI (gof k)])] _:=H
  refine sp (v14) (zi (b_n (t_n (zg (sw (zL k 1 rfl rfl qf (sp (yI (k+1)) (zi ?_))))))))
  rw [show ((tabTo gof k).map (Value.int .i64))++[yI (gof k)]=(tabTo gof (k+1)).map (Value.int .i64) from by (rw [tabTo_succ];simp)] at H
  refine xq (m' :=l.length - (k+1)) qf ⟨_,k+1,v14,uE7,?_,rfl,H.sel _ (.cons _ (.refl _)) _ qm⟩
  · omega
 refine zx4 (zcr (sps [vr7,vr7] (zjr (ret1 (vr7) rfl rfl ⟨_,rfl,?_,H.base⟩))))
 obtain rfl:k=l.length:=by omega
 exact H.newInts 0 rfl qm

theorem plus1_ok (w:World) (x:Int) (y:Int) (t:Int) (bt ot:Nat) (hpt:jk w bt ot [yI t]) (p0: -1000000000000000≤x∧x≤1000000000000000) (p1: -1000000000000000≤t * y∧t * y≤1000000000000000):Calls Tryz.prog 156 #[yI x,yI y,pp bt ot] w (Ret (fun v w' =>v=yI (x+t * y)) w):=by
 refine en func156 ntmps156 ?_
 have H:=(St.start w).Vf hpt
 clear hpt
 refine zcr (sp (yI 0) (zjc (sp (yI x) (oL rfl (H.x9 0 rfl 0 rfl) (sp (yI y) (sw (o_mul t y rfl rfl qf (sw (zL x (t * y) rfl rfl qf (sp (yI (x+(t * y))) (zjr (ret1 (yI (x+(t * y))) rfl rfl ⟨_,rfl,?_,H.base⟩))))))))))))
 rfl

theorem V4 (w:World) (l:yLI) (m:yLI) (t:Int) {al:yOA} {Fl:yLN} {am:yOA} {Fm:yLN} (hl:qX.rep w Fl [Sv al l.length cl] l) (hm:qX.rep w Fm [Sv am m.length cm] m) (p0:l.length≤m.length) (p1:Mid l) (p2:Vb m t):Calls Tryz.prog 87 #[Sv al l.length cl,Sv am m.length cm,yI t] w (Ret (fun v w' =>OwnNew w w' 2 v (vZ l m t)) w):=by
 refine en func87 ntmps87 ?_
 have H:=((St.start w).arg hm).arg hl
 have nhl:=qV hl
 have nhm:=qV hm
 clear hl hm
 have p3:=p1.1
 refine zcr (sw (o_box H (yI t) rfl fun b1 w2 H=>?_))
 replace H:St _ _ [.box b1 [yI t] 2] _:=H
 refine sp yN (zjc (sps [Sv al l.length cl,Sv am m.length cm,.func (.func 156) #[] #[pp b1 0]] ?_))
 have szx4:=H.base.size
 refine sw (oc (both_ok _ l m 156 #[pp b1 0] (fun k=>l[k]! +t * m[k]!) (H.get 0 rfl).1 (H.get 1 rfl).1 qf qf call156 (fun k w' hk e=>plus1_ok w' _ _ t _ _ ((H.ext e).cells 0 rfl) (by have:=p1.2 k hk;omega) (p2 k qf))) ?_)
 rintro v5 w3 r5 x4
 replace H:=H.zB x4 r5
 refine sp (v5) (zjr (ret1 (v5) rfl rfl ⟨_,rfl,(H.newInts 0 rfl (by simp [Qy])),H.base⟩))

theorem X4 (w:World) (l:yLI) (m:yLI) (t:Int) {al:yOA} {Fl:yLN} {am:yOA} {Fm:yLN} (hl:qX.rep w Fl [Sv al l.length cl] l) (hm:qX.rep w Fm [Sv am m.length cm] m) (p0:l.length≤m.length) (p1:Mid l) (p2:Vb m t):Calls Tryz.prog 112 #[Sv al l.length cl,Sv am m.length cm,yI t] w (Ret (fun v w' =>OwnNew w w' 2 v (vZ l m t)) w):=by
 refine en func112 ntmps112 ?_
 have H:=((St.start w).arg hm).arg hl
 have nhl:=qV hl
 have nhm:=qV hm
 clear hl hm
 have p3:=p1.1
 refine zcr (sp yN (zjc (sw (je H underlying24 ti2 fun b1 w2 H=>sp (Sv (aa b1 0) 0 0) (zjcc (sp (yI 0) (zjn (xg ?_))))))))
 replace H:=H.boxRow 0 rfl 1 0 rfl qj
 replace H:St _ _ [rr (aa b1 0) 0 0 2 1 []] _:=H
 refine zJ (fun m' ρ w3=>∃ (xY:Env) (k:Nat) (vr7:Value),ρ=upd (upd (upd (upd (upd (upd xY 0 (Sv al l.length cl)) 1 (Sv am m.length cm)) 2 (yI t)) 6 yN) 7 (vr7)) 8 (yI k)∧(k≤l.length)∧m' =l.length - k∧St w w3 [.row vr7 2 1 k ((plusTo l m t k).map (Value.int .i64))] [sF false Fl al cl l,sF false Fm am cm m]) (l.length - 0) ⟨_,0,(Sv (aa b1 0) 0 0),uE6,qf,rfl,H⟩ ?_
 clear H
 rintro m' ρ w4 ⟨xY,k,vr7,rfl,i0,rfl,H⟩
 refine zcc (sps [yI k,Sv al l.length cl] (oN rfl (sp (Bv (decide ((k:Int) < l.length))) (zjn (cD rfl (fun h5=>?_) (fun h5=>?_))))))
 ·skip
  refine xk (t_n (zf (xg ?_)))
  refine c_draw (fun w6=>St w w6 [] [sF false Fl al cl l,sF false Fm am cm m]) rfl ((H.ext (ext_drew _)).sel _ (.cons _ (.refl _)) _ (fun _ h=>h)) ?_
  replace H:=H.ext (ext_drew _)
  refine rtp 0 (vr7) (H.sel _ (.cons _ (.refl _)) _ (fun _ h=>h)) ?_
  refine rtp 1 (Sv al l.length cl) (H.sel _ (.cons _ (.refl _)) _ (fun _ h=>h)) ?_
  refine rtp 2 (yI k) (H.sel _ (.cons _ (.refl _)) _ (fun _ h=>h)) ?_
  obtain ⟨b7,o8,rfl⟩:=H.addr 0 rfl qf
  refine tI 3 rfl rfl rfl (H.sel _ (.cons _ (.refl _)) _ (fun _ h=>h)) ?_
  refine tL 4 rfl rfl (fun _ h=>h.yV 0 rfl k qf) (H.sel _ (.cons _ (.refl _)) _ (fun _ h=>h)) ?_
  refine rtp 5 (Sv am m.length cm) (H.sel _ (.cons _ (.refl _)) _ (fun _ h=>h)) ?_
  refine rtp 6 (yI k) (H.sel _ (.cons _ (.refl _)) _ (fun _ h=>h)) ?_
  obtain ⟨b9,o10,rfl⟩:=H.addr 1 rfl qf
  refine tI 7 rfl rfl rfl (H.sel _ (.cons _ (.refl _)) _ (fun _ h=>h)) ?_
  refine tL 8 rfl rfl (fun _ h=>h.yV 1 rfl k qf) (H.sel _ (.cons _ (.refl _)) _ (fun _ h=>h)) ?_
  refine rtp 9 (yI t) (H.sel _ (.cons _ (.refl _)) _ (fun _ h=>h)) ?_
  refine rt 10 (yI ((m[k]!) * t)) (y_mul (m[k]!) t rfl rfl (by (have:=p1.2 k qf;have:=p2 k qf;rw [Int.mul_comm] at this;omega))) (H.sel _ (.cons _ (.refl _)) _ (fun _ h=>h)) ?_
  refine rt 11 (yI ((l[k]!)+((m[k]!) * t))) (y_add (l[k]!) ((m[k]!) * t) rfl rfl (by (have:=p1.2 k qf;have:=p2 k qf;rw [Int.mul_comm] at this;omega))) (H.sel _ (.cons _ (.refl _)) _ (fun _ h=>h)) ?_
  refine ro 12 rfl (o_build1 H underlying24 ti2 qj qj (yI ((l[k]!)+((m[k]!) * t))) rfl rfl fun b11 w12 H=>?_)
  replace H:St _ _ [.box b11 [yI ((l[k]!)+((m[k]!) * t))] 2,.row vr7 2 1 k ((plusTo l m t k).map (Value.int .i64))] _:=H
  refine ⟨H.sel _ (.cons _ (.cons _ (.refl _))) _ (fun _ h=>h),(ro 13 rfl (o_append H 1 rfl 0 rfl underlying24 ti2 rfl qj rfl rfl rfl qw qp qf fun v13 w14 H=>?_))⟩
  replace H:St _ _ [.box b11 [yI ((l[k]!)+((m[k]!) * t))] 2,.row v13 2 1 (k+1) (((plusTo l m t k).map (Value.int .i64))++[yI ((l[k]!)+((m[k]!) * t))])] _:=H
  refine ⟨H.sel _ (.cons _ (.cons _ (.refl _))) _ (fun _ h=>h),(rtp 14 (v13) (H.sel _ (.cons _ (.cons _ (.refl _))) _ (fun _ h=>h)) ?_)⟩
  refine xJ qh (b_n (t_n (zg (sp (yI k) (sw (zL k 1 rfl rfl (by (have:=p1.2 k qf;have:=p2 k qf;rw [Int.mul_comm] at this;omega)) (sp (yI (k+1)) (zi ?_))))))))
  rw [show ((plusTo l m t k).map (Value.int .i64))++[yI ((l[k]!)+((m[k]!) * t))]=(plusTo l m t (k+1)).map (Value.int .i64) from by (rw [plusTo_succ,Int.mul_comm t];simp)] at H
  refine xq (m' :=l.length - (k+1)) qf ⟨_,k+1,v13,uE6,?_,rfl,H.sel _ (.cons _ (.refl _)) _ qm⟩
  · omega
 refine zx4 (zcr (sps [vr7,vr7] (zjr (ret1 (vr7) rfl rfl ⟨_,rfl,?_,H.base⟩))))
 obtain rfl:k=l.length:=by omega
 exact H.newInts 0 rfl (by simp [vZ,plusTo])

theorem XW (w:World) (l:yLI) {al:yOA} {Fl:yLN} (hl:qX.rep w Fl [Sv al l.length cl] l) (p0:l.length≤1000000):Calls Tryz.prog 67 #[Sv al l.length cl] w (Ret (fun v w' =>OwnNew w w' 2 v l) w):=by
 refine en func67 ntmps67 ?_
 have H:=(St.start w).arg hl
 have nhl:=qV hl
 clear hl
 refine zcr (sp yN (zjc (sw (je H underlying24 ti2 fun b1 w2 H=>sp (Sv al l.length cl) ?_))))
 replace H:=H.boxRow 0 rfl 1 0 rfl qj
 refine sw (o_appendInts H 0 rfl 0 rfl underlying24 ti2 rfl rfl rfl qp qf fun v3 w4 H=>?_)
 replace H:St _ _ [.row v3 2 1 (0+l.length) ([]++l.map (Value.int .i64))] _:=H
 refine sp (v3) (zjr (ret1 (v3) rfl rfl ⟨_,rfl,(H.newInts 0 rfl qf),H.base⟩))

theorem cloneI_ok (w:World) (l:yLI) {al:yOA} {Fl:yLN} (hl:qX.rep w Fl [Sv al l.length cl] l) (p0:l.length≤1000000):Calls Tryz.prog 86 #[Sv al l.length cl] w (Ret (fun v w' =>OwnNew w w' 2 v l) w):=by
 refine en func86 ntmps86 ?_
 have H:=(St.start w).arg hl
 have nhl:=qV hl
 clear hl
 refine zcr (sp yN (zjcc (sp (Sv al l.length cl) (sw (o_eqnil underlying24 al l.length cl rfl (zjn (xK (al.isNone) rfl (fun h1=>?_) (fun h1=>?_))))))))
 ·skip
  refine zcr (sp yN (zjr (t_r (ret1 yN rfl rfl ⟨_,rfl,?_,H.base⟩))))
  obtain rfl:=H.nilOf 0 rfl ‹_›
  exact ownNew_nil _ _ _
 refine xk (t_n (zcr (sw (je H underlying24 ti2 fun b2 w3 H=>sp (Sv al l.length cl) ?_))))
 replace H:=H.boxRow 0 rfl 1 0 rfl qj
 refine sw (o_appendInts H 0 rfl 0 rfl underlying24 ti2 rfl rfl rfl qp qf fun v4 w5 H=>?_)
 replace H:St _ _ [.row v4 2 1 (0+l.length) ([]++l.map (Value.int .i64))] _:=H
 refine sp (v4) (zjr (ret1 (v4) rfl rfl ⟨_,rfl,(H.newInts 0 rfl qf),H.base⟩))
end
section
open Go.RowKit
set_option linter.unusedVariables false
set_option linter.unusedSimpArgs false
set_option maxRecDepth 100000
set_option maxHeartbeats 4000000
instance:Mark IntoD where
  cnt x:=1+cnt x.QP
  mrk x k:=⟨mrk x.qN (k),mrk x.QP (k+1)⟩
  mkd x k:=mkd x.qN (k)∧mkd x.QP (k+1)
  mkd_mark x k:=by
    simp only [cnt_mark]
    exact ⟨mkd_mark _ _,mkd_mark _ _⟩
  cnt_mark x k:=by simp only [cnt_mark]
theorem cnt_IntoD (x:IntoD):cnt x=1+cnt x.QP:=rfl

instance:Mark jL where
  cnt x:=1+1+cnt x.xR+cnt x.zM+cnt x.zK+cnt x.zH+cnt x.jC+cnt x.qW+1
  mrk x k:=⟨mrk x.qN (k),mrk x.vP (k+1),mrk x.xR (k+1+1),mrk x.zM (k+1+1+(cnt x.xR:Nat)),mrk x.zK (k+1+1+(cnt x.xR:Nat)+(cnt x.zM:Nat)),mrk x.zH (k+1+1+(cnt x.xR:Nat)+(cnt x.zM:Nat)+(cnt x.zK:Nat)),mrk x.jC (k+1+1+(cnt x.xR:Nat)+(cnt x.zM:Nat)+(cnt x.zK:Nat)+(cnt x.zH:Nat)),mrk x.qW (k+1+1+(cnt x.xR:Nat)+(cnt x.zM:Nat)+(cnt x.zK:Nat)+(cnt x.zH:Nat)+(cnt x.jC:Nat)),mrk x.vF (k+1+1+(cnt x.xR:Nat)+(cnt x.zM:Nat)+(cnt x.zK:Nat)+(cnt x.zH:Nat)+(cnt x.jC:Nat)+(cnt x.qW:Nat))⟩
  mkd x k:=mkd x.qN (k)∧mkd x.vP (k+1)∧mkd x.xR (k+1+1)∧mkd x.zM (k+1+1+(cnt x.xR:Nat))∧mkd x.zK (k+1+1+(cnt x.xR:Nat)+(cnt x.zM:Nat))∧mkd x.zH (k+1+1+(cnt x.xR:Nat)+(cnt x.zM:Nat)+(cnt x.zK:Nat))∧mkd x.jC (k+1+1+(cnt x.xR:Nat)+(cnt x.zM:Nat)+(cnt x.zK:Nat)+(cnt x.zH:Nat))∧mkd x.qW (k+1+1+(cnt x.xR:Nat)+(cnt x.zM:Nat)+(cnt x.zK:Nat)+(cnt x.zH:Nat)+(cnt x.jC:Nat))∧mkd x.vF (k+1+1+(cnt x.xR:Nat)+(cnt x.zM:Nat)+(cnt x.zK:Nat)+(cnt x.zH:Nat)+(cnt x.jC:Nat)+(cnt x.qW:Nat))
  mkd_mark x k:=by
    simp only [cnt_mark]
    exact ⟨mkd_mark _ _,mkd_mark _ _,mkd_mark _ _,mkd_mark _ _,mkd_mark _ _,mkd_mark _ _,mkd_mark _ _,mkd_mark _ _,mkd_mark _ _⟩
  cnt_mark x k:=by simp only [cnt_mark]
theorem cnt_RuleD (x:jL):cnt x=1+1+cnt x.xR+cnt x.zM+cnt x.zK+cnt x.zH+cnt x.jC+cnt x.qW+1:=rfl

instance:Mark qP where
  cnt x:=cnt x.qG+cnt x.qH+cnt x.qF
  mrk x k:=⟨mrk x.qG (k),mrk x.qH (k+(cnt x.qG:Nat)),mrk x.qF (k+(cnt x.qG:Nat)+(cnt x.qH:Nat))⟩
  mkd x k:=mkd x.qG (k)∧mkd x.qH (k+(cnt x.qG:Nat))∧mkd x.qF (k+(cnt x.qG:Nat)+(cnt x.qH:Nat))
  mkd_mark x k:=by
    simp only [cnt_mark]
    exact ⟨mkd_mark _ _,mkd_mark _ _,mkd_mark _ _⟩
  cnt_mark x k:=by simp only [cnt_mark]
end
section

class CntTot (α:Type) [Mark α] [Tot α]:Prop where
  le:∀ x:α,cnt x≤10+10 * tot x
instance:CntTot Int:=⟨fun _=>by show 1≤_;omega⟩
instance:CntTot Bool:=⟨fun _=>by show 1≤_;omega⟩
section
variable {α : Type} [Mark α] [Tot α] [Inhabited α] [CntTot α]
theorem cntTo_tot (l:List α):∀ k,cntTo l k≤10 * k+10 * totTo l k
  | 0=>Nat.zero_le _
  | k+1=>by
    have h1:=cntTo_tot l k
    have h2:=CntTot.le (l[k]!)
    rw [cntTo_succ,totTo_succ]
    omega
theorem cntL_tot (l:List α):cnt l≤10 * tot l:=by
  have:=cntTo_tot l l.length
  rw [cnt_list,tot_list]
  omega
instance:CntTot (List α):=⟨fun l=>by have:=cntL_tot l;omega⟩
end
instance:CntTot IntoD:=⟨fun x=>by
  have h1:=cntL_tot x.QP
  have h2:=tot_IntoD x
  have h3:=cnt_IntoD x
  omega⟩
instance:CntTot jL:=⟨fun x=>by
  have h1:=cntL_tot x.xR
  have h2:=cntL_tot x.zM
  have h3:=cntL_tot x.zK
  have h4:=cntL_tot x.zH
  have h5:=cntL_tot x.jC
  have h6:=cntL_tot x.qW
  have h7:=tot_RuleD x
  have h8:=cnt_RuleD x
  omega⟩
theorem cntTo_one {α:Type} [Mark α] [Inhabited α] (l:List α) (n:Nat) (h:∀ k,k < l.length→cnt (l[k]!)≤n):∀ k,k≤l.length→cntTo l k≤n * k
  | 0,_=>Nat.zero_le _
  | k+1,hk=>by
    have h1:=cntTo_one l n h k qf
    have h2:=h k qf
    rw [cntTo_succ,Nat.mul_add]
    omega
theorem cnt_ints (l:yLI):cnt l=l.length:=by
  have:∀ k,cntTo l k=k:=fun k=>by
    induction k with
    | zero=>rfl
    | succ k ih=>rw [cntTo_succ,ih];rfl
  rw [cnt_list,this]
theorem cnt_bools (l:List Bool):cnt l=l.length:=by
  have:∀ k,cntTo l k=k:=fun k=>by
    induction k with
    | zero=>rfl
    | succ k ih=>rw [cntTo_succ,ih];rfl
  rw [cnt_list,this]
def FewState (t:qP):Prop:=cnt t.qG≤6∧cnt t.qH≤48∧cnt t.qF≤8
theorem few_default:FewState default:=⟨Nat.zero_le _,Nat.zero_le _,Nat.zero_le _⟩
theorem few_state {s:qI} {t:qP} (hs:yg s) (h:xI s t):FewState t:=by
  obtain ⟨h1,h2,h3,h4⟩:=h.sizes hs
  refine ⟨by rw [cnt_bools];omega,?_,by rw [cnt_ints];omega⟩
  rw [cnt_list]
  have:=cntTo_one t.qH 8 (fun k hk=>by rw [cnt_ints];exact h4 k hk) _ (Nat.le_refl _)
  omega
theorem few_told {s:qI} {t:qP} (hs:yg s):FewState (told s t).1:=by
  by_cases h:xI s t
  · rw [told_yes h];exact few_state hs h
  · rw [told_no h];exact few_default
theorem ft {b:Bool} (h:b=true) (h' :b=false):False:=by rw [h] at h';cases h'

theorem getset {α:Type} [Inhabited α] {l:List α} {c p:Nat} {v:α} (hc:c < l.length):(l.set c v)[p]! =if p=c then v else l[p]! :=by
  by_cases hp:p < l.length
  · rw [getElem!_pos _ _ (by simpa using hp),getElem!_pos l p hp,List.getElem_set]
    by_cases e:c=p
    · rw [if_pos e,if_pos e.symm]
    · rw [if_neg e,if_neg (fun h=>e h.symm)]
  · rw [if_neg qf,getElem!_neg (l.set c v) p (by simpa using hp),getElem!_neg l p hp]
theorem VT {l m:yLI} {t:Int} {k:Nat} (hk:k < l.length):(vZ l m t)[k]! =l[k]! +t * m[k]! :=by
  rw [getElem!_pos (vZ l m t) k (by rw [Qy];exact hk)]
  simp [vZ,plusTo]
theorem ext_get {α:Type} [Inhabited α] {l m:List α} (hl:l.length=m.length) (h:∀ k,k < l.length→l[k]! =m[k]!):l=m:=by
  apply List.ext_getElem hl
  intro i h1 h2
  have:=h i h1
  rwa [getElem!_pos l i h1,getElem!_pos m i h2] at this
theorem set_self {α:Type} [Inhabited α] {l:List α} {c:Nat} {v:α} (hc:c < l.length) (h:v=l[c]!):l.set c v=l:=by
  refine ext_get qm fun k hk=>?_
  rw [getset hc]
  by_cases e:k=c
  · rw [if_pos e,e,h]
  · rw [if_neg e]
theorem plus_zero {l m:yLI} {t:Int} (ht:t=0):vZ l m t=l:=by
  refine ext_get (Qy _ _ _) fun k hk=>?_
  rw [Qy] at hk
  rw [VT hk,ht];omega

def Shape (n K:Nat) (B:Int) (b:yLL):Prop:=b.length=n∧∀ p,p < n→(b[p]!).length=K∧∀ k,k < K→ -B≤(b[p]!)[k]! ∧(b[p]!)[k]! ≤B
structure Ent (n K:Nat) (f:Nat→Nat→Int) (B:Int) (b:yLL):Prop where
  sh:Shape n K B b
  eq:∀ p k,p < n→k < K→(b[p]!)[k]! =f p k
def at' (p c:Nat) (x:Int):Int:=if p=c then x else 0
theorem Shape.set {n K:Nat} {B D:Int} {b:yLL} (h:Shape n K B b) {c:Nat} {v:yLI} (hc:c < n) (hv:v.length=K) (hb:∀ k,k < K→ -D≤v[k]! ∧v[k]! ≤D) (hD:B≤D):Shape n K D (b.set c v):=by
  refine ⟨by simp [h.1],fun p hp=>?_⟩
  rw [getset (by rw [h.1];exact hc)]
  by_cases e:p=c
  · rw [if_pos e];exact ⟨hv,hb⟩
  · rw [if_neg e]
    refine ⟨(h.2 p hp).1,fun k hk=>?_⟩
    have:=(h.2 p hp).2 k hk
    omega
theorem Shape.plus {n K:Nat} {B D:Int} {b:yLL} (h:Shape n K B b) {c:Nat} {m:yLI} {t:Int} (hc:c < n) (ht:∀ k,k < K→ -D≤t * m[k]! ∧t * m[k]! ≤D) (hD:0≤D):
    Shape n K (B+D) (b.set c (vZ (b[c]!) m t)):=by
  have h1:=h.2 c hc
  refine h.set hc (by rw [Qy];exact h1.1) (fun k hk=>?_) qf
  rw [VT (by rw [h1.1];exact hk)]
  have:=h1.2 k hk
  have:=ht k hk
  omega
theorem Shape.row {n K:Nat} {B:Int} {b:yLL} (h:Shape n K B b) (hB:B≤1000000000000000) (hK:K≤8) {c:Nat} (hc:c < n):(b[c]!).length=K∧Mid (b[c]!):=by
  have h1:=h.2 c hc
  refine ⟨h1.1,by have:=h1.1;omega,fun k hk=>?_⟩
  have:=h1.2 k (by have:=h1.1;omega)
  omega
theorem Ent.add {n K:Nat} {f:Nat→Nat→Int} {B:Int} {b:yLL} (h:Ent n K f B b) {c:Nat} {m:yLI} {t:Int} {D:Int} {b' :yLL} (e:b' =b.set c (vZ (b[c]!) m t)) (hc:c < n) (ht:∀ k,k < K→ -D≤t * m[k]! ∧t * m[k]! ≤D) (hD:0≤D):
    Ent n K (fun p k=>f p k+at' p c (t * m[k]!)) (B+D) b' :=by
  subst e
  refine ⟨h.sh.plus hc ht hD,fun p k hp hk=>?_⟩
  rw [getset (by rw [h.sh.1];exact hc)]
  unfold at'
  by_cases e:p=c
  · subst e
    rw [if_pos rfl,if_pos rfl,VT (by rw [(h.sh.2 p hp).1];exact hk),h.eq p k hp hk]
  · rw [if_neg e,if_neg e,h.eq p k hp hk];omega
theorem Shape.mono {n K:Nat} {B D:Int} {b:yLL} (h:Shape n K B b) (hD:B≤D):Shape n K D b:=⟨h.1,fun p hp=>⟨(h.2 p hp).1,fun k hk=>by have:=(h.2 p hp).2 k hk;omega⟩⟩
theorem Ent.to {n K:Nat} {f g:Nat→Nat→Int} {B D:Int} {b:yLL} (h:Ent n K f B b) (e:∀ p k,f p k=g p k) (hD:B≤D):Ent n K g D b:=⟨h.sh.mono hD,fun p k hp hk=>(h.eq p k hp hk).trans (e p k)⟩
theorem Ent.same {n K:Nat} {f g:Nat→Nat→Int} {B D:Int} {b c:yLL} (h:Ent n K f B b) (h' :Ent n K g D c) (e:∀ p k,p < n→k < K→f p k=g p k):b=c:=by
  refine ext_get (by rw [h.sh.1,h'.sh.1]) fun p hp=>?_
  rw [h.sh.1] at hp
  refine ext_get (by rw [(h.sh.2 p hp).1,(h'.sh.2 p hp).1]) fun k hk=>?_
  rw [(h.sh.2 p hp).1] at hk
  rw [h.eq p k hp hk,h'.eq p k hp hk,e p k hp hk]
def tab2 (n K:Nat) (f:Nat→Nat→Int):yLL:=(List.range n).map fun p=>(List.range K).map (f p)
theorem tab2_len (n K:Nat) (f:Nat→Nat→Int):(tab2 n K f).length=n:=by simp [tab2]
theorem tab2_row {n K:Nat} {f:Nat→Nat→Int} {p:Nat} (hp:p < n):(tab2 n K f)[p]! =(List.range K).map (f p):=by
  rw [getElem!_pos (tab2 n K f) p (by rw [tab2_len];exact hp)];simp [tab2]
theorem Ent.tab {n K:Nat} {f:Nat→Nat→Int} {B:Int} {b:yLL} (h:Ent n K f B b):b=tab2 n K f:=by
  refine ext_get (by rw [h.sh.1,tab2_len]) fun p hp=>?_
  rw [h.sh.1] at hp
  rw [tab2_row hp]
  refine ext_get (by rw [(h.sh.2 p hp).1];simp) fun k hk=>?_
  rw [(h.sh.2 p hp).1] at hk
  rw [h.eq p k hp hk,getElem!_pos ((List.range K).map (f p)) k (by simpa using hk)];simp
theorem Ent.snoc {n K:Nat} {f:Nat→Nat→Int} {B:Int} {b:yLL} {a:yLI} (h:Ent n K f B b) (ha:a.length=K) (hb:∀ k,k < K→ -B≤a[k]! ∧a[k]! ≤B) (he:∀ k,k < K→a[k]! =f n k):Ent (n+1) K f B (b++[a]):=by
  have hl:(b++[a]).length=n+1:=by simp [h.sh.1]
  have h1:∀ p,p < n→(b++[a])[p]! =b[p]! :=fun p hp=>by
    rw [getElem!_pos (b++[a]) p qf,getElem!_pos b p (by rw [h.sh.1];exact hp),List.getElem_append_left]
  have h2:(b++[a])[n]! =a:=by
    rw [getElem!_pos (b++[a]) n qf,List.getElem_append_right (by rw [h.sh.1];exact Nat.le_refl _)];simp
  refine ⟨⟨hl,fun p hp=>?_⟩,fun p k hp hk=>?_⟩
  · by_cases e:p=n
    · subst e;rw [h2];exact ⟨ha,hb⟩
    · rw [h1 p qf];exact h.sh.2 p qf
  · by_cases e:p=n
    · subst e;rw [h2];exact he k hk
    · rw [h1 p qf];exact h.eq p k qf hk

def zI (s:qI):Nat:=s.xh.toNat
abbrev xP (s:qI):Nat:=s.qA.length
def IntoUp (s:qI) (t:qP) (r:jL) (k:Nat):Prop:=∀ j,j < k→t.qG[(r.qW[j]!).qN.toNat]! =true∧xm s t (r.qW[j]!).qN=r.qN
theorem IntoUp.succ {s:qI} {t:qP} {r:jL} {k:Nat} (h:IntoUp s t r k) (h1:t.qG[(r.qW[k]!).qN.toNat]! =true) (h2:xm s t (r.qW[k]!).qN=r.qN):IntoUp s t r (k+1):=fun j hj=>by
  by_cases e:j=k
  · subst e;exact ⟨h1,h2⟩
  · exact h j qf
def EnOk (s:qI) (t:qP) (r:jL):Prop:=
  t.qG[r.qN.toNat]! =true∧within r.xR (t.qH[r.qN.toNat]!)=true∧within r.zM (t.qH[r.qN.toNat]!)=true∧¬ (0 < Xh r.zK∧within r.zK (t.qH[r.qN.toNat]!)=true)∧IntoUp s t r r.qW.length
open Classical in
noncomputable def bestOf (s:qI) (t:qP) (z:Int) (c:Nat):Nat→Int
  | 0=>z
  | k+1=>if EnOk s t (s.qB[k]!)∧(s.qB[k]!).qN.toNat=c then max (bestOf s t z c k) (s.qB[k]!).vP else bestOf s t z c k
noncomputable def bests (s:qI) (t:qP) (z:Int) (n k:Nat):yLI:=tabTo (fun c=>bestOf s t z c k) n
theorem XY (s:qI) (t:qP) (z:Int) (n k:Nat):(bests s t z n k).length=n:=tabTo_len _ _
theorem tab_get {g:Nat→Int} {n c:Nat} (h:c < n):(tabTo g n)[c]! =g c:=by
  rw [getElem!_pos (tabTo g n) c (by rw [tabTo_len];exact h)];simp [tabTo]
theorem bests_zero (s:qI) (t:qP) (z:Int) (n:Nat):List.replicate n z=bests s t z n 0:=by
  refine ext_get (by simp [XY]) fun k hk=>?_
  rw [List.length_replicate] at hk
  rw [bests,tab_get hk,getElem!_pos (List.replicate n z) k (by simpa using hk)];simp [bestOf]
theorem bests_get {s:qI} {t:qP} {z:Int} {n k c:Nat} (h:c < n):(bests s t z n k)[c]! =bestOf s t z c k:=tab_get h
theorem bests_set {s:qI} {t:qP} {z:Int} {n k:Nat} (h:EnOk s t (s.qB[k]!)) (hc:(s.qB[k]!).qN.toNat < n):
    (bests s t z n k).set (s.qB[k]!).qN.toNat (max ((bests s t z n k)[(s.qB[k]!).qN.toNat]!) (s.qB[k]!).vP)=bests s t z n (k+1):=by
  refine ext_get (by simp [XY]) fun p hp=>?_
  rw [List.length_set,XY] at hp
  rw [getset (by rw [XY];exact hc),bests_get hc,bests_get hp,bests_get hp,bestOf]
  by_cases e:p=(s.qB[k]!).qN.toNat
  · rw [if_pos e,if_pos ⟨h,e.symm⟩,e]
  · rw [if_neg e,if_neg fun x=>e x.2.symm]
theorem bests_skip {s:qI} {t:qP} {z:Int} {n k:Nat} (h:¬ EnOk s t (s.qB[k]!)):bests s t z n k=bests s t z n (k+1):=by
  refine ext_get (by simp [XY]) fun p hp=>?_
  rw [XY] at hp
  rw [bests_get hp,bests_get hp,bestOf,if_neg fun x=>h x.1]
def Appl (s:qI) (t:qP) (i:Nat):Prop:=
  EnOk s t (s.qB[i]!)∧∀ j,j < s.qB.length→EnOk s t (s.qB[j]!)→(s.qB[j]!).qN.toNat=(s.qB[i]!).qN.toNat→(s.qB[j]!).vP≤(s.qB[i]!).vP
theorem best_ge {s:qI} {t:qP} {z:Int} {c:Nat}:∀ {k j:Nat},j < k→EnOk s t (s.qB[j]!)→(s.qB[j]!).qN.toNat=c→(s.qB[j]!).vP≤bestOf s t z c k
  | k+1,j,h,h1,h2=>by
    rw [bestOf]
    by_cases e:j=k
    · subst e;rw [if_pos ⟨h1,h2⟩];omega
    · have:=best_ge (z:=z) (show j < k by omega) h1 h2
      split <;> omega
theorem best_le {s:qI} {t:qP} {z:Int} {c:Nat} {x:Int} (hz:z≤x):∀ {k:Nat},(∀ j,j < k→EnOk s t (s.qB[j]!)→(s.qB[j]!).qN.toNat=c→(s.qB[j]!).vP≤x)→bestOf s t z c k≤x
  | 0,_=>hz
  | k+1,h=>by
    rw [bestOf]
    have h1:=best_le hz (k:=k) fun j hj=>h j qf
    split
    · next h2=>have:=h k qf h2.1 h2.2;omega
    · exact h1
theorem appl_iff {s:qI} {t:qP} {z:Int} {i:Nat} (hi:i < s.qB.length) (hz:z≤(s.qB[i]!).vP):
    Appl s t i↔EnOk s t (s.qB[i]!)∧(s.qB[i]!).vP=bestOf s t z (s.qB[i]!).qN.toNat s.qB.length:=by
  constructor
  · rintro ⟨h1,h2⟩
    refine ⟨h1,?_⟩
    have h3:=best_ge (z:=z) hi h1 rfl
    have h4:=best_le (c:=(s.qB[i]!).qN.toNat) hz (k:=s.qB.length) h2
    omega
  · rintro ⟨h1,h2⟩
    exact ⟨h1,fun j hj h3 h4=>by rw [h2];exact best_ge hj h3 h4⟩
noncomputable def applB (s:qI) (t:qP) (k m:Nat):List Bool:=(List.range m).map fun j=>if j < k then dec (Appl s t j) else dec (EnOk s t (s.qB[j]!))
theorem applB_len (s:qI) (t:qP) (k m:Nat):(applB s t k m).length=m:=by simp [applB]
theorem applB_get {s:qI} {t:qP} {k m j:Nat} (h:j < m):(applB s t k m)[j]! =if j < k then dec (Appl s t j) else dec (EnOk s t (s.qB[j]!)):=by
  rw [getElem!_pos (applB s t k m) j (by rw [applB_len];exact h)];simp [applB]
theorem applB_snoc (s:qI) (t:qP) (m:Nat):applB s t 0 m++[dec (EnOk s t (s.qB[m]!))]=applB s t 0 (m+1):=by simp [applB,List.range_succ]
theorem applB_set {s:qI} {t:qP} {k m:Nat} {x:Bool} (hk:k < m) (hx:x=dec (Appl s t k)):(applB s t k m).set k x=applB s t (k+1) m:=by
  refine ext_get (by simp [applB_len]) fun p hp=>?_
  rw [List.length_set,applB_len] at hp
  rw [getset (by rw [applB_len];exact hk),applB_get hp,applB_get hp]
  by_cases e:p=k
  · subst e;rw [if_pos rfl,if_pos qf,hx]
  · rw [if_neg e]
    by_cases e1:p < k
    · rw [if_pos e1,if_pos qf]
    · rw [if_neg e1,if_neg qf]
theorem applB_step0 {s:qI} {t:qP} {k m:Nat} (hk:k < m) (h:(applB s t k m)[k]! =false):false=dec (Appl s t k):=by
  rw [applB_get hk,if_neg qf] at h
  exact (xy fun x=>ve h x.1).symm
theorem applB_step1 {s:qI} {t:qP} {k m n i:Nat} {z:Int} (hk:k < m) (h:(applB s t k m)[k]! =true) (hm:m=s.qB.length) (hc:(s.qB[k]!).qN.toNat < n) (hz:z≤(s.qB[k]!).vP) (hi:i=s.qB.length):
    ((s.qB[k]!).vP == (bests s t z n i)[(s.qB[k]!).qN.toNat]!)=dec (Appl s t k):=by
  rw [applB_get hk,if_neg qf] at h
  refine dec_eq ?_
  rw [beq_iff_eq,bests_get hc,hi,appl_iff qf hz]
  exact ⟨fun e=>⟨Qq h,e⟩,fun e=>e.2⟩
noncomputable def appl (s:qI) (t:qP):List Bool:=applB s t s.qB.length s.qB.length
theorem appl_len (s:qI) (t:qP):(appl s t).length=s.qB.length:=applB_len _ _ _ _
theorem appl_get {s:qI} {t:qP} {j:Nat} (h:j < s.qB.length):(appl s t)[j]! =dec (Appl s t j):=by rw [appl,applB_get h,if_pos h]
theorem yu {s:qI} {t:qP} {j:Nat} (h:j < s.qB.length) (h1:(appl s t)[j]! =true):Appl s t j:=Qq (appl_get (s:=s) (t:=t) h▸h1)
theorem jB {s:qI} {t:qP} {j:Nat} (h:j < s.qB.length) (h1:(appl s t)[j]! =false):¬ Appl s t j:=ve (appl_get (s:=s) (t:=t) h▸h1)
def HaltTo (s:qI) (t:qP) (k:Nat):Prop:=∀ j,j < k→¬ Appl s t j
theorem HaltTo.succ {s:qI} {t:qP} {k:Nat} (h:HaltTo s t k) (h1:¬ Appl s t k):HaltTo s t (k+1):=fun j hj=>by
  by_cases e:j=k
  · subst e;exact h1
  · exact h j qf
abbrev Halted (s:qI) (t:qP):Prop:=HaltTo s t s.qB.length
noncomputable def applL (s:qI) (t:qP) (k:Nat):yLI:=((List.range k).filter fun j=>dec (Appl s t j)).map Int.ofNat
theorem applL_yes {s:qI} {t:qP} {k:Nat} (h:Appl s t k):applL s t k++[(k:Int)]=applL s t (k+1):=by simp [applL,List.range_succ,List.filter_append,yh h]
theorem applL_no {s:qI} {t:qP} {k:Nat} (h:¬ Appl s t k):applL s t k=applL s t (k+1):=by simp [applL,List.range_succ,List.filter_append,xy h]
noncomputable def appls (s:qI) (t:qP):yLI:=applL s t s.qB.length
theorem applL_le (s:qI) (t:qP) (k:Nat):(applL s t k).length≤k:=by
  have:=List.length_filter_le (fun j=>dec (Appl s t j)) (List.range k)
  simpa [applL] using this
theorem mem_applL {s:qI} {t:qP} {k:Nat} {x:Int}:x∈applL s t k↔0≤x∧x.toNat < k∧Appl s t x.toNat:=by
  simp only [applL,List.mem_map,List.mem_filter,List.mem_range]
  constructor
  · rintro ⟨j,⟨h1,h2⟩,rfl⟩
    exact ⟨Int.natCast_nonneg j,h1,Qq h2⟩
  · rintro ⟨h0,h1,h2⟩
    exact ⟨x.toNat,⟨h1,yh h2⟩,by show ((x.toNat:Nat):Int)=x;omega⟩
theorem zQ.rule {s:qI} (h:zQ s) {i:Nat} (hi:i < s.qB.length):RuleOk s (s.qB[i]!):=(h.2.2 i hi).1
theorem RuleOk.cell {s:qI} {r:jL} (h:RuleOk s r):r.qN.toNat < xP s:=by have:=h.1.1;have:=h.1.2;unfold xP;omega
theorem vS.len {s:qI} {l:yLI} (h:vS s.xh l):l.length=zI s:=by have:=h.2;unfold zI;omega
theorem vS.get {n:Int} {l:yLI} (h:vS n l) {k:Nat} (hk:k < l.length):0≤l[k]! ∧l[k]! ≤1000:=h.1.1 k hk
theorem vS.mul {s:qI} {m:yLI} (h:vS s.xh m) {t:Int} (ht: -1000≤t∧t≤1000):∀ k,k < zI s→ -1000000≤t * m[k]! ∧t * m[k]! ≤1000000:=fun k hk=>by
  have h1:=h.1.1 k (by rw [h.len];exact hk)
  rcases Int.le_total 0 t with h0 | h0
  · have h2:=Int.mul_nonneg h0 h1.1
    have h3:=Int.mul_le_mul_of_nonneg_left h1.2 h0
    omega
  · have h2:=Int.mul_nonneg (show 0≤ -t by omega) h1.1
    have h3:=Int.mul_le_mul_of_nonneg_left h1.2 (show 0≤ -t by omega)
    have h4: -t * m[k]! = -(t * m[k]!):=Int.neg_mul ..
    omega
theorem vS.jA {s:qI} {m:yLI} (h:vS s.xh m) {t:Int} (ht: -1000≤t∧t≤1000):Vb m t:=bagOk_smallT h qf
theorem kinds_le {s:qI} (h:zQ s):zI s≤8:=by have:=h.1.1.2;unfold zI;omega
theorem xI.shape {s:qI} {t:qP} (h:xI s t):Shape (xP s) (zI s) 1000 t.qH:=by
  refine ⟨h.2.1,fun p hp=>?_⟩
  have hb:=h.bagLen (k:=p) (by rw [h.2.1];exact hp)
  refine ⟨hb.len,fun k hk=>?_⟩
  have:=hb.get (k:=k) (by rw [hb.len];exact hk)
  omega
def XZ (s:qI) (counts:yLI):Prop:=counts.length=s.qB.length∧∀ i,i < counts.length→0≤counts[i]! ∧counts[i]! ≤1000
theorem XZ.bd {s:qI} {counts:yLI} (h:XZ s counts) {i:Nat} (hi:i < s.qB.length):0≤counts[i]! ∧counts[i]! ≤1000:=h.2 i (by rw [h.1];exact hi)

def yP (s:qI) (t:qP) (counts:yLI):Nat→yLL
  | 0=>t.qH
  | k+1=>(yP s t counts k).set (s.qB[k]!).qN.toNat (vZ ((yP s t counts k)[(s.qB[k]!).qN.toNat]!) (s.qB[k]!).xR (-(counts[k]!)))
def needF (s:qI) (counts:yLI) (i p k:Nat):Int:=at' p (s.qB[i]!).qN.toNat (-(counts[i]!) * ((s.qB[i]!).xR)[k]!)
def V5 (s:qI) (counts:yLI):Nat→Nat→Nat→Int
  | 0,_,_=>0
  | i+1,p,k=>V5 s counts i p k+needF s counts i p k
theorem restR_ent {s:qI} {t:qP} {counts:yLI} (hs:zQ s) (ht:xI s t) (hc:XZ s counts):∀ k,k≤s.qB.length→
    Ent (xP s) (zI s) (fun p q=>(t.qH[p]!)[q]! +V5 s counts k p q) (1000+1000000 * k) (yP s t counts k)
  | 0,_=>⟨by simpa [yP] using ht.shape,fun p k hp hk=>by simp [yP,V5]⟩
  | k+1,h=>by
    have hr:=hs.rule (i:=k) qf
    have hcb:=hc.bd (i:=k) qf
    refine ((restR_ent hs ht hc k qf).add (D:=1000000) rfl hr.cell (hr.2.2.2.2.1.mul qf) qf).to (fun p q=>?_) qf
    show _=_+(V5 s counts k p q+needF s counts k p q)
    unfold needF;omega
theorem restR_row {s:qI} {t:qP} {counts:yLI} (hs:zQ s) (ht:xI s t) (hc:XZ s counts) {k c:Nat} (hk:k≤s.qB.length) (h:c < xP s):
    ((yP s t counts k)[c]!).length=zI s∧Mid ((yP s t counts k)[c]!):=(restR_ent hs ht hc k hk).sh.row (by have:=hs.2.1;omega) (kinds_le hs) h
theorem restR_len {s:qI} {t:qP} {counts:yLI}:∀ k,(yP s t counts k).length=t.qH.length
  | 0=>rfl
  | k+1=>by rw [yP,List.length_set];exact restR_len k
theorem restR_skip {s:qI} {t:qP} {counts:yLI} (hs:zQ s) (ht:xI s t) {k:Nat} (hk:k < s.qB.length) (h:counts[k]! =0):yP s t counts (k+1)=yP s t counts k:=by
  rw [yP,plus_zero qf]
  exact set_self (by rw [restR_len,ht.2.1];exact (hs.rule hk).cell) rfl
open Classical in
noncomputable def QV (P:Nat→Prop):Nat→Nat
  | 0=>0
  | n+1=>if QV P n < n then QV P n else if P n then n else n+1
theorem stop_none {P:Nat→Prop}:∀ {n:Nat},(∀ j,j < n→¬ P j)→QV P n=n
  | 0,_=>rfl
  | n+1,h=>by rw [QV,stop_none (n:=n) (fun j hj=>h j qf),if_neg qf,if_neg (h n qf)]
theorem stop_first {P:Nat→Prop}:∀ {n k:Nat},(∀ j,j < k→¬ P j)→k < n→P k→QV P n=k
  | n+1,k,h,hk,hp=>by
    rw [QV]
    by_cases e:k=n
    · subst e;rw [stop_none h,if_neg qf,if_pos hp]
    · rw [stop_first (n:=n) h qf hp,if_pos qf]
def Yh (s:qI) (t:qP) (counts:yLI) (i:Nat):Prop:=0 < counts[i]! ∧¬ Appl s t i
def GoodTo (s:qI) (t:qP) (counts:yLI) (k:Nat):Prop:=∀ i,i < k→¬ Yh s t counts i
theorem GoodTo.succ {s:qI} {t:qP} {counts:yLI} {k:Nat} (h:GoodTo s t counts k) (h1:¬ Yh s t counts k):GoodTo s t counts (k+1):=fun j hj=>by
  by_cases e:j=k
  · subst e;exact h1
  · exact h j qf
def NonNeg (b:yLL) (n:Nat):Prop:=∀ p,p < n→∀ k,k < (b[p]!).length→0≤(b[p]!)[k]!
theorem NonNeg.succ {b:yLL} {n:Nat} (h:NonNeg b n) (h1:∀ k,k < (b[n]!).length→0≤(b[n]!)[k]!):NonNeg b (n+1):=fun j hj=>by
  by_cases e:j=n
  · subst e;exact h1
  · exact h j qf
def IsCh (s:qI) (t:qP) (counts:yLI):Prop:=GoodTo s t counts counts.length∧NonNeg (yP s t counts counts.length) t.qH.length
def IsMost (s:qI) (t:qP) (counts:yLI):Prop:=IsCh s t counts∧∀ i,i < s.qB.length→Appl s t i→within (s.qB[i]!).xR ((yP s t counts counts.length)[(s.qB[i]!).qN.toNat]!)=false

def Ql (l m:yLI):Nat→Int
  | 0=>1000
  | k+1=>if 0 < l[k]! then min (Ql l m k) (m[k]! / l[k]!) else Ql l m k
def jF (l m:yLI):Int:=Ql l m l.length
theorem timesTo_pos {l m:yLI} {k:Nat} (h:0 < l[k]!):Ql l m (k+1)=min (Ql l m k) (m[k]! / l[k]!):=by rw [Ql,if_pos h]
theorem timesTo_skip {l m:yLI} {k:Nat} (h:¬ 0 < l[k]!):Ql l m (k+1)=Ql l m k:=by rw [Ql,if_neg h]
theorem Vs {l m:yLI} (hm:∀ k,k < l.length→0≤m[k]!):∀ k,k≤l.length→0≤Ql l m k∧Ql l m k≤1000
  | 0,_=>by simp [Ql]
  | k+1,h=>by
    have:=Vs hm k qf
    rw [Ql]
    split
    · next h1=>have:=Int.ediv_nonneg (hm k qf) (show 0≤l[k]! by omega);omega
    · exact this
theorem timesTo_le {l m:yLI}:∀ {k j:Nat},j < k→0 < l[j]! →Ql l m k≤m[j]! / l[j]!
  | k+1,j,h,h1=>by
    rw [Ql]
    by_cases e:j=k
    · subst e;rw [if_pos h1];omega
    · have:=timesTo_le (m:=m) (show j < k by omega) h1
      split <;> omega
theorem timesL_left {l m:yLI} (hl:∀ k,k < l.length→0≤l[k]!) (hm:∀ k,k < l.length→0≤m[k]!) {k:Nat} (hk:k < l.length):0≤m[k]! + -(jF l m) * l[k]! :=by
  have h0:=Vs hm l.length (Nat.le_refl _)
  rcases Int.lt_or_eq_of_le (hl k hk) with h | h
  · have h1:=timesTo_le (m:=m) hk h
    have h2:m[k]! / l[k]! * l[k]! ≤m[k]! :=Int.ediv_mul_le _ qf
    have h3:=Int.mul_le_mul_of_nonneg_right h1 (show 0≤l[k]! by omega)
    have h4: -(jF l m) * l[k]! = -(jF l m * l[k]!):=Int.neg_mul ..
    unfold jF at *
    omega
  · rw [← h];have:=hm k hk;omega
def Xw (l m:yLI) (i:Nat) (best:Int):Prop:=(best=Ql l m i∧∃ j,j < i∧0 < l[j]!)∨(best= -1∧Ql l m i=1000∧∀ j,j < i→l[j]! ≤0)
theorem Xw.zero (l m:yLI):Xw l m 0 (-1):=.inr ⟨rfl,rfl,fun j hj=>by omega⟩
theorem Xw.take {l m:yLI} {i:Nat} {best:Int} (h:Xw l m i best) (hm:0≤m[i]! ∧m[i]! ≤1000) (hl:0 < l[i]!) (hb:best < 0∨m[i]! / l[i]! < best) (hn:0≤Ql l m i):Xw l m (i+1) (m[i]! / l[i]!):=by
  refine .inl ⟨?_,i,by omega,hl⟩
  rw [timesTo_pos hl]
  have h1:m[i]! / l[i]! ≤m[i]! :=Int.ediv_le_self _ hm.1
  rcases h with ⟨h,_⟩ | ⟨h,h2,_⟩ <;> omega
theorem Xw.keep {l m:yLI} {i:Nat} {best:Int} (h:Xw l m i best) (hl:¬ 0 < l[i]!):Xw l m (i+1) best:=by
  unfold Xw
  rw [timesTo_skip hl]
  rcases h with ⟨h,j,h1,h2⟩ | ⟨h,h2,h3⟩
  · exact .inl ⟨h,j,by omega,h2⟩
  · refine .inr ⟨h,h2,fun j hj=>?_⟩
    by_cases e:j=i
    · subst e;omega
    · exact h3 j qf
theorem Xw.keep2 {l m:yLI} {i:Nat} {best:Int} (h:Xw l m i best) (hl:0 < l[i]!) (hb:¬ best < 0) (hn:¬ m[i]! / l[i]! < best):Xw l m (i+1) best:=by
  refine .inl ⟨?_,i,by omega,hl⟩
  rw [timesTo_pos hl]
  rcases h with ⟨h,_⟩ | ⟨h,_⟩ <;> omega
theorem Xw.done {l m:yLI} {i:Nat} {best:Int} (h:Xw l m i best) (hp:∃ j,j < i∧0 < l[j]!):best=Ql l m i:=by
  rcases h with ⟨h,_⟩ | ⟨_,_,h3⟩
  · exact h
  · obtain ⟨j,h1,h2⟩:=hp
    have:=h3 j h1;omega
theorem sum_pos {l:yLI} (h:Xt l) (h1:Xh l≠0):∃ j,j < l.length∧0 < l[j]! :=by
  apply Classical.byContradiction
  intro hn
  have h0:∀ k,k≤l.length→sumTo l k=0:=by
    intro k
    induction k with
    | zero=>intro _;rfl
    | succ k ih=>
      intro hk
      have h2:=h.1 k qf
      have h3:¬ 0 < l[k]! :=fun h4=>hn ⟨k,by omega,h4⟩
      rw [sumTo,ih qf];omega
  exact h1 (h0 _ (Nat.le_refl _))
open Classical in
noncomputable def X9 (s:qI) (t:qP):Nat→yLL
  | 0=>t.qH
  | k+1=>if Appl s t k then (X9 s t k).set (s.qB[k]!).qN.toNat (vZ ((X9 s t k)[(s.qB[k]!).qN.toNat]!) (s.qB[k]!).xR (-(jF (s.qB[k]!).xR ((X9 s t k)[(s.qB[k]!).qN.toNat]!)))) else X9 s t k
open Classical in
noncomputable def firstC (s:qI) (t:qP) (k:Nat):Int:=if Appl s t k then jF (s.qB[k]!).xR ((X9 s t k)[(s.qB[k]!).qN.toNat]!) else 0
noncomputable def firstTo (s:qI) (t:qP) (m n:Nat):yLI:=(List.range n).map fun j=>if j < m then firstC s t j else 0
noncomputable def y9 (s:qI) (t:qP):yLI:=firstTo s t s.qB.length s.qB.length
theorem firstR_yes {s:qI} {t:qP} {k:Nat} (h:Appl s t k):X9 s t (k+1)=(X9 s t k).set (s.qB[k]!).qN.toNat (vZ ((X9 s t k)[(s.qB[k]!).qN.toNat]!) (s.qB[k]!).xR (-(jF (s.qB[k]!).xR ((X9 s t k)[(s.qB[k]!).qN.toNat]!)))):=by rw [X9,if_pos h]
theorem firstR_no {s:qI} {t:qP} {k:Nat} (h:¬ Appl s t k):X9 s t (k+1)=X9 s t k:=by rw [X9,if_neg h]
theorem firstC_yes {s:qI} {t:qP} {k:Nat} (h:Appl s t k):firstC s t k=jF (s.qB[k]!).xR ((X9 s t k)[(s.qB[k]!).qN.toNat]!):=by rw [firstC,if_pos h]
theorem firstC_no {s:qI} {t:qP} {k:Nat} (h:¬ Appl s t k):firstC s t k=0:=by rw [firstC,if_neg h]
theorem firstTo_len (s:qI) (t:qP) (m n:Nat):(firstTo s t m n).length=n:=by simp [firstTo]
theorem firstTo_get {s:qI} {t:qP} {m n j:Nat} (h:j < n):(firstTo s t m n)[j]! =if j < m then firstC s t j else 0:=by
  rw [getElem!_pos (firstTo s t m n) j (by rw [firstTo_len];exact h)];simp [firstTo]
def Box (n K:Nat) (b:yLL):Prop:=b.length=n∧∀ p,p < n→(b[p]!).length=K∧∀ k,k < K→0≤(b[p]!)[k]! ∧(b[p]!)[k]! ≤1000
theorem xI.box {s:qI} {t:qP} (h:xI s t):Box (xP s) (zI s) t.qH:=by
  refine ⟨h.2.1,fun p hp=>?_⟩
  have hb:=h.bagLen (k:=p) (by rw [h.2.1];exact hp)
  exact ⟨hb.len,fun k hk=>hb.get (by rw [hb.len];exact hk)⟩
theorem firstR_box {s:qI} {t:qP} (hs:zQ s) (ht:xI s t):∀ k,k≤s.qB.length→Box (xP s) (zI s) (X9 s t k)
  | 0,_=>ht.box
  | k+1,h=>by
    have ih:=firstR_box hs ht k qf
    by_cases ha:Appl s t k
    · rw [firstR_yes ha]
      have hr:=hs.rule (i:=k) qf
      have hb:=hr.2.2.2.2.1
      have hc:=ih.2 _ hr.cell
      refine ⟨by rw [List.length_set];exact ih.1,fun p hp=>?_⟩
      rw [getset (by rw [ih.1];exact hr.cell)]
      by_cases e:p=(s.qB[k]!).qN.toNat
      · rw [if_pos e,Qy]
        refine ⟨hc.1,fun q hq=>?_⟩
        rw [VT (by rw [hc.1];exact hq)]
        have h1:=timesL_left (l:=(s.qB[k]!).xR) (m:=(X9 s t k)[(s.qB[k]!).qN.toNat]!) (fun j hj=>(hb.get hj).1) (fun j hj=>(hc.2 j (by rw [← hb.len];exact hj)).1) (k:=q) (by rw [hb.len];exact hq)
        refine ⟨h1,?_⟩
        have h2:=Vs (l:=(s.qB[k]!).xR) (m:=(X9 s t k)[(s.qB[k]!).qN.toNat]!) (fun j hj=>(hc.2 j (by rw [← hb.len];exact hj)).1) _ (Nat.le_refl _)
        have h3:=Int.mul_nonneg h2.1 (hb.get (k:=q) (by rw [hb.len];exact hq)).1
        have h4:=(hc.2 q hq).2
        have h5: -(jF (s.qB[k]!).xR ((X9 s t k)[(s.qB[k]!).qN.toNat]!)) * ((s.qB[k]!).xR)[q]! = -(jF (s.qB[k]!).xR ((X9 s t k)[(s.qB[k]!).qN.toNat]!) * ((s.qB[k]!).xR)[q]!):=Int.neg_mul ..
        unfold jF at *
        omega
      · rw [if_neg e];exact ih.2 p hp
    · rw [firstR_no ha];exact ih
theorem firstR_row {s:qI} {t:qP} (hs:zQ s) (ht:xI s t) {k c:Nat} (hk:k≤s.qB.length) (h:c < xP s):
    ((X9 s t k)[c]!).length=zI s∧Mid ((X9 s t k)[c]!)∧∀ q,q < zI s→0≤((X9 s t k)[c]!)[q]! ∧((X9 s t k)[c]!)[q]! ≤1000:=by
  have h1:=(firstR_box hs ht k hk).2 c h
  have:=kinds_le hs
  exact ⟨h1.1,⟨by have:=h1.1;omega,fun q hq=>by have:=h1.2 q (by have:=h1.1;omega);omega⟩,h1.2⟩
theorem firstC_bd {s:qI} {t:qP} (hs:zQ s) (ht:xI s t) {k:Nat} (hk:k < s.qB.length):0≤firstC s t k∧firstC s t k≤1000:=by
  by_cases ha:Appl s t k
  · rw [firstC_yes ha]
    have hr:=hs.rule hk
    have hc:=firstR_row hs ht (Nat.le_of_lt hk) hr.cell
    exact Vs (fun j hj=>(hc.2.2 j (by rw [← hr.2.2.2.2.1.len];exact hj)).1) _ (Nat.le_refl _)
  · rw [firstC_no ha];omega
theorem first_cnt {s:qI} {t:qP} (hs:zQ s) (ht:xI s t):XZ s (y9 s t):=by
  refine ⟨firstTo_len _ _ _ _,fun i hi=>?_⟩
  rw [y9,firstTo_len] at hi
  rw [y9,firstTo_get hi,if_pos hi]
  exact firstC_bd hs ht hi
theorem first_rest {s:qI} {t:qP} (hs:zQ s) (ht:xI s t):∀ k,k≤s.qB.length→yP s t (y9 s t) k=X9 s t k
  | 0,_=>rfl
  | k+1,h=>by
    have ih:=first_rest hs ht k qf
    have hg:(y9 s t)[k]! =firstC s t k:=by rw [y9,firstTo_get qf,if_pos qf]
    by_cases ha:Appl s t k
    · rw [firstR_yes ha,yP,ih,hg,firstC_yes ha]
    · rw [firstR_no ha,restR_skip hs ht qf (by rw [hg,firstC_no ha]),ih]
theorem first_isCh {s:qI} {t:qP} (hs:zQ s) (ht:xI s t):IsCh s t (y9 s t):=by
  have hl:(y9 s t).length=s.qB.length:=firstTo_len _ _ _ _
  constructor
  · intro i hi
    rw [hl] at hi
    rintro ⟨h1,h2⟩
    rw [y9,firstTo_get hi,if_pos hi,firstC_no h2] at h1
    omega
  · rw [hl,first_rest hs ht _ (Nat.le_refl _)]
    have hb:=firstR_box hs ht _ (Nat.le_refl _)
    intro p hp k hk
    rw [ht.2.1] at hp
    have:=hb.2 p hp
    exact (this.2 k (by rw [← this.1];exact hk)).1
theorem parentNow_root {s:qI} {t:qP} (hs:yg s):xm s t 0= -1:=by
  unfold xm
  rw [show s.qA[(0:Int).toNat]! = -1 from hs.2.2.1]
  exact climb_end fun h=>by omega
def outPl (s:qI) (t:qP) (r:jL):Nat:=if r.qN=0 then xP s else (xm s t r.qN).toNat
theorem outPl_root {s:qI} {t:qP} {r:jL} (h:r.qN=0):outPl s t r=xP s:=by rw [outPl,if_pos h]
theorem outPl_up {s:qI} {t:qP} {r:jL} (h:r.qN≠0):outPl s t r=(xm s t r.qN).toNat:=by rw [outPl,if_neg h]
def XX (r:jL) (c:Int):Nat→Nat→Nat→Int
  | 0,_,_=>0
  | j+1,p,k=>XX r c j p k+at' p (r.qW[j]!).qN.toNat (c * ((r.qW[j]!).QP)[k]!)
def putF (s:qI) (t:qP) (r:jL) (c:Int) (p k:Nat):Int:=at' p r.qN.toNat (c * r.zH[k]!)+at' p (outPl s t r) (c * r.jC[k]!)+XX r c r.qW.length p k
def putS (s:qI) (t:qP) (counts:yLI):Nat→Nat→Nat→Int
  | 0,_,_=>0
  | i+1,p,k=>putS s t counts i p k+putF s t (s.qB[i]!) (counts[i]!) p k
def allS (s:qI) (t:qP) (counts:yLI):Nat→Nat→Nat→Int
  | 0,_,_=>0
  | i+1,p,k=>allS s t counts i p k+needF s counts i p k+putF s t (s.qB[i]!) (counts[i]!) p k
theorem allS_eq (s:qI) (t:qP) (counts:yLI) (p k:Nat):∀ i,allS s t counts i p k=V5 s counts i p k+putS s t counts i p k
  | 0=>rfl
  | i+1=>by
    have:=allS_eq s t counts p k i
    simp only [allS,V5,putS]
    omega
theorem at_zero (p c:Nat) (x:Int):at' p c (0 * x)=0:=by unfold at';split <;> simp
theorem intoF_zero (r:jL) (p k:Nat):∀ j,XX r 0 j p k=0
  | 0=>rfl
  | j+1=>by rw [XX,intoF_zero r p k j,at_zero];rfl
theorem putF_zero (s:qI) (t:qP) (r:jL) {c:Int} (h:c=0) (p k:Nat):putF s t r c p k=0:=by
  subst h;rw [putF,at_zero,at_zero,intoF_zero];rfl
theorem putS_skip {s:qI} {t:qP} {counts:yLI} {i:Nat} (h:counts[i]! =0) (p k:Nat):putS s t counts (i+1) p k=putS s t counts i p k:=by
  rw [putS,putF_zero s t _ h];omega
def base0 (s:qI) (t:qP) (p k:Nat):Int:=if p < xP s then (t.qH[p]!)[k]! else t.qF[k]!
def stepF (s:qI) (t:qP) (counts:yLI) (p k:Nat):Int:=base0 s t p k+allS s t counts s.qB.length p k
noncomputable def xw (s:qI) (t:qP) (counts:yLI):qP:=
  ⟨t.qG,(tab2 (xP s+1) (zI s) (stepF s t counts)).take (xP s),(tab2 (xP s+1) (zI s) (stepF s t counts))[xP s]!⟩
theorem xI.around {s:qI} {t:qP} (h:xI s t):t.qF.length=zI s∧∀ k,k < zI s→0≤t.qF[k]! ∧t.qF[k]! ≤1000:=by
  have hb:=h.2.2.2.1
  exact ⟨hb.len,fun k hk=>hb.get (by rw [hb.len];exact hk)⟩
theorem start_ent {s:qI} {t:qP} {counts:yLI} (ht:xI s t):Ent (xP s+1) (zI s) (fun p k=>base0 s t p k+allS s t counts 0 p k) 1000 (t.qH++[t.qF]):=by
  have h1:Ent (xP s) (zI s) (fun p k=>base0 s t p k+allS s t counts 0 p k) 1000 t.qH:=⟨ht.shape,fun p k hp hk=>by simp [base0,hp,allS]⟩
  refine h1.snoc ht.around.1 (fun k hk=>by have:=ht.around.2 k hk;omega) fun k hk=>?_
  simp [base0,allS]
theorem rest_ent {s:qI} {t:qP} {counts:yLI} (hs:zQ s) (ht:xI s t) (hc:XZ s counts):
    Ent (xP s+1) (zI s) (fun p k=>base0 s t p k+V5 s counts s.qB.length p k+putS s t counts 0 p k) (1000+1000000 * s.qB.length) (yP s t counts s.qB.length++[t.qF]):=by
  have h1:Ent (xP s) (zI s) (fun p k=>base0 s t p k+V5 s counts s.qB.length p k+putS s t counts 0 p k) (1000+1000000 * s.qB.length) (yP s t counts s.qB.length):=by
    have h0:=restR_ent hs ht hc _ (Nat.le_refl _)
    exact ⟨h0.sh,fun p k hp hk=>by rw [h0.eq p k hp hk];simp [base0,hp,putS]⟩
  refine h1.snoc ht.around.1 (fun k hk=>by have:=ht.around.2 k hk;omega) fun k hk=>?_
  have h2:∀ i,i≤s.qB.length→V5 s counts i (xP s) k=0:=by
    intro i
    induction i with
    | zero=>intro _;rfl
    | succ i ih=>
      intro hi
      have:=(hs.rule (i:=i) qf).cell
      rw [V5,ih qf,needF,at',if_neg qf];rfl
  rw [h2 _ (Nat.le_refl _)]
  simp [base0,putS]
theorem step_tab {s:qI} {t:qP} {counts:yLI} {B:Int} {b:yLL} (h:Ent (xP s+1) (zI s) (fun p k=>base0 s t p k+allS s t counts s.qB.length p k) B b):
    b.take (xP s)=(xw s t counts).qH∧b[xP s]! =(xw s t counts).qF:=by
  have e:=h.tab
  constructor
  · show _=(tab2 _ _ _).take _
    rw [e];rfl
  · show _=(tab2 _ _ _)[_]!
    rw [e];rfl
theorem step_tab2 {s:qI} {t:qP} {counts:yLI} {B:Int} {b:yLL} {a:yLI} (hb:b.length=xP s) (h:Ent (xP s+1) (zI s) (fun p k=>base0 s t p k+V5 s counts s.qB.length p k+putS s t counts s.qB.length p k) B (b++[a])):
    b=(xw s t counts).qH∧a=(xw s t counts).qF:=by
  have h1:=step_tab (h.to (g:=fun p k=>base0 s t p k+allS s t counts s.qB.length p k) (fun p k=>by rw [allS_eq];omega) (Int.le_refl _))
  rw [← hb,List.take_left] at h1
  refine ⟨h1.1,?_⟩
  rw [← h1.2,getElem!_pos (b++[a]) b.length qm,List.getElem_append_right (Nat.le_refl _)];simp
theorem cat_set {b:yLL} {a v:yLI} {c:Nat} (hc:c < b.length):(b++[a]).set c v=b.set c v++[a]:=List.set_append_left c v hc
theorem cat_setN {b:yLL} {a v:yLI} {n:Nat} (h:b.length=n):(b++[a]).set n v=b++[v]:=by
  rw [List.set_append_right _ _ qf,h];simp
theorem cat_get {b:yLL} {a:yLI} {c:Nat} (hc:c < b.length):(b++[a])[c]! =b[c]! :=by
  rw [getElem!_pos (b++[a]) c qy,getElem!_pos b c hc,List.getElem_append_left hc]
theorem cat_getN {b:yLL} {a:yLI} {n:Nat} (h:b.length=n):(b++[a])[n]! =a:=by
  rw [getElem!_pos (b++[a]) n qy,List.getElem_append_right qf];simp [h]
theorem Ent.addL {n K:Nat} {f:Nat→Nat→Int} {B D:Int} {b:yLL} {a:yLI} (h:Ent (n+1) K f B (b++[a])) {c:Nat} {m:yLI} {t:Int} {b' :yLL} (e:b' =b.set c (vZ (b[c]!) m t)) (hb:b.length=n) (hc:c < n) (ht:∀ k,k < K→ -D≤t * m[k]! ∧t * m[k]! ≤D) (hD:0≤D):
    Ent (n+1) K (fun p k=>f p k+at' p c (t * m[k]!)) (B+D) (b' ++[a]):=
  h.add (by rw [e,← cat_set qf,cat_get qf]) qf ht hD
theorem Ent.addN {n K:Nat} {f:Nat→Nat→Int} {B D:Int} {b:yLL} {a:yLI} (h:Ent (n+1) K f B (b++[a])) {m:yLI} {t:Int} {a' :yLI} (e:a' =vZ a m t) (hb:b.length=n) (ht:∀ k,k < K→ -D≤t * m[k]! ∧t * m[k]! ≤D) (hD:0≤D):
    Ent (n+1) K (fun p k=>f p k+at' p n (t * m[k]!)) (B+D) (b++[a']):=
  h.add (by rw [e,cat_setN hb,cat_getN hb]) qf ht hD
theorem Ent.rowL {n K:Nat} {f:Nat→Nat→Int} {B:Int} {b:yLL} {a:yLI} (h:Ent (n+1) K f B (b++[a])) (hb:b.length=n) (hB:B≤1000000000000000) (hK:K≤8) {c:Nat} (hc:c < n):(b[c]!).length=K∧Mid (b[c]!):=by
  have:=h.sh.row hB hK (c:=c) qf
  rwa [cat_get qf] at this
theorem Ent.rowN {n K:Nat} {f:Nat→Nat→Int} {B:Int} {b:yLL} {a:yLI} (h:Ent (n+1) K f B (b++[a])) (hb:b.length=n) (hB:B≤1000000000000000) (hK:K≤8):a.length=K∧Mid a:=by
  have:=h.sh.row hB hK (c:=n) qf
  rwa [cat_getN hb] at this

def Xf (s:qI) (counts:yLI) (c:Int) (k:Nat):Prop:=∃ i,i < k∧0 < counts[i]! ∧(s.qB[i]!).vF=true∧(s.qB[i]!).qN=c
theorem melts_zero (s:qI) (counts:yLI) (c:Int):¬ Xf s counts c 0:=fun ⟨i,h,_⟩=>by omega
theorem melts_succ {s:qI} {counts:yLI} {c:Int} {k:Nat}:Xf s counts c (k+1)↔Xf s counts c k∨(0 < counts[k]! ∧(s.qB[k]!).vF=true∧(s.qB[k]!).qN=c):=by
  constructor
  · rintro ⟨i,h,h1⟩
    by_cases e:i=k
    · subst e;exact .inr h1
    · exact .inl ⟨i,by omega,h1⟩
  · rintro (⟨i,h,h1⟩ | h)
    · exact ⟨i,by omega,h1⟩
    · exact ⟨k,by omega,h⟩
theorem melts_1 {s:qI} {counts:yLI} {c:Int} {k:Nat} (h:dec (Xf s counts c k)=true):true=dec (Xf s counts c (k+1)):=(yh (melts_succ.2 (.inl (Qq h)))).symm
theorem melts_2 {s:qI} {counts:yLI} {c:Int} {k:Nat} (h:dec (Xf s counts c k)=false) (h1:¬ counts[k]! > 0):false=dec (Xf s counts c (k+1)):=
  (xy fun x=>(melts_succ.1 x).elim (ve h) fun y=>h1 y.1).symm
theorem melts_3 {s:qI} {counts:yLI} {c:Int} {k:Nat} (h:dec (Xf s counts c k)=false) (h1:(s.qB[k]!).vF=false):false=dec (Xf s counts c (k+1)):=
  (xy fun x=>(melts_succ.1 x).elim (ve h) fun y=>ft y.2.1 h1).symm
theorem melts_4 {s:qI} {counts:yLI} {c:Int} {k:Nat} (h:dec (Xf s counts c k)=false) (h1:counts[k]! > 0) (h2:(s.qB[k]!).vF=true):((s.qB[k]!).qN == c)=dec (Xf s counts c (k+1)):=by
  refine dec_eq ?_
  rw [beq_iff_eq,melts_succ]
  exact ⟨fun e=>.inr ⟨h1,h2,e⟩,fun x=>x.elim (fun y=>absurd y (ve h)) fun y=>y.2.2⟩
abbrev Melts (s:qI) (counts:yLI) (c:Int):Prop:=Xf s counts c s.qB.length
noncomputable def Qg (s:qI) (counts:yLI) (n k:Nat):List Bool:=(List.range n).map fun c:Nat=>dec (Xf s counts (c:Int) k)
theorem meltsL_len (s:qI) (counts:yLI) (n k:Nat):(Qg s counts n k).length=n:=by simp [Qg]
theorem meltsL_get {s:qI} {counts:yLI} {n k c:Nat} (h:c < n):(Qg s counts n k)[c]! =dec (Xf s counts (c:Int) k):=by
  rw [getElem!_pos (Qg s counts n k) c (by rw [meltsL_len];exact h)];simp [Qg]
theorem meltsL_zero (s:qI) (counts:yLI) (n:Nat):List.replicate n false=Qg s counts n 0:=by
  refine ext_get (by simp [meltsL_len]) fun k hk=>?_
  rw [List.length_replicate] at hk
  rw [meltsL_get hk,xy (melts_zero _ _ _),getElem!_pos (List.replicate n false) k (by simpa using hk)];simp
theorem meltsL_set {s:qI} {counts:yLI} {n k:Nat} (h0:0≤(s.qB[k]!).qN) (h:(s.qB[k]!).qN.toNat < n) {x:Bool} (hx:x=true↔((Qg s counts n k)[(s.qB[k]!).qN.toNat]! =true∨(0 < counts[k]! ∧(s.qB[k]!).vF=true))):
    (Qg s counts n k).set (s.qB[k]!).qN.toNat x=Qg s counts n (k+1):=by
  refine ext_get (by simp [meltsL_len]) fun p hp=>?_
  rw [List.length_set,meltsL_len] at hp
  rw [getset (by rw [meltsL_len];exact h),meltsL_get hp,meltsL_get hp]
  rw [meltsL_get h] at hx
  by_cases e:p=(s.qB[k]!).qN.toNat
  · rw [if_pos e]
    refine dec_eq (hx.trans ?_)
    rw [melts_succ,e,show (((s.qB[k]!).qN.toNat:Nat):Int)=(s.qB[k]!).qN by omega]
    constructor
    · rintro (h1 | h1)
      · exact .inl (Qq h1)
      · exact .inr ⟨h1.1,h1.2,rfl⟩
    · rintro (h1 | h1)
      · exact .inl (yh h1)
      · exact .inr ⟨h1.1,h1.2.1⟩
  · rw [if_neg e]
    refine dec_congr ?_
    rw [melts_succ]
    constructor
    · exact .inl
    · rintro (h1 | ⟨_,_,h1⟩)
      · exact h1
      · exfalso;omega
open Classical in
noncomputable def xu (s:qI) (counts:yLI) (u:qP):Nat→qP
  | 0=>u
  | j+1=>if Melts s counts ((xP s:Int) - 1 - j) then melted s (xu s counts u j) ((xP s:Int) - 1 - j) else xu s counts u j
theorem meltDown_yes {s:qI} {counts:yLI} {u:qP} {j:Nat} {c:Int} (h:Melts s counts c) (hc:c=(xP s:Int) - 1 - j):xu s counts u (j+1)=melted s (xu s counts u j) c:=by subst hc;rw [xu,if_pos h]
theorem V6 {s:qI} {counts:yLI} {u:qP} {j:Nat} {c:Int} (h:¬ Melts s counts c) (hc:c=(xP s:Int) - 1 - j):xu s counts u (j+1)=xu s counts u j:=by subst hc;rw [xu,if_neg h]
theorem Q4 {s:qI} {counts:yLI} {u:qP} {j i:Nat} {c:Int} (h:dec (Xf s counts c i)=true) (hi:i=s.qB.length) (hc:c=(xP s:Int) - 1 - j):xu s counts u (j+1)=melted s (xu s counts u j) c:=by subst hi;exact meltDown_yes (Qq h) hc
theorem meltDown_no' {s:qI} {counts:yLI} {u:qP} {j i:Nat} {c:Int} (h:dec (Xf s counts c i)=false) (hi:i=s.qB.length) (hc:c=(xP s:Int) - 1 - j):xu s counts u (j+1)=xu s counts u j:=by subst hi;exact V6 (ve h) hc
theorem Qh (s:qI) (counts:yLI) (u:qP):∀ j,(xu s counts u j).qF=u.qF
  | 0=>rfl
  | j+1=>by
    rw [xu]
    split
    · exact Qh s counts u j
    · exact Qh s counts u j
structure Live (s:qI) (B:Int) (u:qP):Prop where
  alive:u.qG.length=xP s
  root:u.qG[0]! =true
  bags:Shape (xP s) (zI s) B u.qH
  around:u.qF.length=zI s
theorem Live.melt {s:qI} {B:Int} {u:qP} (hs:zQ s) (h:Live s B u) (hB:0≤B) {c:Int} (h0:0 < c) (h1:c≤(xP s:Int) - 1):Live s (2 * B) (melted s u c):=by
  have hp:=XD (t:=u) hs.1 h.root h0 h1
  have hpc:(xm s u c).toNat < xP s:=by omega
  have hcc:c.toNat < xP s:=by omega
  refine ⟨by simp [melted,h.alive],?_,?_,h.around⟩
  · show (u.qG.set c.toNat false)[0]! =true
    rw [getset (by rw [h.alive];exact hcc),if_neg qf];exact h.root
  · have hr:=(h.bags.2 _ hcc).2
    have hk:=(h.bags.2 _ hcc).1
    have h2:=h.bags.plus (m:=u.qH[c.toNat]!) (t:=1) (D:=B) hpc (fun k hk=>by have:=hr k hk;omega) hB
    refine (h2.set (D:=B+B) hcc (by simp [zI]) (fun k hk=>?_) qf).mono qf
    rw [getElem!_pos (List.replicate s.xh.toNat (0:Int)) k (by simpa [zI] using hk)]
    simp;omega
def bnd:Nat→Int
  | 0=>200000000
  | j+1=>2 * bnd j
theorem bnd_pos:∀ j,0≤bnd j
  | 0=>by simp [bnd]
  | j+1=>by have:=bnd_pos j;simp only [bnd];omega
theorem bnd_mono:∀ {i j:Nat},i≤j→bnd i≤bnd j
  | i, 0, h => by obtain rfl : i = 0 := by omega
                  exact Int.le_refl _
  | i,j+1,h=>by
    by_cases e:i=j+1
    · subst e;exact Int.le_refl _
    · have:=bnd_mono (show i≤j by omega)
      have:=bnd_pos j
      simp only [bnd];omega
theorem bnd_le {j:Nat} (h:j≤6):bnd j≤12800000000:=Int.le_trans (bnd_mono h) (by simp [bnd])
theorem Live.mono {s:qI} {B D:Int} {u:qP} (h:Live s B u) (hD:B≤D):Live s D u:=⟨h.alive,h.root,h.bags.mono hD,h.around⟩
theorem stepped_live {s:qI} {t:qP} {counts:yLI} {B:Int} {b:yLL} (ht:xI s t) (h:Ent (xP s+1) (zI s) (fun p k=>base0 s t p k+allS s t counts s.qB.length p k) B b) (hB:B≤200000000):Live s (bnd 0) (xw s t counts):=by
  have h1:=step_tab h
  have hr:=h.sh.2 (xP s) qf
  refine ⟨ht.1,ht.2.2.1,?_,by rw [← h1.2];exact hr.1⟩
  rw [← h1.1]
  refine ⟨by rw [List.length_take,h.sh.1];omega,fun p hp=>?_⟩
  have e:(b.take (xP s))[p]! =b[p]! :=by
    rw [getElem!_pos (b.take (xP s)) p (by rw [List.length_take,h.sh.1];omega),getElem!_pos b p (by rw [h.sh.1];omega)];simp
  rw [e]
  have:=h.sh.2 p qf
  exact ⟨this.1,fun k hk=>by have:=this.2 k hk;simp only [bnd];omega⟩
theorem meltDown_live {s:qI} {counts:yLI} {u:qP} (hs:zQ s) (h:Live s (bnd 0) u):∀ j,j+1≤xP s→Live s (bnd j) (xu s counts u j)
  | 0,_=>h
  | j+1,hj=>by
    have ih:=meltDown_live (counts:=counts) hs h j qf
    by_cases hm:Melts s counts ((xP s:Int) - 1 - j)
    · rw [meltDown_yes hm rfl];exact ih.melt hs (bnd_pos j) qf qf
    · rw [V6 hm rfl];exact ih.mono (bnd_mono qf)
theorem Live.rows {s:qI} {B:Int} {u:qP} (hs:zQ s) (h:Live s B u) (hB:B≤12800000000) {p c:Nat} (hp:p < xP s) (hc:c < xP s):
    (u.qH[p]!).length≤(u.qH[c]!).length∧Mid (u.qH[p]!)∧Vb (u.qH[c]!) 1:=by
  have h1:=h.bags.row qf (kinds_le hs) hp
  have h2:=h.bags.row qf (kinds_le hs) hc
  refine ⟨by omega,h1.2,fun k hk=>?_⟩
  have:=h2.2.2 k hk
  omega
noncomputable def stepRes (s:qI) (t:qP) (counts:yLI):qP×Int:=told s (xu s counts (xw s t counts) (xP s - 1))
open Classical in
noncomputable def zl (s:qI) (t:qP) (counts:yLI):qP×Int:=if IsCh s t counts then stepRes s t counts else (default,4)
theorem Xx {s:qI} {t:qP} {counts:yLI} (h:IsCh s t counts):zl s t counts=stepRes s t counts:=by rw [zl,if_pos h]
theorem stepBy_no {s:qI} {t:qP} {counts:yLI} (h:¬ IsCh s t counts):zl s t counts=(default,4):=by rw [zl,if_neg h]
def minus (k:Nat):yLI:=(List.range 6).map fun j=>if j < k then -1 else 0
theorem minus_len (k:Nat):(minus k).length=6:=by simp [minus]
theorem minus_get {k j:Nat} (h:j < 6):(minus k)[j]! =if j < k then -1 else 0:=by
  rw [getElem!_pos (minus k) j (by rw [minus_len];exact h)];simp [minus]
theorem minus_set {k:Nat} (h:k < 6):(minus k).set k (-1)=minus (k+1):=by
  refine ext_get (by simp [minus_len]) fun p hp=>?_
  rw [List.length_set,minus_len] at hp
  rw [getset (by rw [minus_len];exact h),minus_get hp,minus_get hp]
  by_cases e:p=k
  · rw [if_pos e,if_pos qf]
  · rw [if_neg e]
    by_cases h1:p < k
    · rw [if_pos h1,if_pos qf]
    · rw [if_neg h1,if_neg qf]
theorem minus_six {k:Nat} (h:k=6) (s:qI) (t:qP):minus k=bests s t (-1) 6 0:=by
  subst h
  rw [← bests_zero];rfl
theorem appl_yes {s:qI} {t:qP} {i k n:Nat} {z:Int} (hk:k=s.qB.length) (hi:i < s.qB.length) (hz:z≤(s.qB[i]!).vP) (hc:(s.qB[i]!).qN.toNat < n) (h1:(s.qB[i]!).vP=(bests s t z n k)[(s.qB[i]!).qN.toNat]!) (h2:EnOk s t (s.qB[i]!)):Appl s t i:=by
  rw [bests_get hc,hk] at h1
  exact (appl_iff hi hz).2 ⟨h2,h1⟩
theorem appl_no {s:qI} {t:qP} {i k n:Nat} {z:Int} (hk:k=s.qB.length) (hi:i < s.qB.length) (hz:z≤(s.qB[i]!).vP) (hc:(s.qB[i]!).qN.toNat < n) (h1:(s.qB[i]!).vP≠(bests s t z n k)[(s.qB[i]!).qN.toNat]!):¬ Appl s t i:=fun h=>by
  rw [bests_get hc,hk] at h1
  exact h1 ((appl_iff hi hz).1 h).2
theorem XA {s:qI} {t:qP}:(appls s t).length=0↔Halted s t:=by
  constructor
  · intro h j hj ha
    have:(j:Int)∈appls s t:=mem_applL.2 ⟨Int.natCast_nonneg j,by simpa using hj,by simpa using ha⟩
    rw [List.length_eq_zero_iff.1 h] at this;cases this
  · intro h
    rw [List.length_eq_zero_iff]
    apply List.eq_nil_iff_forall_not_mem.2
    intro x hx
    obtain ⟨h0,h1,h2⟩:=mem_applL.1 hx
    exact h _ h1 h2
theorem outPl_in {s:qI} {t:qP} {r:jL} (hs:yg s) (h:0≤xm s t r.qN):outPl s t r=(xm s t r.qN).toNat:=by
  refine outPl_up fun e=>?_
  rw [e,parentNow_root hs] at h;omega
theorem outPl_out {s:qI} {t:qP} {r:jL} (hs:yg s) (h0:t.qG[0]! =true) (hc:CellIn s r.qN) (h:¬ 0≤xm s t r.qN):outPl s t r=s.qA.length:=by
  refine outPl_root ?_
  rcases Int.lt_or_eq_of_le hc.1 with h1 | h1
  · exact absurd (XD hs h0 h1 hc.2).1 h
  · exact h1.symm
theorem parentNow_lt {s:qI} {t:qP} (hs:yg s) (h0:t.qG[0]! =true) {c:Int} (hc:CellIn s c):xm s t c≤(s.qA.length:Int) - 1:=by
  rcases Int.lt_or_eq_of_le hc.1 with h1 | h1
  · have:=XD hs h0 h1 hc.2;have:=hc.2;omega
  · rw [← h1,parentNow_root hs];have:=hs.2.1;omega
theorem stepBy_ok {s:qI} {t:qP} {counts:yLI} (h:(zl s t counts).2=0):xI s (zl s t counts).1:=by
  by_cases hc:IsCh s t counts
  · rw [Xx hc] at h ⊢
    unfold stepRes at h ⊢
    by_cases ho:xI s (xu s counts (xw s t counts) (xP s - 1))
    · rw [told_yes ho];exact ho
    · rw [told_no ho] at h;cases h
  · rw [stepBy_no hc] at h;cases h
theorem meltsL_1 {s:qI} {counts:yLI} {n k:Nat} (h0:0≤(s.qB[k]!).qN) (h:(s.qB[k]!).qN.toNat < n) (h1:(Qg s counts n k)[(s.qB[k]!).qN.toNat]! =true):(Qg s counts n k).set (s.qB[k]!).qN.toNat true=Qg s counts n (k+1):=
  meltsL_set h0 h ⟨fun _=>.inl h1,fun _=>rfl⟩
theorem meltsL_2 {s:qI} {counts:yLI} {n k:Nat} (h0:0≤(s.qB[k]!).qN) (h:(s.qB[k]!).qN.toNat < n) (h1:(Qg s counts n k)[(s.qB[k]!).qN.toNat]! =false) (h2:¬ counts[k]! > 0):(Qg s counts n k).set (s.qB[k]!).qN.toNat false=Qg s counts n (k+1):=
  meltsL_set h0 h ⟨fun h=>(by cases h),fun h=>h.elim (fun h=>(ft h h1).elim) fun h=>(h2 h.1).elim⟩
theorem meltsL_3 {s:qI} {counts:yLI} {n k:Nat} (h0:0≤(s.qB[k]!).qN) (h:(s.qB[k]!).qN.toNat < n) (h1:(Qg s counts n k)[(s.qB[k]!).qN.toNat]! =false) (h2:counts[k]! > 0):(Qg s counts n k).set (s.qB[k]!).qN.toNat (s.qB[k]!).vF=Qg s counts n (k+1):=
  meltsL_set h0 h ⟨fun h=>.inr ⟨h2,h⟩,fun h=>h.elim (fun h=>(ft h h1).elim) fun h=>h.2⟩
theorem meltDown_yesL {s:qI} {counts:yLI} {u:qP} {j i n:Nat} {c:Int} (h:(Qg s counts n i)[c.toNat]! =true) (hn:c.toNat < n) (h0:0≤c) (hi:i=s.qB.length) (hc:c=(xP s:Int) - 1 - j):xu s counts u (j+1)=melted s (xu s counts u j) c:=by
  rw [meltsL_get hn,show ((c.toNat:Nat):Int)=c by omega] at h
  exact Q4 h hi hc
theorem meltDown_noL {s:qI} {counts:yLI} {u:qP} {j i n:Nat} {c:Int} (h:(Qg s counts n i)[c.toNat]! =false) (hn:c.toNat < n) (h0:0≤c) (hi:i=s.qB.length) (hc:c=(xP s:Int) - 1 - j):xu s counts u (j+1)=xu s counts u j:=by
  rw [meltsL_get hn,show ((c.toNat:Nat):Int)=c by omega] at h
  exact meltDown_no' h hi hc
theorem copy_pre {n K:Nat} {f:Nat→Nat→Int} {B:Int} {b:yLL} {al:List Bool} (h:Ent (n+1) K f B b) (hK:K≤8) (hn:n≤6) (ha:al.length=n):
    (⟨al,b.take n,b[n]!⟩:qP).qG.length≤1000000∧(⟨al,b.take n,b[n]!⟩:qP).qF.length≤1000000∧(⟨al,b.take n,b[n]!⟩:qP).qH.length≤1000000∧
      ∀ j,j < (⟨al,b.take n,b[n]!⟩:qP).qH.length→((⟨al,b.take n,b[n]!⟩:qP).qH[j]!).length≤1000000:=by
  have hl:(b.take n).length=n:=by rw [List.length_take,h.sh.1];omega
  have hr:=h.sh.2 n qf
  refine ⟨?_,?_,?_,fun j hj=>?_⟩
  · show al.length≤1000000;omega
  · show (b[n]!).length≤1000000;omega
  · show (b.take n).length≤1000000;omega
  · have hj:j < (b.take n).length:=hj
    show ((b.take n)[j]!).length≤1000000
    rw [getElem!_pos (b.take n) j hj,List.getElem_take,← getElem!_pos b j (by rw [h.sh.1];omega)]
    have:=(h.sh.2 j qf).1;omega
theorem few_stepBy {s:qI} {t:qP} {counts:yLI} (hs:yg s):FewState (zl s t counts).1:=by
  by_cases h:IsCh s t counts
  · rw [Xx h];exact few_told hs
  · rw [stepBy_no h];exact few_default
theorem anyTo_mem {l:yLI} {x:Int}:anyTo (fun k=>x == l[k]!) l.length=dec (x∈l):=by
  refine dec_eq ?_
  rw [anyTo_iff]
  constructor
  · rintro ⟨k,h,h1⟩
    rw [beq_iff_eq,getElem!_pos l k h] at h1
    rw [h1];exact List.getElem_mem h
  · intro h
    obtain ⟨k,hk,e⟩:=List.mem_iff_getElem.1 h
    exact ⟨k,hk,by rw [beq_iff_eq,getElem!_pos l k hk,e]⟩
theorem mem_appls {s:qI} {t:qP} {i:Nat} (hi:i < s.qB.length):(i:Int)∈appls s t↔Appl s t i:=by
  unfold appls
  rw [mem_applL]
  constructor
  · rintro ⟨_,_,h⟩;simpa using h
  · intro h;exact ⟨Int.natCast_nonneg i,by simpa using hi,by simpa using h⟩
theorem mem_applsI {s:qI} {t:qP} {i:Int} (h0:0≤i) (hi:i.toNat < s.qB.length):i∈appls s t↔Appl s t i.toNat:=by
  have:=mem_appls (s:=s) (t:=t) hi
  rwa [show ((i.toNat:Nat):Int)=i by omega] at this
open Classical in
noncomputable def askCode (s:qI) (t:qP) (counts:yLI):Int:=if ¬ (zQ s∧xI s t) then 1 else if ¬ XZ s counts then 2 else 0
theorem ask_0 {s:qI} {t:qP} {counts:yLI} (h:zQ s∧xI s t) (h1:XZ s counts):askCode s t counts=0:=by rw [askCode,if_neg (by simpa using h),if_neg (by simpa using h1)]
open Classical in
noncomputable def byRes (s:qI) (t:qP) (counts:yLI):qP×Int:=if askCode s t counts≠0 then (default,askCode s t counts) else zl s t counts
theorem by_ok {s:qI} {t:qP} {counts:yLI} (h:askCode s t counts=0):byRes s t counts=zl s t counts:=by rw [byRes,if_neg (by simpa using h)]
def single (s:qI) (i:Nat):yLI:=(List.replicate s.qB.length (0:Int)).set i 1
theorem single_len (s:qI) (i:Nat):(single s i).length=s.qB.length:=by simp [single]
theorem single_get {s:qI} {i j:Nat} (hi:i < s.qB.length) (hj:j < s.qB.length):(single s i)[j]! =if j=i then 1 else 0:=by
  unfold single
  rw [getset (by simpa using hi)]
  by_cases e:j=i
  · rw [if_pos e,if_pos e]
  · rw [if_neg e,if_neg e,getElem!_pos (List.replicate s.qB.length (0:Int)) j (by simpa using hj)];simp
theorem single_cnt {s:qI} {i:Nat} (hi:i < s.qB.length):XZ s (single s i):=by
  refine ⟨single_len s i,fun j hj=>?_⟩
  rw [single_len] at hj
  rw [single_get hi hj]
  split <;> omega
theorem single_rest {s:qI} {t:qP} (hs:zQ s) (ht:xI s t) {i:Nat} (hi:i < s.qB.length):∀ k,k≤s.qB.length→
    yP s t (single s i) k=if k≤i then t.qH else t.qH.set (s.qB[i]!).qN.toNat (vZ (t.qH[(s.qB[i]!).qN.toNat]!) (s.qB[i]!).xR (-1))
  | 0,_=>by rw [if_pos qf];rfl
  | k+1,h=>by
    have ih:=single_rest hs ht hi k qf
    by_cases e:k=i
    · subst e
      rw [if_neg qf,yP,ih,if_pos qf,single_get hi hi,if_pos rfl]
    · rw [restR_skip hs ht qf (by rw [single_get hi qf,if_neg e]),ih]
      by_cases h1:k≤i
      · rw [if_pos h1,if_pos qf]
      · rw [if_neg h1,if_neg qf]
theorem single_isCh {s:qI} {t:qP} (hs:zQ s) (ht:xI s t) {i:Nat} (hi:i < s.qB.length):IsCh s t (single s i)↔Appl s t i:=by
  constructor
  · intro h
    apply Classical.byContradiction
    intro hn
    exact h.1 i (by rw [single_len];exact hi) ⟨by rw [single_get hi hi,if_pos rfl];omega,hn⟩
  · intro ha
    constructor
    · intro j hj
      rw [single_len] at hj
      rintro ⟨h1,h2⟩
      rw [single_get hi hj] at h1
      by_cases e:j=i
      · subst e;exact h2 ha
      · rw [if_neg e] at h1;omega
    · rw [single_len,single_rest hs ht hi _ (Nat.le_refl _),if_neg qf]
      have hr:=hs.rule hi
      have hb:=hr.2.2.2.2.1
      have hbox:=ht.box
      intro p hp k hk
      rw [ht.2.1] at hp
      rw [getset (by rw [ht.2.1];exact hr.cell)] at hk ⊢
      by_cases e:p=(s.qB[i]!).qN.toNat
      · rw [if_pos e] at hk ⊢
        rw [Qy] at hk
        rw [VT hk]
        have h1:=within_iff.1 ha.1.2.1 k (by rw [hb.len,← (hbox.2 _ hr.cell).1];exact hk)
        omega
      · rw [if_neg e] at hk ⊢
        have:=hbox.2 p hp
        exact (this.2 k (by rw [← this.1];exact hk)).1
open Classical in
noncomputable def ja (s:qI) (t:qP) (i:Int):qP×Int:=
  if ¬ (zQ s∧xI s t) then (default,1) else if ¬ (0≤i∧i≤(s.qB.length:Int) - 1) then (default,2) else zl s t (single s i.toNat)
theorem one_1 {s:qI} {t:qP} {i:Int} (h:¬ (zQ s∧xI s t)):ja s t i=(default,1):=by rw [ja,if_pos h]
theorem one_2 {s:qI} {t:qP} {i:Int} (h:zQ s∧xI s t) (h1:¬ (0≤i∧i≤(s.qB.length:Int) - 1)):ja s t i=(default,2):=by rw [ja,if_neg (by simpa using h),if_pos h1]
theorem one_0 {s:qI} {t:qP} {i:Int} (h:zQ s∧xI s t) (h1:0≤i∧i≤(s.qB.length:Int) - 1):ja s t i=zl s t (single s i.toNat):=by rw [ja,if_neg (by simpa using h),if_neg (by simpa using h1)]
theorem one_4 {s:qI} {t:qP} {i:Int} (h:zQ s∧xI s t) (h1:0≤i∧i≤(s.qB.length:Int) - 1) (h2:¬ i∈appls s t):ja s t i=(default,4):=by
  rw [one_0 h h1,stepBy_no fun hc=>h2 ((mem_applsI h1.1 qf).2 ((single_isCh h.1 h.2 qf).1 hc))]
theorem most_of {s:qI} {t:qP} {P:Nat→Prop} (h:∀ q,q < (appls s t).length→P ((appls s t)[q]!).toNat):∀ i,i < s.qB.length→Appl s t i→P i:=by
  intro i hi ha
  obtain ⟨q,hq,e⟩:=List.mem_iff_getElem.1 ((mem_appls hi).2 ha)
  have:=h q hq
  rwa [getElem!_pos _ q hq,e] at this
def MostTo (s:qI) (t:qP) (counts:yLI) (k:Nat):Prop:=∀ i,i < k→Appl s t i→within (s.qB[i]!).xR ((yP s t counts counts.length)[(s.qB[i]!).qN.toNat]!)=false
theorem MostTo.succ {s:qI} {t:qP} {counts:yLI} {k:Nat} (h:MostTo s t counts k) (h1:Appl s t k→within (s.qB[k]!).xR ((yP s t counts counts.length)[(s.qB[k]!).qN.toNat]!)=false):MostTo s t counts (k+1):=fun j hj=>by
  by_cases e:j=k
  · subst e;exact h1
  · exact h j qf
def MostL (s:qI) (t:qP) (counts:yLI) (k:Nat):Prop:=∀ q,q < k→within (s.qB[((appls s t)[q]!).toNat]!).xR ((yP s t counts counts.length)[(s.qB[((appls s t)[q]!).toNat]!).qN.toNat]!)=false
theorem MostL.succ {s:qI} {t:qP} {counts:yLI} {k:Nat} (h:MostL s t counts k) (h1:within (s.qB[((appls s t)[k]!).toNat]!).xR ((yP s t counts counts.length)[(s.qB[((appls s t)[k]!).toNat]!).qN.toNat]!)=false):MostL s t counts (k+1):=fun j hj=>by
  by_cases e:j=k
  · subst e;exact h1
  · exact h j qf
theorem MostL.most {s:qI} {t:qP} {counts:yLI} (h:MostL s t counts (appls s t).length) (hc:IsCh s t counts):IsMost s t counts:=
  ⟨hc,most_of (P:=fun i=>within (s.qB[i]!).xR ((yP s t counts counts.length)[(s.qB[i]!).qN.toNat]!)=false) h⟩
def AllCnt (s:qI) (ch:yLL) (k:Nat):Prop:=∀ j,j < k→XZ s (ch[j]!)
theorem AllCnt.succ {s:qI} {ch:yLL} {k:Nat} (h:AllCnt s ch k) (h1:XZ s (ch[k]!)):AllCnt s ch (k+1):=fun j hj=>by
  by_cases e:j=k
  · subst e;exact h1
  · exact h j qf
theorem state_eq {a b:qP} (h1:a.qG=b.qG) (h2:a.qH=b.qH) (h3:a.qF=b.qF):a=b:=by
  cases a;cases b;simp only at h1 h2 h3;subst h1 h2 h3;rfl
open Classical in
noncomputable def yE (s:qI) (t:qP) (cs:yLL):Nat→List qP
  | 0=>[]
  | k+1=>if (zl s t (cs[k]!)).1∈yE s t cs k then yE s t cs k else yE s t cs k++[(zl s t (cs[k]!)).1]
theorem nextTo_in {s:qI} {t:qP} {cs:yLL} {k:Nat} (h:(zl s t (cs[k]!)).1∈yE s t cs k):yE s t cs k=yE s t cs (k+1):=by rw [yE,if_pos h]
theorem nextTo_new {s:qI} {t:qP} {cs:yLL} {k:Nat} (h:¬ (zl s t (cs[k]!)).1∈yE s t cs k):yE s t cs k++[(zl s t (cs[k]!)).1]=yE s t cs (k+1):=by rw [yE,if_neg h]
theorem nextTo_len {s:qI} {t:qP} {cs:yLL}:∀ k,(yE s t cs k).length≤k
  | 0=>by simp [yE]
  | k+1=>by
    have:=nextTo_len (s:=s) (t:=t) (cs:=cs) k
    rw [yE]
    split
    · omega
    · simp;omega
theorem nextTo_few {s:qI} {t:qP} {cs:yLL} (hs:yg s):∀ k u,u∈yE s t cs k→FewState u
  | 0,u,h=>by simp [yE] at h
  | k+1,u,h=>by
    rw [yE] at h
    split at h
    · exact nextTo_few hs k u h
    · rcases List.mem_append.1 h with h | h
      · exact nextTo_few hs k u h
      · obtain rfl:=List.mem_singleton.1 h;exact few_stepBy hs
def CodeBad (s:qI) (t:qP) (cs:yLL) (k:Nat):Prop:=(zl s t (cs[k]!)).2≠0
def NoBad (s:qI) (t:qP) (cs:yLL) (k:Nat):Prop:=∀ j,j < k→¬ CodeBad s t cs j
theorem NoBad.succ {s:qI} {t:qP} {cs:yLL} {k:Nat} (h:NoBad s t cs k) (h1:(zl s t (cs[k]!)).2=0):NoBad s t cs (k+1):=fun j hj=>by
  by_cases e:j=k
  · subst e;exact fun x=>x h1
  · exact h j qf
open Classical in
noncomputable def yK (s:qI) (t:qP) (cs:yLL):List qP×Int:=
  if NoBad s t cs cs.length then (yE s t cs cs.length,0) else ([],(zl s t (cs[QV (CodeBad s t cs) cs.length]!)).2)
theorem next_ok {s:qI} {t:qP} {cs:yLL} (h:NoBad s t cs cs.length):yK s t cs=(yE s t cs cs.length,0):=by rw [yK,if_pos h]
theorem next_bad {s:qI} {t:qP} {cs:yLL} {k:Nat} (h:NoBad s t cs k) (hk:k < cs.length) (h1:(zl s t (cs[k]!)).2≠0):yK s t cs=([],(zl s t (cs[k]!)).2):=by
  rw [yK,if_neg (fun x=>x k hk h1),stop_first h hk h1]
theorem find_mem {l:List qP} {u:qP}:firstIdx (fun k=>decide (l[k]! =u)) l.length < 0↔¬ u∈l:=by
  have h:=anyTo_first (fun k=>decide (l[k]! =u)) l.length
  constructor
  · intro h1 hm
    obtain ⟨k,hk,e⟩:=List.mem_iff_getElem.1 hm
    have:anyTo (fun k=>decide (l[k]! =u)) l.length=true:=anyTo_iff.2 ⟨k,hk,by rw [getElem!_pos l k hk];simpa using e⟩
    rw [this] at h
    have:=of_decide_eq_true h
    omega
  · intro hm
    apply Classical.byContradiction
    intro h1
    rw [decide_eq_true qf] at h
    obtain ⟨k,hk,e⟩:=anyTo_iff.1 h.symm
    rw [getElem!_pos l k hk] at e
    exact hm ((of_decide_eq_true e)▸List.getElem_mem hk)
theorem mem_at {l:List qP} {u:qP} {k:Nat} (hk:k < l.length) (h:l[k]! =u):u∈l:=by
  rw [getElem!_pos l k hk] at h;rw [← h];exact List.getElem_mem hk
def NotIn (l:List qP) (u:qP) (k:Nat):Prop:=∀ j,j < k→l[j]! ≠u
theorem NotIn.succ {l:List qP} {u:qP} {k:Nat} (h:NotIn l u k) (h1:l[k]! ≠u):NotIn l u (k+1):=fun j hj=>by
  by_cases e:j=k
  · subst e;exact h1
  · exact h j qf
theorem NotIn.out {l:List qP} {u:qP} (h:NotIn l u l.length):¬ u∈l:=fun hm=>by
  obtain ⟨k,hk,e⟩:=List.mem_iff_getElem.1 hm
  exact h k hk (by rw [getElem!_pos l k hk];exact e)
def vU (s:qI) (l:yLI):yLL:=l.map fun i=>single s i.toNat
theorem Vg (s:qI) (l:yLI):(vU s l).length=l.length:=by simp [vU]
theorem singles_get {s:qI} {l:yLI} {k:Nat} (h:k < l.length):(vU s l)[k]! =single s (l[k]!).toNat:=by
  rw [getElem!_pos _ k (by rw [Vg];exact h),getElem!_pos l k h];simp [vU]
theorem singles_snoc (s:qI) (l:yLI) (x:Int):vU s l++[single s x.toNat]=vU s (l++[x]):=by simp [vU]
theorem singles_take {s:qI} {l:yLI} {k:Nat} (h:k < l.length):vU s (l.take k)++[single s (l[k]!).toNat]=vU s (l.take (k+1)):=by rw [singles_snoc,take_snoc h]
theorem appls_single {s:qI} {t:qP} {k:Nat} (h:k < (appls s t).length):0≤(appls s t)[k]! ∧((appls s t)[k]!).toNat < s.qB.length∧Appl s t ((appls s t)[k]!).toNat:=by
  have h:(appls s t)[k]! ∈appls s t:=by rw [getElem!_pos _ k h];exact List.getElem_mem h
  exact mem_applL.1 h
theorem singles_cnt {s:qI} {t:qP} {k:Nat} (h:k < (vU s (appls s t)).length):XZ s ((vU s (appls s t))[k]!):=by
  rw [Vg] at h
  rw [singles_get h]
  exact single_cnt (appls_single h).2.1
theorem singles_isCh {s:qI} {t:qP} (hs:zQ s) (ht:xI s t) {k:Nat} (h:k < (vU s (appls s t)).length):IsCh s t ((vU s (appls s t))[k]!):=by
  rw [Vg] at h
  rw [singles_get h]
  exact (single_isCh hs ht (appls_single h).2.1).2 (appls_single h).2.2
open Classical in
noncomputable def yQ (s:qI) (t:qP):List qP×Int:=if ¬ (zQ s∧xI s t) then ([],1) else yK s t (vU s (appls s t))
theorem ns_1 {s:qI} {t:qP} (h:¬ (zQ s∧xI s t)):yQ s t=([],1):=by rw [yQ,if_pos h]
theorem ns_0 {s:qI} {t:qP} (h:zQ s∧xI s t):yQ s t=yK s t (vU s (appls s t)):=by rw [yQ,if_neg (by simpa using h)]
def StillTo (s:qI) (k:Nat):Prop:=∀ i,i < k→(s.qB[i]!).vF=false
theorem StillTo.succ {s:qI} {k:Nat} (h:StillTo s k) (h1:(s.qB[k]!).vF=false):StillTo s (k+1):=fun j hj=>by
  by_cases e:j=k
  · subst e;exact h1
  · exact h j qf
abbrev Still (s:qI):Prop:=StillTo s s.qB.length
def WholeTo (t:qP) (k:Nat):Prop:=∀ c,c < k→t.qG[c]! =true
theorem WholeTo.succ {t:qP} {k:Nat} (h:WholeTo t k) (h1:t.qG[k]! =true):WholeTo t (k+1):=fun j hj=>by
  by_cases e:j=k
  · subst e;exact h1
  · exact h j qf
abbrev Whole (t:qP):Prop:=WholeTo t t.qG.length
def putsOf (s:qI) (t:qP) (counts:yLI) (cell:Int):Nat→Nat→Nat→Int
  | 0,_,_=>0
  | i+1,p,q=>putsOf s t counts cell i p q+if (s.qB[i]!).qN=cell then putF s t (s.qB[i]!) (counts[i]!) p q else 0
def TookOk (s:qI) (l:yLI) (i:Nat):Prop:=l.length=zI s∧∀ q,q < zI s→ -(1000000 * (i:Int))≤l[q]! ∧l[q]! ≤1000000 * (i:Int)
theorem TookOk.zero (s:qI):TookOk s (List.replicate s.xh.toNat 0) 0:=by
  refine ⟨by simp [zI],fun k hk=>?_⟩
  rw [getElem!_pos (List.replicate s.xh.toNat (0:Int)) k (by simpa [zI] using hk)];simp
theorem TookOk.keep {s:qI} {l:yLI} {i:Nat} (h:TookOk s l i):TookOk s l (i+1):=⟨h.1,fun q hq=>by have:=h.2 q hq;omega⟩
theorem TookOk.plus {s:qI} {l m:yLI} {i:Nat} {n:Int} (h:TookOk s l i) (hm:vS s.xh m) (hn: -1000≤n∧n≤1000):TookOk s (vZ l m n) (i+1):=by
  refine ⟨by rw [Qy];exact h.1,fun q hq=>?_⟩
  rw [VT (by rw [h.1];exact hq)]
  have:=h.2 q hq
  have:=hm.mul hn q hq
  omega
theorem TookOk.mid {s:qI} {l:yLI} {i:Nat} (h:TookOk s l i) (hi:i≤16) (hk:zI s≤8):l.length=zI s∧Mid l:=by
  refine ⟨h.1,by have:=h.1;omega,fun q hq=>?_⟩
  have:=h.2 q (by have:=h.1;omega)
  omega
def AllBags (b:yLL) (k:Nat):Prop:=∀ j,j < k→Xt (b[j]!)
theorem AllBags.succ {b:yLL} {k:Nat} (h:AllBags b k) (h1:Xt (b[k]!)):AllBags b (k+1):=fun j hj=>by
  by_cases e:j=k
  · subst e;exact h1
  · exact h j qf
def putsL (s:qI) (t:qP) (counts:yLI) (cell:Int):yLL:=tab2 (xP s+1) (zI s) (putsOf s t counts cell s.qB.length)
open Classical in
noncomputable def putsRes (s:qI) (t:qP) (cell:Int):yLL×Int:=
  if ¬ (zQ s∧Still s∧xI s t∧Whole t) then ([],1) else if ¬ CellIn s cell then ([],2) else if AllBags (putsL s t (y9 s t) cell) (putsL s t (y9 s t) cell).length then (putsL s t (y9 s t) cell,0) else ([],3)
theorem puts_0 {s:qI} {t:qP} {cell:Int} {b:yLL} (h:zQ s∧Still s∧xI s t∧Whole t) (h1:CellIn s cell) (e:b=putsL s t (y9 s t) cell) (h2:AllBags b b.length):putsRes s t cell=(b,0):=by
  subst e;rw [putsRes,if_neg (fun x=>x h),if_neg (fun x=>x h1),if_pos h2]
end
section
open Go.RowKit
set_option linter.unusedVariables false
set_option linter.unusedSimpArgs false
instance:qX UInt8 where
  size:=1
  rep:=fun _ F cs x=>F=[]∧cs=[.int .u8 (x.toNat:Int)]
  len:=by rintro w F cs x ⟨_,rfl⟩;rfl
  one:=by rintro w F cs x ⟨_,rfl⟩ u hu;simp only [List.mem_singleton] at hu;subst hu;rfl
  stay:=by rintro w w' F cs x h _;exact h
  lt:=by rintro w F cs x ⟨rfl,_⟩ b hb;simp at hb

section
variable {P : Program} {ops : Array Oper} {Q : Exit → Act → World → Prop} {n : Nat} {ρ : Env} {W0 w : World} {rest : List Oper} {ps : List Prv} {Γ : List Fact}
  {d:Nat} {ty:TypeId} {pos:String} {af:Array Edge} {K:Env→World→Prop}
theorem St.elemByte (H:St W0 w ps Γ) (i:Nat) {fr:Bool} {F:yLN} {b o m c:Nat} {l:List UInt8} (hf:Γ[i]? =some (isF fr F (Sv (some ⟨b,o,none⟩) m c) l)) (iv:Int) (k:Nat) (hk:iv.toNat=k) (h0:0≤iv) (h1:iv < l.length):
    w.cell? ⟨b,o+iv.toNat * 1,none⟩=some (.int .u8 (((l[k]!).toNat:Nat):Int)):=by
  obtain ⟨cs,Fk,hc,hr,_⟩:=H.elem i hf iv h0 h1
  rw [hk] at hr
  obtain ⟨_,rfl⟩:=hr
  have:=hc 0 _ rfl
  simpa [qX.size] using this
theorem byte_lt (x:UInt8):((x.toNat:Nat):Int)≤255:=by have:=x.toNat_lt;omega
theorem o_mulU {x y:Operand} {t u:TypeId} (a b:Int) (hx:ev n ρ x=.int .u64 a) (hy:ev n ρ y=.int .u64 b) (k:∀ r,K (upd ρ d (.int .u64 r)) w):OW P Q ⟨some d,.binOp .mul t x y u,ty,pos,af,none⟩ n ρ w K:=
  X7 (.int .u64 (IntKind.u64.wrap (a * b))) (by simp [execOp,hx,hy,eqGuard,binOp,Op.intArith]) (k _)
theorem o_addU {x y:Operand} {t u:TypeId} (a b:Int) (hx:ev n ρ x=.int .u64 a) (hy:ev n ρ y=.int .u64 b) (k:∀ r,K (upd ρ d (.int .u64 r)) w):OW P Q ⟨some d,.binOp .add t x y u,ty,pos,af,none⟩ n ρ w K:=
  X7 (.int .u64 (IntKind.u64.wrap (a+b))) (by simp [execOp,hx,hy,eqGuard,binOp,Op.intArith]) (k _)
theorem o_shrU {x y:Operand} {t u:TypeId} (a b:Int) (h:0≤b) (hx:ev n ρ x=.int .u64 a) (hy:ev n ρ y=.int .u64 b) (k:∀ r,K (upd ρ d (.int .u64 r)) w):OW P Q ⟨some d,.binOp .shr t x y u,ty,pos,af,none⟩ n ρ w K:=
  X7 (.int .u64 (a.fdiv (2 ^ (min b.toNat IntKind.u64.bits)))) (by simp [execOp,hx,hy,eqGuard,binOp,Op.shift,show ¬ b < 0 by omega]) (k _)
theorem and_bd (a:Int):0≤IntKind.u64.wrap ((BitVec.ofInt IntKind.u64.bits a &&& BitVec.ofInt IntKind.u64.bits 255).toNat:Int)∧IntKind.u64.wrap ((BitVec.ofInt IntKind.u64.bits a &&& BitVec.ofInt IntKind.u64.bits 255).toNat:Int)≤255:=by
  have b6:IntKind.u64.bits=64:=rfl
  have s6:IntKind.u64.signed=false:=rfl
  have h:(BitVec.ofInt IntKind.u64.bits a &&& BitVec.ofInt IntKind.u64.bits 255).toNat≤255:=by
    rw [BitVec.toNat_and]
    exact Nat.le_trans Nat.and_le_right qj
  generalize (BitVec.ofInt IntKind.u64.bits a &&& BitVec.ofInt IntKind.u64.bits 255).toNat=m at h ⊢
  simp only [IntKind.wrap,b6,s6,Bool.false_and,Bool.false_eq_true,if_false]
  omega
theorem o_andU {x y:Operand} {t u:TypeId} (a:Int) (hx:ev n ρ x=.int .u64 a) (hy:ev n ρ y=.int .u64 255) (k:∀ r,0≤r∧r≤255→K (upd ρ d (.int .u64 r)) w):OW P Q ⟨some d,.binOp .and t x y u,ty,pos,af,none⟩ n ρ w K:=
  X7 (.int .u64 (IntKind.u64.wrap ((BitVec.ofInt IntKind.u64.bits a &&& BitVec.ofInt IntKind.u64.bits 255).toNat:Int))) (by simp [execOp,hx,hy,eqGuard,binOp,Op.intBits]) (k _ (and_bd a))
theorem o_conv {x:Operand} {s t:TypeId} {ds:TypeDesc} {k k' :IntKind} (a:Int) (hs:P.underlying s=some ds) (ht:P.underlying t=some (.int k')) (hx:ev n ρ x=.int k a) (h:K (upd ρ d (.int k' (k'.wrap a))) w):
    OW P Q ⟨some d,.convert s t x,ty,pos,af,none⟩ n ρ w K:=
  X7 _ (by simp [execOp,hx,convert,run_underlying hs,run_underlying ht,Conv.intToInt]) h
theorem o_convI {x:Operand} {s t:TypeId} {ds:TypeDesc} {k:IntKind} (a:Int) (hs:P.underlying s=some ds) (ht:P.underlying t=some (.int .i64)) (hx:ev n ρ x=.int k a) (h0:0≤a∧a≤255) (h:K (upd ρ d (.int .i64 a)) w):
    OW P Q ⟨some d,.convert s t x,ty,pos,af,none⟩ n ρ w K:=by
  refine o_conv a hs ht hx ?_
  rw [wrap_in qf]
  exact h
theorem o_convU {x:Operand} {s t:TypeId} {ds:TypeDesc} {k:IntKind} (a:Int) (hs:P.underlying s=some ds) (ht:P.underlying t=some (.int .u64)) (hx:ev n ρ x=.int k a) (h:∀ r,K (upd ρ d (.int .u64 r)) w):
    OW P Q ⟨some d,.convert s t x,ty,pos,af,none⟩ n ρ w K:=o_conv a hs ht hx (h _)
end
section
variable {P : Program} {n : Nat} {ρ : Env} {W0 w : World} {ps : List Prv} {Γ : List Fact}
theorem retCC {fn:Func} {R:Ending→World→Prop} {t u T U b c:Nat} {cs ds:List Value} {tb tc:TypeId} (H:St W0 w ps Γ) (i:Nat) (hp:ps[i]? =some (.box b cs tb)) (j:Nat) (hq:ps[j]? =some (.box c ds tc)) (hr:fn.results=#[.cell t T,.cell u U])
    (ha:∀ w,(isAgg T).run P w=.ok true w) (hs:∀ w,(Go.sizeOf T).run P w=.ok cs.length w) (ha' :∀ w,(isAgg U).run P w=.ok true w) (hs' :∀ w,(Go.sizeOf U).run P w=.ok ds.length w)
    (hv:ev n ρ (.tmp t)=.pointer (some ⟨b,0,none⟩)) (hx:ev n ρ (.tmp u)=.pointer (some ⟨c,0,none⟩)) (h:R (.returned (.tuple #[.agg cs.toArray,.agg ds.toArray])) w):bodyPost P fn R .ret (mk n ρ) w:=by
  have hl:=run_loadCells_list (P:=P) w ⟨b,0,none⟩ cs (fun j v hv=>by rw [Addr.add_mid];exact H.cells i hp j v hv)
  have hl' :=run_loadCells_list (P:=P) w ⟨c,0,none⟩ ds (fun k v hv=>by rw [Addr.add_mid];exact H.cells j hq k v hv)
  have e:=congrFun (X8 n ρ) (.tmp t)
  have e' :=congrFun (X8 n ρ) (.tmp u)
  simp only [Act.eval,Array.getD_eq_getD_getElem?] at e e'
  rw [hv] at e
  rw [hx] at e'
  exact bodyPost_ret (v:=.tuple #[.agg cs.toArray,.agg ds.toArray]) (by simp [results,hr,e,e',asAddr,loadVar,ha,hs,hl,ha',hs',hl']) rfl h
end
end
section

def jf (kk M:Int) (l:yLI):Prop:=l.length=kk.toNat∧∀ j,j < l.length→0≤l[j]! ∧l[j]! ≤M
theorem jf.len {kk M:Int} {l:yLI} (h:jf kk M l) (h0:0≤kk):(l.length:Int)=kk:=by have:=h.1;omega
theorem jf.zero {kk M:Int} (h0:0≤kk) (hM:0≤M):jf kk M (List.replicate kk.toNat 0):=⟨by simp,fun j hj=>by
  have hj' :j < kk.toNat:=by simpa using hj
  rw [getElem!_pos (List.replicate kk.toNat (0:Int)) j hj,List.getElem_replicate]
  omega⟩
theorem jf.mono {kk M M' :Int} {l:yLI} (h:jf kk M l) (hM:M≤M'):jf kk M' l:=⟨h.1,fun j hj=>by have:=h.2 j hj;omega⟩
theorem jf.put {kk M:Int} {l:yLI} {v:Int} {i:Nat} (h:jf kk M l) (h0:0≤v∧v≤M):jf kk M (l.set i v):=⟨by rw [List.length_set];exact h.1,fun j hj=>by
  rw [List.length_set] at hj
  rw [getElem!_pos (l.set i v) j (by rw [List.length_set];exact hj),List.getElem_set]
  split
  · exact h0
  · have:=h.2 j hj
    rwa [getElem!_pos l j hj] at this⟩
theorem jf.up {kk M M' :Int} {l:yLI} {i:Nat} (h:jf kk M l) (hi:i < l.length) (hM:M+1≤M'):jf kk M' (l.set i (l[i]! +1)):=
  (h.mono (by omega:M≤M')).put (by have:=h.2 i hi;omega)
theorem jf.ok {kk M:Int} {l:yLI} (h:jf kk M l) (hk:1≤kk∧kk≤8) (hM:M≤1000):vS kk l:=
  ⟨⟨fun j hj=>by have:=h.2 j hj;omega,by have:=h.len qf;omega,by have:=h.len qf;omega⟩,h.len qf⟩
theorem jf.small {kk M:Int} {l:yLI} (h:jf kk M l) (hk:1≤kk∧kk≤8) (hM:M≤1000):Small l:=vz (h.ok hk hM)
theorem sumTo_up {l:yLI} (h:∀ j,j < l.length→0≤l[j]!):∀ k,k≤l.length→0≤sumTo l k∧∀ i,i < k→l[i]! ≤sumTo l k
  | 0,_=>⟨Int.le_refl _,fun i hi=>by omega⟩
  | k+1,hk=>by
    obtain ⟨h1,h2⟩:=sumTo_up h k qf
    have h3:=h k qf
    refine ⟨by simp only [sumTo];omega,fun i hi=>?_⟩
    simp only [sumTo]
    rcases Nat.lt_or_eq_of_le (Nat.le_of_lt_succ hi) with h4 | h4
    · have:=h2 i h4;omega
    · subst h4;omega
theorem jf.one {kk M:Int} {l:yLI} {i:Nat} (h:jf kk M l) (hk:1≤kk∧kk≤8) (hM:1≤M) (hs:Xh l=0) (hi:i < l.length):Xh (l.set i 1)≠0:=by
  have h1:=h.put (i:=i) (v:=1) qf
  have h2:=(sumTo_up (l:=l.set i 1) (fun j hj=>(h1.2 j hj).1) _ (Nat.le_refl _)).2 i (by rw [List.length_set];exact hi)
  rw [getElem!_pos (l.set i 1) i (by rw [List.length_set];exact hi),List.getElem_set_self] at h2
  show sumTo _ _≠0
  omega

def IntoDr (kk:Int) (par:yLI) (cell:Int) (l:List IntoD) (c:Int):Prop:=
  ∀ j,j < l.length→(0≤(l[j]!).qN∧(l[j]!).qN < c)∧Lies par cell (l[j]!).qN∧jf kk 1 (l[j]!).QP∧Xh (l[j]!).QP≠0∧(0 < j→(l[j - 1]!).qN < (l[j]!).qN)
theorem IntoDr.nil (kk:Int) (par:yLI) (cell c:Int):IntoDr kk par cell [] c:=fun j hj=>by simp at hj
theorem IntoDr.mono {kk:Int} {par:yLI} {cell c c' :Int} {l:List IntoD} (h:IntoDr kk par cell l c) (hc:c≤c'):IntoDr kk par cell l c' :=fun j hj=>by
  obtain ⟨h1,h2⟩:=h j hj
  exact ⟨by omega,h2⟩
theorem Vu {α:Type} [Inhabited α] {l:List α} {x:α} {j:Nat}:(l++[x])[j]! =if j < l.length then l[j]! else if j=l.length then x else default:=by
  by_cases h:j < l.length
  · rw [if_pos h,getElem!_pos (l++[x]) j qy,getElem!_pos l j h,List.getElem_append_left h]
  · rw [if_neg h]
    by_cases h2:j=l.length
    · subst h2
      rw [if_pos rfl,getElem!_pos (l++[x]) l.length qm]
      simp
    · rw [if_neg h2,getElem!_neg (l++[x]) j qy]
theorem IntoDr.snoc {kk:Int} {par:yLI} {cell c:Int} {l:List IntoD} {b:yLI} (h:IntoDr kk par cell l c) (hc:0≤c) (hl:Lies par cell c) (hb:jf kk 1 b) (hs:Xh b≠0):IntoDr kk par cell (l++[⟨c,b⟩]) (c+1):=fun j hj=>by
  have hj' :j < l.length∨j=l.length:=by simp at hj;omega
  rcases hj' with hj' | hj'
  · obtain ⟨h1,h2,h3,h4,h5⟩:=h j hj'
    rw [Vu,if_pos hj',Vu,if_pos qf]
    exact ⟨by omega,h2,h3,h4,h5⟩
  · subst hj'
    rw [Vu,if_neg qf,if_pos rfl]
    refine ⟨⟨hc,by show c < c+1;omega⟩,hl,hb,hs,fun h0=>?_⟩
    rw [Vu,if_pos qf]
    exact (h (l.length - 1) qf).1.2
structure RuleDr (kk:Int) (par:yLI) (r:jL):Prop where
  cell:0≤r.qN∧r.qN < par.length
  rank:0≤r.vP∧r.vP≤2
  melts:¬ (r.vF=true∧r.qN=0)
  need:jf kk 2 r.xR∧Xh r.xR≠0
  hav:jf kk 1 r.zM
  lack:jf kk 1 r.zK
  here:jf kk 2 r.zH
  out:jf kk 2 r.jC
  many:r.qW.length≤3
  into:IntoDr kk par r.qN r.qW par.length
theorem RuleDr.ok {s:qI} {r:jL} (h:RuleDr s.xh s.qA r) (hk:1≤s.xh∧s.xh≤8):RuleOk s r:=
  ⟨⟨h.cell.1,by have:=h.cell.2;omega⟩,by have:=h.rank;omega,h.melts,h.many,h.need.1.ok hk qf,h.hav.ok hk qf,h.lack.ok hk qf,h.here.ok hk qf,h.out.ok hk qf,h.need.2,
    fun j hj=>by
      obtain ⟨h1,h2,h3,h4,h5⟩:=h.into j hj
      exact ⟨⟨h1.1,by omega⟩,h2,h3.ok hk qf,h4,h5⟩⟩
theorem ruleDr_of {kk:Int} {par:yLI} {cell rank:Int} {need hav lack here out:yLI} {into:List IntoD} {melts:Bool} (h1:0≤cell∧cell < (par.length:Int)) (h2:0≤rank∧rank≤2) (h3:melts=true→cell≠0)
    (h4:jf kk 2 need∧Xh need≠0) (h5:jf kk 1 hav) (h6:jf kk 1 lack) (h7:jf kk 2 here) (h8:jf kk 1 out) (h9:into.length≤3∧IntoDr kk par cell into par.length):RuleDr kk par ⟨cell,rank,need,hav,lack,here,out,into,melts⟩:=
  ⟨h1,h2,fun h=>h3 h.1 h.2,h4,h5,h6,h7,h8.mono qf,h9.1,h9.2⟩
def QU (kk:Int) (par:yLI) (l:List jL):Prop:=∀ j,j < l.length→RuleDr kk par (l[j]!)
theorem QU.nil (kk:Int) (par:yLI):QU kk par []:=fun j hj=>by simp at hj
theorem QU.snoc {kk:Int} {par:yLI} {l:List jL} {r:jL} (h:QU kk par l) (hr:RuleDr kk par r):QU kk par (l++[r]):=fun j hj=>by
  rw [Vu]
  by_cases h1:j < l.length
  · rw [if_pos h1];exact h j h1
  · rw [if_neg h1,if_pos (by simp at hj;omega)];exact hr
theorem QU.set {kk:Int} {par:yLI} {l:List jL} {r:jL} {i:Nat} (h:QU kk par l) (hr:RuleDr kk par r):QU kk par (l.set i r):=fun j hj=>by
  rw [List.length_set] at hj
  rw [getElem!_pos (l.set i r) j (by rw [List.length_set];exact hj),List.getElem_set]
  split
  · exact hr
  · have:=h j hj;rwa [getElem!_pos l j hj] at this
def ParDr (par:yLI):Prop:=1≤par.length∧par[0]! = -1∧∀ c,1≤c→c < par.length→0≤par[c]! ∧par[c]! ≤(c:Int) - 1
theorem ParDr.one:ParDr [-1]:=⟨by simp,rfl,fun c h1 h2=>by simp at h2;omega⟩
theorem ParDr.snoc {par:yLI} {v:Int} (h:ParDr par) (hv:0≤v∧v < par.length):ParDr (par++[v]):=by
  obtain ⟨h1,h2,h3⟩:=h
  refine ⟨by simp,by rw [Vu,if_pos qf];exact h2,fun c hc hl=>?_⟩
  rw [Vu]
  by_cases h4:c < par.length
  · rw [if_pos h4];exact h3 c hc h4
  · have h5:c=par.length:=by simp at hl;omega
    rw [if_neg h4,if_pos h5];omega
theorem frame_of {kk:Int} {par:yLI} {rules:List jL} (h:ParDr par) (hk:1≤kk∧kk≤3) (hl:par.length≤3):yg ⟨kk,par,rules⟩:=
  ⟨⟨hk.1,by show kk≤8;omega⟩,⟨h.1,by show par.length≤6;omega⟩,h.2.1,h.2.2⟩
structure SysDr (kk:Int) (par:yLI) (rules:List jL):Prop where
  kinds:1≤kk∧kk≤3
  cells:1≤par.length∧par.length≤3
  skin:par[0]! = -1
  up:∀ c,1≤c→c < par.length→0≤par[c]! ∧par[c]! ≤(c:Int) - 1
  few:rules.length≤5
  rules:QU kk par rules
theorem sysDr_of {kk:Int} {par:yLI} {rules:List jL} (h:ParDr par) (hk:1≤kk∧kk≤3) (hl:par.length≤3) (hr:rules.length≤5) (hd:QU kk par rules):SysDr kk par rules:=⟨hk,⟨h.1,hl⟩,h.2.1,h.2.2,hr,hd⟩
theorem SysDr.frame {kk:Int} {par:yLI} {rules:List jL} (h:SysDr kk par rules):yg ⟨kk,par,rules⟩:=by
  have h1:=h.kinds
  have h2:=h.cells
  exact ⟨⟨h1.1,by show kk≤8;omega⟩,⟨h2.1,by show par.length≤6;omega⟩,h.skin,h.up⟩
theorem SysDr.ok {kk:Int} {par:yLI} {rules:List jL} (h:SysDr kk par rules):zQ ⟨kk,par,rules⟩:=by
  have h1:=h.kinds
  have h3:=h.few
  refine ⟨h.frame,by show rules.length≤16;omega,fun j hj=>⟨(h.rules j hj).ok (s:=⟨kk,par,rules⟩) ⟨h1.1,by show kk≤8;omega⟩,?_⟩⟩
  have h4:=(ofCell_bd rules (rules[j]!).qN (j+1)).2
  have h5:j < rules.length:=hj
  show VH rules (rules[j]!).qN (j+1)≤8
  omega
structure StDr (kk:Int) (n:Nat) (M:Int) (alive:List Bool) (bags:yLL) (around:yLI):Prop where
  la:alive.length=n
  lb:bags.length=n
  skin:alive[0]! =true
  around:jf kk 2 around
  bags:∀ c,c < bags.length→jf kk M (bags[c]!)∧(alive[c]! =false→Xh (bags[c]!)≤0)
theorem StDr.ok {kk M:Int} {par:yLI} {rules:List jL} {alive:List Bool} {bags:yLL} {around:yLI} (h:StDr kk par.length M alive bags around) (hs:SysDr kk par rules) (hM:M≤1000):xI ⟨kk,par,rules⟩ ⟨alive,bags,around⟩:=by
  have h1:=hs.kinds
  exact ⟨h.la,h.lb,h.skin,h.around.ok ⟨h1.1,by omega⟩ qf,fun c hc=>⟨(h.bags c hc).1.ok ⟨h1.1,by show kk≤8;omega⟩ hM,(h.bags c hc).2⟩⟩
theorem sum_zeros (n:Nat):Xh (List.replicate n (0:Int))≤0:=by
  have:∀ k,k≤n→sumTo (List.replicate n (0:Int)) k=0:=fun k=>by
    induction k with
    | zero=>intro _;rfl
    | succ k ih=>
      intro hk
      rw [sumTo,ih qf,getElem!_pos (List.replicate n (0:Int)) k qy,List.getElem_replicate]
      rfl
  have h:=this (List.replicate n (0:Int)).length qm
  show sumTo _ _≤0
  omega
structure StTo (kk M:Int) (c:Nat) (alive:List Bool) (bags:yLL):Prop where
  la:alive.length=c
  lb:bags.length=c
  skin:0 < c→alive[0]! =true
  bags:∀ j,j < bags.length→jf kk M (bags[j]!)∧(alive[j]! =false→Xh (bags[j]!)≤0)
theorem StTo.nil (kk M:Int):StTo kk M 0 [] []:=⟨rfl,rfl,fun h=>by omega,fun j hj=>by simp at hj⟩
theorem StTo.snoc {kk M:Int} {c:Nat} {alive:List Bool} {bags:yLL} {a:Bool} {b:yLI} (h:StTo kk M c alive bags) (ha:c=0→a=true) (hb:jf kk M b) (hz:a=false→Xh b≤0):StTo kk M (c+1) (alive++[a]) (bags++[b]):=by
  have la:=h.la
  have lb:=h.lb
  refine ⟨by simp [la],by simp [lb],fun _=>?_,fun j hj=>?_⟩
  · rw [Vu]
    by_cases h0:0 < c
    · rw [if_pos qf];exact h.skin h0
    · rw [if_neg qf,if_pos qf];exact ha qf
  · rw [Vu,Vu]
    by_cases h1:j < c
    · rw [if_pos qf,if_pos qf];exact h.bags j qf
    · rw [if_neg qf,if_pos (by simp at hj;omega),if_neg qf,if_pos (by simp at hj;omega)];exact ⟨hb,hz⟩
end
section
open Go.RowKit
set_option linter.unusedVariables false
set_option linter.unusedSimpArgs false
theorem St.rowel_RuleD {W0 w:World} {ps:List Prv} {Γ:List Fact} (H:St W0 w ps Γ) (k:Nat) {b c:Nat} {e:TypeId} {nn:Nat} {xs:List Value} (hp:ps[k]? =some (.row (Sv (some ⟨b,0,none⟩) nn c) e 9 nn xs)) (j:Nat) {fr:Bool} {F:yLN} {l:List jL}
    (hf:Γ[j]? =some (xN fr F xs l)) {iv:Int} (i:Nat) (h:iv.toNat=i) (h1:i < nn):
    ∃ (aN:yOA) (cN:Nat) (FN:yLN) (aH:yOA) (cH:Nat) (FH:yLN) (aL:yOA) (cL:Nat) (FL:yLN) (aE:yOA) (cE:Nat) (FE:yLN) (aO:yOA) (cO:Nat) (FO:yLN) (aI:yOA) (cI:Nat) (FI:yLN),
      (∀ (q:Nat) (v:Value),([.int .i64 (l[i]!).qN,.int .i64 (l[i]!).vP,Sv aN ((l[i]!).xR.length) cN,Sv aH ((l[i]!).zM.length) cH,Sv aL ((l[i]!).zK.length) cL,Sv aE ((l[i]!).zH.length) cE,Sv aO ((l[i]!).jC.length) cO,Sv aI ((l[i]!).qW.length) cI,Bv (l[i]!).vF]:List Value)[q]? =some v→xs[0+iv.toNat * 9+q]? =some v)∧
      St W0 w ps (isF fr FN (Sv aN ((l[i]!).xR.length) cN) ((l[i]!).xR) :: isF fr FH (Sv aH ((l[i]!).zM.length) cH) ((l[i]!).zM) :: isF fr FL (Sv aL ((l[i]!).zK.length) cL) ((l[i]!).zK) ::
        isF fr FE (Sv aE ((l[i]!).zH.length) cE) ((l[i]!).zH) :: isF fr FO (Sv aO ((l[i]!).jC.length) cO) ((l[i]!).jC) :: isF fr FI (Sv aI ((l[i]!).qW.length) cI) ((l[i]!).qW) :: Γ):=by
  obtain ⟨cs,G,hc,hr,hsub,hfr,v1,v2,hv,hv1⟩:=St.rowElem (α:=jL) H k hp j hf qj h h1
  obtain ⟨vN,vH,vL,vE,vO,vI,FN,FH,FL,FE,FO,FI,rfl,hFF,hN,hH,hL,hE,hO,hI⟩:=id hr
  obtain ⟨aN,cN,rfl⟩:=slice_form hN
  obtain ⟨aH,cH,rfl⟩:=slice_form hH
  obtain ⟨aL,cL,rfl⟩:=slice_form hL
  obtain ⟨aE,cE,rfl⟩:=slice_form hE
  obtain ⟨aO,cO,rfl⟩:=slice_form hO
  obtain ⟨aI,cI,rfl⟩:=slice_form hI
  refine ⟨aN,cN,FN,aH,cH,FH,aL,cL,FL,aE,cE,FE,aO,cO,FO,aI,cI,FI,fun q v hq=>?_,?_⟩
  · have hv1:v1.length=i * 9:=hv1
    have hlt:q < 9:=by
      rcases Nat.lt_or_ge q 9 with h | h
      · exact h
      · rw [List.getElem?_eq_none (by simpa using h)] at hq;cases hq
    rw [hv,List.append_assoc,Nat.zero_add,h,← hv1,List.getElem?_append_right qf,Nat.add_sub_cancel_left,List.getElem?_append_left (by simpa using hlt)]
    exact hq
  · have hs:∀ {x:Nat} {X:yLN},x∈X→(∀ y∈X,y∈G)→x∈G:=fun h h' =>h' _ h
    have s6:=H.yL j hf (isF fr FI (Sv aI ((l[i]!).qW.length) cI) ((l[i]!).qW)) ⟨hI,fun e=>(hfr e).sub (by rw [hFF];intro x hx;simp [hx])⟩ (fun x hx=>hsub x (by rw [hFF];have hx:x∈FI:=hx;simp [hx]))
    have s5:=s6.yL (j+1) hf (isF fr FO (Sv aO ((l[i]!).jC.length) cO) ((l[i]!).jC)) ⟨hO,fun e=>(hfr e).sub (by rw [hFF];intro x hx;simp [hx])⟩ (fun x hx=>hsub x (by rw [hFF];have hx:x∈FO:=hx;simp [hx]))
    have s4:=s5.yL (j+2) hf (isF fr FE (Sv aE ((l[i]!).zH.length) cE) ((l[i]!).zH)) ⟨hE,fun e=>(hfr e).sub (by rw [hFF];intro x hx;simp [hx])⟩ (fun x hx=>hsub x (by rw [hFF];have hx:x∈FE:=hx;simp [hx]))
    have s3:=s4.yL (j+3) hf (isF fr FL (Sv aL ((l[i]!).zK.length) cL) ((l[i]!).zK)) ⟨hL,fun e=>(hfr e).sub (by rw [hFF];intro x hx;simp [hx])⟩ (fun x hx=>hsub x (by rw [hFF];have hx:x∈FL:=hx;simp [hx]))
    have s2:=s3.yL (j+4) hf (isF fr FH (Sv aH ((l[i]!).zM.length) cH) ((l[i]!).zM)) ⟨hH,fun e=>(hfr e).sub (by rw [hFF];intro x hx;simp [hx])⟩ (fun x hx=>hsub x (by rw [hFF];have hx:x∈FH:=hx;simp [hx]))
    exact s2.yL (j+5) hf (isF fr FN (Sv aN ((l[i]!).xR.length) cN) ((l[i]!).xR)) ⟨hN,fun e=>(hfr e).sub (by rw [hFF];intro x hx;simp [hx])⟩ (fun x hx=>hsub x (by rw [hFF];have hx:x∈FN:=hx;simp [hx]))

section
variable {P : Program} {ops : Array Oper} {Q : Exit → Act → World → Prop} {n : Nat} {ρ : Env} {W0 w : World} {rest : List Oper} {ps : List Prv} {Γ : List Fact}
  {d:Nat} {ty:TypeId} {pos:String} {af:Array Edge} {K:Env→World→Prop}
end

theorem reps_part {α:Type} [qX α] [Inhabited α] {w:World} {F G:yLN} {X:List Value} {l:List α} {v:Value} {f:α} (i q:Nat) (hi:i < l.length) (hq:q < qX.size α)
    (hr:∀ Fk ck,qX.rep w Fk ck (l[i]!)→∃ F',qX.rep w F' (ck.set q v) f∧∀ b∈F',b∈Fk∨b∈G) (h:reps w F X l):
    ∃ F',reps w F' (X.set (i * qX.size α+q) v) (l.set i f)∧∀ b∈F',b∈F∨b∈G:=by
  obtain ⟨F1,Fk,F2,v1,cs,v2,hF,hv,hl1,hlc,h1,h2,h3⟩:=reps_get h i hi
  obtain ⟨F',hr',hs⟩:=hr Fk cs (by rw [getElem!_pos l i hi];exact h1)
  refine ⟨F1++F' ++F2,?_,fun b hb=>?_⟩
  · rw [hv,← hl1,List.append_assoc v1,List.set_append_right _ _ qf,Nat.add_sub_cancel_left,List.set_append_left _ _ qf,List.set_eq_take_append_cons_drop (l:=l),if_pos hi,← List.append_assoc]
    have:=Qx (Qx h2 (reps_one hr')) h3
    simpa using this
  · simp only [List.mem_append] at hb
    rw [hF]
    rcases hb with (hb | hb) | hb
    · exact .inl (by simp [hb])
    · rcases hs b hb with h | h
      · exact .inl (by simp [h])
      · exact .inr h
    · exact .inl (by simp [hb])
section
variable {W0 w : World} {ps : List Prv} {Γ : List Fact}
theorem St.part {β:Type} [qX β] (H:St W0 w ps Γ) (j:Nat) {fr:Bool} {F:yLN} {X:List Value} {l:List jL} (hf:Γ[j]? =some (xN fr F X l)) (m:Nat) {fr' :Bool} {G:yLN} {v:Value} {z:β} (hg:Γ[m]? =some (isF fr' G v z))
    {iv:Int} (i:Nat) (hi:iv.toNat=i) (h1:i < l.length) (q:Nat) (hq:q < 9) (f:jL) (hr:∀ Fk ck,qX.rep w Fk ck (l[i]!)→∃ F',qX.rep w F' (ck.set q v) f∧∀ b∈F',b∈Fk∨b∈G):
    ∃ F',St W0 w ps (xN false F' (X.set (0+iv.toNat * 9+q) v) (l.set i f) :: Γ):=by
  subst hi
  obtain ⟨F',h2,h3⟩:=reps_part (α:=jL) iv.toNat q h1 hq hr (H.get j hf).1
  refine ⟨F',H.add _ ⟨by rw [Nat.zero_add];exact h2,by simp⟩ fun b hb=>?_⟩
  rcases h3 b hb with h | h
  · exact (H.facts _ (List.mem_of_getElem? hf)).2 b h
  · exact (H.facts _ (List.mem_of_getElem? hg)).2 b h
end

theorem QU.here {kk:Int} {par:yLI} {l:List jL} {i:Nat} {b:yLI} (h:QU kk par l) (hi:i < l.length) (hb:jf kk 2 b):QU kk par (l.set i { l[i]! with zH:=b }):=
  h.set (let r:=h i hi;⟨r.cell,r.rank,r.melts,r.need,r.hav,r.lack,hb,r.out,r.many,r.into⟩)
theorem QU.out {kk:Int} {par:yLI} {l:List jL} {i:Nat} {b:yLI} (h:QU kk par l) (hi:i < l.length) (hb:jf kk 2 b):QU kk par (l.set i { l[i]! with jC:=b }):=
  h.set (let r:=h i hi;⟨r.cell,r.rank,r.melts,r.need,r.hav,r.lack,r.here,hb,r.many,r.into⟩)
theorem QU.into {kk:Int} {par:yLI} {l:List jL} {i:Nat} (h:QU kk par l) (hi:i < l.length):QU kk par (l.set i { l[i]! with qW:=[]}):=
  h.set (let r:=h i hi;⟨r.cell,r.rank,r.melts,r.need,r.hav,r.lack,r.here,r.out,by simp,IntoDr.nil _ _ _ _⟩)
theorem QU.still {kk:Int} {par:yLI} {l:List jL} {i:Nat} (h:QU kk par l) (hi:i < l.length):QU kk par (l.set i { l[i]! with vF:=false }):=
  h.set (let r:=h i hi;⟨r.cell,r.rank,(fun e=>Bool.noConfusion e.1),r.need,r.hav,r.lack,r.here,r.out,r.many,r.into⟩)
theorem SysDr.with {kk:Int} {par:yLI} {rules rules' :List jL} (h:SysDr kk par rules) (h1:rules'.length≤5) (h2:QU kk par rules'):SysDr kk par rules' :=⟨h.kinds,h.cells,h.skin,h.up,h1,h2⟩
def HereTo (kk:Int) (k:Nat) (l:yLI):Prop:=jf kk 2 l∧∀ j,j < l.length→k≤j+1→l[j]! =0
theorem HereTo.zero {kk:Int} (h0:0≤kk):HereTo kk 1 (List.replicate kk.toNat 0):=⟨jf.zero h0 qf,fun j hj _=>by rw [getElem!_pos (List.replicate kk.toNat (0:Int)) j hj,List.getElem_replicate]⟩
theorem HereTo.go {kk:Int} {k:Nat} {l:yLI} (h:HereTo kk k l):HereTo kk (k+1) l:=⟨h.1,fun j hj hk=>h.2 j hj qf⟩
theorem HereTo.put {kk:Int} {k i:Nat} {l:yLI} {v:Int} (h:HereTo kk k l) (hi:i < l.length) (hk:i+1=k) (hv:0≤v∧v≤2):HereTo kk (k+1) (l.set i (l[i]! +v)):=by
  have h0:=h.2 i hi qf
  refine ⟨h.1.put qf,fun j hj hk' =>?_⟩
  rw [List.length_set] at hj
  rw [getElem!_pos (l.set i _) j (by rw [List.length_set];exact hj),List.getElem_set,if_neg qf]
  have:=h.2 j hj qf
  rwa [getElem!_pos l j hj] at this
end
section

theorem halt_eq {s:qI} {t:qP}:((((appls s t).length:Nat):Int) == 0)=dec (Halted s t):=by
  by_cases h:Halted s t
  · rw [yh h,XA.2 h];rfl
  · rw [xy h]
    have:(appls s t).length≠0:=fun e=>h (XA.1 e)
    simpa using this
theorem get_set {α:Type} [Inhabited α] (l:List α) (i j:Nat) (v:α) (hi:i < l.length):(l.set i v)[j]! =if i=j then v else l[j]! :=by
  by_cases hj:j < l.length
  · rw [getElem!_pos _ _ (by rw [List.length_set];exact hj),List.getElem_set,getElem!_pos l j hj]
  · rw [getElem!_neg _ _ (by rw [List.length_set];exact hj),getElem!_neg l j hj,if_neg qf]
theorem plusL_get {l m:yLI} {j:Nat} (h:j < l.length):(vZ l m 1)[j]! =l[j]! +m[j]! :=by
  rw [getElem!_pos _ _ (by rw [Qy];exact h)]
  simp [vZ,plusTo]
theorem rep_get (n j:Nat):(List.replicate n (0:Int))[j]! =0:=by
  by_cases h:j < n
  · rw [getElem!_pos _ _ (by simpa using h)];simp
  · rw [getElem!_neg _ _ (by simpa using h)];rfl

def kidIn (s:qI) (t:qP) (k:Int) (j:Nat):Bool:=t.qG[j]! && (xm s t j == k)
def kidsTo (s:qI) (t:qP) (k:Int) (n:Nat):yLI:=((List.range n).filter (kidIn s t k)).map fun j:Nat=>(j:Int)
section
variable {s : qI} {t : qP} {c : Int}
structure Xq (s:qI) (t:qP) (c:Int):Prop where
  frame:yg s
  state:xI s t
  cell:CellIn s c
  skin:c≠0
  alive:t.qG[c.toNat]! =true
theorem Xq.pos (h:Xq s t c):0 < c:=by have:=h.cell.1;have:=h.skin;omega
theorem Xq.par (h:Xq s t c):0≤xm s t c∧xm s t c < c∧t.qG[(xm s t c).toNat]! =true:=XD h.frame h.state.2.2.1 h.pos h.cell.2
theorem Xq.alive' (h:Xq s t c) (j:Nat):(melted s t c).qG[j]! =if c.toNat=j then false else t.qG[j]! :=by
  have:=h.cell;have:=h.state.1
  exact get_set _ _ _ _ qf
theorem Xq.bags' (h:Xq s t c) (j:Nat):(melted s t c).qH[j]! =if c.toNat=j then List.replicate s.xh.toNat 0 else if (xm s t c).toNat=j then vZ (t.qH[(xm s t c).toNat]!) (t.qH[c.toNat]!) 1 else t.qH[j]! :=by
  have:=h.cell;have:=h.state.2.1;have hp:=h.par
  show ((t.qH.set _ _).set _ _)[j]! =_
  rw [get_set _ _ _ _ (by rw [List.length_set];omega),get_set _ _ _ _ qf]
def Few5 (t:qP):Prop:=(∀ k,k < t.qH.length→∀ j,j < (t.qH[k]!).length→(t.qH[k]!)[j]! ≤5)∧∀ j,j < t.qF.length→t.qF[j]! ≤5
def allTo (t:qP):Nat→yLI
  | 0=>t.qF
  | k+1=>vZ (allTo t k) (t.qH[k]!) 1
theorem allTo_len (t:qP):∀ k,(allTo t k).length=t.qF.length
  | 0=>rfl
  | k+1=>by rw [allTo,Qy,allTo_len t k]
def colTo (t:qP) (j:Nat):Nat→Int
  | 0=>0
  | k+1=>colTo t j k+(t.qH[k]!)[j]!
theorem allTo_get (t:qP) {j:Nat} (hj:j < t.qF.length):∀ k,(allTo t k)[j]! =t.qF[j]! +colTo t j k
  | 0=>by simp [allTo,colTo]
  | k+1=>by
    rw [allTo,plusL_get (by rw [allTo_len];exact hj),allTo_get t hj k,colTo]
    omega
theorem Xq.lens (h:Xq s t c) {k:Nat} (hk:k < s.qA.length):(t.qH[k]!).length=s.xh.toNat:=by
  have:=(h.state.bagLen (k:=k) (by rw [h.state.2.1];exact hk)).2
  omega
theorem Xq.col (h:Xq s t c) {j:Nat} (hj:j < s.xh.toNat):∀ k,colTo (melted s t c) j k=colTo t j k+(if (xm s t c).toNat < k then (t.qH[c.toNat]!)[j]! else 0) - (if c.toNat < k then (t.qH[c.toNat]!)[j]! else 0)
  | 0=>by simp [colTo]
  | k+1=>by
    have hp:=h.par
    have hc:=h.cell
    rw [colTo,colTo,Xq.col h hj k,h.bags']
    by_cases e1:c.toNat=k
    · subst e1
      rw [if_pos rfl,rep_get,if_neg (show ¬ c.toNat < c.toNat by omega),if_pos (show c.toNat < c.toNat+1 by omega),if_pos (show (xm s t c).toNat < c.toNat by omega),if_pos (show (xm s t c).toNat < c.toNat+1 by omega)]
      omega
    · rw [if_neg e1]
      by_cases e2:(xm s t c).toNat=k
      · subst e2
        rw [if_pos rfl,plusL_get (by rw [h.lens qf];exact hj),if_neg (show ¬ (xm s t c).toNat < (xm s t c).toNat by omega),if_pos (show (xm s t c).toNat < (xm s t c).toNat+1 by omega),
          if_neg (show ¬ c.toNat < (xm s t c).toNat by omega),if_neg (show ¬ c.toNat < (xm s t c).toNat+1 by omega)]
        omega
      · rw [if_neg e2]
        have a1:((xm s t c).toNat < k+1)=((xm s t c).toNat < k):=by apply propext;omega
        have a2:(c.toNat < k+1)=(c.toNat < k):=by apply propext;omega
        simp only [a1,a2]
        omega
theorem Xq.total (h:Xq s t c):allTo (melted s t c) s.qA.length=allTo t s.qA.length:=by
  have hp:=h.par
  have hc:=h.cell
  have hl:(melted s t c).qF=t.qF:=rfl
  have hk:t.qF.length=s.xh.toNat:=by have:=h.state.2.2.2.1.2;omega
  apply List.ext_getElem
  · rw [allTo_len,allTo_len,hl]
  · intro j h1 h2
    rw [allTo_len] at h2
    rw [← getElem!_pos,← getElem!_pos,allTo_get _ (by rw [hl];exact h2),allTo_get _ h2,h.col qf,if_pos qf,if_pos qf,hl]
    omega
theorem Xq.ok (h:Xq s t c) (hf:Few5 t):xI s (melted s t c):=by
  have hp:=h.par
  have hc:=h.cell
  have ht:=h.state
  have e1:(melted s t c).qG.length=t.qG.length:=by simp [melted]
  have e2:(melted s t c).qH.length=t.qH.length:=by simp [melted]
  refine ⟨by rw [e1];exact ht.1,by rw [e2];exact ht.2.1,by rw [h.alive',if_neg (by have:=h.pos;omega)];exact ht.2.2.1,ht.2.2.2.1,fun k hk=>?_⟩
  rw [e2] at hk
  rw [h.bags',h.alive']
  have hkk:=ht.2.1
  by_cases g1:c.toNat=k
  · rw [if_pos g1,if_pos g1]
    have hK:=h.frame.1
    refine ⟨⟨⟨fun j hj=>by rw [rep_get];omega,by simp;omega,by simp;omega⟩,by simp;omega⟩,fun _=>?_⟩
    have hz:∀ n,sumTo (List.replicate s.xh.toNat 0) n=0:=by
      intro n
      induction n with
      | zero=>simp [sumTo]
      | succ n ih=>simp only [sumTo,ih,rep_get];omega
    unfold Xh
    rw [hz]
    omega
  · rw [if_neg g1,if_neg g1]
    by_cases g2:(xm s t c).toNat=k
    · rw [if_pos g2]
      subst g2
      have bp:=ht.bagLen hk
      have bc:=ht.bagLen (k:=c.toNat) qf
      refine ⟨⟨⟨fun j hj=>?_,by rw [Qy];exact bp.1.2.1,by rw [Qy];exact bp.1.2.2⟩,by rw [Qy];exact bp.2⟩,fun hd=>?_⟩
      · rw [Qy] at hj
        rw [plusL_get hj]
        have hj2:j < (t.qH[c.toNat]!).length:=by have:=bp.2;have:=bc.2;omega
        have a1:=bp.1.1 j hj
        have a2:=bc.1.1 j hj2
        have a3:=hf.1 _ hk j hj
        have a4:=hf.1 c.toNat qf j hj2
        omega
      · rw [hp.2.2] at hd;cases hd
    · rw [if_neg g2]
      exact ht.2.2.2.2 k hk
end
open Classical in
noncomputable def pnV (s:qI) (t:qP) (c:Int):Int:=if cellCodeOf s t c=0 then xm s t c else 0
open Classical in
noncomputable def kidsV (s:qI) (t:qP) (c:Int):yLI:=if cellCodeOf s t c=0 then kidsTo s t c s.qA.length else []
structure CanAdd (a b:yLI):Prop where
  one:Xt a
  two:Xt b
  len:a.length=b.length
  sum:Xt (vZ a b 1)
structure TreeAt (s:qI) (t:qP) (c:Int):Prop where
  code:(meltRes s t c).2=0
  cc:cellCodeOf s t c=0
  ok:zQ s∧xI s (meltRes s t c).1
  dead:(meltRes s t c).1.qG[c.toNat]! =false
  par:0≤pnV s t c∧pnV s t c < s.qA.length
  kids:∀ i,i < (kidsV s t c).length→cellCodeOf s (meltRes s t c).1 ((kidsV s t c)[i]!)=0∧pnV s (meltRes s t c).1 ((kidsV s t c)[i]!)=pnV s t c
  few:(kidsV s t c).length≤6
  total:allTo (meltRes s t c).1 s.qA.length=allTo t s.qA.length
  bag:Xt (allTo t s.qA.length)
  add:CanAdd (t.qH[(pnV s t c).toNat]!) (t.qH[c.toNat]!)
  sum:vZ (t.qH[(pnV s t c).toNat]!) (t.qH[c.toNat]!) 1=(meltRes s t c).1.qH[(pnV s t c).toNat]!
theorem mem_atI {l:yLI} {c:Int} {k:Nat} (hk:k < l.length) (h:l[k]! =c):c∈l:=by
  rw [← h,getElem!_pos l k hk];exact List.getElem_mem hk
theorem no_mem {l:yLI} {c:Int} {i:Nat} (h:∀ j,j < i→l[j]! ≠c) (hi:l.length≤i):¬ c∈l:=fun hm=>by
  obtain ⟨j,hj,e⟩:=List.mem_iff_getElem.1 hm
  exact h j qf (by rw [getElem!_pos l j hj];exact e)
theorem St.rowel_StateD {W0 w:World} {ps:List Prv} {Γ:List Fact} (H:St W0 w ps Γ) (k:Nat) {b c:Nat} {e:TypeId} {nn:Nat} {xs:List Value} (hp:ps[k]? =some (.row (Sv (some ⟨b,0,none⟩) nn c) e 3 nn xs)) (j:Nat) {fr:Bool} {F:yLN} {l:List qP}
    (hf:Γ[j]? =some (xN fr F xs l)) {iv:Int} (i:Nat) (h:iv.toNat=i) (h1:i < nn):
    ∃ (aA:yOA) (cA:Nat) (FA:yLN) (aB:yOA) (cB:Nat) (FB:yLN) (aO:yOA) (cO:Nat) (FO:yLN),
      (∀ (q:Nat) (v:Value),([Sv aA ((l[i]!).qG.length) cA,Sv aB ((l[i]!).qH.length) cB,Sv aO ((l[i]!).qF.length) cO]:List Value)[q]? =some v→xs[0+iv.toNat * 3+q]? =some v)∧
      St W0 w ps (isF fr FA (Sv aA ((l[i]!).qG.length) cA) ((l[i]!).qG) :: isF fr FB (Sv aB ((l[i]!).qH.length) cB) ((l[i]!).qH) :: isF fr FO (Sv aO ((l[i]!).qF.length) cO) ((l[i]!).qF) :: Γ):=by
  obtain ⟨cs,G,hc,hr,hsub,hfr,v1,v2,hv,hv1⟩:=St.rowElem (α:=qP) H k hp j hf qj h h1
  obtain ⟨vA,vB,vO,FA,FB,FO,rfl,hFF,hA,hB,hO⟩:=id hr
  obtain ⟨aA,cA,rfl⟩:=slice_form hA
  obtain ⟨aB,cB,rfl⟩:=slice_form hB
  obtain ⟨aO,cO,rfl⟩:=slice_form hO
  refine ⟨aA,cA,FA,aB,cB,FB,aO,cO,FO,fun q v hq=>?_,?_⟩
  · have hv1:v1.length=i * 3:=hv1
    have hlt:q < 3:=by
      rcases Nat.lt_or_ge q 3 with h | h
      · exact h
      · rw [List.getElem?_eq_none (by simpa using h)] at hq;cases hq
    rw [hv,List.append_assoc,Nat.zero_add,h,← hv1,List.getElem?_append_right qf,Nat.add_sub_cancel_left,List.getElem?_append_left (by simpa using hlt)]
    exact hq
  · have s3:=H.yL j hf (isF fr FO (Sv aO ((l[i]!).qF.length) cO) ((l[i]!).qF)) ⟨hO,fun e=>(hfr e).sub (by rw [hFF];intro x hx;simp [hx])⟩ (fun x hx=>hsub x (by rw [hFF];have hx:x∈FO:=hx;simp [hx]))
    have s2:=s3.yL (j+1) hf (isF fr FB (Sv aB ((l[i]!).qH.length) cB) ((l[i]!).qH)) ⟨hB,fun e=>(hfr e).sub (by rw [hFF];intro x hx;simp [hx])⟩ (fun x hx=>hsub x (by rw [hFF];have hx:x∈FB:=hx;simp [hx]))
    exact s2.yL (j+2) hf (isF fr FA (Sv aA ((l[i]!).qG.length) cA) ((l[i]!).qG)) ⟨hA,fun e=>(hfr e).sub (by rw [hFF];intro x hx;simp [hx])⟩ (fun x hx=>hsub x (by rw [hFF];have hx:x∈FA:=hx;simp [hx]))
def MildTo (l:List jL) (n:Nat):Prop:=∀ j,j < n→(l[j]!).vF=false
theorem MildTo.go {l:List jL} {i:Nat} (h:MildTo l i) (hi:i < l.length):MildTo (l.set i { l[i]! with vF:=false }) (i+1):=fun j hj=>by
  rw [getElem!_pos (l.set i _) j (by rw [List.length_set];omega),List.getElem_set]
  split
  · rfl
  · have:=h j qf
    rwa [getElem!_pos l j qf] at this
theorem MildTo.here {l:List jL} {i n:Nat} {b:yLI} (h:MildTo l n) (hi:i < l.length) (hn:n≤l.length):MildTo (l.set i { l[i]! with zH:=b }) n:=fun j hj=>by
  rw [getElem!_pos (l.set i _) j (by rw [List.length_set];omega),List.getElem_set]
  have h1:=h j hj
  split
  · rename_i e;subst e;exact h1
  · rwa [getElem!_pos l j qf] at h1
def OwnDr (n:Nat) (own:yLI):Prop:=
  own.length=n∧∃ m:Nat,1≤m∧m≤3∧m≤n∧(∀ j,j < own.length→0≤own[j]! ∧own[j]! < m)∧∀ q:Nat,q < m→∃ j,j < own.length∧own[j]! =q
def OwnTo (m:Int) (c:Nat) (own:yLI):Prop:=own.length=c∧∀ j,j < c→(0≤own[j]! ∧own[j]! < m)∧((j:Int) < m→own[j]! =j)
theorem OwnTo.nil (m:Int):OwnTo m 0 []:=⟨rfl,fun j hj=>by omega⟩
theorem OwnTo.snoc {m v:Int} {c:Nat} {own:yLI} (h:OwnTo m c own) (hv:0≤v∧v < m) (hc:(c:Int) < m→v=c):OwnTo m (c+1) (own++[v]):=by
  have hl:=h.1
  refine ⟨by simp [hl],fun j hj=>?_⟩
  rw [Vu]
  by_cases h1:j < c
  · rw [if_pos qf];exact h.2 j h1
  · have e:j=c:=by omega
    subst e
    rw [if_neg qf,if_pos qf]
    exact ⟨hv,hc⟩
theorem OwnTo.ok {m:Int} {n:Nat} {own:yLI} (h:OwnTo m n own) (hm:1≤m∧m≤3) (hn:m≤n):OwnDr n own:=by
  have hl:=h.1
  refine ⟨hl,m.toNat,by omega,by omega,by omega,fun j hj=>?_,fun q hq=>⟨q,by omega,?_⟩⟩
  · have:=(h.2 j qf).1;omega
  · exact (h.2 q qf).2 qf
def TurnTo (m:Int) (c:Nat) (own own' :yLI):Prop:=own'.length=own.length∧∀ j,j < own.length→own'[j]! =if j < c then m - 1 - own[j]! else own[j]!
theorem TurnTo.zero (m:Int) (own:yLI):TurnTo m 0 own own:=⟨rfl,fun j _=>by rw [if_neg qf]⟩
theorem TurnTo.at' {m:Int} {c:Nat} {own own' :yLI} (h:TurnTo m c own own') (hc:c < own.length):own'[c]! =own[c]! :=by rw [h.2 c hc,if_neg qf]
theorem TurnTo.go {m:Int} {c:Nat} {own own' :yLI} (h:TurnTo m c own own') (hc:c < own.length):TurnTo m (c+1) own (own'.set c (m - 1 - own'[c]!)):=by
  have hl:=h.1
  refine ⟨by rw [List.length_set];exact hl,fun j hj=>?_⟩
  rw [getElem!_pos (own'.set c _) j (by rw [List.length_set];omega),List.getElem_set]
  by_cases e:c=j
  · subst e;rw [if_pos rfl,if_pos qf,h.at' hc]
  · have h1:=h.2 j hj
    rw [getElem!_pos own' j qf] at h1
    rw [if_neg e,h1]
    by_cases h2:j < c
    · rw [if_pos h2,if_pos qf]
    · rw [if_neg h2,if_neg qf]
theorem TurnTo.ok {m:Int} {n:Nat} {own own' :yLI} (t:TurnTo m n own own') (h:OwnTo m n own) (hm:1≤m∧m≤3) (hn:m≤n):OwnDr n own' :=by
  have hl:=h.1
  have tl:=t.1
  refine ⟨by omega,m.toNat,by omega,by omega,by omega,fun j hj=>?_,fun q hq=>⟨(m - 1 - q).toNat,by omega,?_⟩⟩
  · have h1:=(h.2 j qf).1
    rw [t.2 j qf,if_pos qf]
    omega
  · rw [t.2 _ qf,if_pos qf,(h.2 _ qf).2 qf]
    omega
theorem OwnTo.ok' {m:Int} {c n:Nat} {own:yLI} (h:OwnTo m c own) (e:c=n) (hm:1≤m∧m≤3) (hn:m≤n):OwnDr n own:=by subst e;exact h.ok hm hn
theorem TurnTo.ok' {m:Int} {d c n:Nat} {own own' :yLI} (t:TurnTo m d own own') (h:OwnTo m c own) (e:c=n) (e' :d=n) (hm:1≤m∧m≤3) (hn:m≤n):OwnDr n own' :=by subst e;subst e';exact t.ok h hm hn
def AllTo (alive:List Bool):Prop:=∀ j,j < alive.length→alive[j]! =true
theorem AllTo.nil:AllTo []:=fun j hj=>by simp at hj
theorem AllTo.snoc {alive:List Bool} (h:AllTo alive):AllTo (alive++[true]):=fun j hj=>by
  rw [Vu]
  by_cases h1:j < alive.length
  · rw [if_pos h1];exact h j h1
  · rw [if_neg h1,if_pos (by simp at hj;omega)]
end
section
open Go.RowKit
set_option linter.unusedVariables false
section
variable {W0 w : World} {ps : List Prv} {Γ : List Fact}
theorem own_at (H:St W0 w ps Γ) (i:Nat) {v:Value} {e:TypeId} {m:Nat} {z:yLI} (hq:ps[i]? =some (.row v e 1 m (z.map (Value.int .i64)))):
    ∃ G,OwnAt e w G v z∧(∀ x∈G,yz ps i=some x)∧yG w G∧G.Nodup:=by
  have ho:=(H.has _ (List.mem_of_getElem? hq):w.ownsRow W0.heap.size e 1 v m (z.map (Value.int .i64)))
  have hm:m=z.length:=by have:=ho.1;simp at this;omega
  subst hm
  rcases ho.2 with ⟨rfl,h0⟩ | ⟨g,cap,cur,rfl,hb,hg,hnc,hcm,hcs,htake⟩
  · exact ⟨[],Or.inl ⟨rfl,List.eq_nil_of_length_eq_zero h0,rfl⟩,by simp,yG.nil _,by simp⟩
  · refine ⟨[g],Or.inr ⟨g,cap,cur,rfl,rfl,hg,hnc,hcm,by omega,by rw [Nat.mul_one] at htake;exact htake⟩,fun x hx=>?_,fun x hx=>?_,by simp⟩
    · obtain rfl:=List.mem_singleton.1 hx
      simp [yz,hq,Prv.blk,Value.ownBlock]
    · obtain rfl:=List.mem_singleton.1 hx
      exact ⟨_,_,hg⟩
theorem dead_at {i:Nat} {p:Prv} (hq:ps[i]? =some p):∀ (b' i' :Nat),yz (ps.set i (.row (Sv none 0 0) 0 1 0 [])) i' =some b' →i' ≠i∧yz ps i' =some b' :=by
  intro b' i' h
  unfold yz at h ⊢
  by_cases hi:i' =i
  · subst hi
    rw [set_at hq] at h
    simp [Prv.blk,Value.ownBlock] at h
  · rw [List.getElem?_set_ne (Ne.symm hi)] at h
    exact ⟨hi,h⟩
theorem St.snocI {e:TypeId} (H:St W0 w ps Γ) (i:Nat) {v:Value} {m:Nat} {z:yLI} (hq:ps[i]? =some (.row v e 1 m (z.map (Value.int .i64)))) (j:Nat) {F:yLN} {xs:List Value} {l:List (OwnI e)} (hf:Γ[j]? =some (xN true F xs l))
    {L:List yLN} (N:Fresh W0.heap.size (F :: L)) (ha:∀ K∈L,∀ b∈K,∀ i,yz ps i≠some b):
    ∃ F',Fresh W0.heap.size (F' :: L)∧St W0 w (ps.set i (.row (Sv none 0 0) 0 1 0 [])) (xN true F' (xs++[v]) (l++[⟨z⟩]) :: Γ):=by
  have hF:=(H.facts _ (List.mem_of_getElem? hf)).2
  obtain ⟨G,hG,hGb,hGf,hgn⟩:=own_at H i hq
  have hGF:∀ x∈G,x∉F:=fun x hx h=>(hF x h).2 i (hGb x hx)
  have hGL:∀ K∈L,∀ x∈K,x∉G:=fun K hK x hx h=>ha K hK x hx i (hGb x h)
  have hge:∀ x∈G,W0.heap.size≤x:=fun x hx=>(Vm H (hGb x hx)).1
  have hset:=dead_at hq
  refine ⟨F++G,⟨fun K hK=>?_,fun K hK x hx=>?_,?_⟩,?_⟩
  · rcases List.mem_cons.1 hK with rfl | h
    · exact List.nodup_append.2 ⟨N.nd F qm,hgn,fun x hx y hy e=>hGF y hy (e▸hx)⟩
    · exact N.nd K (List.mem_cons_of_mem _ h)
  · rcases List.mem_cons.1 hK with rfl | h
    · rcases List.mem_append.1 hx with h | h
      · exact N.ge F qm x h
      · exact hge x h
    · exact N.ge K (List.mem_cons_of_mem _ h) x hx
  · have hd:=List.pairwise_cons.1 N.dj
    refine List.pairwise_cons.2 ⟨fun K hK x hx=>?_,hd.2⟩
    rcases List.mem_append.1 hx with h | h
    · exact hd.1 K hK x h
    · exact fun hxK=>hGL K hK x hxK h
  · refine (H.dead i hq).add _ ⟨Qx (H.get j hf).1 (reps_one (show qX.rep w G [v] (⟨z⟩:OwnI e) from ⟨v,rfl,hG⟩)),fun _ x hx=>?_⟩ fun x hx=>?_
    · rcases List.mem_append.1 hx with h | h
      · exact (H.get j hf).2 rfl x h
      · exact hGf x h
    · rcases List.mem_append.1 hx with h | h
      · exact ⟨(hF x h).1,fun i' hi' =>(hF x h).2 i' (hset x i' hi').2⟩
      · exact ⟨(Vm H (hGb x h)).2,fun i' hi' =>(hset x i' hi').1 (H.dist i' i x (hset x i' hi').2 (hGb x h))⟩
end
section
variable {P : Program} {Q : Exit → Act → World → Prop} {n : Nat} {ρ : Env} {W0 w : World} {ps : List Prv} {Γ : List Fact}
  {d:Nat} {ty:TypeId} {pos:String} {af:Array Edge} {K:Env→World→Prop}
end
section
variable {B : Nat} {F : yLN} {L : List yLN}
theorem kept {Γ:List Fact} (j:Nat) {f:Fact} (hf:Γ[j]? =some f) (h:∀ x∈f.F,x∉F):f∈Γ∧∀ x∈f.F,x∉F:=⟨List.mem_of_getElem? hf,h⟩
end
theorem St.rebase {W0 w:World} {ps:List Prv} {Γ:List Fact} (H:St W0 w ps Γ) (Δ:List Fact) (h:∀ f∈Δ,f.φ w∧∀ b∈f.F,b < w.heap.size):St w w [] Δ:=
  ⟨Below.refl _ _,by simp,by intro i j b hi;simp [yz] at hi,fun f hf=>⟨(h f hf).1,fun b hb=>⟨(h f hf).2 b hb,fun i=>by simp [yz]⟩⟩⟩
end
section

def sumN (f:Nat→Int):Nat→Int
  | 0=>0
  | n+1=>sumN f n+f n
theorem sumN_zero (n:Nat):sumN (fun _=>0) n=0:=by
  induction n with
  | zero=>rfl
  | succ n ih=>rw [sumN,ih];rfl
theorem sumN_add (f g:Nat→Int) (n:Nat):sumN (fun c=>f c+g c) n=sumN f n+sumN g n:=by
  induction n with
  | zero=>rfl
  | succ n ih=>rw [sumN,sumN,sumN,ih];omega
theorem sumN_one (x v:Int) (n:Nat):sumN (fun c=>if x=(c:Int) then v else 0) n=if 0≤x∧x < n then v else 0:=by
  induction n with
  | zero=>rw [sumN,if_neg qf]
  | succ n ih=>
    rw [sumN,ih]
    by_cases e:x=(n:Int)
    · rw [if_neg qf,if_pos e,if_pos qf];omega
    · rw [if_neg e]
      by_cases h:0≤x∧x < n
      · rw [if_pos h,if_pos qf];omega
      · rw [if_neg h,if_neg qf];rfl
theorem puts_sum {s:qI} {t:qP} {counts:yLI} {n:Nat} (p q:Nat):∀ k,(∀ i,i < k→0≤(s.qB[i]!).qN∧(s.qB[i]!).qN < (n:Int))→
    sumN (fun c=>putsOf s t counts (c:Int) k p q) n=putS s t counts k p q
  | 0,_=>by simp only [putsOf,putS,sumN_zero]
  | k+1,h=>by
    have ih:=puts_sum (t:=t) (counts:=counts) p q k fun i hi=>h i qf
    simp only [putsOf,putS]
    rw [sumN_add,ih,sumN_one,if_pos (h k qf)]
theorem due_step {s:qI} {t:qP} {counts:yLI} (hs:zQ s) (p q:Nat):
    base0 s t p q+V5 s counts s.qB.length p q+sumN (fun c=>putsOf s t counts (c:Int) s.qB.length p q) (xP s)=stepF s t counts p q:=by
  rw [puts_sum p q _ fun i hi=>?_]
  · rw [stepF,allS_eq];omega
  · have:=(hs.2.2 i hi).1.1
    have hn:xP s=s.qA.length:=rfl
    unfold CellIn at this
    omega
theorem still_down {s:qI} {counts:yLI} {u:qP} (h:∀ i,i < s.qB.length→(s.qB[i]!).vF=false):∀ j,xu s counts u j=u
  | 0=>rfl
  | j+1=>by
    rw [V6 (fun hm=>?_) rfl]
    · exact still_down h j
    · obtain ⟨i,h1,_,h3,_⟩:=hm
      rw [h i h1] at h3;cases h3

theorem Yc {s:qI} {counts:yLI} (hs:zQ s) (hc:XZ s counts) (p q:Nat) (hq:q < zI s):∀ k,k≤s.qB.length→V5 s counts k p q≤0
  | 0,_=>by simp [V5]
  | k+1,h=>by
    have ih:=Yc hs hc p q hq k qf
    have hb:=hc.bd (i:=k) qf
    have hn:=(hs.rule (i:=k) qf).2.2.2.2.1
    have hg:=hn.get (k:=q) (by rw [hn.len];exact hq)
    rw [V5]
    have:needF s counts k p q≤0:=by
      unfold needF at'
      split
      · have:=Int.mul_nonneg hb.1 hg.1
        rw [Int.neg_mul];omega
      · exact Int.le_refl _
    omega
theorem needS_one {s:qI} {counts:yLI} (hs:zQ s) (hc:XZ s counts) (p q:Nat) (hq:q < zI s):∀ k,k≤s.qB.length→∀ i,i < k→V5 s counts k p q≤needF s counts i p q
  | 0,_,i,hi=>by omega
  | k+1,h,i,hi=>by
    have hz:=Yc hs hc p q hq k qf
    have hz' :=Yc hs hc p q hq (k+1) h
    rw [V5] at hz' ⊢
    by_cases e:i=k
    · subst e;omega
    · have ih:=needS_one hs hc p q hq k qf i qf
      have hb:=hc.bd (i:=k) qf
      have hn:=(hs.rule (i:=k) qf).2.2.2.2.1
      have hg:=hn.get (k:=q) (by rw [hn.len];exact hq)
      have:needF s counts k p q≤0:=by
        unfold needF at'
        split
        · have:=Int.mul_nonneg hb.1 hg.1
          rw [Int.neg_mul];omega
        · exact Int.le_refl _
      omega
theorem needS_around {s:qI} {counts:yLI} (hs:zQ s) (q:Nat):∀ k,k≤s.qB.length→V5 s counts k (xP s) q=0
  | 0,_=>rfl
  | k+1,h=>by
    have hr:=(hs.rule (i:=k) qf).cell
    rw [V5,needS_around hs q k qf]
    unfold needF at'
    rw [if_neg qf];rfl
theorem sum_some {l:yLI} (h0:∀ k,k < l.length→0≤l[k]!) (h:Xh l≠0):∃ k,k < l.length∧1≤l[k]! :=by
  apply Classical.byContradiction
  intro hn
  have hz:∀ k,k < l.length→l[k]! =0:=fun k hk=>by
    have h1:=h0 k hk
    have h2:¬ 1≤l[k]! :=fun x=>hn ⟨k,hk,x⟩
    omega
  have:∀ n,n≤l.length→sumTo l n=0:=by
    intro n
    induction n with
    | zero=>intro _;simp [sumTo]
    | succ n ih=>intro hk;simp only [sumTo,ih qf,hz n qf];rfl
  exact h (this _ (Nat.le_refl _))
def FewM (M:Int) (s:qI) (t:qP):Prop:=∀ p q,p≤xP s→q < zI s→base0 s t p q≤M
def PutsD (D:Int) (s:qI):Prop:=∀ i,i < s.qB.length→∀ q,q < zI s→((s.qB[i]!).zH)[q]! ≤D∧((s.qB[i]!).jC)[q]! ≤D∧∀ j,j < (s.qB[i]!).qW.length→(((s.qB[i]!).qW[j]!).QP)[q]! ≤D
theorem rest_get {s:qI} {t:qP} {counts:yLI} (hs:zQ s) (ht:xI s t) (hc:XZ s counts) (h:IsCh s t counts) {p q:Nat} (hp:p < xP s) (hq:q < zI s):0≤base0 s t p q+V5 s counts s.qB.length p q:=by
  have e:=(restR_ent hs ht hc s.qB.length (Nat.le_refl _)).eq p q hp hq
  have hl:=((restR_ent hs ht hc s.qB.length (Nat.le_refl _)).sh.2 p hp).1
  have hn:=h.2
  rw [hc.1] at hn
  have:=hn p (by rw [ht.2.1];exact hp) q (by rw [hl];exact hq)
  rw [e] at this
  unfold base0
  rw [if_pos hp]
  exact this
theorem cnt_few {s:qI} {t:qP} {counts:yLI} {M:Int} (hs:zQ s) (ht:xI s t) (hc:XZ s counts) (h:IsCh s t counts) (hM:FewM M s t) {i:Nat} (hi:i < s.qB.length):counts[i]! ≤M:=by
  have hr:=hs.rule hi
  have hn:=hr.2.2.2.2.1
  obtain ⟨k,hk,h1⟩:=sum_some (fun k hk=>(hn.get hk).1) hr.2.2.2.2.2.2.2.2.2.1
  have hq:k < zI s:=by rw [hn.len] at hk;exact hk
  have hp:=hr.cell
  have e1:=rest_get hs ht hc h hp hq
  have e2:=needS_one hs hc (s.qB[i]!).qN.toNat k hq s.qB.length (Nat.le_refl _) i hi
  have e3:=hM (s.qB[i]!).qN.toNat k qf hq
  have e4:needF s counts i (s.qB[i]!).qN.toNat k= -(counts[i]! * ((s.qB[i]!).xR)[k]!):=by
    unfold needF at'
    rw [if_pos rfl,Int.neg_mul]
  have hb:=hc.bd hi
  have e5:=Int.mul_le_mul_of_nonneg_left h1 hb.1
  omega
theorem at_bd {p c:Nat} {x B:Int} (h:0≤x∧x≤B):0≤at' p c x∧at' p c x≤B:=by
  unfold at'
  split <;> omega
theorem mul_bd {c m M D:Int} (hc:0≤c∧c≤M) (hm:0≤m∧m≤D):0≤c * m∧c * m≤M * D:=by
  refine ⟨Int.mul_nonneg hc.1 hm.1,?_⟩
  have h1:=Int.mul_le_mul_of_nonneg_left hm.2 hc.1
  have h2:=Int.mul_le_mul_of_nonneg_right hc.2 (show 0≤D by omega)
  omega
theorem putF_bd {s:qI} {t:qP} {M D c:Int} (hs:zQ s) (hD:PutsD D s) {i:Nat} (hi:i < s.qB.length) (hc:0≤c∧c≤M) (p q:Nat) (hq:q < zI s):0≤putF s t (s.qB[i]!) c p q∧putF s t (s.qB[i]!) c p q≤5 * (M * D):=by
  have hr:=hs.rule hi
  obtain ⟨d1,d2,d3⟩:=hD i hi q hq
  have b1:=hr.2.2.2.2.2.2.2.1
  have b2:=hr.2.2.2.2.2.2.2.2.1
  have h1:=at_bd (p:=p) (c:=(s.qB[i]!).qN.toNat) (mul_bd hc ⟨(b1.get (k:=q) (by rw [b1.len];exact hq)).1,d1⟩)
  have h2:=at_bd (p:=p) (c:=outPl s t (s.qB[i]!)) (mul_bd hc ⟨(b2.get (k:=q) (by rw [b2.len];exact hq)).1,d2⟩)
  have hI:∀ j,j≤(s.qB[i]!).qW.length→0≤XX (s.qB[i]!) c j p q∧XX (s.qB[i]!) c j p q≤(j:Int) * (M * D):=by
    intro j
    induction j with
    | zero=>intro _;simp [XX]
    | succ j ih=>
      intro hj
      have hio:=hr.2.2.2.2.2.2.2.2.2.2 j qf
      have b3:=hio.2.2.1
      have h3:=at_bd (p:=p) (c:=((s.qB[i]!).qW[j]!).qN.toNat) (mul_bd hc ⟨(b3.get (k:=q) (by rw [b3.len];exact hq)).1,d3 j qf⟩)
      have:=ih qf
      rw [XX]
      have e:((j+1:Nat):Int) * (M * D)=(j:Int) * (M * D)+M * D:=by push_cast;rw [Int.add_mul,Int.one_mul]
      rw [e]
      omega
  have h4:=hI _ (Nat.le_refl _)
  have hl:=hr.2.2.2.1
  have hMD:0≤M * D:=by omega
  have h5:((s.qB[i]!).qW.length:Int) * (M * D)≤3 * (M * D):=Int.mul_le_mul_of_nonneg_right qf hMD
  unfold putF
  omega
theorem putS_bd {s:qI} {t:qP} {M D:Int} {counts:yLI} (hs:zQ s) (hD:PutsD D s) (hc:∀ i,i < s.qB.length→0≤counts[i]! ∧counts[i]! ≤M) (p q:Nat) (hq:q < zI s):∀ k,k≤s.qB.length→0≤putS s t counts k p q∧putS s t counts k p q≤(k:Int) * (5 * (M * D))
  | 0,_=>by simp [putS]
  | k+1,h=>by
    have ih:=putS_bd (t:=t) hs hD hc p q hq k qf
    have:=putF_bd (t:=t) hs hD (i:=k) qf (hc k qf) p q hq
    rw [putS]
    have e:((k+1:Nat):Int) * (5 * (M * D))=(k:Int) * (5 * (M * D))+5 * (M * D):=by push_cast;rw [Int.add_mul,Int.one_mul]
    rw [e]
    omega
theorem step_few {s:qI} {t:qP} {counts:yLI} (hs:zQ s) (ht:xI s t) (hc:XZ s counts) (h:IsCh s t counts) (hM:FewM 6 s t) (hD:PutsD 2 s) {p q:Nat} (hp:p≤xP s) (hq:q < zI s):0≤stepF s t counts p q∧stepF s t counts p q≤966:=by
  have hb:∀ i,i < s.qB.length→0≤counts[i]! ∧counts[i]! ≤6:=fun i hi=>⟨(hc.bd hi).1,cnt_few hs ht hc h hM hi⟩
  have h1:=putS_bd (t:=t) hs hD hb p q hq s.qB.length (Nat.le_refl _)
  have h2:=hM p q hp hq
  have h3:=Yc hs hc p q hq s.qB.length (Nat.le_refl _)
  have hl:=hs.2.1
  have h4:0≤base0 s t p q+V5 s counts s.qB.length p q:=by
    by_cases e:p < xP s
    · exact rest_get hs ht hc h e hq
    · obtain rfl:p=xP s:=by omega
      rw [needS_around hs q _ (Nat.le_refl _)]
      unfold base0
      rw [if_neg qf]
      have:=ht.around.2 q hq
      omega
  rw [stepF,allS_eq]
  omega
theorem tab2_line {n K:Nat} {f:Nat→Nat→Int} {p:Nat} (h:p < n):(tab2 n K f)[p]! =(List.range K).map (f p):=by
  rw [getElem!_pos _ _ (by rw [tab2_len];exact h)];simp [tab2]
theorem tab2_at {n K:Nat} {f:Nat→Nat→Int} {p q:Nat} (h:p < n) (hq:q < K):((tab2 n K f)[p]!)[q]! =f p q:=by
  rw [tab2_line h,getElem!_pos _ _ (by simpa using hq)];simp
theorem stepped_row {s:qI} {t:qP} {counts:yLI} {p:Nat} (h:p < xP s):(xw s t counts).qH[p]! =(List.range (zI s)).map (stepF s t counts p):=by
  have hl:=tab2_len (xP s+1) (zI s) (stepF s t counts)
  show ((tab2 (xP s+1) (zI s) (stepF s t counts)).take (xP s))[p]! =_
  rw [getElem!_pos _ _ (by rw [List.length_take,hl];omega),List.getElem_take,← getElem!_pos,tab2_line qf]
theorem QN {K:Nat} {g:Nat→Int} {q:Nat} (h:q < K):((List.range K).map g)[q]! =g q:=by
  rw [getElem!_pos _ _ (by simpa using h)];simp
theorem stepped_around {s:qI} {t:qP} {counts:yLI}:(xw s t counts).qF=(List.range (zI s)).map (stepF s t counts (xP s)):=by
  show (tab2 (xP s+1) (zI s) (stepF s t counts))[xP s]! =_
  rw [tab2_line qf]

theorem appl_of {s:qI} {t:qP} {counts:yLI} (hc:XZ s counts) (h:IsCh s t counts) {i:Nat} (hi:i < s.qB.length) (h0:counts[i]! ≠0):EnOk s t (s.qB[i]!):=by
  have hb:=hc.bd hi
  have:=h.1 i (by rw [hc.1];exact hi)
  unfold Yh at this
  apply Classical.byContradiction
  intro hn
  exact this ⟨by omega,fun ha=>hn ha.1⟩
theorem dead_none {s:qI} {t:qP} {counts:yLI} (hs:zQ s) (ht:xI s t) (hc:XZ s counts) (h:IsCh s t counts) {p:Nat} (hp:p < xP s) (hd:t.qG[p]! =false) (q:Nat):
    ∀ k,k≤s.qB.length→V5 s counts k p q=0∧putS s t counts k p q=0
  | 0,_=>⟨rfl,rfl⟩
  | k+1,hk=>by
    obtain ⟨i1,i2⟩:=dead_none hs ht hc h hp hd q k qf
    rw [V5,putS,i1,i2]
    by_cases h0:counts[k]! =0
    · rw [putF_zero s t _ h0]
      unfold needF
      rw [h0]
      refine ⟨?_,rfl⟩
      unfold at'
      split <;> simp
    · have he:=appl_of hc h (i:=k) qf h0
      have hr:=hs.rule (i:=k) qf
      have hcell:p≠(s.qB[k]!).qN.toNat:=fun e=>by
        subst e
        have h1:=he.1
        rw [hd] at h1;cases h1
      have hout:p≠outPl s t (s.qB[k]!):=by
        intro e
        unfold outPl at e
        split at e
        · omega
        · rename_i hne
          have hcc:=hr.1
          have:=XD (t:=t) hs.1 ht.2.2.1 (show 0 < (s.qB[k]!).qN by have:=hcc.1;omega) hcc.2
          rw [← e,hd] at this
          exact absurd this.2.2 qj
      have hinto:∀ j,j≤(s.qB[k]!).qW.length→XX (s.qB[k]!) (counts[k]!) j p q=0:=by
        intro j
        induction j with
        | zero=>intro _;rfl
        | succ j ih=>
          intro hj
          rw [XX,ih qf]
          have ha:=(he.2.2.2.2 j qf).1
          unfold at'
          rw [if_neg (fun e=>by rw [e] at hd;rw [hd] at ha;cases ha)]
          rfl
      unfold needF putF at'
      rw [if_neg hcell,if_neg hcell,if_neg hout,hinto _ (Nat.le_refl _)]
      exact ⟨rfl,rfl⟩
theorem dead_zero {s:qI} {t:qP} (ht:xI s t) {p q:Nat} (hp:p < xP s) (hd:t.qG[p]! =false) (hq:q < zI s):base0 s t p q=0:=by
  have hb:=ht.2.2.2.2 p (by rw [ht.2.1];exact hp)
  have hl:=hb.1.len
  unfold base0
  rw [if_pos hp]
  have h0:=hb.1.get (k:=q) (by rw [hl];exact hq)
  apply Classical.byContradiction
  intro hn
  have hs0:Xh (t.qH[p]!)≤0:=hb.2 hd
  have hmono:∀ n,n≤(t.qH[p]!).length→0≤sumTo (t.qH[p]!) n∧(q < n→(t.qH[p]!)[q]! ≤sumTo (t.qH[p]!) n):=by
    intro n
    induction n with
    | zero=>intro _;exact ⟨by simp [sumTo],fun x=>by omega⟩
    | succ n ih=>
      intro hn
      have i:=ih qf
      have g:=(hb.1.get (k:=n) qf).1
      refine ⟨by simp only [sumTo];omega,fun x=>?_⟩
      simp only [sumTo]
      by_cases e:q=n
      · subst e;omega
      · have:=i.2 qf;omega
  have:=(hmono _ (Nat.le_refl _)).2 (by rw [hl];exact hq)
  unfold Xh at hs0
  omega

theorem sumN_le {f g:Nat→Int} {n:Nat} (h:∀ p,p < n→f p≤g p):sumN f n≤sumN g n:=by
  induction n with
  | zero=>exact Int.le_refl _
  | succ n ih=>rw [sumN,sumN];have:=ih fun p hp=>h p qf;have:=h n qf;omega
theorem sumN_const (v:Int) (n:Nat):sumN (fun _=>v) n=n * v:=by
  induction n with
  | zero=>simp [sumN]
  | succ n ih=>rw [sumN,ih];push_cast;rw [Int.add_mul,Int.one_mul]
theorem sumN_at {c n:Nat} {x B:Int} (h:0≤x∧x≤B):sumN (fun p=>at' p c x) n≤B:=by
  have e:∀ n,sumN (fun p=>at' p c x) n=if c < n then x else 0:=by
    intro n
    induction n with
    | zero=>rw [if_neg qf];rfl
    | succ n ih=>
      rw [sumN,ih]
      unfold at'
      by_cases e:n=c
      · subst e;rw [if_neg qf,if_pos rfl,if_pos qf];omega
      · rw [if_neg e]
        by_cases h1:c < n
        · rw [if_pos h1,if_pos qf];omega
        · rw [if_neg h1,if_neg qf];rfl
  rw [e]
  split <;> omega
theorem sumN_into {s:qI} {M D c:Int} (hs:zQ s) (hD:PutsD D s) {i:Nat} (hi:i < s.qB.length) (hc:0≤c∧c≤M) (q:Nat) (hq:q < zI s) (n:Nat):∀ j,j≤(s.qB[i]!).qW.length→
    sumN (fun p=>XX (s.qB[i]!) c j p q) n≤(j:Int) * (M * D)
  | 0,_=>by simp only [XX,sumN_zero];simp
  | j+1,hj=>by
    have hio:=(hs.rule hi).2.2.2.2.2.2.2.2.2.2 j qf
    have b3:=hio.2.2.1
    have h3:=sumN_at (c:=((s.qB[i]!).qW[j]!).qN.toNat) (n:=n) (mul_bd hc ⟨(b3.get (k:=q) (by rw [b3.len];exact hq)).1,(hD i hi q hq).2.2 j qf⟩)
    have ih:=sumN_into hs hD hi hc q hq n j qf
    simp only [XX]
    rw [sumN_add]
    have e:((j+1:Nat):Int) * (M * D)=(j:Int) * (M * D)+M * D:=by push_cast;rw [Int.add_mul,Int.one_mul]
    rw [e]
    omega
theorem sumN_putF {s:qI} {t:qP} {M D c:Int} (hs:zQ s) (hD:PutsD D s) {i:Nat} (hi:i < s.qB.length) (hc:0≤c∧c≤M) (q:Nat) (hq:q < zI s) (n:Nat):sumN (fun p=>putF s t (s.qB[i]!) c p q) n≤5 * (M * D):=by
  have hr:=hs.rule hi
  obtain ⟨d1,d2,d3⟩:=hD i hi q hq
  have b1:=hr.2.2.2.2.2.2.2.1
  have b2:=hr.2.2.2.2.2.2.2.2.1
  have m1:=mul_bd hc ⟨(b1.get (k:=q) (by rw [b1.len];exact hq)).1,d1⟩
  have h1:=sumN_at (c:=(s.qB[i]!).qN.toNat) (n:=n) m1
  have h2:=sumN_at (c:=outPl s t (s.qB[i]!)) (n:=n) (mul_bd hc ⟨(b2.get (k:=q) (by rw [b2.len];exact hq)).1,d2⟩)
  have h3:=sumN_into hs hD hi hc q hq n _ (Nat.le_refl _)
  have hl:=hr.2.2.2.1
  have h5:((s.qB[i]!).qW.length:Int) * (M * D)≤3 * (M * D):=Int.mul_le_mul_of_nonneg_right qf qf
  simp only [putF]
  rw [sumN_add,sumN_add]
  omega
theorem sumN_putS {s:qI} {t:qP} {M D:Int} {counts:yLI} (hs:zQ s) (hD:PutsD D s) (hc:∀ i,i < s.qB.length→0≤counts[i]! ∧counts[i]! ≤M) (q:Nat) (hq:q < zI s) (n:Nat):∀ k,k≤s.qB.length→
    sumN (fun p=>putS s t counts k p q) n≤(k:Int) * (5 * (M * D))
  | 0,_=>by simp only [putS,sumN_zero];simp
  | k+1,h=>by
    have ih:=sumN_putS (t:=t) hs hD hc q hq n k qf
    have:=sumN_putF (t:=t) hs hD (i:=k) qf (hc k qf) q hq n
    simp only [putS]
    rw [sumN_add]
    have e:((k+1:Nat):Int) * (5 * (M * D))=(k:Int) * (5 * (M * D))+5 * (M * D):=by push_cast;rw [Int.add_mul,Int.one_mul]
    rw [e]
    omega
theorem colTo_sum (t:qP) (q:Nat):∀ n,colTo t q n=sumN (fun p=>(t.qH[p]!)[q]!) n
  | 0=>rfl
  | n+1=>by rw [colTo,sumN,colTo_sum t q n]
theorem stepped_col {s:qI} {t:qP} {counts:yLI} (hs:zQ s) (ht:xI s t) (hc:XZ s counts) (h:IsCh s t counts) (hM:FewM 6 s t) (hD:PutsD 2 s) {q:Nat} (hq:q < zI s):colTo (xw s t counts) q (xP s)≤996:=by
  have hb:∀ i,i < s.qB.length→0≤counts[i]! ∧counts[i]! ≤6:=fun i hi=>⟨(hc.bd hi).1,cnt_few hs ht hc h hM hi⟩
  rw [colTo_sum]
  have h1:sumN (fun p=>((xw s t counts).qH[p]!)[q]!) (xP s)≤sumN (fun p=>6+putS s t counts s.qB.length p q) (xP s):=sumN_le fun p hp=>by
    rw [stepped_row hp,QN hq]
    have a1:=hM p q qf hq
    have a2:=Yc hs hc p q hq s.qB.length (Nat.le_refl _)
    rw [stepF,allS_eq]
    omega
  rw [sumN_add,sumN_const] at h1
  have h2:=sumN_putS (t:=t) hs hD hb q hq (xP s) s.qB.length (Nat.le_refl _)
  have hl:=hs.2.1
  have hn:=hs.1.2.1
  have hcn:xP s=s.qA.length:=rfl
  omega
theorem stepped_ok {s:qI} {t:qP} {counts:yLI} (hs:zQ s) (ht:xI s t) (hc:XZ s counts) (h:IsCh s t counts) (hM:FewM 6 s t) (hD:PutsD 2 s):xI s (xw s t counts):=by
  have hK:=hs.1.1
  have hkn:zI s=s.xh.toNat:=rfl
  have hbag:∀ p,p≤xP s→vS s.xh ((List.range (zI s)).map (stepF s t counts p)):=fun p hp=>by
    refine ⟨⟨fun j hj=>?_,by simp;omega,by simp;omega⟩,by simp;omega⟩
    have hj' :j < zI s:=by simpa using hj
    rw [QN hj']
    have:=step_few hs ht hc h hM hD hp hj'
    omega
  have hl:(xw s t counts).qH.length=xP s:=by
    show ((tab2 _ _ _).take _).length=_
    rw [List.length_take,tab2_len];omega
  refine ⟨ht.1,hl,ht.2.2.1,by rw [stepped_around];exact hbag _ (Nat.le_refl _),fun p hp=>?_⟩
  rw [hl] at hp
  rw [stepped_row hp]
  refine ⟨hbag p qf,fun hd=>?_⟩
  have hd' :t.qG[p]! =false:=hd
  have hz:∀ n,sumTo ((List.range (zI s)).map (stepF s t counts p)) n≤0:=by
    intro n
    induction n with
    | zero=>simp [sumTo]
    | succ n ih=>
      simp only [sumTo]
      by_cases e:n < zI s
      · rw [QN e]
        obtain ⟨z1,z2⟩:=dead_none hs ht hc h hp hd' n s.qB.length (Nat.le_refl _)
        rw [stepF,allS_eq,z1,z2,dead_zero ht hp hd' e]
        omega
      · rw [getElem!_neg _ _ (by simpa using e)]
        show _+(0:Int)≤0
        omega
  exact hz _

theorem col_two {t:qP} {q:Nat} (h0:∀ p,p < t.qH.length→0≤(t.qH[p]!)[q]!):∀ n,n≤t.qH.length→0≤colTo t q n∧(∀ a,a < n→(t.qH[a]!)[q]! ≤colTo t q n)∧∀ a b,a < b→b < n→(t.qH[a]!)[q]! +(t.qH[b]!)[q]! ≤colTo t q n
  | 0,_=>⟨by simp [colTo],fun a ha=>by omega,fun a b _ hb=>by omega⟩
  | n+1,hn=>by
    obtain ⟨i0,i1,i2⟩:=col_two h0 n qf
    have g:=h0 n qf
    rw [colTo]
    refine ⟨by omega,fun a ha=>?_,fun a b hab hb=>?_⟩
    · by_cases e:a=n
      · subst e;omega
      · have:=i1 a qf;omega
    · by_cases e:b=n
      · subst e
        have:=i1 a qf;omega
      · have:=i2 a b hab qf;omega
theorem Xq.ok1000 {s:qI} {t:qP} {c:Int} (h:Xq s t c) (hf:∀ q,q < zI s→colTo t q (xP s)≤1000):xI s (melted s t c):=by
  have hcn:xP s=s.qA.length:=rfl
  have hp:=h.par
  have hc:=h.cell
  have ht:=h.state
  have e1:(melted s t c).qG.length=t.qG.length:=by simp [melted]
  have e2:(melted s t c).qH.length=t.qH.length:=by simp [melted]
  refine ⟨by rw [e1];exact ht.1,by rw [e2];exact ht.2.1,by rw [h.alive',if_neg (by have:=h.pos;omega)];exact ht.2.2.1,ht.2.2.2.1,fun k hk=>?_⟩
  rw [e2] at hk
  rw [h.bags',h.alive']
  have hkk:=ht.2.1
  by_cases g1:c.toNat=k
  · rw [if_pos g1,if_pos g1]
    have hK:=h.frame.1
    refine ⟨⟨⟨fun j hj=>by rw [rep_get];omega,by simp;omega,by simp;omega⟩,by simp;omega⟩,fun _=>?_⟩
    have hz:∀ n,sumTo (List.replicate s.xh.toNat 0) n=0:=by
      intro n
      induction n with
      | zero=>simp [sumTo]
      | succ n ih=>simp only [sumTo,ih,rep_get];omega
    unfold Xh
    rw [hz]
    omega
  · rw [if_neg g1,if_neg g1]
    by_cases g2:(xm s t c).toNat=k
    · rw [if_pos g2]
      subst g2
      have bp:=ht.bagLen hk
      have bc:=ht.bagLen (k:=c.toNat) qf
      refine ⟨⟨⟨fun j hj=>?_,by rw [Qy];exact bp.1.2.1,by rw [Qy];exact bp.1.2.2⟩,by rw [Qy];exact bp.2⟩,fun hd=>?_⟩
      · rw [Qy] at hj
        rw [plusL_get hj]
        have hj2:j < (t.qH[c.toNat]!).length:=by have:=bp.2;have:=bc.2;omega
        have hjk:j < zI s:=by rw [bp.len] at hj;exact hj
        have a1:=bp.1.1 j hj
        have a2:=bc.1.1 j hj2
        have a3:=hf j hjk
        have a4:=(col_two (t:=t) (q:=j) (fun p hp=>by
          have b:=ht.bagLen hp
          exact (b.get (k:=j) (by rw [b.len];exact hjk)).1) (xP s) (by rw [hkk];exact Nat.le_refl _)).2.2 (xm s t c).toNat c.toNat qf qf
        omega
      · rw [hp.2.2] at hd;cases hd
    · rw [if_neg g2]
      exact ht.2.2.2.2 k hk
theorem down_ok {s:qI} {t:qP} {counts:yLI} (hs:zQ s) (ht:xI s t) (hc:XZ s counts) (h:IsCh s t counts) (hM:FewM 6 s t) (hD:PutsD 2 s):∀ j,j+1≤xP s→
    xI s (xu s counts (xw s t counts) j)∧(∀ q,q < zI s→colTo (xu s counts (xw s t counts) j) q (xP s)≤1000)∧∀ c,c+j < xP s→(xu s counts (xw s t counts) j).qG[c]! =t.qG[c]!
  | 0,_=>⟨stepped_ok hs ht hc h hM hD,fun q hq=>by have:=stepped_col hs ht hc h hM hD hq;rw [xu];omega,fun c _=>rfl⟩
  | j+1,hj=>by
    obtain ⟨i1,i2,i3⟩:=down_ok hs ht hc h hM hD j qf
    by_cases hm:Melts s counts ((xP s:Int) - 1 - j)
    · rw [meltDown_yes hm rfl]
      obtain ⟨i,hi,h0,h2,h3⟩:=hm
      have he:=appl_of hc h hi qf
      have hcn:xP s=s.qA.length:=rfl
      have ha:t.qG[((xP s:Int) - 1 - j).toNat]! =true:=by rw [← h3];exact he.1
      have cm:Xq s (xu s counts (xw s t counts) j) ((xP s:Int) - 1 - j):=⟨hs.1,i1,⟨by omega,by omega⟩,by omega,by rw [i3 _ qf];exact ha⟩
      refine ⟨cm.ok1000 i2,fun q hq=>?_,fun c hcc=>?_⟩
      · have hpar:=cm.par
        rw [cm.col hq,if_pos qf,if_pos qf]
        have:=i2 q hq
        omega
      · rw [cm.alive',if_neg qf]
        exact i3 c qf
    · rw [V6 hm rfl]
      exact ⟨i1,i2,fun c hcc=>i3 c qf⟩
theorem step_fine {s:qI} {t:qP} {counts:yLI} (hs:zQ s) (ht:xI s t) (hc:XZ s counts) (h:IsCh s t counts) (hM:FewM 6 s t) (hD:PutsD 2 s):(zl s t counts).2=0:=by
  rw [Xx h]
  unfold stepRes
  have hn:=hs.1.2.1
  have hcn:xP s=s.qA.length:=rfl
  rw [told_yes (down_ok hs ht hc h hM hD (xP s - 1) qf).1]
theorem putsOf_bd {s:qI} {t:qP} {M D:Int} {counts:yLI} (hs:zQ s) (hD:PutsD D s) (hc:∀ i,i < s.qB.length→0≤counts[i]! ∧counts[i]! ≤M) (cell:Int) (p q:Nat) (hq:q < zI s):∀ k,k≤s.qB.length→
    0≤putsOf s t counts cell k p q∧putsOf s t counts cell k p q≤putS s t counts k p q
  | 0,_=>by simp [putsOf,putS]
  | k+1,h=>by
    have ih:=putsOf_bd (t:=t) hs hD hc cell p q hq k qf
    have:=putF_bd (t:=t) hs hD (i:=k) qf (hc k qf) p q hq
    rw [putsOf,putS]
    split <;> omega
theorem putsL_at {s:qI} {t:qP} {counts:yLI} {cell:Int} {p q:Nat} (hp:p≤xP s) (hq:q < zI s):((putsL s t counts cell)[p]!)[q]! =putsOf s t counts cell s.qB.length p q:=tab2_at qf hq
theorem puts_law {s:qI} {t:qP} (hs:zQ s) (hst:Still s) (ht:xI s t) (hw:Whole t) (hM:FewM 6 s t) (hD:PutsD 2 s):
    (zl s t (y9 s t)).2=0∧(zl s t (y9 s t)).1=xw s t (y9 s t)∧xI s (xw s t (y9 s t))∧(∀ cell,CellIn s cell→putsRes s t cell=(putsL s t (y9 s t) cell,0))∧
    ∀ p q,p≤xP s→q < zI s→base0 s t p q+V5 s (y9 s t) s.qB.length p q+sumN (fun c=>((putsL s t (y9 s t) (c:Int))[p]!)[q]!) (xP s)=stepF s t (y9 s t) p q:=by
  have hch:=first_isCh hs ht
  have hc:XZ s (y9 s t):=first_cnt hs ht
  have hf:=step_fine hs ht hc hch hM hD
  have hb:∀ i,i < s.qB.length→0≤(y9 s t)[i]! ∧(y9 s t)[i]! ≤6:=fun i hi=>⟨(hc.bd hi).1,cnt_few hs ht hc hch hM hi⟩
  have hok:=stepped_ok hs ht hc hch hM hD
  have hkn:zI s=s.xh.toNat:=rfl
  have hK:=hs.1.1
  have hl:=hs.2.1
  refine ⟨hf,?_,hok,fun cell hcell=>?_,fun p q hp hq=>?_⟩
  · rw [Xx hch]
    unfold stepRes
    rw [still_down hst,told_yes hok]
  · refine puts_0 ⟨hs,hst,ht,hw⟩ hcell rfl fun p hp=>?_
    have hp' :p≤xP s:=by
      have:(putsL s t (y9 s t) cell).length=xP s+1:=tab2_len _ _ _
      omega
    have hrow:(putsL s t (y9 s t) cell)[p]! =(List.range (zI s)).map (putsOf s t (y9 s t) cell s.qB.length p):=tab2_line qf
    rw [hrow]
    refine ⟨fun j hj=>?_,by simp;omega,by simp;omega⟩
    have hj' :j < zI s:=by simpa using hj
    rw [QN hj']
    have h1:=putsOf_bd (t:=t) hs hD hb cell p j hj' s.qB.length (Nat.le_refl _)
    have h2:=putS_bd (t:=t) hs hD hb p j hj' s.qB.length (Nat.le_refl _)
    omega
  · have e:sumN (fun c=>((putsL s t (y9 s t) (c:Int))[p]!)[q]!) (xP s)=sumN (fun c=>putsOf s t (y9 s t) (c:Int) s.qB.length p q) (xP s):=by
      have:(fun c:Nat=>((putsL s t (y9 s t) (c:Int))[p]!)[q]!)=fun c:Nat=>putsOf s t (y9 s t) (c:Int) s.qB.length p q:=by
        funext c
        exact putsL_at hp hq
      rw [this]
    rw [e]
    exact due_step hs p q
def DueIs {e:TypeId} (K:Nat) (l:List (OwnI e)) (n:Nat) (f:Nat→Nat→Int):Prop:=l.length=n∧∀ p,p < n→(l[p]!).l.length=K∧∀ q,q < K→(l[p]!).l[q]! =f p q
section
variable {e : TypeId} {K n : Nat} {l : List (OwnI e)} {f g : Nat → Nat → Int}
theorem DueIs.nil:DueIs K ([]:List (OwnI e)) 0 f:=⟨rfl,fun p hp=>by omega⟩
theorem DueIs.snoc (h:DueIs K l n f) {b:yLI} (hb:b.length=K) (hv:∀ q,q < K→b[q]! =f n q):DueIs K (l++[⟨b⟩]) (n+1) f:=by
  have hl:=h.1
  refine ⟨by simp [hl],fun p hp=>?_⟩
  rw [Vu]
  by_cases h1:p < n
  · rw [if_pos qf];exact h.2 p h1
  · have e' :p=n:=by omega
    subst e'
    rw [if_neg qf,if_pos qf]
    exact ⟨hb,hv⟩
theorem DueIs.to (h:DueIs K l n f) (hg:∀ p q,p < n→q < K→f p q=g p q):DueIs K l n g:=⟨h.1,fun p hp=>⟨(h.2 p hp).1,fun q hq=>((h.2 p hp).2 q hq).trans (hg p q hp hq)⟩⟩
theorem DueIs.put (h:DueIs K l n f) {p q:Nat} {v:Int} (hp:p < n) (hq:q < K) (hg:∀ p' q',p' < n→q' < K→g p' q' =if p' =p∧q' =q then v else f p' q'):DueIs K (l.set p ⟨(l[p]!).l.set q v⟩) n g:=by
  have hl:=h.1
  refine ⟨by rw [List.length_set];exact hl,fun p' hp' =>?_⟩
  rw [getElem!_pos (l.set p _) p' (by rw [List.length_set];omega),List.getElem_set]
  obtain ⟨h1,h2⟩:=h.2 p' hp'
  by_cases e' :p=p'
  · subst e'
    rw [if_pos rfl]
    refine ⟨by rw [List.length_set];exact h1,fun q' hq' =>?_⟩
    show ((l[p]!).l.set q v)[q']! =_
    rw [getElem!_pos ((l[p]!).l.set q v) q' (by rw [List.length_set];omega),List.getElem_set,hg p q' hp hq']
    by_cases e2:q=q'
    · subst e2;rw [if_pos rfl,if_pos ⟨rfl,rfl⟩]
    · rw [if_neg e2,if_neg (fun x=>e2 x.2.symm)]
      have:=h2 q' hq'
      rwa [getElem!_pos (l[p]!).l q' qf] at this
  · rw [if_neg e',← getElem!_pos l p' qf]
    refine ⟨h1,fun q' hq' =>?_⟩
    rw [h2 q' hq',hg p' q' hp' hq',if_neg (fun x=>e' x.1.symm)]
theorem DueIs.at' (h:DueIs K l n f) {p q:Nat} (hp:p < n) (hq:q < K):(l[p]!).l[q]! =f p q:=(h.2 p hp).2 q hq
theorem DueIs.len (h:DueIs K l n f) {p:Nat} (hp:p < n):(l[p]!).l.length=K:=(h.2 p hp).1
end

section
variable {s : qI} {t : qP}
noncomputable def dueN (s:qI) (t:qP) (m p q:Nat):Int:=base0 s t p q+V5 s (y9 s t) m p q
noncomputable def putP (s:qI) (t:qP) (c p q:Nat):Int:=((putsL s t (y9 s t) (c:Int))[p]!)[q]!
noncomputable def dueP (s:qI) (t:qP) (c p q:Nat):Int:=dueN s t s.qB.length p q+sumN (fun c=>putP s t c p q) c
structure PutsAt (s:qI) (t:qP):Prop where
  sys:zQ s
  st:xI s t
  still:Still s
  whole:Whole t
  few:FewM 6 s t
  puts:PutsD 2 s
theorem PutsAt.cnt (h:PutsAt s t) {i:Nat} (hi:i < s.qB.length):0≤(y9 s t)[i]! ∧(y9 s t)[i]! ≤6:=
  ⟨((first_cnt h.sys h.st).bd hi).1,cnt_few h.sys h.st (first_cnt h.sys h.st) (first_isCh h.sys h.st) h.few hi⟩
theorem PutsAt.need (h:PutsAt s t) {i q:Nat} (hi:i < s.qB.length) (hq:q < zI s):0≤(y9 s t)[i]! * ((s.qB[i]!).xR)[q]! ∧(y9 s t)[i]! * ((s.qB[i]!).xR)[q]! ≤6000:=by
  have hn:=(h.sys.rule hi).2.2.2.2.1
  exact mul_bd (M:=6) (D:=1000) (h.cnt hi) (hn.get (by rw [hn.len];exact hq))
theorem PutsAt.bagOf (h:PutsAt s t) {c:Nat} (hc:c < xP s):(t.qH[c]!).length=zI s∧∀ q,q < zI s→(t.qH[c]!)[q]! =base0 s t c q:=by
  have hb:=h.st.bagLen (k:=c) (by rw [h.st.2.1];exact hc)
  exact ⟨hb.len,fun q hq=>by rw [base0,if_pos hc]⟩
theorem PutsAt.rimOf (h:PutsAt s t):t.qF.length=zI s∧∀ q,q < zI s→t.qF[q]! =base0 s t (xP s) q:=⟨h.st.around.1,fun q hq=>by rw [base0,if_neg qf]⟩
theorem PutsAt.rule (h:PutsAt s t) {i:Nat} (hi:i < s.qB.length):(0≤(s.qB[i]!).qN∧(s.qB[i]!).qN.toNat < xP s)∧((s.qB[i]!).xR).length=zI s:=by
  have hr:=h.sys.rule hi
  exact ⟨⟨hr.1.1,hr.cell⟩,hr.2.2.2.2.1.len⟩
theorem PutsAt.base (h:PutsAt s t) {p q:Nat} (hp:p≤xP s) (hq:q < zI s):0≤base0 s t p q∧base0 s t p q≤1000:=by
  unfold base0
  have ht:=h.st
  by_cases h1:p < xP s
  · rw [if_pos h1]
    have hb:=ht.bagLen (k:=p) (by rw [ht.2.1];exact h1)
    exact hb.get (by rw [hb.len];exact hq)
  · rw [if_neg h1]
    exact (ht.around).2 q hq
theorem PutsAt.by (h:PutsAt s t):(byRes s t (y9 s t)).2=0∧(byRes s t (y9 s t)).1=xw s t (y9 s t)∧xI s (byRes s t (y9 s t)).1∧(∀ c:Nat,c < xP s→putsRes s t c=(putsL s t (y9 s t) c,0))∧
    ∀ p q,p≤xP s→q < zI s→dueP s t (xP s) p q=stepF s t (y9 s t) p q:=by
  obtain ⟨h1,h2,h3,h4,h5⟩:=puts_law h.sys h.still h.st h.whole h.few h.puts
  rw [by_ok (ask_0 ⟨h.sys,h.st⟩ (first_cnt h.sys h.st))]
  refine ⟨h1,h2,by rw [h2];exact h3,fun c hc=>h4 c ⟨by omega,by have:xP s=s.qA.length:=rfl;omega⟩,fun p q hp hq=>?_⟩
  rw [← h5 p q hp hq]
  rfl
theorem list_ext {a b:yLI} {K:Nat} (h1:a.length=K) (h2:b.length=K) (h:∀ q,q < K→a[q]! =b[q]!):a=b:=List.ext_getElem qf fun i h3 h4=>by
  have:=h i qf
  rwa [getElem!_pos a i h3,getElem!_pos b i h4] at this
theorem PutsAt.bag {e:TypeId} {l:List (OwnI e)} (h:PutsAt s t) (hd:DueIs (zI s) l (xP s+1) (dueP s t (xP s))) {c:Nat} (hc:c < xP s):(byRes s t (y9 s t)).1.qH[c]! =(l[c]!).l:=by
  obtain ⟨_,h2,_,_,h5⟩:=h.by
  rw [h2,stepped_row hc]
  refine list_ext (K:=zI s) qm (hd.len qf) fun q hq=>?_
  rw [QN hq,hd.at' qf hq,h5 c q qf hq]
theorem PutsAt.rim {e:TypeId} {l:List (OwnI e)} (h:PutsAt s t) (hd:DueIs (zI s) l (xP s+1) (dueP s t (xP s))):(byRes s t (y9 s t)).1.qF=(l[xP s]!).l:=by
  obtain ⟨_,h2,_,_,h5⟩:=h.by
  rw [h2,stepped_around]
  refine list_ext (K:=zI s) qm (hd.len qf) fun q hq=>?_
  rw [QN hq,hd.at' qf hq,h5 _ q qf hq]
end
def ahead (a b:yLI):Prop:=∃ i,i < a.length∧(∀ j,j < i→a[j]! =b[j]!)∧a[i]! < b[i]!
def SameTo (a b:yLI) (k:Nat):Prop:=∀ j,j < k→a[j]! =b[j]!
theorem SameTo.succ {a b:yLI} {k:Nat} (h:SameTo a b k) (h1:a[k]! =b[k]!):SameTo a b (k+1):=fun j hj=>by
  by_cases e:j=k
  · subst e;exact h1
  · exact h j qf
theorem ahead_yes {a b:yLI} {k:Nat} (h:SameTo a b k) (hk:k < a.length) (h1:a[k]! < b[k]!):ahead a b:=⟨k,hk,h,h1⟩
theorem ahead_no {a b:yLI} {k:Nat} (h:SameTo a b k) (h1:¬ a[k]! < b[k]!) (h2:a[k]! ≠b[k]!):¬ ahead a b:=by
  rintro ⟨i,hi,hs,hl⟩
  rcases Nat.lt_or_ge i k with hik | hik
  · rw [h i hik] at hl;omega
  · rcases Nat.lt_or_eq_of_le hik with hki | hki
    · exact h2 (hs k hki)
    · subst hki;exact h1 hl
theorem ahead_same {a b:yLI} (h:SameTo a b a.length):¬ ahead a b:=by
  rintro ⟨i,hi,_,hl⟩
  rw [h i hi] at hl;omega
theorem ahead_irr (a:yLI):¬ ahead a a:=ahead_same fun _ _=>rfl
theorem ahead_trans {a b c:yLI} (hab:a.length=b.length) (h1:ahead a b) (h2:ahead b c):ahead a c:=by
  obtain ⟨i,hi,hs,hl⟩:=h1
  obtain ⟨k,hk,ht,hm⟩:=h2
  rcases Nat.lt_or_ge i k with h | h
  · exact ⟨i,hi,fun j hj=>(hs j hj).trans (ht j qf),by rw [← ht i h];exact hl⟩
  · rcases Nat.lt_or_eq_of_le h with h' | h'
    · exact ⟨k,by omega,fun j hj=>(hs j qf).trans (ht j hj),by rw [hs k h'];exact hm⟩
    · subst h'
      exact ⟨k,hi,fun j hj=>(hs j hj).trans (ht j hj),by omega⟩
theorem ahead_tri {a b:yLI} (hl:a.length=b.length) (h1:¬ ahead a b) (h2:¬ ahead b a):a=b:=by
  have key:∀ k,k≤a.length→SameTo a b k:=by
    intro k
    induction k with
    | zero=>intro _ j hj;omega
    | succ k ih=>
      intro hk
      have hs:=ih qf
      refine hs.succ ?_
      apply Classical.byContradiction
      intro hne
      rcases Int.lt_or_gt_of_ne hne with h | h
      · exact h1 ⟨k,by omega,hs,h⟩
      · exact h2 ⟨k,by omega,fun j hj=>(hs j hj).symm,h⟩
  exact ext_get hl fun k hk=>key _ (Nat.le_refl _) k hk
def InOrder (l:yLL):Prop:=l.Pairwise fun a b=>¬ ahead b a
theorem order_one {n:Nat}:∀ {l m:yLL},(∀ x∈l,x.length=n)→l.Perm m→InOrder l→InOrder m→l=m
  | [],m,_,hp,_,_=>(List.Perm.nil_eq hp)
  | x :: l,m,hn,hp,hl,hm=>by
    cases m with
    | nil=>exact absurd hp.length_eq qm
    | cons y m=>
      have hl' :=List.pairwise_cons.1 hl
      have hm' :=List.pairwise_cons.1 hm
      have hy:y∈x :: l:=hp.symm.subset (List.mem_cons_self ..)
      have hx:x∈y :: m:=hp.subset (List.mem_cons_self ..)
      have e:x=y:=by
        rcases List.mem_cons.1 hx with h | h
        · exact h
        · rcases List.mem_cons.1 hy with h' | h'
          · exact h'.symm
          · exact ahead_tri ((hn x (List.mem_cons_self ..)).trans (hn y (List.mem_cons_of_mem _ h')).symm) (hm'.1 x h) (hl'.1 y h')
      subst e
      rw [order_one (fun z hz=>hn z (List.mem_cons_of_mem _ hz)) (List.Perm.cons_inv hp) hl'.2 hm'.2]
def swapAt (l:yLL) (k:Nat):yLL:=(l.set k (l[k - 1]!)).set (k - 1) (l[k]!)
def OrderTo (l:yLL) (k:Nat):Prop:=InOrder (l.take k)
theorem orderTo_iff {l:yLL} {k:Nat} (hk:k≤l.length):OrderTo l k↔∀ i j,i < j→j < k→¬ ahead (l[j]!) (l[i]!):=by
  unfold OrderTo InOrder
  rw [List.pairwise_iff_getElem]
  constructor
  · intro h i j hij hj
    have:=h i j (by rw [List.length_take];omega) (by rw [List.length_take];omega) hij
    rw [List.getElem_take,List.getElem_take] at this
    rwa [getElem!_pos l i qf,getElem!_pos l j qf]
  · intro h i j hi hj hij
    rw [List.length_take] at hi hj
    rw [List.getElem_take,List.getElem_take,← getElem!_pos l i qf,← getElem!_pos l j qf]
    exact h i j hij qf
theorem swap_len (l:yLL) (k:Nat):(swapAt l k).length=l.length:=by simp [swapAt]
theorem swap_get {l:yLL} {k p:Nat} (hk:0 < k) (hl:k < l.length):(swapAt l k)[p]! =if p=k - 1 then l[k]! else if p=k then l[k - 1]! else l[p]! :=by
  unfold swapAt
  rw [getset (by rw [List.length_set];omega),getset hl]
theorem swap_perm {l:yLL} {k:Nat} (hk:0 < k) (hl:k < l.length):(swapAt l k).Perm l:=by
  obtain ⟨j,rfl⟩:∃ j,k=j+1:=⟨k - 1,by omega⟩
  have e1:l=l.take j++(l[j]! :: l[j+1]! :: l.drop (j+2)):=by
    rw [getElem!_pos l j qf,getElem!_pos l (j+1) hl]
    conv=>lhs;rw [← List.take_append_drop j l]
    rw [List.drop_eq_getElem_cons (show j < l.length by omega),List.drop_eq_getElem_cons hl]
  have e2:swapAt l (j+1)=l.take j++(l[j+1]! :: l[j]! :: l.drop (j+2)):=by
    have hlen:(l.take j).length=j:=List.length_take_of_le qf
    refine ext_get (by rw [swap_len];simp;omega) fun p hp=>?_
    rw [swap_len] at hp
    rw [swap_get hk hl]
    have hp' :p < (l.take j++(l[j+1]! :: l[j]! :: l.drop (j+2))).length:=by simp;omega
    rw [getElem!_pos (l.take j++(l[j+1]! :: l[j]! :: l.drop (j+2))) p hp']
    by_cases h1:p < j
    · rw [if_neg qf,if_neg qf,List.getElem_append_left qf,List.getElem_take,getElem!_pos l p hp]
    · rw [List.getElem_append_right qf]
      simp only [hlen]
      by_cases h2:p=j
      · subst h2;simp
      · by_cases h3:p=j+1
        · subst h3;simp
        · rw [if_neg qf,if_neg qf]
          obtain ⟨q,rfl⟩:∃ q,p=j+2+q:=⟨p - (j+2),by omega⟩
          rw [getElem!_pos l _ hp]
          have:j+2+q - j=q+1+1:=by omega
          simp only [this,List.getElem_cons_succ,List.getElem_drop]
  rw [e2]
  conv=>rhs;rw [e1]
  exact List.Perm.append_left _ (List.Perm.swap ..)
def InsTo (l:yLL) (i k:Nat):Prop:=∀ a b,a < b→b≤i→b≠k→¬ ahead (l[b]!) (l[a]!)
theorem InsTo.start {l:yLL} {i:Nat} (h:∀ a b,a < b→b < i→¬ ahead (l[b]!) (l[a]!)):InsTo l i i:=fun a b hab hb hne=>h a b hab qf
theorem InsTo.down {l:yLL} {i k n:Nat} (h:InsTo l i k) (hn:∀ j,j < l.length→(l[j]!).length=n) (hk:0 < k) (hki:k≤i) (hi:i < l.length) (h1:ahead (l[k]!) (l[k - 1]!)):InsTo (swapAt l k) i (k - 1):=by
  intro a b hab hb hne
  have hlk:=hn k qf
  have hlk1:=hn (k - 1) qf
  rw [swap_get hk qf,swap_get hk qf,if_neg hne]
  by_cases hbk:b=k
  · subst hbk
    rw [if_pos rfl]
    by_cases ha:a=b - 1
    · rw [if_pos ha]
      intro h2
      exact ahead_irr _ (ahead_trans qf h1 h2)
    · rw [if_neg ha,if_neg qf]
      exact h a (b - 1) qf qf qf
  · rw [if_neg hbk]
    by_cases ha:a=k - 1
    · rw [if_pos ha];exact h k b qf hb hbk
    · rw [if_neg ha]
      by_cases hak:a=k
      · rw [if_pos hak];exact h (k - 1) b qf hb hbk
      · rw [if_neg hak];exact h a b hab hb hbk
theorem InsTo.stop {l:yLL} {i k n:Nat} (h:InsTo l i k) (hn:∀ j,j < l.length→(l[j]!).length=n) (hki:k≤i) (hi:i < l.length) (h1:k=0∨¬ ahead (l[k]!) (l[k - 1]!)):∀ a b,a < b→b < i+1→¬ ahead (l[b]!) (l[a]!):=by
  intro a b hab hb
  by_cases hbk:b=k
  · subst hbk
    have h1:¬ ahead (l[b]!) (l[b - 1]!):=h1.resolve_left qf
    by_cases ha:a=b - 1
    · subst ha;exact h1
    · intro h2
      have h3:=h a (b - 1) qf qf qf
      have hla:=hn a qf
      have hlb:=hn b qf
      have hlb1:=hn (b - 1) qf
      by_cases h4:ahead (l[a]!) (l[b - 1]!)
      · exact h1 (ahead_trans qf h2 h4)
      · have e:=ahead_tri qf h4 h3
        rw [e] at h2;exact h1 h2
  · exact h a b hab qf hbk
end
section
open Go.RowKit
section
variable {α : Type} [qX α]
theorem reps_perm {w:World} (h1:qX.size α=1):∀ {z z' :List (Value×α)},z.Perm z' →∀ {F:yLN},reps w F (z.map Prod.fst) (z.map Prod.snd)→∃ F',F'.Perm F∧reps w F' (z'.map Prod.fst) (z'.map Prod.snd):=by
  intro z z' hp
  have one:∀ {c:List Value} {G:yLN} {x:α},qX.rep w G c x→∃ v,c=[v]:=fun h=>List.length_eq_one_iff.1 ((qX.len h).trans h1)
  induction hp with
  | nil=>intro F h;exact ⟨F,.refl _,h⟩
  | cons x _ ih=>
    rintro F ⟨F1,F2,c1,c2,rfl,hv,hx,hr⟩
    obtain ⟨v,rfl⟩:=one hx
    obtain ⟨rfl,rfl⟩:=List.cons.inj hv
    obtain ⟨F',hF,hr'⟩:=ih hr
    exact ⟨F1++F',hF.append_left F1,F1,F',[x.1],_,rfl,rfl,hx,hr'⟩
  | swap x y l=>
    rintro F ⟨F1,F2,c1,c2,rfl,hv,hx,F3,F4,c3,c4,rfl,hv2,hy,hr⟩
    obtain ⟨v,rfl⟩:=one hx
    obtain ⟨u,rfl⟩:=one hy
    subst hv2
    obtain ⟨e1,e2⟩:=List.cons.inj hv
    obtain ⟨e3,e4⟩:=List.cons.inj e2
    subst e1 e3 e4
    refine ⟨F3++(F1++F4),?_,F3,F1++F4,[x.1],y.1 :: _,rfl,rfl,hy,F1,F4,[y.1],_,rfl,rfl,hx,hr⟩
    rw [← List.append_assoc,← List.append_assoc]
    exact List.perm_append_comm.append_right F4
  | trans _ _ ih1 ih2=>
    intro F h
    obtain ⟨F1,h1,h2⟩:=ih1 h
    obtain ⟨F2,h3,h4⟩:=ih2 h2
    exact ⟨F2,h3.trans h1,h4⟩
end
theorem swapZ {α:Type}:∀ {l:List α} {i:Nat} {a b:α},l[i]? =some a→l[i+1]? =some b→l.Perm ((l.set (i+1) a).set i b)
  | [],_,_,_,h,_=>by simp at h
  | x :: l,0,a,b,h,h1=>by
    cases l with
    | nil=>simp at h1
    | cons y l=>
      simp only [List.getElem?_cons_zero,Option.some.injEq] at h
      simp only [List.getElem?_cons_succ,List.getElem?_cons_zero,Option.some.injEq,Nat.zero_add] at h1
      subst h h1
      exact List.Perm.swap ..
  | x :: l,i+1,a,b,h,h1=>by
    simp only [List.getElem?_cons_succ] at h h1
    exact (swapZ h h1).cons x
theorem zip_at {α β:Type}:∀ {xs:List α} {l:List β} {i:Nat} {a:α} {b:β},xs[i]? =some a→l[i]? =some b→(xs.zip l)[i]? =some (a,b):=by
  intro xs l i a b h h1
  rw [List.getElem?_zip_eq_some]
  exact ⟨h,h1⟩
theorem zip_fst {α β:Type}:∀ {xs:List α} {l:List β},xs.length=l.length→(xs.zip l).map Prod.fst=xs:=by
  intro xs l h;exact List.map_fst_zip qf
theorem zip_snd {α β:Type}:∀ {xs:List α} {l:List β},xs.length=l.length→(xs.zip l).map Prod.snd=l:=by
  intro xs l h;exact List.map_snd_zip qf
section
variable {W0 w : World} {ps : List Prv} {Γ : List Fact}
theorem St.rowElemX {α:Type} [qX α] (H:St W0 w ps Γ) (k:Nat) {b c:Nat} {e:TypeId} {nn:Nat} {xs:List Value} (hp:ps[k]? =some (.row (Sv (some ⟨b,0,none⟩) nn c) e 1 nn xs)) (j:Nat) {fr:Bool} {F:yLN} {l:List (List α)}
    (hf:Γ[j]? =some (xN fr F xs l)) {iv:Int} (i:Nat) (h:iv.toNat=i) (h1:i < nn):
    ∃ (a:yOA) (c' :Nat) (G:yLN),(∀ x∈G,x∈F)∧w.cell? ⟨b,0+iv.toNat * 1,none⟩=some (Sv a (l[i]!).length c')∧xs[0+iv.toNat * 1]? =some (Sv a (l[i]!).length c')∧xs[iv.toNat]? =some (Sv a (l[i]!).length c')∧St W0 w ps (isF fr G (Sv a (l[i]!).length c') (l[i]!) :: Γ):=by
  obtain ⟨cs,G,hc,hr,hsub,hfr,v1,v2,hx,hv⟩:=H.rowElem k hp j hf Nat.one_pos h h1
  obtain ⟨a,c',rfl,hx'⟩:=id hr
  have hxi:xs[i]? =some (Sv a (l[i]!).length c'):=by
    have hl1:v1.length=i:=by rw [hv];exact Nat.mul_one _
    rw [hx,List.append_assoc,List.getElem?_append_right qf]
    simp [hl1]
  exact ⟨a,c',G,hsub,by simpa [qX.size] using hc 0 _ rfl,by rw [show 0+iv.toNat * 1=i by omega];exact hxi,by rw [h];exact hxi,H.yL j hf _ ⟨hr,hfr⟩ hsub⟩
theorem St.swapR (H:St W0 w ps Γ) (j:Nat) {fr:Bool} {F:yLN} {xs:List Value} {l:yLL} (hf:Γ[j]? =some (xN fr F xs l)) {k i:Nat} (hk:0 < k) (hkl:k < l.length) (hi:i=k - 1) {v0 v1:Value} (h0:xs[i]? =some v0) (h1:xs[k]? =some v1):
    ∃ F',F'.Perm F∧St W0 w ps (xN fr F' ((xs.set k v0).set i v1) (swapAt l k) :: Γ):=by
  obtain ⟨hr,hfr⟩:=H.get j hf
  obtain ⟨i,rfl⟩:∃ i,k=i+1:=⟨k - 1,by omega⟩
  rw [show i+1 - 1=i from rfl] at hi
  subst hi
  have hl:xs.length=l.length:=by have:=reps_len hr;simpa [qX.size] using this
  have e0:l[i]? =some (l[i]!):=by rw [getElem!_pos l i qf];exact List.getElem?_eq_getElem qf
  have e1:l[i+1]? =some (l[i+1]!):=by rw [getElem!_pos l (i+1) hkl];exact List.getElem?_eq_getElem hkl
  have hp:=swapZ (zip_at h0 e0) (zip_at h1 e1)
  have hr' :reps w F ((xs.zip l).map Prod.fst) ((xs.zip l).map Prod.snd):=by
    rw [zip_fst hl,zip_snd hl]
    exact hr
  obtain ⟨F',hF,h2⟩:=reps_perm rfl hp hr'
  refine ⟨F',hF,H.yL j hf _ ⟨?_,fun e x hx=>hfr e x (hF.subset hx)⟩ fun x hx=>hF.subset hx⟩
  rw [List.map_set,List.map_set,List.map_set,List.map_set,zip_fst hl,zip_snd hl] at h2
  exact h2
theorem Fresh.perm {B:Nat} {L:List yLN} {F F' :yLN} (N:Fresh B (F :: L)) (h:F'.Perm F):Fresh B (F' :: L):=N.less (fun b hb=>h.subset hb) fun hn=>h.nodup_iff.2 hn
end
section
variable {P : Program} {n : Nat} {ρ : Env} {w : World}
theorem ret3 {fn:Func} {R:Ending→World→Prop} {t u z:Nat} (v x y:Value) (hr:fn.results=#[.tmp t,.tmp u,.tmp z]) (hv:ev n ρ (.tmp t)=v) (hx:ev n ρ (.tmp u)=x) (hy:ev n ρ (.tmp z)=y) (h:R (.returned (.tuple #[v,x,y])) w):bodyPost P fn R .ret (mk n ρ) w:=by
  refine bodyPost_ret (results_tmp3 hr _ _ _) rfl ?_
  have e:=congrFun (X8 n ρ) (.tmp t)
  have e' :=congrFun (X8 n ρ) (.tmp u)
  have e'' :=congrFun (X8 n ρ) (.tmp z)
  simp only [Act.eval] at e e' e''
  rw [e,hv,e',hx,e'',hy]
  exact h
end
end
section

def FullOk (parts:yLL) (rest:yLI):Prop:=∀ i,i < parts.length→within (parts[i]!) rest=false
def FullTo (parts:yLL) (rest:yLI) (k:Nat):Prop:=∀ i,i < k→within (parts[i]!) rest=false
theorem FullTo.succ {parts:yLL} {rest:yLI} {k:Nat} (h:FullTo parts rest k) (h1:within (parts[k]!) rest=false):FullTo parts rest (k+1):=fun j hj=>by
  by_cases e:j=k
  · subst e;exact h1
  · exact h j qf
open Classical in
noncomputable def packs (parts:yLL):Nat→Nat→yLI→yLL
  | 0,_,rest=>if FullOk parts rest then [[]] else []
  | f+1,k,rest=>(List.range ((jF (parts[k]!) rest).toNat+1)).flatMap fun (n:Nat)=>(packs parts f (k+1) (vZ rest (parts[k]!) (-(n:Int)))).map ((n:Int) :: ·)
noncomputable def yB (parts:yLL) (f k:Nat) (rest:yLI) (m:Nat):yLL:=
  (List.range m).flatMap fun (n:Nat)=>(packs parts f (k+1) (vZ rest (parts[k]!) (-(n:Int)))).map ((n:Int) :: ·)
theorem packs_succ (parts:yLL) (f k:Nat) (rest:yLI):packs parts (f+1) k rest=yB parts f k rest ((jF (parts[k]!) rest).toNat+1):=rfl
theorem packsTo_zero (parts:yLL) (f k:Nat) (rest:yLI):yB parts f k rest 0=[]:=rfl
theorem packsTo_succ (parts:yLL) (f k:Nat) (rest:yLI) (m:Nat):
    yB parts f k rest (m+1)=yB parts f k rest m++(packs parts f (k+1) (vZ rest (parts[k]!) (-(m:Int)))).map ((m:Int) :: ·):=by
  simp [yB,List.range_succ]
theorem packs_full {parts:yLL} {k:Nat} {rest:yLI} (h:FullOk parts rest):packs parts 0 k rest=[[]]:=by rw [packs,if_pos h]
theorem packs_none {parts:yLL} {k:Nat} {rest:yLI} (h:¬ FullOk parts rest):packs parts 0 k rest=[]:=by rw [packs,if_neg h]
def gath (out more:yLL):yLL:=(out++more).take 2001
theorem gath_nil {out:yLL} (h:out.length≤2001):gath out []=out:=by unfold gath;rw [List.append_nil];exact List.take_of_length_le h
theorem gath_one {out:yLL} {x:yLI} (h:out.length≤2000):gath out [x]=out++[x]:=by
  unfold gath;rw [List.take_of_length_le];simp;omega
theorem gath_len (out more:yLL):(gath out more).length≤2001:=by simp [gath];omega
theorem gath_room {out more:yLL} (h:(gath out more).length≤2000):gath out more=out++more:=by
  unfold gath at *
  rw [List.length_take] at h
  exact List.take_of_length_le qf
theorem gath_cat {out a b:yLL} (h:(gath out a).length≤2000):gath (gath out a) b=gath out (a++b):=by
  rw [gath_room h];simp [gath]
theorem gath_stop {out a b:yLL} (h:¬ (gath out a).length≤2000):gath out a=gath out (a++b):=by
  unfold gath at *
  rw [List.length_take] at h
  rw [← List.append_assoc]
  exact (List.take_append_of_le_length (l₁:=out++a) (l₂:=b) qf).symm
def begins (b:yLI) (l:yLL):yLL:=l.map (b++·)
theorem begins_cat (b:yLI) (l m:yLL):begins b (l++m)=begins b l++begins b m:=by simp [begins]
theorem begins_cons (b:yLI) (n:Int) (l:yLL):begins b (l.map (n :: ·))=begins (b++[n]) l:=by simp [begins]
theorem begins_nil (l:yLL):begins [] l=l:=by simp [begins]
theorem begins_one (b:yLI):begins b [[]]=[b]:=by simp [begins]
theorem gath_step {parts:yLL} {f k m:Nat} {rest b:yLI} {out:yLL} (h:(gath out (begins b (yB parts f k rest m))).length≤2000):
    gath (gath out (begins b (yB parts f k rest m))) (begins (b++[(m:Int)]) (packs parts f (k+1) (vZ rest (parts[k]!) (-(m:Int)))))=gath out (begins b (yB parts f k rest (m+1))):=by
  rw [gath_cat h,packsTo_succ,begins_cat,begins_cons]
theorem packsTo_more {parts:yLL} {f k:Nat} {rest:yLI}:∀ {m M:Nat},m≤M→∃ more,yB parts f k rest M=yB parts f k rest m++more
  | m, 0, h => ⟨[], by obtain rfl : m = 0 := by omega
                       simp⟩
  | m,M+1,h=>by
    by_cases e:m=M+1
    · subst e;exact ⟨[],by simp⟩
    · obtain ⟨more,hm⟩:=packsTo_more (parts:=parts) (f:=f) (k:=k) (rest:=rest) (show m≤M by omega)
      exact ⟨_,by rw [packsTo_succ,hm,List.append_assoc]⟩
theorem gath_end {parts:yLL} {f k m:Nat} {rest b:yLI} {out:yLL} (hm:m≤(jF (parts[k]!) rest).toNat+1) (h:m=(jF (parts[k]!) rest).toNat+1∨¬ (gath out (begins b (yB parts f k rest m))).length≤2000):
    gath out (begins b (yB parts f k rest m))=gath out (begins b (packs parts (f+1) k rest)):=by
  rw [packs_succ]
  rcases h with h | h
  · rw [h]
  · obtain ⟨more,e⟩:=packsTo_more (parts:=parts) (f:=f) (k:=k) (rest:=rest) hm
    rw [e,begins_cat]
    exact gath_stop h
open Classical in
noncomputable def zk (b:yLI) (parts:yLL):yLL×Int:=
  if Xh b > 16 then ([],3) else if (packs parts parts.length 0 b).length > 2000 then ([],3) else (packs parts parts.length 0 b,0)
theorem gath_all {l:yLL}:(gath [] l).length > 2000↔l.length > 2000:=by unfold gath;rw [List.nil_append,List.length_take];omega
theorem gath_few {l:yLL} (h:¬ l.length > 2000):gath [] l=l:=by unfold gath;rw [List.nil_append];exact List.take_of_length_le qf
theorem packs_len {parts:yLL}:∀ {f k:Nat} {rest x:yLI},x∈packs parts f k rest→x.length=f
  | 0,k,rest,x,h=>by
    rw [packs] at h
    split at h
    · obtain rfl:=List.mem_singleton.1 h;rfl
    · simp at h
  | f+1,k,rest,x,h=>by
    rw [packs,List.mem_flatMap] at h
    obtain ⟨n,_,h⟩:=h
    obtain ⟨y,hy,rfl⟩:=List.mem_map.1 h
    rw [List.length_cons,packs_len hy]
def PartsOk (K:Nat) (parts:yLL):Prop:=∀ i,i < parts.length→(parts[i]!).length=K∧(∀ q,q < K→0≤(parts[i]!)[q]! ∧(parts[i]!)[q]! ≤1000)∧∃ j,j < K∧0 < (parts[i]!)[j]!
def RestOk (K:Nat) (rest:yLI):Prop:=rest.length=K∧∀ q,q < K→0≤rest[q]! ∧rest[q]! ≤1000
def VQ (parts:yLL) (rest:yLI):Prop:=∃ K,K≤8∧PartsOk K parts∧RestOk K rest∧parts.length≤8

theorem times_bd {K:Nat} {parts:yLL} {rest:yLI} (hP:PartsOk K parts) (hR:RestOk K rest) {k:Nat} (hk:k < parts.length):0≤jF (parts[k]!) rest∧jF (parts[k]!) rest≤1000:=
  Vs (fun q hq=>(hR.2 q (by have:=(hP k hk).1;omega)).1) _ (Nat.le_refl _)
theorem take_get {K:Nat} {parts:yLL} {rest:yLI} (hP:PartsOk K parts) (hR:RestOk K rest) {k:Nat} (hk:k < parts.length) {n:Int} (h0:0≤n) (h1:n≤jF (parts[k]!) rest) {q:Nat} (hq:q < K):
    0≤rest[q]! + -n * (parts[k]!)[q]! ∧rest[q]! + -n * (parts[k]!)[q]! ≤rest[q]! :=by
  obtain ⟨hl,hb,_⟩:=hP k hk
  have a:=timesL_left (l:=parts[k]!) (m:=rest) (fun j hj=>(hb j qf).1) (fun j hj=>(hR.2 j qf).1) (k:=q) qf
  have b:=Int.mul_le_mul_of_nonneg_right h1 (hb q hq).1
  have c:=Int.mul_nonneg h0 (hb q hq).1
  have d: -n * (parts[k]!)[q]! = -(n * (parts[k]!)[q]!):=Int.neg_mul ..
  have e: -(jF (parts[k]!) rest) * (parts[k]!)[q]! = -(jF (parts[k]!) rest * (parts[k]!)[q]!):=Int.neg_mul ..
  omega
theorem RestOk.take {K:Nat} {parts:yLL} {rest:yLI} (hP:PartsOk K parts) (hR:RestOk K rest) {k:Nat} (hk:k < parts.length) {n:Int} (h0:0≤n) (h1:n≤jF (parts[k]!) rest):RestOk K (vZ rest (parts[k]!) (-n)):=by
  refine ⟨by rw [Qy];exact hR.1,fun q hq=>?_⟩
  rw [VT (by have:=hR.1;omega)]
  have:=take_get hP hR hk h0 h1 hq
  have:=hR.2 q hq
  omega
theorem VQ.times {parts:yLL} {rest:yLI} (h:VQ parts rest) {k:Nat} (hk:k < parts.length):
    (parts[k]!).length≤rest.length∧(∀ q,q < (parts[k]!).length→0≤rest[q]! ∧rest[q]! ≤1000)∧(∃ j,j < (parts[k]!).length∧0 < (parts[k]!)[j]!)∧rest.length≤8∧0≤jF (parts[k]!) rest∧jF (parts[k]!) rest≤1000:=by
  obtain ⟨K,hK,hP,hR,hn⟩:=h
  obtain ⟨hl,hb,hj⟩:=hP k hk
  have ht:=times_bd hP hR hk
  refine ⟨by have:=hR.1;omega,fun q hq=>hR.2 q qf,by rw [hl];exact hj,by have:=hR.1;omega,ht⟩
theorem VQ.plus {parts:yLL} {rest:yLI} (h:VQ parts rest) {k:Nat} (hk:k < parts.length) {n:Int} (h0:0≤n) (h1:n≤jF (parts[k]!) rest):
    rest.length≤(parts[k]!).length∧Mid rest∧Vb (parts[k]!) (-n)∧VQ parts (vZ rest (parts[k]!) (-n)):=by
  obtain ⟨K,hK,hP,hR,hn⟩:=h
  obtain ⟨hl,hb,hj⟩:=hP k hk
  have ht:=times_bd hP hR hk
  refine ⟨by have:=hR.1;omega,⟨by have:=hR.1;omega,fun q hq=>by have:=hR.2 q (by have:=hR.1;omega);omega⟩,fun q hq=>?_,K,hK,hP,hR.take hP hk h0 h1,hn⟩
  have a:=hb q qf
  have b:=Int.mul_nonneg h0 a.1
  have c:=Int.mul_le_mul (show n≤1000 by omega) a.2 a.1 qf
  have d: -n * (parts[k]!)[q]! = -(n * (parts[k]!)[q]!):=Int.neg_mul ..
  omega
theorem VQ.small {parts:yLL} {rest:yLI} (h:VQ parts rest):rest.length≤8∧parts.length≤8:=by
  obtain ⟨K,hK,_,hR,hn⟩:=h
  exact ⟨by have:=hR.1;omega,hn⟩
theorem VQ.smallB {parts:yLL} {rest:yLI} (h:VQ parts rest):Small rest:=by
  obtain ⟨K,hK,_,hR,hn⟩:=h
  exact ⟨by have:=hR.1;omega,fun q hq=>by have:=hR.2 q (by have:=hR.1;omega);omega⟩

theorem pack_step {parts:yLL} {rest begin' :yLI} {out:yLL} {f n:Nat} (hf:begin'.length+f=parts.length) (hp:begin'.length < parts.length)
    (h:(gath out (begins begin' (yB parts (f - 1) begin'.length rest n))).length≤2000):
    gath (gath out (begins begin' (yB parts (f - 1) begin'.length rest n))) (begins (begin' ++[(n:Int)]) (packs parts (parts.length - (begin' ++[(n:Int)]).length) (begin' ++[(n:Int)]).length (vZ rest (parts[begin'.length]!) (-(n:Int)))))=
      gath out (begins begin' (yB parts (f - 1) begin'.length rest (n+1))):=by
  rw [← gath_step h,List.length_append,List.length_cons,List.length_nil,show parts.length - (begin'.length+(0+1))=f - 1 by omega]
theorem pack_start {parts:yLL} {rest begin' :yLI} {out:yLL} {f:Nat} (h:out.length≤2000):out=gath out (begins begin' (yB parts f begin'.length rest 0)):=by
  rw [packsTo_zero];exact (gath_nil qf).symm
theorem pack_full {parts:yLL} {rest begin' :yLI} {out:yLL} (hl:begin'.length=parts.length) (h:FullOk parts rest) (ho:out.length≤2000):
    gath out (begins begin' (packs parts (parts.length - begin'.length) begin'.length rest))=out++[begin']:=by
  rw [show parts.length - begin'.length=0 by omega,packs_full h,begins_one,gath_one ho]
theorem pack_none {parts:yLL} {rest begin' :yLI} {out:yLL} (hl:begin'.length=parts.length) (h:¬ FullOk parts rest) (ho:out.length≤2000):
    gath out (begins begin' (packs parts (parts.length - begin'.length) begin'.length rest))=out:=by
  rw [show parts.length - begin'.length=0 by omega,packs_none h];exact gath_nil qf
theorem pack_end {parts:yLL} {rest begin' :yLI} {out:yLL} {f n:Nat} (hf:begin'.length+f=parts.length) (hp:begin'.length < parts.length) (hn:(n:Int)≤jF (parts[begin'.length]!) rest+1)
    (h0:0≤jF (parts[begin'.length]!) rest) (h:¬ (n:Int)≤jF (parts[begin'.length]!) rest∨¬ ((gath out (begins begin' (yB parts (f - 1) begin'.length rest n))).length:Int)≤2000):
    gath out (begins begin' (packs parts (parts.length - begin'.length) begin'.length rest))=gath out (begins begin' (yB parts (f - 1) begin'.length rest n)):=by
  obtain ⟨f,rfl⟩:∃ g,f=g+1:=⟨f - 1,by omega⟩
  rw [show parts.length - begin'.length=f+1 by omega]
  rw [show f+1 - 1=f from rfl] at h ⊢
  exact (gath_end qf (by rcases h with h | h;(left;omega);(right;omega))).symm
theorem all_a {b:yLI} {parts:yLL} (h:Xh b > 16):zk b parts=([],3):=by rw [zk,if_pos h]
theorem all_b {b:yLI} {parts:yLL} (h:¬ Xh b > 16) (h1:((gath ([]:yLL) (begins ([]:yLI) (packs parts (parts.length - ([]:yLI).length) ([]:yLI).length b))).length:Int) > 2000):zk b parts=([],3):=by
  replace h1:(gath [] (begins [] (packs parts (parts.length - 0) 0 b))).length > 2000:=by have:((gath [] (begins [] (packs parts (parts.length - 0) 0 b))).length:Int) > 2000:=h1;omega
  rw [begins_nil] at h1
  have h2:(packs parts parts.length 0 b).length > 2000:=gath_all.1 h1
  rw [zk,if_neg h,if_pos h2]
theorem all_0 {b:yLI} {parts:yLL} (h:¬ Xh b > 16) (h1:¬ ((gath ([]:yLL) (begins ([]:yLI) (packs parts (parts.length - ([]:yLI).length) ([]:yLI).length b))).length:Int) > 2000):
    zk b parts=(gath ([]:yLL) (begins ([]:yLI) (packs parts (parts.length - ([]:yLI).length) ([]:yLI).length b)),0):=by
  show zk b parts=(gath [] (begins [] (packs parts (parts.length - 0) 0 b)),0)
  replace h1:¬ (gath [] (begins [] (packs parts (parts.length - 0) 0 b))).length > 2000:=fun h=>h1 (by have:((gath [] (begins [] (packs parts (parts.length - 0) 0 b))).length:Int) > 2000:=qf;exact this)
  rw [begins_nil] at h1 ⊢
  have h2:¬ (packs parts parts.length 0 b).length > 2000:=fun h=>h1 (gath_all.2 h)
  rw [zk,if_neg h,if_neg h2,show parts.length - 0=parts.length from rfl,gath_few h2]

theorem fmap_le {α β:Type} {c:Nat} (g:α→List β):∀ (l:List α),(∀ x∈l,(g x).length≤c)→(l.flatMap g).length≤l.length * c
  | [],_=>by simp
  | x :: l,h=>by
    have h1:=h x (List.mem_cons_self ..)
    have h2:=fmap_le g l fun y hy=>h y (List.mem_cons_of_mem _ hy)
    rw [List.flatMap_cons,List.length_append,List.length_cons,Nat.add_mul,Nat.one_mul]
    omega
theorem within_more {K:Nat} {parts:yLL} {rest:yLI} (hP:PartsOk K parts) (hR:RestOk K rest) {k:Nat} (hk:k < parts.length) {n:Int} (h0:0≤n) (h1:n < jF (parts[k]!) rest):
    within (parts[k]!) (vZ rest (parts[k]!) (-n))=true:=by
  rw [within_iff]
  intro q hq
  obtain ⟨hl,hb,_⟩:=hP k hk
  rw [VT (by have:=hR.1;omega)]
  have a:=(take_get hP hR hk (show 0≤n+1 by omega) qf (q:=q) qf).1
  have d: -n * (parts[k]!)[q]! = -(n * (parts[k]!)[q]!):=Int.neg_mul ..
  have e: -(n+1) * (parts[k]!)[q]! = -((n+1) * (parts[k]!)[q]!):=Int.neg_mul ..
  have g:(n+1) * (parts[k]!)[q]! =n * (parts[k]!)[q]! +(parts[k]!)[q]! :=by rw [Int.add_mul,Int.one_mul]
  omega
theorem within_none {K:Nat} {parts:yLL} {rest:yLI} (hP:PartsOk K parts) (hR:RestOk K rest) {k:Nat} (hk:k < parts.length) (hb:jF (parts[k]!) rest < 1000):
    within (parts[k]!) (vZ rest (parts[k]!) (-(jF (parts[k]!) rest)))=false:=by
  rw [Bool.eq_false_iff]
  intro hw
  rw [within_iff] at hw
  obtain ⟨hl,hbb,_⟩:=hP k hk
  have key:∀ j,j≤(parts[k]!).length→jF (parts[k]!) rest+1≤Ql (parts[k]!) rest j:=by
    intro j
    induction j with
    | zero=>intro _;rw [Ql];omega
    | succ j ih=>
      intro hj
      have hi:=ih qf
      rw [Ql]
      split
      · next hpos=>
        have h1:=hw j qf
        rw [VT (by have:=hR.1;omega)] at h1
        have e: -(jF (parts[k]!) rest) * (parts[k]!)[j]! = -(jF (parts[k]!) rest * (parts[k]!)[j]!):=Int.neg_mul ..
        have g:(jF (parts[k]!) rest+1) * (parts[k]!)[j]! =jF (parts[k]!) rest * (parts[k]!)[j]! +(parts[k]!)[j]! :=by rw [Int.add_mul,Int.one_mul]
        have:=(Int.le_ediv_iff_mul_le hpos).2 (show (jF (parts[k]!) rest+1) * (parts[k]!)[j]! ≤rest[j]! by omega)
        omega
      · exact hi
  have:=key _ (Nat.le_refl _)
  unfold jF at this
  omega
theorem within_less {K:Nat} {l m m' :yLI} (hl:l.length=K) (h:within l m=false) (hle:∀ q,q < K→m'[q]! ≤m[q]!):within l m' =false:=by
  rw [Bool.eq_false_iff] at h ⊢
  intro hw
  rw [within_iff] at hw
  exact h (within_iff.2 fun q hq=>Int.le_trans (hw q hq) (hle q qf))
def Few (K:Nat) (rest:yLI):Prop:=∀ q,q < K→rest[q]! ≤16
theorem Few.take {K:Nat} {parts:yLL} {rest:yLI} (hF:Few K rest) (hP:PartsOk K parts) (hR:RestOk K rest) {k:Nat} (hk:k < parts.length) {n:Int} (h0:0≤n) (h1:n≤jF (parts[k]!) rest):Few K (vZ rest (parts[k]!) (-n)):=fun q hq=>by
  rw [VT (by have:=hR.1;omega)]
  have:=take_get hP hR hk h0 h1 hq
  have:=hF q hq
  omega
theorem times_few {K:Nat} {parts:yLL} {rest:yLI} (hF:Few K rest) (hP:PartsOk K parts) (hR:RestOk K rest) {k:Nat} (hk:k < parts.length):jF (parts[k]!) rest≤16:=by
  obtain ⟨hl,hb,j,hj,hpos⟩:=hP k hk
  have h1:=timesTo_le (l:=parts[k]!) (m:=rest) (k:=(parts[k]!).length) (j:=j) qf hpos
  have h2:rest[j]! / (parts[k]!)[j]! ≤16:=by
    exact Int.le_trans (Int.ediv_le_self _ (hR.2 j hj).1) (hF j hj)
  unfold jF
  omega
theorem packs_ne {K:Nat} {parts:yLL} (hP:PartsOk K parts):∀ (f k:Nat) (rest:yLI),k+f=parts.length→RestOk K rest→Few K rest→FullTo parts rest k→packs parts f k rest≠[]
  | 0,k,rest,hk,hR,hF,hT=>by
    rw [packs_full (fun i hi=>hT i qf)];simp
  | f+1,k,rest,hk,hR,hF,hT=>by
    have hb:=times_bd hP hR (k:=k) qf
    have h16:=times_few hF hP hR (k:=k) qf
    have h1:=packs_ne hP f (k+1) (vZ rest (parts[k]!) (-(jF (parts[k]!) rest))) qf (hR.take hP qf hb.1 (Int.le_refl _)) (hF.take hP hR qf hb.1 (Int.le_refl _)) (by
      refine FullTo.succ (fun i hi=>?_) (within_none hP hR qf qf)
      refine within_less (K:=K) (hP i qf).1 (hT i hi) fun q hq=>?_
      rw [VT (by have:=hR.1;omega)]
      exact (take_get hP hR qf hb.1 (Int.le_refl _) hq).2)
    obtain ⟨x,hx⟩:=List.exists_mem_of_ne_nil _ h1
    refine List.ne_nil_of_mem (a:=jF (parts[k]!) rest :: x) ?_
    rw [packs,List.mem_flatMap]
    have e:(((jF (parts[k]!) rest).toNat:Nat):Int)=jF (parts[k]!) rest:=by omega
    refine ⟨(jF (parts[k]!) rest).toNat,List.mem_range.2 qf,List.mem_map.2 ⟨x,?_,by rw [e]⟩⟩
    rw [e];exact hx
theorem packs_few {K:Nat} {parts:yLL} (hP:PartsOk K parts):∀ (f k:Nat) (rest:yLI),k+(f+1)=parts.length→RestOk K rest→Few K rest→(packs parts (f+1) k rest).length≤17 ^ f
  | 0,k,rest,hk,hR,hF=>by
    have hb:=times_bd hP hR (k:=k) qf
    rw [packs_succ,packsTo_succ,List.length_append,List.length_map]
    have h1:yB parts 0 k rest (jF (parts[k]!) rest).toNat=[]:=by
      rw [yB,List.flatMap_eq_nil_iff]
      intro n hn
      rw [List.mem_range] at hn
      rw [packs_none (fun h=>?_),List.map_nil]
      have h2:=within_more hP hR (k:=k) qf (n:=(n:Int)) qf qf
      rw [h k qf] at h2
      cases h2
    rw [h1,List.length_nil,Nat.zero_add,packs]
    split <;> simp
  | f+1,k,rest,hk,hR,hF=>by
    have hb:=times_bd hP hR (k:=k) qf
    have h16:=times_few hF hP hR (k:=k) qf
    rw [packs]
    refine Nat.le_trans (fmap_le (c:=17 ^ f) _ _ fun n hn=>?_) ?_
    · rw [List.mem_range] at hn
      rw [List.length_map]
      exact packs_few hP f (k+1) _ qf (hR.take hP qf qf qf) (hF.take hP hR qf qf qf)
    · rw [List.length_range,Nat.pow_succ,Nat.mul_comm]
      exact Nat.mul_le_mul_left _ qf
theorem sum_few {K:Nat} {rest:yLI} (hR:RestOk K rest) (h:Xh rest≤16):Few K rest:=by
  have key:∀ n,n≤rest.length→0≤sumTo rest n∧∀ q,q < n→rest[q]! ≤sumTo rest n:=by
    intro n
    induction n with
    | zero=>intro _;exact ⟨by simp [sumTo],fun q hq=>by omega⟩
    | succ n ih=>
      intro hn
      have hi:=ih qf
      have hr:=hR.2 n (by have:=hR.1;omega)
      rw [sumTo]
      refine ⟨by omega,fun q hq=>?_⟩
      by_cases e:q=n
      · subst e;omega
      · have:=hi.2 q qf;omega
  intro q hq
  have:=(key rest.length (Nat.le_refl _)).2 q (by have:=hR.1;omega)
  unfold Xh at h
  omega
noncomputable def cellT (s:qI) (t:qP) (k c:Nat):yLI:=(applL s t k).filter fun x=>decide ((s.qB[x.toNat]!).qN=(c:Int))
theorem Xb {s:qI} {t:qP} {k c:Nat} (h:Appl s t k) (hc:(s.qB[k]!).qN=(c:Int)):cellT s t k c++[(k:Int)]=cellT s t (k+1) c:=by
  unfold cellT;rw [← applL_yes h,List.filter_append,List.filter_cons_of_pos (by rw [Int.toNat_natCast];exact decide_eq_true hc),List.filter_nil]
theorem yX {s:qI} {t:qP} {k c:Nat} (h:¬ Appl s t k):cellT s t k c=cellT s t (k+1) c:=by
  unfold cellT;rw [← applL_no h]
theorem yA {s:qI} {t:qP} {k c:Nat} (h:¬ (s.qB[k]!).qN=(c:Int)):cellT s t k c=cellT s t (k+1) c:=by
  by_cases ha:Appl s t k
  · unfold cellT;rw [← applL_yes ha,List.filter_append,List.filter_cons_of_neg (by rw [Int.toNat_natCast];simpa only [decide_eq_true_eq] using h),List.filter_nil,List.append_nil]
  · exact yX ha
def xA (s:qI) (l:yLI):yLL:=l.map fun x=>(s.qB[x.toNat]!).xR
theorem Xa (s:qI) (l:yLI):(xA s l).length=l.length:=by simp [xA]
theorem needs_snoc (s:qI) (l:yLI) (x:Int):xA s l++[(s.qB[x.toNat]!).xR]=xA s (l++[x]):=by simp [xA]
theorem XV {s:qI} {t:qP} {k c:Nat} (h:Appl s t k) (hc:(s.qB[k]!).qN=(c:Int)):xA s (cellT s t k c)++[(s.qB[k]!).xR]=xA s (cellT s t (k+1) c):=by
  rw [← Xb h hc];exact needs_snoc s _ (k:Int)
theorem needs_take {s:qI} {l:yLI} {k:Nat} (h:k < l.length):xA s (l.take k)++[(s.qB[(l[k]!).toNat]!).xR]=xA s (l.take (k+1)):=by rw [needs_snoc,take_snoc h]
theorem needs_get {s:qI} {l:yLI} {k:Nat} (h:k < l.length):(xA s l)[k]! =(s.qB[(l[k]!).toNat]!).xR:=by
  rw [getElem!_pos (xA s l) k (by rw [Xa];exact h)];simp [xA,getElem!_pos l k h]
noncomputable def xX (s:qI) (t:qP) (c:Nat):yLI:=cellT s t s.qB.length c
noncomputable def cellP (s:qI) (t:qP) (c:Nat):yLL×Int:=zk (t.qH[c]!) (xA s (xX s t c))
theorem mem_cellT {s:qI} {t:qP} {k c:Nat} {x:Int} (h:x∈cellT s t k c):0≤x∧x.toNat < k∧Appl s t x.toNat∧(s.qB[x.toNat]!).qN=(c:Int):=by
  unfold cellT at h
  obtain ⟨h1,h2⟩:=List.mem_filter.1 h
  obtain ⟨a,b,d⟩:=mem_applL.1 h1
  exact ⟨a,b,d,by simpa using h2⟩
theorem cellT_at {s:qI} {t:qP} {k c j:Nat} (h:j < (cellT s t k c).length):0≤(cellT s t k c)[j]! ∧((cellT s t k c)[j]!).toNat < k∧Appl s t ((cellT s t k c)[j]!).toNat∧(s.qB[((cellT s t k c)[j]!).toNat]!).qN=(c:Int):=
  mem_cellT (by rw [getElem!_pos _ j h];exact List.getElem_mem h)
theorem cellR_at {s:qI} {t:qP} {c j:Nat} (h:j < (xX s t c).length):0≤(xX s t c)[j]! ∧((xX s t c)[j]!).toNat < s.qB.length∧Appl s t ((xX s t c)[j]!).toNat∧(s.qB[((xX s t c)[j]!).toNat]!).qN=(c:Int):=cellT_at h
theorem ofCell_all {s:qI} (hs:zQ s) (c:Int):∀ k,k≤s.qB.length→VH s.qB c k≤8
  | 0,_=>by simp [VH]
  | k+1,hk=>by
    have h:=ofCell_all hs c k qf
    by_cases e:(s.qB[k]!).qN=c
    · have:=(hs.2.2 k qf).2;rw [e] at this;exact this
    · rw [VH,if_neg e];omega
theorem cellT_len {s:qI} {t:qP} {c:Nat}:∀ k,((cellT s t k c).length:Int)≤VH s.qB (c:Int) k
  | 0=>by simp [cellT,applL,VH]
  | k+1=>by
    have h:=cellT_len (s:=s) (t:=t) (c:=c) k
    rw [VH]
    by_cases e:(s.qB[k]!).qN=(c:Int)
    · rw [if_pos e]
      by_cases ha:Appl s t k
      · rw [← Xb ha e,List.length_append,List.length_singleton];omega
      · rw [← yX ha];omega
    · rw [if_neg e,← yA e];omega
theorem cellT_le (s:qI) (t:qP) (k c:Nat):(cellT s t k c).length≤k:=Nat.le_trans (List.length_filter_le _ _) (applL_le s t k)
theorem cellR_len {s:qI} {t:qP} (hs:zQ s) (c:Nat):(xX s t c).length≤8:=by
  have:=cellT_len (s:=s) (t:=t) (c:=c) s.qB.length
  have:=ofCell_all hs (c:Int) s.qB.length (Nat.le_refl _)
  unfold xX;omega
theorem cell_parts {s:qI} {t:qP} (hs:zQ s) (c:Nat):PartsOk (zI s) (xA s (xX s t c)):=by
  intro i hi
  rw [Xa] at hi
  obtain ⟨a1,a2,a3,a4⟩:=cellR_at hi
  rw [needs_get hi]
  have q:=hs.rule a2
  have b:=q.2.2.2.2.1
  have hl:=b.len
  have hsum:=q.2.2.2.2.2.2.2.2.2.1
  obtain ⟨j,hj,hp⟩:=sum_pos b.1 hsum
  exact ⟨hl,fun q' hq' =>b.get qf,j,by omega,hp⟩
theorem cell_rest {s:qI} {t:qP} (ht:xI s t) {c:Nat} (hc:c < t.qH.length):RestOk (zI s) (t.qH[c]!):=by
  have b:=(ht.2.2.2.2 c hc).1
  exact ⟨b.len,fun q hq=>b.get (by have:=b.len;omega)⟩
theorem cell_pack {s:qI} {t:qP} (hs:zQ s) (ht:xI s t) {c:Nat} (hc:c < t.qH.length):VQ (xA s (xX s t c)) (t.qH[c]!):=
  ⟨zI s,kinds_le hs,cell_parts hs c,cell_rest ht hc,by rw [Xa];exact cellR_len hs c⟩
theorem all_cases {b:yLI} {parts:yLL}:(zk b parts=([],3))∨(Xh b≤16∧zk b parts=(packs parts parts.length 0 b,0)∧(packs parts parts.length 0 b).length≤2000):=by
  unfold zk
  split
  · exact .inl rfl
  · split
    · exact .inl rfl
    · exact .inr ⟨by omega,rfl,by omega⟩
theorem all_len (b:yLI) (parts:yLL):(zk b parts).1.length≤2000:=by
  rcases all_cases (b:=b) (parts:=parts) with h | ⟨_,h,h1⟩ <;> rw [h]
  · simp
  · exact h1
theorem all_at {b:yLI} {parts:yLL} {x:Nat} (h:x < (zk b parts).1.length):((zk b parts).1[x]!).length=parts.length:=by
  rcases all_cases (b:=b) (parts:=parts) with h1 | ⟨_,h1,_⟩
  · rw [h1] at h;simp at h
  · rw [h1] at h ⊢
    exact packs_len (by rw [getElem!_pos _ x h];exact List.getElem_mem h)
theorem all_code {b:yLI} {parts:yLL} (h:(zk b parts).2≠0):(zk b parts).2=3:=by
  rcases all_cases (b:=b) (parts:=parts) with h1 | ⟨_,h1,_⟩
  · rw [h1]
  · rw [h1] at h;exact absurd rfl h

def FewTo (s:qI) (t:qP) (k:Nat):Prop:=∀ c,c < k→(xX s t c).length=0∨¬ Xh (t.qH[c]!) > 16
theorem FewTo.succ {s:qI} {t:qP} {k:Nat} (h:FewTo s t k) (h1:(xX s t k).length=0∨¬ Xh (t.qH[k]!) > 16):FewTo s t (k+1):=fun j hj=>by
  by_cases e:j=k
  · subst e;exact h1
  · exact h j qf
def Yf (s:qI) (t:qP) (k:Nat):Prop:=∀ c,c < k→(xX s t c).length=0∨(cellP s t c).2=0
theorem Yf.succ {s:qI} {t:qP} {k:Nat} (h:Yf s t k) (h1:(xX s t k).length=0∨(cellP s t k).2=0):Yf s t (k+1):=fun j hj=>by
  by_cases e:j=k
  · subst e;exact h1
  · exact h j qf
theorem bad_sum {s:qI} {t:qP} {c n:Nat} (hc:c < n) (h:¬ (xX s t c).length=0) (h1:Xh (t.qH[c]!) > 16):¬ Yf s t n:=fun hg=>by
  rcases hg c hc with h2 | h2
  · exact h h2
  · unfold cellP at h2;rw [all_a h1] at h2;simp at h2
theorem bad_code {s:qI} {t:qP} {c n:Nat} (hc:c < n) (h:¬ (xX s t c).length=0) (h1:¬ (cellP s t c).2=0):¬ Yf s t n:=fun hg=>(hg c hc).elim h h1
noncomputable def VI (s:qI) (t:qP) (k:Nat):yLN:=(List.range k).filter fun c=>decide ((xX s t c).length≠0)
noncomputable def xn (s:qI) (t:qP) (k:Nat):yLL:=(VI s t k).map (xX s t)
noncomputable def xx (s:qI) (t:qP) (k:Nat):List yLL:=(VI s t k).map fun c=>(cellP s t c).1
theorem live_yes {s:qI} {t:qP} {k:Nat} (h:¬ (xX s t k).length=0):VI s t (k+1)=VI s t k++[k]:=by unfold VI;rw [List.range_succ,List.filter_append,List.filter_cons_of_pos (a:=k) (by simpa only [decide_eq_true_eq] using h),List.filter_nil]
theorem live_no {s:qI} {t:qP} {k:Nat} (h:(xX s t k).length=0):VI s t (k+1)=VI s t k:=by unfold VI;rw [List.range_succ,List.filter_append,List.filter_cons_of_neg (by simp only [decide_eq_true_eq];exact fun x=>x h),List.filter_nil,List.append_nil]
theorem rules_yes {s:qI} {t:qP} {k:Nat} (h:¬ (xX s t k).length=0):xn s t k++[xX s t k]=xn s t (k+1):=by simp [xn,live_yes h]
theorem rules_no {s:qI} {t:qP} {k:Nat} (h:(xX s t k).length=0):xn s t k=xn s t (k+1):=by simp [xn,live_no h]
theorem packsL_yes {s:qI} {t:qP} {k:Nat} (h:¬ (xX s t k).length=0):xx s t k++[(cellP s t k).1]=xx s t (k+1):=by simp [xx,live_yes h]
theorem packsL_no {s:qI} {t:qP} {k:Nat} (h:(xX s t k).length=0):xx s t k=xx s t (k+1):=by simp [xx,live_no h]
theorem live_le (s:qI) (t:qP) (k:Nat):(VI s t k).length≤k:=by
  have:=List.length_filter_le (fun c=>decide ((xX s t c).length≠0)) (List.range k)
  simpa [VI] using this
theorem rules_le (s:qI) (t:qP) (k:Nat):(xn s t k).length≤k:=by simpa [xn] using live_le s t k
theorem VL (s:qI) (t:qP) (k:Nat):(xx s t k).length=(xn s t k).length:=by simp [xx,xn]
theorem live_at {s:qI} {t:qP} {k i:Nat} (h:i < (xn s t k).length):∃ c,c < k∧¬ (xX s t c).length=0∧(xn s t k)[i]! =xX s t c∧(xx s t k)[i]! =(cellP s t c).1:=by
  have hl:i < (VI s t k).length:=by simpa [xn] using h
  have hm:=List.mem_filter.1 (show (VI s t k)[i]∈VI s t k from List.getElem_mem hl)
  refine ⟨(VI s t k)[i],by simpa using hm.1,by simpa using hm.2,?_,?_⟩
  · rw [getElem!_pos _ i h];simp [xn]
  · rw [getElem!_pos _ i (by rw [VL];exact h)];simp [xx]

def yU (all:List yLL):Nat→Nat
  | 0=>1
  | k+1=>yU all k * (all[k]!).length
theorem prod_mul (all:List yLL) (k:Nat):((yU all k:Nat):Int) * ((all[k]!).length:Int)=((yU all (k+1):Nat):Int):=by rw [yU,Int.natCast_mul]
theorem prod_mono {all:List yLL} {n:Nat} (h:∀ j,j < n→all[j]! ≠[]):∀ {j i:Nat},i≤j→j≤n→yU all i≤yU all j
  | 0, i, hi, _ => by obtain rfl : i = 0 := by omega
                      exact Nat.le_refl _
  | j+1,i,hi,hj=>by
    by_cases e:i=j+1
    · subst e;exact Nat.le_refl _
    · have h1:=prod_mono h (show i≤j by omega) qf
      have h2:0 < (all[j]!).length:=List.length_pos_iff.2 (h j qf)
      rw [yU]
      exact Nat.le_trans h1 (Nat.le_mul_of_pos_right _ h2)
theorem prod_pre {l:List yLL} {x:yLL}:∀ {k:Nat},k≤l.length→yU (l++[x]) k=yU l k
  | 0,_=>rfl
  | k+1,h=>by
    rw [yU,yU,prod_pre qf]
    congr 1
    rw [getElem!_pos (l++[x]) k qy,getElem!_pos l k qf,List.getElem_append_left]
theorem prod_snoc (l:List yLL) (x:yLL):yU (l++[x]) (l++[x]).length=yU l l.length * x.length:=by
  rw [List.length_append,List.length_singleton,yU,prod_pre (Nat.le_refl _)]
  congr 1
  rw [getElem!_pos (l++[x]) l.length qm];simp
theorem cellP_ne {s:qI} {t:qP} (hs:zQ s) (ht:xI s t) {c:Nat} (hc:c < t.qH.length) (h:(cellP s t c).2=0):(cellP s t c).1≠[]:=by
  unfold cellP at h ⊢
  rcases all_cases (b:=t.qH[c]!) (parts:=xA s (xX s t c)) with h1 | ⟨h0,h1,_⟩
  · rw [h1] at h;simp at h
  · rw [h1]
    exact packs_ne (cell_parts hs c) _ 0 _ (Nat.zero_add _) (cell_rest ht hc) (sum_few (cell_rest ht hc) h0) fun i hi=>by omega
theorem cellP_few {s:qI} {t:qP} (hs:zQ s) (ht:xI s t) {c:Nat} (hc:c < t.qH.length) (hr:¬ (xX s t c).length=0):(cellP s t c).1.length≤17 ^ ((xX s t c).length - 1):=by
  unfold cellP
  rcases all_cases (b:=t.qH[c]!) (parts:=xA s (xX s t c)) with h1 | ⟨h0,h1,_⟩
  · rw [h1];simp
  · rw [h1]
    have:=packs_few (cell_parts (t:=t) hs c) ((xX s t c).length - 1) 0 _ (by rw [Xa];omega) (cell_rest ht hc) (sum_few (cell_rest ht hc) h0)
    rw [Xa,show (xX s t c).length=(xX s t c).length - 1+1 by omega]
    exact this
noncomputable def sumR (s:qI) (t:qP):Nat→Nat
  | 0=>0
  | k+1=>sumR s t k+(xX s t k).length
theorem filter_two (f:Int→Int) (k:Int):∀ (l:yLI),(l.filter fun x=>decide (f x < k+1)).length=(l.filter fun x=>decide (f x < k)).length+(l.filter fun x=>decide (f x=k)).length
  | []=>rfl
  | x :: l=>by
    have h:=filter_two f k l
    simp only [List.filter_cons]
    by_cases h1:f x < k
    · rw [if_pos qy,if_pos (by simpa using h1),if_neg qy];simp only [List.length_cons];omega
    · by_cases h2:f x=k
      · rw [if_pos qy,if_neg (by simpa using h1),if_pos (by simpa using h2)];simp only [List.length_cons];omega
      · rw [if_neg qy,if_neg (by simpa using h1),if_neg (by simpa using h2)];exact h
theorem sumR_eq (s:qI) (t:qP):∀ k,sumR s t k≤((appls s t).filter fun x=>decide ((s.qB[x.toNat]!).qN < (k:Int))).length
  | 0=>Nat.zero_le _
  | k+1=>by
    have h:=sumR_eq s t k
    have h2:=filter_two (fun x=>(s.qB[x.toNat]!).qN) (k:Int) (appls s t)
    rw [sumR,show ((k+1:Nat):Int)=(k:Int)+1 by omega,h2]
    exact Nat.add_le_add h (Nat.le_refl _)
theorem sumR_le {s:qI} {t:qP} (hs:zQ s) (k:Nat):sumR s t k≤16:=
  Nat.le_trans (sumR_eq s t k) (Nat.le_trans (List.length_filter_le _ _) (Nat.le_trans (applL_le s t _) hs.2.1))
theorem prod_few {s:qI} {t:qP} (hs:zQ s) (ht:xI s t):∀ k,k≤t.qH.length→yU (xx s t k) (xx s t k).length≤17 ^ (sumR s t k - 1)
  | 0,_=>by show yU [] 0≤_;rw [yU];exact Nat.one_le_pow _ _ qj
  | k+1,hk=>by
    have h:=prod_few hs ht k qf
    rw [sumR]
    by_cases e:(xX s t k).length=0
    · rw [← packsL_no e,e];exact h
    · rw [← packsL_yes e,prod_snoc]
      refine Nat.le_trans (Nat.mul_le_mul h (cellP_few hs ht qf e)) ?_
      rw [← Nat.pow_add]
      exact Nat.pow_le_pow_right qj qf
theorem packsL_ne {s:qI} {t:qP} (hs:zQ s) (ht:xI s t) {k:Nat} (hk:k≤t.qH.length) (hg:Yf s t k):∀ j,j < (xx s t k).length→(xx s t k)[j]! ≠[]:=fun j hj=>by
  obtain ⟨c,hc,hr,_,h2⟩:=live_at (s:=s) (t:=t) (k:=k) (i:=j) (by rw [← VL];exact hj)
  rw [h2]
  exact cellP_ne hs ht qf ((hg c hc).resolve_left hr)
theorem prod_bd {s:qI} {t:qP} (hs:zQ s) (ht:xI s t) {k:Nat} (hk:k≤t.qH.length) (hg:Yf s t k):∀ j,j≤(xx s t k).length→((yU (xx s t k) j:Nat):Int)≤2862423051509815793:=fun j hj=>by
  have h1:=prod_mono (packsL_ne hs ht hk hg) hj (Nat.le_refl _)
  have h2:=prod_few hs ht k hk
  have h3:17 ^ (sumR s t k - 1)≤17 ^ 15:=Nat.pow_le_pow_right qj (by have:=sumR_le (t:=t) hs k;omega)
  have h4:17 ^ 15=2862423051509815793:=by decide
  omega

def setTo (o r x:yLI):Nat→yLI
  | 0=>o
  | k+1=>(setTo o r x k).set (r[k]!).toNat (x[k]!)
theorem setTo_len (o r x:yLI):∀ k,(setTo o r x k).length=o.length
  | 0=>rfl
  | k+1=>by rw [setTo,List.length_set,setTo_len o r x k]
def setAll (o r x:yLI):yLI:=setTo o r x r.length
theorem setAll_len (o r x:yLI):(setAll o r x).length=o.length:=setTo_len o r x _
def nextK (G:yLL) (r:yLI) (P:yLL) (k:Nat):yLL:=(G.take k).flatMap fun o=>P.map (setAll o r)
def nextX (G:yLL) (r:yLI) (P:yLL) (k x:Nat):yLL:=nextK G r P k++(P.take x).map (setAll (G[k]!) r)
theorem nextX_zero (G:yLL) (r:yLI) (P:yLL) (k:Nat):nextK G r P k=nextX G r P k 0:=by simp [nextX]
theorem nextX_succ {G:yLL} {r:yLI} {P:yLL} {k x:Nat} (h:x < P.length) {v:yLI} (hv:v=setAll (G[k]!) r (P[x]!)):nextX G r P k x++[v]=nextX G r P k (x+1):=by
  subst hv;unfold nextX;rw [List.append_assoc,← take_snoc h,List.map_append];rfl
theorem nextX_end {G:yLL} {r:yLI} {P:yLL} {k x:Nat} (hk:k < G.length) (h:x=P.length):nextX G r P k x=nextK G r P (k+1):=by
  subst h;unfold nextX nextK;rw [List.take_length,← take_snoc hk,List.flatMap_append];simp
theorem nextK_len {G:yLL} {r:yLI} {P:yLL}:∀ {k:Nat},k≤G.length→(nextK G r P k).length=k * P.length
  | 0,_=>by simp [nextK]
  | k+1,h=>by
    rw [← nextX_end (show k < G.length by omega) rfl,nextX,List.length_append,nextK_len qf,List.take_length,List.length_map,Nat.add_mul,Nat.one_mul]
theorem nextX_len {G:yLL} {r:yLI} {P:yLL} {k x:Nat} (hk:k < G.length) (hx:x≤P.length):(nextX G r P k x).length=k * P.length+x:=by
  rw [nextX,List.length_append,nextK_len qf,List.length_map,List.length_take];omega
theorem nextX_le {G:yLL} {r:yLI} {P:yLL} {k x:Nat} (hk:k < G.length) (hx:x≤P.length):(nextX G r P k x).length≤G.length * P.length:=by
  rw [nextX_len hk hx]
  have:=Nat.mul_le_mul_right P.length (show k+1≤G.length from hk)
  rw [Nat.add_mul,Nat.one_mul] at this
  omega
def jZ (n:Nat) (rs:yLL) (all:List yLL):Nat→yLL
  | 0=>[List.replicate n 0]
  | i+1=>nextK (jZ n rs all i) (rs[i]!) (all[i]!) (jZ n rs all i).length
theorem Xy {n:Nat} {rs:yLL} {all:List yLL}:∀ i,(jZ n rs all i).length=yU all i
  | 0=>rfl
  | i+1=>by rw [jZ,nextK_len (Nat.le_refl _),Xy i,yU]
theorem mem_at_L {l:yLL} {k:Nat} (h:k < l.length):l[k]! ∈l:=by rw [getElem!_pos l k h];exact List.getElem_mem h
theorem prodG_row {n:Nat} {rs:yLL} {all:List yLL}:∀ i,∀ x∈jZ n rs all i,x.length=n
  | 0,x,h=>by obtain rfl:=List.mem_singleton.1 h;simp
  | i+1,x,h=>by
    rw [jZ,nextK,List.mem_flatMap] at h
    obtain ⟨o,ho,h⟩:=h
    obtain ⟨y,_,rfl⟩:=List.mem_map.1 h
    rw [setAll_len]
    exact prodG_row i o (List.mem_of_mem_take ho)
theorem prodG_at {n:Nat} {rs:yLL} {all:List yLL} {i k:Nat} (h:k < (jZ n rs all i).length):((jZ n rs all i)[k]!).length=n:=prodG_row i _ (mem_at_L h)
open Classical in
noncomputable def inOrder (l:yLL):yLL:=if h:∃ m,l.Perm m∧InOrder m then Classical.choose h else l
theorem inOrder_eq {n:Nat} {l m:yLL} (hn:∀ x∈l,x.length=n) (hp:l.Perm m) (ho:InOrder m):inOrder l=m:=by
  have h:∃ m,l.Perm m∧InOrder m:=⟨m,hp,ho⟩
  unfold inOrder
  rw [dif_pos h]
  have hc:=Classical.choose_spec h
  exact order_one (n:=n) (fun x hx=>hn x (hc.1.symm.subset hx)) (hc.1.symm.trans hp) hc.2 ho
open Classical in
noncomputable def vJ (s:qI) (t:qP):yLL×Int:=
  if ¬ Yf s t s.qA.length then ([],3) else if yU (xx s t s.qA.length) (xx s t s.qA.length).length > 300 then ([],3)
  else (inOrder (jZ s.qB.length (xn s t s.qA.length) (xx s t s.qA.length) (xx s t s.qA.length).length),0)
theorem cho_3 {s:qI} {t:qP} (h:¬ Yf s t s.qA.length∨yU (xx s t s.qA.length) (xx s t s.qA.length).length > 300):vJ s t=([],3):=by
  unfold vJ
  by_cases h1:Yf s t s.qA.length
  · rw [if_neg (by simpa using h1),if_pos (h.resolve_left (by simpa using h1))]
  · rw [if_pos h1]
theorem cho_0 {s:qI} {t:qP} {m:yLL} (h:Yf s t s.qA.length) (h1:¬ yU (xx s t s.qA.length) (xx s t s.qA.length).length > 300)
    (hp:(jZ s.qB.length (xn s t s.qA.length) (xx s t s.qA.length) (xx s t s.qA.length).length).Perm m) (ho:InOrder m):vJ s t=(m,0):=by
  unfold vJ
  rw [if_neg (by simpa using h),if_neg h1,inOrder_eq (prodG_row _) hp ho]
theorem in_order {l:yLL} {i:Nat} (hi:l.length≤i) (h:∀ a b,a < b→b < i→¬ ahead (l[b]!) (l[a]!)):InOrder l:=by
  have:=(orderTo_iff (l:=l) (k:=l.length) (Nat.le_refl _)).2 fun a b hab hb=>h a b hab qf
  unfold OrderTo at this
  rwa [List.take_length] at this
theorem cho_code {s:qI} {t:qP} {b:yLI} {p:yLL} (h:¬ Yf s t s.qA.length) (h1:¬ (zk b p).2=0):vJ s t=([],(zk b p).2):=by rw [cho_3 (.inl h),all_code h1]
theorem next_le {n i k x:Nat} {rs:yLL} {all:List yLL} (h:∀ j,j < all.length→all[j]! ≠[]) (h1:¬ yU all all.length > 300) (hi:i < all.length) (hk:k < (jZ n rs all i).length) (hx:x≤(all[i]!).length):(nextX (jZ n rs all i) (rs[i]!) (all[i]!) k x).length≤300:=by
  have h2:=nextX_le (r:=rs[i]!) hk hx
  have h3:=prod_mono h (show i+1≤all.length from hi) (Nat.le_refl _)
  rw [yU,← Xy (n:=n) (rs:=rs) i] at h3
  omega
theorem G_le {n i:Nat} {rs:yLL} {all:List yLL} (h:∀ j,j < all.length→all[j]! ≠[]) (h1:¬ yU all all.length > 300) (hi:i≤all.length):(jZ n rs all i).length≤300:=by
  have h3:=prod_mono h hi (Nat.le_refl _)
  rw [Xy];omega
theorem cell_few {s:qI} {t:qP} {n i:Nat} (hs:zQ s) (hi:i < (xn s t n).length):((xn s t n)[i]!).length≤8∧((xx s t n)[i]!).length≤2000:=by
  obtain ⟨c,_,_,e,e1⟩:=live_at hi
  rw [e,e1]
  exact ⟨cellR_len hs c,all_len _ _⟩
theorem choice_at {s:qI} {t:qP} {n i r:Nat} (hi:i < (xn s t n).length) (hr:r < ((xn s t n)[i]!).length):0≤((xn s t n)[i]!)[r]! ∧(((xn s t n)[i]!)[r]!).toNat < s.qB.length:=by
  obtain ⟨c,_,_,e,_⟩:=live_at hi
  rw [e] at hr ⊢
  have:=cellR_at hr
  exact ⟨this.1,this.2.1⟩
theorem pack_at {s:qI} {t:qP} {n i x:Nat} (hi:i < (xn s t n).length) (hx:x < ((xx s t n)[i]!).length):(((xx s t n)[i]!)[x]!).length=((xn s t n)[i]!).length:=by
  obtain ⟨c,_,_,e,e1⟩:=live_at hi
  rw [e1] at hx ⊢
  rw [e]
  exact (all_at hx).trans (Xa _ _)
theorem perm_rows {n m:Nat} {rs:yLL} {all:List yLL} {l:yLL} (h:(jZ n rs all m).Perm l):∀ j,j < l.length→(l[j]!).length=n:=fun j hj=>prodG_row m _ (h.symm.subset (mem_at_L hj))
theorem perm_swap {l m:yLL} {k:Nat} (h:l.Perm m) (hk:0 < k) (hl:k < m.length):l.Perm (swapAt m k):=h.trans (swap_perm hk hl).symm
theorem cho_len (s:qI) (t:qP):(vJ s t).1.length≤300:=by
  unfold vJ
  split
  · simp
  · split
    · simp
    · next h1 h2=>
      show (inOrder _).length≤300
      unfold inOrder
      split
      · next h=>rw [← (Classical.choose_spec h).1.length_eq,Xy];omega
      · rw [Xy];omega
noncomputable def ownL (e:TypeId) (s:qI) (t:qP) (n q:Nat):List (OwnI e):=(List.range n).map fun (c:Nat)=>⟨((appls s t).take q).filter fun x=>decide ((s.qB[x.toNat]!).qN=(c:Int))⟩
theorem ownL_len (e:TypeId) (s:qI) (t:qP) (n q:Nat):(ownL e s t n q).length=n:=by simp [ownL]
theorem ownL_get {e:TypeId} {s:qI} {t:qP} {n q c:Nat} (h:c < n):(ownL e s t n q)[c]! =⟨((appls s t).take q).filter fun x=>decide ((s.qB[x.toNat]!).qN=(c:Int))⟩:=by
  rw [getElem!_pos (ownL e s t n q) c (by rw [ownL_len];exact h)];simp [ownL]
theorem ownL_zero (e:TypeId) (s:qI) (t:qP) (n:Nat):List.replicate n (⟨[]⟩:OwnI e)=ownL e s t n 0:=by
  refine List.ext_getElem (by simp [ownL]) fun i h1 h2=>by simp [ownL]
theorem ownL_set {e:TypeId} {s:qI} {t:qP} {n q c:Nat} (hq:q < (appls s t).length) (hc:(s.qB[((appls s t)[q]!).toNat]!).qN.toNat=c) (h0:0≤(s.qB[((appls s t)[q]!).toNat]!).qN) (hn:c < n)
    {l:List (OwnI e)} (hl:l=(ownL e s t n q).set c ⟨((ownL e s t n q)[c]!).l++[(appls s t)[q]!]⟩):l=ownL e s t n (q+1):=by
  subst hl
  refine List.ext_getElem (by simp [ownL]) fun i h1 h2=>?_
  have hi:i < n:=by simpa [ownL] using h1
  rw [← getElem!_pos _ i h1,← getElem!_pos _ i h2,getset (by rw [ownL_len];exact hn),ownL_get (q:=q+1) hi]
  rw [← take_snoc hq,List.filter_append]
  by_cases e' :i=c
  · subst e'
    rw [if_pos rfl,ownL_get hi,List.filter_cons_of_pos (a:=(appls s t)[q]!) (decide_eq_true qf),List.filter_nil]
  · rw [if_neg e',ownL_get hi]
    rw [List.filter_cons_of_neg (a:=(appls s t)[q]!) (fun h=>by have:=of_decide_eq_true h;omega),List.filter_nil,List.append_nil]
theorem ownL_le {e:TypeId} {s:qI} {t:qP} {n q c:Nat} (h:c < n):((ownL e s t n q)[c]!).l.length≤(appls s t).length:=by
  rw [ownL_get h]
  exact Nat.le_trans (List.length_filter_le _ _) (by rw [List.length_take];omega)
noncomputable def cellsR (s:qI) (t:qP) (n:Nat):yLL:=(List.range n).map (xX s t)
theorem cellsR_len (s:qI) (t:qP) (n:Nat):(cellsR s t n).length=n:=by simp [cellsR]
theorem cellsR_get {s:qI} {t:qP} {n c:Nat} (h:c < n):(cellsR s t n)[c]! =xX s t c:=by
  rw [getElem!_pos (cellsR s t n) c (by rw [cellsR_len];exact h)];simp [cellsR]
theorem ownL_end {e:TypeId} {s:qI} {t:qP} {n q:Nat} (h:(appls s t).length≤q):(ownL e s t n q).map OwnI.l=cellsR s t n:=by
  unfold ownL cellsR
  rw [List.take_of_length_le h,List.map_map]
  rfl
theorem own_bad {s:qI} {t:qP} (hs:zQ s) {q:Nat} (hq:q < (appls s t).length) (h1:Xh (t.qH[(s.qB[((appls s t)[q]!).toNat]!).qN.toNat]!) > 16):¬ Yf s t s.qA.length:=by
  have hm:(appls s t)[q]! ∈appls s t:=by rw [getElem!_pos _ q hq];exact List.getElem_mem hq
  obtain ⟨a,b,d⟩:=mem_applL.1 hm
  have hc:=(hs.rule b).1
  have hcl:=(hs.rule b).cell
  refine bad_sum (c:=(s.qB[((appls s t)[q]!).toNat]!).qN.toNat) hcl (fun h0=>?_) h1
  have:(appls s t)[q]! ∈xX s t (s.qB[((appls s t)[q]!).toNat]!).qN.toNat:=by
    unfold xX cellT
    exact List.mem_filter.2 ⟨hm,decide_eq_true (Int.toNat_of_nonneg hc.1).symm⟩
  rw [List.eq_nil_of_length_eq_zero h0] at this
  simp at this
noncomputable def Qb (s:qI) (t:qP) (k:Nat):List XM:=(VI s t k).map fun c=>⟨xX s t c,(cellP s t c).1⟩
theorem cells_len (s:qI) (t:qP) (k:Nat):(Qb s t k).length=(xn s t k).length:=by simp [Qb,xn]
theorem cells_yes {s:qI} {t:qP} {k:Nat} (h:¬ (xX s t k).length=0):Qb s t k++[⟨xX s t k,(cellP s t k).1⟩]=Qb s t (k+1):=by simp [Qb,live_yes h]
theorem cells_no {s:qI} {t:qP} {k:Nat} (h:(xX s t k).length=0):Qb s t k=Qb s t (k+1):=by simp [Qb,live_no h]
theorem cells_at {s:qI} {t:qP} {k i:Nat} (h:i < (Qb s t k).length):((Qb s t k)[i]!).frules=(xn s t k)[i]! ∧((Qb s t k)[i]!).fpackings=(xx s t k)[i]! :=by
  have h1:i < (xn s t k).length:=by rw [← cells_len];exact h
  have h2:i < (xx s t k).length:=by rw [VL];exact h1
  rw [getElem!_pos _ i h,getElem!_pos _ i h1,getElem!_pos _ i h2]
  simp [Qb,xn,xx]
theorem prod_stop {all:List yLL} {n i k:Nat} (h:∀ j,j < n→all[j]! ≠[]) (hi:i < n) {G:yLL} {r:yLI} (hG:G.length=yU all i) (hk:k≤G.length) (h1:(nextK G r (all[i]!) k).length > 300):yU all n > 300:=by
  rw [nextK_len hk] at h1
  have h2:=prod_mono h (show i+1≤n from hi) (Nat.le_refl _)
  rw [yU,← hG] at h2
  have h3:=Nat.mul_le_mul_right (all[i]!).length hk
  omega
theorem appls_inH {s:qI} {t:qP} {q:Nat} (hq:q < (appls s t).length):0≤(appls s t)[q]! ∧((appls s t)[q]!).toNat < s.qB.length∧Appl s t ((appls s t)[q]!).toNat:=by
  have hm:(appls s t)[q]! ∈appls s t:=by rw [getElem!_pos _ q hq];exact List.getElem_mem hq
  exact mem_applL.1 hm
theorem bagAny_okH {l:yLI}:vS (l.length:Int) l↔Xt l:=⟨fun h=>h.1,fun h=>⟨h,rfl⟩⟩
theorem sumTo_ge {l:yLI} (h:∀ k,k < l.length→0≤l[k]!):∀ n,n≤l.length→0≤sumTo l n∧∀ j,j < n→l[j]! ≤sumTo l n
  | 0,_=>⟨by simp [sumTo],fun j hj=>by omega⟩
  | n+1,hn=>by
    obtain ⟨h1,h2⟩:=sumTo_ge h n qf
    have h3:=h n qf
    rw [sumTo]
    refine ⟨by omega,fun j hj=>?_⟩
    by_cases e:j=n
    · subst e;omega
    · have:=h2 j qf;omega
theorem VQ.bags {parts:yLL} {rest:yLI} (h:VQ parts rest) (h1:1≤parts.length):
    Xt rest∧parts.length≤8∧∀ i,i < parts.length→Xt (parts[i]!)∧(parts[i]!).length=rest.length∧Xh (parts[i]!)≠0:=by
  obtain ⟨K,hK,hP,hR,hn⟩:=h
  have bag:∀ i,i < parts.length→Xt (parts[i]!)∧(parts[i]!).length=rest.length∧Xh (parts[i]!)≠0:=fun i hi=>by
    obtain ⟨hl,hb,j,hj,hp⟩:=hP i hi
    refine ⟨⟨fun k hk=>hb k qf,by omega,by omega⟩,by have:=hR.1;omega,?_⟩
    have:=(sumTo_ge (l:=parts[i]!) (fun k hk=>(hb k qf).1) _ (Nat.le_refl _)).2 j qf
    unfold Xh;omega
  obtain ⟨hl,_,j,hj,_⟩:=hP 0 qf
  exact ⟨⟨fun k hk=>hR.2 k (by have:=hR.1;omega),by have:=hR.1;omega,by have:=hR.1;omega⟩,hn,bag⟩
theorem pack_begin {cs cn:yLI} {i:Nat} {n:Int} (hc:i < cn.length) (h2:cn.take i=cs.take i):(cn.set i n).take (i+1)=cs.take i++[n]:=by
  rw [List.take_add_one,List.take_set_of_le (Nat.le_refl _),h2,List.getElem?_set_self hc];rfl
theorem pack_keep {cs cn c2:yLI} {i:Nat} {n:Int} (h:c2.take (i+1)=(cn.set i n).take (i+1)) (h2:cn.take i=cs.take i):c2.take i=cs.take i:=by
  have:=congrArg (List.take i) h
  rwa [List.take_take,List.take_take,Nat.min_eq_left qf,List.take_set_of_le (Nat.le_refl _),h2] at this
theorem pack_stepI {parts:yLL} {rest cs cn:yLI} {out:yLL} {f i n:Nat} (hf:i+f=parts.length) (hp:i < parts.length) (hc:cn.length=parts.length) (h2:cn.take i=cs.take i)
    (h:(gath out (begins (cs.take i) (yB parts (f - 1) i rest n))).length≤2000):
    gath (gath out (begins (cs.take i) (yB parts (f - 1) i rest n))) (begins ((cn.set i (n:Int)).take (i+1)) (packs parts (parts.length - (i+1)) (i+1) (vZ rest (parts[i]!) (-(n:Int)))))=gath out (begins (cs.take i) (yB parts (f - 1) i rest (n+1))):=by
  rw [pack_begin qf h2,← gath_step h,show parts.length - (i+1)=f - 1 by omega]
theorem pack_startI {parts:yLL} {rest cs:yLI} {out:yLL} {f i:Nat} (h:out.length≤2000):out=gath out (begins (cs.take i) (yB parts f i rest 0)):=by
  rw [packsTo_zero];exact (gath_nil qf).symm
theorem pack_fullI {parts:yLL} {rest cs:yLI} {out:yLL} {i:Nat} (hl:i=parts.length) (hc:cs.length=parts.length) (h:FullOk parts rest) (ho:out.length≤2000):
    gath out (begins (cs.take i) (packs parts (parts.length - i) i rest))=out++[cs]:=by
  rw [show parts.length - i=0 by omega,packs_full h,begins_one,gath_one ho,List.take_of_length_le qf]
theorem pack_noneI {parts:yLL} {rest cs:yLI} {out:yLL} {i:Nat} (hl:i=parts.length) (h:¬ FullOk parts rest) (ho:out.length≤2000):
    gath out (begins (cs.take i) (packs parts (parts.length - i) i rest))=out:=by
  rw [show parts.length - i=0 by omega,packs_none h];exact gath_nil qf
theorem pack_endI {parts:yLL} {rest cs:yLI} {out:yLL} {f i n:Nat} (hf:i+f=parts.length) (hp:i < parts.length) (hn:(n:Int)≤jF (parts[i]!) rest+1)
    (h0:0≤jF (parts[i]!) rest) (h:¬ (n:Int)≤jF (parts[i]!) rest∨¬ (gath out (begins (cs.take i) (yB parts (f - 1) i rest n))).length≤2000):
    gath out (begins (cs.take i) (packs parts (parts.length - i) i rest))=gath out (begins (cs.take i) (yB parts (f - 1) i rest n)):=by
  obtain ⟨f,rfl⟩:∃ g,f=g+1:=⟨f - 1,by omega⟩
  rw [show parts.length - i=f+1 by omega]
  rw [show f+1 - 1=f from rfl] at h ⊢
  exact (gath_end qf (by rcases h with h | h;(left;omega);(right;omega))).symm
theorem all_bI {b cs:yLI} {parts:yLL} (h:¬ Xh b > 16) (h1:(gath ([]:yLL) (begins (cs.take 0) (packs parts (parts.length - 0) 0 b))).length > 2000):zk b parts=([],3):=by
  rw [show cs.take 0=[] from rfl,begins_nil] at h1
  have h2:(packs parts parts.length 0 b).length > 2000:=gath_all.1 h1
  rw [zk,if_neg h,if_pos h2]
theorem all_0I {b cs:yLI} {parts:yLL} (h:¬ Xh b > 16) (h1:¬ (gath ([]:yLL) (begins (cs.take 0) (packs parts (parts.length - 0) 0 b))).length > 2000):zk b parts=(gath ([]:yLL) (begins (cs.take 0) (packs parts (parts.length - 0) 0 b)),0):=by
  rw [show cs.take 0=[] from rfl,begins_nil] at h1 ⊢
  have h2:¬ (packs parts parts.length 0 b).length > 2000:=fun h=>h1 (gath_all.2 h)
  rw [zk,if_neg h,if_neg h2,show parts.length - 0=parts.length from rfl,gath_few h2]
def dotP:yLI→yLL→Nat→Int
  | n :: y,p :: ps,q=>n * p[q]! +dotP y ps q
  | _,_,_=>0
theorem packs_mem {K:Nat} {parts:yLL} (hP:PartsOk K parts):∀ (f k:Nat) (rest y:yLI),k+f=parts.length→RestOk K rest→y∈packs parts f k rest→
    (∀ v∈y,0≤v∧v≤1000)∧∀ q,q < K→0≤rest[q]! - dotP y (parts.drop k) q
  | 0,k,rest,y,hk,hR,h=>by
    rw [packs] at h
    split at h
    · obtain rfl:=List.mem_singleton.1 h
      refine ⟨fun v hv=>by simp at hv,fun q hq=>?_⟩
      have:=(hR.2 q hq).1
      simp only [dotP];omega
    · simp at h
  | f+1,k,rest,y,hk,hR,h=>by
    rw [packs,List.mem_flatMap] at h
    obtain ⟨n,hn,h⟩:=h
    obtain ⟨y',hy,rfl⟩:=List.mem_map.1 h
    have hb:=times_bd hP hR (k:=k) qf
    rw [List.mem_range] at hn
    obtain ⟨h1,h2⟩:=packs_mem hP f (k+1) _ y' qf (hR.take hP qf (n:=(n:Int)) qf qf) hy
    refine ⟨fun v hv=>?_,fun q hq=>?_⟩
    · rcases List.mem_cons.1 hv with rfl | hv
      · omega
      · exact h1 v hv
    · have h3:=h2 q hq
      rw [VT (by have:=hR.1;omega),Int.neg_mul] at h3
      rw [drop_cons' (show k < parts.length by omega),dotP]
      omega
where
  drop_cons' {l:yLL} {i:Nat} (h:i < l.length):l.drop i=l[i]! :: l.drop (i+1):=by
    rw [getElem!_pos l i h];exact (List.drop_eq_getElem_cons h)
def V3 (s:qI) (x:yLI) (q:Nat):yLI→Int
  | []=>0
  | r :: l=>x[r.toNat]! * ((s.qB[r.toNat]!).xR)[q]! +V3 s x q l
theorem sumOver_cat (s:qI) (x:yLI) (q:Nat):∀ (l m:yLI),V3 s x q (l++m)=V3 s x q l+V3 s x q m
  | [],m=>by simp [V3]
  | r :: l,m=>by rw [List.cons_append,V3,V3,sumOver_cat s x q l m];omega
theorem sumOver_dot {s:qI} {x:yLI} {q:Nat}:∀ {l y:yLI},y.length=l.length→(∀ j,j < l.length→x[(l[j]!).toNat]! =y[j]!)→V3 s x q l=dotP y (xA s l) q
  | [],[],_,_=>rfl
  | [],_ :: _,h,_=>by simp at h
  | _ :: _,[],h,_=>by simp at h
  | r :: l,v :: y,h,h1=>by
    have h0:=h1 0 qm
    simp only [List.getElem!_cons_zero] at h0
    show _=dotP (v :: y) ((s.qB[r.toNat]!).xR :: xA s l) q
    rw [V3,dotP,h0,sumOver_dot (by simpa using h) fun j hj=>by simpa using h1 (j+1) qy]
theorem needS_cell {s:qI} {t:qP} {x:yLI} {c q:Nat} (hs:zQ s):∀ k,k≤s.qB.length→(∀ i,i < k→(s.qB[i]!).qN=(c:Int)→¬ Appl s t i→x[i]! =0)→V5 s x k c q= -(V3 s x q (cellT s t k c))
  | 0,_,_=>by simp [V5,cellT,applL,V3]
  | k+1,hk,h=>by
    have ih:=needS_cell (t:=t) (c:=c) (q:=q) hs k qf fun i hi=>h i qf
    rw [V5,ih,needF,at']
    by_cases e:(s.qB[k]!).qN=(c:Int)
    · rw [if_pos qf]
      by_cases ha:Appl s t k
      · rw [← Xb ha e,sumOver_cat]
        simp only [V3,Int.toNat_natCast]
        rw [Int.neg_mul];omega
      · rw [← yX ha,h k qf e ha]
        simp
    · rw [if_neg (fun h' =>e (by have:=(hs.rule (i:=k) qf).1.1;omega)),← yA e];omega

theorem setTo_ne {o r x:yLI} {p:Nat}:∀ {k:Nat},(∀ j,j < k→(r[j]!).toNat≠p)→(∀ j,j < k→(r[j]!).toNat < o.length)→(setTo o r x k)[p]! =o[p]!
  | 0,_,_=>rfl
  | k+1,h,h1=>by
    rw [setTo,getset (by rw [setTo_len];exact h1 k qf),if_neg (fun e=>h k qf e.symm)]
    exact setTo_ne (fun j hj=>h j qf) fun j hj=>h1 j qf
theorem setTo_eq {o r x:yLI} {j:Nat}:∀ {k:Nat},(∀ a b,a < k→b < k→(r[a]!).toNat=(r[b]!).toNat→a=b)→(∀ j,j < k→(r[j]!).toNat < o.length)→j < k→(setTo o r x k)[(r[j]!).toNat]! =x[j]!
  | 0,_,_,h=>by omega
  | k+1,hi,h1,hj=>by
    rw [setTo,getset (by rw [setTo_len];exact h1 k qf)]
    by_cases e:j=k
    · subst e;rw [if_pos rfl]
    · rw [if_neg (fun e' =>e (hi j k qf qf e'))]
      exact setTo_eq (fun a b ha hb=>hi a b qf qf) (fun j hj=>h1 j qf) qf
theorem inj_lt {α:Type} [LT α] {l:List α} (irr:∀ x:α,¬ x < x) (h:l.Pairwise (· < ·)) {a b:Nat} (ha:a < l.length) (hb:b < l.length) (e:l[a]=l[b]):a=b:=by
  rw [List.pairwise_iff_getElem] at h
  rcases Nat.lt_trichotomy a b with h1 | h1 | h1
  · have:=h a b ha hb h1;rw [e] at this;exact absurd this (irr _)
  · exact h1
  · have:=h b a hb ha h1;rw [e] at this;exact absurd this (irr _)
theorem applL_lt (s:qI) (t:qP) (k:Nat):(applL s t k).Pairwise (· < ·):=by
  unfold applL
  rw [List.pairwise_map]
  exact (List.pairwise_lt_range.filter _).imp fun h=>by simpa using h
theorem cellR_inj {s:qI} {t:qP} {c a b:Nat} (ha:a < (xX s t c).length) (hb:b < (xX s t c).length) (h:((xX s t c)[a]!).toNat=((xX s t c)[b]!).toNat):a=b:=by
  have h1:=(cellR_at ha).1
  have h2:=(cellR_at hb).1
  have hn:(xX s t c).Pairwise (· < ·):=by unfold xX cellT;exact (applL_lt s t _).filter _
  have e:(xX s t c)[a]! =(xX s t c)[b]! :=by omega
  rw [getElem!_pos _ a ha,getElem!_pos _ b hb] at e
  exact inj_lt (fun x=>by omega) hn ha hb e
theorem live_cell {s:qI} {t:qP} {k i i' :Nat} (h:i < (xn s t k).length) (h' :i' < (xn s t k).length):∃ c c',(xn s t k)[i]! =xX s t c∧(xn s t k)[i']! =xX s t c' ∧(c=c' →i=i'):=by
  have hl:i < (VI s t k).length:=by simpa [xn] using h
  have hl' :i' < (VI s t k).length:=by simpa [xn] using h'
  have hn:(VI s t k).Pairwise (· < ·):=by unfold VI;exact List.pairwise_lt_range.filter _
  refine ⟨(VI s t k)[i],(VI s t k)[i'],?_,?_,fun e=>inj_lt (fun x=>by omega) hn hl hl' e⟩
  · rw [getElem!_pos _ i h];simp [xn]
  · rw [getElem!_pos _ i' h'];simp [xn]
theorem rules_inj {s:qI} {t:qP} {k i i' j j' :Nat} (h:i < (xn s t k).length) (h' :i' < (xn s t k).length) (hj:j < ((xn s t k)[i]!).length) (hj' :j' < ((xn s t k)[i']!).length)
    (e:(((xn s t k)[i]!)[j]!).toNat=(((xn s t k)[i']!)[j']!).toNat):i=i' ∧j=j' :=by
  obtain ⟨c,c',e1,e2,e3⟩:=live_cell h h'
  rw [e1] at hj e
  rw [e2] at hj' e
  have h1:=cellR_at hj
  have h2:=cellR_at hj'
  have hc:c=c' :=by
    have a:=h1.2.2.2
    have b:=h2.2.2.2
    rw [e] at a
    omega
  subst hc
  exact ⟨e3 rfl,cellR_inj hj hj' e⟩
def Says (s:qI) (t:qP) (k m:Nat) (x:yLI):Prop:=
  x.length=s.qB.length∧(∀ i,i < m→∃ y,y∈(xx s t k)[i]! ∧∀ j,j < ((xn s t k)[i]!).length→x[(((xn s t k)[i]!)[j]!).toNat]! =y[j]!)∧
  ∀ r,r < s.qB.length→(∀ i,i < m→∀ j,j < ((xn s t k)[i]!).length→(((xn s t k)[i]!)[j]!).toNat≠r)→x[r]! =0
theorem prodG_says {s:qI} {t:qP} {k:Nat}:∀ m,m≤(xn s t k).length→∀ x∈jZ s.qB.length (xn s t k) (xx s t k) m,Says s t k m x
  | 0,_,x,h=>by
    obtain rfl:=List.mem_singleton.1 h
    refine ⟨by simp,fun i hi=>by omega,fun r hr _=>?_⟩
    rw [getElem!_pos _ r (by simpa using hr)];simp
  | m+1,hm,x,h=>by
    rw [jZ,nextK,List.mem_flatMap] at h
    obtain ⟨o,ho,h⟩:=h
    obtain ⟨y,hy,rfl⟩:=List.mem_map.1 h
    obtain ⟨h1,h2,h3⟩:=prodG_says m qf o (List.mem_of_mem_take ho)
    have hb:∀ j,j < ((xn s t k)[m]!).length→(((xn s t k)[m]!)[j]!).toNat < o.length:=fun j hj=>by rw [h1];exact (choice_at qf hj).2
    have hn:∀ a b,a < ((xn s t k)[m]!).length→b < ((xn s t k)[m]!).length→(((xn s t k)[m]!)[a]!).toNat=(((xn s t k)[m]!)[b]!).toNat→a=b:=fun a b ha hb' e=>(rules_inj (show m < _ by omega) (show m < _ by omega) ha hb' e).2
    refine ⟨by rw [setAll_len];exact h1,fun i hi=>?_,fun r hr hne=>?_⟩
    · by_cases e:i=m
      · subst e
        exact ⟨y,hy,fun j hj=>setTo_eq hn hb hj⟩
      · obtain ⟨y',hy',h4⟩:=h2 i qf
        refine ⟨y',hy',fun j hj=>?_⟩
        rw [← h4 j hj]
        exact setTo_ne (fun a ha e' =>e (rules_inj (show m < _ by omega) (show i < _ by omega) ha hj e').1.symm) hb
    · rw [← h3 r hr fun i hi j hj=>hne i qf j hj]
      exact setTo_ne (fun a ha=>hne m qf a ha) hb
theorem cell_live {s:qI} {t:qP} {k c:Nat} (hk:c < k) (h:¬ (xX s t c).length=0):∃ i,i < (xn s t k).length∧(xn s t k)[i]! =xX s t c∧(xx s t k)[i]! =(cellP s t c).1:=by
  have hm:c∈VI s t k:=List.mem_filter.2 ⟨List.mem_range.2 hk,decide_eq_true h⟩
  obtain ⟨i,hi,e⟩:=List.mem_iff_getElem.1 hm
  refine ⟨i,by simpa [xn] using hi,?_,?_⟩
  · rw [getElem!_pos _ i (by simpa [xn] using hi)];simp [xn,e]
  · rw [getElem!_pos _ i (by simpa [xx] using hi)];simp [xx,e]
theorem says_choice {s:qI} {t:qP} (hs:zQ s) (ht:xI s t) {x:yLI} (h:Says s t s.qA.length (xn s t s.qA.length).length x):XZ s x∧IsCh s t x:=by
  obtain ⟨h1,h2,h3⟩:=h
  have hB:=ht.2.1
  -- a packing of a cell
  have cell:∀ c,c < s.qA.length→¬ (xX s t c).length=0→∃ y,y.length=(xX s t c).length∧(∀ v∈y,0≤v∧v≤1000)∧(∀ j,j < (xX s t c).length→x[((xX s t c)[j]!).toNat]! =y[j]!)∧∀ q,q < zI s→0≤(t.qH[c]!)[q]! - dotP y (xA s (xX s t c)) q:=fun c hc hr=>by
    obtain ⟨i,hi,e1,e2⟩:=cell_live (s:=s) (t:=t) hc hr
    obtain ⟨y,hy,h4⟩:=h2 i hi
    rw [e1] at h4
    rw [e2] at hy
    unfold cellP at hy
    rcases all_cases (b:=t.qH[c]!) (parts:=xA s (xX s t c)) with h5 | ⟨_,h5,_⟩
    · rw [h5] at hy;simp at hy
    · rw [h5] at hy
      have h6:=packs_mem (cell_parts (t:=t) hs c) _ 0 _ y (Nat.zero_add _) (cell_rest ht qf) hy
      exact ⟨y,(packs_len hy).trans (Xa _ _),h6.1,h4,h6.2⟩
  have at' :∀ i,i < s.qB.length→(x[i]! =0∨Appl s t i)∧0≤x[i]! ∧x[i]! ≤1000:=fun i hi=>by
    by_cases hex:∃ a b,a < (xn s t s.qA.length).length∧b < ((xn s t s.qA.length)[a]!).length∧(((xn s t s.qA.length)[a]!)[b]!).toNat=i
    · obtain ⟨a,b,ha,hb,e⟩:=hex
      obtain ⟨c,hc,hr,e1,_⟩:=live_at ha
      rw [e1] at hb e
      obtain ⟨y,hl,hv,hx,_⟩:=cell c hc hr
      have h5:=cellR_at hb
      have h6:=hx b hb
      rw [e] at h5 h6
      have h7:=hv (y[b]!) (by rw [getElem!_pos y b qf];exact List.getElem_mem _)
      rw [h6]
      exact ⟨.inr h5.2.2.1,h7⟩
    · have h5:=h3 i hi fun a ha b hb e=>hex ⟨a,b,ha,hb,e⟩
      rw [h5]
      exact ⟨.inl rfl,by omega,by omega⟩
  have hc:XZ s x:=⟨h1,fun i hi=>(at' i qf).2⟩
  refine ⟨hc,fun i hi hb=>?_,fun p hp q hq=>?_⟩
  · rcases (at' i qf).1 with h5 | h5
    · have:=hb.1;omega
    · exact hb.2 h5
  · rw [h1] at hq ⊢
    have he:=restR_ent hs ht hc s.qB.length (Nat.le_refl _)
    have hl:((yP s t x s.qB.length)[p]!).length=zI s:=(he.sh.2 p (by unfold xP;omega)).1
    have heq:=he.eq p q (by unfold xP;omega) qf
    rw [heq]
    have hn:=needS_cell (t:=t) (x:=x) (c:=p) (q:=q) hs s.qB.length (Nat.le_refl _) fun i hi _ ha=>((at' i hi).1).resolve_right ha
    rw [hn]
    have hbag:=(cell_rest (s:=s) ht hp).2 q qf
    by_cases hr:(xX s t p).length=0
    · show 0≤(t.qH[p]!)[q]! + -(V3 s x q (xX s t p))
      rw [List.eq_nil_of_length_eq_zero hr]
      simp only [V3];omega
    · obtain ⟨y,hy,_,hx,hd⟩:=cell p qf hr
      have h6:=hd q qf
      rw [← sumOver_dot hy hx] at h6
      show 0≤(t.qH[p]!)[q]! + -(V3 s x q (xX s t p))
      omega
theorem cho_ok {s:qI} {t:qP} (hs:zQ s) (ht:xI s t) {k:Nat} (hk:k < (vJ s t).1.length):XZ s ((vJ s t).1[k]!)∧IsCh s t ((vJ s t).1[k]!):=by
  have hm:(vJ s t).1[k]! ∈(vJ s t).1:=mem_at_L hk
  generalize (vJ s t).1[k]! =x at hm
  unfold vJ at hm
  split at hm
  · simp at hm
  · split at hm
    · simp at hm
    · have hx:x∈inOrder (jZ s.qB.length (xn s t s.qA.length) (xx s t s.qA.length) (xx s t s.qA.length).length):=hm
      unfold inOrder at hx
      have hle:=VL s t s.qA.length
      split at hx
      · next h=>exact says_choice hs ht (by rw [← hle];exact prodG_says _ qf x ((Classical.choose_spec h).1.symm.subset hx))
      · exact says_choice hs ht (by rw [← hle];exact prodG_says _ qf x hx)
theorem halt_cells {s:qI} {t:qP} (h:Halted s t) (c:Nat):(xX s t c).length=0:=by
  have h1:=XA.2 h
  have h2:(xX s t c).length≤(appls s t).length:=List.length_filter_le _ _
  omega
theorem halt_live {s:qI} {t:qP} (h:Halted s t):∀ k,xx s t k=[]
  | 0=>rfl
  | k+1=>by rw [← packsL_no (halt_cells h k)];exact halt_live h k
theorem halt_cho {s:qI} {t:qP} (h:Halted s t):(vJ s t).2=0:=by
  unfold vJ
  rw [if_neg (fun h' =>h' fun c _=>.inl (halt_cells h c)),halt_live h,if_neg (by show ¬ 1 > 300;omega)]
open Classical in
noncomputable def QR (s:qI) (t:qP):List qP×Int:=if Halted s t then ([],0) else if (vJ s t).2≠0 then ([],(vJ s t).2) else yK s t (vJ s t).1
theorem succ_h {s:qI} {t:qP} (h:Halted s t):QR s t=([],0):=by rw [QR,if_pos h]
theorem succ_c {s:qI} {t:qP} (h:(vJ s t).2≠0):QR s t=([],(vJ s t).2):=by rw [QR,if_neg (fun h' =>h (halt_cho h')),if_pos h]
theorem succ_0 {s:qI} {t:qP} (h:¬ Halted s t) (h1:(vJ s t).2=0):QR s t=yK s t (vJ s t).1:=by rw [QR,if_neg h,if_neg (fun x=>x h1)]
open Classical in
noncomputable def QT (s:qI) (t:qP):List qP×Int:=if ¬ (zQ s∧xI s t) then ([],1) else QR s t
theorem nx_1 {s:qI} {t:qP} (h:¬ (zQ s∧xI s t)):QT s t=([],1):=by rw [QT,if_pos h]
theorem nx_0 {s:qI} {t:qP} (h:zQ s∧xI s t):QT s t=QR s t:=by rw [QT,if_neg (by simpa using h)]
theorem next_few {s:qI} {t:qP} {cs:yLL} {n:Nat} (hs:yg s) (hn:cs.length≤n):(yK s t cs).1.length≤n∧∀ u∈(yK s t cs).1,FewState u:=by
  rw [yK]
  split
  · exact ⟨Nat.le_trans (nextTo_len _) hn,fun u hu=>nextTo_few hs _ u hu⟩
  · exact ⟨Nat.zero_le _,fun u hu=>by simp at hu⟩
theorem nextTo_mem {s:qI} {t:qP} {cs:yLL}:∀ k j,j < k→(zl s t (cs[j]!)).1∈yE s t cs k
  | 0,j,h=>by omega
  | k+1,j,h=>by
    by_cases e:j=k
    · subst e
      by_cases hm:(zl s t (cs[j]!)).1∈yE s t cs j
      · rw [← nextTo_in hm];exact hm
      · rw [← nextTo_new hm];simp
    · have ih:=nextTo_mem (s:=s) (t:=t) (cs:=cs) k j qf
      by_cases hm:(zl s t (cs[k]!)).1∈yE s t cs k
      · rw [← nextTo_in hm];exact ih
      · rw [← nextTo_new hm];exact List.mem_append_left _ ih
theorem nextTo_some {s:qI} {t:qP} {cs:yLL} {k:Nat} (h:0 < k):yE s t cs k≠[]:=fun e=>by
  have:=nextTo_mem (s:=s) (t:=t) (cs:=cs) k 0 h
  rw [e] at this
  cases this
theorem one_iff {s:qI} {t:qP} (hs:zQ s) (ht:xI s t) (hM:FewM 6 s t) (hD:PutsD 2 s) {i:Nat} (hi:i < s.qB.length):(ja s t (i:Int)).2=0↔Appl s t i:=by
  rw [one_0 ⟨hs,ht⟩ qf]
  rw [show ((i:Int)).toNat=i by omega]
  constructor
  · intro h
    apply Classical.byContradiction
    intro hn
    rw [stepBy_no (fun hc=>hn ((single_isCh hs ht hi).1 hc))] at h
    cases h
  · intro h
    exact step_fine hs ht (single_cnt hi) ((single_isCh hs ht hi).2 h) hM hD
theorem appls_mem {s:qI} {t:qP} {i:Nat} (hi:i < s.qB.length):(i:Int)∈appls s t↔Appl s t i:=by
  unfold appls
  rw [mem_applL]
  constructor
  · rintro ⟨_,_,h⟩;simpa using h
  · intro h;exact ⟨by omega,by omega,by simpa using h⟩
theorem ns_fine {s:qI} {t:qP} (hs:zQ s) (ht:xI s t) (hM:FewM 6 s t) (hD:PutsD 2 s):yQ s t=(yE s t (vU s (appls s t)) (vU s (appls s t)).length,0):=by
  rw [ns_0 ⟨hs,ht⟩]
  refine next_ok fun k hk=>?_
  intro hb
  exact hb (step_fine hs ht (singles_cnt hk) (singles_isCh hs ht hk) hM hD)
theorem ns_len {s:qI} {t:qP} (hs:zQ s) (ht:xI s t) (hM:FewM 6 s t) (hD:PutsD 2 s):(yQ s t).1.length≤(appls s t).length:=by
  rw [ns_fine hs ht hM hD]
  have:=nextTo_len (s:=s) (t:=t) (cs:=vU s (appls s t)) (vU s (appls s t)).length
  rw [Vg] at this ⊢
  exact this
theorem ns_none {s:qI} {t:qP} (hs:zQ s) (ht:xI s t) (hM:FewM 6 s t) (hD:PutsD 2 s):(yQ s t).1=[]↔appls s t=[]:=by
  rw [ns_fine hs ht hM hD]
  constructor
  · intro h
    apply Classical.byContradiction
    intro hn
    have h0:0 < (vU s (appls s t)).length:=by
      rw [Vg]
      exact List.length_pos_iff.2 hn
    exact nextTo_some h0 h
  · intro h
    rw [h];rfl
theorem ns_has {s:qI} {t:qP} (hs:zQ s) (ht:xI s t) (hM:FewM 6 s t) (hD:PutsD 2 s) {i:Nat} (hi:i < s.qB.length) (h:Appl s t i):(ja s t (i:Int)).1∈(yQ s t).1:=by
  rw [ns_fine hs ht hM hD,one_0 ⟨hs,ht⟩ qf,show ((i:Int)).toNat=i by omega]
  obtain ⟨k,hk,e⟩:=List.mem_iff_getElem.1 ((appls_mem hi).2 h)
  have hk' :k < (vU s (appls s t)).length:=by rw [Vg];exact hk
  have:=nextTo_mem (s:=s) (t:=t) (cs:=vU s (appls s t)) (vU s (appls s t)).length k hk'
  rw [singles_get hk,getElem!_pos _ k hk,e,show ((i:Int)).toNat=i by omega] at this
  exact this
theorem appl_rank {s:qI} {t:qP} {i j:Nat} (hi:i < s.qB.length) (hj:j < s.qB.length) (h:Appl s t i) (g:Appl s t j) (e:(s.qB[i]!).qN=(s.qB[j]!).qN):(s.qB[i]!).vP=(s.qB[j]!).vP:=by
  have h1:=h.2 j hj g.1 (by rw [e])
  have h2:=g.2 i hi h.1 (by rw [e])
  omega
theorem inOrder_len (l:yLL):(inOrder l).length=l.length:=by
  unfold inOrder
  by_cases h:∃ m,l.Perm m∧InOrder m
  · rw [dif_pos h];exact (Classical.choose_spec h).1.symm.length_eq
  · rw [dif_neg h]
theorem cho_some {s:qI} {t:qP} (hs:zQ s) (ht:xI s t) (h:(vJ s t).2=0):0 < (vJ s t).1.length:=by
  unfold vJ at h ⊢
  by_cases h1:Yf s t s.qA.length
  · by_cases h2:yU (xx s t s.qA.length) (xx s t s.qA.length).length > 300
    · rw [if_neg (by simpa using h1),if_pos h2] at h;cases h
    · rw [if_neg (by simpa using h1),if_neg h2]
      show 0 < (inOrder _).length
      rw [inOrder_len,Xy]
      have hne:=packsL_ne hs ht (k:=s.qA.length) (by rw [ht.2.1];exact Nat.le_refl _) h1
      have:=prod_mono hne (Nat.zero_le _) (Nat.le_refl _)
      rw [yU] at this
      omega
  · rw [if_pos h1] at h;cases h
theorem first_bad {P:Nat→Prop}:∀ {n:Nat},¬ (∀ j,j < n→¬ P j)→∃ k,k < n∧P k∧∀ j,j < k→¬ P j
  | 0,h=>absurd (fun j hj=>by omega) h
  | n+1,h=>by
    by_cases h1:∀ j,j < n→¬ P j
    · refine ⟨n,by omega,?_,h1⟩
      apply Classical.byContradiction
      intro hp
      exact h fun j hj=>by
        by_cases e:j=n
        · subst e;exact hp
        · exact h1 j qf
    · obtain ⟨k,hk,h2,h3⟩:=first_bad h1
      exact ⟨k,by omega,h2,h3⟩
theorem nx_halt {s:qI} {t:qP} (hs:zQ s) (ht:xI s t) (h:(QT s t).2=0):(QT s t).1=[]↔Halted s t:=by
  rw [nx_0 ⟨hs,ht⟩] at h ⊢
  constructor
  · intro he
    apply Classical.byContradiction
    intro hn
    by_cases hc:(vJ s t).2=0
    · rw [succ_0 hn hc] at h he
      have h0:=cho_some hs ht hc
      unfold yK at h he
      by_cases hb:NoBad s t (vJ s t).1 (vJ s t).1.length
      · rw [if_pos hb] at he
        exact nextTo_some h0 he
      · rw [if_neg hb] at h
        obtain ⟨k,hk,hkb,hkm⟩:=first_bad fun hx=>hb hx
        rw [stop_first hkm hk hkb] at h
        exact hkb h
    · rw [succ_c hc] at h;exact hc h
  · intro hh
    rw [succ_h hh]
theorem nx_one {s:qI} {t:qP} (hs:zQ s) (ht:xI s t) (h:(QT s t).2=0) (hn:¬ Halted s t) (h1:(vJ s t).1.length=1):(QT s t).1.length=1:=by
  have hne:(QT s t).1≠[]:=fun e=>hn ((nx_halt hs ht h).1 e)
  have hl:0 < (QT s t).1.length:=List.length_pos_iff.2 hne
  rw [nx_0 ⟨hs,ht⟩] at h hl ⊢
  by_cases hc:(vJ s t).2=0
  · rw [succ_0 hn hc] at hl ⊢
    have:=(next_few (s:=s) (t:=t) (cs:=(vJ s t).1) hs.1 (Nat.le_refl _)).1
    omega
  · rw [succ_c hc] at hl;simp at hl
def chgF (s:qI) (t:qP) (i p q:Nat):Int:=at' p (s.qB[i]!).qN.toNat (-(((s.qB[i]!).xR)[q]!))+putF s t (s.qB[i]!) 1 p q
def chgS (s:qI) (t:qP) (counts:yLI):Nat→Nat→Nat→Int
  | 0,_,_=>0
  | i+1,p,q=>chgS s t counts i p q+counts[i]! * chgF s t i p q
theorem at_lin (p c:Nat) (m x:Int):at' p c (m * x)=m * at' p c (1 * x):=by
  unfold at'
  split
  · rw [Int.one_mul]
  · rw [Int.mul_zero]
theorem into_lin (r:jL) (m:Int) (p q:Nat):∀ j,XX r m j p q=m * XX r 1 j p q
  | 0=>by simp [XX]
  | j+1=>by rw [XX,XX,into_lin r m p q j,at_lin p _ m,Int.mul_add]
theorem putF_lin (s:qI) (t:qP) (r:jL) (m:Int) (p q:Nat):putF s t r m p q=m * putF s t r 1 p q:=by
  unfold putF
  rw [into_lin r m,at_lin p _ m (r.zH[q]!),at_lin p _ m (r.jC[q]!),Int.mul_add,Int.mul_add]
theorem all_chg (s:qI) (t:qP) (counts:yLI) (p q:Nat):∀ k,allS s t counts k p q=chgS s t counts k p q
  | 0=>rfl
  | k+1=>by
    rw [allS,chgS,all_chg s t counts p q k,putF_lin s t _ (counts[k]!)]
    unfold chgF needF
    have e:at' p (s.qB[k]!).qN.toNat (-(counts[k]!) * ((s.qB[k]!).xR)[q]!)=counts[k]! * at' p (s.qB[k]!).qN.toNat (-(((s.qB[k]!).xR)[q]!)):=by
      unfold at'
      split
      · rw [Int.neg_mul,Int.mul_neg]
      · rw [Int.mul_zero]
    rw [e,Int.mul_add]
    omega
theorem step_due (s:qI) (t:qP) (counts:yLI) (p q:Nat):stepF s t counts p q=base0 s t p q+chgS s t counts s.qB.length p q:=by
  rw [stepF,all_chg]

theorem down_col {s:qI} {t:qP} {counts:yLI} (hs:zQ s) (ht:xI s t) (hc:XZ s counts) (h:IsCh s t counts) (hM:FewM 6 s t) (hD:PutsD 2 s) {q:Nat} (hq:q < zI s):∀ j,j+1≤xP s→
    colTo (xu s counts (xw s t counts) j) q (xP s)=colTo (xw s t counts) q (xP s)
  | 0,_=>rfl
  | j+1,hj=>by
    have ih:=down_col hs ht hc h hM hD hq j qf
    obtain ⟨i1,i2,i3⟩:=down_ok hs ht hc h hM hD j qf
    by_cases hm:Melts s counts ((xP s:Int) - 1 - j)
    · rw [meltDown_yes hm rfl]
      obtain ⟨i,hi,h0,h2,h3⟩:=hm
      have he:=appl_of hc h hi qf
      have hr:=(hs.rule hi).2.2.1
      have hcn:xP s=s.qA.length:=rfl
      have ha:t.qG[((xP s:Int) - 1 - j).toNat]! =true:=by rw [← h3];exact he.1
      have cm:Xq s (xu s counts (xw s t counts) j) ((xP s:Int) - 1 - j):=⟨hs.1,i1,⟨by omega,by omega⟩,by omega,by rw [i3 _ qf];exact ha⟩
      have hpar:=cm.par
      rw [cm.col hq,if_pos qf,if_pos qf,ih]
      omega
    · rw [V6 hm rfl];exact ih
theorem step_total {s:qI} {t:qP} {counts:yLI} (hs:zQ s) (ht:xI s t) (hc:XZ s counts) (h:IsCh s t counts) (hM:FewM 6 s t) (hD:PutsD 2 s) {q:Nat} (hq:q < zI s):
    (allTo (zl s t counts).1 (xP s))[q]! =sumN (fun p=>base0 s t p q+chgS s t counts s.qB.length p q) (xP s+1):=by
  have hn:=hs.1.2.1
  have hcn:xP s=s.qA.length:=rfl
  have e:(zl s t counts).1=xu s counts (xw s t counts) (xP s - 1):=by
    rw [Xx h]
    unfold stepRes
    rw [told_yes (down_ok hs ht hc h hM hD (xP s - 1) qf).1]
  have hA:(xu s counts (xw s t counts) (xP s - 1)).qF=(List.range (zI s)).map (stepF s t counts (xP s)):=by rw [Qh,stepped_around]
  rw [e,allTo_get _ (by rw [hA];simpa using hq),hA,QN hq,down_col hs ht hc h hM hD hq _ qf,colTo_sum,sumN]
  have e2:sumN (fun p=>((xw s t counts).qH[p]!)[q]!) (xP s)=sumN (fun p=>base0 s t p q+chgS s t counts s.qB.length p q) (xP s):=by
    have:∀ n,n≤xP s→sumN (fun p=>((xw s t counts).qH[p]!)[q]!) n=sumN (fun p=>base0 s t p q+chgS s t counts s.qB.length p q) n:=by
      intro n
      induction n with
      | zero=>intro _;rfl
      | succ n ih=>
        intro hn'
        rw [sumN,sumN,ih qf,stepped_row qf,QN hq,step_due]
    exact this _ (Nat.le_refl _)
  rw [e2,step_due]
  omega
theorem down_alive {s:qI} {counts:yLI} {u:qP} (hl:u.qG.length=s.qA.length):∀ j,j+1≤s.qA.length→(xu s counts u j).qG.length=s.qA.length∧
    ∀ c,c < s.qA.length→(xu s counts u j).qG[c]! =(u.qG[c]! && !dec (Melts s counts (c:Int)∧s.qA.length≤c+j))
  | 0,_=>⟨hl,fun c hc=>by
    rw [xy (fun h=>by omega)]
    show u.qG[c]! =_
    simp⟩
  | j+1,hj=>by
    obtain ⟨i1,i2⟩:=down_alive (s:=s) (counts:=counts) hl j qf
    have hcn:xP s=s.qA.length:=rfl
    by_cases hm:Melts s counts ((xP s:Int) - 1 - j)
    · rw [meltDown_yes hm rfl]
      refine ⟨by simp [melted,i1],fun c hc=>?_⟩
      have e:(melted s (xu s counts u j) ((xP s:Int) - 1 - j)).qG[c]! =if ((xP s:Int) - 1 - j).toNat=c then false else (xu s counts u j).qG[c]! :=get_set _ _ _ _ qf
      rw [e]
      by_cases hcc:((xP s:Int) - 1 - j).toNat=c
      · rw [if_pos hcc]
        have h1:(xP s:Int) - 1 - j=(c:Int):=by omega
        rw [h1] at hm
        rw [yh ⟨hm,by omega⟩]
        simp
      · rw [if_neg hcc,i2 c hc]
        rw [dec_congr (p:=Melts s counts (c:Int)∧s.qA.length≤c+j) (q:=Melts s counts (c:Int)∧s.qA.length≤c+(j+1)) ⟨fun h=>⟨h.1,by omega⟩,fun h=>⟨h.1,by omega⟩⟩]
    · rw [V6 hm rfl]
      refine ⟨i1,fun c hc=>?_⟩
      rw [i2 c hc]
      rw [dec_congr (p:=Melts s counts (c:Int)∧s.qA.length≤c+j) (q:=Melts s counts (c:Int)∧s.qA.length≤c+(j+1)) ⟨fun h=>⟨h.1,by omega⟩,fun h=>⟨h.1,by
        apply Classical.byContradiction
        intro hlt
        have h1:(xP s:Int) - 1 - j=(c:Int):=by omega
        rw [h1] at hm
        exact hm h.1⟩⟩]
theorem step_alive {s:qI} {t:qP} {counts:yLI} (hs:zQ s) (ht:xI s t) (hc:XZ s counts) (h:IsCh s t counts) (hM:FewM 6 s t) (hD:PutsD 2 s) {c:Nat} (hcc:c < xP s):
    (zl s t counts).1.qG[c]! =(t.qG[c]! && !dec (Melts s counts (c:Int))):=by
  have hn:=hs.1.2.1
  have hcn:xP s=s.qA.length:=rfl
  rw [Xx h]
  unfold stepRes
  rw [told_yes (down_ok hs ht hc h hM hD (xP s - 1) qf).1]
  have:=(down_alive (s:=s) (counts:=counts) (u:=xw s t counts) ht.1 (xP s - 1) qf).2 c hcc
  rw [this]
  by_cases h0:c=0
  · subst h0
    have hno:¬ Melts s counts ((0:Nat):Int):=by
      rintro ⟨i,hi,_,h2,h3⟩
      have:=(hs.rule hi).2.2.1
      exact this ⟨h2,by rw [h3];rfl⟩
    rw [xy (fun hx=>hno hx.1),xy hno]
    rfl
  · rw [dec_congr (p:=Melts s counts (c:Int)∧s.qA.length≤c+(xP s - 1)) (q:=Melts s counts (c:Int)) ⟨fun hx=>hx.1,fun hx=>⟨hx,by omega⟩⟩]
    rfl
theorem sumN_nonneg {f:Nat→Int} {n:Nat} (h:∀ p,p < n→0≤f p):0≤sumN f n:=by
  have:=sumN_le (f:=fun _=>0) (g:=f) (n:=n) fun p hp=>h p hp
  rw [sumN_zero] at this
  exact this
theorem step_total_ok {s:qI} {t:qP} {counts:yLI} (hs:zQ s) (ht:xI s t) (hc:XZ s counts) (h:IsCh s t counts) (hM:FewM 6 s t) (hD:PutsD 2 s) (h5:s.qB.length≤5):
    vS s.xh (allTo (zl s t counts).1 (xP s)):=by
  have hn:=hs.1.2.1
  have hK:=hs.1.1
  have hkn:zI s=s.xh.toNat:=rfl
  have hcn:xP s=s.qA.length:=rfl
  have hok:xI s (zl s t counts).1:=stepBy_ok (step_fine hs ht hc h hM hD)
  have hA:=hok.2.2.2.1
  have hl:(allTo (zl s t counts).1 (xP s)).length=zI s:=by rw [allTo_len];exact hA.len
  refine ⟨⟨fun q hq=>?_,by rw [hl];omega,by rw [hl];omega⟩,by rw [hl];omega⟩
  rw [hl] at hq
  rw [step_total hs ht hc h hM hD hq]
  have hb:∀ i,i < s.qB.length→0≤counts[i]! ∧counts[i]! ≤6:=fun i hi=>⟨(hc.bd hi).1,cnt_few hs ht hc h hM hi⟩
  constructor
  · refine sumN_nonneg fun p hp=>?_
    rw [← step_due]
    exact (step_few hs ht hc h hM hD qf hq).1
  · have h1:sumN (fun p=>base0 s t p q+chgS s t counts s.qB.length p q) (xP s+1)≤sumN (fun p=>6+putS s t counts s.qB.length p q) (xP s+1):=sumN_le fun p hp=>by
      rw [← all_chg,allS_eq]
      have a1:=hM p q qf hq
      have a2:=Yc hs hc p q hq s.qB.length (Nat.le_refl _)
      omega
    have e:sumN (fun p=>6+putS s t counts s.qB.length p q) (xP s+1)=((xP s+1:Nat):Int) * 6+sumN (fun p=>putS s t counts s.qB.length p q) (xP s+1):=by rw [sumN_add,sumN_const]
    rw [e] at h1
    have h2:=sumN_putS (t:=t) hs hD hb q hq (xP s+1) s.qB.length (Nat.le_refl _)
    omega
def chgP (s:qI) (t:qP) (r:jL) (p q:Nat):Int:=at' p r.qN.toNat (-1 * (r.xR)[q]!)+putF s t r 1 p q
def chgL (s:qI) (t:qP) (r:jL):yLL:=tab2 (s.qA.length+1) (zI s) (chgP s t r)
theorem ent_nil {K:Nat} {f:Nat→Nat→Int} {B:Int}:Ent 0 K f B []:=⟨⟨rfl,fun p hp=>by omega⟩,fun p k hp=>by omega⟩
theorem ent_zero {s:qI} {n:Nat} {b:yLL} (h:Ent n (zI s) (fun _ _=>0) 0 b):Ent (n+1) (zI s) (fun _ _=>0) 0 (b++[List.replicate s.xh.toNat 0]):=by
  have hz:∀ k,k < zI s→(List.replicate s.xh.toNat (0:Int))[k]! =0:=fun k hk=>by
    rw [getElem!_pos (List.replicate s.xh.toNat (0:Int)) k (by simpa [zI] using hk)];simp
  exact h.snoc (by simp [zI]) (fun k hk=>by rw [hz k hk];omega) fun k hk=>hz k hk

section
variable {s : qI} {t : qP} {x : yLI}
def dueC (s:qI) (t:qP) (x:yLI) (m p q:Nat):Int:=base0 s t p q+chgS s t x m p q
structure XE (s:qI) (t:qP) (x:yLI):Prop where
  sys:zQ s
  st:xI s t
  cnt:XZ s x
  ch:IsCh s t x
  few:FewM 6 s t
  puts:PutsD 2 s
  five:s.qB.length≤5
theorem XE.len (h:XE s t x):x.length=s.qB.length:=h.cnt.1
theorem XE.bd (h:XE s t x) {i:Nat} (hi:i < s.qB.length):0≤x[i]! ∧x[i]! ≤6:=⟨(h.cnt.bd hi).1,cnt_few h.sys h.st h.cnt h.ch h.few hi⟩
theorem XE.en (h:XE s t x) {i:Nat} (hi:i < s.qB.length) (h0:x[i]! ≠0):EnOk s t (s.qB[i]!):=appl_of h.cnt h.ch hi h0
theorem XE.bagOf (h:XE s t x) {c:Nat} (hc:c < xP s):(t.qH[c]!).length=zI s∧∀ q,q < zI s→(t.qH[c]!)[q]! =base0 s t c q:=by
  have hb:=h.st.bagLen (k:=c) (by rw [h.st.2.1];exact hc)
  exact ⟨hb.len,fun q hq=>by rw [base0,if_pos hc]⟩
theorem XE.rimOf (h:XE s t x):t.qF.length=zI s∧∀ q,q < zI s→t.qF[q]! =base0 s t (xP s) q:=⟨h.st.around.1,fun q hq=>by rw [base0,if_neg qf]⟩
theorem XE.base (h:XE s t x) {p q:Nat} (hp:p≤xP s) (hq:q < zI s):0≤base0 s t p q∧base0 s t p q≤1000:=by
  unfold base0
  have ht:=h.st
  by_cases h1:p < xP s
  · rw [if_pos h1]
    have hb:=ht.bagLen (k:=p) (by rw [ht.2.1];exact h1)
    exact hb.get (by rw [hb.len];exact hq)
  · rw [if_neg h1]
    exact (ht.around).2 q hq
theorem XE.chg (h:XE s t x) {i q:Nat} (hi:i < s.qB.length) (p:Nat) (hq:q < zI s): -1000≤chgF s t i p q∧chgF s t i p q≤10:=by
  have hn:=(h.sys.rule hi).2.2.2.2.1
  have h1:=hn.get (k:=q) (by rw [hn.len];exact hq)
  have h2:=putF_bd (t:=t) (M:=1) (D:=2) (c:=1) h.sys h.puts hi qf p q hq
  unfold chgF at'
  split <;> omega
theorem six_mul {a b:Int} (ha:0≤a∧a≤6) (hb: -1000≤b∧b≤10): -6000≤a * b∧a * b≤60:=by
  have h:a=0∨a=1∨a=2∨a=3∨a=4∨a=5∨a=6:=by omega
  rcases h with rfl | rfl | rfl | rfl | rfl | rfl | rfl <;> omega
theorem XE.mul (h:XE s t x) {i q:Nat} (hi:i < s.qB.length) (p:Nat) (hq:q < zI s): -6000≤x[i]! * chgF s t i p q∧x[i]! * chgF s t i p q≤60:=six_mul (h.bd hi) (h.chg hi p hq)
def TotIs (K:Nat) (l:yLI) (f:Nat→Int):Prop:=l.length=K∧∀ q,q < K→l[q]! =f q
def totC (s:qI) (t:qP) (x:yLI) (m n q:Nat):Int:=sumN (fun p=>dueC s t x m p q) n
theorem TotIs.zero (n:Nat):TotIs n (List.replicate n (0:Int)) (totC s t x 0 0):=⟨by simp,fun q hq=>by rw [getElem!_pos (List.replicate n (0:Int)) q (by simpa using hq)];simp [totC,sumN]⟩
theorem TotIs.to {K:Nat} {l:yLI} {f g:Nat→Int} (h:TotIs K l f) (e:∀ q,q < K→f q=g q):TotIs K l g:=⟨h.1,fun q hq=>(h.2 q hq).trans (e q hq)⟩
theorem TotIs.put {K:Nat} {l:yLI} {f g:Nat→Int} (h:TotIs K l f) {k:Nat} {v:Int} (hk:k < K) (e:∀ q,q < K→g q=if q=k then v else f q):TotIs K (l.set k v) g:=by
  refine ⟨by rw [List.length_set];exact h.1,fun q hq=>?_⟩
  have hl:=h.1
  rw [getset qf,e q hq]
  split
  · rfl
  · exact h.2 q hq
theorem down_none {counts:yLI} {u:qP} (h:∀ c,¬ Melts s counts c):∀ j,xu s counts u j=u
  | 0=>rfl
  | j+1=>by rw [V6 (h _) rfl];exact down_none h j
theorem XE.by (h:XE s t x):(byRes s t x).2=0∧xI s (byRes s t x).1∧(byRes s t x).1=xu s x (xw s t x) (xP s - 1):=by
  have e:byRes s t x=zl s t x:=by_ok (ask_0 ⟨h.sys,h.st⟩ h.cnt)
  have hn:=h.sys.1.2.1
  have hcn:xP s=s.qA.length:=rfl
  have hf:=step_fine h.sys h.st h.cnt h.ch h.few h.puts
  rw [e]
  refine ⟨hf,stepBy_ok hf,?_⟩
  rw [Xx h.ch]
  unfold stepRes
  rw [told_yes (down_ok h.sys h.st h.cnt h.ch h.few h.puts (xP s - 1) qf).1]
theorem XE.total (h:XE s t x) {l:yLI} (hl:TotIs (zI s) l (totC s t x s.qB.length (xP s+1))):allTo (byRes s t x).1 s.qA.length=l:=by
  have e:byRes s t x=zl s t x:=by_ok (ask_0 ⟨h.sys,h.st⟩ h.cnt)
  have hb:=step_total_ok h.sys h.st h.cnt h.ch h.few h.puts h.five
  rw [e]
  refine list_ext (K:=zI s) ?_ hl.1 fun q hq=>?_
  · have:=hb.len;exact this
  · rw [hl.2 q hq]
    exact step_total h.sys h.st h.cnt h.ch h.few h.puts hq
theorem XE.alive (h:XE s t x) {c:Nat} (hc:c < xP s):(byRes s t x).1.qG[c]! =(t.qG[c]! && !dec (Xf s x (c:Int) s.qB.length)):=by
  have e:byRes s t x=zl s t x:=by_ok (ask_0 ⟨h.sys,h.st⟩ h.cnt)
  rw [e]
  exact step_alive h.sys h.st h.cnt h.ch h.few h.puts hc
theorem XE.bag {e:TypeId} {l:List (OwnI e)} (h:XE s t x) (hd:DueIs (zI s) l (xP s+1) (dueC s t x s.qB.length)) (hm:∀ c,¬ Melts s x c) {c:Nat} (hc:c < xP s):(byRes s t x).1.qH[c]! =(l[c]!).l:=by
  rw [h.by.2.2,down_none hm,stepped_row hc]
  refine list_ext (K:=zI s) qm (hd.len qf) fun q hq=>?_
  rw [QN hq,hd.at' qf hq,step_due]
  rfl
theorem XE.rim {e:TypeId} {l:List (OwnI e)} (h:XE s t x) (hd:DueIs (zI s) l (xP s+1) (dueC s t x s.qB.length)):(byRes s t x).1.qF=(l[xP s]!).l:=by
  rw [h.by.2.2,Qh,stepped_around]
  refine list_ext (K:=zI s) qm (hd.len qf) fun q hq=>?_
  rw [QN hq,hd.at' qf hq,step_due]
  rfl
end
open Classical in
noncomputable def freeV (s:qI) (t:qP):Bool:=if Yf s t s.qA.length∧yU (xx s t s.qA.length) (xx s t s.qA.length).length=1 then !dec (Halted s t) else false
open Classical in
noncomputable def Xm (s:qI) (t:qP):Int:=if Yf s t s.qA.length then 0 else 3
theorem free_bad {s:qI} {t:qP} (h:¬ Yf s t s.qA.length):freeV s t=false∧Xm s t=3:=⟨by rw [freeV,if_neg (fun x=>h x.1)],by rw [Xm,if_neg h]⟩
theorem free_no {s:qI} {t:qP} (h1:((yU (xx s t s.qA.length) (xx s t s.qA.length).length:Nat):Int)≠1):freeV s t=false:=by rw [freeV,if_neg (fun x=>h1 (by rw [x.2];rfl))]
theorem free_yes {s:qI} {t:qP} (h:Yf s t s.qA.length) (h1:((yU (xx s t s.qA.length) (xx s t s.qA.length).length:Nat):Int)=1):freeV s t= !dec (Halted s t):=by
  have h2:yU (xx s t s.qA.length) (xx s t s.qA.length).length=1:=by omega
  rw [freeV,if_pos ⟨h,h2⟩]
theorem free_code {s:qI} {t:qP} (h:Yf s t s.qA.length):Xm s t=0:=by rw [Xm,if_pos h]
theorem halt_gt {s:qI} {t:qP}:decide (((appls s t).length:Int) > 0)= !dec (Halted s t):=by
  by_cases h:Halted s t
  · rw [yh h,XA.2 h];rfl
  · have h1:(appls s t).length≠0:=fun e=>h (XA.1 e)
    rw [xy h,decide_eq_true qf];rfl

open Classical in
noncomputable def cntN (s:qI) (t:qP):Int:=if Yf s t s.qA.length then ((yU (xx s t s.qA.length) (xx s t s.qA.length).length:Nat):Int) else 0
theorem cntN_yes {s:qI} {t:qP} (h:Yf s t s.qA.length):cntN s t=((yU (xx s t s.qA.length) (xx s t s.qA.length).length:Nat):Int):=if_pos h
theorem cntN_no {s:qI} {t:qP} (h:¬ Yf s t s.qA.length):cntN s t=0:=if_neg h
theorem free_c {s:qI} {t:qP} (h:Xm s t≠0):freeV s t=false:=(free_bad fun hg=>h (free_code hg)).1
theorem free_n {s:qI} {t:qP} (h:cntN s t≠1):freeV s t=false:=by
  by_cases hg:Yf s t s.qA.length
  · rw [cntN_yes hg] at h;exact free_no h
  · exact (free_bad hg).1
theorem free_ok {s:qI} {t:qP} (h:Xm s t=0) (h1:cntN s t=1):freeV s t=decide (((appls s t).length:Int) > 0):=by
  by_cases hg:Yf s t s.qA.length
  · rw [cntN_yes hg] at h1;rw [free_yes hg h1,halt_gt]
  · rw [cntN_no hg] at h1;cases h1
open Classical in
noncomputable def chgV (s:qI) (t:qP) (i:Int):yLL:=if EnOk s t (s.qB[i.toNat]!) then chgL s t (s.qB[i.toNat]!) else []
open Classical in
noncomputable def chgC (s:qI) (t:qP) (i:Int):Int:=if EnOk s t (s.qB[i.toNat]!) then 0 else 4
theorem chgV_yes {s:qI} {t:qP} {i:Int} (h:EnOk s t (s.qB[i.toNat]!)):chgV s t i=chgL s t (s.qB[i.toNat]!)∧chgC s t i=0:=⟨if_pos h,if_pos h⟩
theorem chgV_no {s:qI} {t:qP} {i:Int} (h:¬ EnOk s t (s.qB[i.toNat]!)):chgV s t i=[]∧chgC s t i=4:=⟨if_neg h,if_neg h⟩

structure Ye (s:qI) (t:qP):Prop where
  sys:zQ s
  st:xI s t
  few:FewM 6 s t
  puts:PutsD 2 s
section
variable {s : qI} {t : qP}
theorem Ye.ns (h:Ye s t):(yQ s t).2=0:=by rw [ns_fine h.sys h.st h.few h.puts]
theorem Ye.nsLen (h:Ye s t):(yQ s t).1.length≤(appls s t).length:=ns_len h.sys h.st h.few h.puts
theorem Ye.nsNone (h:Ye s t):((((yQ s t).1.length:Nat):Int) == 0)=dec (Halted s t):=by
  have h1:=ns_none h.sys h.st h.few h.puts
  by_cases hh:Halted s t
  · have h2:=XA.2 hh
    rw [yh hh,h1.2 (List.eq_nil_of_length_eq_zero h2)]
    rfl
  · rw [xy hh]
    refine beq_eq_false_iff_ne.2 fun e=>hh (XA.1 ?_)
    have h3:(yQ s t).1=[]:=List.eq_nil_of_length_eq_zero qf
    rw [h1.1 h3]
    rfl
theorem Ye.one (h:Ye s t) {i:Nat} (hi:i < s.qB.length):((ja s t (i:Int)).2 == 0)=decide ((i:Int)∈appls s t):=by
  have h1:=one_iff h.sys h.st h.few h.puts hi
  have h2:=appls_mem (s:=s) (t:=t) hi
  by_cases ha:Appl s t i
  · rw [h1.2 ha,decide_eq_true (h2.2 ha)];rfl
  · rw [decide_eq_false (fun x=>ha (h2.1 x))]
    exact beq_eq_false_iff_ne.2 fun e=>ha (h1.1 e)
theorem Ye.appl (h:Ye s t) {i:Nat} (hi:i < s.qB.length) (h0:(ja s t (i:Int)).2=0):Appl s t i:=(one_iff h.sys h.st h.few h.puts hi).1 h0
theorem Ye.chg (h:Ye s t) {i:Nat} (hi:i < s.qB.length) (h0:(ja s t (i:Int)).2=0):chgC s t (i:Int)=0:=(chgV_yes (i:=(i:Int)) (h.appl hi h0).1).2
theorem Ye.has (h:Ye s t) {i:Nat} (hi:i < s.qB.length) (h0:(ja s t (i:Int)).2=0):(ja s t (i:Int)).1∈(yQ s t).1:=ns_has h.sys h.st h.few h.puts hi (h.appl hi h0)
def RankTo (s:qI) (t:qP) (l:yLI) (m:Nat):Prop:=l.length=s.qA.length∧∀ c,c < l.length→(l[c]! < 0∨∃ j,j < m∧Appl s t j∧(s.qB[j]!).qN=(c:Int)∧l[c]! =(s.qB[j]!).vP)
theorem RankTo.start {l:yLI} (hl:l.length=s.qA.length) (h:∀ c,c < l.length→l[c]! = -1):RankTo s t l 0:=⟨hl,fun c hc=>.inl (by rw [h c hc];decide)⟩
theorem RankTo.skip {l:yLI} {m:Nat} (h:RankTo s t l m):RankTo s t l (m+1):=⟨h.1,fun c hc=>(h.2 c hc).imp id fun ⟨j,hj,h1⟩=>⟨j,by omega,h1⟩⟩
theorem RankTo.put {l:yLI} {m:Nat} (h:RankTo s t l m) (hs:zQ s) (hm:m < s.qB.length) (ha:Appl s t m):RankTo s t (l.set (s.qB[m]!).qN.toNat (s.qB[m]!).vP) (m+1):=by
  have hr:=hs.rule hm
  have hc0:=hr.1.1
  have hck:=hr.cell
  have hl:=h.1
  have hcn:xP s=s.qA.length:=rfl
  refine ⟨by rw [List.length_set];exact hl,fun c hc=>?_⟩
  rw [List.length_set] at hc
  rw [getset qf]
  by_cases e:c=(s.qB[m]!).qN.toNat
  · rw [if_pos e]
    exact .inr ⟨m,by omega,ha,by omega,rfl⟩
  · rw [if_neg e]
    exact (h.2 c hc).imp id fun ⟨j,hj,h1⟩=>⟨j,by omega,h1⟩
theorem RankTo.same {l:yLI} {m:Nat} (h:RankTo s t l m) (hs:zQ s) (hm:m < s.qB.length) (ha:Appl s t m) (h0:l[(s.qB[m]!).qN.toNat]! ≥0):l[(s.qB[m]!).qN.toNat]! =(s.qB[m]!).vP:=by
  have hr:=hs.rule hm
  have hc0:=hr.1.1
  have hck:=hr.cell
  have hl:=h.1
  have hcn:xP s=s.qA.length:=rfl
  rcases h.2 (s.qB[m]!).qN.toNat qf with h1 | ⟨j,hj,h1,h2,h3⟩
  · omega
  · rw [h3]
    exact appl_rank qf hm h1 ha qf
def Yb (l:List qP) (u:qP) (k:Nat):Prop:=∃ j,j < k∧l[j]! =u
theorem foundTo_0 (l:List qP) (u:qP):false=dec (Yb l u 0):=(xy fun ⟨j,hj,_⟩=>by omega).symm
theorem foundTo_on {l:List qP} {u:qP} {k:Nat} (h:dec (Yb l u k)=true):true=dec (Yb l u (k+1)):=by
  obtain ⟨j,hj,h1⟩:=Qq h
  exact (yh ⟨j,by omega,h1⟩).symm
theorem foundTo_step {l:List qP} {u:qP} {k:Nat} (h:dec (Yb l u k)=false):decide (l[k]! =u)=dec (Yb l u (k+1)):=dec_eq ⟨fun h1=>⟨k,by omega,of_decide_eq_true h1⟩,fun ⟨j,hj,h1⟩=>by
  by_cases e:j=k
  · subst e;exact decide_eq_true h1
  · exact absurd ⟨j,by omega,h1⟩ (ve h)⟩
theorem foundTo_mem {l:List qP} {u:qP} (h:u∈l):dec (Yb l u l.length)=true:=by
  obtain ⟨k,hk,he⟩:=List.mem_iff_getElem.1 h
  exact yh ⟨k,hk,by rw [getElem!_pos l k hk];exact he⟩
theorem Ye.nx (h:Ye s t) (h0:(QT s t).2=0):((((QT s t).1.length:Nat):Int) == 0)=dec (Halted s t):=by
  have h1:=nx_halt h.sys h.st h0
  by_cases hh:Halted s t
  · rw [yh hh,h1.2 hh];rfl
  · rw [xy hh]
    exact beq_eq_false_iff_ne.2 fun e=>hh (h1.1 (List.eq_nil_of_length_eq_zero qf))
theorem Ye.free (h:Ye s t) (h0:(QT s t).2=0) (h1:freeV s t=true):(QT s t).1.length=1∧¬ Halted s t:=by
  unfold freeV at h1
  split at h1
  · rename_i hg
    have hh:¬ Halted s t:=fun hx=>by rw [yh hx] at h1;cases h1
    refine ⟨nx_one h.sys h.st h0 hh ?_,hh⟩
    unfold vJ
    rw [if_neg (by simpa using hg.1),if_neg (by rw [hg.2];decide)]
    show (inOrder _).length=1
    rw [inOrder_len,Xy]
    exact hg.2
  · cases h1
end
theorem applAt_of {kk M:Int} {par:yLI} {rules:List jL} {alive:List Bool} {bags:yLL} {around:yLI} (hs:SysDr kk par rules) (ht:StDr kk par.length M alive bags around) (hM:M≤6):
    Ye ⟨kk,par,rules⟩ ⟨alive,bags,around⟩ where
  sys:=hs.ok
  st:=ht.ok hs qf
  few:=fun p q hp hq=>by
    have hq' :q < kk.toNat:=hq
    have hc:xP ⟨kk,par,rules⟩=par.length:=rfl
    unfold base0
    by_cases h1:p < xP ⟨kk,par,rules⟩
    · rw [if_pos h1]
      have hb:=(ht.bags p (by rw [ht.lb];omega)).1
      have:=(hb.2 q (by rw [hb.1];exact hq')).2
      show (bags[p]!)[q]! ≤6
      omega
    · rw [if_neg h1]
      have:=(ht.around.2 q (by rw [ht.around.1];exact hq')).2
      show around[q]! ≤6
      omega
  puts:=fun i hi q hq=>by
    have hq' :q < kk.toNat:=hq
    have r:=hs.rules i hi
    refine ⟨(r.here.2 q (by rw [r.here.1];exact hq')).2,(r.out.2 q (by rw [r.out.1];exact hq')).2,fun j hj=>?_⟩
    have hb:=(r.into j hj).2.2.1
    have:=(hb.2 q (by rw [hb.1];exact hq')).2
    show ((rules[i]!).qW[j]!).QP[q]! ≤2
    omega
end
end Go.Proofs.YtcpnclokildllaaGreat
